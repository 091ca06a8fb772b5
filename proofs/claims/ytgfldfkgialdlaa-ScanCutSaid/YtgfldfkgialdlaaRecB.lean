/- rec: a text with bytes 0 behind. -/
import Derived.Test.YtgfldfkgialdlaaRecA
import Derived.Test.YtgfldfkgialdlaaShelf
namespace Go.Proofs.Ytgfldfkgialdlaa
set_option linter.unusedVariables false
set_option linter.unusedSimpArgs false
open Go.RowKit
theorem repeat_one0 (x : UInt8) (n : Nat) : Lib.repeatL [x] n = List.replicate n x := by
  induction n with
  | zero => rfl
  | succ n ih => rw [Lib.repeatL, ih, List.replicate_succ]; rfl
theorem rep0 (c : Nat) (hc : c ≤ 1000) (w : World) : Calls Try.prog 51 #[.string ⟨#[0]⟩, .int .i64 c] w fun e w' => e = .returned (.string (str (List.replicate c 0))) ∧ Below w.heap.size w w' := by
  have h := Try.strings_Repeat ⟨#[0]⟩ c w (by omega) (by show 1 * c ≤ _; omega)
  have e : (⟨(Lib.repeatL [(0 : UInt8)] c).toArray⟩ : ByteArray) = str (List.replicate c 0) := by rw [repeat_one0]; rfl
  rw [← e]
  exact h
def padB (s : ByteArray) (n : Nat) : ByteArray := str (padL s.data.toList n)
theorem padB_app (s : ByteArray) (n : Nat) : s ++ str (List.replicate (n - s.size) 0) = padB s n := by
  rw [app_str, padB, padL, data_len]
theorem pad_any (s : ByteArray) (n : Nat) (h : s.size ≤ n) (hn : n ≤ 1000) (w : World) : Calls Try.prog 34 #[.string s, .int .i64 (n : Int)] w fun e w' => e = .returned (.string (padB s n)) ∧ Below w.heap.size w w' := by
  obtain ⟨c, hc⟩ : ∃ c : Nat, n - s.size = c := ⟨_, rfl⟩
  have hd : (n : Int) - (s.size : Int) = (c : Int) := by omega
  obtain ⟨z, hz⟩ : ∃ z, str (List.replicate c 0) = z := ⟨_, rfl⟩
  have HZ := Lib.hid hz
  have HP := padB_app s n
  rw [hc, hz] at HP
  replace HP := Lib.hid HP
  have zs : z.size = c := by rw [← hz, str_size, List.length_replicate]
  have hs2 : (s.size : Int) ≤ 1000 := by omega
  clear hz
  have hc2 : c ≤ 1000 := by omega
  have hn2 : (n : Int) ≤ 1000 := by omega
  clear hc
  go_enter Try.func34, Try.ntmps34
  go_wp2_with fail
  with_reducible refine (rep0 c hc2 _).mono ?_
  rw [HZ.out]
  rintro e w1 ⟨rfl, hb⟩
  have B1 := Lib.hid hb
  clear hb
  go_wp2_with fail
  go_ret
  exact ⟨by show Ending.returned (.string (s ++ z)) = _; rw [HP.out], B1.out⟩
theorem made0 {w : World} {B c : Nat} {z : ByteArray} {v : Value} (h : w.ownsRow B 5 1 v c (madeCells (Value.cells (.int .u8 0)) (c * 1)).toList) (hz : str (List.replicate c 0) = z) : (convert 43 9 v).run Try.prog w = .ok (.string z) w := by
  have h2 : Own w B 5 1 v c (byts (List.replicate c 0)) := by
    rw [byts_madeS]
    exact Own.of h
  rw [← hz]
  exact h2.string Try.underlying43 Try.underlying5 Try.underlying9
theorem rpad_any (s : ByteArray) (n : Nat) (h : s.size ≤ n) (hn : n ≤ 1000) (w : World) : Calls Try.prog 36 #[.string s, .int .i64 (n : Int)] w fun e w' => e = .returned (.string (padB s n)) ∧ Below w.heap.size w w' := by
  obtain ⟨c, hc⟩ : ∃ c : Nat, n - s.size = c := ⟨_, rfl⟩
  have hd : (n : Int) - (s.size : Int) = (c : Int) := by omega
  obtain ⟨z, hz⟩ : ∃ z, str (List.replicate c 0) = z := ⟨_, rfl⟩
  have HZ := Lib.hid hz
  have HP := padB_app s n
  rw [hc, hz] at HP
  replace HP := Lib.hid HP
  have zs : z.size = c := by rw [← hz, str_size, List.length_replicate]
  have hs2 : (s.size : Int) ≤ 1000 := by omega
  clear hz
  have hc2 : c ≤ 1000 := by omega
  have hn2 : (n : Int) ≤ 1000 := by omega
  clear hc
  obtain ⟨i0, hi, hz0, hz1, hz2⟩ := info_parts infoByteS
  have I1 := Lib.hid hi
  have I2 := Lib.hid hz0
  have I3 := Lib.hid hz1
  have I4 := Lib.hid hz2
  clear hi hz0 hz1 hz2
  go_enter Try.func36, Try.ntmps36
  go_wp2_with (at_make; refine wpList_make_full _ rfl _ _ 43 rfl w.heap.size 5 i0 (.int .u8 0) 1 Try.underlying43 I1.out I2.out I3.out .i64 .i64 (c : Int) (c : Int) c rfl rfl rfl rfl (by rw [I4.out]; omega) (by simp only [maxLen]; omega) (Nat.le_refl _) ?_; intro w1 ho hg; have HG := Lib.hid hg; have kc := made0 ho HZ.out; clear ho hg)
  go_ret
  exact ⟨by show Ending.returned (.string (s ++ z)) = _; rw [HP.out], ⟨HG.out.os, HG.out.tape, HG.out.output, HG.out.size, fun i hi => HG.out.block i hi (by simp)⟩⟩
theorem pad10 (s : ByteArray) (h : s.size ≤ 10) (w : World) : Calls Try.prog 34 #[.string s, .int .i64 10] w fun e w' => e = .returned (.string (padB s 10)) ∧ Below w.heap.size w w' := pad_any s 10 h (by decide) w
theorem pad32 (s : ByteArray) (h : s.size ≤ 32) (w : World) : Calls Try.prog 34 #[.string s, .int .i64 32] w fun e w' => e = .returned (.string (padB s 32)) ∧ Below w.heap.size w w' := pad_any s 32 h (by decide) w
theorem rpad10 (s : ByteArray) (h : s.size ≤ 10) (w : World) : Calls Try.prog 36 #[.string s, .int .i64 10] w fun e w' => e = .returned (.string (padB s 10)) ∧ Below w.heap.size w w' := rpad_any s 10 h (by decide) w
theorem rpad32 (s : ByteArray) (h : s.size ≤ 32) (w : World) : Calls Try.prog 36 #[.string s, .int .i64 32] w fun e w' => e = .returned (.string (padB s 32)) ∧ Below w.heap.size w w' := rpad_any s 32 h (by decide) w
end Go.Proofs.Ytgfldfkgialdlaa
