/- pair.Get and the document's GetPair. -/
import Derived.Test.YtohjijhmlfhcnaaPairA
namespace Go.Proofs.Ytohjijhmlfhcnaa
set_option linter.unusedVariables false
set_option linter.unusedSimpArgs false
open Go.RowKit
theorem num_any (n : Int) (w : World) : Calls Try.prog 19 #[.int .i64 n] w fun e w' => e = .returned (.int .i64 n) ∧ w = w' := by
  go_enter Try.func19, Try.ntmps19
  go_wp2
  go_ret
  exact ⟨rfl, rfl⟩

def getP (t : ByteArray) : ByteArray × Int := if 32 ≤ t.size ∧ (putP (t.extract 0 32)).1 = t then (t.extract 0 32, 0) else (str [], 200)

theorem ext_size (t : ByteArray) (h : 32 ≤ t.size) : (t.extract 0 32).size = 32 := by rw [ByteArray.size_extract]; omega

theorem get_any (t : ByteArray) (w : World) :
    Calls Try.prog 17 #[.string t] w fun e w' => e = .returned (.tuple #[.string (getP t).1, .int .i64 (getP t).2]) ∧ Below w.heap.size w w' := by
  by_cases h : 32 ≤ t.size
  · obtain ⟨u, hu⟩ : ∃ u, putP (t.extract 0 32) = (u, 0) := ⟨_, by unfold putP; rw [if_pos (ext_size t h)]⟩
    have HU := Lib.hid hu
    by_cases he : u = t
    · have hb : (!u.toList == t.toList) = false := by rw [eq_tl he]; rfl
      have hg : getP t = (t.extract 0 32, 0) := by simp only [getP, hu, he, h, and_self, if_true]
      rw [hg]
      clear hu he hg
      go_enter Try.func17, Try.ntmps17
      go_wp2_with fail
      with_reducible refine (put_any _ _).mono ?_
      rw [HU.out]
      rintro e w1 ⟨rfl, hb⟩
      have HB := Lib.hid hb
      clear hb
      go_wp2_with fail
      go_ret2
      exact ⟨rfl, HB.out⟩
    · have hb : (!u.toList == t.toList) = true := by rw [ne_tl he]; rfl
      have hg : getP t = (str [], 200) := by unfold getP; rw [if_neg (by rw [hu]; exact fun x => he x.2)]
      rw [hg]
      clear hu he hg
      go_enter Try.func17, Try.ntmps17
      go_wp2_with fail
      with_reducible refine (put_any _ _).mono ?_
      rw [HU.out]
      rintro e w1 ⟨rfl, hb⟩
      have HB := Lib.hid hb
      clear hb
      go_wp2_with fail
      go_ret2
      exact ⟨rfl, HB.out⟩
  · have hg : getP t = (str [], 200) := by unfold getP; rw [if_neg (fun x => h x.1)]
    have hu : putP t = (str [], 200) := by unfold putP; rw [if_neg (by omega)]
    have HU := Lib.hid hu
    rw [hg]
    clear hg hu
    go_enter Try.func17, Try.ntmps17
    go_wp2_with fail
    with_reducible refine (put_any _ _).mono ?_
    rw [HU.out]
    rintro e w1 ⟨rfl, hb⟩
    have HB := Lib.hid hb
    clear hb
    go_wp2_with fail
    go_ret2
    exact ⟨rfl, HB.out⟩

theorem putP_size (s u : ByteArray) (h : putP s = (u, 0)) : u.size = 64 := by
  unfold putP at h
  split at h
  · rename_i hs
    obtain ⟨rfl, _⟩ := Prod.mk.inj h
    have := data_len s
    rw [str_size, List.length_append, compl, List.length_map]
    omega
  · have := (Prod.mk.inj h).2
    simp at this

theorem rget_any (t : ByteArray) (w : World) :
    Calls Try.prog 18 #[.string t] w fun e w' => e = .returned (.tuple #[.string (getP t).1, .int .i64 (getP t).2]) ∧ Below w.heap.size w w' := by
  by_cases h : t.size = 64
  · obtain ⟨u, hu⟩ : ∃ u, putP (t.extract 0 32) = (u, 0) := ⟨_, by unfold putP; rw [if_pos (ext_size t (by omega))]⟩
    have HU := Lib.hid hu
    by_cases he : u = t
    · have hb : (!u.toList == t.toList) = false := by rw [eq_tl he]; rfl
      have hg : getP t = (t.extract 0 32, 0) := by unfold getP; rw [hu, if_pos ⟨by omega, he⟩]
      rw [hg]
      clear hu he hg
      go_enter Try.func18, Try.ntmps18
      go_wp2_with fail
      with_reducible refine (rput_any _ _).mono ?_
      rw [HU.out]
      rintro e w1 ⟨rfl, hb⟩
      have HB := Lib.hid hb
      clear hb
      go_wp2_with fail
      go_ret2
      exact ⟨rfl, HB.out⟩
    · have hb : (!u.toList == t.toList) = true := by rw [ne_tl he]; rfl
      have hg : getP t = (str [], 200) := by unfold getP; rw [if_neg (by rw [hu]; exact fun x => he x.2)]
      rw [hg]
      clear hu he hg
      go_enter Try.func18, Try.ntmps18
      go_wp2_with fail
      with_reducible refine (rput_any _ _).mono ?_
      rw [HU.out]
      rintro e w1 ⟨rfl, hb⟩
      have HB := Lib.hid hb
      clear hb
      go_wp2_with fail
      go_ret2
      exact ⟨rfl, HB.out⟩
  · have hd : ((t.size : Int) != 64) = true := by simp; omega
    have hg : getP t = (str [], 200) := by
      unfold getP
      split
      · rename_i hx
        obtain ⟨u, hu⟩ : ∃ u, putP (t.extract 0 32) = (u, 0) := ⟨_, by unfold putP; rw [if_pos (ext_size t hx.1)]⟩
        have h2 := putP_size _ _ hu
        rw [hu] at hx
        have h3 : u = t := hx.2
        rw [h3] at h2
        exact absurd h2 h
      · rfl
    rw [hg]
    clear hg h
    go_enter Try.func18, Try.ntmps18
    go_wp2
    go_ret2
    exact ⟨rfl, Below.refl _ _⟩

/-- So many bytes from a text, over and over. -/
def textL (bs : List UInt8) (k : Nat) : List UInt8 := (List.range k).map fun i => bs.getD (i % bs.length) 0
theorem textL_len (bs : List UInt8) (k : Nat) : (textL bs k).length = k := by simp [textL]
def fillL (bs : List UInt8) (k j : Nat) : List UInt8 := textL bs j ++ List.replicate (k - j) 0
theorem fillL_len (bs : List UInt8) (k j : Nat) (h : j ≤ k) : (fillL bs k j).length = k := by simp [fillL, textL]; omega
theorem fillL_zero (bs : List UInt8) (k : Nat) : fillL bs k 0 = List.replicate k 0 := by simp [fillL, textL]
theorem fillL_all (bs : List UInt8) (k : Nat) : fillL bs k k = textL bs k := by simp [fillL]
theorem fillL_nil (k j : Nat) (h : j ≤ k) : fillL [] k j = List.replicate k 0 := by
  have e : textL [] j = List.replicate j 0 := by
    unfold textL
    apply List.ext_getElem
    · simp
    · intro i h1 h2
      simp
  rw [fillL, e, List.replicate_append_replicate]
  congr 1
  omega
theorem fillL_succ (bs : List UInt8) (k j : Nat) (h : j < k) : fillL bs k (j + 1) = (fillL bs k j).set j (bs.getD (j % bs.length) 0) := by
  unfold fillL
  rw [List.set_append_right _ _ (by rw [textL_len]; exact Nat.le_refl _), textL_len, Nat.sub_self]
  have e : List.replicate (k - j) (0 : UInt8) = 0 :: List.replicate (k - (j + 1)) 0 := by
    rw [← List.replicate_succ]
    congr 1
    omega
  rw [e, List.set_cons_zero]
  simp [textL, List.range_succ]

theorem text_any (s : ByteArray) (k : Nat) (w : World) (hk : k ≤ 1000000) :
    Calls Try.prog 21 #[.string s, .int .i64 k] w fun e w' => e = .returned (.string (str (textL s.data.toList k))) ∧ Below w.heap.size w w' := by
  have HL := Lib.hid (data_len s)
  obtain ⟨i0, hi, hz0, hz1, hz2⟩ := info_parts infoByte
  have I1 := Lib.hid hi
  have I2 := Lib.hid hz0
  have I3 := Lib.hid hz1
  have I4 := Lib.hid hz2
  clear hi hz0 hz1 hz2
  go_enter Try.func21, Try.ntmps21
  go_wp2_with (at_make; refine wpList_make_full _ rfl _ _ 31 rfl w.heap.size 5 i0 (.int .u8 0) 1 Try.underlying31 I1.out I2.out I3.out .i64 .i64 (k : Int) (k : Int) k rfl rfl rfl rfl (by rw [I4.out]; omega) (by simp only [maxLen]; omega) (Nat.le_refl _) ?_; intro w1 ho hg; have HO := Lib.hid (Own.of ho); have HG := Lib.hid hg; clear ho hg)
  have hst : w1.heap.size ≥ w.heap.size := HG.out.size
  go_loopw [6] (fun i wr => ∃ j : Nat, j ≤ k ∧ i = .int .i64 j ∧ Own wr w.heap.size 5 1 (.slice (some ⟨w.heap.size, 0, none⟩) k k) k (byts (fillL s.data.toList k j)) ∧ Below w.heap.size w wr) (fun i _ => (k - intOf i).toNat)
  case atStart =>
    refine ⟨0, by omega, rfl, ?_, ⟨HG.out.os, HG.out.tape, HG.out.output, HG.out.size, fun i hi => HG.out.block i hi (by simp)⟩⟩
    have h := HO.out
    rw [fillL_zero]
    have e : byts (List.replicate k 0) = (madeCells (Value.cells (.int .u8 0)) (k * 1)).toList := by
      apply List.ext_getElem
      · simp [byts, madeCells]
      · intro i h1 h2
        simp [byts, madeCells, Value.cells, Nat.mod_one]
    rw [e]
    exact h
  case round =>
    obtain ⟨j, hj, rfl, ho, hb⟩ := hrel
    have HR := Lib.hid ho
    have HB := Lib.hid hb
    clear ho hb
    by_cases hlt : j < k ∧ 0 < s.size
    · obtain ⟨h1, h2⟩ := hlt
      have d1 : decide (j < k) = true := by simp [h1]
      have g1 : wr.cell? ⟨w.heap.size, j, none⟩ = some (.int .u8 (((fillL s.data.toList k j).getD j 0).toNat : Int)) := HR.out.at' (byts_at (by rw [fillL_len _ _ _ (by omega)]; omega))
      have g2 : wr.frozen? ⟨w.heap.size, j, none⟩ = false := HR.out.free (by omega)
      generalize (fillL s.data.toList k j).getD j 0 = x at g1
      have hm : j % s.size < s.size := Nat.mod_lt _ h2
      have GD := Lib.hid (get_data s (j % s.size) hm)
      go_wp2
      go_roundw
      case rel =>
        refine ⟨j + 1, by omega, by go_num, ?_, HB.out.setCell (Nat.le_refl _) _⟩
        have h := (HR.out.stored j (.int .u8 ((s[j % s.size]'hm).toNat : Int))).1
        rw [fillL_succ _ _ _ (by omega), byts_set, HL.out, ← GD.out]
        exact h
      case measure => simp [intOf]; omega
    · have HE := Lib.hid (show fillL s.data.toList k j = textL s.data.toList k by
        rcases Nat.eq_zero_or_pos s.size with h0 | h0
        · have e : s.data.toList = [] := List.eq_nil_of_length_eq_zero (by rw [HL.out]; exact h0)
          rw [e, fillL_nil k j (by omega), ← fillL_nil k k (by omega), fillL_all]
        · rw [show j = k by omega, fillL_all])
      have kc := HR.out.string (P := Try.prog) Try.underlying31 Try.underlying5 Try.underlying9
      rw [HE.out] at kc
      by_cases h1 : j < k
      · have h2 : s.size = 0 := by omega
        have d1 : decide (j < k) = true := by simp [h1]
        clear hlt
        go_wp2
        go_ret
        exact ⟨rfl, HB.out⟩
      · have d1 : decide (j < k) = false := by simp [h1]
        clear hlt
        go_wp2
        go_ret
        exact ⟨rfl, HB.out⟩
end Go.Proofs.Ytohjijhmlfhcnaa
