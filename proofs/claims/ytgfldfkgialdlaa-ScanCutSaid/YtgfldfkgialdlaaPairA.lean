/- pair.Put and the document's PutPair. -/
import Derived.Test.YtgfldfkgialdlaaProg
import Derived.Test.YtgfldfkgialdlaaOwn
import Derived.Test.YtgfldfkgialdlaaU8
namespace Go.Proofs.Ytgfldfkgialdlaa
set_option linter.unusedVariables false
set_option linter.unusedSimpArgs false
open Go.RowKit
theorem infoByte : (Try.prog.info? 5).map (fun i => (i.zero, i.size, i.bytes)) = some (some (.int .u8 0), 1, 1) := by kernel_rfl

/-- Bytes, each bit turned. -/
def compl (bs : List UInt8) : List UInt8 := bs.map fun b => ~~~b
theorem compl_snoc (bs : List UInt8) (k : Nat) (h : k < bs.length) : compl (bs.take (k + 1)) = compl (bs.take k) ++ [~~~(bs.getD k 0)] := by
  unfold compl
  rw [List.take_succ_eq_append_getElem h, List.map_append]
  simp [List.getD_eq_getElem?_getD, h]
/-- pair.Put. -/
def putP (s : ByteArray) : ByteArray × Int := if s.size = 32 then (str (s.data.toList ++ compl s.data.toList), 0) else (str [], 200)

theorem put_ok (s : ByteArray) (w : World) (hs : s.size = 32) :
    Calls Try.prog 33 #[.string s] w fun e w' => e = .returned (.tuple #[.string (str (s.data.toList ++ compl s.data.toList)), .int .i64 0]) ∧ Below w.heap.size w w' := by
  have kb := fun W => Lib.run_convert_string_bytes (P := Try.prog) W 9 43 5 s Try.underlying9 Try.underlying43 Try.underlying5
  go_enter Try.func33, Try.ntmps33
  go_wp2_with fail
  have hO := Own.bytes w s 5 (by omega)
  rw [hs] at hO
  have HO := Lib.hid hO
  have HL := Lib.hid (show s.data.toList.length = 32 by rw [data_len, hs])
  clear hO
  go_loopw [4, 13] (fun v i wr => ∃ k : Nat, k ≤ 32 ∧ i = .int .i64 k ∧ Own wr w.heap.size 5 1 v (32 + k) (byts (s.data.toList ++ compl (s.data.toList.take k))) ∧ Below w.heap.size w wr) (fun _ i _ => (32 - intOf i).toNat)
  case atStart => exact ⟨0, by omega, rfl, by simpa [compl] using HO.out, Bl.bytes (Below.refl _ _) _ _⟩
  case round =>
    obtain ⟨k, hk, rfl, ho, hb⟩ := hrel
    have HR := Lib.hid ho
    have HB := Lib.hid hb
    clear ho hb
    by_cases hlt : k < 32
    · have hz : w.heap.size ≤ wr.heap.size := HB.out.size
      have HG := Lib.hid (get_data s k (by omega))
      go_wp2_with (at_builtin; (refine appO w.heap.size rfl (.tmp 16) (.tmp 21) 43 5 (.int .u8 0) 1 1 rfl Try.underlying43 infoByte rfl (by decide) (by decide) u4 (32 + k) _ rfl _ 1 1 [.int .u8 (bits .xor .u8 (if IntKind.u8.signed = true then -1 else IntKind.u8.max) ((s[k]'(by omega)).toNat : Int))] rfl rfl (one1 rfl) (fun h => by simp at h) (box1 (by go_simp)) (HR.out.alloc _) (by simp; omega) (by omega) ?_); intro v1 w1 ho1 hg1 hat1; have HO1 := Lib.hid ho1; have HG1 := Lib.hid hg1; clear ho1 hg1 hat1)
      go_roundw
      case rel => exact ⟨k + 1, by omega, by go_num, by rw [compl_snoc _ _ (by rw [HL.out]; exact hlt), ← List.append_assoc, byts_append]; have h := HO1.out; rw [u8_not, HG.out] at h; exact h, (Bl.alloc HB.out _).grown HG1.out (by simp; omega) HR.out.base⟩
      case measure => simp [intOf]; omega
    · obtain rfl : k = 32 := by omega
      have kc := HR.out.string (P := Try.prog) Try.underlying43 Try.underlying5 Try.underlying9
      rw [List.take_of_length_le (by rw [HL.out]; exact Nat.le_refl _)] at kc
      go_wp2
      go_ret2
      exact ⟨rfl, HB.out⟩

theorem put_bad (s : ByteArray) (w : World) (hs : ¬ s.size = 32) :
    Calls Try.prog 33 #[.string s] w fun e w' => e = .returned (.tuple #[.string (str []), .int .i64 200]) ∧ Below w.heap.size w w' := by
  have hd : ((s.size : Int) != 32) = true := by simp; omega
  clear hs
  go_enter Try.func33, Try.ntmps33
  go_wp2
  go_ret2
  exact ⟨rfl, Below.refl _ _⟩

/-- pair.Put, whatever comes in. -/
theorem put_any (s : ByteArray) (w : World) :
    Calls Try.prog 33 #[.string s] w fun e w' => e = .returned (.tuple #[.string (putP s).1, .int .i64 (putP s).2]) ∧ Below w.heap.size w w' := by
  unfold putP
  by_cases hs : s.size = 32
  · rw [if_pos hs]
    exact put_ok s w hs
  · rw [if_neg hs]
    exact put_bad s w hs

/-- The first k bytes turned. -/
def half (bs : List UInt8) (k : Nat) : List UInt8 := compl (bs.take k) ++ bs.drop k
theorem half_at (bs : List UInt8) (k : Nat) (h : k < bs.length) : (half bs k).getD k 0 = bs.getD k 0 := by
  have h1 : (compl (bs.take k)).length = k := by simp [compl]; omega
  unfold half
  rw [List.getD_eq_getElem?_getD, List.getElem?_append_right (by omega), h1]
  simp [List.getD_eq_getElem?_getD]
theorem half_succ (bs : List UInt8) (k : Nat) (h : k < bs.length) : half bs (k + 1) = (half bs k).set k (~~~(bs.getD k 0)) := by
  have h1 : (compl (bs.take k)).length = k := by simp [compl]; omega
  unfold half
  rw [compl_snoc bs k h, List.set_append_right _ _ (by omega), h1, Nat.sub_self]
  rw [show bs.drop k = bs[k] :: bs.drop (k + 1) from List.drop_eq_getElem_cons h, List.set_cons_zero, List.append_assoc]
  rfl
theorem half_len (bs : List UInt8) (k : Nat) (h : k ≤ bs.length) : (half bs k).length = bs.length := by
  simp [half, compl]
  omega

theorem rput_ok (s : ByteArray) (w : World) (hs : s.size = 32) :
    Calls Try.prog 37 #[.string s] w fun e w' => e = .returned (.tuple #[.string (str (s.data.toList ++ compl s.data.toList)), .int .i64 0]) ∧ Below w.heap.size w w' := by
  have kb := fun W => Lib.run_convert_string_bytes (P := Try.prog) W 9 43 5 s Try.underlying9 Try.underlying43 Try.underlying5
  go_enter Try.func37, Try.ntmps37
  go_wp2_with fail
  have hO := Own.bytes w s 5 (by omega)
  rw [hs] at hO
  have HO := Lib.hid hO
  have HL := Lib.hid (show s.data.toList.length = 32 by rw [data_len, hs])
  obtain ⟨hc1, hc2⟩ := hO.caps
  clear hO
  generalize grownCap w 32 0 5 = cap at *
  go_loopw [5] (fun i wr => ∃ k : Nat, k ≤ 32 ∧ i = .int .i64 k ∧ Own wr w.heap.size 5 1 (.slice (some ⟨w.heap.size, 0, none⟩) 32 cap) 32 (byts (half s.data.toList k)) ∧ Below w.heap.size w wr) (fun i _ => (32 - intOf i).toNat)
  case atStart => exact ⟨0, by omega, rfl, by simpa [half, compl] using HO.out, Bl.bytes (Below.refl _ _) _ _⟩
  case round =>
    obtain ⟨k, hk, rfl, ho, hb⟩ := hrel
    have HR := Lib.hid ho
    have HB := Lib.hid hb
    clear ho hb
    by_cases hlt : k < 32
    · have g1 : wr.cell? ⟨w.heap.size, k, none⟩ = some (.int .u8 ((s.data.toList.getD k 0).toNat : Int)) := by rw [HR.out.at' (byts_at (by rw [half_len _ _ (by rw [HL.out]; omega), HL.out]; omega)), half_at _ _ (by rw [HL.out]; omega)]
      have g2 : wr.frozen? ⟨w.heap.size, k, none⟩ = false := HR.out.free (by omega)
      generalize hx : s.data.toList.getD k 0 = x at g1
      have HX := Lib.hid hx
      clear hx
      go_wp2
      go_roundw
      case rel =>
        refine ⟨k + 1, by omega, by go_num, ?_, HB.out.setCell (Nat.le_refl _) _⟩
        have h := (HR.out.stored k (.int .u8 (bits .xor .u8 (if IntKind.u8.signed = true then -1 else IntKind.u8.max) (x.toNat : Int)))).1
        rw [half_succ _ _ (by rw [HL.out]; omega), byts_set, HX.out]
        rw [u8_not] at h ⊢
        exact h
      case measure => simp [intOf]; omega
    · obtain rfl : k = 32 := by omega
      have kc := HR.out.string (P := Try.prog) Try.underlying43 Try.underlying5 Try.underlying9
      have hz : (str (half s.data.toList 32)).size = 32 := by rw [str_size, half_len _ _ (by rw [HL.out]; omega), HL.out]
      go_wp2
      go_ret2
      refine ⟨ret_str ?_, HB.out⟩
      rw [app_str]
      unfold half
      rw [List.drop_of_length_le (by rw [HL.out]; exact Nat.le_refl _), List.take_of_length_le (by rw [HL.out]; exact Nat.le_refl _), List.append_nil]

theorem rput_bad (s : ByteArray) (w : World) (hs : ¬ s.size = 32) :
    Calls Try.prog 37 #[.string s] w fun e w' => e = .returned (.tuple #[.string (str []), .int .i64 200]) ∧ Below w.heap.size w w' := by
  have hd : ((s.size : Int) != 32) = true := by simp; omega
  clear hs
  go_enter Try.func37, Try.ntmps37
  go_wp2
  go_ret2
  exact ⟨rfl, Below.refl _ _⟩
theorem rput_any (s : ByteArray) (w : World) :
    Calls Try.prog 37 #[.string s] w fun e w' => e = .returned (.tuple #[.string (putP s).1, .int .i64 (putP s).2]) ∧ Below w.heap.size w w' := by
  unfold putP
  by_cases hs : s.size = 32
  · rw [if_pos hs]
    exact rput_ok s w hs
  · rw [if_neg hs]
    exact rput_bad s w hs

/-! ### Get -/
/-- The first half. -/
def firstHalf (t : ByteArray) : ByteArray := t.extract 0 (min 32 t.size)
end Go.Proofs.Ytgfldfkgialdlaa
