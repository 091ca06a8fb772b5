/- cell.masked, the two literals that turn a byte. -/
import Derived.Test.YtohjijhmlfhcnaaProg
import Derived.Test.YtohjijhmlfhcnaaOwn
import Derived.Test.YtohjijhmlfhcnaaU8
namespace Go.Proofs.Ytohjijhmlfhcnaa
set_option linter.unusedVariables false
set_option linter.unusedSimpArgs false
open Go.RowKit

/-- A mask's byte, over and over. -/
def maskB (m : List UInt8) (i : Nat) : UInt8 := m.getD (i % m.length) 0


theorem masked_nil (m : ByteArray) (i : Nat) (w : World) (h0 : m.size = 0) :
    Calls Try.prog 39 #[.string m, .int .i64 i] w fun e w' => e = .returned (.int .u8 ((maskB m.data.toList i).toNat : Int)) ∧ w = w' := by
  have h := data_len m
  obtain rfl : m = str [] := ext_str (by rw [List.eq_nil_of_length_eq_zero (by omega : m.data.toList.length = 0)]; rfl)
  have e1 : (str []).toList = [] := by rw [ByteArray.toList_eq]; rfl
  have e2 : maskB (str []).data.toList i = 0 := by simp [str, maskB]
  rw [e2]
  clear h h0 e2
  go_enter Try.func39, Try.ntmps39
  go_wp2
  go_ret
  exact ⟨rfl, rfl⟩

theorem masked_some (m : ByteArray) (i : Nat) (w : World) (h0 : 0 < m.size) (hi : i ≤ 1000000) :
    Calls Try.prog 39 #[.string m, .int .i64 i] w fun e w' => e = .returned (.int .u8 ((maskB m.data.toList i).toNat : Int)) ∧ w = w' := by
  have hm : i % m.size < m.size := Nat.mod_lt _ h0
  have hg := get_data m (i % m.size) hm
  have e2 : maskB m.data.toList i = m[i % m.size] := by rw [hg, maskB, data_len]
  have he : m.toList.isEmpty = false := by
    rw [ByteArray.toList_eq, List.isEmpty_eq_false_iff]
    intro e
    have := data_len m
    rw [e] at this
    simp at this
    omega
  rw [e2]
  clear hg e2
  go_enter Try.func39, Try.ntmps39
  go_wp2
  go_ret
  exact ⟨rfl, rfl⟩

theorem masked_any (m : ByteArray) (i : Nat) (w : World) (hi : i ≤ 1000000) :
    Calls Try.prog 39 #[.string m, .int .i64 i] w fun e w' => e = .returned (.int .u8 ((maskB m.data.toList i).toNat : Int)) ∧ w = w' := by
  by_cases h0 : m.size = 0
  · exact masked_nil m i w h0
  · exact masked_some m i w (by omega) hi

/-- What a program does to a byte. -/
def progF (d m : List UInt8) (i : Nat) (b : UInt8) : UInt8 := b &&& ~~~(maskB m i &&& ~~~(d.getD i 0))
/-- What an erase does to a byte. -/
def erasF (m : List UInt8) (i : Nat) (b : UInt8) : UInt8 := b ||| maskB m i

theorem clos_prog (i : Nat) (b : UInt8) (pm pd : Nat) (m d : ByteArray) (W : World) (hm : W.cell? ⟨pm, 0, none⟩ = some (.string m)) (hd : W.cell? ⟨pd, 0, none⟩ = some (.string d)) (hi : i < d.size) (hi2 : i ≤ 1000000) :
    Calls Try.prog 38 #[.int .i64 i, .int .u8 (b.toNat : Int), .pointer (some ⟨pm, 0, none⟩), .pointer (some ⟨pd, 0, none⟩)] W fun e w' => e = .returned (.int .u8 ((progF d.data.toList m.data.toList i b).toNat : Int)) ∧ ∃ q, w' = W.drewN q := by
  have HG := Lib.hid (get_data d i hi)
  have hj : (i : Int) < (d.size : Int) := by omega
  have HK := Lib.hid (show ∀ w : World, Calls Try.prog 39 #[.string m, .int .i64 i] w fun e w' => e = .returned (.int .u8 ((maskB m.data.toList i).toNat : Int)) ∧ w' = w from fun w => (masked_any m i w hi2).mono fun e w' h => ⟨h.1, h.2.symm⟩)
  generalize hx : maskB m.data.toList i = x at HK
  have HX := Lib.hid hx
  clear hx
  go_enter Try.func38, Try.ntmps38
  go_wp2_with fail
  go_quiet ((go_at_call 39; exact Calls.quiet_of_same (HK.out _)))
  go_wp2
  go_ret
  refine ⟨?_, _, by first | rfl | exact World.drewN_drewN ..⟩
  unfold progF
  rw [HX.out, ← HG.out, ← u8_andNot, ← u8_andNot]
  rfl

theorem clos_eras (i : Nat) (b : UInt8) (pm : Nat) (m : ByteArray) (W : World) (hm : W.cell? ⟨pm, 0, none⟩ = some (.string m)) (hi2 : i ≤ 1000000) :
    Calls Try.prog 41 #[.int .i64 i, .int .u8 (b.toNat : Int), .pointer (some ⟨pm, 0, none⟩)] W fun e w' => e = .returned (.int .u8 ((erasF m.data.toList i b).toNat : Int)) ∧ ∃ q, w' = W.drewN q := by
  have hu := u8_or b (maskB m.data.toList i)
  unfold erasF
  rw [← hu]
  clear hu
  go_enter Try.func41, Try.ntmps41
  go_wp2_with (go_at_call 39; refine (masked_any m i _ hi2).mono ?_; rintro e w' ⟨rfl, rfl⟩)
  go_ret
  exact ⟨rfl, 0, rfl⟩

/-- Some bytes turned, one behind the other. -/
def turnN (a : List UInt8) (at_ : Nat) (f : Nat → UInt8 → UInt8) : Nat → List UInt8
  | 0 => a
  | i + 1 => (turnN a at_ f i).set (at_ + i) (f i ((turnN a at_ f i).getD (at_ + i) 0))
theorem turnN_len (a : List UInt8) (at_ : Nat) (f : Nat → UInt8 → UInt8) (n : Nat) : (turnN a at_ f n).length = a.length := by
  induction n with
  | zero => rfl
  | succ n ih => simp [turnN, ih]
theorem turnN_get (a : List UInt8) (at_ : Nat) (f : Nat → UInt8 → UInt8) (n : Nat) (h : at_ + n ≤ a.length) (j : Nat) :
    (turnN a at_ f n).getD j 0 = if at_ ≤ j ∧ j < at_ + n then f (j - at_) (a.getD j 0) else a.getD j 0 := by
  induction n with
  | zero => rw [turnN, if_neg (by omega)]
  | succ n ih =>
    have ih' := ih (by omega)
    have hl := turnN_len a at_ f n
    rw [turnN, List.getD_eq_getElem?_getD, List.getElem?_set]
    by_cases e : at_ + n = j
    · subst e
      rw [if_pos rfl, if_pos (by omega), if_pos (by omega), Option.getD_some]
      have h2 : (turnN a at_ f n).getD (at_ + n) 0 = a.getD (at_ + n) 0 := by
        have h3 : ∀ j, at_ + n ≤ j → (turnN a at_ f n).getD j 0 = a.getD j 0 := by
          intro j hj
          clear ih ih' h hl
          induction n with
          | zero => rfl
          | succ n ihn =>
            rw [turnN, List.getD_eq_getElem?_getD, List.getElem?_set, if_neg (by omega), ← List.getD_eq_getElem?_getD]
            exact ihn (by omega)
        exact h3 _ (Nat.le_refl _)
      rw [h2, show at_ + n - at_ = n by omega]
    · rw [if_neg e, ← List.getD_eq_getElem?_getD, ih']
      by_cases c : at_ ≤ j ∧ j < at_ + n
      · rw [if_pos c, if_pos (by omega)]
      · rw [if_neg c, if_neg (by omega)]

theorem turned_prog (a : ByteArray) (at_ n : Nat) (pm pd : Nat) (m d : ByteArray) (w : World) (hm : w.cell? ⟨pm, 0, none⟩ = some (.string m)) (hd : w.cell? ⟨pd, 0, none⟩ = some (.string d)) (hdn : n ≤ d.size) (ha : a.size ≤ 1000000) (hn : at_ + n ≤ a.size) :
    Calls Try.prog 37 #[.string a, .int .i64 at_, .int .i64 n, .func (.func 38) #[] #[.pointer (some ⟨pm, 0, none⟩), .pointer (some ⟨pd, 0, none⟩)]] w fun e w' => e = .returned (.string (str (turnN a.data.toList at_ (progF d.data.toList m.data.toList) n))) ∧ Below w.heap.size w w' := by
  have kb := fun W => Lib.run_convert_string_bytes (P := Try.prog) W 9 31 5 a Try.underlying9 Try.underlying31 Try.underlying5
  have HM := Lib.hid hm
  have HD := Lib.hid hd
  clear hm hd
  go_enter Try.func37, Try.ntmps37
  go_wp2_with fail
  have hO := Own.bytes w a 5 (by omega)
  have HL := Lib.hid (data_len a)
  obtain ⟨hc1, hc2⟩ := hO.caps
  generalize grownCap w a.size 0 5 = cap at *
  have HO := Lib.hid hO
  clear hO
  go_loopw [14] (fun i wr => ∃ k : Nat, k ≤ n ∧ i = .int .i64 k ∧ Own wr w.heap.size 5 1 (.slice (some ⟨w.heap.size, 0, none⟩) a.size cap) a.size (byts (turnN a.data.toList at_ (progF d.data.toList m.data.toList) k)) ∧ Below w.heap.size w wr) (fun i _ => (n - intOf i).toNat)
  case atStart => exact ⟨0, by omega, rfl, HO.out, Bl.bytes (Below.refl _ _) _ _⟩
  case round =>
    obtain ⟨k, hk, rfl, ho, hb⟩ := hrel
    have HR := Lib.hid ho
    have HB := Lib.hid hb
    clear ho hb
    by_cases hlt : k < n
    · have hT := turnN_len a.data.toList at_ (progF d.data.toList m.data.toList) k
      have g1 : wr.cell? ⟨w.heap.size, at_ + k, none⟩ = some (.int .u8 (((turnN a.data.toList at_ (progF d.data.toList m.data.toList) k).getD (at_ + k) 0).toNat : Int)) := HR.out.at' (byts_at (by rw [hT, HL.out]; omega))
      have g2 : wr.frozen? ⟨w.heap.size, at_ + k, none⟩ = false := HR.out.free (by omega)
      have hk1 : (k : Int) < (n : Int) := by omega
      clear hT
      generalize hx : (turnN a.data.toList at_ (progF d.data.toList m.data.toList) k).getD (at_ + k) 0 = x at g1
      have HX := Lib.hid hx
      clear hx
      go_wp2_with (go_at_call 38; refine (clos_prog k x pm pd m d _ ((HB.out.cell (World.block_lt_of_cell? _ _ HM.out)).trans HM.out) ((HB.out.cell (World.block_lt_of_cell? _ _ HD.out)).trans HD.out) (by omega) (by omega)).mono ?_; rintro e w' ⟨rfl, q, rfl⟩)
      go_roundw
      case rel =>
        refine ⟨k + 1, by omega, by go_num, ?_, ?_⟩
        · rw [turnN, HX.out, byts_set]
          exact (HR.out.stored (at_ + k) _).1
        · exact Bl.drewN (HB.out.setCell (Nat.le_refl _) _) _
      case measure => simp [intOf]; omega
    · obtain rfl : k = n := by omega
      have kc := HR.out.string (P := Try.prog) Try.underlying31 Try.underlying5 Try.underlying9
      go_wp2
      go_ret
      exact ⟨rfl, HB.out⟩

theorem turned_eras (a : ByteArray) (at_ n : Nat) (pm : Nat) (m : ByteArray) (w : World) (hm : w.cell? ⟨pm, 0, none⟩ = some (.string m)) (ha : a.size ≤ 1000000) (hn : at_ + n ≤ a.size) :
    Calls Try.prog 37 #[.string a, .int .i64 at_, .int .i64 n, .func (.func 41) #[] #[.pointer (some ⟨pm, 0, none⟩)]] w fun e w' => e = .returned (.string (str (turnN a.data.toList at_ (erasF m.data.toList) n))) ∧ Below w.heap.size w w' := by
  have kb := fun W => Lib.run_convert_string_bytes (P := Try.prog) W 9 31 5 a Try.underlying9 Try.underlying31 Try.underlying5
  have HM := Lib.hid hm

  clear hm
  go_enter Try.func37, Try.ntmps37
  go_wp2_with fail
  have hO := Own.bytes w a 5 (by omega)
  have HL := Lib.hid (data_len a)
  obtain ⟨hc1, hc2⟩ := hO.caps
  generalize grownCap w a.size 0 5 = cap at *
  have HO := Lib.hid hO
  clear hO
  go_loopw [14] (fun i wr => ∃ k : Nat, k ≤ n ∧ i = .int .i64 k ∧ Own wr w.heap.size 5 1 (.slice (some ⟨w.heap.size, 0, none⟩) a.size cap) a.size (byts (turnN a.data.toList at_ (erasF m.data.toList) k)) ∧ Below w.heap.size w wr) (fun i _ => (n - intOf i).toNat)
  case atStart => exact ⟨0, by omega, rfl, HO.out, Bl.bytes (Below.refl _ _) _ _⟩
  case round =>
    obtain ⟨k, hk, rfl, ho, hb⟩ := hrel
    have HR := Lib.hid ho
    have HB := Lib.hid hb
    clear ho hb
    by_cases hlt : k < n
    · have hT := turnN_len a.data.toList at_ (erasF m.data.toList) k
      have g1 : wr.cell? ⟨w.heap.size, at_ + k, none⟩ = some (.int .u8 (((turnN a.data.toList at_ (erasF m.data.toList) k).getD (at_ + k) 0).toNat : Int)) := HR.out.at' (byts_at (by rw [hT, HL.out]; omega))
      have g2 : wr.frozen? ⟨w.heap.size, at_ + k, none⟩ = false := HR.out.free (by omega)
      have hk1 : (k : Int) < (n : Int) := by omega
      clear hT
      generalize hx : (turnN a.data.toList at_ (erasF m.data.toList) k).getD (at_ + k) 0 = x at g1
      have HX := Lib.hid hx
      clear hx
      go_wp2_with (go_at_call 41; refine (clos_eras k x pm m _ ((HB.out.cell (World.block_lt_of_cell? _ _ HM.out)).trans HM.out) (by omega)).mono ?_; rintro e w' ⟨rfl, q, rfl⟩)
      go_roundw
      case rel =>
        refine ⟨k + 1, by omega, by go_num, ?_, ?_⟩
        · rw [turnN, HX.out, byts_set]
          exact (HR.out.stored (at_ + k) _).1
        · exact Bl.drewN (HB.out.setCell (Nat.le_refl _) _) _
      case measure => simp [intOf]; omega
    · obtain rfl : k = n := by omega
      have kc := HR.out.string (P := Try.prog) Try.underlying31 Try.underlying5 Try.underlying9
      go_wp2
      go_ret
      exact ⟨rfl, HB.out⟩
end Go.Proofs.Ytohjijhmlfhcnaa
