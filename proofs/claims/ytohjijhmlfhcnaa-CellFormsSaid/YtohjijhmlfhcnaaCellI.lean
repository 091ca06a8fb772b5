/- The statement CellForms: the walk. -/
import Derived.Test.YtohjijhmlfhcnaaCellE
import Derived.Test.YtohjijhmlfhcnaaPairD
import Derived.Test.YtohjijhmlfhcnaaLBits
namespace Go.Proofs.Ytohjijhmlfhcnaa
set_option linter.unusedVariables false
set_option linter.unusedSimpArgs false
open Go.RowKit
theorem noSize {a : ByteArray} {k : Int} {d : ByteArray} (h : ((a.size : Int) == 4096) = false) : progOk a k d = false := by unfold progOk; rw [h]; rfl
theorem noSizeE {a : ByteArray} {k : Int} (h : ((a.size : Int) == 4096) = false) : erasOk a k = false := by unfold erasOk; rw [h]; rfl
theorem noAt {a : ByteArray} {k : Int} {d : ByteArray} (h : k < 0 ∨ 4096 < k ∨ 4096 - k < d.size) : progOk a k d = false := by
  cases e : progOk a k d
  · rfl
  · have := progOk_of e
    omega
theorem noSec {a : ByteArray} {k : Int} (h : k < 0 ∨ 8 ≤ k) : erasOk a k = false := by
  cases e : erasOk a k
  · rfl
  · have := erasOk_of e
    omega
theorem noOk (a b : ByteArray) (h : a.size = 4096) (hb : b.size = 1 := by rfl) : (((a ++ b).size : Int) == 4096) = false ∧ (((a.extract 0 100).size : Int) == 4096) = false := by
  rw [beq_eq_false_iff_ne, beq_eq_false_iff_ne, ByteArray.size_append, ByteArray.size_extract]
  omega
theorem prog_nil {a : ByteArray} {k : Int} (h : a.size = 4096) (h0 : 0 ≤ k) (h1 : k ≤ 4096) : progL a k ⟨#[]⟩ allB = a := by
  have o : progOk a k ⟨#[]⟩ = true := progOk_in h h0 (by simp [ByteArray.size]; omega)
  rw [progL_of o]
  exact str_of a

theorem and1023_posC (x : Int) : ∃ d : Int, bits .and .i64 x 1023 = d ∧ 0 ≤ d ∧ d ≤ 1023 := by
  have h1 := Int.emod_nonneg x (show (1024 : Int) ≠ 0 by decide)
  have h2 := Int.emod_lt_of_pos x (show (0 : Int) < 1024 by decide)
  exact ⟨x % 1024, and1023 x, by omega, by omega⟩

set_option maxRecDepth 100000 in
theorem CellForms_walk (which : Int) (_ : -9223372036854775808 ≤ which ∧ which ≤ 9223372036854775807) (x : Int) (_ : -9223372036854775808 ≤ x ∧ x ≤ 9223372036854775807) (w : World) :
    Calls Try.prog 9 #[.int .i64 which, .int .i64 x] w fun e w' => e = .returned (.bool true) ∧ Below w.heap.size w w' := by
  obtain ⟨n, hn, n0, n1⟩ := and1023_posC x
  obtain ⟨r, hr, r0, r1⟩ := rem_fin which 3 (by decide) (by decide)
  obtain ⟨a, ha⟩ : ∃ a, str blankL = a := ⟨_, rfl⟩
  have za : a.size = 4096 := by rw [← ha]; exact blank_size
  have HA := Lib.hid ha
  clear ha
  have mz := noOk a ⟨#[120]⟩ za
  have E5 := Lib.hid (progE_no (noAt (a := a) (k := -(1 + n)) (d := ⟨#[120]⟩) (.inl (by omega))))
  have E6 := Lib.hid (progE_no (noAt (a := a) (k := 4096 + (1 + n)) (d := ⟨#[]⟩) (.inr (.inl (by omega)))))
  have E7 := Lib.hid (progE_no (noAt (a := a) (k := 4094) (d := ⟨#[120, 121, 122]⟩) (.inr (.inr (by decide)))))
  have E8 := Lib.hid (erasE_no (noSec (a := a) (k := -(1 + n)) (.inl (by omega))))
  have E9 := Lib.hid (erasE_no (noSec (a := a) (k := 7 + (1 + n)) (.inr (by omega))))
  have EA := Lib.hid (progE_of (a := a) (at_ := 4096) (d := ⟨#[]⟩) (progOk_in za (by decide) (by decide)))
  have EB := Lib.hid (prog_nil (a := a) (k := 4096) za (by decide) (by decide))
  have MZ := Lib.hid mz
  clear mz
  rcases (show r = 0 ∨ r = 1 ∨ r = 2 by omega) with rfl | rfl | rfl
  · have hm : (((⟨#[]⟩ : ByteArray).size : Int) == 4096) = false := by rfl
    have F1 := Lib.hid (progE_no (noSize (a := ⟨#[]⟩) (k := 0) (d := ⟨#[120]⟩) hm))
    have F2 := Lib.hid (erasE_no (noSizeE (a := ⟨#[]⟩) (k := 1) hm))
    have HM := Lib.hid hm
    clear hm
    go_enter Try.func9, Try.ntmps9
    go_wp2_with fail
    with_reducible refine (awake1 _).mono ?_
    rintro e w1 ⟨rfl, hb⟩
    have B1 := Lib.hid (hb)
    clear hb
    go_wp2_with fail
    with_reducible refine (blank_any _).mono ?_
    rw [HA.out]
    rintro e w2 ⟨rfl, hb⟩
    have B2 := Lib.hid (Bl.then B1.out hb)
    clear hb B1
    go_wp2_with fail
    with_reducible refine (program_any ⟨#[]⟩ 0 ⟨#[120]⟩ _ (by decide) (by omega) (by omega)).mono ?_
    rw [F1.out]
    rintro e w3 ⟨rfl, hb⟩
    have B3 := Lib.hid (Bl.then (Bl.alloc B2.out _) hb)
    clear hb B2
    go_wp2_with fail
    with_reducible refine (erase_any ⟨#[]⟩ 1 _ (by omega) (by omega)).mono ?_
    rw [F2.out]
    rintro e w4 ⟨rfl, hb⟩
    have B4 := Lib.hid (Bl.then B3.out hb)
    clear hb B3
    go_wp2_with fail
    with_reducible refine (prog_any ⟨#[]⟩ 0 ⟨#[120]⟩ ⟨#[121]⟩ _ (by decide) (by omega) (by omega)).mono ?_
    rw [F1.out]
    rintro e w5 ⟨rfl, hb⟩
    have B5 := Lib.hid (Bl.then B4.out hb)
    clear hb B4
    go_wp2_with fail
    with_reducible refine (eras_any ⟨#[]⟩ 1 ⟨#[121]⟩ _ (by omega) (by omega)).mono ?_
    rw [F2.out]
    rintro e w6 ⟨rfl, hb⟩
    have B6 := Lib.hid (Bl.then B5.out hb)
    clear hb B5
    go_wp2_with fail
    with_reducible refine (program_any a (-(1 + n)) ⟨#[120]⟩ _ (by decide) (by omega) (by omega)).mono ?_
    rw [E5.out]
    rintro e w7 ⟨rfl, hb⟩
    have B7 := Lib.hid (Bl.then B6.out hb)
    clear hb B6
    go_wp2_with fail
    with_reducible refine (program_any a (4096 + (1 + n)) ⟨#[]⟩ _ (by decide) (by omega) (by omega)).mono ?_
    rw [E6.out]
    rintro e w8 ⟨rfl, hb⟩
    have B8 := Lib.hid (Bl.then B7.out hb)
    clear hb B7
    go_wp2_with fail
    with_reducible refine (program_any a 4094 ⟨#[120, 121, 122]⟩ _ (by decide) (by omega) (by omega)).mono ?_
    rw [E7.out]
    rintro e w9 ⟨rfl, hb⟩
    have B9 := Lib.hid (Bl.then B8.out hb)
    clear hb B8
    go_wp2_with fail
    with_reducible refine (erase_any a (-(1 + n)) _ (by omega) (by omega)).mono ?_
    rw [E8.out]
    rintro e w10 ⟨rfl, hb⟩
    have B10 := Lib.hid (Bl.then B9.out hb)
    clear hb B9
    go_wp2_with fail
    with_reducible refine (eras_any a (7 + (1 + n)) ⟨#[120]⟩ _ (by omega) (by omega)).mono ?_
    rw [E9.out]
    rintro e w11 ⟨rfl, hb⟩
    have B11 := Lib.hid (Bl.then B10.out hb)
    clear hb B10
    go_wp2_with fail
    with_reducible refine (program_any a 4096 ⟨#[]⟩ _ (by decide) (by omega) (by omega)).mono ?_
    rw [EB.out]
    rw [EA.out]
    rintro e w12 ⟨rfl, hb⟩
    have B12 := Lib.hid (Bl.then B11.out hb)
    clear hb B11
    go_wp2_with first | (go_at_call 19; refine (num_any _ _).mono ?_; rintro e w' ⟨rfl, rfl⟩) | (go_at_call 31; refine (may_any _ _).mono ?_; rw [HM.out]; rintro e w' ⟨rfl, rfl⟩)
    go_ret
    exact ⟨rfl, B12.out⟩
  · have hm : ((((a ++ ⟨#[120]⟩) : ByteArray).size : Int) == 4096) = false := by exact MZ.out.1
    have F1 := Lib.hid (progE_no (noSize (a := (a ++ ⟨#[120]⟩)) (k := 0) (d := ⟨#[120]⟩) hm))
    have F2 := Lib.hid (erasE_no (noSizeE (a := (a ++ ⟨#[120]⟩)) (k := 1) hm))
    have HM := Lib.hid hm
    clear hm
    go_enter Try.func9, Try.ntmps9
    go_wp2_with fail
    with_reducible refine (awake1 _).mono ?_
    rintro e w1 ⟨rfl, hb⟩
    have B1 := Lib.hid (hb)
    clear hb
    go_wp2_with fail
    with_reducible refine (blank_any _).mono ?_
    rw [HA.out]
    rintro e w2 ⟨rfl, hb⟩
    have B2 := Lib.hid (Bl.then B1.out hb)
    clear hb B1
    go_wp2_with fail
    with_reducible refine (program_any (a ++ ⟨#[120]⟩) 0 ⟨#[120]⟩ _ (by decide) (by omega) (by omega)).mono ?_
    rw [F1.out]
    rintro e w3 ⟨rfl, hb⟩
    have B3 := Lib.hid (Bl.then (Bl.alloc B2.out _) hb)
    clear hb B2
    go_wp2_with fail
    with_reducible refine (erase_any (a ++ ⟨#[120]⟩) 1 _ (by omega) (by omega)).mono ?_
    rw [F2.out]
    rintro e w4 ⟨rfl, hb⟩
    have B4 := Lib.hid (Bl.then B3.out hb)
    clear hb B3
    go_wp2_with fail
    with_reducible refine (prog_any (a ++ ⟨#[120]⟩) 0 ⟨#[120]⟩ ⟨#[121]⟩ _ (by decide) (by omega) (by omega)).mono ?_
    rw [F1.out]
    rintro e w5 ⟨rfl, hb⟩
    have B5 := Lib.hid (Bl.then B4.out hb)
    clear hb B4
    go_wp2_with fail
    with_reducible refine (eras_any (a ++ ⟨#[120]⟩) 1 ⟨#[121]⟩ _ (by omega) (by omega)).mono ?_
    rw [F2.out]
    rintro e w6 ⟨rfl, hb⟩
    have B6 := Lib.hid (Bl.then B5.out hb)
    clear hb B5
    go_wp2_with fail
    with_reducible refine (program_any a (-(1 + n)) ⟨#[120]⟩ _ (by decide) (by omega) (by omega)).mono ?_
    rw [E5.out]
    rintro e w7 ⟨rfl, hb⟩
    have B7 := Lib.hid (Bl.then B6.out hb)
    clear hb B6
    go_wp2_with fail
    with_reducible refine (program_any a (4096 + (1 + n)) ⟨#[]⟩ _ (by decide) (by omega) (by omega)).mono ?_
    rw [E6.out]
    rintro e w8 ⟨rfl, hb⟩
    have B8 := Lib.hid (Bl.then B7.out hb)
    clear hb B7
    go_wp2_with fail
    with_reducible refine (program_any a 4094 ⟨#[120, 121, 122]⟩ _ (by decide) (by omega) (by omega)).mono ?_
    rw [E7.out]
    rintro e w9 ⟨rfl, hb⟩
    have B9 := Lib.hid (Bl.then B8.out hb)
    clear hb B8
    go_wp2_with fail
    with_reducible refine (erase_any a (-(1 + n)) _ (by omega) (by omega)).mono ?_
    rw [E8.out]
    rintro e w10 ⟨rfl, hb⟩
    have B10 := Lib.hid (Bl.then B9.out hb)
    clear hb B9
    go_wp2_with fail
    with_reducible refine (eras_any a (7 + (1 + n)) ⟨#[120]⟩ _ (by omega) (by omega)).mono ?_
    rw [E9.out]
    rintro e w11 ⟨rfl, hb⟩
    have B11 := Lib.hid (Bl.then B10.out hb)
    clear hb B10
    go_wp2_with fail
    with_reducible refine (program_any a 4096 ⟨#[]⟩ _ (by decide) (by omega) (by omega)).mono ?_
    rw [EB.out]
    rw [EA.out]
    rintro e w12 ⟨rfl, hb⟩
    have B12 := Lib.hid (Bl.then B11.out hb)
    clear hb B11
    go_wp2_with first | (go_at_call 19; refine (num_any _ _).mono ?_; rintro e w' ⟨rfl, rfl⟩) | (go_at_call 31; refine (may_any _ _).mono ?_; rw [HM.out]; rintro e w' ⟨rfl, rfl⟩)
    go_ret
    exact ⟨rfl, B12.out⟩
  · have hm : ((((a.extract 0 (min (4096 : Int) 100).toNat) : ByteArray).size : Int) == 4096) = false := by rw [show (min (4096 : Int) 100).toNat = 100 by rfl]; exact MZ.out.2
    have F1 := Lib.hid (progE_no (noSize (a := (a.extract 0 (min (4096 : Int) 100).toNat)) (k := 0) (d := ⟨#[120]⟩) hm))
    have F2 := Lib.hid (erasE_no (noSizeE (a := (a.extract 0 (min (4096 : Int) 100).toNat)) (k := 1) hm))
    have HM := Lib.hid hm
    clear hm
    go_enter Try.func9, Try.ntmps9
    go_wp2_with fail
    with_reducible refine (awake1 _).mono ?_
    rintro e w1 ⟨rfl, hb⟩
    have B1 := Lib.hid (hb)
    clear hb
    go_wp2_with fail
    with_reducible refine (blank_any _).mono ?_
    rw [HA.out]
    rintro e w2 ⟨rfl, hb⟩
    have B2 := Lib.hid (Bl.then B1.out hb)
    clear hb B1
    go_wp2_with fail
    with_reducible refine (program_any (a.extract 0 (min (4096 : Int) 100).toNat) 0 ⟨#[120]⟩ _ (by decide) (by omega) (by omega)).mono ?_
    rw [F1.out]
    rintro e w3 ⟨rfl, hb⟩
    have B3 := Lib.hid (Bl.then (Bl.alloc B2.out _) hb)
    clear hb B2
    go_wp2_with fail
    with_reducible refine (erase_any (a.extract 0 (min (4096 : Int) 100).toNat) 1 _ (by omega) (by omega)).mono ?_
    rw [F2.out]
    rintro e w4 ⟨rfl, hb⟩
    have B4 := Lib.hid (Bl.then B3.out hb)
    clear hb B3
    go_wp2_with fail
    with_reducible refine (prog_any (a.extract 0 (min (4096 : Int) 100).toNat) 0 ⟨#[120]⟩ ⟨#[121]⟩ _ (by decide) (by omega) (by omega)).mono ?_
    rw [F1.out]
    rintro e w5 ⟨rfl, hb⟩
    have B5 := Lib.hid (Bl.then B4.out hb)
    clear hb B4
    go_wp2_with fail
    with_reducible refine (eras_any (a.extract 0 (min (4096 : Int) 100).toNat) 1 ⟨#[121]⟩ _ (by omega) (by omega)).mono ?_
    rw [F2.out]
    rintro e w6 ⟨rfl, hb⟩
    have B6 := Lib.hid (Bl.then B5.out hb)
    clear hb B5
    go_wp2_with fail
    with_reducible refine (program_any a (-(1 + n)) ⟨#[120]⟩ _ (by decide) (by omega) (by omega)).mono ?_
    rw [E5.out]
    rintro e w7 ⟨rfl, hb⟩
    have B7 := Lib.hid (Bl.then B6.out hb)
    clear hb B6
    go_wp2_with fail
    with_reducible refine (program_any a (4096 + (1 + n)) ⟨#[]⟩ _ (by decide) (by omega) (by omega)).mono ?_
    rw [E6.out]
    rintro e w8 ⟨rfl, hb⟩
    have B8 := Lib.hid (Bl.then B7.out hb)
    clear hb B7
    go_wp2_with fail
    with_reducible refine (program_any a 4094 ⟨#[120, 121, 122]⟩ _ (by decide) (by omega) (by omega)).mono ?_
    rw [E7.out]
    rintro e w9 ⟨rfl, hb⟩
    have B9 := Lib.hid (Bl.then B8.out hb)
    clear hb B8
    go_wp2_with fail
    with_reducible refine (erase_any a (-(1 + n)) _ (by omega) (by omega)).mono ?_
    rw [E8.out]
    rintro e w10 ⟨rfl, hb⟩
    have B10 := Lib.hid (Bl.then B9.out hb)
    clear hb B9
    go_wp2_with fail
    with_reducible refine (eras_any a (7 + (1 + n)) ⟨#[120]⟩ _ (by omega) (by omega)).mono ?_
    rw [E9.out]
    rintro e w11 ⟨rfl, hb⟩
    have B11 := Lib.hid (Bl.then B10.out hb)
    clear hb B10
    go_wp2_with fail
    with_reducible refine (program_any a 4096 ⟨#[]⟩ _ (by decide) (by omega) (by omega)).mono ?_
    rw [EB.out]
    rw [EA.out]
    rintro e w12 ⟨rfl, hb⟩
    have B12 := Lib.hid (Bl.then B11.out hb)
    clear hb B11
    go_wp2_with first | (go_at_call 19; refine (num_any _ _).mono ?_; rintro e w' ⟨rfl, rfl⟩) | (go_at_call 31; refine (may_any _ _).mono ?_; rw [HM.out]; rintro e w' ⟨rfl, rfl⟩)
    go_ret
    exact ⟨rfl, B12.out⟩
end Go.Proofs.Ytohjijhmlfhcnaa
