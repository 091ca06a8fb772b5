/- The statements over cell: walks. -/
import Derived.Test.YtohjijhmlfhcnaaCellE
import Derived.Test.YtohjijhmlfhcnaaPairD
namespace Go.Proofs.Ytohjijhmlfhcnaa
set_option linter.unusedVariables false
set_option linter.unusedSimpArgs false
open Go.RowKit

theorem Cells_walk (s : ByteArray) (_ : s.size ≤ 140737488351232) (whole : Bool) (at_ : Int) (_ : -9223372036854775808 ≤ at_ ∧ at_ ≤ 9223372036854775807) (d : ByteArray) (_ : d.size ≤ 140737488351232) (x : Int) (_ : -9223372036854775808 ≤ x ∧ x ≤ 9223372036854775807) (m : ByteArray) (_ : m.size ≤ 140737488351232) (w : World) :
    Calls Try.prog 7 #[.string s, .bool whole, .int .i64 at_, .string d, .int .i64 x, .string m] w fun e w' => e = .returned (.bool true) ∧ Below w.heap.size w w' := by
  cases whole
  · obtain ⟨a, ha⟩ : ∃ a, s = a := ⟨_, rfl⟩
    obtain ⟨p, hp⟩ : ∃ z, progL a at_ d allB = z := ⟨_, rfl⟩
    obtain ⟨e1, he1⟩ : ∃ z, progE a at_ d = z := ⟨_, rfl⟩
    obtain ⟨r, hr⟩ : ∃ z, progL a at_ d m = z := ⟨_, rfl⟩
    obtain ⟨u, hu⟩ : ∃ z, erasL a x allB = z := ⟨_, rfl⟩
    obtain ⟨e2, he2⟩ : ∃ z, erasE a x = z := ⟨_, rfl⟩
    obtain ⟨v, hv⟩ : ∃ z, erasL a x m = z := ⟨_, rfl⟩
    obtain ⟨bm, hbm⟩ : ∃ z, ((a.size : Int) == 4096) = z := ⟨_, rfl⟩
    have A := Lib.hid ha
    have P := Lib.hid hp
    have E1 := Lib.hid he1
    have R := Lib.hid hr
    have U := Lib.hid hu
    have E2 := Lib.hid he2
    have V := Lib.hid hv
    have CA := Lib.hid hbm
    clear ha hp he1 hr hu he2 hv hbm
    have q1 : (e1 == e1) = true := by simp
    have q2 : (e2 == e2) = true := by simp
    obtain rfl := A.out
    go_enter Try.func7, Try.ntmps7
    go_wp2_with fail
    with_reducible refine (program_any s at_ d _ (by assumption) (by omega) (by omega)).mono ?_
    rw [P.out]
    rw [E1.out]
    rintro e w1 ⟨rfl, hb⟩
    have B1 := Lib.hid (hb)
    clear hb
    go_wp2_with fail
    with_reducible refine (rprogram_any s at_ d _ (by assumption) (by omega) (by omega)).mono ?_
    rw [P.out]
    rw [E1.out]
    rintro e w2 ⟨rfl, hb⟩
    have B2 := Lib.hid (Bl.then B1.out hb)
    clear hb B1
    go_wp2_with fail
    with_reducible refine (prog_any s at_ d m _ (by assumption) (by omega) (by omega)).mono ?_
    rw [R.out]
    rw [E1.out]
    rintro e w3 ⟨rfl, hb⟩
    have B3 := Lib.hid (Bl.then B2.out hb)
    clear hb B2
    go_wp2_with fail
    with_reducible refine (rprog_any s at_ d m _ (by assumption) (by omega) (by omega)).mono ?_
    rw [R.out]
    rw [E1.out]
    rintro e w4 ⟨rfl, hb⟩
    have B4 := Lib.hid (Bl.then B3.out hb)
    clear hb B3
    go_wp2_with fail
    with_reducible refine (erase_any s x _ (by omega) (by omega)).mono ?_
    rw [U.out]
    rw [E2.out]
    rintro e w5 ⟨rfl, hb⟩
    have B5 := Lib.hid (Bl.then B4.out hb)
    clear hb B4
    go_wp2_with fail
    with_reducible refine (rerase_any s x _ (by omega) (by omega)).mono ?_
    rw [U.out]
    rw [E2.out]
    rintro e w6 ⟨rfl, hb⟩
    have B6 := Lib.hid (Bl.then B5.out hb)
    clear hb B5
    go_wp2_with fail
    with_reducible refine (eras_any s x m _ (by omega) (by omega)).mono ?_
    rw [V.out]
    rw [E2.out]
    rintro e w7 ⟨rfl, hb⟩
    have B7 := Lib.hid (Bl.then B6.out hb)
    clear hb B6
    go_wp2_with fail
    with_reducible refine (reras_any s x m _ (by omega) (by omega)).mono ?_
    rw [V.out]
    rw [E2.out]
    rintro e w8 ⟨rfl, hb⟩
    have B8 := Lib.hid (Bl.then B7.out hb)
    clear hb B7
    go_wp2_with first | (go_at_call 19; refine (num_any _ _).mono ?_; rintro e w' ⟨rfl, rfl⟩) | (go_at_call 31; refine (may_any _ _).mono ?_; rw [CA.out]; rintro e w' ⟨rfl, rfl⟩) | (go_at_call 32; refine (cellsmay_any _ _).mono ?_; rw [CA.out]; rintro e w' ⟨rfl, rfl⟩)
    with_reducible refine (awake1 _).mono ?_
    rintro e w9 ⟨rfl, hb⟩
    have B9 := Lib.hid (Bl.then B8.out hb)
    clear hb B8
    go_wp2_with fail
    go_ret
    exact ⟨rfl, B9.out⟩
  · obtain ⟨a, ha⟩ : ∃ a, cellsP s = a := ⟨_, rfl⟩
    obtain ⟨p, hp⟩ : ∃ z, progL a at_ d allB = z := ⟨_, rfl⟩
    obtain ⟨e1, he1⟩ : ∃ z, progE a at_ d = z := ⟨_, rfl⟩
    obtain ⟨r, hr⟩ : ∃ z, progL a at_ d m = z := ⟨_, rfl⟩
    obtain ⟨u, hu⟩ : ∃ z, erasL a x allB = z := ⟨_, rfl⟩
    obtain ⟨e2, he2⟩ : ∃ z, erasE a x = z := ⟨_, rfl⟩
    obtain ⟨v, hv⟩ : ∃ z, erasL a x m = z := ⟨_, rfl⟩
    obtain ⟨bm, hbm⟩ : ∃ z, ((a.size : Int) == 4096) = z := ⟨_, rfl⟩
    have A := Lib.hid ha
    have P := Lib.hid hp
    have E1 := Lib.hid he1
    have R := Lib.hid hr
    have U := Lib.hid hu
    have E2 := Lib.hid he2
    have V := Lib.hid hv
    have CA := Lib.hid hbm
    clear ha hp he1 hr hu he2 hv hbm
    have q1 : (e1 == e1) = true := by simp
    have q2 : (e2 == e2) = true := by simp
    go_enter Try.func7, Try.ntmps7
    go_wp2_with fail
    with_reducible refine (lcells_any s _ (by assumption)).mono ?_
    rw [A.out]
    rintro e w1 ⟨rfl, hb⟩
    have B1 := Lib.hid (hb)
    clear hb
    go_wp2_with fail
    with_reducible refine (program_any a at_ d _ (by assumption) (by omega) (by omega)).mono ?_
    rw [P.out]
    rw [E1.out]
    rintro e w2 ⟨rfl, hb⟩
    have B2 := Lib.hid (Bl.then B1.out hb)
    clear hb B1
    go_wp2_with fail
    with_reducible refine (rprogram_any a at_ d _ (by assumption) (by omega) (by omega)).mono ?_
    rw [P.out]
    rw [E1.out]
    rintro e w3 ⟨rfl, hb⟩
    have B3 := Lib.hid (Bl.then B2.out hb)
    clear hb B2
    go_wp2_with fail
    with_reducible refine (prog_any a at_ d m _ (by assumption) (by omega) (by omega)).mono ?_
    rw [R.out]
    rw [E1.out]
    rintro e w4 ⟨rfl, hb⟩
    have B4 := Lib.hid (Bl.then B3.out hb)
    clear hb B3
    go_wp2_with fail
    with_reducible refine (rprog_any a at_ d m _ (by assumption) (by omega) (by omega)).mono ?_
    rw [R.out]
    rw [E1.out]
    rintro e w5 ⟨rfl, hb⟩
    have B5 := Lib.hid (Bl.then B4.out hb)
    clear hb B4
    go_wp2_with fail
    with_reducible refine (erase_any a x _ (by omega) (by omega)).mono ?_
    rw [U.out]
    rw [E2.out]
    rintro e w6 ⟨rfl, hb⟩
    have B6 := Lib.hid (Bl.then B5.out hb)
    clear hb B5
    go_wp2_with fail
    with_reducible refine (rerase_any a x _ (by omega) (by omega)).mono ?_
    rw [U.out]
    rw [E2.out]
    rintro e w7 ⟨rfl, hb⟩
    have B7 := Lib.hid (Bl.then B6.out hb)
    clear hb B6
    go_wp2_with fail
    with_reducible refine (eras_any a x m _ (by omega) (by omega)).mono ?_
    rw [V.out]
    rw [E2.out]
    rintro e w8 ⟨rfl, hb⟩
    have B8 := Lib.hid (Bl.then B7.out hb)
    clear hb B7
    go_wp2_with fail
    with_reducible refine (reras_any a x m _ (by omega) (by omega)).mono ?_
    rw [V.out]
    rw [E2.out]
    rintro e w9 ⟨rfl, hb⟩
    have B9 := Lib.hid (Bl.then B8.out hb)
    clear hb B8
    go_wp2_with first | (go_at_call 19; refine (num_any _ _).mono ?_; rintro e w' ⟨rfl, rfl⟩) | (go_at_call 31; refine (may_any _ _).mono ?_; rw [CA.out]; rintro e w' ⟨rfl, rfl⟩) | (go_at_call 32; refine (cellsmay_any _ _).mono ?_; rw [CA.out]; rintro e w' ⟨rfl, rfl⟩)
    with_reducible refine (awake1 _).mono ?_
    rintro e w10 ⟨rfl, hb⟩
    have B10 := Lib.hid (Bl.then B9.out hb)
    clear hb B9
    go_wp2_with fail
    go_ret
    exact ⟨rfl, B10.out⟩

end Go.Proofs.Ytohjijhmlfhcnaa
