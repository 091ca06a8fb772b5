/- awake of the statements over lane. -/
import Derived.Test.YtgkgfeggpoimjaaLaneE
import Derived.Test.YtgkgfeggpoimjaaLaneF
import Derived.Test.YtgkgfeggpoimjaaLend
namespace Go.Proofs.Ytgkgfeggpoimjaa
set_option linter.unusedVariables false
set_option linter.unusedSimpArgs false
open Go.RowKit
set_option maxRecDepth 100000 in
theorem awake3 (w : World) : Calls Try.prog 21 #[] w fun e w' => e = .returned (.bool true) ∧ Below w.heap.size w w' := by
  go_enter Try.func21, Try.ntmps21
  go_wp2_with fail
  with_reducible refine (out_any 165 1 w).mono ?_
  rw [show outP 165 1 = ([1, 0, 1, 0, 0, 1, 0, 1], 0) by decide +kernel]
  rintro e w1 ⟨v1, rfl, ho1, hb1⟩
  have R1 := Lib.hid (Rd.own ho1)
  have HB1 := Lib.hid hb1
  clear ho1 hb1
  go_wp2_with fail
  with_reducible refine (out_any 165 4 w1).mono ?_
  rw [show outP 165 4 = ([10, 5], 0) by decide +kernel]
  rintro e w2 ⟨v2, rfl, ho2, hb2⟩
  have R2 := Lib.hid (Rd.own ho2)
  have R1' := Lib.hid (R1.out.below hb2)
  have HB2 := Lib.hid (Bl.then HB1.out hb2)
  clear ho2 hb2 R1 HB1
  go_wp2_with fail
  with_reducible refine (in_any _ [10, 5] 4 _ ?_).mono ?_
  · exact Rd.lit w2 [10, 5] 2 _ (by simp) rfl (by decide)
  rw [show inP [10, 5] 4 = (165, 0) by decide +kernel]
  rintro e w3 ⟨rfl, rfl⟩
  go_wp2_with fail
  with_reducible refine (in_any _ [16, 5] 4 _ ?_).mono ?_
  · exact Rd.lit _ [16, 5] 2 _ (by simp) rfl (by decide)
  rw [show inP [16, 5] 4 = (0, 300) by decide +kernel]
  rintro e w3 ⟨rfl, rfl⟩
  go_wp2_with fail
  with_reducible refine (out_any 256 1 _).mono ?_
  rw [show outP 256 1 = ([], 300) by decide +kernel]
  rintro e w5 ⟨v5, rfl, ho5, hb5⟩
  have R1 := Lib.hid (((R1'.out.alloc _).alloc _).below hb5)
  have R2' := Lib.hid (((R2.out.alloc _).alloc _).below hb5)
  have HB5 := Lib.hid (Bl.then (Bl.alloc (Bl.alloc HB2.out _) _) hb5)
  clear ho5 hb5 R1' R2 HB2
  go_wp2_with fail
  with_reducible refine (out_any 1 2 _).mono ?_
  rw [show outP 1 2 = ([], 300) by decide +kernel]
  rintro e w6 ⟨v6, rfl, ho6, hb6⟩
  have R1' := Lib.hid (R1.out.below hb6)
  have R2 := Lib.hid (R2'.out.below hb6)
  have HB6 := Lib.hid (Bl.then HB5.out hb6)
  clear ho6 hb6 R1 R2' HB5
  go_wp2_with fail
  with_reducible refine (same_ints v1 _ [1, 0, 1, 0, 0, 1, 0, 1] [1, 0, 1, 0, 0, 1, 0, 1] _ (R1'.out.alloc _) ?_).mono ?_
  · exact Rd.lit _ [1, 0, 1, 0, 0, 1, 0, 1] 8 _ (by simp) rfl (by decide)
  rw [show (([1, 0, 1, 0, 0, 1, 0, 1] : List Int) == [1, 0, 1, 0, 0, 1, 0, 1]) = true by decide]
  rintro e w7 ⟨rfl, q, rfl⟩
  go_wp2_with (go_at_call 18; refine (num_any _ _).mono ?_; rintro e w' ⟨rfl, rfl⟩)
  with_reducible refine (same_ints v2 _ [10, 5] [10, 5] _ ?_ ?_).mono ?_
  · exact ((R2.out.alloc _).drewN _).alloc _
  · exact Rd.lit _ [10, 5] 2 _ (by simp) rfl (by decide)
  rw [show (([10, 5] : List Int) == [10, 5]) = true by decide]
  rintro e w8 ⟨rfl, q2, rfl⟩
  go_wp2_with (go_at_call 18; refine (num_any _ _).mono ?_; rintro e w' ⟨rfl, rfl⟩)
  go_ret
  exact ⟨rfl, Bl.drewN (Bl.alloc (Bl.drewN (Bl.alloc HB6.out _) _) _) _⟩
end Go.Proofs.Ytgkgfeggpoimjaa
