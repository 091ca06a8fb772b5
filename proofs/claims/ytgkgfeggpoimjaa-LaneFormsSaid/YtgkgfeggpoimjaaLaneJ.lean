/- The statement LaneForms: its walk. -/
import Derived.Test.YtgkgfeggpoimjaaLaneI
namespace Go.Proofs.Ytgkgfeggpoimjaa
set_option linter.unusedVariables false
set_option linter.unusedSimpArgs false
open Go.RowKit

theorem and1023_pos (x : Int) : ∃ d : Int, bits .and .i64 x 1023 = d - 1 ∧ 1 ≤ d ∧ d ≤ 1024 := by
  have h1 := Int.emod_nonneg x (show (1024 : Int) ≠ 0 by decide)
  have h2 := Int.emod_lt_of_pos x (show (0 : Int) < 1024 by decide)
  exact ⟨x % 1024 + 1, by rw [and1023]; omega, by omega, by omega⟩


/-- An index that is cut to n places. -/
theorem rem_fin (x n : Int) (h0 : 0 < n) (h1 : n < 9223372036854775808) : ∃ r : Int, wrap64 ((IntKind.u64.wrap x).tmod n) = r ∧ 0 ≤ r ∧ r < n := by
  have hu : 0 ≤ IntKind.u64.wrap x := by
    simp only [IntKind.wrap, IntKind.signed, IntKind.bits]
    exact Int.emod_nonneg _ (by decide)
  rw [Int.tmod_eq_emod_of_nonneg hu]
  have a := Int.emod_nonneg (IntKind.u64.wrap x) (show n ≠ 0 by omega)
  have b := Int.emod_lt_of_pos (IntKind.u64.wrap x) h0
  exact ⟨IntKind.u64.wrap x % n, IntWalk.wrap64_in _ ⟨by omega, by omega⟩, a, b⟩

set_option maxRecDepth 100000 in
theorem LaneForms_walk0 (which : Int) (hr : wrap64 ((IntKind.u64.wrap which).tmod 5) = 0) (x : Int) (w : World) :
    Calls Try.prog 5 #[.int .i64 which, .int .i64 x] w fun e w' => e = .returned (.bool true) ∧ Below w.heap.size w w' := by
  obtain ⟨d, hd, hd1, hd2⟩ := and1023_pos x
  have P4 := Lib.hid (show (inP [] 4).2 = 300 from by rw [inP_bad (by simp [InOk])])
  have P1 := Lib.hid (show (inP [] 1).2 = 300 from by rw [inP_bad (by simp [InOk])])
  go_enter Try.func5, Try.ntmps5
  go_wp2_with fail
  with_reducible refine (awake3 _).mono ?_
  rintro e w0 ⟨rfl, hb0⟩
  have HB0 := Lib.hid hb0
  clear hb0
  go_wp2_with fail
  with_reducible refine (out_bad _ _ _ (by omega)).mono ?_
  rintro e w1 ⟨rfl, rfl⟩
  go_wp2_with fail
  with_reducible refine (out_bad _ _ _ (by omega)).mono ?_
  rintro e w1 ⟨rfl, rfl⟩
  go_wp2_with fail
  with_reducible refine (out_bad _ _ _ (by omega)).mono ?_
  rintro e w1 ⟨rfl, rfl⟩
  go_wp2_with fail
  with_reducible refine (in_bad _ [1] _ _ ?_ (by simp [InOk]; try omega)).mono ?_
  · exact Rd.cells (xs := [1]) (by unfold CellsAt; (repeat (refine ⟨by go_simp, ?_⟩)); exact trivial) rfl (by omega) (by simp [maxLen])
  rintro e w1 ⟨rfl, rfl⟩
  go_wp2_with fail
  with_reducible refine (in_any _ [] 4 _ ?_).mono ?_
  · exact Rd.nil _
  obtain ⟨c4, f4, hc4⟩ := pair_ex (inP [] 4)
  have hf4 := P4.out
  rw [hc4] at hf4
  replace hf4 : f4 = 300 := hf4
  subst hf4
  rw [hc4]
  clear hc4
  rintro e w1 ⟨rfl, rfl⟩
  go_wp2_with fail
  with_reducible refine (in_any _ [] 1 _ ?_).mono ?_
  · exact Rd.nil _
  obtain ⟨c1, f1, hc1⟩ := pair_ex (inP [] 1)
  have hf1 := P1.out
  rw [hc1] at hf1
  replace hf1 : f1 = 300 := hf1
  subst hf1
  rw [hc1]
  clear hc1
  rintro e w1 ⟨rfl, rfl⟩
  go_wp2_with (go_at_call 18; refine (num_any _ _).mono ?_; rintro e w' ⟨rfl, rfl⟩)
  go_ret
  exact ⟨rfl, by repeat (first | exact HB0.out | refine Bl.alloc ?_ _)⟩

set_option maxRecDepth 100000 in
theorem LaneForms_walk1 (which : Int) (hr : wrap64 ((IntKind.u64.wrap which).tmod 5) = 1) (x : Int) (w : World) :
    Calls Try.prog 5 #[.int .i64 which, .int .i64 x] w fun e w' => e = .returned (.bool true) ∧ Below w.heap.size w w' := by
  obtain ⟨d, hd, hd1, hd2⟩ := and1023_pos x
  have P4 := Lib.hid (show (inP [1] 4).2 = 300 from by rw [inP_bad (by simp [InOk])])
  have P1 := Lib.hid (show (inP [0, 0, 0, 0, 0, 0, 0] 1).2 = 300 from by rw [inP_bad (by simp [InOk])])
  go_enter Try.func5, Try.ntmps5
  go_wp2_with fail
  with_reducible refine (awake3 _).mono ?_
  rintro e w0 ⟨rfl, hb0⟩
  have HB0 := Lib.hid hb0
  clear hb0
  go_wp2_with fail
  with_reducible refine (out_bad _ _ _ (by omega)).mono ?_
  rintro e w1 ⟨rfl, rfl⟩
  go_wp2_with fail
  with_reducible refine (out_bad _ _ _ (by omega)).mono ?_
  rintro e w1 ⟨rfl, rfl⟩
  go_wp2_with fail
  with_reducible refine (out_bad _ _ _ (by omega)).mono ?_
  rintro e w1 ⟨rfl, rfl⟩
  go_wp2_with fail
  with_reducible refine (in_bad _ [1] _ _ ?_ (by simp [InOk]; try omega)).mono ?_
  · exact Rd.cells (xs := [1]) (by unfold CellsAt; (repeat (refine ⟨by go_simp, ?_⟩)); exact trivial) rfl (by omega) (by simp [maxLen])
  rintro e w1 ⟨rfl, rfl⟩
  go_wp2_with fail
  with_reducible refine (in_any _ [1] 4 _ ?_).mono ?_
  · exact Rd.cells (xs := [1]) (by unfold CellsAt; (repeat (refine ⟨by go_simp, ?_⟩)); exact trivial) rfl (by omega) (by simp [maxLen])
  obtain ⟨c4, f4, hc4⟩ := pair_ex (inP [1] 4)
  have hf4 := P4.out
  rw [hc4] at hf4
  replace hf4 : f4 = 300 := hf4
  subst hf4
  rw [hc4]
  clear hc4
  rintro e w1 ⟨rfl, rfl⟩
  go_wp2_with fail
  with_reducible refine (in_any _ [0, 0, 0, 0, 0, 0, 0] 1 _ ?_).mono ?_
  · exact Rd.cells (xs := [0, 0, 0, 0, 0, 0, 0]) (by unfold CellsAt; (repeat (refine ⟨by go_simp, ?_⟩)); exact trivial) rfl (by omega) (by simp [maxLen])
  obtain ⟨c1, f1, hc1⟩ := pair_ex (inP [0, 0, 0, 0, 0, 0, 0] 1)
  have hf1 := P1.out
  rw [hc1] at hf1
  replace hf1 : f1 = 300 := hf1
  subst hf1
  rw [hc1]
  clear hc1
  rintro e w1 ⟨rfl, rfl⟩
  go_wp2_with (go_at_call 18; refine (num_any _ _).mono ?_; rintro e w' ⟨rfl, rfl⟩)
  go_ret
  exact ⟨rfl, by repeat (first | exact HB0.out | refine Bl.alloc ?_ _)⟩

set_option maxRecDepth 100000 in
theorem LaneForms_walk2 (which : Int) (hr : wrap64 ((IntKind.u64.wrap which).tmod 5) = 2) (x : Int) (w : World) :
    Calls Try.prog 5 #[.int .i64 which, .int .i64 x] w fun e w' => e = .returned (.bool true) ∧ Below w.heap.size w w' := by
  obtain ⟨d, hd, hd1, hd2⟩ := and1023_pos x
  have P4 := Lib.hid (show (inP [1, 2, 3] 4).2 = 300 from by rw [inP_bad (by simp [InOk])])
  have P1 := Lib.hid (show (inP [0, 0, 0, 0, 0, 0, 0, 2] 1).2 = 300 from by first | (simp [inP, InOk, inFold]; done) | (simp [inP, InOk, inFold]; split <;> simp_all <;> omega))
  go_enter Try.func5, Try.ntmps5
  go_wp2_with fail
  with_reducible refine (awake3 _).mono ?_
  rintro e w0 ⟨rfl, hb0⟩
  have HB0 := Lib.hid hb0
  clear hb0
  go_wp2_with fail
  with_reducible refine (out_bad _ _ _ (by omega)).mono ?_
  rintro e w1 ⟨rfl, rfl⟩
  go_wp2_with fail
  with_reducible refine (out_bad _ _ _ (by omega)).mono ?_
  rintro e w1 ⟨rfl, rfl⟩
  go_wp2_with fail
  with_reducible refine (out_bad _ _ _ (by omega)).mono ?_
  rintro e w1 ⟨rfl, rfl⟩
  go_wp2_with fail
  with_reducible refine (in_bad _ [1] _ _ ?_ (by simp [InOk]; try omega)).mono ?_
  · exact Rd.cells (xs := [1]) (by unfold CellsAt; (repeat (refine ⟨by go_simp, ?_⟩)); exact trivial) rfl (by omega) (by simp [maxLen])
  rintro e w1 ⟨rfl, rfl⟩
  go_wp2_with fail
  with_reducible refine (in_any _ [1, 2, 3] 4 _ ?_).mono ?_
  · exact Rd.cells (xs := [1, 2, 3]) (by unfold CellsAt; (repeat (refine ⟨by go_simp, ?_⟩)); exact trivial) rfl (by omega) (by simp [maxLen])
  obtain ⟨c4, f4, hc4⟩ := pair_ex (inP [1, 2, 3] 4)
  have hf4 := P4.out
  rw [hc4] at hf4
  replace hf4 : f4 = 300 := hf4
  subst hf4
  rw [hc4]
  clear hc4
  rintro e w1 ⟨rfl, rfl⟩
  go_wp2_with fail
  with_reducible refine (in_any _ [0, 0, 0, 0, 0, 0, 0, 2] 1 _ ?_).mono ?_
  · exact Rd.cells (xs := [0, 0, 0, 0, 0, 0, 0, 2]) (by unfold CellsAt; (repeat (refine ⟨by go_simp, ?_⟩)); exact trivial) rfl (by omega) (by simp [maxLen])
  obtain ⟨c1, f1, hc1⟩ := pair_ex (inP [0, 0, 0, 0, 0, 0, 0, 2] 1)
  have hf1 := P1.out
  rw [hc1] at hf1
  replace hf1 : f1 = 300 := hf1
  subst hf1
  rw [hc1]
  clear hc1
  rintro e w1 ⟨rfl, rfl⟩
  go_wp2_with (go_at_call 18; refine (num_any _ _).mono ?_; rintro e w' ⟨rfl, rfl⟩)
  go_ret
  exact ⟨rfl, by repeat (first | exact HB0.out | refine Bl.alloc ?_ _)⟩

set_option maxRecDepth 100000 in
theorem LaneForms_walk3 (which : Int) (hr : wrap64 ((IntKind.u64.wrap which).tmod 5) = 3) (x : Int) (w : World) :
    Calls Try.prog 5 #[.int .i64 which, .int .i64 x] w fun e w' => e = .returned (.bool true) ∧ Below w.heap.size w w' := by
  obtain ⟨d, hd, hd1, hd2⟩ := and1023_pos x
  have P4 := Lib.hid (show (inP [16, 0] 4).2 = 300 from by first | (simp [inP, InOk, inFold]; done) | (simp [inP, InOk, inFold]; split <;> simp_all <;> omega))
  have P1 := Lib.hid (show (inP [0, 0, 0, 0, 0, 0, 0, -(1 + (d - 1))] 1).2 = 300 from by first | (simp [inP, InOk, inFold]; done) | (simp [inP, InOk, inFold]; split <;> simp_all <;> omega))
  go_enter Try.func5, Try.ntmps5
  go_wp2_with fail
  with_reducible refine (awake3 _).mono ?_
  rintro e w0 ⟨rfl, hb0⟩
  have HB0 := Lib.hid hb0
  clear hb0
  go_wp2_with fail
  with_reducible refine (out_bad _ _ _ (by omega)).mono ?_
  rintro e w1 ⟨rfl, rfl⟩
  go_wp2_with fail
  with_reducible refine (out_bad _ _ _ (by omega)).mono ?_
  rintro e w1 ⟨rfl, rfl⟩
  go_wp2_with fail
  with_reducible refine (out_bad _ _ _ (by omega)).mono ?_
  rintro e w1 ⟨rfl, rfl⟩
  go_wp2_with fail
  with_reducible refine (in_bad _ [1] _ _ ?_ (by simp [InOk]; try omega)).mono ?_
  · exact Rd.cells (xs := [1]) (by unfold CellsAt; (repeat (refine ⟨by go_simp, ?_⟩)); exact trivial) rfl (by omega) (by simp [maxLen])
  rintro e w1 ⟨rfl, rfl⟩
  go_wp2_with fail
  with_reducible refine (in_any _ [16, 0] 4 _ ?_).mono ?_
  · exact Rd.cells (xs := [16, 0]) (by unfold CellsAt; (repeat (refine ⟨by go_simp, ?_⟩)); exact trivial) rfl (by omega) (by simp [maxLen])
  obtain ⟨c4, f4, hc4⟩ := pair_ex (inP [16, 0] 4)
  have hf4 := P4.out
  rw [hc4] at hf4
  replace hf4 : f4 = 300 := hf4
  subst hf4
  rw [hc4]
  clear hc4
  rintro e w1 ⟨rfl, rfl⟩
  go_wp2_with fail
  with_reducible refine (in_any _ [0, 0, 0, 0, 0, 0, 0, -(1 + (d - 1))] 1 _ ?_).mono ?_
  · exact Rd.cells (xs := [0, 0, 0, 0, 0, 0, 0, -(1 + (d - 1))]) (by unfold CellsAt; (repeat (refine ⟨by go_simp, ?_⟩)); exact trivial) rfl (by omega) (by simp [maxLen])
  obtain ⟨c1, f1, hc1⟩ := pair_ex (inP [0, 0, 0, 0, 0, 0, 0, -(1 + (d - 1))] 1)
  have hf1 := P1.out
  rw [hc1] at hf1
  replace hf1 : f1 = 300 := hf1
  subst hf1
  rw [hc1]
  clear hc1
  rintro e w1 ⟨rfl, rfl⟩
  go_wp2_with (go_at_call 18; refine (num_any _ _).mono ?_; rintro e w' ⟨rfl, rfl⟩)
  go_ret
  exact ⟨rfl, by repeat (first | exact HB0.out | refine Bl.alloc ?_ _)⟩

set_option maxRecDepth 100000 in
theorem LaneForms_walk4 (which : Int) (hr : wrap64 ((IntKind.u64.wrap which).tmod 5) = 4) (x : Int) (w : World) :
    Calls Try.prog 5 #[.int .i64 which, .int .i64 x] w fun e w' => e = .returned (.bool true) ∧ Below w.heap.size w w' := by
  obtain ⟨d, hd, hd1, hd2⟩ := and1023_pos x
  have P4 := Lib.hid (show (inP [0, -(1 + (d - 1))] 4).2 = 300 from by first | (simp [inP, InOk, inFold]; done) | (simp [inP, InOk, inFold]; split <;> simp_all <;> omega))
  have P1 := Lib.hid (show (inP [0, 0, 0, 0, 0, 0, 0, 0, 0] 1).2 = 300 from by rw [inP_bad (by simp [InOk])])
  go_enter Try.func5, Try.ntmps5
  go_wp2_with fail
  with_reducible refine (awake3 _).mono ?_
  rintro e w0 ⟨rfl, hb0⟩
  have HB0 := Lib.hid hb0
  clear hb0
  go_wp2_with fail
  with_reducible refine (out_bad _ _ _ (by omega)).mono ?_
  rintro e w1 ⟨rfl, rfl⟩
  go_wp2_with fail
  with_reducible refine (out_bad _ _ _ (by omega)).mono ?_
  rintro e w1 ⟨rfl, rfl⟩
  go_wp2_with fail
  with_reducible refine (out_bad _ _ _ (by omega)).mono ?_
  rintro e w1 ⟨rfl, rfl⟩
  go_wp2_with fail
  with_reducible refine (in_bad _ [1] _ _ ?_ (by simp [InOk]; try omega)).mono ?_
  · exact Rd.cells (xs := [1]) (by unfold CellsAt; (repeat (refine ⟨by go_simp, ?_⟩)); exact trivial) rfl (by omega) (by simp [maxLen])
  rintro e w1 ⟨rfl, rfl⟩
  go_wp2_with fail
  with_reducible refine (in_any _ [0, -(1 + (d - 1))] 4 _ ?_).mono ?_
  · exact Rd.cells (xs := [0, -(1 + (d - 1))]) (by unfold CellsAt; (repeat (refine ⟨by go_simp, ?_⟩)); exact trivial) rfl (by omega) (by simp [maxLen])
  obtain ⟨c4, f4, hc4⟩ := pair_ex (inP [0, -(1 + (d - 1))] 4)
  have hf4 := P4.out
  rw [hc4] at hf4
  replace hf4 : f4 = 300 := hf4
  subst hf4
  rw [hc4]
  clear hc4
  rintro e w1 ⟨rfl, rfl⟩
  go_wp2_with fail
  with_reducible refine (in_any _ [0, 0, 0, 0, 0, 0, 0, 0, 0] 1 _ ?_).mono ?_
  · exact Rd.cells (xs := [0, 0, 0, 0, 0, 0, 0, 0, 0]) (by unfold CellsAt; (repeat (refine ⟨by go_simp, ?_⟩)); exact trivial) rfl (by omega) (by simp [maxLen])
  obtain ⟨c1, f1, hc1⟩ := pair_ex (inP [0, 0, 0, 0, 0, 0, 0, 0, 0] 1)
  have hf1 := P1.out
  rw [hc1] at hf1
  replace hf1 : f1 = 300 := hf1
  subst hf1
  rw [hc1]
  clear hc1
  rintro e w1 ⟨rfl, rfl⟩
  go_wp2_with (go_at_call 18; refine (num_any _ _).mono ?_; rintro e w' ⟨rfl, rfl⟩)
  go_ret
  exact ⟨rfl, by repeat (first | exact HB0.out | refine Bl.alloc ?_ _)⟩

theorem LaneForms_walk (which : Int) (_ : -9223372036854775808 ≤ which ∧ which ≤ 9223372036854775807) (x : Int) (_ : -9223372036854775808 ≤ x ∧ x ≤ 9223372036854775807) (w : World) :
    Calls Try.prog 5 #[.int .i64 which, .int .i64 x] w fun e w' => e = .returned (.bool true) ∧ Below w.heap.size w w' := by
  obtain ⟨r, hr, h0, h5⟩ := rem_fin which 5 (by decide) (by decide)
  have h : r = 0 ∨ r = 1 ∨ r = 2 ∨ r = 3 ∨ r = 4 := by omega
  rcases h with rfl | rfl | rfl | rfl | rfl
  · exact LaneForms_walk0 which hr x w
  · exact LaneForms_walk1 which hr x w
  · exact LaneForms_walk2 which hr x w
  · exact LaneForms_walk3 which hr x w
  · exact LaneForms_walk4 which hr x w
end Go.Proofs.Ytgkgfeggpoimjaa
