/- The statement SfdpForms, by ways. -/
import Derived.Test.YtgkgfeggpoimjaaSfG
import Derived.StillTailTactics
namespace Go.Proofs.Ytgkgfeggpoimjaa
set_option linter.unusedVariables false
set_option linter.unusedSimpArgs false
open Go.RowKit
set_option maxRecDepth 100000 in
set_option maxHeartbeats 8000000 in
theorem SfdpForms_way6 (which : Int) (_ : -9223372036854775808 ≤ which ∧ which ≤ 9223372036854775807) (x : Int) (_ : -9223372036854775808 ≤ x ∧ x ≤ 9223372036854775807) (hr : wrap64 ((IntKind.u64.wrap which).tmod 7) = 6) (w : World) :
    Calls Try.prog 10 #[.int .i64 which, .int .i64 x] w fun e w' => e = .returned (.bool true) ∧ Below w.heap.size w w' := by
  obtain ⟨n, hn, n0, n1⟩ := and1023_S x
  obtain ⟨t, ht⟩ : ∃ t, sfP 65536 1 32768 = t := ⟨_, rfl⟩
  have zt : t.size = 32 := by rw [← ht]; decide +kernel
  have HT := Lib.hid ht
  have E4 := Lib.hid (show sfE 65536 1 32768 = 0 by decide +kernel)
  clear ht
  have pb : powB (-1099511627776) = false := by decide +kernel
  obtain ⟨e1, e2, e3⟩ := sfE_no pb
  have E1 := Lib.hid e1
  have E2 := Lib.hid e2
  have E3 := Lib.hid e3
  clear e1 e2 e3 pb
  go_enter Try.func10, Try.ntmps10
  go_wp2_with fail
  with_reducible refine (awake7 _).mono ?_
  rintro e w1 ⟨rfl, hb⟩
  have B1 := Lib.hid (hb)
  clear hb
  go_wp2_with fail
  with_reducible refine (put_s (-1099511627776) 1 1 _ (by omega) (by omega) (by omega) (by omega) (by omega) (by omega)).mono ?_
  rw [E1.out]
  rintro e w2 ⟨rfl, hb⟩
  have B2 := Lib.hid (Bl.then (Bl.alloc B1.out _) hb)
  clear hb B1
  go_wp2_with fail
  with_reducible refine (put_s 1 (-1099511627776) 1 _ (by omega) (by omega) (by omega) (by omega) (by omega) (by omega)).mono ?_
  rw [E2.out]
  rintro e w3 ⟨rfl, hb⟩
  have B3 := Lib.hid (Bl.then B2.out hb)
  clear hb B2
  go_wp2_with fail
  with_reducible refine (put_s 1 1 (-1099511627776) _ (by omega) (by omega) (by omega) (by omega) (by omega) (by omega)).mono ?_
  rw [E3.out]
  rintro e w4 ⟨rfl, hb⟩
  have B4 := Lib.hid (Bl.then B3.out hb)
  clear hb B3
  go_wp2_with fail
  with_reducible refine (put_s 65536 1 32768 _ (by omega) (by omega) (by omega) (by omega) (by omega) (by omega)).mono ?_
  rw [HT.out]
  rw [E4.out]
  rintro e w5 ⟨rfl, hb⟩
  have B5 := Lib.hid (Bl.then B4.out hb)
  clear hb B4
  go_wp2_with (go_at_call 18; refine (num_s _ _).mono ?_; rintro e w' ⟨rfl, rfl⟩)
  go_still_tail 22, (by kernel_rfl)
  change wpList _ _ _ _ _ w5.drew
  have C5 := Lib.hid (Bl.drewN B5.out 1)
  have D5 := Lib.hid (show Below w.heap.size w w5.drew from C5.out)
  generalize w5.drew = w6 at *
  go_wp2_with fail
  with_reducible refine (get_s _ 0 0 0 700 ?_ _ ?_).mono ?_
  · rw [← HT.out]; exact ans_no (by unfold okS; decide +kernel)
  · rw [← HT.out]; decide +kernel
  rintro e w7 ⟨rfl, hb⟩
  have B7 := Lib.hid (Bl.then (Bl.alloc D5.out _) hb)
  clear hb
  go_wp2_with (go_at_call 18; refine (num_s _ _).mono ?_; rintro e w' ⟨rfl, rfl⟩)
  go_ret
  exact ⟨rfl, B7.out⟩
end Go.Proofs.Ytgkgfeggpoimjaa
