/- The statement RecForms: the walk. -/
import Derived.Test.YtgfldfkgialdlaaRecP0
import Derived.Test.YtgfldfkgialdlaaRecP1
import Derived.Test.YtgfldfkgialdlaaRecP2
import Derived.Test.YtgfldfkgialdlaaRecP3
import Derived.Test.YtgfldfkgialdlaaRecP4
namespace Go.Proofs.Ytgfldfkgialdlaa
set_option linter.unusedVariables false
set_option linter.unusedSimpArgs false
open Go.RowKit
theorem RecForms_walk (which : Int) (_ : -9223372036854775808 ≤ which ∧ which ≤ 9223372036854775807) (x : Int) (_ : -9223372036854775808 ≤ x ∧ x ≤ 9223372036854775807) (w : World) :
    Calls Try.prog 5 #[.int .i64 which, .int .i64 x] w fun e w' => e = .returned (.bool true) ∧ Below w.heap.size w w' := by
  have hx : bits .and .i64 x 1023 = x % 1024 := and1023 x
  have h1 := Int.emod_nonneg x (show (1024 : Int) ≠ 0 by decide)
  have h2 := Int.emod_lt_of_pos x (show (0 : Int) < 1024 by decide)
  obtain ⟨r, hr, r0, r1⟩ := rem_fin which 64 (by decide) (by decide)
  obtain ⟨n, rfl⟩ := Int.eq_ofNat_of_zero_le r0
  obtain ⟨j, hj, j0, j1⟩ := rem_fin which 15 (by decide) (by decide)
  have hc : j = 0 ∨ j = 1 ∨ j = 2 ∨ j = 3 ∨ j = 4 ∨ j = 5 ∨ j = 6 ∨ j = 7 ∨ j = 8 ∨ j = 9 ∨ j = 10 ∨ j = 11 ∨ j = 12 ∨ j = 13 ∨ j = 14 := by omega
  rcases hc with rfl | rfl | rfl | rfl | rfl | rfl | rfl | rfl | rfl | rfl | rfl | rfl | rfl | rfl | rfl
  · exact forms_0 which x _ rfl (by omega) (by omega) hj n hr (by omega) w
  · exact forms_1 which x _ rfl (by omega) (by omega) hj n hr (by omega) w
  · exact forms_2 which x _ rfl (by omega) (by omega) hj n hr (by omega) w
  · exact forms_3 which x _ rfl (by omega) (by omega) hj n hr (by omega) w
  · exact forms_4 which x _ rfl (by omega) (by omega) hj n hr (by omega) w
  · exact forms_5 which x _ rfl (by omega) (by omega) hj n hr (by omega) w
  · exact forms_6 which x _ rfl (by omega) (by omega) hj n hr (by omega) w
  · exact forms_7 which x _ rfl (by omega) (by omega) hj n hr (by omega) w
  · exact forms_8 which x _ rfl (by omega) (by omega) hj n hr (by omega) w
  · exact forms_9 which x _ rfl (by omega) (by omega) hj n hr (by omega) w
  · exact forms_10 which x _ rfl (by omega) (by omega) hj n hr (by omega) w
  · exact forms_11 which x _ rfl (by omega) (by omega) hj n hr (by omega) w
  · exact forms_12 which x _ rfl (by omega) (by omega) hj n hr (by omega) w
  · exact forms_13 which x _ rfl (by omega) (by omega) hj n hr (by omega) w
  · exact forms_14 which x _ rfl (by omega) (by omega) hj n hr (by omega) w
end Go.Proofs.Ytgfldfkgialdlaa
