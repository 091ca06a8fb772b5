/- The statement SfdpForms, by ways. -/
import Derived.Test.YtgkgfeggpoimjaaSfG0
import Derived.Test.YtgkgfeggpoimjaaSfG1
import Derived.Test.YtgkgfeggpoimjaaSfG2
import Derived.Test.YtgkgfeggpoimjaaSfG3
import Derived.Test.YtgkgfeggpoimjaaSfG4
import Derived.Test.YtgkgfeggpoimjaaSfG5
import Derived.Test.YtgkgfeggpoimjaaSfG6
import Derived.StillTailTactics
namespace Go.Proofs.Ytgkgfeggpoimjaa
set_option linter.unusedVariables false
set_option linter.unusedSimpArgs false
open Go.RowKit
set_option maxRecDepth 100000 in
set_option maxHeartbeats 8000000 in
theorem SfdpForms_walk (which : Int) (_ : -9223372036854775808 ≤ which ∧ which ≤ 9223372036854775807) (x : Int) (_ : -9223372036854775808 ≤ x ∧ x ≤ 9223372036854775807) (w : World) :
    Calls Try.prog 10 #[.int .i64 which, .int .i64 x] w fun e w' => e = .returned (.bool true) ∧ Below w.heap.size w w' := by
  obtain ⟨r, hr, r0, r1⟩ := rem_finS which 7 (by decide) (by decide)
  rcases (show r = 0 ∨ r = 1 ∨ r = 2 ∨ r = 3 ∨ r = 4 ∨ r = 5 ∨ r = 6 by omega) with rfl | rfl | rfl | rfl | rfl | rfl | rfl
  · exact SfdpForms_way0 which (by assumption) x (by assumption) hr w
  · exact SfdpForms_way1 which (by assumption) x (by assumption) hr w
  · exact SfdpForms_way2 which (by assumption) x (by assumption) hr w
  · exact SfdpForms_way3 which (by assumption) x (by assumption) hr w
  · exact SfdpForms_way4 which (by assumption) x (by assumption) hr w
  · exact SfdpForms_way5 which (by assumption) x (by assumption) hr w
  · exact SfdpForms_way6 which (by assumption) x (by assumption) hr w
end Go.Proofs.Ytgkgfeggpoimjaa
