/- The statement SfdpForms. -/
import Derived.Test.YtgkgfeggpoimjaaSfE
import Derived.StillTailTactics
namespace Go.Proofs.Ytgkgfeggpoimjaa
set_option linter.unusedVariables false
set_option linter.unusedSimpArgs false
open Go.RowKit
theorem rem_finS (x n : Int) (h0 : 0 < n) (h1 : n < 9223372036854775808) : ∃ r : Int, wrap64 ((IntKind.u64.wrap x).tmod n) = r ∧ 0 ≤ r ∧ r < n := by
  have hu : 0 ≤ IntKind.u64.wrap x := by
    simp only [IntKind.wrap, IntKind.signed, IntKind.bits]
    exact Int.emod_nonneg _ (by decide)
  rw [Int.tmod_eq_emod_of_nonneg hu]
  have a := Int.emod_nonneg (IntKind.u64.wrap x) (show n ≠ 0 by omega)
  have b := Int.emod_lt_of_pos (IntKind.u64.wrap x) h0
  exact ⟨IntKind.u64.wrap x % n, IntWalk.wrap64_in _ ⟨by omega, by omega⟩, a, b⟩
theorem and1023_S (x : Int) : ∃ d : Int, bits .and .i64 x 1023 = d ∧ 0 ≤ d ∧ d ≤ 1023 := by
  have h1 := Int.emod_nonneg x (show (1024 : Int) ≠ 0 by decide)
  have h2 := Int.emod_lt_of_pos x (show (0 : Int) < 1024 by decide)
  exact ⟨x % 1024, and1023 x, by omega, by omega⟩
theorem sfE_no {b : Int} (h : powB b = false) : sfE b 1 1 = 700 ∧ sfE 1 b 1 = 700 ∧ sfE 1 1 b = 700 := by
  have h1 : powB 1 = true := by decide +kernel
  unfold sfE sfOk
  rw [h, h1]
  exact ⟨rfl, rfl, rfl⟩
theorem ans_no {t : ByteArray} (h : ¬ okS t) : ansS t 0 0 0 700 := .inr ⟨h, rfl, rfl, rfl, rfl⟩

end Go.Proofs.Ytgkgfeggpoimjaa
