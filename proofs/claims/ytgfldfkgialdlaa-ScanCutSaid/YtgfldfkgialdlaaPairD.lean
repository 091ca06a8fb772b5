/- The statements Pairs, PairForms: their walks. -/
import Derived.Test.YtgfldfkgialdlaaPairC
namespace Go.Proofs.Ytgfldfkgialdlaa
set_option linter.unusedVariables false
set_option linter.unusedSimpArgs false
open Go.RowKit
theorem pair_ex {α β : Type} (p : α × β) : ∃ a b, p = (a, b) := ⟨p.1, p.2, rfl⟩
/-- An index that is cut to n places. -/
theorem rem_fin (x n : Int) (h0 : 0 < n) (h1 : n < 9223372036854775808) : ∃ r : Int, wrap64 ((IntKind.u64.wrap x).tmod n) = r ∧ 0 ≤ r ∧ r < n := by
  have hu : 0 ≤ IntKind.u64.wrap x := by
    simp only [IntKind.wrap, IntKind.signed, IntKind.bits]
    exact Int.emod_nonneg _ (by decide)
  rw [Int.tmod_eq_emod_of_nonneg hu]
  have a := Int.emod_nonneg (IntKind.u64.wrap x) (show n ≠ 0 by omega)
  have b := Int.emod_lt_of_pos (IntKind.u64.wrap x) h0
  exact ⟨IntKind.u64.wrap x % n, IntWalk.wrap64_in _ ⟨by omega, by omega⟩, a, b⟩

theorem str_nil_tl : (str []).toList = [] := by rw [ByteArray.toList_eq]; rfl

end Go.Proofs.Ytgfldfkgialdlaa
