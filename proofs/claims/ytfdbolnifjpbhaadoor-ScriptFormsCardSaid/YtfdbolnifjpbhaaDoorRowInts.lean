/- What comes in, opened: ints, texts, slices of ints. -/
import Derived.Test.YtfdbolnifjpbhaaDoorInts
import Derived.Test.YtfdbolnifjpbhaaDoorRow
import Derived.ProofKit
import Derived.OpenShut
import Derived.ShutString
import Derived.ChangeOld
import Derived.SizedLaws
namespace Go.Proofs.YtfdbolnifjpbhaaDoor
set_option linter.unusedVariables false
set_option linter.unusedSimpArgs false
open Go.RowKit
open Go.ChangeShapes Go.WideShapes
/-- A slice of ints that came in. -/
theorem open_rd {H : Type} {enc : TypeId × Value → H} {P : Program} {W : World} {base : Nat} {spare : Nat → Bool} {held : Bool} {t e : TypeId} {a : Option Addr} {len cap : Nat} {d : DataW H} {ps : List MemPlace} {ts : List TypeId} {ds : List (DataW H)} {j : Nat}
    (hsz : (DataW.weightsEach P ts ds).all (· ≤ reachBytes) = true) (ht : ts[j]? = some t) (hd : ds[j]? = some d) (hu : P.underlying t = some (.slice e)) (he : P.underlying e = some (.int .i64)) (hc : P.cellsOf e = 1) (hB : P.bytesOf e = 8)
    (h : DataW.Trod enc P W base spare held t (.slice a len cap) d ps) : ∃ xs, Rd W (.slice a len cap) xs ∧ xs.length * 8 ≤ 140737488351232 ∧ ∀ n ∈ xs, (Lit.int .i64 n).wf = true := by
  obtain ⟨fuel, hf⟩ := h
  rcases open_ints hu he hc hf with ⟨hcs, _⟩ | ⟨x, l, c, zs, hcs, _, hl, hm, hz, hx, hcell, hwf⟩
  · simp [Value.cells] at hcs
    obtain ⟨rfl, rfl, rfl⟩ := hcs
    exact ⟨[], .inl ⟨rfl, none, 0, rfl, fun _ => rfl⟩, by simp, fun n hn => by simp at hn⟩
  · simp [Value.cells] at hcs
    obtain ⟨rfl, rfl, rfl⟩ := hcs
    obtain ⟨hx, _⟩ := Prod.mk.inj hx
    subst hx
    have z := sized_slice hsz ht hd hu
    rw [hB] at z
    have hl2 : len ≤ zs.length := by
      rw [hz]
      split
      · exact hl
      · exact Nat.le_refl _
    have h1 : (lits (H := H) .i64 (zs.take len)).length + (lits (H := H) .i64 (zs.drop len)).length = zs.length := by
      simp [lits]
      omega
    rw [h1] at z
    have z2 : zs.length * 8 ≤ 140737488351232 := z
    have hlen : (zs.take len).length = len := by simp; omega
    refine ⟨zs.take len, ?_, by rw [hlen]; omega, fun n hn => hwf n (List.mem_of_mem_take hn)⟩
    by_cases hp : 0 < len
    · obtain ⟨b, o, rfl, hcc⟩ := ints_at hcell (by omega)
      refine .inr ⟨b, o, cap, by rw [hlen], by rw [hlen]; exact hl, hm, fun j hj => ?_⟩
      rw [hlen] at hj
      rw [hcc j (by omega)]
      simp [List.getD_eq_getElem?_getD, List.getElem?_take, hj]
    · obtain rfl : len = 0 := by omega
      exact .inl ⟨by simp, some x, cap, rfl, fun h => by cases h⟩
end Go.Proofs.YtfdbolnifjpbhaaDoor
