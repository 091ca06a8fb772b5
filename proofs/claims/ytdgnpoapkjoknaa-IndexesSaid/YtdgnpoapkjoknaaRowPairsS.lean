/- What comes in, opened: slices of pairs, with the bounds of their texts. -/
import Derived.Test.YtdgnpoapkjoknaaRowPairs
import Derived.Test.YtdgnpoapkjoknaaRow
import Derived.Lib.SmallJoins
import Derived.Deep.Slices
import Derived.Deep.Fields
namespace Go.Proofs.Ytdgnpoapkjoknaa
set_option linter.unusedVariables false
set_option linter.unusedSimpArgs false
open Go.RowKit
open Go.ChangeShapes Go.WideShapes Go.Deep

theorem weightsAll_mem {H : Type} {P : Program} {e : TypeId} : ∀ {ds : List (DataW H)} {d : DataW H} {n : Nat}, d ∈ ds → n ∈ d.weights P e → n ∈ DataW.weightsAll P e ds
  | d0 :: ds, d, n, hd, hn => by
    rw [DataW.weightsAll]
    rcases List.mem_cons.1 hd with rfl | hd
    · exact List.mem_append_left _ hn
    · exact List.mem_append_right _ (weightsAll_mem hd hn)
theorem open_PairS {H : Type} {enc : TypeId × Value → H} {P : Program} {W : World} {base : Nat} {spare : Nat → Bool} {held : Bool} {t e : TypeId} {a : Option Addr} {len cap : Nat} {d : DataW H} {ps : List MemPlace} {f0 f1 : Field} {ts : List TypeId} {ds : List (DataW H)} {jj : Nat}
    (hsz : (DataW.weightsEach P ts ds).all (· ≤ reachBytes) = true) (ht : ts[jj]? = some t) (hd : ds[jj]? = some d) (hB : P.bytesOf e = 32) (hu : P.underlying t = some (.slice e)) (hs : P.underlying e = some (.struct #[f0, f1])) (hone : oneCellFields P #[f0, f1] = true) (hC : P.cellsOf e = 2) (t0 : P.underlying f0.type = some .string) (t1 : P.underlying f1.type = some .string)
    (h : DataW.Trod enc P W base spare held t (.slice a len cap) d ps) : ∃ rs, RdP W (.slice a len cap) rs ∧ rs.length * 32 ≤ 140737488351232 ∧ ∀ r ∈ rs, r.key.size ≤ 140737488351232 ∧ r.val.size ≤ 140737488351232 := by
  obtain ⟨fuel, hf⟩ := h
  rcases open_slice hu hf with ⟨hcs, _⟩ | ⟨x, l, c, m, n, D, Pl, hcs, _, hl, hm, hmm, hx, hi⟩
  · simp [Value.cells] at hcs
    obtain ⟨rfl, rfl, rfl⟩ := hcs
    exact ⟨[], RdP.nil W, by decide, fun r hr => by simp at hr⟩
  · simp [Value.cells] at hcs
    obtain ⟨rfl, rfl, rfl⟩ := hcs
    obtain ⟨hx, _⟩ := Prod.mk.inj hx
    subst hx
    have z := sized_slice hsz ht hd hu
    rw [hB, List.length_map, List.length_range] at z
    have z2 : len * 32 ≤ 140737488351232 := Nat.le_trans (Nat.mul_le_mul_right 32 (Nat.le_add_right _ _)) z
    have hlm : len ≤ m := by rw [hmm]; split <;> omega
    have per : ∀ i, i < len → ∃ r : PairV, (∀ j, j < 2 → W.cell? (x.add (i * 2 + j)) = (cellsP2 r)[j]?) ∧ r.key.size ≤ 140737488351232 ∧ r.val.size ≤ 140737488351232 := by
      intro i hil
      have mem : ∀ n', n' ∈ (D i).weights P e → n' ≤ 140737488351232 := fun n' hn' => by
        have := List.all_eq_true.1 hsz _ (DataW.weights_mem_each ht hd n' (by simp only [DataW.weights, hu]; exact List.mem_cons_of_mem _ (List.mem_append_left _ (weightsAll_mem (List.mem_map.2 ⟨i, List.mem_range.2 hil, rfl⟩) hn'))))
        exact reach_le (by simpa using this)
      obtain ⟨cs', hc, ht'⟩ := hi i (by omega)
      rw [hC] at hc
      obtain ⟨_, hlen, hcell⟩ := World.cells?_some hc
      obtain ⟨xs, n', _, hxe, _, hxl, hf⟩ := DataW.trod_struct hs ht'
      match cs', hlen, xs, hxl, hxe with
      | [c0, c1], _, [y0, y1], _, hxe =>
        obtain ⟨o0, k0⟩ := hone_of hone 0 f0 rfl
        obtain ⟨o1, k1⟩ := hone_of hone 1 f1 rfl
        have h0 := hf 0 f0 rfl
        have h1 := hf 1 f1 rfl
        rw [o0, k0] at h0
        rw [o1, k1] at h1
        have g0 : DataW.trod enc P W base spare held n' f0.type [c0] = some y0 := h0
        have g1 : DataW.trod enc P W base spare held n' f1.type [c1] = some y1 := h1
        have hcell' : ∀ j, j < 2 → W.cell? (x.add (i * 2 + j)) = [c0, c1][j]? := fun j hj => by rw [← Go.Deep.add_add]; exact hcell j hj
        obtain ⟨key, e0, ey0, _⟩ := DataW.trod_string t0 g0
        obtain ⟨v, e1, ey1, _⟩ := DataW.trod_string t1 g1
        simp only [List.cons.injEq, and_true] at e0 e1
        subst e0 e1
        have hD : D i = .agg [.lit (.string key.data.toList), .lit (.string v.data.toList)] := by
          have := (Prod.mk.inj hxe).1
          rw [ey0, ey1] at this
          simpa using this
        have hw : (D i).weights P e = [key.data.toList.length, v.data.toList.length] := by
          rw [hD]
          simp [DataW.weights, DataW.weightsEach, hs]
        have l2 := mem key.data.toList.length (by rw [hw]; simp)
        have l3 := mem v.data.toList.length (by rw [hw]; simp)
        rw [data_len] at l2 l3
        exact ⟨⟨key, v⟩, hcell', l2, l3⟩
    have hz := fun (i : Nat) (h : i < len) => Classical.choose_spec (per i h)
    refine ⟨(List.range len).map (fun i => if h : i < len then Classical.choose (per i h) else zeroP), RdP.of hl hm fun i hi => ?_, by simpa using z2, ?_⟩
    · rw [dif_pos hi]
      exact (hz i hi).1
    · intro r hr
      obtain ⟨i, hi, rfl⟩ := List.mem_map.1 hr
      have hi := List.mem_range.1 hi
      rw [dif_pos hi]
      exact (hz i hi).2

end Go.Proofs.Ytdgnpoapkjoknaa
