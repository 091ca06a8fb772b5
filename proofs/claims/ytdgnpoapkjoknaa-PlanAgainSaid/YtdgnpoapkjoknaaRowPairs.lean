/- What comes in, opened: slices of records, of pairs, with their bounds. -/
import Derived.Test.YtdgnpoapkjoknaaIdxK
import Derived.Test.YtdgnpoapkjoknaaRow
import Derived.Lib.SmallJoins
import Derived.Deep.Slices
import Derived.Deep.Fields
namespace Go.Proofs.Ytdgnpoapkjoknaa
set_option linter.unusedVariables false
set_option linter.unusedSimpArgs false
open Go.RowKit
open Go.ChangeShapes Go.WideShapes Go.Deep

theorem RdR.of {W : World} {a : Addr} {len cap : Nat} {f : Nat → RecV} (hl : len ≤ cap) (hm : cap ≤ maxLen) (hf : ∀ i, i < len → ∀ j, j < 4 → W.cell? (a.add (i * 4 + j)) = (cellsR (f i))[j]?) :
    RdR W (.slice (some a) len cap) ((List.range len).map f) := by
  have hln : ((List.range len).map f).length = len := by simp
  by_cases hp : 0 < len
  · obtain ⟨b, o, spot⟩ := a
    have h0 := hf 0 hp 0 (by decide)
    have hspot : spot = none := by
      have h1 : W.cell? ⟨b, o, spot⟩ = some ((cellsR (f 0)).getD 0 (.bool false)) := by simpa [Addr.add, cellsR] using h0
      simpa using World.cell?_spot h1
    subst hspot
    refine .inr ⟨b, o, cap, by rw [hln], by rw [hln]; exact hl, hm, fun k u hk => ?_⟩
    have hk2 : k < len * 4 := by
      have := (List.getElem?_eq_some_iff.1 hk).1
      rw [flat_len, hln] at this
      exact this
    have h2 := flat_at ((List.range len).map f) (k / 4) (by rw [hln]; omega) (k % 4) (by omega)
    rw [show k / 4 * 4 + k % 4 = k by omega, hk] at h2
    have h3 := hf (k / 4) (by omega) (k % 4) (by omega)
    rw [show k / 4 * 4 + k % 4 = k by omega] at h3
    have h4 : ((List.range len).map f).getD (k / 4) zeroR = f (k / 4) := by
      rw [List.getD_eq_getElem?_getD, List.getElem?_map, List.getElem?_range (by omega)]
      rfl
    rw [h4] at h2
    rw [← Go.WideShapes.add_plain, h3, ← h2]
  · obtain rfl : len = 0 := by omega
    exact .inl ⟨rfl, some a, cap, rfl, fun h => by cases h⟩
theorem open_RecB {H : Type} {enc : TypeId × Value → H} {P : Program} {W : World} {base : Nat} {spare : Nat → Bool} {held : Bool} {t e : TypeId} {a : Option Addr} {len cap : Nat} {d : DataW H} {ps : List MemPlace} {f0 f1 f2 f3 : Field} {ts : List TypeId} {ds : List (DataW H)} {jj : Nat}
    (hsz : (DataW.weightsEach P ts ds).all (· ≤ reachBytes) = true) (ht : ts[jj]? = some t) (hd : ds[jj]? = some d) (hB : P.bytesOf e = 48) (hu : P.underlying t = some (.slice e)) (hs : P.underlying e = some (.struct #[f0, f1, f2, f3])) (hone : oneCellFields P #[f0, f1, f2, f3] = true) (hC : P.cellsOf e = 4) (t0 : P.underlying f0.type = some (.int .i64)) (t1 : P.underlying f1.type = some (.int .i64)) (t2 : P.underlying f2.type = some .string) (t3 : P.underlying f3.type = some .string)
    (h : DataW.Trod enc P W base spare held t (.slice a len cap) d ps) : ∃ rs, RdR W (.slice a len cap) rs ∧ rs.length * 48 ≤ 140737488351232 ∧ ∀ r ∈ rs, r.key.size ≤ 9223372036854775807 ∧ r.val.size ≤ 9223372036854775807 := by
  obtain ⟨fuel, hf⟩ := h
  rcases open_slice hu hf with ⟨hcs, _⟩ | ⟨x, l, c, m, n, D, Pl, hcs, _, hl, hm, hmm, hx, hi⟩
  · simp [Value.cells] at hcs
    obtain ⟨rfl, rfl, rfl⟩ := hcs
    exact ⟨[], RdR.nil W, by decide, fun r hr => by simp at hr⟩
  · simp [Value.cells] at hcs
    obtain ⟨rfl, rfl, rfl⟩ := hcs
    obtain ⟨hx, _⟩ := Prod.mk.inj hx
    subst hx
    have z := sized_slice hsz ht hd hu
    rw [hB, List.length_map, List.length_range] at z
    have z2 : len * 48 ≤ 140737488351232 := Nat.le_trans (Nat.mul_le_mul_right 48 (Nat.le_add_right _ _)) z
    have hlm : len ≤ m := by rw [hmm]; split <;> omega
    have per : ∀ i, i < len → ∃ r : RecV, (∀ j, j < 4 → W.cell? (x.add (i * 4 + j)) = (cellsR r)[j]?) ∧ r.key.size ≤ 9223372036854775807 ∧ r.val.size ≤ 9223372036854775807 := by
      intro i hil
      obtain ⟨cs', hc, ht'⟩ := hi i (by omega)
      rw [hC] at hc
      obtain ⟨_, hlen, hcell⟩ := World.cells?_some hc
      obtain ⟨xs, n', _, _, _, hxl, hf⟩ := DataW.trod_struct hs ht'
      match cs', hlen, xs, hxl with
      | [c0, c1, c2, c3], _, [y0, y1, y2, y3], _ =>
        obtain ⟨o0, k0⟩ := hone_of hone 0 f0 rfl
        obtain ⟨o1, k1⟩ := hone_of hone 1 f1 rfl
        obtain ⟨o2, k2⟩ := hone_of hone 2 f2 rfl
        obtain ⟨o3, k3⟩ := hone_of hone 3 f3 rfl
        have h0 := hf 0 f0 rfl
        have h1 := hf 1 f1 rfl
        have h2 := hf 2 f2 rfl
        have h3 := hf 3 f3 rfl
        rw [o0, k0] at h0
        rw [o1, k1] at h1
        rw [o2, k2] at h2
        rw [o3, k3] at h3
        have g0 : DataW.trod enc P W base spare held n' f0.type [c0] = some y0 := h0
        have g1 : DataW.trod enc P W base spare held n' f1.type [c1] = some y1 := h1
        have g2 : DataW.trod enc P W base spare held n' f2.type [c2] = some y2 := h2
        have g3 : DataW.trod enc P W base spare held n' f3.type [c3] = some y3 := h3
        have hcell' : ∀ j, j < 4 → W.cell? (x.add (i * 4 + j)) = [c0, c1, c2, c3][j]? := fun j hj => by rw [← Go.Deep.add_add]; exact hcell j hj
        obtain ⟨k, e0, _, _⟩ := DataW.trod_int t0 g0
        obtain ⟨ep, e1, _, _⟩ := DataW.trod_int t1 g1
        obtain ⟨key, e2, _, l2⟩ := DataW.trod_string t2 g2
        obtain ⟨v, e3, _, l3⟩ := DataW.trod_string t3 g3
        simp only [List.cons.injEq, and_true] at e0 e1 e2 e3
        subst e0 e1 e2 e3
        exact ⟨⟨k, ep, key, v⟩, hcell', l2, l3⟩
    have hz := fun (i : Nat) (h : i < len) => Classical.choose_spec (per i h)
    refine ⟨(List.range len).map (fun i => if h : i < len then Classical.choose (per i h) else zeroR), RdR.of hl hm fun i hi => ?_, by simpa using z2, ?_⟩
    · rw [dif_pos hi]
      exact (hz i hi).1
    · intro r hr
      obtain ⟨i, hi, rfl⟩ := List.mem_map.1 hr
      have hi := List.mem_range.1 hi
      rw [dif_pos hi]
      exact (hz i hi).2

theorem RdP.of {W : World} {a : Addr} {len cap : Nat} {f : Nat → PairV} (hl : len ≤ cap) (hm : cap ≤ maxLen) (hf : ∀ i, i < len → ∀ j, j < 2 → W.cell? (a.add (i * 2 + j)) = (cellsP2 (f i))[j]?) :
    RdP W (.slice (some a) len cap) ((List.range len).map f) := by
  have hln : ((List.range len).map f).length = len := by simp
  by_cases hp : 0 < len
  · obtain ⟨b, o, spot⟩ := a
    have h0 := hf 0 hp 0 (by decide)
    have hspot : spot = none := by
      have h1 : W.cell? ⟨b, o, spot⟩ = some ((cellsP2 (f 0)).getD 0 (.bool false)) := by simpa [Addr.add, cellsP2] using h0
      simpa using World.cell?_spot h1
    subst hspot
    refine .inr ⟨b, o, cap, by rw [hln], by rw [hln]; exact hl, hm, fun k u hk => ?_⟩
    have hk2 : k < len * 2 := by
      have := (List.getElem?_eq_some_iff.1 hk).1
      rw [flatP_len, hln] at this
      exact this
    have h2 := flatP_at ((List.range len).map f) (k / 2) (by rw [hln]; omega) (k % 2) (by omega)
    rw [show k / 2 * 2 + k % 2 = k by omega, hk] at h2
    have h3 := hf (k / 2) (by omega) (k % 2) (by omega)
    rw [show k / 2 * 2 + k % 2 = k by omega] at h3
    have h4 : ((List.range len).map f).getD (k / 2) zeroP = f (k / 2) := by
      rw [List.getD_eq_getElem?_getD, List.getElem?_map, List.getElem?_range (by omega)]
      rfl
    rw [h4] at h2
    rw [← Go.WideShapes.add_plain, h3, ← h2]
  · obtain rfl : len = 0 := by omega
    exact .inl ⟨rfl, some a, cap, rfl, fun h => by cases h⟩
theorem open_PairB {H : Type} {enc : TypeId × Value → H} {P : Program} {W : World} {base : Nat} {spare : Nat → Bool} {held : Bool} {t e : TypeId} {a : Option Addr} {len cap : Nat} {d : DataW H} {ps : List MemPlace} {f0 f1 : Field} {ts : List TypeId} {ds : List (DataW H)} {jj : Nat}
    (hsz : (DataW.weightsEach P ts ds).all (· ≤ reachBytes) = true) (ht : ts[jj]? = some t) (hd : ds[jj]? = some d) (hB : P.bytesOf e = 32) (hu : P.underlying t = some (.slice e)) (hs : P.underlying e = some (.struct #[f0, f1])) (hone : oneCellFields P #[f0, f1] = true) (hC : P.cellsOf e = 2) (t0 : P.underlying f0.type = some .string) (t1 : P.underlying f1.type = some .string)
    (h : DataW.Trod enc P W base spare held t (.slice a len cap) d ps) : ∃ rs, RdP W (.slice a len cap) rs ∧ rs.length * 32 ≤ 140737488351232 ∧ ∀ r ∈ rs, r.key.size ≤ 9223372036854775807 ∧ r.val.size ≤ 9223372036854775807 := by
  obtain ⟨fuel, hf⟩ := h
  rcases open_slice hu hf with ⟨hcs, _⟩ | ⟨x, l, c, m, n, D, Pl, hcs, _, hl, hm, hmm, hx, hi⟩
  · simp [Value.cells] at hcs
    obtain ⟨rfl, rfl, rfl⟩ := hcs
    exact ⟨[], RdP.nil W, by decide, fun r hr => by simp at hr⟩
  · simp [Value.cells] at hcs
    obtain ⟨rfl, rfl, rfl⟩ := hcs
    obtain ⟨hx, _⟩ := Prod.mk.inj hx
    subst hx
    have z := sized_slice hsz ht hd hu
    rw [hB, List.length_map, List.length_range] at z
    have z2 : len * 32 ≤ 140737488351232 := Nat.le_trans (Nat.mul_le_mul_right 32 (Nat.le_add_right _ _)) z
    have hlm : len ≤ m := by rw [hmm]; split <;> omega
    have per : ∀ i, i < len → ∃ r : PairV, (∀ j, j < 2 → W.cell? (x.add (i * 2 + j)) = (cellsP2 r)[j]?) ∧ r.key.size ≤ 9223372036854775807 ∧ r.val.size ≤ 9223372036854775807 := by
      intro i hil
      obtain ⟨cs', hc, ht'⟩ := hi i (by omega)
      rw [hC] at hc
      obtain ⟨_, hlen, hcell⟩ := World.cells?_some hc
      obtain ⟨xs, n', _, _, _, hxl, hf⟩ := DataW.trod_struct hs ht'
      match cs', hlen, xs, hxl with
      | [c0, c1], _, [y0, y1], _ =>
        obtain ⟨o0, k0⟩ := hone_of hone 0 f0 rfl
        obtain ⟨o1, k1⟩ := hone_of hone 1 f1 rfl
        have h0 := hf 0 f0 rfl
        have h1 := hf 1 f1 rfl
        rw [o0, k0] at h0
        rw [o1, k1] at h1
        have g0 : DataW.trod enc P W base spare held n' f0.type [c0] = some y0 := h0
        have g1 : DataW.trod enc P W base spare held n' f1.type [c1] = some y1 := h1
        have hcell' : ∀ j, j < 2 → W.cell? (x.add (i * 2 + j)) = [c0, c1][j]? := fun j hj => by rw [← Go.Deep.add_add]; exact hcell j hj
        obtain ⟨key, e0, _, l2⟩ := DataW.trod_string t0 g0
        obtain ⟨v, e1, _, l3⟩ := DataW.trod_string t1 g1
        simp only [List.cons.injEq, and_true] at e0 e1
        subst e0 e1
        exact ⟨⟨key, v⟩, hcell', l2, l3⟩
    have hz := fun (i : Nat) (h : i < len) => Classical.choose_spec (per i h)
    refine ⟨(List.range len).map (fun i => if h : i < len then Classical.choose (per i h) else zeroP), RdP.of hl hm fun i hi => ?_, by simpa using z2, ?_⟩
    · rw [dif_pos hi]
      exact (hz i hi).1
    · intro r hr
      obtain ⟨i, hi, rfl⟩ := List.mem_map.1 hr
      have hi := List.mem_range.1 hi
      rw [dif_pos hi]
      exact (hz i hi).2

end Go.Proofs.Ytdgnpoapkjoknaa
