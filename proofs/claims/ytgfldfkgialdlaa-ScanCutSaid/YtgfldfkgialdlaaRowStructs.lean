/- What comes in, opened: slices of records, of views. -/
import Derived.Test.YtgfldfkgialdlaaScanC
import Derived.Test.YtgfldfkgialdlaaRow
import Derived.Lib.SmallJoins
import Derived.Deep.Slices
import Derived.Deep.Fields
namespace Go.Proofs.Ytgfldfkgialdlaa
set_option linter.unusedVariables false
set_option linter.unusedSimpArgs false
open Go.RowKit
open Go.ChangeShapes Go.WideShapes Go.Deep

theorem RdR.of {W : World} {a : Addr} {len cap : Nat} {f : Nat → RecV} (hl : len ≤ cap) (hm : cap ≤ maxLen) (hf : ∀ i, i < len → ∀ j, j < 4 → W.cell? (a.add (i * 4 + j)) = (cellsR (f i))[j]?) :
    RdR W (.slice (some a) len cap) ((List.range len).map f) := by
  have hln : ((List.range len).map f).length = len := by simp
  by_cases hp : 0 < len
  · obtain ⟨b, o, spot⟩ := a
    have h0 := hf 0 hp 0 (by decide)
    have hspot : spot = none := by
      have h1 : W.cell? ⟨b, o, spot⟩ = some ((cellsR (f 0)).getD 0 (.bool false)) := by simpa [Addr.add, cellsR] using h0
      simpa using World.cell?_spot h1
    subst hspot
    refine .inr ⟨b, o, cap, by rw [hln], by rw [hln]; exact hl, hm, fun k u hk => ?_⟩
    have hk2 : k < len * 4 := by
      have := (List.getElem?_eq_some_iff.1 hk).1
      rw [flat_len, hln] at this
      exact this
    have h2 := flat_at ((List.range len).map f) (k / 4) (by rw [hln]; omega) (k % 4) (by omega)
    rw [show k / 4 * 4 + k % 4 = k by omega, hk] at h2
    have h3 := hf (k / 4) (by omega) (k % 4) (by omega)
    rw [show k / 4 * 4 + k % 4 = k by omega] at h3
    have h4 : ((List.range len).map f).getD (k / 4) zeroR = f (k / 4) := by
      rw [List.getD_eq_getElem?_getD, List.getElem?_map, List.getElem?_range (by omega)]
      rfl
    rw [h4] at h2
    rw [← Go.WideShapes.add_plain, h3, ← h2]
  · obtain rfl : len = 0 := by omega
    exact .inl ⟨rfl, some a, cap, rfl, fun h => by cases h⟩
theorem open_RecV {H : Type} {enc : TypeId × Value → H} {P : Program} {W : World} {base : Nat} {spare : Nat → Bool} {held : Bool} {t e : TypeId} {a : Option Addr} {len cap : Nat} {d : DataW H} {ps : List MemPlace} {f0 f1 f2 f3 : Field}
    (hu : P.underlying t = some (.slice e)) (hs : P.underlying e = some (.struct #[f0, f1, f2, f3])) (hone : oneCellFields P #[f0, f1, f2, f3] = true) (hC : P.cellsOf e = 4) (t0 : P.underlying f0.type = some (.int .i64)) (t1 : P.underlying f1.type = some (.int .i64)) (t2 : P.underlying f2.type = some .string) (t3 : P.underlying f3.type = some .string)
    (h : DataW.Trod enc P W base spare held t (.slice a len cap) d ps) : ∃ rs, RdR W (.slice a len cap) rs ∧ ∀ r ∈ rs, r.key.size ≤ 9223372036854775807 ∧ r.val.size ≤ 9223372036854775807 := by
  obtain ⟨fuel, hf⟩ := h
  rcases open_slice hu hf with ⟨hcs, _⟩ | ⟨x, l, c, m, n, D, Pl, hcs, _, hl, hm, hmm, _, hi⟩
  · simp [Value.cells] at hcs
    obtain ⟨rfl, rfl, rfl⟩ := hcs
    exact ⟨[], RdR.nil W, fun r hr => by simp at hr⟩
  · simp [Value.cells] at hcs
    obtain ⟨rfl, rfl, rfl⟩ := hcs
    have hlm : len ≤ m := by rw [hmm]; split <;> omega
    have per : ∀ i, i < len → ∃ r : RecV, (∀ j, j < 4 → W.cell? (x.add (i * 4 + j)) = (cellsR r)[j]?) ∧ r.key.size ≤ 9223372036854775807 ∧ r.val.size ≤ 9223372036854775807 := by
      intro i hil
      obtain ⟨cs', hc, ht'⟩ := hi i (by omega)
      rw [hC] at hc
      obtain ⟨_, hlen, hcell⟩ := World.cells?_some hc
      obtain ⟨xs, n', _, _, _, hxl, hf⟩ := DataW.trod_struct hs ht'
      match cs', hlen, xs, hxl with
      | [c0, c1, c2, c3], _, [y0, y1, y2, y3], _ =>
        obtain ⟨o0, k0⟩ := hone_of hone 0 f0 rfl
        obtain ⟨o1, k1⟩ := hone_of hone 1 f1 rfl
        obtain ⟨o2, k2⟩ := hone_of hone 2 f2 rfl
        obtain ⟨o3, k3⟩ := hone_of hone 3 f3 rfl
        have h0 := hf 0 f0 rfl
        have h1 := hf 1 f1 rfl
        have h2 := hf 2 f2 rfl
        have h3 := hf 3 f3 rfl
        rw [o0, k0] at h0
        rw [o1, k1] at h1
        rw [o2, k2] at h2
        rw [o3, k3] at h3
        have g0 : DataW.trod enc P W base spare held n' f0.type [c0] = some y0 := h0
        have g1 : DataW.trod enc P W base spare held n' f1.type [c1] = some y1 := h1
        have g2 : DataW.trod enc P W base spare held n' f2.type [c2] = some y2 := h2
        have g3 : DataW.trod enc P W base spare held n' f3.type [c3] = some y3 := h3
        have hcell' : ∀ j, j < 4 → W.cell? (x.add (i * 4 + j)) = [c0, c1, c2, c3][j]? := fun j hj => by rw [← Go.Deep.add_add]; exact hcell j hj
        obtain ⟨k, e0, _, _⟩ := DataW.trod_int t0 g0
        obtain ⟨ep, e1, _, _⟩ := DataW.trod_int t1 g1
        obtain ⟨key, e2, _, l2⟩ := DataW.trod_string t2 g2
        obtain ⟨v, e3, _, l3⟩ := DataW.trod_string t3 g3
        simp only [List.cons.injEq, and_true] at e0 e1 e2 e3
        subst e0 e1 e2 e3
        exact ⟨⟨k, ep, key, v⟩, hcell', l2, l3⟩
    have hz := fun (i : Nat) (h : i < len) => Classical.choose_spec (per i h)
    refine ⟨(List.range len).map (fun i => if h : i < len then Classical.choose (per i h) else zeroR), RdR.of hl hm fun i hi => ?_, ?_⟩
    · rw [dif_pos hi]
      exact (hz i hi).1
    · intro r hr
      obtain ⟨i, hi, rfl⟩ := List.mem_map.1 hr
      have hi := List.mem_range.1 hi
      rw [dif_pos hi]
      exact (hz i hi).2

theorem RdV.of {W : World} {a : Addr} {len cap : Nat} {f : Nat → ViewV} (hl : len ≤ cap) (hm : cap ≤ maxLen) (hf : ∀ i, i < len → ∀ j, j < 4 → W.cell? (a.add (i * 4 + j)) = (cellsV (f i))[j]?) :
    RdV W (.slice (some a) len cap) ((List.range len).map f) := by
  have hln : ((List.range len).map f).length = len := by simp
  by_cases hp : 0 < len
  · obtain ⟨b, o, spot⟩ := a
    have h0 := hf 0 hp 0 (by decide)
    have hspot : spot = none := by
      have h1 : W.cell? ⟨b, o, spot⟩ = some ((cellsV (f 0)).getD 0 (.bool false)) := by simpa [Addr.add, cellsV] using h0
      simpa using World.cell?_spot h1
    subst hspot
    refine .inr ⟨b, o, cap, by rw [hln], by rw [hln]; exact hl, hm, fun k u hk => ?_⟩
    have hk2 : k < len * 4 := by
      have := (List.getElem?_eq_some_iff.1 hk).1
      rw [flatV_len, hln] at this
      exact this
    have h2 := flatV_at ((List.range len).map f) (k / 4) (by rw [hln]; omega) (k % 4) (by omega)
    rw [show k / 4 * 4 + k % 4 = k by omega, hk] at h2
    have h3 := hf (k / 4) (by omega) (k % 4) (by omega)
    rw [show k / 4 * 4 + k % 4 = k by omega] at h3
    have h4 : ((List.range len).map f).getD (k / 4) zeroV = f (k / 4) := by
      rw [List.getD_eq_getElem?_getD, List.getElem?_map, List.getElem?_range (by omega)]
      rfl
    rw [h4] at h2
    rw [← Go.WideShapes.add_plain, h3, ← h2]
  · obtain rfl : len = 0 := by omega
    exact .inl ⟨rfl, some a, cap, rfl, fun h => by cases h⟩
theorem open_ViewV {H : Type} {enc : TypeId × Value → H} {P : Program} {W : World} {base : Nat} {spare : Nat → Bool} {held : Bool} {t e : TypeId} {a : Option Addr} {len cap : Nat} {d : DataW H} {ps : List MemPlace} {f0 f1 f2 f3 : Field}
    (hu : P.underlying t = some (.slice e)) (hs : P.underlying e = some (.struct #[f0, f1, f2, f3])) (hone : oneCellFields P #[f0, f1, f2, f3] = true) (hC : P.cellsOf e = 4) {e2 : TypeId} (t0 : P.underlying f0.type = some .bool) (t1 : P.underlying f1.type = some (.int .i64)) (t2 : P.underlying f2.type = some (.slice e2)) (t3 : P.underlying f3.type = some (.int .i64))
    (h : DataW.Trod enc P W base spare held t (.slice a len cap) d ps) : ∃ rs, RdV W (.slice a len cap) rs := by
  obtain ⟨fuel, hf⟩ := h
  rcases open_slice hu hf with ⟨hcs, _⟩ | ⟨x, l, c, m, n, D, Pl, hcs, _, hl, hm, hmm, _, hi⟩
  · simp [Value.cells] at hcs
    obtain ⟨rfl, rfl, rfl⟩ := hcs
    exact ⟨[], RdV.nil W⟩
  · simp [Value.cells] at hcs
    obtain ⟨rfl, rfl, rfl⟩ := hcs
    have hlm : len ≤ m := by rw [hmm]; split <;> omega
    have per : ∀ i, i < len → ∃ r : ViewV, (∀ j, j < 4 → W.cell? (x.add (i * 4 + j)) = (cellsV r)[j]?) ∧ True := by
      intro i hil
      obtain ⟨cs', hc, ht'⟩ := hi i (by omega)
      rw [hC] at hc
      obtain ⟨_, hlen, hcell⟩ := World.cells?_some hc
      obtain ⟨xs, n', _, _, _, hxl, hf⟩ := DataW.trod_struct hs ht'
      match cs', hlen, xs, hxl with
      | [c0, c1, c2, c3], _, [y0, y1, y2, y3], _ =>
        obtain ⟨o0, k0⟩ := hone_of hone 0 f0 rfl
        obtain ⟨o1, k1⟩ := hone_of hone 1 f1 rfl
        obtain ⟨o2, k2⟩ := hone_of hone 2 f2 rfl
        obtain ⟨o3, k3⟩ := hone_of hone 3 f3 rfl
        have h0 := hf 0 f0 rfl
        have h1 := hf 1 f1 rfl
        have h2 := hf 2 f2 rfl
        have h3 := hf 3 f3 rfl
        rw [o0, k0] at h0
        rw [o1, k1] at h1
        rw [o2, k2] at h2
        rw [o3, k3] at h3
        have g0 : DataW.trod enc P W base spare held n' f0.type [c0] = some y0 := h0
        have g1 : DataW.trod enc P W base spare held n' f1.type [c1] = some y1 := h1
        have g2 : DataW.trod enc P W base spare held n' f2.type [c2] = some y2 := h2
        have g3 : DataW.trod enc P W base spare held n' f3.type [c3] = some y3 := h3
        have hcell' : ∀ j, j < 4 → W.cell? (x.add (i * 4 + j)) = [c0, c1, c2, c3][j]? := fun j hj => by rw [← Go.Deep.add_add]; exact hcell j hj
        obtain ⟨k, e0, _⟩ := DataW.trod_bool t0 g0
        obtain ⟨ep, e1, _, _⟩ := DataW.trod_int t1 g1
        obtain ⟨fr, e3, _, _⟩ := DataW.trod_int t3 g3
        simp only [List.cons.injEq, and_true] at e0 e1 e3
        subst e0 e1 e3
        rcases DataW.trod_slice t2 g2 with ⟨e2, _⟩ | ⟨a2, l2, c2', _, _, _, _, e2, _⟩
        · simp only [List.cons.injEq, and_true] at e2
          subst e2
          exact ⟨⟨k, ep, none, 0, 0, fr⟩, hcell', trivial⟩
        · simp only [List.cons.injEq, and_true] at e2
          subst e2
          exact ⟨⟨k, ep, some a2, l2, c2', fr⟩, hcell', trivial⟩
    have hz := fun (i : Nat) (h : i < len) => Classical.choose_spec (per i h)
    refine ⟨(List.range len).map (fun i => if h : i < len then Classical.choose (per i h) else zeroV), RdV.of hl hm fun i hi => ?_⟩
    rw [dif_pos hi]
    exact (hz i hi).1
end Go.Proofs.Ytgfldfkgialdlaa
