/- What comes in, opened: slices of acts, with their bounds (printed by gen_rowacts.py). -/
import Derived.Test.YtfdbolnifjpbhaaDoorScZF
import Derived.Test.YtfdbolnifjpbhaaDoorRow
import Derived.Test.YtfdbolnifjpbhaaDoorRowInts
import Derived.Lib.SmallJoins
import Derived.Deep.Slices
import Derived.Deep.Fields
namespace Go.Proofs.YtfdbolnifjpbhaaDoor
set_option linter.unusedVariables false
set_option linter.unusedSimpArgs false
open Go.RowKit
open Go.ChangeShapes Go.WideShapes Go.Deep

theorem weightsAll_mem {H : Type} {P : Program} {e : TypeId} : ∀ {ds : List (DataW H)} {d : DataW H} {n : Nat}, d ∈ ds → n ∈ d.weights P e → n ∈ DataW.weightsAll P e ds
  | d0 :: ds, d, n, hd, hn => by
    rw [DataW.weightsAll]
    rcases List.mem_cons.1 hd with rfl | hd
    · exact List.mem_append_left _ hn
    · exact List.mem_append_right _ (weightsAll_mem hd hn)
theorem RdM.of {W : World} {a : Addr} {len cap : Nat} {f : Nat → ActM} (hl : len ≤ cap) (hm : cap ≤ maxLen) (hf : ∀ i, i < len → ∀ j, j < 9 → W.cell? (a.add (i * 9 + j)) = (cellsA (f i))[j]?) :
    RdM W (.slice (some a) len cap) ((List.range len).map f) := by
  have hln : ((List.range len).map f).length = len := by simp
  by_cases hp : 0 < len
  · obtain ⟨b, o, spot⟩ := a
    have h0 := hf 0 hp 0 (by decide)
    have hspot : spot = none := by
      have h1 : W.cell? ⟨b, o, spot⟩ = some ((cellsA (f 0)).getD 0 (.bool false)) := by simpa [Addr.add, cellsA] using h0
      simpa using World.cell?_spot h1
    subst hspot
    refine .inr ⟨b, o, cap, by rw [hln], by rw [hln]; exact hl, hm, fun k u hk => ?_⟩
    have hk2 : k < len * 9 := by
      have := (List.getElem?_eq_some_iff.1 hk).1
      rw [flatA_len, hln] at this
      exact this
    have h2 := flatA_at ((List.range len).map f) (k / 9) (by rw [hln]; omega) (k % 9) (by omega)
    rw [show k / 9 * 9 + k % 9 = k by omega, hk] at h2
    have h3 := hf (k / 9) (by omega) (k % 9) (by omega)
    rw [show k / 9 * 9 + k % 9 = k by omega] at h3
    have h4 : ((List.range len).map f).getD (k / 9) zeroM = f (k / 9) := by
      rw [List.getD_eq_getElem?_getD, List.getElem?_map, List.getElem?_range (by omega)]
      rfl
    rw [h4] at h2
    rw [← Go.WideShapes.add_plain, h3, ← h2]
  · obtain rfl : len = 0 := by omega
    exact .inl ⟨rfl, some a, cap, rfl, fun h => by cases h⟩
theorem open_ActS {H : Type} {enc : TypeId × Value → H} {P : Program} {W : World} {base : Nat} {spare : Nat → Bool} {held : Bool} {t e e2 : TypeId} {a : Option Addr} {len cap : Nat} {d : DataW H} {ps : List MemPlace} {f0 f1 f2 f3 f4 f5 f6 f7 f8 : Field} {ts : List TypeId} {ds : List (DataW H)} {jj : Nat}
    (hsz : (DataW.weightsEach P ts ds).all (· ≤ reachBytes) = true) (ht : ts[jj]? = some t) (hd : ds[jj]? = some d) (hB : P.bytesOf e = 128) (hu : P.underlying t = some (.slice e)) (hs : P.underlying e = some (.struct #[f0, f1, f2, f3, f4, f5, f6, f7, f8])) (hone : oneCellFields P #[f0, f1, f2, f3, f4, f5, f6, f7, f8] = true) (hC : P.cellsOf e = 9) (t0 : P.underlying f0.type = some (.int .i64)) (t1 : P.underlying f1.type = some (.string)) (t2 : P.underlying f2.type = some (.string)) (t3 : P.underlying f3.type = some (.int .i64)) (t4 : P.underlying f4.type = some (.int .i64)) (t5 : P.underlying f5.type = some (.int .i64)) (t6 : P.underlying f6.type = some (.string)) (t7 : P.underlying f7.type = some (.slice e2)) (t8 : P.underlying f8.type = some (.slice e2))
    (he2 : P.underlying e2 = some (.int .i64)) (hc2 : P.cellsOf e2 = 1) (hB2 : P.bytesOf e2 = 8)
    (h : DataW.Trod enc P W base spare held t (.slice a len cap) d ps) : ∃ ms, RdA W (.slice a len cap) ms ∧ GivA ms := by
  obtain ⟨fuel, hf⟩ := h
  rcases open_slice hu hf with ⟨hcs, _⟩ | ⟨x, l, c, m, n, D, Pl, hcs, _, hl, hm, hmm, hx, hi⟩
  · simp [Value.cells] at hcs
    obtain ⟨rfl, rfl, rfl⟩ := hcs
    exact ⟨[], ⟨.inl ⟨rfl, none, 0, rfl, fun _ => rfl⟩, fun m hm => by simp at hm⟩, ⟨by decide, fun m hm => by simp at hm, fun m hm => by simp at hm⟩⟩
  · simp [Value.cells] at hcs
    obtain ⟨rfl, rfl, rfl⟩ := hcs
    obtain ⟨hx, _⟩ := Prod.mk.inj hx
    subst hx
    have z := sized_slice hsz ht hd hu
    rw [hB, List.length_map, List.length_range] at z
    have z2 : len * 128 ≤ 140737488355328 := Nat.le_trans (Nat.le_trans (Nat.mul_le_mul_right 128 (Nat.le_add_right _ _)) z) (by decide)
    have hlm : len ≤ m := by rw [hmm]; split <;> omega
    have per : ∀ i, i < len → ∃ r : ActM, (∀ j, j < 9 → W.cell? (x.add (i * 9 + j)) = (cellsA r)[j]?) ∧ OkM W r ∧ SzA r.a ∧ (r.a.busy.length * 8 ≤ 140737488355328 ∧ r.a.reads.length * 8 ≤ 140737488355328) := by
      intro i hil
      have mem : ∀ n', n' ∈ (D i).weights P e → n' ≤ reachBytes := fun n' hn' => by
        have := List.all_eq_true.1 hsz _ (DataW.weights_mem_each ht hd n' (by simp only [DataW.weights, hu]; exact List.mem_cons_of_mem _ (List.mem_append_left _ (weightsAll_mem (List.mem_map.2 ⟨i, List.mem_range.2 hil, rfl⟩) hn'))))
        simpa using this
      obtain ⟨cs', hc, ht'⟩ := hi i (by omega)
      rw [hC] at hc
      obtain ⟨_, hlen, hcell⟩ := World.cells?_some hc
      obtain ⟨xs, n', _, hxe, _, hxl, hf⟩ := DataW.trod_struct hs ht'
      match cs', hlen, xs, hxl, hxe with
      | [c0, c1, c2, c3, c4, c5, c6, c7, c8], _, [y0, y1, y2, y3, y4, y5, y6, y7, y8], _, hxe =>
        obtain ⟨o0, k0⟩ := hone_of hone 0 f0 rfl
        obtain ⟨o1, k1⟩ := hone_of hone 1 f1 rfl
        obtain ⟨o2, k2⟩ := hone_of hone 2 f2 rfl
        obtain ⟨o3, k3⟩ := hone_of hone 3 f3 rfl
        obtain ⟨o4, k4⟩ := hone_of hone 4 f4 rfl
        obtain ⟨o5, k5⟩ := hone_of hone 5 f5 rfl
        obtain ⟨o6, k6⟩ := hone_of hone 6 f6 rfl
        obtain ⟨o7, k7⟩ := hone_of hone 7 f7 rfl
        obtain ⟨o8, k8⟩ := hone_of hone 8 f8 rfl
        have h0 := hf 0 f0 rfl
        have h1 := hf 1 f1 rfl
        have h2 := hf 2 f2 rfl
        have h3 := hf 3 f3 rfl
        have h4 := hf 4 f4 rfl
        have h5 := hf 5 f5 rfl
        have h6 := hf 6 f6 rfl
        have h7 := hf 7 f7 rfl
        have h8 := hf 8 f8 rfl
        rw [o0, k0] at h0
        rw [o1, k1] at h1
        rw [o2, k2] at h2
        rw [o3, k3] at h3
        rw [o4, k4] at h4
        rw [o5, k5] at h5
        rw [o6, k6] at h6
        rw [o7, k7] at h7
        rw [o8, k8] at h8
        have g0 : DataW.trod enc P W base spare held n' f0.type [c0] = some y0 := h0
        have g1 : DataW.trod enc P W base spare held n' f1.type [c1] = some y1 := h1
        have g2 : DataW.trod enc P W base spare held n' f2.type [c2] = some y2 := h2
        have g3 : DataW.trod enc P W base spare held n' f3.type [c3] = some y3 := h3
        have g4 : DataW.trod enc P W base spare held n' f4.type [c4] = some y4 := h4
        have g5 : DataW.trod enc P W base spare held n' f5.type [c5] = some y5 := h5
        have g6 : DataW.trod enc P W base spare held n' f6.type [c6] = some y6 := h6
        have g7 : DataW.trod enc P W base spare held n' f7.type [c7] = some y7 := h7
        have g8 : DataW.trod enc P W base spare held n' f8.type [c8] = some y8 := h8
        have hcell' : ∀ j, j < 9 → W.cell? (x.add (i * 9 + j)) = [c0, c1, c2, c3, c4, c5, c6, c7, c8][j]? := fun j hj => by rw [← Go.Deep.add_add]; exact hcell j hj
        have hD : D i = .agg [y0.1, y1.1, y2.1, y3.1, y4.1, y5.1, y6.1, y7.1, y8.1] := by
          have := (Prod.mk.inj hxe).1
          simpa using this
        have hsz2 : (DataW.weightsEach P [f0.type, f1.type, f2.type, f3.type, f4.type, f5.type, f6.type, f7.type, f8.type] [y0.1, y1.1, y2.1, y3.1, y4.1, y5.1, y6.1, y7.1, y8.1]).all (· ≤ reachBytes) = true := by
          refine List.all_eq_true.2 fun n hn => ?_
          exact decide_eq_true (mem n (by rw [hD]; simp only [DataW.weights, hs]; exact hn))
        obtain ⟨kd, e0, _, _⟩ := DataW.trod_int t0 g0
        obtain ⟨key, e1, ey1, _⟩ := DataW.trod_string t1 g1
        obtain ⟨val, e2, ey2, _⟩ := DataW.trod_string t2 g2
        obtain ⟨pl, e3, _, _⟩ := DataW.trod_int t3 g3
        obtain ⟨wd, e4, _, _⟩ := DataW.trod_int t4 g4
        obtain ⟨ls, e5, _, _⟩ := DataW.trod_int t5 g5
        obtain ⟨mask, e6, ey6, _⟩ := DataW.trod_string t6 g6
        simp only [List.cons.injEq, and_true] at e0 e1 e2 e3 e4 e5 e6

        subst e0 e1 e2 e3 e4 e5 e6
        have l1 : key.size ≤ 140737488351232 := by
          have h := reach_le (sized_string hsz2 (j := 1) (t := f1.type) rfl (by rw [ey1]; rfl))
          rwa [data_len] at h
        have l2 : val.size ≤ 140737488351232 := by
          have h := reach_le (sized_string hsz2 (j := 2) (t := f2.type) rfl (by rw [ey2]; rfl))
          rwa [data_len] at h
        have l6 : mask.size ≤ 140737488351232 := by
          have h := reach_le (sized_string hsz2 (j := 6) (t := f6.type) rfl (by rw [ey6]; rfl))
          rwa [data_len] at h
        have hx7 : ∃ a l c, c7 = .slice a l c := by
          rcases DataW.trod_slice t7 g7 with ⟨e2, _⟩ | ⟨a2, l2, c2', _, _, _, _, e2, _⟩
          · simp only [List.cons.injEq, and_true] at e2
            exact ⟨_, _, _, e2⟩
          · simp only [List.cons.injEq, and_true] at e2
            exact ⟨_, _, _, e2⟩
        obtain ⟨ba, bl, bc, rfl⟩ := hx7
        have tr7 : DataW.Trod enc P W base spare held f7.type (.slice ba bl bc) y7.1 y7.2 := ⟨n', by simpa [Value.cells] using g7⟩
        obtain ⟨busy, rd7, sz7, _⟩ := open_rd (j := 7) hsz2 rfl rfl t7 he2 hc2 hB2 tr7
        have hx8 : ∃ a l c, c8 = .slice a l c := by
          rcases DataW.trod_slice t8 g8 with ⟨e2, _⟩ | ⟨a2, l2, c2', _, _, _, _, e2, _⟩
          · simp only [List.cons.injEq, and_true] at e2
            exact ⟨_, _, _, e2⟩
          · simp only [List.cons.injEq, and_true] at e2
            exact ⟨_, _, _, e2⟩
        obtain ⟨ra, rl, rc, rfl⟩ := hx8
        have tr8 : DataW.Trod enc P W base spare held f8.type (.slice ra rl rc) y8.1 y8.2 := ⟨n', by simpa [Value.cells] using g8⟩
        obtain ⟨reads, rd8, sz8, _⟩ := open_rd (j := 8) hsz2 rfl rfl t8 he2 hc2 hB2 tr8
        exact ⟨⟨⟨kd, key, val, pl, wd, ls, mask, busy, reads⟩, _, _⟩, hcell', ⟨rd7, rd8⟩, ⟨l1, l2, l6⟩, ⟨by show busy.length * 8 ≤ _; omega, by show reads.length * 8 ≤ _; omega⟩⟩
    have hz := fun (i : Nat) (h : i < len) => Classical.choose_spec (per i h)
    have hget : ∀ m, m ∈ (List.range len).map (fun i => if h : i < len then Classical.choose (per i h) else zeroM) → OkM W m ∧ SzA m.a ∧ (m.a.busy.length * 8 ≤ 140737488355328 ∧ m.a.reads.length * 8 ≤ 140737488355328) := fun r hr => by
      obtain ⟨i, hi, rfl⟩ := List.mem_map.1 hr
      have hi := List.mem_range.1 hi
      rw [dif_pos hi]
      exact (hz i hi).2
    refine ⟨(List.range len).map (fun i => if h : i < len then Classical.choose (per i h) else zeroM), ⟨RdM.of hl hm fun i hi => ?_, fun m hm => (hget m hm).1⟩, ⟨by simpa using z2, fun m hm => (hget m hm).2.1, fun m hm => (hget m hm).2.2⟩⟩
    rw [dif_pos hi]
    exact (hz i hi).1
end Go.Proofs.YtfdbolnifjpbhaaDoor
