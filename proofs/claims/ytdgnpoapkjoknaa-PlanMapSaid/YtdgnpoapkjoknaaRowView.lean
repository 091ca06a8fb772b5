/- What comes in, opened: a view. -/
import Derived.Test.YtdgnpoapkjoknaaRowPairs
namespace Go.Proofs.Ytdgnpoapkjoknaa
set_option linter.unusedVariables false
set_option linter.unusedSimpArgs false
open Go.RowKit
open Go.ChangeShapes Go.WideShapes Go.Deep

theorem open_View {H : Type} {enc : TypeId × Value → H} {P : Program} {W : World} {base b0 : Nat} {rc : Reach} {spare : Nat → Bool} {held : Bool} {t e : TypeId} {v : Value} {d : DataW H} {ps : List MemPlace} {f0 f1 f2 f3 h0 h1 h2 h3 : Field} {ts : List TypeId} {ds : List (DataW H)} {jj : Nat}
    (hsz : (DataW.weightsEach P ts ds).all (· ≤ reachBytes) = true) (ht : ts[jj]? = some t) (hd : ds[jj]? = some d)
    (hs : P.underlying t = some (.struct #[f0, f1, f2, f3])) (hone : oneCellFields P #[f0, f1, f2, f3] = true) (hC : P.cellsOf t = 4) (tb : P.underlying f0.type = some .bool) (ti : P.underlying f1.type = some (.int .i64)) (tl : P.underlying f2.type = some (.slice e)) (tj : P.underlying f3.type = some (.int .i64))
    (hB : P.bytesOf e = 48) (hse : P.underlying e = some (.struct #[h0, h1, h2, h3])) (honee : oneCellFields P #[h0, h1, h2, h3] = true) (hCe : P.cellsOf e = 4) (t0 : P.underlying h0.type = some (.int .i64)) (t1 : P.underlying h1.type = some (.int .i64)) (t2 : P.underlying h2.type = some .string) (t3 : P.underlying h3.type = some .string)
    (hv : Value.okWide P W rc b0 t v) (h : DataW.Trod enc P W base spare held t v d ps) :
    ∃ (g : Bool) (ep : Int) (F : Value) (rs : List RecV) (fr : Int), v = .agg #[.bool g, .int .i64 ep, F, .int .i64 fr] ∧ RdR W F rs ∧ rs.length * 48 ≤ 140737488351232 ∧ (∀ r ∈ rs, r.key.size ≤ 9223372036854775807 ∧ r.val.size ≤ 9223372036854775807)
      ∧ (Lit.int .i64 ep).wf = true ∧ (Lit.int .i64 fr).wf = true := by
  obtain ⟨x0, x1, x2, x3, y0, y1, y2, y3, m, rfl, rfl, rfl, q0, q1, q2, q3⟩ := Go.Joins.open_agg4 hs hone hC hv h
  obtain ⟨g, e0, _⟩ := DataW.trod_bool tb q0
  obtain ⟨ep, e1, _, w1⟩ := DataW.trod_int ti q1
  obtain ⟨fr, e3, _, w3⟩ := DataW.trod_int tj q3
  simp only [List.cons.injEq, and_true] at e0 e1 e3
  subst e0 e1 e3
  have hsz2 : (DataW.weightsEach P [f0.type, f1.type, f2.type, f3.type] [y0.1, y1.1, y2.1, y3.1]).all (· ≤ reachBytes) = true := by
    refine List.all_eq_true.2 fun n hn => ?_
    exact List.all_eq_true.1 hsz n (DataW.weights_mem_each ht hd n (by simp only [DataW.weights, hs]; exact hn))
  have hx2 : ∃ a l c, x2 = .slice a l c := by
    rcases DataW.trod_slice tl q2 with ⟨e2, _⟩ | ⟨a2, l2, c2', _, _, _, _, e2, _⟩
    · simp only [List.cons.injEq, and_true] at e2
      exact ⟨_, _, _, e2⟩
    · simp only [List.cons.injEq, and_true] at e2
      exact ⟨_, _, _, e2⟩
  obtain ⟨a, l, c, rfl⟩ := hx2
  have htr : DataW.Trod enc P W base spare held f2.type (.slice a l c) y2.1 y2.2 := ⟨m, by simpa [Value.cells] using q2⟩
  obtain ⟨rs, r1, r2, r3⟩ := open_RecB (jj := 2) hsz2 rfl rfl hB tl hse honee hCe t0 t1 t2 t3 htr
  exact ⟨g, ep, _, rs, fr, rfl, r1, r2, r3, w1, w3⟩
end Go.Proofs.Ytdgnpoapkjoknaa
