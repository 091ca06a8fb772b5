/- Rows of pairs: copied, cut, put in between: the library's functions at pairs. -/
import Derived.Test.YtdgnpoapkjoknaaIdxA
import Derived.Lib.AppendZerosOnto
import Derived.Lib.Overlaps
import Derived.Laws.Externs
import Derived.Laws.CopyRow
namespace Go.Proofs.Ytdgnpoapkjoknaa
set_option linter.unusedVariables false
set_option linter.unusedSimpArgs false
open Go.RowKit

/-- A row's bare cells. -/
def Raw (w : World) (g : Nat) (e : TypeId) (cur : Array Value) : Prop := ∃ fz, w.heap[g]? = some (.cells cur e fz) ∧ (cur.size ≤ fz.1 ∨ fz.2 = 0)
def layA (cur : Array Value) (o : Nat) (vs : List Value) : Array Value := (cur.toList.take o ++ vs ++ cur.toList.drop (o + vs.length)).toArray
theorem layA_size {cur : Array Value} {o : Nat} {vs : List Value} (h : o + vs.length ≤ cur.size) : (layA cur o vs).size = cur.size := by
  simp only [layA, List.size_toArray, List.length_append, List.length_take, List.length_drop, Array.length_toList]
  omega
theorem Raw.set {w : World} {g : Nat} {e : TypeId} {cur : Array Value} (h : Raw w g e cur) (o : Nat) (vs : List Value) (hl : o + vs.length ≤ cur.size) : Raw (w.setRow g (layA cur o vs)) g e (layA cur o vs) := by
  obtain ⟨fz, hg, hf⟩ := h
  exact ⟨fz, setRow_heap w g cur _ e _ hg, by rw [layA_size hl]; exact hf⟩
theorem Raw.drew {w : World} {g : Nat} {e : TypeId} {cur : Array Value} (h : Raw w g e cur) : Raw w.drew g e cur := h
theorem Raw.cell {w : World} {g : Nat} {e : TypeId} {cur : Array Value} (h : Raw w g e cur) (j : Nat) : w.cell? ⟨g, j, none⟩ = cur[j]? := by
  obtain ⟨fz, hg, hf⟩ := h
  exact cell_of_row w g j cur e fz hg
theorem Raw.stores (P : Program) {w : World} {g : Nat} {e : TypeId} {cur : Array Value} (h : Raw w g e cur) (o : Nat) (vs : List Value) (hl : o + vs.length ≤ cur.size) (h1 : ∀ v ∈ vs, v.oneCell' = true) :
    (storeCells ⟨g, o, none⟩ vs 0).run P w = .ok () (w.setRow g (layA cur o vs)) := by
  obtain ⟨fz, hg, hf⟩ := h
  exact run_storeCells_own P g o e fz vs 0 cur w hg hf (by simpa using hl) h1
theorem Raw.grown (w : World) (g : Nat) (arr : Array Value) : w.grownBy (w.setRow g arr) (some g) :=
  ⟨rfl, rfl, rfl, by simp, fun k _ hk => setRow_other w g k _ (fun e => hk (by rw [e]))⟩

section
variable {P : Program}
theorem run_copyR (w : World) (dT sT ty e : TypeId) (size g o dLen dCap : Nat) (a : Addr) (sLen sCap : Nat) (cur : Array Value) (cs : List Value) (hu : P.underlying dT = some (.slice e)) (hs : (P.info? e).map (·.size) = some size)
    (hr : Raw w g e cur) (hn : cs.length = Nat.min sLen dLen * size) (hsrc : ∀ j v, cs[j]? = some v → w.cell? (a.add j) = some v) (hfit : o + cs.length ≤ cur.size) (h1 : ∀ v ∈ cs, v.oneCell' = true) :
    (Builtin.copy_ #[dT, sT] ty #[.slice (some ⟨g, o, none⟩) dLen dCap, .slice (some a) sLen sCap]).run P w = .ok (goInt (Nat.min sLen dLen)) (w.setRow g (layA cur o cs)) := by
  have hl := run_loadCells_list (P := P) w a cs hsrc
  have hst := hr.stores P o cs hfit h1
  cases hq : P.info? e with
  | none => simp [hq] at hs
  | some i =>
    have hi : i.size = size := by simpa [hq] using hs
    simp [Builtin.copy_, run_underlying hu, Builtin.lenOf, Builtin.firstCells, sizeOf, typeInfo, hq, hi, ← hn, hl, hst]
theorem run_clearR (w : World) (t e ty : TypeId) (z : Value) (zs : List Value) (g o n c : Nat) (cur : Array Value) (ht : P.underlying t = some (.slice e)) (hv : ∀ w, (zeroValue e).run P w = .ok z w) (hz : (Builtin.zeroCells z.cells (n + 1)).toList = zs)
    (hr : Raw w g e cur) (hfit : o + zs.length ≤ cur.size) (h1 : ∀ v ∈ zs, v.oneCell' = true) :
    (Builtin.clear_ #[t] ty #[.slice (some ⟨g, o, none⟩) (n + 1) c]).run P w = .ok (.tuple #[]) (w.setRow g (layA cur o zs)) := by
  have hst := hr.stores P o zs hfit h1
  simp [Builtin.clear_, run_underlying ht, hv, hz, hst]
theorem run_appR (w : World) (t ty e : TypeId) (size g n cap : Nat) (a : Addr) (m c : Nat) (cur : Array Value) (news : List Value) (ht : P.underlying t = some (.slice e)) (hs : (P.info? e).map (·.size) = some size)
    (hr : Raw w g e cur) (hl : news.length = m * size) (hnews : ∀ j u, news[j]? = some u → w.cell? (a.add j) = some u) (h1 : ∀ u ∈ news, u.oneCell' = true) (hroom : n + m ≤ cap) (hcs : cur.size = cap * size) :
    (Builtin.append_ #[t, t] ty #[.slice (some ⟨g, 0, none⟩) n cap, .slice (some a) m c]).run P w = .ok (.slice (some ⟨g, 0, none⟩) (n + m) cap) (w.setRow g (layA cur (n * size) news)) := by
  have hfit : n * size + news.length ≤ cur.size := by rw [hl, hcs, ← Nat.add_mul]; exact Nat.mul_le_mul_right _ hroom
  have hf := run_firstCells_some (P := P) w size m a m c news hl hnews
  have hst := hr.stores P (n * size) news hfit h1
  cases hq : P.info? e with
  | none => simp [hq] at hs
  | some i =>
    have hi : i.size = size := by simpa [hq] using hs
    simp [Builtin.append_, run_underlying ht, sizeOf, typeInfo, hq, hi, Builtin.lenOf, hroom, hf, Addr.add_lit, hst]
variable {ops : Array Oper} {o : Oper} {a : Act}
theorem step_bin {W w1 : World} {K : Act → World → Prop} {Q : Exit → Act → World → Prop} {E : Prop} (hg : o.guard = none) (s x : Operand) (t tx : TypeId) (v u r : Value) (b : Builtin)
    (hop : o.op = Op.call { callee := Callee.builtin b, args := #[s, x], argTypes := #[t, tx] }) (hs : a.eval s = v) (hx : a.eval x = u) (hrun : (match b with | .append => Builtin.append_ #[t, tx] o.type #[v, u] | _ => Builtin.copy_ #[t, tx] o.type #[v, u]).run P W = .ok r w1)
    (hb : b = .append ∨ b = .copy) (hK : K (a.put o.dst r) w1) : if Region.wanted o (yielded ops a.tmps) = true then Oper.wp P o a W K Q else E := by
  have hw : Region.wanted o (yielded ops a.tmps) = true := by simp [Region.wanted, hg]
  rw [if_pos hw]
  unfold Oper.wp
  rcases hb with rfl | rfl
  · simp only at hrun
    simp [execOp, hop, resolve, invoke, builtin, hs, hx, hrun, Result.andThen]
    exact hK
  · simp only at hrun
    simp [execOp, hop, resolve, invoke, builtin, hs, hx, hrun, Result.andThen]
    exact hK
theorem list_bin {W w1 : World} {rest : List Oper} {Q : Exit → Act → World → Prop} (hg : o.guard = none) (s x : Operand) (t tx : TypeId) (v u r : Value) (b : Builtin)
    (hop : o.op = Op.call { callee := Callee.builtin b, args := #[s, x], argTypes := #[t, tx] }) (hs : a.eval s = v) (hx : a.eval x = u) (hrun : (match b with | .append => Builtin.append_ #[t, tx] o.type #[v, u] | _ => Builtin.copy_ #[t, tx] o.type #[v, u]).run P W = .ok r w1)
    (hb : b = .append ∨ b = .copy) (hK : wpList P ops Q rest (a.put o.dst r) w1) : wpList P ops Q (o :: rest) a W := by
  refine wpList_plain hg fun K hK' => ?_
  have h := step_bin (P := P) (ops := ops) (o := o) (a := a) (W := W) (K := K) (Q := Q) (E := False) hg s x t tx v u r b hop hs hx hrun hb (hK' _ _ hK)
  rwa [if_pos (by simp [Region.wanted, hg])] at h
end

theorem infoPair : (Try.prog.info? 48).map (fun i => (i.zero, i.size, i.bytes)) = some (some (.agg #[.string ⟨#[]⟩, .string ⟨#[]⟩]), 2, 32) := by kernel_rfl
theorem sizePair : (Try.prog.info? 48).map (·.size) = some 2 := by kernel_rfl
end Go.Proofs.Ytdgnpoapkjoknaa
