/- script: Parse: the walk. -/
import Derived.Test.YtfdbolnifjpbhaaDoorScV
import Derived.Test.YtfdbolnifjpbhaaDoorScN
namespace Go.Proofs.YtfdbolnifjpbhaaDoor
set_option linter.unusedVariables false
set_option linter.unusedSimpArgs false
open Go.RowKit

theorem Bl.grown {w W W' : World} {r : Option Nat} (h : Below w.heap.size w W) (hg : W.grownBy W' r) (hr : ∀ k, r = some k → w.heap.size ≤ k) : Below w.heap.size w W' := by
  have h0 : w.grownBy W none := ⟨h.os, h.tape, h.output, h.size, fun i hi _ => h.block i hi⟩
  have h1 := h0.andThen hg (fun j hj => .inl (hr j hj))
  exact ⟨h1.os, h1.tape, h1.output, h1.size, fun i hi => h1.block i hi (by simp)⟩
theorem OwnA.kept {W W' : World} {B : Nat} {v : Value} {ms : List ActM} {r : Option Nat} (h : OwnA W B v ms) (hg : W.grownBy W' r) {B' n' size' : Nat} {e' : TypeId} {v' : Value} {xs' : List Value} (ho : Own W B' e' size' v' n' xs') (hr : r = v'.ownBlock) (h1 : 38 ≠ e') (h2 : 3 ≠ e') : OwnA W' B v ms := by
  subst hr
  exact ⟨h.1.kept hg (Own.neS h1 h.1 ho), fun m hm => ⟨(h.2 m hm).1.kept hg (Own.neS h2 (h.2 m hm).1 ho), (h.2 m hm).2.kept hg (Own.neS h2 (h.2 m hm).2 ho)⟩⟩
theorem infoAct : (Tryd.prog.info? 38).map (fun i => (i.zero, i.size, i.bytes)) = some (some (.agg #[.int .i64 0, .string ⟨#[]⟩, .string ⟨#[]⟩, .int .i64 0, .int .i64 0, .int .i64 0, .string ⟨#[]⟩, .slice none 0 0, .slice none 0 0]), 9, 128) := by kernel_rfl
theorem cellsA_one {m : ActM} (h1 : m.bv.oneCell' = true) (h2 : m.rv.oneCell' = true) : ∀ u ∈ cellsA m, u.oneCell' = true := by
  intro u hu
  simp only [cellsA, List.mem_cons, List.not_mem_nil, or_false] at hu
  rcases hu with rfl | rfl | rfl | rfl | rfl | rfl | rfl | rfl | rfl <;> first | rfl | assumption
/-- The cells of a new box. -/
theorem box_new (W : World) (cs : Array Value) (t : TypeId) (g : Nat) (hg : W.heap.size = g) : ∀ ad, some (⟨g, 0, none⟩ : Addr) = some ad → ∀ j u, cs.toList[j]? = some u → (W.alloc (Obj.cells cs t)).cell? (ad.add j) = some u := by
  subst hg
  intro ad had j u hj
  obtain rfl := Option.some.inj had
  rw [Addr.add_lit, Nat.zero_add, cell_of_row _ _ _ _ _ _ (heap_alloc_new W _)]
  rw [Array.getElem?_toList] at hj
  exact hj
/-- What stands between the acts that Parse reads. -/
structure ParI (w : World) (s : ByteArray) (ms : List ActM) (v : Value) (g i : Nat) (l : Bool) (W : World) : Prop where
  own : OwnA W w.heap.size v ms
  wk : WkB W w.heap.size g s i l
  bl : Below w.heap.size w W
/-- An act has been read, and is not yet laid behind the others. -/
structure ParM (w : World) (s : ByteArray) (ms : List ActM) (v : Value) (g i : Nat) (l : Bool) (m : ActM) (W : World) : Prop where
  par : ParI w s ms v g i l W
  bv : Own W w.heap.size 3 1 m.bv m.a.busy.length (nums m.a.busy)
  rv : Own W w.heap.size 3 1 m.rv m.a.reads.length (nums m.a.reads)
section
variable {w W W' : World} {s : ByteArray} {ms : List ActM} {v v' : Value} {g i i' : Nat} {l l' : Bool} {m : ActM}
theorem OwnA.alloc (h : OwnA W w.heap.size v ms) (o : Obj) : OwnA (W.alloc o) w.heap.size v ms := ⟨h.1.alloc o, fun m hm => ⟨(h.2 m hm).1.alloc o, (h.2 m hm).2.alloc o⟩⟩
theorem ParI.alloc (h : ParI w s ms v g i l W) (o : Obj) : ParI w s ms v g i l (W.alloc o) := ⟨h.own.alloc o, Own.alloc h.wk o, Bl.alloc h.bl o⟩
theorem ParM.alloc (h : ParM w s ms v g i l m W) (o : Obj) : ParM w s ms v g i l m (W.alloc o) := ⟨h.par.alloc o, h.bv.alloc o, h.rv.alloc o⟩
theorem ParI.read (h : ParI w s ms v g i l W) (hb : Own W' W.heap.size 3 1 m.bv m.a.busy.length (nums m.a.busy)) (hr : Own W' W.heap.size 3 1 m.rv m.a.reads.length (nums m.a.reads)) (hw : WkB W' w.heap.size g s i' l') (hg : W.grownBy W' (some g)) : ParM w s ms v g i' l' m W' :=
  ⟨⟨h.own.kept hg h.wk rfl (by decide) (by decide), hw, Bl.grown h.bl hg (fun k hk => h.wk.base k hk)⟩, hb.lower h.bl.size, hr.lower h.bl.size⟩
theorem ParM.app (h : ParM w s ms v g i l m W) (ho : Own W' w.heap.size 38 9 v' (ms.length + 1) (flatA ms ++ cellsA m)) (hg : W.grownBy W' v.ownBlock) : ParI w s (ms ++ [m]) v' g i l W' := by
  refine ⟨⟨by rw [flatA_snoc, List.length_append]; exact ho, fun a ha => ?_⟩, Own.kept h.par.wk hg (Own.neS (by decide) h.par.wk h.par.own.1), Bl.grown h.par.bl hg (fun k hk => h.par.own.1.base k hk)⟩
  rcases List.mem_append.1 ha with ha | ha
  · exact ⟨(h.par.own.2 a ha).1.kept hg (Own.neS (by decide) (h.par.own.2 a ha).1 h.par.own.1), (h.par.own.2 a ha).2.kept hg (Own.neS (by decide) (h.par.own.2 a ha).2 h.par.own.1)⟩
  · obtain rfl := List.mem_singleton.1 ha
    exact ⟨h.bv.kept hg (Own.neS (by decide) h.bv h.par.own.1), h.rv.kept hg (Own.neS (by decide) h.rv h.par.own.1)⟩
theorem ParI.box (h : ParI w s ms v g i l W) (i' : Nat) (l' : Bool) : ParI w s ms v W.heap.size i' l' (W.alloc (Obj.cells #[.string s, .int .i64 (i' : Int), .bool l'] 54)) :=
  ⟨h.own.alloc _, ⟨rfl, .inr ⟨W.heap.size, 3, _, (0, 0), rfl, h.bl.size, heap_alloc_new W _, .inr rfl, Nat.le_refl _, by decide, rfl, rfl⟩⟩, Bl.alloc h.bl _⟩
end
/-! ### The law -/
def txtLe (s : ByteArray) (a : ActV) : Prop := a.key.size ≤ s.size ∧ a.val.size ≤ s.size ∧ a.mask.size ≤ s.size
theorem cutB_le (s : ByteArray) (i k : Nat) (h : i + k ≤ s.size) : (cutB s i k).size ≤ s.size := by
  rw [cutB, ByteArray.size_extract]; omega
theorem wordG_le (s : ByteArray) (num : Nat → Bool → Nat × Nat × Bool) (i : Nat) (l : Bool) : (wordG s num i l).1.size ≤ s.size := by
  rw [wordG]
  split
  · exact Nat.zero_le _
  · rename_i hc
    rw [Bool.not_eq_true, Bool.or_eq_false_iff] at hc
    exact cutB_le s _ _ (by have := of_decide_eq_false hc.2; omega)
theorem parW_end {R : Rdr} {s : ByteArray} {n i : Nat} {xs : List ActV} (hn : n ≤ 256) (h : s.size ≤ i) : (parW R s (257 - n) i).map (xs ++ ·) = some xs := by
  rw [show 257 - n = (256 - n) + 1 by omega, parW, if_pos h]
  simp
theorem parW_no {R : Rdr} {s : ByteArray} {n i : Nat} {xs : List ActV} (hn : n ≤ 256) (h : i < s.size) (hc : (oneR R s i).2.2 = true ∨ n = 256) : (parW R s (257 - n) i).map (xs ++ ·) = none := by
  rw [show 257 - n = (256 - n) + 1 by omega, parW, if_neg (by omega), if_pos (by
    rcases hc with hc | rfl
    · rw [hc]; rfl
    · simp)]
  rfl
theorem parW_go {R : Rdr} {s : ByteArray} {n i : Nat} {xs : List ActV} (hn : n < 256) (h : i < s.size) (hc : (oneR R s i).2.2 = false) : (parW R s (257 - n) i).map (xs ++ ·) = (parW R s (257 - (n + 1)) (oneR R s i).2.1).map ((xs ++ [(oneR R s i).1]) ++ ·) := by
  have e : (256 - n == 0) = false := by rw [beq_eq_false_iff_ne]; omega
  rw [show 257 - n = (256 - n) + 1 by omega, parW, if_neg (by omega), hc, e, if_neg (by decide), show 257 - (n + 1) = 256 - n by omega, Option.map_map]
  congr 1
  funext ys
  simp
theorem parse_no {s : ByteArray} {R : Option (List ActV)} (hR : parW (walkR s) s 257 0 = R) (h : ∀ xs, R = some xs → ¬ Told s xs) : readL s = [] ∧ readE s = 2400 :=
  readL_no fun ⟨xs, hx⟩ => h xs (by rw [← hR]; exact (hx.read (walkR_ok s)).1) hx
end Go.Proofs.YtfdbolnifjpbhaaDoor
