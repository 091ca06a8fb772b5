/- Plans: the law, and what the walks stand on. -/
import Derived.Test.YtdgnpoapkjoknaaIdxX
import Derived.Test.YtdgnpoapkjoknaaIdxT
namespace Go.Proofs.Ytdgnpoapkjoknaa
set_option linter.unusedVariables false
set_option linter.unusedSimpArgs false
open Go.RowKit

structure ViewV where
  good : Bool
  ep : Int
  recs : List RecV
  free : Int
structure PlanV where
  wipe : Int
  sec : Int
  slots : List Int
  recs : List RecV
  free : Int
  ep : Int
def zeroPl : PlanV := ⟨0, 0, [], [], 0, 0⟩
def onesN (k : Nat) : List Int := (List.range k).map fun (i : Nat) => 1 + (i : Int)
theorem onesN_snoc (k : Nat) : onesN (k + 1) = onesN k ++ [1 + (k : Int)] := by rw [onesN, onesN, List.range_succ, List.map_append]; rfl
theorem onesN_len (k : Nat) : (onesN k).length = k := by simp [onesN]
def recP (p : PairV) : RecV := ⟨1, 0, p.key, p.val⟩
def nextS (s : Int) : Int := if 8 ≤ s + 1 then 4 else s + 1
def movedP (s e : Int) (ps : List PairV) : PlanV := ⟨s, s, onesN ps.length ++ [0], ps.map recP ++ [⟨0, e, nilB, nilB⟩], 1 + (ps.length : Int), e⟩
def lvOk (v : ViewV) (r : RecV) : Prop := v.good = true ∧ epochB v.ep = true ∧ 1 ≤ v.free ∧ v.free ≤ 8 ∧ bldOk v.recs ∧ withOk (buildL v.recs) r
instance (v : ViewV) (r : RecV) : Decidable (lvOk v r) := by unfold lvOk; infer_instance
def chOk (v : ViewV) (s : Int) (r : RecV) : Prop := lvOk v r ∧ 4 ≤ s ∧ s < 8
instance (v : ViewV) (s : Int) (r : RecV) : Decidable (chOk v s r) := by unfold chOk; infer_instance
/-- What Change tells. -/
def chB (v : ViewV) (s : Int) (r : RecV) : PlanV × Int :=
  if findB (buildL v.recs) r.key = false ∧ r.k = 2 then (zeroPl, 2202)
  else if 7 < (putL (buildL v.recs) r).length then (zeroPl, 2201)
  else if v.free < 8 then (⟨-1, s, [v.free], [r], v.free + 1, v.ep⟩, 0)
  else if v.ep = 1048576 then (zeroPl, 2201)
  else (movedP (nextS s) (v.ep + 1) (putL (buildL v.recs) r), 0)
def chL (v : ViewV) (s : Int) (r : RecV) : PlanV × Int := if chOk v s r then chB v s r else (zeroPl, 2200)
theorem epochB_iff (e : Int) : epochB e = true ↔ 1 ≤ e ∧ e ≤ 1048576 := by simp [epochB]
theorem putL_sort {ps : List PairV} {r : RecV} (h : withOk ps r) : SortedP (putL ps r) := by
  obtain ⟨k, e0, t, v⟩ := r
  have hq := (sortQ_iff ps).1 h.1
  refine (sortQ_iff _).2 ?_
  obtain ⟨A, C, hA, hC, rfl | ⟨x, rfl⟩⟩ := posK_split ps t h.1
  · rcases liveP_k h.2 with h1 | h2
    · rw [cut_put hA hC k h1 e0 v]; exact sort_parts hq hA hC v
    · rw [cut_gone hA hC k h2 e0 v]; exact hq
  · rcases liveP_k h.2 with h1 | h2
    · rw [cut_putM hA hC k h1 e0 v]; exact sort_parts (sort_less hq) hA hC v
    · rw [cut_goneM hA hC k h2 e0 v]; exact sort_less hq
theorem bldN_sort (rs : List RecV) : ∀ a, SortedP (bldN rs a)
  | 0 => fun k hk => by simp [bldN] at hk
  | a + 1 => by
    rw [bldN, withL]
    split
    · exact putL_sort (by assumption)
    · intro k hk; simp at hk
theorem buildL_sort (rs : List RecV) : SortedP (buildL rs) := by
  unfold buildL
  split
  · exact bldN_sort _ _
  · intro k hk; simp at hk
theorem buildL_len (rs : List RecV) : (buildL rs).length ≤ rs.length := by
  unfold buildL
  split
  · exact bldN_len _ _
  · simp
/-- Rows of other cells lie elsewhere. -/
theorem Own.ne {w : World} {B B' n n' : Nat} {e e' : TypeId} {size size' : Nat} {v v' : Value} {xs xs' : List Value} (hne : e ≠ e') (h : Own w B e size v n xs) (h' : Own w B' e' size' v' n' xs') : v.ownBlock = none ∨ v.ownBlock ≠ v'.ownBlock := by
  rcases h.2 with ⟨rfl, _⟩ | ⟨g, cap, cur, fz, rfl, _, hg, _⟩
  · exact .inl rfl
  · refine .inr ?_
    rcases h'.2 with ⟨rfl, _⟩ | ⟨g', cap', cur', fz', rfl, _, hg', _⟩
    · simp [Value.ownBlock]
    · simp only [Value.ownBlock, ne_eq, Option.some.injEq]
      rintro rfl
      rw [hg] at hg'
      injection hg' with h1
      injection h1 with _ h2 _
      exact hne h2
theorem setCell_size (w : World) (a : Addr) (u : Value) : (w.setCell a u).heap.size = w.heap.size := by simp
/-- What is known as a plan is made: its box, its slots, its records. -/
def PIn (w : World) (B g : Nat) (cs : List Value) (S R : Value) (k j : Nat) (xs : List Int) (rs : List RecV) (W : World) : Prop :=
  w.heap.size ≤ B ∧ Own W B 60 1 (.slice (some ⟨g, 0, none⟩) 6 6) 6 cs ∧ Own W B 3 1 S k (nums xs) ∧ Own W B 25 4 R j (flat rs) ∧ Below w.heap.size w W ∧ B ≤ W.heap.size
section
variable {w W w2 : World} {B g : Nat} {cs : List Value} {S R S' R' : Value} {k j k' j' : Nat} {xs xs' : List Int} {rs rs' : List RecV}
theorem PIn.alloc (h : PIn w B g cs S R k j xs rs W) (o : Obj) : PIn w B g cs S R k j xs rs (W.alloc o) :=
  ⟨h.1, h.2.1.alloc o, h.2.2.1.alloc o, h.2.2.2.1.alloc o, Bl.alloc h.2.2.2.2.1 o, Nat.le_trans h.2.2.2.2.2 (Bl.alloc (Below.refl _ _) o).size⟩
theorem PIn.grownS (h : PIn w B g cs S R k j xs rs W) (hg : W.grownBy w2 S.ownBlock) (ho : Own w2 B 3 1 S' k' (nums xs')) : PIn w B g cs S' R k' j xs' rs w2 :=
  ⟨h.1, h.2.1.kept hg (Own.ne (by decide) h.2.1 h.2.2.1), ho, h.2.2.2.1.kept hg (Own.ne (by decide) h.2.2.2.1 h.2.2.1), Below.grown h.2.2.2.2.1 hg h.2.2.2.2.1.size (fun q hq => Nat.le_trans h.1 (h.2.2.1.base q hq)), Nat.le_trans h.2.2.2.2.2 hg.size⟩
theorem PIn.grownR (h : PIn w B g cs S R k j xs rs W) (hg : W.grownBy w2 R.ownBlock) (ho : Own w2 B 25 4 R' j' (flat rs')) : PIn w B g cs S R' k j' xs rs' w2 :=
  ⟨h.1, h.2.1.kept hg (Own.ne (by decide) h.2.1 h.2.2.2.1), h.2.2.1.kept hg (Own.ne (by decide) h.2.2.1 h.2.2.2.1), ho, Below.grown h.2.2.2.2.1 hg h.2.2.2.2.1.size (fun q hq => Nat.le_trans h.1 (h.2.2.2.1.base q hq)), Nat.le_trans h.2.2.2.2.2 hg.size⟩
theorem PIn.set (h : PIn w B g cs S R k j xs rs W) (i : Nat) (u : Value) : PIn w B g (cs.set i u) S R k j xs rs (W.setCell ⟨g, i, none⟩ u) :=
  ⟨h.1, (h.2.1.stored i u).1, h.2.2.1.kept (h.2.1.stored i u).2 (Own.ne (by decide) h.2.2.1 h.2.1), h.2.2.2.1.kept (h.2.1.stored i u).2 (Own.ne (by decide) h.2.2.2.1 h.2.1), h.2.2.2.2.1.setCell (p := ⟨g, i, none⟩) (Nat.le_trans h.1 (h.2.1.base g rfl)) u, by rw [setCell_size]; exact h.2.2.2.2.2⟩
theorem PIn.at (h : PIn w B g cs S R k j xs rs W) {i : Nat} {u : Value} (hu : cs[i]? = some u) : W.cell? ⟨g, i, none⟩ = some u := h.2.1.at' hu
theorem PIn.free (h : PIn w B g cs S R k j xs rs W) {i : Nat} (hi : i < 6) : W.frozen? ⟨g, i, none⟩ = false := h.2.1.free (by omega)
end
theorem box2 {W : World} {g : Nat} {a b : Value} (h0 : W.cell? ⟨g, 0, none⟩ = some a) (h1 : W.cell? ⟨g, 1, none⟩ = some b) : ∀ ad, some (⟨g, 0, none⟩ : Addr) = some ad → ∀ j u, [a, b][j]? = some u → W.cell? (ad.add j) = some u := by
  intro ad had j u hu
  obtain rfl := Option.some.inj had
  rw [Addr.add_lit, Nat.zero_add]
  match j, hu with
  | 0, hu => simp at hu; subst hu; exact h0
  | 1, hu => simp at hu; subst hu; exact h1
theorem load_plan {W : World} {g : Nat} {a b c d e f : Value} (h0 : W.cell? ⟨g, 0, none⟩ = some a) (h1 : W.cell? ⟨g, 1, none⟩ = some b) (h2 : W.cell? ⟨g, 2, none⟩ = some c) (h3 : W.cell? ⟨g, 3, none⟩ = some d) (h4 : W.cell? ⟨g, 4, none⟩ = some e) (h5 : W.cell? ⟨g, 5, none⟩ = some f) :
    (loadVar 60 ⟨g, 0, none⟩).run Try.prog W = .ok (.agg #[a, b, c, d, e, f]) W := by
  go_simp
theorem results_plan {fn : Func} {p : Tmp} {tmps : Array Value} {W : World} {g : Nat} {a b c d e f : Value} (h : fn.results = #[.cell p 60]) (hp : tmps.getD p undef = .pointer (some ⟨g, 0, none⟩))
    (h0 : W.cell? ⟨g, 0, none⟩ = some a) (h1 : W.cell? ⟨g, 1, none⟩ = some b) (h2 : W.cell? ⟨g, 2, none⟩ = some c) (h3 : W.cell? ⟨g, 3, none⟩ = some d) (h4 : W.cell? ⟨g, 4, none⟩ = some e) (h5 : W.cell? ⟨g, 5, none⟩ = some f) :
    (results fn tmps).run Try.prog W = .ok (.agg #[a, b, c, d, e, f]) W := by
  have hp' : tmps[p]?.getD undef = .pointer (some ⟨g, 0, none⟩) := by simpa using hp
  simp [results, h, hp', asAddr, load_plan h0 h1 h2 h3 h4 h5]
theorem results_plan2 {fn : Func} {p q : Tmp} {tmps : Array Value} {W : World} {g : Nat} {a b c d e f : Value} (h : fn.results = #[.cell p 60, .tmp q]) (hp : tmps.getD p undef = .pointer (some ⟨g, 0, none⟩))
    (h0 : W.cell? ⟨g, 0, none⟩ = some a) (h1 : W.cell? ⟨g, 1, none⟩ = some b) (h2 : W.cell? ⟨g, 2, none⟩ = some c) (h3 : W.cell? ⟨g, 3, none⟩ = some d) (h4 : W.cell? ⟨g, 4, none⟩ = some e) (h5 : W.cell? ⟨g, 5, none⟩ = some f) :
    (results fn tmps).run Try.prog W = .ok (.tuple #[.agg #[a, b, c, d, e, f], tmps.getD q undef]) W := by
  rw [results_cell_tmp h, hp]
  simp [asAddr, Result.andThen, load_plan h0 h1 h2 h3 h4 h5]
/-- A plan as a value, with its rows. -/
def OwnL (w : World) (B : Nat) (v : Value) (p : PlanV) : Prop :=
  ∃ S R, v = .agg #[.int .i64 p.wipe, .int .i64 p.sec, S, R, .int .i64 p.free, .int .i64 p.ep] ∧ Own w B 3 1 S p.slots.length (nums p.slots) ∧ Own w B 25 4 R p.recs.length (flat p.recs)
theorem OwnL.below {w w' : World} {B : Nat} {v : Value} {p : PlanV} (h : OwnL w B v p) (hb : Below w.heap.size w w') : OwnL w' B v p := by
  obtain ⟨S, R, h1, h2, h3⟩ := h
  exact ⟨S, R, h1, h2.below hb, h3.below hb⟩
theorem OwnL.lower {w : World} {B B' : Nat} {v : Value} {p : PlanV} (h : OwnL w B v p) (hb : B' ≤ B) : OwnL w B' v p := by
  obtain ⟨S, R, h1, h2, h3⟩ := h
  exact ⟨S, R, h1, h2.lower hb, h3.lower hb⟩
theorem OwnL.zero (w : World) (B : Nat) : OwnL w B (.agg #[.int .i64 0, .int .i64 0, .slice none 0 0, .slice none 0 0, .int .i64 0, .int .i64 0]) zeroPl :=
  ⟨_, _, rfl, Own.nil _ _ _ _, Own.nil _ _ _ _⟩
theorem next_any (s : Int) (h : 4 ≤ s) (h2 : s < 8) (w : World) : Calls Try.prog 48 #[.int .i64 s] w fun e w' => e = .returned (.int .i64 (nextS s)) ∧ w = w' := by
  by_cases c : (8 : Int) ≤ s + 1
  · have hn : nextS s = 4 := if_pos c
    have hc : decide ((8 : Int) ≤ s + 1) = true := decide_eq_true c
    rw [hn]
    go_enter Try.func48, Try.ntmps48
    go_wp2
    go_ret
    exact ⟨rfl, rfl⟩
  · have hn : nextS s = s + 1 := if_neg c
    have hc : decide ((8 : Int) ≤ s + 1) = false := decide_eq_false c
    rw [hn]
    go_enter Try.func48, Try.ntmps48
    go_wp2
    go_ret
    exact ⟨rfl, rfl⟩
theorem behind_any (s : Int) (h : 4 ≤ s) (h2 : s < 8) (w : World) : Calls Try.prog 49 #[.int .i64 s] w fun e w' => e = .returned (.int .i64 (nextS s)) ∧ w = w' := by
  by_cases c : (8 : Int) ≤ s + 1
  · have hn : nextS s = 4 := if_pos c
    have hc : decide ((8 : Int) ≤ s + 1) = true := decide_eq_true c
    rw [hn]
    go_enter Try.func49, Try.ntmps49
    go_wp2
    go_ret
    exact ⟨rfl, rfl⟩
  · have hn : nextS s = s + 1 := if_neg c
    have hc : decide ((8 : Int) ≤ s + 1) = false := decide_eq_false c
    rw [hn]
    go_enter Try.func49, Try.ntmps49
    go_wp2
    go_ret
    exact ⟨rfl, rfl⟩
end Go.Proofs.Ytdgnpoapkjoknaa
