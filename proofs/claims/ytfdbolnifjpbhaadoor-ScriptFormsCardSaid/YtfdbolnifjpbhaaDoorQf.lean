/- A great region walked once, in the order of the text: the Bool over it looked through once, pair by pair. -/
import Derived.Deep.Quiet
import Derived.BigQuiet
namespace Go.Proofs.YtfdbolnifjpbhaaDoor
set_option linter.unusedVariables false
set_option linter.unusedSimpArgs false
open Go.RowKit

/-- A region that is laid in two parts, as one. -/
theorem flat_cons' {a : Oper} {r B l : List Oper} (h : List.append r B = l) : List.append (a :: r) B = a :: l := by rw [← h]; rfl
theorem flat_nil' {B : List Oper} : List.append [] B = B := rfl
theorem region_flat {P : Program} {id : Nat} {Q : Exit → Act → World → Prop} {a : Act} {w : World} {L l : List Oper} {b : Bool} (hfl : L = l) (h : (Code.region id l.toArray b).wp P Q a w) : (Code.region id L.toArray b).wp P Q a w := by
  subst hfl; exact h
/-- Each operation waits for earlier ones alone, and each later one waits for it or lies apart. -/
def goodFrom (ops : Array Oper) : Nat → List Oper → Bool
  | _, [] => true
  | k, o :: rest => (o.after.all fun e => !Region.binds .any e || decide (e.on < k)) && (rest.all fun oj => oj.after.any (fun e => Region.binds .any e && e.on == k) || o.apart ops oj) && goodFrom ops (k + 1) rest
theorem lex_good (ops : Array Oper) : ∀ (l : List Oper) (k : Nat) (listed : Array Bool), k + l.length = ops.size → (∀ j, l[j]? = ops[k + j]?) → listed.size = ops.size → (∀ j, j < ops.size → listed[j]? = some (decide (j < k))) →
    goodFrom ops k l = true → Region.lexFrom .any ops l.length k listed = true
  | [], k, listed, hk, hl, hs, hli, hg => by
    simp only [List.length_nil, Nat.add_zero] at hk
    rw [List.length_nil, Region.lexFrom, List.isEmpty_iff, Region.ready, List.filter_eq_nil_iff]
    intro i hi
    have hi' := List.mem_range.1 hi
    rw [Array.getD_eq_getD_getElem?, hli i hi', Option.getD_some, decide_eq_true (by omega)]
    simp
  | o :: l, k, listed, hk, hl, hs, hli, hg => by
    rw [goodFrom, Bool.and_eq_true, Bool.and_eq_true] at hg
    obtain ⟨⟨g1, g2⟩, g3⟩ := hg
    rw [List.length_cons] at hk
    have hkn : k < ops.size := by omega
    have ho : ops[k]? = some o := by have := hl 0; simpa using this.symm
    rw [List.length_cons, Region.lexFrom, Bool.and_eq_true, Bool.and_eq_true]
    refine ⟨⟨?_, ?_⟩, ?_⟩
    · rw [List.contains_iff_mem, Region.ready, List.mem_filter]
      refine ⟨List.mem_range.2 hkn, ?_⟩
      rw [Array.getD_eq_getD_getElem?, hli k hkn, Option.getD_some, decide_eq_false (by omega), ho, Option.map_some, Option.getD_some, Bool.not_false, Bool.true_and]
      rw [Array.all_eq_true'] at g1 ⊢
      intro e he
      have := g1 e he
      rw [Bool.or_eq_true] at this ⊢
      rcases this with h | h
      · exact .inl h
      · have hlt := of_decide_eq_true h
        refine .inr ?_
        rw [Array.getD_eq_getD_getElem?, hli e.on (by omega), Option.getD_some]
        exact h
    · rw [Region.free, ho]
      simp only []
      rw [List.all_eq_true]
      intro j hj
      have hj' := List.mem_range.1 hj
      rw [Array.getD_eq_getD_getElem?, hli j hj', Option.getD_some]
      rcases Nat.lt_trichotomy j k with h | h | h
      · rw [decide_eq_true h]; simp
      · subst h; simp
      · have hoj := hl (j - k)
        rw [show k + (j - k) = j by omega] at hoj
        obtain ⟨d, hd⟩ : ∃ d, j - k = d + 1 := ⟨j - k - 1, by omega⟩
        rw [hd, List.getElem?_cons_succ] at hoj
        obtain ⟨oj, hoj2⟩ : ∃ oj, ops[j]? = some oj := ⟨ops[j], Array.getElem?_eq_getElem hj'⟩
        rw [hoj2] at hoj ⊢
        have hm := List.all_eq_true.1 g2 oj (List.mem_of_getElem? hoj)
        simp only [hm, Bool.or_true]
    · refine lex_good ops l (k + 1) _ (by omega) (fun j => ?_) (by simpa using hs) (fun j hj => ?_) g3
      · have := hl (j + 1)
        rw [List.getElem?_cons_succ] at this
        rw [this, show k + (j + 1) = k + 1 + j by omega]
      · rw [Array.getElem?_setIfInBounds]
        split
        · rename_i h
          subst h
          rw [if_pos (by omega), decide_eq_true (by omega)]
        · rename_i h
          rw [hli j hj]
          congr 1
          rw [decide_eq_decide]
          omega
theorem lexB_good {l : List Oper} (h1 : Region.noSelect l.toArray = true) (h2 : goodFrom l.toArray 0 l = true) : Region.lexB .any l.toArray = true := by
  rw [Region.lexB, h1, Bool.true_and]
  have := lex_good l.toArray l 0 (Array.replicate l.toArray.size false) (by simp) (fun j => by simp) (by simp) (fun j hj => by
    rw [Array.getElem?_replicate, if_pos (by simpa using hj)]
    rfl) h2
  simpa using this
theorem wp_region_quiet_fast {P : Program} {id : Nat} {Q : Exit → Act → World → Prop} {a : Act} {w : World} {l : List Oper} (hm : P.follows .mixedOrders = true) (hS : Region.noSelect l.toArray = true) (hB : goodFrom l.toArray 0 l = true)
    (h : wpQuiet P l.toArray (fun w' => ∃ n, w' = w.drewN n) (fun a' => ∀ w', (∃ n, w' = w.drewN n) → Q .normal a' w') l a) : (Code.region id l.toArray true).wp P Q a w :=
  wp_region_quiet_lit hm (lexB_good hS hB) h
end Go.Proofs.YtfdbolnifjpbhaaDoor
