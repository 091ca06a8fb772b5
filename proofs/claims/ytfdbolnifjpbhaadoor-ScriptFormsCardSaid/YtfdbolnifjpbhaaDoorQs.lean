/- A region that draws its order, whose operations make memory and none of which writes any: what each slot holds is told by a relation. -/
import Derived.WalkKit
import Derived.Test.YtfdbolnifjpbhaaDoorWd
namespace Go.Proofs.YtfdbolnifjpbhaaDoor
set_option linter.unusedVariables false
set_option linter.unusedSimpArgs false
open Go.RowKit

/-- What stands in the frame and in memory behind some operations of a region. -/
structure SlotI (ops : Array Oper) (dst : Nat → Nat) (R : Nat → Value → World → Prop) (a0 : Act) (w0 : World) (listed : Array Bool) (a : Act) (w : World) : Prop where
  bl : Below w0.heap.size w0 w
  sz : a.tmps.size = a0.tmps.size
  df : a.defers = a0.defers
  fr : ∀ t, (∀ i, i < ops.size → dst i ≠ t) → a.tmps.getD t undef = a0.tmps.getD t undef
  on : ∀ i, i < ops.size → listed.getD i true = true → R i (a.tmps.getD (dst i) undef) w
theorem wpAny_slots {P : Program} {md : Region.Mode} {ops : Array Oper} {Q : Exit → Act → World → Prop} {dst : Nat → Nat} {R : Nat → Value → World → Prop} {a0 : Act} {w0 : World}
    (hop : ∀ i o, ops[i]? = some o → o.guard = none ∧ o.dst = some (dst i) ∧ dst i < a0.tmps.size ∧ (∀ e ∈ o.after, Region.binds md e = true → e.on < i) ∧ ∀ k, k < ops.size → k ≠ i → dst k ≠ dst i)
    (hmono : ∀ i v w w', R i v w → Below w.heap.size w w' → R i v w')
    (hstep : ∀ i o, ops[i]? = some o → ∀ (a : Act) (w : World), Below w0.heap.size w0 w → (∀ t, (∀ i, i < ops.size → dst i ≠ t) → a.tmps.getD t undef = a0.tmps.getD t undef) → (∀ e ∈ o.after, Region.binds md e = true → R e.on (a.tmps.getD (dst e.on) undef) w) → ∃ v w', (execOp a.eval o).run P w = .ok (.value v) w' ∧ Below w.heap.size w w' ∧ R i v w')
    (hend : ∀ (a : Act) (w : World), Below w0.heap.size w0 w → a.tmps.size = a0.tmps.size → a.defers = a0.defers → (∀ t, (∀ i, i < ops.size → dst i ≠ t) → a.tmps.getD t undef = a0.tmps.getD t undef) → (∀ i, i < ops.size → R i (a.tmps.getD (dst i) undef) w) → Q .normal a w) :
    ∀ (fuel : Nat) (listed : Array Bool) (a : Act) (w : World), listed.size = ops.size → fuel + listed.toList.count true = ops.size → SlotI ops dst R a0 w0 listed a w → wpAny P md ops Q fuel listed a w := by
  have hall : ∀ (listed : Array Bool), listed.size = ops.size → Region.ready md ops listed = [] → ∀ i, i < ops.size → listed.getD i true = true := by
    intro listed hsz hr i
    induction i using Nat.strongRecOn with
    | _ i ih =>
      intro hi
      refine Classical.byContradiction fun hn => ?_
      obtain ⟨o, ho⟩ : ∃ o, ops[i]? = some o := ⟨ops[i], Array.getElem?_eq_getElem hi⟩
      have hd := (hop i o ho).2.2.2.1
      have hm : i ∈ Region.ready md ops listed := by
        rw [Region.ready, List.mem_filter]
        refine ⟨List.mem_range.2 hi, ?_⟩
        rw [Bool.not_eq_true] at hn
        rw [hn, ho, Option.map_some, Option.getD_some, Bool.not_false, Bool.true_and, Array.all_eq_true']
        intro e he
        cases hb : Region.binds md e with
        | false => rfl
        | true =>
          have hlt := hd e he hb
          have := ih e.on hlt (by omega)
          rw [Array.getD_eq_getD_getElem?] at this ⊢
          rw [Array.getElem?_eq_getElem (by omega), Option.getD_some] at this ⊢
          simpa using this
      rw [hr] at hm
      cases hm
  intro fuel
  induction fuel with
  | zero =>
    intro listed a w hsz hc hI
    have hcount : listed.toList.count true = listed.toList.length := by rw [Array.length_toList, hsz]; omega
    have htrue : ∀ i, i < ops.size → listed.getD i true = true := fun i hi => by
      have h1 := List.count_eq_length.1 hcount
      rw [Array.getD_eq_getD_getElem?, Array.getElem?_eq_getElem (by omega), Option.getD_some]
      exact (h1 _ (Array.getElem_mem_toList (by omega))).symm
    refine ⟨?_, hend a w hI.bl hI.sz hI.df hI.fr fun i hi => hI.on i hi (htrue i hi)⟩
    rw [Region.ready, List.filter_eq_nil_iff]
    intro i hi
    rw [htrue i (List.mem_range.1 hi)]
    simp
  | succ fuel ih =>
    intro listed a w hsz hc hI
    refine ⟨fun hr => hend a w hI.bl hI.sz hI.df hI.fr fun i hi => hI.on i hi (hall listed hsz hr i hi), fun i hi => ?_⟩
    rw [Region.ready, List.mem_filter] at hi
    obtain ⟨hi, hre⟩ := hi
    have hi := List.mem_range.1 hi
    obtain ⟨o, ho⟩ : ∃ o, ops[i]? = some o := ⟨ops[i], Array.getElem?_eq_getElem hi⟩
    rw [ho, Option.map_some, Option.getD_some, Bool.and_eq_true] at hre
    obtain ⟨hun, haf⟩ := hre
    obtain ⟨hg, hd, hdl, hdep, hdist⟩ := hop i o ho
    have hun' : listed[i]? = some false := by
      rw [Array.getD_eq_getD_getElem?, Array.getElem?_eq_getElem (by omega), Option.getD_some] at hun
      rw [Array.getElem?_eq_getElem (by omega)]
      simpa using hun
    obtain ⟨v, w', hrun, hbl, hR⟩ := hstep i o ho a w hI.bl hI.fr (fun e he hb => by
      have h1 := (Array.all_eq_true'.1 haf) e he
      rw [hb, Bool.not_true, Bool.false_or] at h1
      have hlt := hdep e he hb
      refine hI.on e.on (by omega) ?_
      rw [Array.getD_eq_getD_getElem?, Array.getElem?_eq_getElem (by omega), Option.getD_some] at h1 ⊢
      exact h1)
    unfold wpOp
    rw [ho]
    simp only []
    rw [if_pos (by simp [Region.wanted, hg])]
    refine .inl ?_
    unfold Oper.wp
    rw [hrun]
    simp only [Oper.upon]
    refine ih _ _ _ (by simpa using hsz) ?_ ⟨Below.trans hI.bl ⟨hbl.os, hbl.tape, hbl.output, hbl.size, fun k hk => hbl.block k (Nat.lt_of_lt_of_le hk hI.bl.size)⟩, ?_, ?_, ?_, ?_⟩
    · rw [Array.toList_setIfInBounds, List.count_set (by rw [Array.length_toList]; omega)]
      have h1 : listed.toList[i]'(by rw [Array.length_toList]; omega) = false := by
        rw [Array.getElem_toList]
        rw [Array.getElem?_eq_getElem (by omega)] at hun'
        simpa using hun'
      rw [h1, if_neg (by decide), if_pos (by decide)]
      omega
    · rw [hd]
      show (a.tmps.setIfInBounds (dst i) v).size = _
      rw [Array.size_setIfInBounds]
      exact hI.sz
    · rw [hd]; exact hI.df
    · intro t ht
      rw [hd]
      show (a.tmps.setIfInBounds (dst i) v).getD t undef = _
      rw [← hI.fr t ht, Array.getD_eq_getD_getElem?, Array.getD_eq_getD_getElem?, Array.getElem?_setIfInBounds_ne (ht i hi)]
    · intro j hj hlj
      rw [hd]
      show R j ((a.tmps.setIfInBounds (dst i) v).getD (dst j) undef) w'
      by_cases hji : j = i
      · subst hji
        rw [Array.getD_eq_getD_getElem?, Array.getElem?_setIfInBounds_self_of_lt (by rw [hI.sz]; exact hdl), Option.getD_some]
        exact hR
      · rw [Array.getD_eq_getD_getElem?, Array.getElem?_setIfInBounds_ne (fun e => hdist j hj hji e.symm), ← Array.getD_eq_getD_getElem?]
        refine hmono j _ w w' (hI.on j hj ?_) hbl
        rw [Array.getD_eq_getD_getElem?, Array.getElem?_setIfInBounds_ne (fun e => hji e.symm), ← Array.getD_eq_getD_getElem?] at hlj
        exact hlj
/-- Of each operation of a list, with its number. -/
def AllS (T : Nat → Oper → Prop) : Nat → List Oper → Prop
  | _, [] => True
  | k, o :: r => T k o ∧ AllS T (k + 1) r
theorem AllS.get {T : Nat → Oper → Prop} {l : List Oper} : ∀ {k i : Nat} {o : Oper}, AllS T k l → l[i]? = some o → T (k + i) o := by
  induction l with
  | nil => intro k i o _ hi; simp at hi
  | cons o' r ih =>
    intro k i o h hi
    cases i with
    | zero =>
      rw [List.getElem?_cons_zero] at hi
      obtain rfl := Option.some.inj hi
      exact h.1
    | succ i =>
      rw [List.getElem?_cons_succ] at hi
      have := ih h.2 hi
      rwa [show k + (i + 1) = k + 1 + i by omega]
/-- Each operation has no guard, its own slot, and waits for earlier ones alone. -/
def slotsB (dst : Nat → Nat) (size : Nat) : Nat → List Oper → Bool
  | _, [] => true
  | k, o :: r => o.guard.isNone && o.dst == some (dst k) && decide (dst k < size) && (o.after.all fun e => !Region.binds .any e || decide (e.on < k)) && slotsB dst size (k + 1) r
theorem slotsB_get {dst : Nat → Nat} {size : Nat} {l : List Oper} : ∀ {k i : Nat} {o : Oper}, slotsB dst size k l = true → l[i]? = some o → o.guard = none ∧ o.dst = some (dst (k + i)) ∧ dst (k + i) < size ∧ ∀ e ∈ o.after, Region.binds .any e = true → e.on < k + i := by
  induction l with
  | nil => intro k i o _ hi; simp at hi
  | cons o' r ih =>
    intro k i o h hi
    cases i with
    | zero =>
      rw [List.getElem?_cons_zero] at hi
      obtain rfl := Option.some.inj hi
      rw [slotsB, Bool.and_eq_true, Bool.and_eq_true, Bool.and_eq_true, Bool.and_eq_true] at h
      obtain ⟨⟨⟨⟨h1, h2⟩, h3⟩, h4⟩, _⟩ := h
      refine ⟨Option.isNone_iff_eq_none.1 h1, by simpa using h2, of_decide_eq_true h3, fun e he hb => ?_⟩
      have := Array.all_eq_true'.1 h4 e he
      rw [hb, Bool.not_true, Bool.false_or] at this
      exact of_decide_eq_true this
    | succ i =>
      rw [List.getElem?_cons_succ] at hi
      rw [slotsB, Bool.and_eq_true] at h
      have := ih h.2 hi
      rwa [show k + (i + 1) = k + 1 + i by omega]
/-- What an operation must do. -/
def StepS (P : Program) (n : Nat) (dst : Nat → Nat) (R : Nat → Value → World → Prop) (a0 : Act) (w0 : World) (i : Nat) (o : Oper) : Prop :=
  ∀ (a : Act) (w : World), Below w0.heap.size w0 w → (∀ t, (∀ i, i < n → dst i ≠ t) → a.tmps.getD t undef = a0.tmps.getD t undef) → (∀ e ∈ o.after, Region.binds .any e = true → R e.on (a.tmps.getD (dst e.on) undef) w) → ∃ v w', (execOp a.eval o).run P w = .ok (.value v) w' ∧ Below w.heap.size w w' ∧ R i v w'
/-- The slots, each laid in its place. -/
def putL (dst : Nat → Nat) (vs : Nat → Value) : Nat → Array Value → Array Value
  | 0, arr => arr
  | k + 1, arr => (putL dst vs k arr).setIfInBounds (dst k) (vs k)
theorem putL_size (dst : Nat → Nat) (vs : Nat → Value) : ∀ (k : Nat) (arr : Array Value), (putL dst vs k arr).size = arr.size
  | 0, _ => rfl
  | k + 1, arr => by rw [putL, Array.size_setIfInBounds, putL_size dst vs k]
theorem putL_other (dst : Nat → Nat) (vs : Nat → Value) : ∀ (k : Nat) (arr : Array Value) (t : Nat), (∀ i, i < k → dst i ≠ t) → (putL dst vs k arr).getD t undef = arr.getD t undef
  | 0, _, _, _ => rfl
  | k + 1, arr, t, h => by
    rw [putL, Array.getD_eq_getD_getElem?, Array.getElem?_setIfInBounds_ne (h k (by omega)), ← Array.getD_eq_getD_getElem?]
    exact putL_other dst vs k arr t (fun i hi => h i (by omega))
theorem putL_at (dst : Nat → Nat) (vs : Nat → Value) : ∀ (k : Nat) (arr : Array Value) (i : Nat), i < k → dst i < arr.size → (∀ j, j < k → j ≠ i → dst j ≠ dst i) → (putL dst vs k arr).getD (dst i) undef = vs i
  | k + 1, arr, i, hi, hs, hd => by
    by_cases hik : i = k
    · subst hik
      rw [putL, Array.getD_eq_getD_getElem?, Array.getElem?_setIfInBounds_self_of_lt (by rw [putL_size]; exact hs), Option.getD_some]
    · rw [putL, Array.getD_eq_getD_getElem?, Array.getElem?_setIfInBounds_ne (hd k (by omega) (fun e => hik e.symm)), ← Array.getD_eq_getD_getElem?]
      exact putL_at dst vs k arr i (by omega) hs (fun j hj hji => hd j (by omega) hji)
/-- A region that draws its order, whose operations make memory and none of which writes any. -/
theorem wp_region_slots {P : Program} {id : Nat} {Q : Exit → Act → World → Prop} {a0 : Act} {w0 : World} {l : List Oper} (dst : Nat → Nat) (R : Nat → Value → World → Prop) (hm : P.follows .mixedOrders = true)
    (hB : slotsB dst a0.tmps.size 0 l = true) (hdist : ∀ k i, k < l.length → i < l.length → k ≠ i → dst k ≠ dst i)
    (hmono : ∀ i v w w', R i v w → Below w.heap.size w w' → R i v w')
    (hstep : AllS (StepS P l.length dst R a0 w0.drew) 0 l)
    (hend : ∀ (vs : Nat → Value) (w : World), Below w0.drew.heap.size w0.drew w → (∀ i, i < l.length → R i (vs i) w) → Q .normal { a0 with tmps := putL dst vs l.length a0.tmps } w) :
    (Code.region id l.toArray true).wp P Q a0 w0 := by
  refine wp_region_any hm ?_
  refine wpAny_slots (dst := dst) (R := R) (a0 := a0) (w0 := w0.drew) (fun i o ho => ?_) hmono (fun i o ho a w h1 h2 h3 => ?_) (fun a w h1 h2 h3 h4 h5 => ?_) _ _ _ _ (by simp) (by simp [List.count_replicate]) ⟨Below.refl _ _, rfl, rfl, fun _ _ => rfl, fun i hi h => ?_⟩
  · have ho' : l[i]? = some o := by simpa using ho
    obtain ⟨g1, g2, g3, g4⟩ := slotsB_get hB ho'
    rw [Nat.zero_add] at g2 g3 g4
    have hi := (List.getElem?_eq_some_iff.1 ho').1
    exact ⟨g1, g2, g3, g4, fun k hk hne => hdist k i (by simpa using hk) hi hne⟩
  · have ho' : l[i]? = some o := by simpa using ho
    have := AllS.get hstep ho'
    rw [Nat.zero_add] at this
    exact this a w h1 (fun t ht => h2 t (fun i hi => ht i (by simpa using hi))) h3
  · have e : a = { a0 with tmps := putL dst (fun i => a.tmps.getD (dst i) undef) l.length a0.tmps } := by
      have et : a.tmps = putL dst (fun i => a.tmps.getD (dst i) undef) l.length a0.tmps := by
        apply Array.ext
        · rw [putL_size]; exact h2
        · intro t ht1 ht2
          have key : a.tmps.getD t undef = (putL dst (fun i => a.tmps.getD (dst i) undef) l.length a0.tmps).getD t undef := by
            by_cases hx : ∃ i, i < l.length ∧ dst i = t
            · obtain ⟨i, hi, rfl⟩ := hx
              rw [putL_at dst _ l.length a0.tmps i hi (by rw [← h2]; exact ht1) (fun j hj hji => hdist j i hj hi hji)]
            · rw [putL_other dst _ l.length a0.tmps t (fun i hi he => hx ⟨i, hi, he⟩)]
              exact h4 t (fun i hi he => hx ⟨i, by simpa using hi, he⟩)
          rw [Array.getD_eq_getD_getElem?, Array.getD_eq_getD_getElem?, Array.getElem?_eq_getElem ht1, Array.getElem?_eq_getElem ht2] at key
          exact key
      rw [← et, ← h3]
    rw [e]
    exact hend _ w h1 (fun i hi => h5 i (by simpa using hi))
  · rw [Array.getD_eq_getD_getElem?, Array.getElem?_replicate, if_pos hi] at h
    cases h
end Go.Proofs.YtfdbolnifjpbhaaDoor
