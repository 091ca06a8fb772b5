/- A row of keys cut at one key: the plain law. -/
import Derived.Test.YtdgnpoapkjoknaaIdxL
import Derived.Test.YtdgnpoapkjoknaaIdxM
namespace Go.Proofs.Ytdgnpoapkjoknaa
set_option linter.unusedVariables false
set_option linter.unusedSimpArgs false
open Go.RowKit

def SortQ (ps : List PairV) : Prop := ps.Pairwise fun a b => ltK a.key b.key = true
theorem getD_at {ps : List PairV} {i : Nat} (h : i < ps.length) : ps.getD i zeroP = ps[i] := by
  rw [List.getD_eq_getElem?_getD, List.getElem?_eq_getElem h]
  rfl
theorem sortQ_iff (ps : List PairV) : SortedP ps ↔ SortQ ps := by
  constructor
  · intro h
    refine List.pairwise_iff_getElem.2 fun i j hi hj hij => ?_
    have := h.lt hij hj
    rwa [getD_at hi, getD_at hj] at this
  · intro h k hk
    have := List.pairwise_iff_getElem.1 h k (k + 1) (by omega) hk (by omega)
    rwa [getD_at (by omega), getD_at hk]
/-- All keys are less; all are greater. -/
def AllLt (A : List PairV) (t : ByteArray) : Prop := ∀ x ∈ A, ltK x.key t = true
def AllGt (C : List PairV) (t : ByteArray) : Prop := ∀ x ∈ C, ltK t x.key = true
theorem posK_app : ∀ (A C : List PairV) (t : ByteArray), AllLt A t → (∀ x ∈ C, ltK x.key t = false) → posK (A ++ C) t = A.length
  | [], [], t, _, _ => rfl
  | [], c :: C, t, _, h => by
    rw [List.nil_append, posK, if_neg (by rw [h c (by simp)]; decide)]
    rfl
  | a :: A, C, t, h1, h2 => by
    rw [List.cons_append, posK, if_pos (h1 a (by simp)), posK_app A C t (fun x hx => h1 x (by simp [hx])) h2]
    rfl
theorem findK_app : ∀ (A C : List PairV) (t : ByteArray), (∀ x ∈ A, x.key ≠ t) → findK (A ++ C) t = A.length + findK C t
  | [], C, t, _ => by simp
  | a :: A, C, t, h => by
    rw [List.cons_append, findK, if_neg (h a (by simp)), findK_app A C t (fun x hx => h x (by simp [hx])), List.length_cons]
    omega
theorem AllLt.ne {A : List PairV} {t : ByteArray} (h : AllLt A t) : ∀ x ∈ A, x.key ≠ t := fun x hx e => by
  have := h x hx
  rw [e, ltK_irr] at this; cases this
theorem AllGt.ne {A : List PairV} {t : ByteArray} (h : AllGt A t) : ∀ x ∈ A, x.key ≠ t := fun x hx e => by
  have := h x hx
  rw [e, ltK_irr] at this; cases this
theorem AllGt.no {A : List PairV} {t : ByteArray} (h : AllGt A t) : ∀ x ∈ A, ltK x.key t = false := fun x hx => ltK_asym (h x hx)
section
variable {A C : List PairV} {t x : ByteArray}
theorem cut_pos (hA : AllLt A t) (hC : AllGt C t) : posK (A ++ C) t = A.length := posK_app A C t hA hC.no
theorem cut_posM (hA : AllLt A t) (hC : AllGt C t) : posK (A ++ ⟨t, x⟩ :: C) t = A.length :=
  posK_app A _ t hA (fun y hy => by
    rcases List.mem_cons.1 hy with rfl | hy
    · exact ltK_irr t
    · exact hC.no y hy)
theorem cut_is (hA : AllLt A t) (hC : AllGt C t) : isK (A ++ C) t = false := by
  rw [isK, cut_pos hA hC]
  by_cases h : A.length < (A ++ C).length
  · rw [decide_eq_true h, Bool.true_and, decide_eq_false_iff_not, getD_at h, List.getElem_append_right (Nat.le_refl _)]
    exact hC.ne _ (List.getElem_mem _)
  · rw [decide_eq_false h, Bool.false_and]
theorem cut_isM (hA : AllLt A t) (hC : AllGt C t) : isK (A ++ ⟨t, x⟩ :: C) t = true := by
  have h : A.length < (A ++ ⟨t, x⟩ :: C).length := by rw [List.length_append, List.length_cons]; omega
  rw [isK, cut_posM hA hC, decide_eq_true h, Bool.true_and, decide_eq_true_eq, getD_at h, List.getElem_append_right (Nat.le_refl _)]
  simp
theorem cut_put (hA : AllLt A t) (hC : AllGt C t) (k : Int) (hk : k = 1) (e0 : Int) (v : ByteArray) : putL (A ++ C) ⟨k, e0, t, v⟩ = A ++ ⟨t, v⟩ :: C := by
  rw [putL, if_pos hk]
  simp only
  rw [cut_pos hA hC, cut_is hA hC]
  simp
theorem cut_putM (hA : AllLt A t) (hC : AllGt C t) (k : Int) (hk : k = 1) (e0 : Int) (v : ByteArray) : putL (A ++ ⟨t, x⟩ :: C) ⟨k, e0, t, v⟩ = A ++ ⟨t, v⟩ :: C := by
  rw [putL, if_pos hk]
  simp only
  rw [cut_posM hA hC, cut_isM hA hC, if_pos rfl, List.take_left]
  congr 2
  rw [← List.drop_drop, List.drop_left]
  rfl
theorem cut_gone (hA : AllLt A t) (hC : AllGt C t) (k : Int) (hk : k = 2) (e0 : Int) (v : ByteArray) : putL (A ++ C) ⟨k, e0, t, v⟩ = A ++ C := by
  rw [putL, if_neg (show ¬ k = 1 by omega)]
  simp only
  rw [cut_is hA hC, if_neg (by decide)]
theorem cut_goneM (hA : AllLt A t) (hC : AllGt C t) (k : Int) (hk : k = 2) (e0 : Int) (v : ByteArray) : putL (A ++ ⟨t, x⟩ :: C) ⟨k, e0, t, v⟩ = A ++ C := by
  rw [putL, if_neg (show ¬ k = 1 by omega)]
  simp only
  rw [cut_isM hA hC, if_pos rfl, cut_posM hA hC, List.eraseIdx_append_of_length_le (Nat.le_refl _), Nat.sub_self]
  rfl
theorem cut_find (hA : AllLt A t) (hC : AllGt C t) : findB (A ++ C) t = false ∧ findV (A ++ C) t = nilB := by
  have h : findK (A ++ C) t = (A ++ C).length := by
    rw [← List.append_nil (A ++ C), findK_app _ _ _ (fun y hy => by
      rcases List.mem_append.1 hy with hy | hy
      · exact hA.ne y hy
      · exact hC.ne y hy)]
    simp [findK]
  exact ⟨by rw [findB, h, decide_eq_false (Nat.lt_irrefl _)], by rw [findV, h, if_neg (Nat.lt_irrefl _)]⟩
theorem cut_findM (hA : AllLt A t) (hC : AllGt C t) : findB (A ++ ⟨t, x⟩ :: C) t = true ∧ findV (A ++ ⟨t, x⟩ :: C) t = x := by
  have h : findK (A ++ ⟨t, x⟩ :: C) t = A.length := by
    rw [findK_app _ _ _ hA.ne, findK, if_pos rfl, Nat.add_zero]
  have hl : A.length < (A ++ ⟨t, x⟩ :: C).length := by rw [List.length_append, List.length_cons]; omega
  exact ⟨by rw [findB, h, decide_eq_true hl], by rw [findV, h, if_pos hl, getD_at hl, List.getElem_append_right (Nat.le_refl _)]; simp⟩
end
theorem posK_split (ps : List PairV) (t : ByteArray) (hs : SortedP ps) : ∃ A C, AllLt A t ∧ AllGt C t ∧ (ps = A ++ C ∨ ∃ x, ps = A ++ ⟨t, x⟩ :: C) := by
  have hle := posK_le ps t
  have hA : AllLt (ps.take (posK ps t)) t := fun x hx => by
    obtain ⟨i, hi, rfl⟩ := List.getElem_of_mem hx
    have hi2 : i < posK ps t := by rw [List.length_take] at hi; omega
    have := posK_lo ps t i hi2
    rw [getD_at (by omega)] at this
    rw [List.getElem_take]
    exact this
  by_cases hi : isK ps t = true
  · obtain ⟨h1, h2⟩ := key_at hi
    refine ⟨ps.take (posK ps t), ps.drop (posK ps t + 1), hA, fun x hx => ?_, .inr ⟨(ps.getD (posK ps t) zeroP).val, ?_⟩⟩
    · obtain ⟨i, hi, rfl⟩ := List.getElem_of_mem hx
      rw [List.length_drop] at hi
      have := hs.lt (show posK ps t < posK ps t + 1 + i by omega) (by omega)
      rw [h2, getD_at (by omega)] at this
      rw [List.getElem_drop]
      exact this
    · have e : (⟨t, (ps.getD (posK ps t) zeroP).val⟩ : PairV) = ps[posK ps t] := by
        rw [← getD_at h1]
        revert h2
        generalize ps.getD (posK ps t) zeroP = q
        intro h2
        obtain ⟨qk, qv⟩ := q
        simp only at h2
        rw [h2]
      rw [e, ← List.drop_eq_getElem_cons h1, List.take_append_drop]
  · refine ⟨ps.take (posK ps t), ps.drop (posK ps t), hA, fun x hx => ?_, .inl (List.take_append_drop _ _).symm⟩
    obtain ⟨i, hi2, rfl⟩ := List.getElem_of_mem hx
    rw [List.length_drop] at hi2
    rw [List.getElem_drop, ← getD_at (by omega)]
    have h1 := posK_hi ps t (by omega)
    have h2 := key_not hi (by omega)
    have h3 : ltK t (ps.getD (posK ps t) zeroP).key = true := by
      cases e : ltK t (ps.getD (posK ps t) zeroP).key with
      | true => rfl
      | false => exact absurd (ltK_tri h1 e) h2
    cases i with
    | zero => exact h3
    | succ i => exact ltK_trans h3 (hs.lt (by omega) (by omega))
theorem sort_parts {A C : List PairV} {t : ByteArray} (h : SortQ (A ++ C)) (hA : AllLt A t) (hC : AllGt C t) (x : ByteArray) : SortQ (A ++ ⟨t, x⟩ :: C) := by
  obtain ⟨h1, h2, h3⟩ := List.pairwise_append.1 h
  refine List.pairwise_append.2 ⟨h1, List.pairwise_cons.2 ⟨fun y hy => hC y hy, h2⟩, fun a ha b hb => ?_⟩
  rcases List.mem_cons.1 hb with rfl | hb
  · exact hA a ha
  · exact h3 a ha b hb
theorem sort_less {A C : List PairV} {p : PairV} (h : SortQ (A ++ p :: C)) : SortQ (A ++ C) :=
  List.Pairwise.sublist (List.Sublist.append_left (List.sublist_cons_self p C) A) h
/-- A record put in: the facts of IndexSame. -/
theorem same_facts {ps : List PairV} {key val : ByteArray} (h : withOk ps ⟨1, 0, key, val⟩) :
    withOk (putL ps ⟨1, 0, key, val⟩) ⟨1, 0, key, val⟩ ∧ putL (putL ps ⟨1, 0, key, val⟩) ⟨1, 0, key, val⟩ = putL ps ⟨1, 0, key, val⟩
    ∧ withOk (putL ps ⟨1, 0, key, val⟩) ⟨2, 0, key, nilB⟩ ∧ withOk ps ⟨2, 0, key, nilB⟩ ∧ putL (putL ps ⟨1, 0, key, val⟩) ⟨2, 0, key, nilB⟩ = putL ps ⟨2, 0, key, nilB⟩
    ∧ findB (putL ps ⟨1, 0, key, val⟩) key = true ∧ findV (putL ps ⟨1, 0, key, val⟩) key = val ∧ findB (putL ps ⟨2, 0, key, nilB⟩) key = false
    ∧ (findB ps key = false → putL ps ⟨2, 0, key, nilB⟩ = ps) ∧ (putL ps ⟨1, 0, key, val⟩).length = (if findB ps key = true then ps.length else ps.length + 1) := by
  obtain ⟨hs, hl⟩ := h
  have hg : liveP ⟨2, 0, key, nilB⟩ := by
    rcases hl.1 with ⟨h0, _⟩ | ⟨_, _, hk, _⟩ | ⟨h2, _⟩
    · exact absurd h0 (by show ¬ (1 : Int) = 0; decide)
    · exact ⟨.inr (.inr ⟨rfl, rfl, hk, rfl⟩), by show ¬ (2 : Int) = 0; decide⟩
    · exact absurd h2 (by show ¬ (1 : Int) = 2; decide)
  obtain ⟨A, C, hA, hC, hp⟩ := posK_split ps key hs
  have hq := (sortQ_iff ps).1 hs
  rcases hp with rfl | ⟨x, rfl⟩
  · have hn := cut_find hA hC
    rw [cut_put hA hC 1 rfl, cut_putM hA hC 1 rfl, cut_goneM hA hC 2 rfl, cut_gone hA hC 2 rfl, hn.1, (cut_findM hA hC).1, (cut_findM hA hC).2]
    refine ⟨⟨(sortQ_iff _).2 (sort_parts hq hA hC val), hl⟩, rfl, ⟨(sortQ_iff _).2 (sort_parts hq hA hC val), hg⟩, ⟨hs, hg⟩, rfl, rfl, rfl, rfl, fun _ => rfl, ?_⟩
    rw [if_neg (by decide)]
    simp
    omega
  · have hn := cut_find hA hC
    have hy := cut_findM (x := x) hA hC
    rw [cut_putM hA hC 1 rfl, cut_putM hA hC 1 rfl, cut_goneM hA hC 2 rfl, cut_goneM hA hC 2 rfl, hn.1, hy.1, (cut_findM hA hC).1, (cut_findM hA hC).2]
    have q2 := (sortQ_iff _).2 (sort_parts (sort_less hq) hA hC val)
    refine And.intro ⟨q2, hl⟩ (And.intro ?_ (And.intro ⟨q2, hg⟩ (And.intro ⟨hs, hg⟩ (And.intro ?_ (And.intro ?_ (And.intro ?_ (And.intro ?_ (And.intro (fun h => by cases h) ?_))))))))
    all_goals first | rfl | (rw [cut_putM hA hC 1 rfl]) | (rw [if_pos rfl]; simp) | simp
end Go.Proofs.Ytdgnpoapkjoknaa
