/- The statement PlanMap: the law. -/
import Derived.Test.YtdgnpoapkjoknaaPlA
import Derived.Test.YtdgnpoapkjoknaaIdxZ
namespace Go.Proofs.Ytdgnpoapkjoknaa
set_option linter.unusedVariables false
set_option linter.unusedSimpArgs false
open Go.RowKit

/-- One more record. -/
theorem bldN_pre (rs : List RecV) (r : RecV) : ∀ a, a ≤ rs.length → bldN (rs ++ [r]) a = bldN rs a
  | 0, _ => rfl
  | a + 1, h => by
    rw [bldN, bldN, bldN_pre rs r a (by omega), List.getD_eq_getElem?_getD, List.getElem?_append_left (by omega), ← List.getD_eq_getElem?_getD]
theorem bld_snoc {rs : List RecV} {r : RecV} (h : bldOk rs) (hw : withOk (buildL rs) r) : bldOk (rs ++ [r]) ∧ buildL (rs ++ [r]) = putL (buildL rs) r := by
  have hb : buildL rs = bldN rs rs.length := if_pos h
  have hl : (rs ++ [r]).getD rs.length zeroR = r := by
    rw [List.getD_eq_getElem?_getD, List.getElem?_append_right (Nat.le_refl _), Nat.sub_self]; rfl
  have hok : bldOk (rs ++ [r]) := by
    intro a ha
    rw [List.length_append, List.length_singleton] at ha
    rw [bldN_pre rs r a (by omega)]
    by_cases hlt : a < rs.length
    · rw [List.getD_eq_getElem?_getD, List.getElem?_append_left hlt, ← List.getD_eq_getElem?_getD]
      exact h a hlt
    · obtain rfl : a = rs.length := by omega
      rw [hl, ← hb]
      exact hw
  refine ⟨hok, ?_⟩
  rw [buildL, if_pos hok, List.length_append, List.length_singleton, bldN, bldN_pre rs r _ (Nat.le_refl _), hl, ← hb, withL, if_pos hw]
theorem putL_mem {ps : List PairV} {r : RecV} {p : PairV} (h : p ∈ putL ps r) : p ∈ ps ∨ (r.k = 1 ∧ p = ⟨r.key, r.val⟩) := by
  unfold putL at h
  split at h
  · rcases List.mem_append.1 h with h | h
    · exact .inl (List.mem_of_mem_take h)
    · rcases List.mem_cons.1 h with h | h
      · exact .inr ⟨by assumption, h⟩
      · exact .inl (List.mem_of_mem_drop h)
  · split at h
    · exact .inl (List.mem_of_mem_eraseIdx h)
    · exact .inl h
def LiveAll (ps : List PairV) : Prop := ∀ p ∈ ps, liveP (recP p)
theorem put_live {ps : List PairV} {r : RecV} (h : LiveAll ps) (hr : liveP r) : LiveAll (putL ps r) := by
  intro p hp
  rcases putL_mem hp with hp | ⟨hk, rfl⟩
  · exact h p hp
  · rcases hr.1 with ⟨h0, _⟩ | ⟨_, _, h3, h4⟩ | ⟨h2, _⟩
    · exact absurd (hk.symm.trans h0) (by decide)
    · exact ⟨.inr (.inl ⟨rfl, rfl, h3, h4⟩), by show ¬ (1 : Int) = 0; decide⟩
    · exact absurd (hk.symm.trans h2) (by decide)
theorem bldN_live (rs : List RecV) : ∀ a, LiveAll (bldN rs a)
  | 0 => fun p hp => by simp [bldN] at hp
  | a + 1 => by
    rw [bldN, withL]
    split
    · rename_i hw
      exact put_live (bldN_live rs a) hw.2
    · exact fun p hp => by simp at hp
theorem buildL_live (rs : List RecV) : LiveAll (buildL rs) := by
  unfold buildL
  split
  · exact bldN_live _ _
  · exact fun p hp => by simp at hp
/-- A row of pairs, put anew, is that row. -/
theorem bld_again {T : List PairV} (hs : SortedP T) (hl : LiveAll T) : buildE (T.map recP) = 0 ∧ buildL (T.map recP) = T := by
  have hq := (sortQ_iff T).1 hs
  have h1 : ∀ r ∈ T.map recP, liveP r ∧ r.k = 1 := by
    intro r hr
    obtain ⟨p, hp, rfl⟩ := List.mem_map.1 hr
    exact ⟨hl p hp, rfl⟩
  have h2 : (T.map recP).Pairwise fun x y => x.key ≠ y.key := by
    refine List.pairwise_map.2 (hq.imp ?_)
    intro a b hab e
    have e : a.key = b.key := e
    rw [e, ltK_irr] at hab
    cases hab
  obtain ⟨a1, a2, a3⟩ := bldU_all _ h1 h2
  refine ⟨a1, ?_⟩
  have hm : (T.map recP).map prR = T := by
    rw [List.map_map]
    have : (prR ∘ recP) = id := by funext p; rfl
    rw [this, List.map_id]
  rw [hm] at a3
  refine List.Perm.eq_of_pairwise ?_ a2 hq a3
  intro x y _ _ h1 h2
  rw [ltK_asym h1] at h2
  cases h2
/-- What is told behind so many records of a plan. -/
def accN (L0 rl : List RecV) (i : Nat) : List RecV := L0 ++ (rl.take i).filter fun r => decide (r.k ≠ 0)
theorem accN_zero (L0 rl : List RecV) : accN L0 rl 0 = L0 := by simp [accN]
theorem accN_no {L0 rl : List RecV} {i : Nat} (h : i < rl.length) (hk : (rl.getD i zeroR).k = 0) : accN L0 rl (i + 1) = accN L0 rl i := by
  rw [accN, accN, List.take_succ_eq_append_getElem h, List.filter_append]
  rw [List.getD_eq_getElem?_getD, List.getElem?_eq_getElem h, Option.getD_some] at hk
  simp [hk]
theorem accN_yes {L0 rl : List RecV} {i : Nat} (h : i < rl.length) (hk : (rl.getD i zeroR).k ≠ 0) : accN L0 rl (i + 1) = accN L0 rl i ++ [rl.getD i zeroR] := by
  rw [accN, accN, List.take_succ_eq_append_getElem h, List.filter_append]
  rw [List.getD_eq_getElem?_getD, List.getElem?_eq_getElem h, Option.getD_some] at hk ⊢
  simp [hk]
theorem accN_len (L0 rl : List RecV) (i : Nat) : (accN L0 rl i).length ≤ L0.length + i := by
  rw [accN, List.length_append]
  have := List.length_filter_le (fun r : RecV => decide (r.k ≠ 0)) (rl.take i)
  rw [List.length_take] at this
  omega
theorem recP_sizes {T : List PairV} (h : LiveAll T) : ∀ r ∈ T.map recP, r.key.size ≤ 9223372036854775807 ∧ r.val.size ≤ 9223372036854775807 := by
  intro r hr
  obtain ⟨p, hp, rfl⟩ := List.mem_map.1 hr
  rcases (h p hp).1 with ⟨h0, _⟩ | ⟨_, _, h3, h4⟩ | ⟨h2, _⟩
  · exact absurd h0 (by show ¬ (1 : Int) = 0; decide)
  · have := h3.2
    exact ⟨by omega, by omega⟩
  · exact absurd h2 (by show ¬ (1 : Int) = 2; decide)
/-- What is known of a plan that may be. -/
structure PlanF (rs : List RecV) (s : Int) (r : RecV) (q : PlanV) (N : Nat) (T : List PairV) : Prop where
  ok : buildE rs = 0
  wok : withE (buildL rs) r = 0 ∧ withL (buildL rs) r = T
  ls : q.slots.length = N
  lr : q.recs.length = N
  n1 : 1 ≤ N
  n8 : N ≤ 8
  each : ∀ i, i < N → (q.slots.getD i 0 == 0) = ((q.recs.getD i zeroR).k == 0) ∧ ((q.recs.getD i zeroR).k == 0) = (decide (0 ≤ q.wipe) && ((i : Int) == (N : Int) - 1)) ∧ 0 ≤ q.slots.getD i 0 ∧ q.slots.getD i 0 < 8
  acc : buildE (accN (if q.wipe < 0 then rs else []) q.recs N) = 0 ∧ buildL (accN (if q.wipe < 0 then rs else []) q.recs N) = T
  t7 : T.length ≤ 7
  at' : q.wipe < 0 ∨ (0 ≤ q.wipe ∧ q.wipe = q.sec ∧ q.sec ≠ s)
  sz : ∀ x ∈ q.recs, x.key.size ≤ 9223372036854775807 ∧ x.val.size ≤ 9223372036854775807
theorem getD_ones {n i : Nat} (h : i < n) : (onesN n ++ [0]).getD i 0 = 1 + (i : Int) := by
  rw [List.getD_eq_getElem?_getD, List.getElem?_append_left (by rw [onesN_len]; exact h), onesN, List.getElem?_map, List.getElem?_range h]
  rfl
theorem getD_ones_last (n : Nat) : (onesN n ++ [0]).getD n 0 = 0 := by
  rw [List.getD_eq_getElem?_getD, List.getElem?_append_right (by rw [onesN_len]; exact Nat.le_refl _), onesN_len, Nat.sub_self]
  rfl
theorem getD_mv {T : List PairV} {e : Int} {i : Nat} (h : i < T.length) : ((T.map recP ++ [(⟨0, e, nilB, nilB⟩ : RecV)]).getD i zeroR).k = 1 := by
  rw [List.getD_eq_getElem?_getD, List.getElem?_append_left (by rw [List.length_map]; exact h), List.getElem?_map, List.getElem?_eq_getElem h]
  rfl
theorem getD_mv_last (T : List PairV) (e : Int) : ((T.map recP ++ [(⟨0, e, nilB, nilB⟩ : RecV)]).getD T.length zeroR).k = 0 := by
  rw [List.getD_eq_getElem?_getD, List.getElem?_append_right (by rw [List.length_map]; exact Nat.le_refl _), List.length_map, Nat.sub_self]
  rfl
theorem chL_law (v : ViewV) (s : Int) (r : RecV) (hz1 : r.key.size ≤ 9223372036854775807) (hz2 : r.val.size ≤ 9223372036854775807) :
    (∃ c, chL v s r = (zeroPl, c) ∧ c ≠ 0) ∨ ∃ q N T, chL v s r = (q, 0) ∧ PlanF v.recs s r q N T := by
  by_cases h : chOk v s r
  · obtain ⟨⟨_, he, hf1, hf8, hb, hw⟩, hs4, hs8⟩ := id h
    have hlv := buildL_live v.recs
    have hT := put_live hlv hw.2
    have hTs := putL_sort hw
    by_cases h1 : findB (buildL v.recs) r.key = false ∧ r.k = 2
    · exact .inl ⟨2202, by rw [chL, if_pos h, chB, if_pos h1], by decide⟩
    · by_cases h2 : 7 < (putL (buildL v.recs) r).length
      · exact .inl ⟨2201, by rw [chL, if_pos h, chB, if_neg h1, if_pos h2], by decide⟩
      · by_cases h3 : v.free < 8
        · refine .inr ⟨_, 1, putL (buildL v.recs) r, by rw [chL, if_pos h, chB, if_neg h1, if_neg h2, if_pos h3], ?_⟩
          have hsn := bld_snoc hb hw
          have hacc : accN v.recs [r] 1 = v.recs ++ [r] := by
            have := accN_yes (L0 := v.recs) (rl := [r]) (i := 0) Nat.zero_lt_one hw.2.2
            rw [accN_zero] at this
            exact this
          refine ⟨if_pos hb, ⟨if_pos hw, if_pos hw⟩, rfl, rfl, Nat.le_refl _, by decide, fun i hi => ?_, ?_, by omega, .inl (by show (-1 : Int) < 0; decide), fun x hx => by simp at hx; subst hx; exact ⟨hz1, hz2⟩⟩
          · obtain rfl : i = 0 := by omega
            have hr0 : ((r.k == 0) : Bool) = false := by rw [beq_eq_false_iff_ne]; exact hw.2.2
            have hf0 : ((v.free == 0) : Bool) = false := by rw [beq_eq_false_iff_ne]; omega
            exact ⟨by show (v.free == 0) = (r.k == 0); rw [hr0, hf0], by show (r.k == 0) = _; rw [hr0]; rfl, by show 0 ≤ v.free; omega, h3⟩
          · show buildE (accN (if (-1 : Int) < 0 then v.recs else []) [r] 1) = 0 ∧ buildL (accN (if (-1 : Int) < 0 then v.recs else []) [r] 1) = _
            rw [if_pos (by decide), hacc]
            exact ⟨if_pos hsn.1, hsn.2⟩
        · by_cases h4 : v.ep = 1048576
          · exact .inl ⟨2201, by rw [chL, if_pos h, chB, if_neg h1, if_neg h2, if_neg h3, if_pos h4], by decide⟩
          · obtain ⟨T, hTT⟩ : ∃ T, putL (buildL v.recs) r = T := ⟨_, rfl⟩
            refine .inr ⟨movedP (nextS s) (v.ep + 1) T, T.length + 1, T, by rw [chL, if_pos h, chB, if_neg h1, if_neg h2, if_neg h3, if_neg h4, hTT], ?_⟩
            rw [hTT] at hT hTs h2
            have hnx : 0 ≤ nextS s := by unfold nextS; split <;> omega
            have hnn : nextS s ≠ s := by unfold nextS; split <;> omega
            have hag := bld_again hTs hT
            have hacc : accN [] (T.map recP ++ [(⟨0, v.ep + 1, nilB, nilB⟩ : RecV)]) (T.length + 1) = T.map recP := by
              rw [accN, List.nil_append, List.take_of_length_le (by rw [List.length_append, List.length_map]; exact Nat.le_refl _), List.filter_append]
              have e1 : (T.map recP).filter (fun r => decide (r.k ≠ 0)) = T.map recP := by
                refine List.filter_eq_self.2 fun x hx => ?_
                obtain ⟨p, _, rfl⟩ := List.mem_map.1 hx
                rfl
              rw [e1]
              simp
            refine ⟨if_pos hb, ⟨if_pos hw, (if_pos hw).trans hTT⟩, by show (onesN T.length ++ [0]).length = _; rw [List.length_append, onesN_len]; rfl, by show (T.map recP ++ [_]).length = _; rw [List.length_append, List.length_map]; rfl, by omega, by omega, fun i hi => ?_, ?_, by omega, .inr ⟨hnx, rfl, hnn⟩, ?_⟩
            · show ((onesN T.length ++ [0]).getD i 0 == 0) = (((T.map recP ++ [(⟨0, v.ep + 1, nilB, nilB⟩ : RecV)]).getD i zeroR).k == 0) ∧ (((T.map recP ++ [(⟨0, v.ep + 1, nilB, nilB⟩ : RecV)]).getD i zeroR).k == 0) = (decide (0 ≤ nextS s) && ((i : Int) == ((T.length + 1 : Nat) : Int) - 1)) ∧ 0 ≤ (onesN T.length ++ [0]).getD i 0 ∧ (onesN T.length ++ [0]).getD i 0 < 8
              by_cases hlt : i < T.length
              · rw [getD_ones hlt, getD_mv hlt]
                have e1 : ((1 + (i : Int) == 0) : Bool) = false := by rw [beq_eq_false_iff_ne]; omega
                have e2 : (((i : Int) == ((T.length + 1 : Nat) : Int) - 1) : Bool) = false := by rw [beq_eq_false_iff_ne]; omega
                rw [e1, e2, Bool.and_false]
                exact ⟨rfl, rfl, by omega, by omega⟩
              · obtain rfl : i = T.length := by omega
                rw [getD_ones_last, getD_mv_last]
                have e2 : (((T.length : Int) == ((T.length + 1 : Nat) : Int) - 1) : Bool) = true := by rw [beq_iff_eq]; omega
                rw [e2, decide_eq_true hnx]
                exact ⟨rfl, rfl, by decide, by decide⟩
            · show buildE (accN (if nextS s < 0 then v.recs else []) (T.map recP ++ [(⟨0, v.ep + 1, nilB, nilB⟩ : RecV)]) (T.length + 1)) = 0 ∧ buildL (accN (if nextS s < 0 then v.recs else []) (T.map recP ++ [(⟨0, v.ep + 1, nilB, nilB⟩ : RecV)]) (T.length + 1)) = T
              rw [if_neg (by omega), hacc]
              exact hag
            · intro x hx
              have hx : x ∈ T.map recP ++ [(⟨0, v.ep + 1, nilB, nilB⟩ : RecV)] := hx
              rcases List.mem_append.1 hx with hx | hx
              · exact recP_sizes hT x hx
              · simp at hx
                subst hx
                exact ⟨by show nilB.size ≤ _; decide, by show nilB.size ≤ _; decide⟩
  · exact .inl ⟨2200, if_neg h, by decide⟩


end Go.Proofs.Ytdgnpoapkjoknaa
