/- The statement PlanAgain: the law. -/
import Derived.Test.YtdgnpoapkjoknaaPlK
import Derived.Test.YtdgnpoapkjoknaaPlD
namespace Go.Proofs.Ytdgnpoapkjoknaa
set_option linter.unusedVariables false
set_option linter.unusedSimpArgs false
open Go.RowKit

/-- What one record does to a view that may be: nothing (no such key; too many), or a plan that is followed. -/
theorem again_law (ep : Int) (vr : List RecV) (fr s : Int) (r : RecV) (hb : bldOk vr) (hr : liveP r) (he1 : 1 ≤ ep) (he2 : ep ≤ 1000) (hf1 : 1 ≤ fr) (hf8 : fr ≤ 8) (hs4 : 4 ≤ s) (hs8 : s < 8) :
    withE (buildL vr) r = 0 ∧ withL (buildL vr) r = putL (buildL vr) r ∧
    ((findB (buildL vr) r.key = false ∧ r.k = 2 ∧ chL ⟨true, ep, vr, fr⟩ s r = (zeroPl, 2202)) ∨
     (¬ (findB (buildL vr) r.key = false ∧ r.k = 2) ∧ 7 < (putL (buildL vr) r).length ∧ chL ⟨true, ep, vr, fr⟩ s r = (zeroPl, 2201)) ∨
     (¬ (findB (buildL vr) r.key = false ∧ r.k = 2) ∧ ¬ 7 < (putL (buildL vr) r).length ∧ ∃ q N, chL ⟨true, ep, vr, fr⟩ s r = (q, 0) ∧ PlanF vr s r q N (putL (buildL vr) r) ∧ 1 ≤ q.free ∧ q.free ≤ 8 ∧ 1 ≤ q.ep ∧ q.ep ≤ ep + 1 ∧ 4 ≤ q.sec ∧ q.sec < 8)) := by
  have hw : withOk (buildL vr) r := ⟨buildL_sort vr, hr⟩
  have hok : chOk ⟨true, ep, vr, fr⟩ s r := ⟨⟨rfl, (epochB_iff ep).2 ⟨he1, by omega⟩, hf1, hf8, hb, hw⟩, hs4, hs8⟩
  have hz : r.key.size ≤ 9223372036854775807 ∧ r.val.size ≤ 9223372036854775807 := by
    rcases hr.1 with ⟨h, _⟩ | ⟨_, _, h, h2⟩ | ⟨_, _, h, h2⟩
    · exact absurd h hr.2
    · have := h.2
      exact ⟨by omega, by omega⟩
    · have := h.2
      exact ⟨by omega, by rw [h2]; decide⟩
  refine ⟨if_pos hw, if_pos hw, ?_⟩
  by_cases h1 : findB (buildL vr) r.key = false ∧ r.k = 2
  · exact .inl ⟨h1.1, h1.2, chL_none hok h1.1 h1.2⟩
  · by_cases h2 : 7 < (putL (buildL vr) r).length
    · exact .inr (.inl ⟨h1, h2, chL_full hok h1 h2⟩)
    · refine .inr (.inr ⟨h1, h2, ?_⟩)
      have key : ∃ q, chL ⟨true, ep, vr, fr⟩ s r = (q, 0) ∧ 1 ≤ q.free ∧ q.free ≤ 8 ∧ 1 ≤ q.ep ∧ q.ep ≤ ep + 1 ∧ 4 ≤ q.sec ∧ q.sec < 8 := by
        by_cases h3 : fr < 8
        · exact ⟨_, chL_slot hok h1 h2 h3, by show 1 ≤ fr + 1; omega, by show fr + 1 ≤ 8; omega, he1, by show ep ≤ ep + 1; omega, hs4, hs8⟩
        · refine ⟨_, chL_moved hok h1 h2 h3 (by show ¬ ep = 1048576; omega), by show 1 ≤ 1 + ((putL (buildL vr) r).length : Int); omega, by show 1 + ((putL (buildL vr) r).length : Int) ≤ 8; omega, by show 1 ≤ ep + 1; omega, by show ep + 1 ≤ ep + 1; omega, ?_, ?_⟩
          · show 4 ≤ nextS s
            unfold nextS
            split <;> omega
          · show nextS s < 8
            unfold nextS
            split <;> omega
      obtain ⟨q, hq, hrest⟩ := key
      rcases chL_law ⟨true, ep, vr, fr⟩ s r hz.1 hz.2 with ⟨c, hc, hc0⟩ | ⟨q', N, T, hq', hP⟩
      · rw [hq] at hc
        exact absurd (Prod.mk.inj hc).2.symm hc0
      · rw [hq] at hq'
        obtain ⟨rfl, _⟩ := Prod.mk.inj hq'
        have hT : T = putL (buildL vr) r := by rw [← hP.wok.2]; exact if_pos hw
        subst hT
        exact ⟨q, N, hq, hP, hrest⟩
theorem acc_bld {L0 rl : List RecV} {N : Nat} (h : buildE (accN L0 rl N) = 0) : bldOk (accN L0 rl N) := by
  unfold buildE at h
  split at h
  · assumption
  · exact absurd h (by decide)
end Go.Proofs.Ytdgnpoapkjoknaa
