/- The statement ScanDead: the law. -/
import Derived.Test.YtgfldfkgialdlaaScanL
import Derived.Test.YtgfldfkgialdlaaPairE
namespace Go.Proofs.Ytgfldfkgialdlaa
set_option linter.unusedVariables false
set_option linter.unusedSimpArgs false
open Go.RowKit

def recD (i : Nat) : RecV := ⟨1, 0, str [UInt8.ofNat (97 + i)], ⟨#[118]⟩⟩
theorem recD_may (i : Nat) : mayP (recD i) := by
  refine .inr (.inl ⟨rfl, rfl, ⟨?_, ?_⟩, ?_⟩)
  · show 1 ≤ (str [UInt8.ofNat (97 + i)]).size
    rw [str_size]
    exact Nat.le_refl 1
  · show (str [UInt8.ofNat (97 + i)]).size ≤ 6
    rw [str_size]
    show 1 ≤ 6
    decide
  · show (ByteArray.mk #[118]).size ≤ 20
    decide
def rsD (ep : Int) (k : Nat) : List RecV := ⟨0, ep, nilB, nilB⟩ :: (List.range k).map recD
theorem rsD_len (ep : Int) (k : Nat) : (rsD ep k).length = k + 1 := by simp [rsD]
theorem rsD_at (ep : Int) (k i : Nat) (h : i < k) : (rsD ep k).getD (i + 1) zeroR = recD i := by
  simp [rsD, List.getD_eq_getElem?_getD, List.getElem?_map, List.getElem?_range h]
theorem recT_rsD (ep : Int) (k i : Nat) (h1 : 1 ≤ ep) (h2 : ep ≤ 1048576) : recT (rsD ep k) i = if i = 0 then putR ⟨0, ep, nilB, nilB⟩ else if i ≤ k then putR (recD (i - 1)) else blank64 := by
  have m0 : mayP ⟨0, ep, nilB, nilB⟩ := .inl ⟨rfl, h1, h2, rfl, rfl⟩
  unfold recT
  rw [rsD_len]
  rcases Nat.eq_zero_or_pos i with rfl | hp
  · rw [if_pos ⟨by omega, m0⟩]; rfl
  · obtain ⟨j, rfl⟩ : ∃ j, i = j + 1 := ⟨i - 1, by omega⟩
    by_cases hk : j < k
    · rw [rsD_at ep k j hk, if_pos ⟨by omega, recD_may j⟩, if_neg (by omega), if_pos (by omega)]
      rfl
    · rw [if_neg (fun h => by omega), if_neg (by omega), if_neg (by omega)]

theorem set_xor (t : ByteArray) (p : Nat) : t.data.toList.set p 0 = t.data.toList.set p (t.data.toList.getD p 0 ^^^ t.data.toList.getD p 0) := by
  rw [UInt8.xor_self]
/-- A record's slot of which a byte that was not 0 is 0: none. -/
theorem dead_put {r : RecV} (hr : mayP r) (p : Nat) (hp : p < 64) (hb : (putR r).data.toList.getD p 0 ≠ 0) : getP (str ((putR r).data.toList.set p 0)) = (str [], 200) := by
  have z := half32_size hr
  have e : (putR r).data.toList = (half32 r).data.toList ++ compl (half32 r).data.toList := by
    rw [putR, if_pos hr, putP, if_pos z, str_data]
  rw [set_xor]
  rw [e] at hb ⊢
  exact flip_get _ (by rw [data_len, z]) p hp _ hb
theorem dead_blank (p : Nat) (hp : p < 64) : getP (str (blank64.data.toList.set p 0)) = (str [], 200) := by
  have hz : (str (blank64.data.toList.set p 0)).size = 64 := by rw [str_size, List.length_set, data_len, blank64_size]
  have hg : ∀ j, j < 64 → j ≠ p → gB (str (blank64.data.toList.set p 0)) j = 255 := fun j hj hne => by
    rw [gB, str_data, blank64_data, List.getD_eq_getElem?_getD, List.getElem?_set_ne (Ne.symm hne), List.getElem?_replicate, if_pos hj]
    rfl
  by_cases h : p % 32 = 0
  · refine get_no hz (j := 1) (by decide) ?_
    rw [hg 33 (by decide) (by omega), hg 1 (by decide) (by omega)]
    decide
  · refine get_no hz (j := 0) (by decide) ?_
    rw [hg 32 (by decide) (by omega), hg 0 (by decide) (by omega)]
    decide
theorem dead_full (t : ByteArray) (p : Nat) (hz : t.size = 64) (hp : p < 64) : blankB (str (t.data.toList.set p 0)) = false := by
  refine blankB_no (k := p) (by rw [str_size, List.length_set, data_len, hz]; exact hp) ?_
  rw [str_data, List.getD_eq_getElem?_getD, List.getElem?_set_self (by rw [data_len, hz]; exact hp)]
  decide
theorem isR_bad {u x : ByteArray} (h : getP u = (x, 200)) : isR u = false := by
  have t := tell_of (ansR_bad h)
  cases hi : isR u with
  | false => rfl
  | true =>
    have := (isR_iff _).1 hi
    rw [t.2] at this
    exact absurd this.1 (by decide)
def dsD (j d : Nat) : List Int := (List.replicate 8 (0 : Int)).set j ((3 + 4 * d : Nat) : Int)
theorem slotT_dsD (rs : List RecV) (j d i : Nat) (hj : j < 8) (hd : d < 64) (hi : i < 8) : slotT rs (dsD j d) i = if i = j then str ((recT rs i).data.toList.set d 0) else recT rs i := by
  have hl : (dsD j d).length = 8 := by simp [dsD]
  unfold slotT
  rw [if_pos (by omega)]
  by_cases h : i = j
  · subst h
    have e : (dsD i d).getD i 0 = ((3 + 4 * d : Nat) : Int) := by
      rw [dsD, List.getD_eq_getElem?_getD, List.getElem?_set_self (by simpa using hi)]
      rfl
    rw [e, if_pos rfl, deadT, if_pos (by omega), show (((3 + 4 * d : Nat) : Int) / 4 % 64).toNat = d by omega]
  · have e : (dsD j d).getD i 0 = 0 := by
      rw [dsD, List.getD_eq_getElem?_getD, List.getElem?_set_ne (Ne.symm h), List.getElem?_replicate, if_pos hi]
      rfl
    rw [e, if_neg h, deadT, if_neg (by decide)]
def wantD (j : Nat) : Nat → List RecV
  | 0 => []
  | n + 1 => if n + 1 ≠ j then wantD j n ++ [recD n] else wantD j n
theorem wantD_len (j : Nat) : ∀ n, (wantD j n).length ≤ n
  | 0 => Nat.le_refl _
  | n + 1 => by
    have ih := wantD_len j n
    unfold wantD
    split
    · rw [List.length_append]; simp; omega
    · omega
theorem wantD_off (j : Nat) (h : j = 0) : ∀ n, (wantD j n).length = n
  | 0 => rfl
  | n + 1 => by rw [wantD, if_pos (by omega), List.length_append, wantD_off j h n]; rfl
theorem wantD_sizes (j : Nat) : ∀ n, ∀ r ∈ wantD j n, r.key.size ≤ 9223372036854775807 ∧ r.val.size ≤ 9223372036854775807
  | 0, r, h => by simp [wantD] at h
  | n + 1, r, h => by
    unfold wantD at h
    split at h
    · rw [List.mem_append] at h
      rcases h with h | h
      · exact wantD_sizes j n r h
      · simp at h
        subst h
        refine ⟨?_, by show (ByteArray.mk #[118]).size ≤ _; decide⟩
        show (str [UInt8.ofNat (97 + n)]).size ≤ _
        rw [str_size]
        show 1 ≤ _
        decide
    · exact wantD_sizes j n r h
theorem rsD_sizes (ep : Int) (k : Nat) : ∀ r ∈ rsD ep k, r.key.size ≤ 9223372036854775807 ∧ r.val.size ≤ 9223372036854775807 := by
  intro r h
  rw [rsD, List.mem_cons] at h
  rcases h with rfl | h
  · exact ⟨by show nilB.size ≤ _; decide, by show nilB.size ≤ _; decide⟩
  · obtain ⟨i, _, rfl⟩ := List.mem_map.1 h
    refine ⟨?_, by show (ByteArray.mk #[118]).size ≤ _; decide⟩
    show (str [UInt8.ofNat (97 + i)]).size ≤ _
    rw [str_size]
    show 1 ≤ _
    decide
theorem rsD_snoc (ep : Int) (k : Nat) : rsD ep (k + 1) = rsD ep k ++ [recD k] := by
  rw [rsD, rsD, List.range_succ, List.map_append]
  rfl
/-- The slots of which one has a byte 0 that was not 0. -/
structure DeadS (s : ByteArray) (ep : Int) (k j : Nat) : Prop where
  bad : isR (slotB s j) = false
  full : blankB (slotB s j) = false
  poor : tellE (slotB s j) = 1900
  off : ∀ i, i < 8 → i ≠ j → slotB s i = if i = 0 then putR ⟨0, ep, nilB, nilB⟩ else if i ≤ k then putR (recD (i - 1)) else blank64
theorem DeadS.rows {s : ByteArray} {ep : Int} {k j : Nat} (h : DeadS s ep k j) : ∀ n, n ≤ 7 → recsN s n = wantD j (min n k) ∧ freeN s n = (if k < j ∧ j ≤ n then j + 1 else min n k + 1)
  | 0, _ => by
    refine ⟨by rw [Nat.zero_min]; rfl, ?_⟩
    rw [if_neg (by omega), Nat.zero_min]
    rfl
  | n + 1, hn => by
    obtain ⟨i1, i2⟩ := DeadS.rows h n (by omega)
    rw [recsN, freeN, i1, i2]
    by_cases hj : n + 1 = j
    · rw [show slotB s (n + 1) = slotB s j by rw [hj], h.bad, h.full, if_neg (by decide), if_neg (by decide)]
      by_cases hk : n + 1 ≤ k
      · rw [Nat.min_eq_left (by omega : n ≤ k), Nat.min_eq_left hk, wantD, if_neg (by omega), if_neg (by omega)]
        exact ⟨rfl, rfl⟩
      · rw [Nat.min_eq_right (by omega : k ≤ n), Nat.min_eq_right (by omega : k ≤ n + 1), if_pos (by omega)]
        exact ⟨rfl, by omega⟩
    · have e := h.off (n + 1) (by omega) hj
      rw [if_neg (by omega)] at e
      by_cases hk : n + 1 ≤ k
      · rw [if_pos hk, Nat.add_sub_cancel] at e
        have hm := recD_may n
        rw [e, isR_put hm, blankB_put hm, (tell_put hm).1, if_pos (show decide ((recD n).k ≠ 0) = true from rfl), if_neg (by decide), Nat.min_eq_left (by omega : n ≤ k), Nat.min_eq_left hk, wantD, if_pos hj, if_neg (by omega)]
        exact ⟨rfl, rfl⟩
      · rw [if_neg hk] at e
        rw [e, isR_blank, blankB_blank, if_neg (by decide), if_pos rfl, Nat.min_eq_right (by omega : k ≤ n), Nat.min_eq_right (by omega : k ≤ n + 1)]
        refine ⟨rfl, ?_⟩
        by_cases hc : k < j ∧ j ≤ n
        · rw [if_pos hc, if_pos (by omega)]
        · rw [if_neg hc, if_neg (by omega)]
theorem DeadS.facts {s : ByteArray} {ep : Int} {k j : Nat} (h : DeadS s ep k j) (z : s.size = 512) (h1 : 1 ≤ ep) (h2 : ep ≤ 1048576) (hk : k < 8) (hj : j < 8) :
    scanG s = decide (j ≠ 0) ∧ freeS s = ((if k < j then j + 1 else k + 1 : Nat) : Int) ∧ recsS s = wantD j k := by
  obtain ⟨r1, r2⟩ := h.rows 7 (by decide)
  rw [Nat.min_eq_right (by omega : k ≤ 7)] at r1 r2
  have m0 : mayP ⟨0, ep, nilB, nilB⟩ := .inl ⟨rfl, h1, h2, rfl, rfl⟩
  refine ⟨?_, ?_, by rw [recsS, if_pos z, r1]⟩
  · rw [scanG, if_pos z, goodS]
    by_cases h0 : j = 0
    · subst h0
      rw [h.poor]
      exact (decide_eq_false (fun h => absurd h.1 (by decide))).trans (decide_eq_false (fun h => h rfl)).symm
    · have e := h.off 0 (by decide) (Ne.symm h0)
      rw [if_pos rfl] at e
      rw [e, (tell_put m0).1, (tell_put m0).2, decide_eq_true ⟨rfl, rfl⟩, decide_eq_true h0]
  · rw [freeS, if_pos z, r2]
    by_cases hc : k < j
    · rw [if_pos (And.intro hc (Nat.le_of_lt_succ hj)), if_pos hc]
    · rw [if_neg (fun h => hc h.1), if_neg hc]
/-- The slots where nothing is dead. -/
theorem plain_facts {s : ByteArray} {ep : Int} {k : Nat} (h : ∀ i, i < 8 → slotB s i = if i = 0 then putR ⟨0, ep, nilB, nilB⟩ else if i ≤ k then putR (recD (i - 1)) else blank64) (z : s.size = 512) (h1 : 1 ≤ ep) (h2 : ep ≤ 1048576) (hk : k < 8) :
    scanG s = true ∧ freeS s = ((k + 1 : Nat) : Int) ∧ (recsS s).length = k := by
  have m0 : mayP ⟨0, ep, nilB, nilB⟩ := .inl ⟨rfl, h1, h2, rfl, rfl⟩
  have hr : ∀ n, n ≤ 7 → recsN s n = wantD 0 (min n k) ∧ freeN s n = min n k + 1 := by
    intro n
    induction n with
    | zero => exact fun _ => ⟨by rw [Nat.zero_min]; rfl, by rw [Nat.zero_min]; rfl⟩
    | succ n ih =>
      intro hn
      obtain ⟨i1, i2⟩ := ih (by omega)
      rw [recsN, freeN, i1, i2]
      have e := h (n + 1) (by omega)
      rw [if_neg (by omega)] at e
      by_cases hk : n + 1 ≤ k
      · rw [if_pos hk, Nat.add_sub_cancel] at e
        have hm := recD_may n
        rw [e, isR_put hm, blankB_put hm, (tell_put hm).1, if_pos (show decide ((recD n).k ≠ 0) = true from rfl), if_neg (by decide), Nat.min_eq_left (by omega : n ≤ k), Nat.min_eq_left hk, wantD, if_pos (Nat.succ_ne_zero n)]
        exact ⟨rfl, rfl⟩
      · rw [if_neg hk] at e
        rw [e, isR_blank, blankB_blank, if_neg (by decide), if_pos rfl, Nat.min_eq_right (by omega : k ≤ n), Nat.min_eq_right (by omega : k ≤ n + 1)]
        exact ⟨rfl, rfl⟩
  obtain ⟨r1, r2⟩ := hr 7 (by decide)
  rw [Nat.min_eq_right (by omega : k ≤ 7)] at r1 r2
  have e := h 0 (by decide)
  rw [if_pos rfl] at e
  refine ⟨?_, by rw [freeS, if_pos z, r2], by rw [recsS, if_pos z, r1, wantD_off 0 rfl]⟩
  rw [scanG, if_pos z, goodS, e, (tell_put m0).1, (tell_put m0).2]
  exact decide_eq_true ⟨rfl, rfl⟩
theorem sectT_ext {rs rs' : List RecV} {ds ds' : List Int} : ∀ n, (∀ i, i < n → slotT rs ds i = slotT rs' ds' i) → sectT rs ds n = sectT rs' ds' n
  | 0, _ => rfl
  | n + 1, h => by rw [sectT, sectT, sectT_ext n (fun i hi => h i (by omega)), h n (by omega)]
theorem sect_byte (rs : List RecV) (ds : List Int) (j d : Nat) (hj : j < 8) (hd : d < 64) : (sectB rs ds).data.toList.getD (64 * j + d) 0 = (slotT rs ds j).data.toList.getD d 0 := by
  rw [← slotB_sect rs ds j hj, slotB, ext_list, str_data, List.getD_eq_getElem?_getD, List.getD_eq_getElem?_getD, List.getElem?_take, if_pos (by omega), List.getElem?_drop]
theorem deadS_of (ep : Int) (k j d : Nat) (h1 : 1 ≤ ep) (h2 : ep ≤ 1048576) (hj : j < 8) (hd : d < 64) (hne : (recT (rsD ep k) j).data.toList.getD d 0 ≠ 0) : DeadS (sectB (rsD ep k) (dsD j d)) ep k j := by
  have m0 : mayP ⟨0, ep, nilB, nilB⟩ := .inl ⟨rfl, h1, h2, rfl, rfl⟩
  have e : slotB (sectB (rsD ep k) (dsD j d)) j = str ((recT (rsD ep k) j).data.toList.set d 0) := by
    rw [slotB_sect _ _ _ hj, slotT_dsD _ _ _ _ hj hd hj, if_pos rfl]
  have hg : getP (str ((recT (rsD ep k) j).data.toList.set d 0)) = (str [], 200) := by
    rw [recT_rsD ep k j h1 h2] at hne ⊢
    split at hne
    · rw [if_pos (by assumption)]
      exact dead_put m0 d hd hne
    · rw [if_neg (by assumption)]
      split at hne
      · rw [if_pos (by assumption)]
        exact dead_put (recD_may _) d hd hne
      · rw [if_neg (by assumption)]
        exact dead_blank d hd
  refine ⟨?_, ?_, ?_, ?_⟩
  · rw [e]; exact isR_bad hg
  · rw [e]; exact dead_full _ d (recT_size _ _) hd
  · rw [e]; exact (tell_of (ansR_bad hg)).2
  · intro i hi hne
    rw [slotB_sect _ _ _ hi, slotT_dsD _ _ _ _ hj hd hi, if_neg hne, recT_rsD ep k i h1 h2]
theorem dead_none (ep : Int) (k j d : Nat) (h1 : 1 ≤ ep) (h2 : ep ≤ 1048576) (hj : j < 8) (hd : d < 64) (he : (recT (rsD ep k) j).data.toList.getD d 0 = 0) : sectB (rsD ep k) (dsD j d) = sectB (rsD ep k) [] := by
  refine sectT_ext 8 fun i hi => ?_
  rw [slotT_dsD _ _ _ _ hj hd hi, slotT_nil]
  by_cases h : i = j
  · subst h
    rw [if_pos rfl]
    refine ext_str ?_
    rw [str_data]
    refine List.ext_getElem? fun n => ?_
    rw [List.getElem?_set]
    split
    · rename_i hn
      subst hn
      have hl : d < (recT (rsD ep k) i).data.toList.length := by rw [data_len, recT_size]; exact hd
      rw [if_pos hl, List.getElem?_eq_getElem hl]
      rw [List.getD_eq_getElem?_getD, List.getElem?_eq_getElem hl] at he
      exact congrArg some he.symm
    · rfl
  · rw [if_neg h]
theorem plain_slots (ep : Int) (k : Nat) (h1 : 1 ≤ ep) (h2 : ep ≤ 1048576) (i : Nat) (hi : i < 8) : slotB (sectB (rsD ep k) []) i = if i = 0 then putR ⟨0, ep, nilB, nilB⟩ else if i ≤ k then putR (recD (i - 1)) else blank64 := by
  rw [slotB_sect _ _ _ hi, slotT_nil, recT_rsD ep k i h1 h2]
end Go.Proofs.Ytgfldfkgialdlaa
