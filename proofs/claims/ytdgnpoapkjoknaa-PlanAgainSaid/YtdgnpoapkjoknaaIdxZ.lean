/- The statement IndexRow: the law. -/
import Derived.Test.YtdgnpoapkjoknaaIdxX
namespace Go.Proofs.Ytdgnpoapkjoknaa
set_option linter.unusedVariables false
set_option linter.unusedSimpArgs false
open Go.RowKit

def prR (r : RecV) : PairV := ⟨r.key, r.val⟩
/-- Records of unlike keys: their row is sorted, and is theirs. -/
theorem bldU (rs : List RecV) (hl : ∀ r ∈ rs, liveP r ∧ r.k = 1) (hd : rs.Pairwise fun x y => x.key ≠ y.key) : ∀ a, a ≤ rs.length → SortQ (bldN rs a) ∧ (bldN rs a).Perm ((rs.take a).map prR) ∧ (a < rs.length → withOk (bldN rs a) (rs.getD a zeroR)) := by
  intro a
  have hat : ∀ a, a < rs.length → rs.getD a zeroR ∈ rs := fun a h => by
    rw [List.getD_eq_getElem?_getD, List.getElem?_eq_getElem h, Option.getD_some]
    exact List.getElem_mem _
  induction a with
  | zero =>
    intro _
    refine ⟨List.Pairwise.nil, by simp [bldN], fun h => ⟨(sortQ_iff _).2 List.Pairwise.nil, (hl _ (hat 0 h)).1⟩⟩
  | succ a ih =>
    intro ha
    obtain ⟨i1, i2, i3⟩ := ih (by omega)
    have hok := i3 (by omega)
    have hm := hat a (by omega)
    obtain ⟨r, hr⟩ : ∃ r, rs.getD a zeroR = r := ⟨_, rfl⟩
    rw [hr] at hok hm
    have htake : rs.take (a + 1) = rs.take a ++ [r] := by
      rw [List.take_succ_eq_append_getElem (by omega), ← hr, List.getD_eq_getElem?_getD, List.getElem?_eq_getElem (by omega), Option.getD_some]
    have hk1 := (hl r hm).2
    have hnot : ∀ p ∈ bldN rs a, p.key ≠ r.key := by
      intro p hp
      have hp2 := i2.mem_iff.1 hp
      obtain ⟨q, hq, rfl⟩ := List.mem_map.1 hp2
      have hpw : (rs.take (a + 1)).Pairwise fun x y => x.key ≠ y.key := hd.sublist (List.take_sublist _ _)
      rw [htake] at hpw
      exact (List.pairwise_append.1 hpw).2.2 q hq r (by simp)
    have key : SortQ (bldN rs (a + 1)) ∧ (bldN rs (a + 1)).Perm ((rs.take (a + 1)).map prR) := by
      rw [bldN, hr, withL, if_pos hok, htake, List.map_append]
      obtain ⟨A, C, hA, hC, h | ⟨x, h⟩⟩ := posK_split (bldN rs a) r.key hok.1
      · obtain ⟨k, e0, t, v⟩ := r
        rw [h] at i1 i2 ⊢
        rw [cut_put hA hC k hk1 e0 v]
        refine ⟨sort_parts i1 hA hC v, ?_⟩
        refine List.Perm.trans List.perm_middle ?_
        refine List.Perm.trans ?_ List.perm_append_comm
        exact List.Perm.cons _ i2
      · exact absurd rfl (hnot ⟨r.key, x⟩ (by rw [h]; simp))
    exact ⟨key.1, key.2, fun h => ⟨(sortQ_iff _).2 key.1, (hl _ (hat _ h)).1⟩⟩
theorem bldU_all (rs : List RecV) (hl : ∀ r ∈ rs, liveP r ∧ r.k = 1) (hd : rs.Pairwise fun x y => x.key ≠ y.key) : buildE rs = 0 ∧ SortQ (buildL rs) ∧ (buildL rs).Perm (rs.map prR) := by
  have h := bldU rs hl hd
  have hok : bldOk rs := fun a ha => (h a (by omega)).2.2 ha
  obtain ⟨h1, h2, _⟩ := h rs.length (Nat.le_refl _)
  rw [List.take_length] at h2
  rw [buildL, if_pos hok]
  exact ⟨if_pos hok, h1, h2⟩
theorem bldU_turn {rs os : List RecV} (hl : ∀ r ∈ rs, liveP r ∧ r.k = 1) (hd : rs.Pairwise fun x y => x.key ≠ y.key) (hp : os.Perm rs) : buildE rs = 0 ∧ buildE os = 0 ∧ buildL os = buildL rs ∧ (buildL rs).length = rs.length := by
  have hl2 : ∀ r ∈ os, liveP r ∧ r.k = 1 := fun r hr => hl r (hp.mem_iff.1 hr)
  have hd2 : os.Pairwise fun x y => x.key ≠ y.key := hp.symm.pairwise hd (fun h e => h e.symm)
  obtain ⟨a1, a2, a3⟩ := bldU_all rs hl hd
  obtain ⟨b1, b2, b3⟩ := bldU_all os hl2 hd2
  refine ⟨a1, b1, ?_, by rw [a3.length_eq, List.length_map]⟩
  refine List.Perm.eq_of_pairwise ?_ b2 a2 (b3.trans ((hp.map prR).trans a3.symm))
  intro x y _ _ h1 h2
  rw [ltK_asym h1] at h2
  cases h2
/-- The row, as it is made. -/
def keyR (n : Nat) : ByteArray := str [UInt8.ofNat n]
def seenN (ks : Nat → Nat) : Nat → (Nat → Bool) × List RecV
  | 0 => (fun _ => false, [])
  | a + 1 => if (seenN ks a).1 (ks a) = true then seenN ks a else (upd (seenN ks a).1 (ks a) true, (seenN ks a).2 ++ [⟨1, 0, keyR (ks a), keyR a⟩])
theorem keyR_size (n : Nat) : (keyR n).size = 1 := by rw [keyR, str_size]; rfl
theorem keyR_inj {i j : Nat} (hi : i < 256) (hj : j < 256) (h : keyR i = keyR j) : i = j := by
  have h1 := str_inj h
  have h2 : UInt8.ofNat i = UInt8.ofNat j := by simpa using h1
  have h3 := congrArg UInt8.toNat h2
  rwa [UInt8.toNat_ofNat', UInt8.toNat_ofNat', Nat.mod_eq_of_lt (by omega), Nat.mod_eq_of_lt (by omega)] at h3
theorem seenN_in (ks : Nat → Nat) (hk : ∀ i, ks i < 256) : ∀ a, (∀ r ∈ (seenN ks a).2, ∃ j i, j < 256 ∧ (seenN ks a).1 j = true ∧ r = ⟨1, 0, keyR j, keyR i⟩) ∧ ((seenN ks a).2.Pairwise fun x y => x.key ≠ y.key) ∧ (seenN ks a).2.length ≤ a
  | 0 => ⟨fun r hr => by simp [seenN] at hr, List.Pairwise.nil, Nat.le_refl _⟩
  | a + 1 => by
    obtain ⟨h1, h2, h3⟩ := seenN_in ks hk a
    rw [seenN]
    split
    · exact ⟨h1, h2, by omega⟩
    · rename_i hn
      refine ⟨fun r hr => ?_, List.pairwise_append.2 ⟨h2, List.pairwise_singleton _ _, fun x hx y hy => ?_⟩, by simp; omega⟩
      · rcases List.mem_append.1 hr with hr | hr
        · obtain ⟨j, i, e1, e2, e3⟩ := h1 r hr
          refine ⟨j, i, e1, ?_, e3⟩
          show upd _ _ _ j = true
          unfold upd
          split
          · rfl
          · exact e2
        · simp at hr
          exact ⟨ks a, a, hk a, by simp [upd], hr⟩
      · obtain ⟨j, i, e1, e2, rfl⟩ := h1 x hx
        simp at hy
        subst hy
        show keyR j ≠ keyR (ks a)
        intro e
        have := keyR_inj e1 (hk a) e
        subst this
        exact hn e2
theorem seenN_live (ks : Nat → Nat) (hk : ∀ i, ks i < 256) (a : Nat) : ∀ r ∈ (seenN ks a).2, liveP r ∧ r.k = 1 := by
  intro r hr
  obtain ⟨j, i, _, _, rfl⟩ := (seenN_in ks hk a).1 r hr
  have e1 : keyP (keyR j) := by unfold keyP; rw [keyR_size]; omega
  have e2 : (keyR i).size ≤ 20 := by rw [keyR_size]; omega
  exact ⟨⟨.inr (.inl ⟨rfl, rfl, e1, e2⟩), by show ¬ (1 : Int) = 0; decide⟩, rfl⟩
theorem seenN_sizes (ks : Nat → Nat) (hk : ∀ i, ks i < 256) (a : Nat) : ∀ r ∈ (seenN ks a).2, r.key.size ≤ 9223372036854775807 ∧ r.val.size ≤ 9223372036854775807 := by
  intro r hr
  obtain ⟨j, i, _, _, rfl⟩ := (seenN_in ks hk a).1 r hr
  exact ⟨by show (keyR j).size ≤ _; rw [keyR_size]; omega, by show (keyR i).size ≤ _; rw [keyR_size]; omega⟩
/-- The same row, turned. -/
def rotN (rs : List RecV) (s : Nat) (a : Nat) : List RecV := (List.range a).map fun i => rs.getD ((i + s) % rs.length) zeroR
theorem rotN_len (rs : List RecV) (s a : Nat) : (rotN rs s a).length = a := by simp [rotN]
theorem rotN_snoc (rs : List RecV) (s a : Nat) : rotN rs s (a + 1) = rotN rs s a ++ [rs.getD ((a + s) % rs.length) zeroR] := by
  rw [rotN, rotN, List.range_succ, List.map_append]; rfl
theorem rotN_perm (rs : List RecV) (s : Nat) (hs : s < rs.length ∨ rs = []) : (rotN rs s rs.length).Perm rs := by
  rcases hs with hs | rfl
  · have e : rotN rs s rs.length = rs.drop s ++ rs.take s := by
      apply List.ext_getElem
      · simp [rotN]; omega
      · intro i h1 h2
        have hi : i < rs.length := by simpa [rotN] using h1
        simp only [rotN, List.getElem_map, List.getElem_range]
        rw [List.getElem_append]
        by_cases hc : i < (rs.drop s).length
        · rw [dif_pos hc, List.getElem_drop]
          have : i + s < rs.length := by simp at hc; omega
          rw [Nat.mod_eq_of_lt this, List.getD_eq_getElem?_getD, List.getElem?_eq_getElem this, Option.getD_some]
          congr 1
          omega
        · rw [dif_neg hc, List.getElem_take]
          have hg : rs.length ≤ i + s := by simp at hc; omega
          have e2 : (i + s) % rs.length = i + s - rs.length := by
            rw [Nat.mod_eq_sub_mod hg, Nat.mod_eq_of_lt (by omega)]
          rw [e2, List.getD_eq_getElem?_getD, List.getElem?_eq_getElem (by omega), Option.getD_some]
          congr 1
          simp
          omega
    rw [e]
    refine List.Perm.trans List.perm_append_comm ?_
    rw [List.take_append_drop]
  · simp [rotN]
end Go.Proofs.Ytdgnpoapkjoknaa
