/- The statement IndexMap: the law. -/
import Derived.Test.YtdgnpoapkjoknaaIdxO
namespace Go.Proofs.Ytdgnpoapkjoknaa
set_option linter.unusedVariables false
set_option linter.unusedSimpArgs false
open Go.RowKit

def keyM (n : Nat) : ByteArray := str [UInt8.ofNat (97 + n)]
theorem keyM_lt {i j : Nat} (h : i < j) (hj : j < 8) : ltK (keyM i) (keyM j) = true := by
  have : ∀ j : Fin 8, ∀ i : Fin 8, i.1 < j.1 → ltK (keyM i.1) (keyM j.1) = true := by decide +kernel
  exact this ⟨j, hj⟩ ⟨i, by omega⟩ h
/-- What lives, as a plain map says. -/
def canS (h : Nat → Bool) (v : Nat → ByteArray) (a : Nat) : Nat → List PairV
  | 0 => []
  | b + 1 => canS h v a b ++ (if h (a + b) = true then [⟨keyM (a + b), v (a + b)⟩] else [])
theorem canS_mem (h : Nat → Bool) (v : Nat → ByteArray) (a : Nat) : ∀ b x, x ∈ canS h v a b → ∃ j, a ≤ j ∧ j < a + b ∧ x = ⟨keyM j, v j⟩
  | 0, x, hx => by simp [canS] at hx
  | b + 1, x, hx => by
    rw [canS] at hx
    rcases List.mem_append.1 hx with hx | hx
    · obtain ⟨j, h1, h2, h3⟩ := canS_mem h v a b x hx
      exact ⟨j, h1, by omega, h3⟩
    · split at hx
      · simp at hx
        exact ⟨a + b, by omega, by omega, hx⟩
      · simp at hx
theorem canS_app (h : Nat → Bool) (v : Nat → ByteArray) (a b : Nat) : ∀ c, canS h v a (b + c) = canS h v a b ++ canS h v (a + b) c
  | 0 => by simp [canS]
  | c + 1 => by
    rw [← Nat.add_assoc, canS, canS_app h v a b c, canS, List.append_assoc, Nat.add_assoc]
theorem canS_congr {h h' : Nat → Bool} {v v' : Nat → ByteArray} (a : Nat) : ∀ b, (∀ j, a ≤ j → j < a + b → h j = h' j ∧ v j = v' j) → canS h v a b = canS h' v' a b
  | 0, _ => rfl
  | b + 1, hc => by
    rw [canS, canS, canS_congr a b (fun j h1 h2 => hc j h1 (by omega)), (hc (a + b) (by omega) (by omega)).1, (hc (a + b) (by omega) (by omega)).2]
theorem can_cut (h : Nat → Bool) (v : Nat → ByteArray) (k : Nat) (hk : k < 8) : canS h v 0 8 = canS h v 0 k ++ ((if h k = true then [⟨keyM k, v k⟩] else []) ++ canS h v (k + 1) (7 - k)) := by
  have e := canS_app h v 0 k (1 + (7 - k))
  rw [show k + (1 + (7 - k)) = 8 by omega, canS_app h v (0 + k) 1 (7 - k), Nat.zero_add] at e
  rw [e]
  simp [canS]
theorem can_lo (h : Nat → Bool) (v : Nat → ByteArray) (k : Nat) (hk : k < 8) : AllLt (canS h v 0 k) (keyM k) := fun x hx => by
  obtain ⟨j, h1, h2, rfl⟩ := canS_mem h v 0 k x hx
  exact keyM_lt (by omega) hk
theorem can_hi (h : Nat → Bool) (v : Nat → ByteArray) (k : Nat) (hk : k < 8) : AllGt (canS h v (k + 1) (7 - k)) (keyM k) := fun x hx => by
  obtain ⟨j, h1, h2, rfl⟩ := canS_mem h v (k + 1) (7 - k) x hx
  exact keyM_lt (by omega) (by omega)
def upd {α : Type} (f : Nat → α) (k : Nat) (x : α) : Nat → α := fun j => if j = k then x else f j
theorem can_put (h : Nat → Bool) (v : Nat → ByteArray) (k : Nat) (hk : k < 8) (e0 : Int) (x : ByteArray) : putL (canS h v 0 8) ⟨1, e0, keyM k, x⟩ = canS (upd h k true) (upd v k x) 0 8 := by
  have hA := can_lo h v k hk
  have hC := can_hi h v k hk
  have e1 : canS (upd h k true) (upd v k x) 0 k = canS h v 0 k := canS_congr 0 k fun j h1 h2 => by simp [upd, show j ≠ k by omega]
  have e2 : canS (upd h k true) (upd v k x) (k + 1) (7 - k) = canS h v (k + 1) (7 - k) := canS_congr _ _ fun j h1 h2 => by simp [upd, show j ≠ k by omega]
  rw [can_cut (upd h k true) (upd v k x) k hk, e1, e2, can_cut h v k hk]
  cases hh : h k with
  | true => simpa [upd] using cut_putM hA hC 1 rfl e0 x
  | false => simpa [upd] using cut_put hA hC 1 rfl e0 x
theorem can_gone (h : Nat → Bool) (v : Nat → ByteArray) (k : Nat) (hk : k < 8) (e0 : Int) (x : ByteArray) : putL (canS h v 0 8) ⟨2, e0, keyM k, x⟩ = canS (upd h k false) v 0 8 := by
  have hA := can_lo h v k hk
  have hC := can_hi h v k hk
  have e1 : canS (upd h k false) v 0 k = canS h v 0 k := canS_congr 0 k fun j h1 h2 => by simp [upd, show j ≠ k by omega]
  have e2 : canS (upd h k false) v (k + 1) (7 - k) = canS h v (k + 1) (7 - k) := canS_congr _ _ fun j h1 h2 => by simp [upd, show j ≠ k by omega]
  rw [can_cut (upd h k false) v k hk, e1, e2, can_cut h v k hk]
  cases hh : h k with
  | true => simpa [upd] using cut_goneM hA hC 2 rfl e0 x
  | false => simpa [upd] using cut_gone hA hC 2 rfl e0 x
theorem can_find (h : Nat → Bool) (v : Nat → ByteArray) (k : Nat) (hk : k < 8) : findB (canS h v 0 8) (keyM k) = h k ∧ (h k = true → findV (canS h v 0 8) (keyM k) = v k) := by
  have hA := can_lo h v k hk
  have hC := can_hi h v k hk
  rw [can_cut h v k hk]
  cases hh : h k with
  | true =>
    have := cut_findM (x := v k) hA hC
    exact ⟨by simpa using this.1, fun _ => by simpa using this.2⟩
  | false =>
    have := cut_find hA hC
    exact ⟨by simpa using this.1, fun h => by cases h⟩
theorem can_sort (h : Nat → Bool) (v : Nat → ByteArray) (a : Nat) : ∀ b, a + b ≤ 8 → SortQ (canS h v a b)
  | 0, _ => List.Pairwise.nil
  | b + 1, hb => by
    rw [canS]
    refine List.pairwise_append.2 ⟨can_sort h v a b (by omega), ?_, fun x hx y hy => ?_⟩
    · split
      · exact List.pairwise_singleton _ _
      · exact List.Pairwise.nil
    · obtain ⟨j, h1, h2, rfl⟩ := canS_mem h v a b x hx
      split at hy
      · simp at hy
        subst hy
        exact keyM_lt h2 (by omega)
      · simp at hy
/-- A plain map, step by step. -/
def mapM (ks : Nat → Nat) (gs : Nat → Bool) (vs : Nat → ByteArray) : Nat → (Nat → Bool) × (Nat → ByteArray)
  | 0 => (fun _ => false, fun _ => nilB)
  | i + 1 => if gs i = true then (upd (mapM ks gs vs i).1 (ks i) false, (mapM ks gs vs i).2) else (upd (mapM ks gs vs i).1 (ks i) true, upd (mapM ks gs vs i).2 (ks i) (vs i))
def recM (ks : Nat → Nat) (gs : Nat → Bool) (vs : Nat → ByteArray) (i : Nat) : RecV := if gs i = true then ⟨2, 0, keyM (ks i), nilB⟩ else ⟨1, 0, keyM (ks i), vs i⟩
def rsM (ks : Nat → Nat) (gs : Nat → Bool) (vs : Nat → ByteArray) (n : Nat) : List RecV := (List.range n).map (recM ks gs vs)
theorem keyM_size (k : Nat) : (keyM k).size = 1 := by rw [keyM, str_size]; rfl
theorem recM_live (ks : Nat → Nat) (gs : Nat → Bool) (vs : Nat → ByteArray) (i : Nat) (hv : (vs i).size ≤ 20) : liveP (recM ks gs vs i) := by
  have hk : keyP (keyM (ks i)) := by unfold keyP; rw [keyM_size]; omega
  unfold recM
  split
  · exact ⟨.inr (.inr ⟨rfl, rfl, hk, rfl⟩), by show ¬ (2 : Int) = 0; decide⟩
  · exact ⟨.inr (.inl ⟨rfl, rfl, hk, hv⟩), by show ¬ (1 : Int) = 0; decide⟩
theorem rsM_at (ks : Nat → Nat) (gs : Nat → Bool) (vs : Nat → ByteArray) {n i : Nat} (h : i < n) : (rsM ks gs vs n).getD i zeroR = recM ks gs vs i := by
  rw [rsM, List.getD_eq_getElem?_getD, List.getElem?_map, List.getElem?_range h]
  rfl
theorem bldM (ks : Nat → Nat) (gs : Nat → Bool) (vs : Nat → ByteArray) (n : Nat) (hk : ∀ i, ks i < 8) (hv : ∀ i, (vs i).size ≤ 20) : ∀ a, a ≤ n → bldN (rsM ks gs vs n) a = canS (mapM ks gs vs a).1 (mapM ks gs vs a).2 0 8 ∧ (a < n → withOk (bldN (rsM ks gs vs n) a) ((rsM ks gs vs n).getD a zeroR)) := by
  intro a
  induction a with
  | zero =>
    intro _
    have e : canS (mapM ks gs vs 0).1 (mapM ks gs vs 0).2 0 8 = [] := by simp [mapM, canS]
    refine ⟨by rw [e]; rfl, fun h => ⟨?_, by rw [rsM_at ks gs vs h]; exact recM_live ks gs vs 0 (hv 0)⟩⟩
    intro k hk2
    simp [bldN] at hk2
  | succ a ih =>
    intro ha
    obtain ⟨i1, i2⟩ := ih (by omega)
    have hok := i2 (by omega)
    have e : bldN (rsM ks gs vs n) (a + 1) = canS (mapM ks gs vs (a + 1)).1 (mapM ks gs vs (a + 1)).2 0 8 := by
      rw [bldN, withL, if_pos hok, i1, rsM_at ks gs vs (by omega), recM, mapM]
      cases hg : gs a with
      | true => simpa using can_gone _ _ (ks a) (hk a) 0 nilB
      | false => simpa using can_put _ _ (ks a) (hk a) 0 (vs a)
    refine ⟨e, fun h => ⟨?_, by rw [rsM_at ks gs vs h]; exact recM_live ks gs vs (a + 1) (hv _)⟩⟩
    rw [e]
    exact (sortQ_iff _).2 (can_sort _ _ 0 8 (by omega))
def cntH (h : Nat → Bool) : Nat → Nat
  | 0 => 0
  | k + 1 => cntH h k + (if h k = true then 1 else 0)
theorem canS_len (h : Nat → Bool) (v : Nat → ByteArray) : ∀ b, (canS h v 0 b).length = cntH h b
  | 0 => rfl
  | b + 1 => by
    rw [canS, List.length_append, canS_len h v b, cntH, Nat.zero_add]
    congr 1
    split <;> rfl
theorem cntH_le (h : Nat → Bool) : ∀ b, cntH h b ≤ b
  | 0 => Nat.le_refl _
  | b + 1 => by
    have := cntH_le h b
    unfold cntH
    split <;> omega
end Go.Proofs.Ytdgnpoapkjoknaa
