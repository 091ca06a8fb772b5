/- The statement ScanRows: the law. -/
import Derived.Test.YtgfldfkgialdlaaScanL
namespace Go.Proofs.Ytgfldfkgialdlaa
set_option linter.unusedVariables false
set_option linter.unusedSimpArgs false
open Go.RowKit

/-- Is a record written into slot k + 1? -/
def selP (rs : List RecV) (g k : Nat) : Prop := k + 1 ≠ g ∧ k < rs.length ∧ (rs.getD k zeroR).k ≠ 0 ∧ mayP (rs.getD k zeroR)
instance (rs : List RecV) (g k : Nat) : Decidable (selP rs g k) := by unfold selP; infer_instance
def rowR (rs : List RecV) (g k : Nat) : RecV := if selP rs g k then rs.getD k zeroR else zeroR
def allN (rs : List RecV) (g : Nat) (ep : Int) : Nat → List RecV
  | 0 => [⟨0, ep, nilB, nilB⟩]
  | k + 1 => allN rs g ep k ++ [rowR rs g k]
def wantN (rs : List RecV) (g : Nat) : Nat → List RecV
  | 0 => []
  | k + 1 => if selP rs g k then wantN rs g k ++ [rs.getD k zeroR] else wantN rs g k
def frN (rs : List RecV) (g : Nat) : Nat → Nat
  | 0 => 1
  | k + 1 => if selP rs g k then k + 2 else frN rs g k
theorem allN_len (rs : List RecV) (g : Nat) (ep : Int) : ∀ k, (allN rs g ep k).length = k + 1
  | 0 => rfl
  | k + 1 => by rw [allN, List.length_append, allN_len rs g ep k]; rfl
theorem wantN_len (rs : List RecV) (g : Nat) : ∀ k, (wantN rs g k).length ≤ k
  | 0 => Nat.le_refl _
  | k + 1 => by
    have ih := wantN_len rs g k
    unfold wantN
    split
    · rw [List.length_append]; simp; omega
    · omega
theorem allN_zero (rs : List RecV) (g : Nat) (ep : Int) : ∀ n, (allN rs g ep n).getD 0 zeroR = ⟨0, ep, nilB, nilB⟩
  | 0 => rfl
  | n + 1 => by
    have ih := allN_zero rs g ep n
    have hl := allN_len rs g ep n
    rw [List.getD_eq_getElem?_getD] at ih ⊢
    rw [allN, List.getElem?_append_left (by omega)]
    exact ih
theorem allN_at (rs : List RecV) (g : Nat) (ep : Int) : ∀ n k, k < n → (allN rs g ep n).getD (k + 1) zeroR = rowR rs g k
  | 0, k, h => by omega
  | n + 1, k, h => by
    have hl := allN_len rs g ep n
    by_cases hk : k < n
    · have ih := allN_at rs g ep n k hk
      rw [List.getD_eq_getElem?_getD] at ih ⊢
      rw [allN, List.getElem?_append_left (by omega)]
      exact ih
    · obtain rfl : k = n := by omega
      rw [List.getD_eq_getElem?_getD, allN, List.getElem?_append_right (by omega), hl]
      simp
theorem rows_slot (rs : List RecV) (g : Nat) (ep : Int) (k : Nat) (h : k < 7) : slotB (sectB (allN rs g ep 7) []) (k + 1) = if selP rs g k then putR (rs.getD k zeroR) else blank64 := by
  rw [slotB_sect _ _ _ (by omega), slotT_nil, recT, allN_len, allN_at rs g ep 7 k h, rowR]
  by_cases hs : selP rs g k
  · rw [if_pos hs, if_pos hs, if_pos ⟨by omega, hs.2.2.2⟩]
  · rw [if_neg hs, if_neg hs, if_neg (fun h => absurd h.2 (by decide))]
theorem rows_recs (rs : List RecV) (g : Nat) (ep : Int) : ∀ k, k ≤ 7 → recsN (sectB (allN rs g ep 7) []) k = wantN rs g k ∧ freeN (sectB (allN rs g ep 7) []) k = frN rs g k
  | 0, _ => ⟨rfl, rfl⟩
  | k + 1, h => by
    obtain ⟨i1, i2⟩ := rows_recs rs g ep k (by omega)
    have hs := rows_slot rs g ep k (by omega)
    rw [recsN, freeN, wantN, frN, hs, i1, i2]
    by_cases hp : selP rs g k
    · have hk : (rs.getD k zeroR).k ≠ 0 := hp.2.2.1
      rw [if_pos hp, if_pos hp, if_pos hp, isR_put hp.2.2.2, blankB_put hp.2.2.2, (tell_put hp.2.2.2).1]
      exact ⟨if_pos (decide_eq_true hk), if_neg (by decide)⟩
    · rw [if_neg hp, if_neg hp, if_neg hp, isR_blank, blankB_blank]
      exact ⟨if_neg (by decide), if_pos rfl⟩
theorem rows_facts (rs : List RecV) (g : Nat) (ep : Int) (h1 : 1 ≤ ep) (h2 : ep ≤ 1048576) : scanG (sectB (allN rs g ep 7) []) = true ∧ scanP (sectB (allN rs g ep 7) []) = ep ∧ freeS (sectB (allN rs g ep 7) []) = (frN rs g 7 : Int) ∧ recsS (sectB (allN rs g ep 7) []) = wantN rs g 7 := by
  have z := sectB_size (allN rs g ep 7) []
  obtain ⟨r1, r2⟩ := rows_recs rs g ep 7 (by decide)
  have m0 : mayP ⟨0, ep, nilB, nilB⟩ := .inl ⟨rfl, h1, h2, rfl, rfl⟩
  have s0 : slotB (sectB (allN rs g ep 7) []) 0 = putR ⟨0, ep, nilB, nilB⟩ := by
    rw [slotB_sect _ _ _ (by omega), slotT_nil, recT, allN_zero, allN_len, if_pos ⟨by decide, m0⟩]
  have t0 := tell_put m0
  generalize sectB (allN rs g ep 7) [] = t at *
  have hg : goodS t = true := by
    rw [goodS, s0, t0.1, t0.2]
    exact decide_eq_true ⟨rfl, rfl⟩
  refine ⟨by rw [scanG, if_pos z, hg], by rw [scanP, if_pos z, epochS, hg, if_pos rfl, s0, t0.1], by rw [freeS, if_pos z, r2], by rw [recsS, if_pos z, r1]⟩
theorem Own.made4 (w : World) (a b c d : Value) : Own (w.alloc (Obj.cells #[a, b, c, d] 23)) w.heap.size 23 4 (.slice (some ⟨w.heap.size, 0, none⟩) 1 1) 1 [a, b, c, d] := by
  have h : (w.alloc (Obj.cells #[a, b, c, d] 23)).heap = w.heap.push (Obj.cells #[a, b, c, d] 23) := rfl
  exact ⟨rfl, .inr ⟨w.heap.size, 1, #[a, b, c, d], _, rfl, Nat.le_refl _, by rw [h]; simp; rfl, .inr rfl, Nat.le_refl _, by decide, rfl, rfl⟩⟩
/-- Two rows that do not lie in one another. -/
def Apart (u v : Value) : Prop := u.ownBlock = none ∨ u.ownBlock ≠ v.ownBlock
theorem Apart.new {u v v1 : Value} {W : World} {B n : Nat} {e : TypeId} {size : Nat} {xs : List Value} (h : Apart u v) (ho : Own W B e size u n xs) (hv : v1.ownBlock = v.ownBlock ∨ v1.ownBlock = some W.heap.size) : Apart u v1 := by
  rcases hv with hv | hv
  · unfold Apart; rw [hv]; exact h
  · cases hu : u.ownBlock with
    | none => exact .inl hu
    | some k =>
      refine .inr ?_
      rw [hv, hu]
      intro e
      have := (ho.lt k hu).2
      rw [Option.some.injEq] at e
      omega
theorem Apart.sym {u v : Value} (h : Apart u v) : Apart v u := by
  cases hv : v.ownBlock with
  | none => exact .inl hv
  | some k =>
    refine .inr fun e => ?_
    rcases h with h | h
    · rw [h, hv] at e; cases e
    · exact h e.symm
end Go.Proofs.Ytgfldfkgialdlaa
