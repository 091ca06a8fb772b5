/- The document's ShowActs. -/
import Derived.Test.YtfdbolnifjpbhaaDoorScI
import Derived.Deep.RegionHeld3
namespace Go.Proofs.YtfdbolnifjpbhaaDoor
set_option linter.unusedVariables false
set_option linter.unusedSimpArgs false
open Go.RowKit

/-- What an act that may be is like. -/
structure MayF (a : ActV) : Prop where
  k0 : 0 ≤ a.k
  k7 : a.k ≤ 7
  key : a.key.size ≤ 12
  val : a.val.size ≤ 40
  mask : a.mask.size ≤ 16
  pl : 0 ≤ a.pl ∧ a.pl ≤ 4095
  wd : 0 ≤ a.wd ∧ a.wd ≤ 8
  ls : 0 ≤ a.ls ∧ a.ls ≤ 65535
  busy : (∀ x ∈ a.busy, 1 ≤ x ∧ x ≤ 400) ∧ a.busy.length ≤ 16
  reads : (∀ x ∈ a.reads, 0 ≤ x ∧ x ≤ 4095) ∧ a.reads.length ≤ 16
theorem mayR_facts {a : ActV} (h : mayR a = true) : MayF a := by
  unfold mayR at h
  rw [Bool.and_eq_true] at h
  obtain ⟨h1, h2⟩ := h
  unfold okR at h1
  simp only [Bool.and_eq_true, decide_eq_true_eq] at h1
  obtain ⟨⟨⟨⟨⟨⟨⟨⟨⟨⟨a1, a2⟩, a3⟩, a4⟩, a5⟩, a6⟩, a7⟩, a8⟩, a9⟩, a10⟩, a11⟩ := h1
  have b10 := of_decide_eq_true a10
  have b11 := of_decide_eq_true a11
  have hk : a.k = 0 ∨ a.k = 1 ∨ a.k = 2 ∨ a.k = 3 ∨ a.k = 4 ∨ a.k = 5 ∨ a.k = 6 ∨ a.k = 7 := by
    refine Classical.byContradiction fun hn => ?_
    rw [kindR_else (fun e => hn (by omega)) (fun e => hn (by omega)) (fun e => hn (by omega)) (fun e => hn (by omega)) (fun e => hn (by omega)) (fun e => hn (by omega)) (fun e => hn (by omega)) (fun e => hn (by omega))] at h2
    cases h2
  exact ⟨by omega, by omega, by omega, by omega, by omega, by omega, by omega, by omega, b10, b11⟩
theorem wordB_len (xs : List ByteArray) (h : ∀ s ∈ xs, s.size ≤ 1000) : (wordB xs).length ≤ 22 * xs.length + (xs.map ByteArray.size).sum := by
  induction xs with
  | nil => simp [wordB]
  | cons s xs ih =>
    have h1 := ih (fun y hy => h y (by simp [hy]))
    have h2 := itoa_len_nat s.size (by have := h s (by simp); omega)
    have h4 : s.data.toList.length = s.size := Array.length_toList
    have e : wordB (s :: xs) = (Lib.itoa (s.size : Int) ++ 58 :: s.data.toList) ++ wordB xs := rfl
    rw [e, List.length_append, List.length_append, List.length_cons, h4, List.map_cons, List.sum_cons, List.length_cons]
    omega
theorem okI_of {x a b : Int} (h : a ≤ x ∧ x ≤ b) (h1 : -9223372036854775808 ≤ a) (h2 : b ≤ 9223372036854775807) : OkI x := ⟨by omega, by omega⟩
theorem actB_len {a : ActV} (h : MayF a) : (actB a).length ≤ 1100 := by
  have d1 := digB_len (xs := [a.pl, a.wd, a.ls, (a.busy.length : Int)]) (fun x hx => by
    have := h.pl; have := h.wd; have := h.ls; have := h.busy.2
    simp only [List.mem_cons, List.not_mem_nil, or_false] at hx
    rcases hx with rfl | rfl | rfl | rfl <;> exact ⟨by omega, by omega⟩)
  have d2 := digB_len (xs := a.busy) (fun x hx => okI_of (h.busy.1 x hx) (by decide) (by decide))
  have d3 := digB_len (xs := [(a.reads.length : Int)]) (fun x hx => by simp at hx; subst hx; have := h.reads.2; exact ⟨by omega, by omega⟩)
  have d4 := digB_len (xs := a.reads) (fun x hx => okI_of (h.reads.1 x hx) (by decide) (by decide))
  have d5 := wordB_len [a.key, a.val, a.mask] (fun s hs => by
    have := h.key; have := h.val; have := h.mask
    simp only [List.mem_cons, List.not_mem_nil, or_false] at hs
    rcases hs with rfl | rfl | rfl <;> omega)
  have := h.key; have := h.val; have := h.mask; have := h.busy.2; have := h.reads.2
  simp only [List.length_cons, List.length_nil, List.map_cons, List.map_nil, List.sum_cons, List.sum_nil] at d1 d3 d5
  rw [actB, List.length_cons, List.length_append, List.length_append, List.length_append, List.length_append]
  omega
def showOk (xs : List ActV) : Prop := xs.length ≤ 256 ∧ ∀ a ∈ xs, mayR a = true
noncomputable def showT (xs : List ActV) : ByteArray := by
  classical
  exact if showOk xs then str (actsB xs) else ⟨#[]⟩
noncomputable def showE (xs : List ActV) : Int := by
  classical
  exact if showOk xs then 0 else 2400
theorem show_yes {xs : List ActV} (h : showOk xs) : showT xs = str (actsB xs) ∧ showE xs = 0 := ⟨if_pos h, if_pos h⟩
theorem show_no {xs : List ActV} (h : ¬ showOk xs) : showT xs = ⟨#[]⟩ ∧ showE xs = 2400 := ⟨if_neg h, if_neg h⟩
theorem actsB_snoc {xs : List ActV} {k : Nat} (h : k < xs.length) : actsB (xs.take (k + 1)) = actsB (xs.take k) ++ actB (xs.getD k zeroA) := by
  rw [List.take_succ_eq_append_getElem h, actsB, List.flatMap_append, List.getD_eq_getElem?_getD, List.getElem?_eq_getElem h]
  simp [actsB]
theorem actsB_len {xs : List ActV} (h : ∀ a ∈ xs, MayF a) : (actsB xs).length ≤ 1100 * xs.length := by
  induction xs with
  | nil => simp [actsB]
  | cons a xs ih =>
    have h1 := actB_len (h a (by simp))
    have h2 := ih (fun y hy => h y (by simp [hy]))
    have e : actsB (a :: xs) = actB a ++ actsB xs := rfl
    rw [e, List.length_append, List.length_cons]
    omega
end Go.Proofs.YtfdbolnifjpbhaaDoor
