/- Records: may one be? (of RecL and RecA, for the layers that see no text of a record) -/
import Derived.Test.YtdgnpoapkjoknaaProg
import Derived.Test.YtdgnpoapkjoknaaOwn
import Derived.Test.YtdgnpoapkjoknaaU8
namespace Go.Proofs.Ytdgnpoapkjoknaa
set_option linter.unusedVariables false
set_option linter.unusedSimpArgs false
open Go.RowKit

/-- A record. -/
structure RecV where
  k : Int
  e : Int
  key : ByteArray
  val : ByteArray
deriving DecidableEq
def RecV.v (r : RecV) : Value := .agg #[.int .i64 r.k, .int .i64 r.e, .string r.key, .string r.val]
def nilB : ByteArray := ⟨#[]⟩
def zeroR : RecV := ⟨0, 0, nilB, nilB⟩
def keyP (s : ByteArray) : Prop := 1 ≤ s.size ∧ s.size ≤ 6
instance (s : ByteArray) : Decidable (keyP s) := by unfold keyP; infer_instance
/-- May a record be? -/
def mayP (r : RecV) : Prop :=
  (r.k = 0 ∧ 1 ≤ r.e ∧ r.e ≤ 1048576 ∧ r.key = nilB ∧ r.val = nilB) ∨ (r.k = 1 ∧ r.e = 0 ∧ keyP r.key ∧ r.val.size ≤ 20) ∨ (r.k = 2 ∧ r.e = 0 ∧ keyP r.key ∧ r.val = nilB)
instance (r : RecV) : Decidable (mayP r) := by unfold mayP; infer_instance
def mayB (r : RecV) : Bool := decide (mayP r)
theorem keyP_iff (s : ByteArray) : decide (keyP s) = (decide ((1 : Int) ≤ (s.size : Int)) && decide ((s.size : Int) ≤ 6)) := by
  unfold keyP
  by_cases h1 : 1 ≤ s.size <;> by_cases h2 : s.size ≤ 6 <;> simp [h1, h2] <;> omega
theorem key_any (s : ByteArray) (w : World) (hs : s.size ≤ 9223372036854775807) : Calls Try.prog 60 #[.string s] w fun e w' => e = .returned (.bool (decide (keyP s))) ∧ w = w' := by
  rw [keyP_iff]
  by_cases c : (1 : Int) ≤ s.size
  · rw [decide_eq_true c]
    go_enter Try.func60, Try.ntmps60
    go_wp2
    go_ret
    exact ⟨by simp, rfl⟩
  · rw [decide_eq_false c]
    go_enter Try.func60, Try.ntmps60
    go_wp2
    go_ret
    exact ⟨rfl, rfl⟩
theorem keymay_any (s : ByteArray) (w : World) (hs : s.size ≤ 9223372036854775807) : Calls Try.prog 52 #[.string s] w fun e w' => e = .returned (.bool (decide (keyP s))) ∧ w = w' := by
  rw [keyP_iff]
  by_cases c : (1 : Int) ≤ s.size
  · rw [decide_eq_true c]
    go_enter Try.func52, Try.ntmps52
    go_wp2
    go_ret
    exact ⟨by simp, rfl⟩
  · rw [decide_eq_false c]
    go_enter Try.func52, Try.ntmps52
    go_wp2
    go_ret
    exact ⟨rfl, rfl⟩
def epochB (e : Int) : Bool := decide (1 ≤ e) && decide (e ≤ 1048576)
theorem epoch_any (e0 : Int) (w : World) : Calls Try.prog 59 #[.int .i64 e0] w fun e w' => e = .returned (.bool (epochB e0)) ∧ w = w' := by
  unfold epochB
  by_cases c : 1 ≤ e0
  · rw [decide_eq_true c]
    go_enter Try.func59, Try.ntmps59
    go_wp2
    go_ret
    exact ⟨by simp, rfl⟩
  · rw [decide_eq_false c]
    go_enter Try.func59, Try.ntmps59
    go_wp2
    go_ret
    exact ⟨rfl, rfl⟩

theorem isE (s : ByteArray) : s.toList.isEmpty = decide (s = nilB) := by
  rw [ByteArray.toList_eq]
  by_cases h : s = nilB
  · subst h; rfl
  · rw [decide_eq_false h]
    cases hl : s.data.toList with
    | nil => exact absurd (ext_str (t := nilB) hl) h
    | cons => rfl
theorem may0 (e : Int) (key v : ByteArray) : mayB ⟨0, e, key, v⟩ = (epochB e && key.toList.isEmpty && v.toList.isEmpty) := by
  rw [isE, isE, epochB, Bool.eq_iff_iff]
  simp [mayB, mayP, and_assoc]
theorem may1 (e : Int) (key v : ByteArray) : mayB ⟨1, e, key, v⟩ = (decide (e = 0) && decide (keyP key) && decide ((v.size : Int) ≤ 20)) := by
  rw [Bool.eq_iff_iff]
  simp [mayB, mayP, and_assoc]
  omega
theorem may2 (e : Int) (key v : ByteArray) : mayB ⟨2, e, key, v⟩ = (decide (e = 0) && decide (keyP key) && v.toList.isEmpty) := by
  rw [isE, Bool.eq_iff_iff]
  simp [mayB, mayP, and_assoc]
theorem mayx {k : Int} (e : Int) (key v : ByteArray) (h0 : k ≠ 0) (h1 : k ≠ 1) (h2 : k ≠ 2) : mayB ⟨k, e, key, v⟩ = false := by
  simp [mayB, mayP, h0, h1, h2]

set_option maxRecDepth 100000 in
theorem may_any (r : RecV) (w : World) (hk : r.key.size ≤ 9223372036854775807) (hv : r.val.size ≤ 9223372036854775807) : Calls Try.prog 53 #[r.v] w fun e w' => e = .returned (.bool (mayB r)) ∧ Below w.heap.size w w' := by
  obtain ⟨k, e0, key, v⟩ := r
  simp only at hk hv
  show Calls Try.prog 53 #[.agg #[.int .i64 k, .int .i64 e0, .string key, .string v]] w _
  by_cases c0 : k = 0
  · subst c0
    rw [may0]
    cases hb : epochB e0
    · go_enter Try.func53, Try.ntmps53
      go_wp2_with fail
      with_reducible refine (epoch_any _ _).mono ?_
      rw [hb]
      rintro e w1 ⟨rfl, rfl⟩
      go_wp2_with fail
      all_goals (go_ret; exact ⟨by simp [*], Bl.alloc (Below.refl _ _) _⟩)
    · go_enter Try.func53, Try.ntmps53
      go_wp2_with fail
      with_reducible refine (epoch_any _ _).mono ?_
      rw [hb]
      rintro e w1 ⟨rfl, rfl⟩
      go_wp2_with fail
      all_goals (go_ret; exact ⟨by simp [*], Bl.alloc (Below.refl _ _) _⟩)
  · by_cases c1 : k = 1
    · subst c1
      clear c0
      rw [may1]
      by_cases ce : e0 = 0
      · subst ce
        cases hb : decide (keyP key)
        · go_enter Try.func53, Try.ntmps53
          go_wp2_with fail
          with_reducible refine (key_any _ _ hk).mono ?_
          rw [hb]
          rintro e w1 ⟨rfl, rfl⟩
          go_wp2_with fail
          all_goals (go_ret; exact ⟨by simp [*], Bl.alloc (Below.refl _ _) _⟩)
        · go_enter Try.func53, Try.ntmps53
          go_wp2_with fail
          with_reducible refine (key_any _ _ hk).mono ?_
          rw [hb]
          rintro e w1 ⟨rfl, rfl⟩
          go_wp2_with fail
          all_goals (go_ret; exact ⟨by simp [*], Bl.alloc (Below.refl _ _) _⟩)
      · rw [decide_eq_false ce]
        go_enter Try.func53, Try.ntmps53
        go_wp2_with fail
        all_goals (go_ret; exact ⟨by simp [*], Bl.alloc (Below.refl _ _) _⟩)
    · by_cases c2 : k = 2
      · subst c2
        clear c0 c1
        rw [may2]
        by_cases ce : e0 = 0
        · subst ce
          cases hb : decide (keyP key)
          · go_enter Try.func53, Try.ntmps53
            go_wp2_with fail
            with_reducible refine (key_any _ _ hk).mono ?_
            rw [hb]
            rintro e w1 ⟨rfl, rfl⟩
            go_wp2_with fail
            all_goals (go_ret; exact ⟨by simp [*], Bl.alloc (Below.refl _ _) _⟩)
          · go_enter Try.func53, Try.ntmps53
            go_wp2_with fail
            with_reducible refine (key_any _ _ hk).mono ?_
            rw [hb]
            rintro e w1 ⟨rfl, rfl⟩
            go_wp2_with fail
            all_goals (go_ret; exact ⟨by simp [*], Bl.alloc (Below.refl _ _) _⟩)
        · rw [decide_eq_false ce]
          go_enter Try.func53, Try.ntmps53
          go_wp2_with fail
          all_goals (go_ret; exact ⟨by simp [*], Bl.alloc (Below.refl _ _) _⟩)
      · rw [mayx _ _ _ c0 c1 c2]
        go_enter Try.func53, Try.ntmps53
        go_wp2_with fail
        all_goals (go_ret; exact ⟨by simp [*], Bl.alloc (Below.refl _ _) _⟩)
set_option maxRecDepth 100000 in
theorem rmay_any (r : RecV) (w : World) (hk : r.key.size ≤ 9223372036854775807) (hv : r.val.size ≤ 9223372036854775807) : Calls Try.prog 35 #[r.v] w fun e w' => e = .returned (.bool (mayB r)) ∧ Below w.heap.size w w' := by
  obtain ⟨k, e0, key, v⟩ := r
  simp only at hk hv
  show Calls Try.prog 35 #[.agg #[.int .i64 k, .int .i64 e0, .string key, .string v]] w _
  by_cases c0 : k = 0
  · subst c0
    rw [may0]
    unfold epochB
    by_cases h1 : 1 ≤ e0
    · by_cases h2 : e0 ≤ 1048576
      · rw [decide_eq_true h1, decide_eq_true h2]
        go_enter Try.func35, Try.ntmps35
        go_wp2_with fail
        all_goals (go_ret; exact ⟨by simp [*], Bl.alloc (Below.refl _ _) _⟩)
      · rw [decide_eq_true h1, decide_eq_false h2]
        go_enter Try.func35, Try.ntmps35
        go_wp2_with fail
        all_goals (go_ret; exact ⟨by simp [*], Bl.alloc (Below.refl _ _) _⟩)
    · rw [decide_eq_false h1]
      go_enter Try.func35, Try.ntmps35
      go_wp2_with fail
      all_goals (go_ret; exact ⟨by simp [*], Bl.alloc (Below.refl _ _) _⟩)
  · by_cases c1 : k = 1
    · subst c1
      clear c0
      rw [may1]
      by_cases ce : e0 = 0
      · subst ce
        cases hb : decide (keyP key)
        · go_enter Try.func35, Try.ntmps35
          go_wp2_with fail
          with_reducible refine (keymay_any _ _ hk).mono ?_
          rw [hb]
          rintro e w1 ⟨rfl, rfl⟩
          go_wp2_with fail
          all_goals (go_ret; exact ⟨by simp [*], Bl.alloc (Below.refl _ _) _⟩)
        · go_enter Try.func35, Try.ntmps35
          go_wp2_with fail
          with_reducible refine (keymay_any _ _ hk).mono ?_
          rw [hb]
          rintro e w1 ⟨rfl, rfl⟩
          go_wp2_with fail
          all_goals (go_ret; exact ⟨by simp [*], Bl.alloc (Below.refl _ _) _⟩)
      · rw [decide_eq_false ce]
        go_enter Try.func35, Try.ntmps35
        go_wp2_with fail
        all_goals (go_ret; exact ⟨by simp [*], Bl.alloc (Below.refl _ _) _⟩)
    · by_cases c2 : k = 2
      · subst c2
        clear c0 c1
        rw [may2]
        by_cases ce : e0 = 0
        · subst ce
          cases hb : decide (keyP key)
          · go_enter Try.func35, Try.ntmps35
            go_wp2_with fail
            with_reducible refine (keymay_any _ _ hk).mono ?_
            rw [hb]
            rintro e w1 ⟨rfl, rfl⟩
            go_wp2_with fail
            all_goals (go_ret; exact ⟨by simp [*], Bl.alloc (Below.refl _ _) _⟩)
          · go_enter Try.func35, Try.ntmps35
            go_wp2_with fail
            with_reducible refine (keymay_any _ _ hk).mono ?_
            rw [hb]
            rintro e w1 ⟨rfl, rfl⟩
            go_wp2_with fail
            all_goals (go_ret; exact ⟨by simp [*], Bl.alloc (Below.refl _ _) _⟩)
        · rw [decide_eq_false ce]
          go_enter Try.func35, Try.ntmps35
          go_wp2_with fail
          all_goals (go_ret; exact ⟨by simp [*], Bl.alloc (Below.refl _ _) _⟩)
      · rw [mayx _ _ _ c0 c1 c2]
        go_enter Try.func35, Try.ntmps35
        go_wp2_with fail
        all_goals (go_ret; exact ⟨by simp [*], Bl.alloc (Below.refl _ _) _⟩)
end Go.Proofs.Ytdgnpoapkjoknaa
