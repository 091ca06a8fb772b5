/- rec: may a record be? -/
import Derived.Test.YtgfldfkgialdlaaRecL
namespace Go.Proofs.Ytgfldfkgialdlaa
set_option linter.unusedVariables false
set_option linter.unusedSimpArgs false
open Go.RowKit

theorem keyP_iff (s : ByteArray) : decide (keyP s) = (decide ((1 : Int) ≤ (s.size : Int)) && decide ((s.size : Int) ≤ 6)) := by
  unfold keyP
  by_cases h1 : 1 ≤ s.size <;> by_cases h2 : s.size ≤ 6 <;> simp [h1, h2] <;> omega
theorem key_any (s : ByteArray) (w : World) (hs : s.size ≤ 9223372036854775807) : Calls Try.prog 43 #[.string s] w fun e w' => e = .returned (.bool (decide (keyP s))) ∧ w = w' := by
  rw [keyP_iff]
  by_cases c : (1 : Int) ≤ s.size
  · rw [decide_eq_true c]
    go_enter Try.func43, Try.ntmps43
    go_wp2
    go_ret
    exact ⟨by simp, rfl⟩
  · rw [decide_eq_false c]
    go_enter Try.func43, Try.ntmps43
    go_wp2
    go_ret
    exact ⟨rfl, rfl⟩
theorem keymay_any (s : ByteArray) (w : World) (hs : s.size ≤ 9223372036854775807) : Calls Try.prog 44 #[.string s] w fun e w' => e = .returned (.bool (decide (keyP s))) ∧ w = w' := by
  rw [keyP_iff]
  by_cases c : (1 : Int) ≤ s.size
  · rw [decide_eq_true c]
    go_enter Try.func44, Try.ntmps44
    go_wp2
    go_ret
    exact ⟨by simp, rfl⟩
  · rw [decide_eq_false c]
    go_enter Try.func44, Try.ntmps44
    go_wp2
    go_ret
    exact ⟨rfl, rfl⟩
def epochB (e : Int) : Bool := decide (1 ≤ e) && decide (e ≤ 1048576)
theorem epoch_any (e0 : Int) (w : World) : Calls Try.prog 42 #[.int .i64 e0] w fun e w' => e = .returned (.bool (epochB e0)) ∧ w = w' := by
  unfold epochB
  by_cases c : 1 ≤ e0
  · rw [decide_eq_true c]
    go_enter Try.func42, Try.ntmps42
    go_wp2
    go_ret
    exact ⟨by simp, rfl⟩
  · rw [decide_eq_false c]
    go_enter Try.func42, Try.ntmps42
    go_wp2
    go_ret
    exact ⟨rfl, rfl⟩

theorem isE (s : ByteArray) : s.toList.isEmpty = decide (s = nilB) := by
  rw [ByteArray.toList_eq]
  by_cases h : s = nilB
  · subst h; rfl
  · rw [decide_eq_false h]
    cases hl : s.data.toList with
    | nil => exact absurd (ext_str (t := nilB) hl) h
    | cons => rfl
theorem may0 (e : Int) (key v : ByteArray) : mayB ⟨0, e, key, v⟩ = (epochB e && key.toList.isEmpty && v.toList.isEmpty) := by
  rw [isE, isE, epochB, Bool.eq_iff_iff]
  simp [mayB, mayP, and_assoc]
theorem may1 (e : Int) (key v : ByteArray) : mayB ⟨1, e, key, v⟩ = (decide (e = 0) && decide (keyP key) && decide ((v.size : Int) ≤ 20)) := by
  rw [Bool.eq_iff_iff]
  simp [mayB, mayP, and_assoc]
  omega
theorem may2 (e : Int) (key v : ByteArray) : mayB ⟨2, e, key, v⟩ = (decide (e = 0) && decide (keyP key) && v.toList.isEmpty) := by
  rw [isE, Bool.eq_iff_iff]
  simp [mayB, mayP, and_assoc]
theorem mayx {k : Int} (e : Int) (key v : ByteArray) (h0 : k ≠ 0) (h1 : k ≠ 1) (h2 : k ≠ 2) : mayB ⟨k, e, key, v⟩ = false := by
  simp [mayB, mayP, h0, h1, h2]

set_option maxRecDepth 100000 in
theorem may_any (r : RecV) (w : World) (hk : r.key.size ≤ 9223372036854775807) (hv : r.val.size ≤ 9223372036854775807) : Calls Try.prog 18 #[r.v] w fun e w' => e = .returned (.bool (mayB r)) ∧ Below w.heap.size w w' := by
  obtain ⟨k, e0, key, v⟩ := r
  simp only at hk hv
  show Calls Try.prog 18 #[.agg #[.int .i64 k, .int .i64 e0, .string key, .string v]] w _
  by_cases c0 : k = 0
  · subst c0
    rw [may0]
    cases hb : epochB e0
    · go_enter Try.func18, Try.ntmps18
      go_wp2_with fail
      with_reducible refine (epoch_any _ _).mono ?_
      rw [hb]
      rintro e w1 ⟨rfl, rfl⟩
      go_wp2_with fail
      all_goals (go_ret; exact ⟨by simp [*], Bl.alloc (Below.refl _ _) _⟩)
    · go_enter Try.func18, Try.ntmps18
      go_wp2_with fail
      with_reducible refine (epoch_any _ _).mono ?_
      rw [hb]
      rintro e w1 ⟨rfl, rfl⟩
      go_wp2_with fail
      all_goals (go_ret; exact ⟨by simp [*], Bl.alloc (Below.refl _ _) _⟩)
  · by_cases c1 : k = 1
    · subst c1
      clear c0
      rw [may1]
      by_cases ce : e0 = 0
      · subst ce
        cases hb : decide (keyP key)
        · go_enter Try.func18, Try.ntmps18
          go_wp2_with fail
          with_reducible refine (key_any _ _ hk).mono ?_
          rw [hb]
          rintro e w1 ⟨rfl, rfl⟩
          go_wp2_with fail
          all_goals (go_ret; exact ⟨by simp [*], Bl.alloc (Below.refl _ _) _⟩)
        · go_enter Try.func18, Try.ntmps18
          go_wp2_with fail
          with_reducible refine (key_any _ _ hk).mono ?_
          rw [hb]
          rintro e w1 ⟨rfl, rfl⟩
          go_wp2_with fail
          all_goals (go_ret; exact ⟨by simp [*], Bl.alloc (Below.refl _ _) _⟩)
      · rw [decide_eq_false ce]
        go_enter Try.func18, Try.ntmps18
        go_wp2_with fail
        all_goals (go_ret; exact ⟨by simp [*], Bl.alloc (Below.refl _ _) _⟩)
    · by_cases c2 : k = 2
      · subst c2
        clear c0 c1
        rw [may2]
        by_cases ce : e0 = 0
        · subst ce
          cases hb : decide (keyP key)
          · go_enter Try.func18, Try.ntmps18
            go_wp2_with fail
            with_reducible refine (key_any _ _ hk).mono ?_
            rw [hb]
            rintro e w1 ⟨rfl, rfl⟩
            go_wp2_with fail
            all_goals (go_ret; exact ⟨by simp [*], Bl.alloc (Below.refl _ _) _⟩)
          · go_enter Try.func18, Try.ntmps18
            go_wp2_with fail
            with_reducible refine (key_any _ _ hk).mono ?_
            rw [hb]
            rintro e w1 ⟨rfl, rfl⟩
            go_wp2_with fail
            all_goals (go_ret; exact ⟨by simp [*], Bl.alloc (Below.refl _ _) _⟩)
        · rw [decide_eq_false ce]
          go_enter Try.func18, Try.ntmps18
          go_wp2_with fail
          all_goals (go_ret; exact ⟨by simp [*], Bl.alloc (Below.refl _ _) _⟩)
      · rw [mayx _ _ _ c0 c1 c2]
        go_enter Try.func18, Try.ntmps18
        go_wp2_with fail
        all_goals (go_ret; exact ⟨by simp [*], Bl.alloc (Below.refl _ _) _⟩)
set_option maxRecDepth 100000 in
theorem rmay_any (r : RecV) (w : World) (hk : r.key.size ≤ 9223372036854775807) (hv : r.val.size ≤ 9223372036854775807) : Calls Try.prog 19 #[r.v] w fun e w' => e = .returned (.bool (mayB r)) ∧ Below w.heap.size w w' := by
  obtain ⟨k, e0, key, v⟩ := r
  simp only at hk hv
  show Calls Try.prog 19 #[.agg #[.int .i64 k, .int .i64 e0, .string key, .string v]] w _
  by_cases c0 : k = 0
  · subst c0
    rw [may0]
    unfold epochB
    by_cases h1 : 1 ≤ e0
    · by_cases h2 : e0 ≤ 1048576
      · rw [decide_eq_true h1, decide_eq_true h2]
        go_enter Try.func19, Try.ntmps19
        go_wp2_with fail
        all_goals (go_ret; exact ⟨by simp [*], Bl.alloc (Below.refl _ _) _⟩)
      · rw [decide_eq_true h1, decide_eq_false h2]
        go_enter Try.func19, Try.ntmps19
        go_wp2_with fail
        all_goals (go_ret; exact ⟨by simp [*], Bl.alloc (Below.refl _ _) _⟩)
    · rw [decide_eq_false h1]
      go_enter Try.func19, Try.ntmps19
      go_wp2_with fail
      all_goals (go_ret; exact ⟨by simp [*], Bl.alloc (Below.refl _ _) _⟩)
  · by_cases c1 : k = 1
    · subst c1
      clear c0
      rw [may1]
      by_cases ce : e0 = 0
      · subst ce
        cases hb : decide (keyP key)
        · go_enter Try.func19, Try.ntmps19
          go_wp2_with fail
          with_reducible refine (keymay_any _ _ hk).mono ?_
          rw [hb]
          rintro e w1 ⟨rfl, rfl⟩
          go_wp2_with fail
          all_goals (go_ret; exact ⟨by simp [*], Bl.alloc (Below.refl _ _) _⟩)
        · go_enter Try.func19, Try.ntmps19
          go_wp2_with fail
          with_reducible refine (keymay_any _ _ hk).mono ?_
          rw [hb]
          rintro e w1 ⟨rfl, rfl⟩
          go_wp2_with fail
          all_goals (go_ret; exact ⟨by simp [*], Bl.alloc (Below.refl _ _) _⟩)
      · rw [decide_eq_false ce]
        go_enter Try.func19, Try.ntmps19
        go_wp2_with fail
        all_goals (go_ret; exact ⟨by simp [*], Bl.alloc (Below.refl _ _) _⟩)
    · by_cases c2 : k = 2
      · subst c2
        clear c0 c1
        rw [may2]
        by_cases ce : e0 = 0
        · subst ce
          cases hb : decide (keyP key)
          · go_enter Try.func19, Try.ntmps19
            go_wp2_with fail
            with_reducible refine (keymay_any _ _ hk).mono ?_
            rw [hb]
            rintro e w1 ⟨rfl, rfl⟩
            go_wp2_with fail
            all_goals (go_ret; exact ⟨by simp [*], Bl.alloc (Below.refl _ _) _⟩)
          · go_enter Try.func19, Try.ntmps19
            go_wp2_with fail
            with_reducible refine (keymay_any _ _ hk).mono ?_
            rw [hb]
            rintro e w1 ⟨rfl, rfl⟩
            go_wp2_with fail
            all_goals (go_ret; exact ⟨by simp [*], Bl.alloc (Below.refl _ _) _⟩)
        · rw [decide_eq_false ce]
          go_enter Try.func19, Try.ntmps19
          go_wp2_with fail
          all_goals (go_ret; exact ⟨by simp [*], Bl.alloc (Below.refl _ _) _⟩)
      · rw [mayx _ _ _ c0 c1 c2]
        go_enter Try.func19, Try.ntmps19
        go_wp2_with fail
        all_goals (go_ret; exact ⟨by simp [*], Bl.alloc (Below.refl _ _) _⟩)
end Go.Proofs.Ytgfldfkgialdlaa
