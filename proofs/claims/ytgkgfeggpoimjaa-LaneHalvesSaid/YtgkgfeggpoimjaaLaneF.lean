/- The document's InLanes. -/
import Derived.Test.YtgkgfeggpoimjaaLaneE
import Derived.Deep.QuietTactic
import Derived.BigQuiet
import Derived.Deep.Draws
namespace Go.Proofs.Ytgkgfeggpoimjaa
set_option linter.unusedVariables false
set_option linter.unusedSimpArgs false
open Go.RowKit

theorem rin_one (v : Value) (xs : List Int) (w : World) (hr : Rd w v xs) (hl : xs.length = 8) :
    Calls Try.prog 16 #[v, .int .i64 1] w fun e w' => e = .returned (.tuple #[.int .i64 (inP xs 1).1, .int .i64 (inP xs 1).2]) ∧ ∃ q, w' = w.drewN q := by
  rcases hr with ⟨rfl, _⟩ | ⟨b, o, c, rfl, hlc, hc, hcell⟩
  · simp at hl
  have HV := Lib.hid (show InOk xs 1 by unfold InOk; omega)
  rw [hl]
  have HL := Lib.hid hl
  rw [hl] at hcell hlc
  clear hl
  have HC := Lib.hid hcell
  clear hcell
  unfold maxLen at hc
  go_enter Try.func16, Try.ntmps16
  go_wp2_with fail
  go_loopw [6, 7] (fun acc i wr => ∃ (k : Nat) (B : Int) (q : Nat), k ≤ 8 ∧ i = .int .i64 k ∧ acc = .int .i64 B ∧ InAt 2 xs k B ∧ wr = w.drewN q) (fun _ i _ => (8 - intOf i).toNat)
  case atStart => exact ⟨0, 0, 0, by omega, rfl, rfl, rfl, rfl⟩
  case round =>
    obtain ⟨k, B, q, hk, rfl, rfl, hin, rfl⟩ := hrel
    have HI := Lib.hid hin
    clear hin
    by_cases hlt : k < 8
    · have hw2 : IntKind.i64.wrap 2 = 2 := by decide
      have g := HC.out k hlt
      have HX := Lib.hid (show k < xs.length by rw [HL.out]; exact hlt)
      generalize hx : xs.getD k 0 = x at g
      have HX2 := Lib.hid hx
      clear hx
      have hlt2 : (k : Int) < 8 := by omega
      by_cases h0 : x < 0
      · have hd0 : decide (x < 0) = true := by simp [h0]
        go_wp2_with fail
        go_quiet (fail)
        go_wp2
        go_ret2
        rw [inP_none HV.out rfl (HI.out.bad HX.out (.inl (by rw [HX2.out]; exact h0)))]
        exact ⟨rfl, _, by first | rfl | exact World.drewN_drewN ..⟩
      · have hd0 : decide (x < 0) = false := by simp; omega
        by_cases h1 : 2 ≤ x
        · have hd1 : decide (2 ≤ x) = true := by simp [h1]
          go_wp2_with fail
          go_quiet (fail)
          go_wp2
          go_ret2
          rw [inP_none HV.out rfl (HI.out.bad HX.out (.inr (by rw [HX2.out]; exact h1)))]
          exact ⟨rfl, _, by first | rfl | exact World.drewN_drewN ..⟩
        · have hd1 : decide (2 ≤ x) = false := by simp; omega
          go_wp2_with fail
          go_quiet (fail)
          go_wp2_with fail
          go_quiet (fail)
          go_wp2
          go_roundw
          case rel => exact ⟨k + 1, _, _, by omega, by go_num, rfl, by have h := HI.out.step HX.out (by rw [HX2.out]; omega) (by rw [HX2.out]; omega); rw [HX2.out] at h; exact h, rfl⟩
          case measure => simp [intOf]; omega
    · go_wp2
      go_ret2
      rw [inP_some HV.out rfl (HI.out.all (by rw [HL.out]; omega))]
      exact ⟨rfl, _, by first | rfl | exact World.drewN_drewN ..⟩

theorem rin_four (v : Value) (xs : List Int) (w : World) (hr : Rd w v xs) (hl : xs.length = 2) :
    Calls Try.prog 16 #[v, .int .i64 4] w fun e w' => e = .returned (.tuple #[.int .i64 (inP xs 4).1, .int .i64 (inP xs 4).2]) ∧ ∃ q, w' = w.drewN q := by
  rcases hr with ⟨rfl, _⟩ | ⟨b, o, c, rfl, hlc, hc, hcell⟩
  · simp at hl
  have HV := Lib.hid (show InOk xs 4 by unfold InOk; omega)
  rw [hl]
  have HL := Lib.hid hl
  rw [hl] at hcell hlc
  clear hl
  have HC := Lib.hid hcell
  clear hcell
  unfold maxLen at hc
  go_enter Try.func16, Try.ntmps16
  go_wp2_with fail
  go_loopw [6, 7] (fun acc i wr => ∃ (k : Nat) (B : Int) (q : Nat), k ≤ 2 ∧ i = .int .i64 k ∧ acc = .int .i64 B ∧ InAt 16 xs k B ∧ wr = w.drewN q) (fun _ i _ => (2 - intOf i).toNat)
  case atStart => exact ⟨0, 0, 0, by omega, rfl, rfl, rfl, rfl⟩
  case round =>
    obtain ⟨k, B, q, hk, rfl, rfl, hin, rfl⟩ := hrel
    have HI := Lib.hid hin
    clear hin
    by_cases hlt : k < 2
    · have hw2 : IntKind.i64.wrap 16 = 16 := by decide
      have g := HC.out k hlt
      have HX := Lib.hid (show k < xs.length by rw [HL.out]; exact hlt)
      generalize hx : xs.getD k 0 = x at g
      have HX2 := Lib.hid hx
      clear hx
      have hlt2 : (k : Int) < 2 := by omega
      by_cases h0 : x < 0
      · have hd0 : decide (x < 0) = true := by simp [h0]
        go_wp2_with fail
        go_quiet (fail)
        go_wp2
        go_ret2
        rw [inP_none HV.out rfl (HI.out.bad HX.out (.inl (by rw [HX2.out]; exact h0)))]
        exact ⟨rfl, _, by first | rfl | exact World.drewN_drewN ..⟩
      · have hd0 : decide (x < 0) = false := by simp; omega
        by_cases h1 : 16 ≤ x
        · have hd1 : decide (16 ≤ x) = true := by simp [h1]
          go_wp2_with fail
          go_quiet (fail)
          go_wp2
          go_ret2
          rw [inP_none HV.out rfl (HI.out.bad HX.out (.inr (by rw [HX2.out]; exact h1)))]
          exact ⟨rfl, _, by first | rfl | exact World.drewN_drewN ..⟩
        · have hd1 : decide (16 ≤ x) = false := by simp; omega
          go_wp2_with fail
          go_quiet (fail)
          go_wp2_with fail
          go_quiet (fail)
          go_wp2
          go_roundw
          case rel => exact ⟨k + 1, _, _, by omega, by go_num, rfl, by have h := HI.out.step HX.out (by rw [HX2.out]; omega) (by rw [HX2.out]; omega); rw [HX2.out] at h; exact h, rfl⟩
          case measure => simp [intOf]; omega
    · go_wp2
      go_ret2
      rw [inP_some HV.out rfl (HI.out.all (by rw [HL.out]; omega))]
      exact ⟨rfl, _, by first | rfl | exact World.drewN_drewN ..⟩

theorem rin_bad (v : Value) (xs : List Int) (n : Int) (w : World) (hr : Rd w v xs) (hl : ¬ InOk xs n) :
    Calls Try.prog 16 #[v, .int .i64 n] w fun e w' => e = .returned (.tuple #[.int .i64 0, .int .i64 300]) ∧ ∃ q, w' = w.drewN q := by
  obtain ⟨A, c, rfl⟩ := hr.form
  clear hr
  unfold InOk at hl
  by_cases h1 : n = 1
  · subst h1
    have g : ((xs.length : Int) != 8) = true := by simp; omega
    clear hl
    go_enter Try.func16, Try.ntmps16
    go_wp2
    go_ret2
    exact ⟨rfl, 0, rfl⟩
  by_cases h4 : n = 4
  · subst h4
    have g : ((xs.length : Int) != 2) = true := by simp; omega
    clear hl
    go_enter Try.func16, Try.ntmps16
    go_wp2
    go_ret2
    exact ⟨rfl, 0, rfl⟩
  have g1 : (n != 1) = true := by simp [h1]
  have g4 : (n != 4) = true := by simp [h4]
  clear hl h1 h4
  go_enter Try.func16, Try.ntmps16
  go_wp2
  go_ret2
  exact ⟨rfl, 0, rfl⟩

/-- The document's InLanes, whatever comes in. -/
theorem rin_any (v : Value) (xs : List Int) (n : Int) (w : World) (hr : Rd w v xs) :
    Calls Try.prog 16 #[v, .int .i64 n] w fun e w' => e = .returned (.tuple #[.int .i64 (inP xs n).1, .int .i64 (inP xs n).2]) ∧ ∃ q, w' = w.drewN q := by
  by_cases h : InOk xs n
  · rcases h with ⟨rfl, h⟩ | ⟨rfl, h⟩
    · exact rin_one v xs w hr h
    · exact rin_four v xs w hr h
  · rw [inP_bad h]
    exact rin_bad v xs n w hr h
end Go.Proofs.Ytgkgfeggpoimjaa
