/- The document's OutLanes. -/
import Derived.Test.YtgkgfeggpoimjaaLaneC
namespace Go.Proofs.Ytgkgfeggpoimjaa
set_option linter.unusedVariables false
set_option linter.unusedSimpArgs false
open Go.RowKit

theorem rout_bad (b n : Int) (w : World) (h : ¬ ((n = 1 ∨ n = 4) ∧ 0 ≤ b ∧ b < 256)) :
    Calls Try.prog 14 #[.int .i64 b, .int .i64 n] w fun e w' => e = .returned (.tuple #[.slice none 0 0, .int .i64 300]) ∧ w = w' := by
  by_cases hn : n = 1 ∨ n = 4
  · by_cases hb : 0 ≤ b
    · have h1 : ¬ b < 256 := fun h1 => h ⟨hn, hb, h1⟩
      clear h
      rcases hn with rfl | rfl
      all_goals
        go_enter Try.func14, Try.ntmps14
        go_wp2
        go_ret2
        exact ⟨rfl, rfl⟩
    · clear h
      rcases hn with rfl | rfl
      all_goals
        go_enter Try.func14, Try.ntmps14
        go_wp2
        go_ret2
        exact ⟨rfl, rfl⟩
  · have g1 : (n != 1) = true := by simp; intro e; exact hn (.inl e)
    have g4 : (n != 4) = true := by simp; intro e; exact hn (.inr e)
    clear h hn
    go_enter Try.func14, Try.ntmps14
    go_wp2
    go_ret2
    exact ⟨rfl, rfl⟩

theorem rout_one (b : Int) (w : World) (h0 : 0 ≤ b) (h1 : b < 256) :
    Calls Try.prog 14 #[.int .i64 b, .int .i64 1] w fun e w' => ∃ v, e = .returned (.tuple #[v, .int .i64 0]) ∧ w'.ownsRow w.heap.size 3 1 v 8 (nums (clocks1 b 8)) ∧ Below w.heap.size w w' := by
  go_enter Try.func14, Try.ntmps14
  go_wp2_with fail
  go_loopw [6, 7] (fun v at_ wr => ∃ i : Nat, i ≤ 8 ∧ at_ = .int .i64 (7 - (i : Int)) ∧ wr.ownsRow w.heap.size 3 1 v i (nums (clocks1 b i)) ∧ Below w.heap.size w wr) (fun _ at_ _ => (intOf at_ + 1).toNat)
  case atStart => exact ⟨0, by omega, rfl, World.ownsRow_nil _ _ _ _, Below.refl _ _⟩
  case round =>
    obtain ⟨i, hi, rfl, hown, hb⟩ := hrel
    have HO := Lib.hid hown
    clear hown
    have HB := Lib.hid hb
    clear hb
    by_cases hlt : i < 8
    · have hd : decide (0 ≤ 7 - (i : Int)) = true := by simp; omega
      have hz : w.heap.size ≤ wr.heap.size := HB.out.size
      go_wp2_with (at_builtin; refine app1 w.heap.size rfl (.tmp 33) (.tmp 38) 22 3 (.int .i64 0) 8 rfl Try.underlying22 infoInt rfl (by decide) u6 i _ rfl (.int .i64 (bits .and .i64 (b / 2 ^ (7 - i)) 1)) _ rfl rfl (by go_simp) (HO.out.alloc _) (by simp; omega) (by omega) ?_; intro v1 w1 ho1 hg1 hat1; have HO1 := Lib.hid ho1; have HG1 := Lib.hid hg1; clear ho1 hg1 hat1)
      go_roundw
      case rel => exact ⟨i + 1, by omega, by go_num, by rw [clocks1_snoc, nums_append]; exact HO1.out, (HB.out.alloc hz _).grown HG1.out (by simp; omega) (own_base HO.out)⟩
      case measure => simp [intOf]; omega
    · have hd : decide (0 ≤ 7 - (i : Int)) = false := by simp; omega
      go_wp2
      go_ret2
      have h8 : i = 8 := by omega
      subst h8
      exact ⟨_, rfl, HO.out, HB.out⟩
theorem rout_four (b : Int) (w : World) (h0 : 0 ≤ b) (h1 : b < 256) :
    Calls Try.prog 14 #[.int .i64 b, .int .i64 4] w fun e w' => ∃ v, e = .returned (.tuple #[v, .int .i64 0]) ∧ w'.ownsRow w.heap.size 3 1 v 2 (nums [b / 16, bits .and .i64 b 15]) ∧ Below w.heap.size w w' := by
  go_enter Try.func14, Try.ntmps14
  go_wp2_with fail
  go_ret2
  exact ⟨_, rfl, World.ownsRow_lit w _ 2 (Nat.le_refl _) (by simp [maxLen]) rfl, (Below.refl _ _).alloc (Nat.le_refl _) _⟩

theorem rout_any (b n : Int) (w : World) : Calls Try.prog 14 #[.int .i64 b, .int .i64 n] w fun e w' => ∃ v, e = .returned (.tuple #[v, .int .i64 (outP b n).2]) ∧ Fresh w w' v (outP b n).1 := by
  by_cases h : (n = 1 ∨ n = 4) ∧ 0 ≤ b ∧ b < 256
  · obtain ⟨hn, h0, h1⟩ := h
    rcases hn with rfl | rfl
    · refine (rout_one b w h0 h1).mono ?_
      rintro e w' ⟨v, rfl, ho, hb⟩
      have : outP b 1 = (clocks1 b 8, 0) := by simp [outP, h0, h1]
      rw [this]
      exact ⟨v, rfl, by simpa [clocks1] using ho, hb⟩
    · refine (rout_four b w h0 h1).mono ?_
      rintro e w' ⟨v, rfl, ho, hb⟩
      have : outP b 4 = ([b / 16, bits .and .i64 b 15], 0) := by simp [outP, h0, h1]
      rw [this]
      exact ⟨v, rfl, ho, hb⟩
  · refine (rout_bad b n w h).mono ?_
    rintro e w' ⟨rfl, rfl⟩
    have : outP b n = ([], 300) := by simp only [outP, if_neg h]
    rw [this]
    exact ⟨_, rfl, World.ownsRow_nil _ _ _ _, Below.refl _ _⟩
end Go.Proofs.Ytgkgfeggpoimjaa
