/- lane.Out: a byte's clocks. -/
import Derived.Test.YtgkgfeggpoimjaaLaneA
import Derived.Test.YtgkgfeggpoimjaaInts
namespace Go.Proofs.Ytgkgfeggpoimjaa
set_option linter.unusedVariables false
set_option linter.unusedSimpArgs false
open Go.RowKit

/-- The clocks of a byte on one lane, the first i of them. -/
def clocks1 (b : Int) (i : Nat) : List Int := (List.range i).map fun j => bits .and .i64 (b / 2 ^ (7 - j)) 1
theorem clocks1_snoc (b : Int) (i : Nat) : clocks1 b (i + 1) = clocks1 b i ++ [bits .and .i64 (b / 2 ^ (7 - i)) 1] := by
  simp [clocks1, List.range_succ]

theorem out_one (b : Int) (w : World) (h0 : 0 ≤ b) (h1 : b < 256) :
    Calls Try.prog 13 #[.int .i64 b, .int .i64 1] w fun e w' => ∃ v, e = .returned (.tuple #[v, .int .i64 0]) ∧ w'.ownsRow w.heap.size 3 1 v 8 (nums (clocks1 b 8)) ∧ Below w.heap.size w w' := by
  go_enter Try.func13, Try.ntmps13
  go_wp2_with (first | (go_at_call 28; refine (lanes_any _ _).mono ?_; rintro e w' ⟨rfl, rfl⟩) | (go_at_call 29; refine (byte_any _ _).mono ?_; rintro e w' ⟨rfl, rfl⟩))
  go_loopw [6, 7] (fun v at_ wr => ∃ i : Nat, i ≤ 8 ∧ at_ = .int .i64 (7 - (i : Int)) ∧ wr.ownsRow w.heap.size 3 1 v i (nums (clocks1 b i)) ∧ Below w.heap.size w wr) (fun _ at_ _ => (intOf at_ + 1).toNat)
  case atStart => exact ⟨0, by omega, rfl, World.ownsRow_nil _ _ _ _, Below.refl _ _⟩
  case round =>
    obtain ⟨i, hi, rfl, hown, hb⟩ := hrel
    have HO := Lib.hid hown
    clear hown
    have HB := Lib.hid hb
    clear hb
    by_cases hlt : i < 8
    · have hd : decide (0 ≤ 7 - (i : Int)) = true := by simp; omega
      go_wp2_with fail
      have hw2 : IntKind.i64.wrap 2 = 2 := by decide
      have hw1 : IntKind.i64.wrap 1 = 1 := by decide
      have hz : w.heap.size ≤ wr.heap.size := HB.out.size
      go_region_law (refine step_app1 w.heap.size rfl (.tmp 23) (.tmp 31) 22 3 (.int .i64 0) 8 rfl Try.underlying22 infoInt rfl (by decide) u6 i _ rfl (.int .i64 (bits .and .i64 (b / 2 ^ (7 - i)) 1)) _ rfl rfl (by go_simp) (HO.out.alloc _) (by simp; omega) (by omega) ?_; intro v1 w1 ho1 hg1 hat1; have HO1 := Lib.hid ho1; have HG1 := Lib.hid hg1; clear ho1 hg1 hat1)
      go_wp2
      go_roundw
      case rel => exact ⟨i + 1, by omega, by go_num, by rw [clocks1_snoc, nums_append]; exact HO1.out, (HB.out.alloc hz _).drew.grown HG1.out (by simp; omega) (own_base HO.out)⟩
      case measure => simp [intOf]; omega
    · have hd : decide (0 ≤ 7 - (i : Int)) = false := by simp; omega
      go_wp2
      go_ret2
      have h8 : i = 8 := by omega
      subst h8
      exact ⟨_, rfl, HO.out, HB.out⟩
end Go.Proofs.Ytgkgfeggpoimjaa
