/- lane.Out on four lanes, and where it refuses; the document's OutLanes. -/
import Derived.Test.YtgkgfeggpoimjaaLaneB
import Derived.Test.YtgkgfeggpoimjaaLBits
import Derived.Test.YtgkgfeggpoimjaaInts
namespace Go.Proofs.Ytgkgfeggpoimjaa
set_option linter.unusedVariables false
set_option linter.unusedSimpArgs false
open Go.RowKit

/-- What goes out: the clocks of a byte, and an error's number. -/
def outP (b lanes : Int) : List Int × Int :=
  if (lanes = 1 ∨ lanes = 4) ∧ 0 ≤ b ∧ b < 256 then (if lanes = 1 then clocks1 b 8 else [b / 16, bits .and .i64 b 15], 0) else ([], 300)

theorem out_bad (b n : Int) (w : World) (h : ¬ ((n = 1 ∨ n = 4) ∧ 0 ≤ b ∧ b < 256)) :
    Calls Try.prog 13 #[.int .i64 b, .int .i64 n] w fun e w' => e = .returned (.tuple #[.slice none 0 0, .int .i64 300]) ∧ w = w' := by
  by_cases hn : (n == 1 || n == 4) = true
  · have hb : (decide (0 ≤ b) && decide (b < 256)) = false := by
      simp at hn
      simp
      intro h0
      by_cases h1 : b < 256
      · exact absurd ⟨hn, h0, h1⟩ h
      · omega
    clear h
    go_enter Try.func13, Try.ntmps13
    go_wp2_with (first | (go_at_call 28; refine (lanes_any _ _).mono ?_; rintro e w' ⟨rfl, rfl⟩) | (go_at_call 29; refine (byte_any _ _).mono ?_; rintro e w' ⟨rfl, rfl⟩))
    go_ret2
    exact ⟨rfl, rfl⟩
  · have hn' : (n == 1 || n == 4) = false := by simpa using hn
    clear h hn
    go_enter Try.func13, Try.ntmps13
    go_wp2_with (first | (go_at_call 28; refine (lanes_any _ _).mono ?_; rintro e w' ⟨rfl, rfl⟩) | (go_at_call 29; refine (byte_any _ _).mono ?_; rintro e w' ⟨rfl, rfl⟩))
    go_ret2
    exact ⟨rfl, rfl⟩

def clocks4 (b : Int) (i : Nat) : List Int := (List.range i).map fun j => bits .and .i64 (b / 2 ^ (4 - 4 * j)) 15
theorem clocks4_snoc (b : Int) (i : Nat) : clocks4 b (i + 1) = clocks4 b i ++ [bits .and .i64 (b / 2 ^ (4 - 4 * i)) 15] := by
  simp [clocks4, List.range_succ]

theorem out_four (b : Int) (w : World) (h0 : 0 ≤ b) (h1 : b < 256) :
    Calls Try.prog 13 #[.int .i64 b, .int .i64 4] w fun e w' => ∃ v, e = .returned (.tuple #[v, .int .i64 0]) ∧ w'.ownsRow w.heap.size 3 1 v 2 (nums (clocks4 b 2)) ∧ Below w.heap.size w w' := by
  go_enter Try.func13, Try.ntmps13
  go_wp2_with (first | (go_at_call 28; refine (lanes_any _ _).mono ?_; rintro e w' ⟨rfl, rfl⟩) | (go_at_call 29; refine (byte_any _ _).mono ?_; rintro e w' ⟨rfl, rfl⟩))
  go_loopw [6, 7] (fun v at_ wr => ∃ i : Nat, i ≤ 2 ∧ at_ = .int .i64 (4 - 4 * (i : Int)) ∧ wr.ownsRow w.heap.size 3 1 v i (nums (clocks4 b i)) ∧ Below w.heap.size w wr) (fun _ at_ _ => (intOf at_ + 4).toNat)
  case atStart => exact ⟨0, by omega, rfl, World.ownsRow_nil _ _ _ _, Below.refl _ _⟩
  case round =>
    obtain ⟨i, hi, rfl, hown, hb⟩ := hrel
    have HO := Lib.hid hown
    clear hown
    have HB := Lib.hid hb
    clear hb
    by_cases hlt : i < 2
    · have hd : decide (0 ≤ 4 - 4 * (i : Int)) = true := by simp; omega
      go_wp2_with fail
      have hw2 : IntKind.i64.wrap 16 = 16 := by decide
      have hw1 : IntKind.i64.wrap 15 = 15 := by decide
      have hz : w.heap.size ≤ wr.heap.size := HB.out.size
      go_region_law (refine step_app1 w.heap.size rfl (.tmp 23) (.tmp 31) 22 3 (.int .i64 0) 8 rfl Try.underlying22 infoInt rfl (by decide) u6 i _ rfl (.int .i64 (bits .and .i64 (b / 2 ^ (4 - 4 * (i : Int)).toNat) 15)) _ rfl rfl (by go_simp) (HO.out.alloc _) (by simp; omega) (by omega) ?_; intro v1 w1 ho1 hg1 hat1; have HO1 := Lib.hid ho1; have HG1 := Lib.hid hg1; clear ho1 hg1 hat1)
      go_wp2
      go_roundw
      case rel => exact ⟨i + 1, by omega, by go_num, by rw [clocks4_snoc, nums_append, show 4 - 4 * i = (4 - 4 * (i : Int)).toNat by omega]; exact HO1.out, (HB.out.alloc hz _).drew.grown HG1.out (by simp; omega) (own_base HO.out)⟩
      case measure => simp [intOf]; omega
    · have hd : decide (0 ≤ 4 - 4 * (i : Int)) = false := by simp; omega
      go_wp2
      go_ret2
      have h8 : i = 2 := by omega
      subst h8
      exact ⟨_, rfl, HO.out, HB.out⟩

theorem clocks4_two (b : Int) (h0 : 0 ≤ b) (h1 : b < 256) : clocks4 b 2 = [b / 16, bits .and .i64 b 15] := by
  have h : bits .and .i64 (b / 16) 15 = b / 16 := by
    rw [and15]
    omega
  simp [clocks4, List.range_succ, h]

/-- lane.Out, whatever comes in. -/
theorem out_any (b n : Int) (w : World) : Calls Try.prog 13 #[.int .i64 b, .int .i64 n] w fun e w' => ∃ v, e = .returned (.tuple #[v, .int .i64 (outP b n).2]) ∧ Fresh w w' v (outP b n).1 := by
  by_cases h : (n = 1 ∨ n = 4) ∧ 0 ≤ b ∧ b < 256
  · obtain ⟨hn, h0, h1⟩ := h
    rcases hn with rfl | rfl
    · refine (out_one b w h0 h1).mono ?_
      rintro e w' ⟨v, rfl, ho, hb⟩
      have : outP b 1 = (clocks1 b 8, 0) := by simp [outP, h0, h1]
      rw [this]
      exact ⟨v, rfl, by simpa [clocks1] using ho, hb⟩
    · refine (out_four b w h0 h1).mono ?_
      rintro e w' ⟨v, rfl, ho, hb⟩
      have : outP b 4 = ([b / 16, bits .and .i64 b 15], 0) := by simp [outP, h0, h1]
      rw [this]
      exact ⟨v, rfl, by rw [clocks4_two b h0 h1] at ho; exact ho, hb⟩
  · refine (out_bad b n w h).mono ?_
    rintro e w' ⟨rfl, rfl⟩
    have : outP b n = ([], 300) := by simp only [outP, if_neg h]
    rw [this]
    exact ⟨_, rfl, World.ownsRow_nil _ _ _ _, Below.refl _ _⟩
end Go.Proofs.Ytgkgfeggpoimjaa
