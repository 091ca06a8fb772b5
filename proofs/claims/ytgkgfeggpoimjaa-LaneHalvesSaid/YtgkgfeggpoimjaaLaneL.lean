/- The statement LaneHalves: its walk. -/
import Derived.Test.YtgkgfeggpoimjaaLaneK
namespace Go.Proofs.Ytgkgfeggpoimjaa
set_option linter.unusedVariables false
set_option linter.unusedSimpArgs false
open Go.RowKit

theorem halves_pure : ∀ n : Fin 256, (outP ((n.val : Nat) : Int) 1).1.length = 8 ∧ (outP ((n.val : Nat) : Int) 4).1.length = 2 ∧ (outP ((n.val : Nat) : Int) 1).2 = 0 ∧ (outP ((n.val : Nat) : Int) 4).2 = 0 ∧
    (∀ j : Fin 8, 0 ≤ (outP ((n.val : Nat) : Int) 1).1.getD j 0 ∧ (outP ((n.val : Nat) : Int) 1).1.getD j 0 ≤ 1) ∧
    (∀ i : Fin 2, (outP ((n.val : Nat) : Int) 4).1.getD i 0 = 8 * (outP ((n.val : Nat) : Int) 1).1.getD (4 * i) 0 + 4 * (outP ((n.val : Nat) : Int) 1).1.getD (4 * i + 1) 0 + 2 * (outP ((n.val : Nat) : Int) 1).1.getD (4 * i + 2) 0 + (outP ((n.val : Nat) : Int) 1).1.getD (4 * i + 3) 0) := by decide +kernel

set_option maxHeartbeats 1000000 in
theorem LaneHalves_walk (b : Int) (_ : -9223372036854775808 ≤ b ∧ b ≤ 9223372036854775807) (w : World) :
    Calls Try.prog 6 #[.int .i64 b] w fun e w' => e = .returned (.bool true) ∧ Below w.heap.size w w' := by
  obtain ⟨n, hn⟩ := and255_fin b
  obtain ⟨l1, l4, e1, e4, hr, hs⟩ := halves_pure n
  obtain ⟨xs, f1, hp1⟩ := pair_ex (outP ((n.val : Nat) : Int) 1)
  obtain ⟨ys, f4, hp4⟩ := pair_ex (outP ((n.val : Nat) : Int) 4)
  rw [hp1] at l1 e1 hr hs
  rw [hp4] at l4 e4 hs
  obtain rfl : f1 = 0 := e1
  obtain rfl : f4 = 0 := e4
  match xs, l1 with
  | [x0, x1, x2, x3, x4, x5, x6, x7], _ =>
  match ys, l4 with
  | [y0, y1], _ =>
  have HP1 := Lib.hid hp1
  have HP4 := Lib.hid hp4
  generalize hnn : ((n.val : Nat) : Int) = m at *
  clear hp1 hp4 hnn
  obtain ⟨p0, q0⟩ : 0 ≤ x0 ∧ x0 ≤ 1 := hr ⟨0, by decide⟩
  obtain ⟨p1, q1⟩ : 0 ≤ x1 ∧ x1 ≤ 1 := hr ⟨1, by decide⟩
  obtain ⟨p2, q2⟩ : 0 ≤ x2 ∧ x2 ≤ 1 := hr ⟨2, by decide⟩
  obtain ⟨p3, q3⟩ : 0 ≤ x3 ∧ x3 ≤ 1 := hr ⟨3, by decide⟩
  obtain ⟨p4, q4⟩ : 0 ≤ x4 ∧ x4 ≤ 1 := hr ⟨4, by decide⟩
  obtain ⟨p5, q5⟩ : 0 ≤ x5 ∧ x5 ≤ 1 := hr ⟨5, by decide⟩
  obtain ⟨p6, q6⟩ : 0 ≤ x6 ∧ x6 ≤ 1 := hr ⟨6, by decide⟩
  obtain ⟨p7, q7⟩ : 0 ≤ x7 ∧ x7 ≤ 1 := hr ⟨7, by decide⟩
  obtain rfl : y0 = 8 * x0 + 4 * x1 + 2 * x2 + x3 := hs ⟨0, by decide⟩
  obtain rfl : y1 = 8 * x4 + 4 * x5 + 2 * x6 + x7 := hs ⟨1, by decide⟩
  clear hr hs
  go_enter Try.func6, Try.ntmps6
  go_wp2_with fail
  with_reducible refine (awake3 _).mono ?_
  rintro e w0 ⟨rfl, hb0⟩
  have HB0 := Lib.hid hb0
  clear hb0
  go_wp2_with fail
  with_reducible refine (out_any m 1 _).mono ?_
  rw [HP1.out]
  rintro e w1 ⟨v1, rfl, ho1, hb1⟩
  obtain ⟨g, cap, rfl, _, _⟩ := ho1.form (by simp)
  have HO := Lib.hid ho1
  have HB1 := Lib.hid (Bl.then HB0.out hb1)
  clear ho1 hb1 HB0
  go_wp2_with fail
  with_reducible refine (out_any m 4 _).mono ?_
  rw [HP4.out]
  rintro e w2 ⟨v2, rfl, ho2, hb2⟩
  obtain ⟨g', cap', rfl, _, _⟩ := ho2.form (by simp)
  have HO1 := Lib.hid (own_kept HO.out hb2)
  have HO2 := Lib.hid ho2
  have HB2 := Lib.hid (Bl.then HB1.out hb2)
  clear ho2 hb2 HB1 HO
  have c0 : w2.cell? ⟨g, 0, none⟩ = some (.int .i64 x0) := by rw [HO1.out.cellAt 0 (by simp)]; rfl
  have c1 : w2.cell? ⟨g, 1, none⟩ = some (.int .i64 x1) := by rw [HO1.out.cellAt 1 (by simp)]; rfl
  have c2 : w2.cell? ⟨g, 2, none⟩ = some (.int .i64 x2) := by rw [HO1.out.cellAt 2 (by simp)]; rfl
  have c3 : w2.cell? ⟨g, 3, none⟩ = some (.int .i64 x3) := by rw [HO1.out.cellAt 3 (by simp)]; rfl
  have c4 : w2.cell? ⟨g, 4, none⟩ = some (.int .i64 x4) := by rw [HO1.out.cellAt 4 (by simp)]; rfl
  have c5 : w2.cell? ⟨g, 5, none⟩ = some (.int .i64 x5) := by rw [HO1.out.cellAt 5 (by simp)]; rfl
  have c6 : w2.cell? ⟨g, 6, none⟩ = some (.int .i64 x6) := by rw [HO1.out.cellAt 6 (by simp)]; rfl
  have c7 : w2.cell? ⟨g, 7, none⟩ = some (.int .i64 x7) := by rw [HO1.out.cellAt 7 (by simp)]; rfl
  have d0 : w2.cell? ⟨g', 0, none⟩ = some (.int .i64 (8 * x0 + 4 * x1 + 2 * x2 + x3)) := by rw [HO2.out.cellAt 0 (by simp)]; rfl
  have d1 : w2.cell? ⟨g', 1, none⟩ = some (.int .i64 (8 * x4 + 4 * x5 + 2 * x6 + x7)) := by rw [HO2.out.cellAt 1 (by simp)]; rfl
  simp only [List.length_cons, List.length_nil, Nat.zero_add, Nat.reduceAdd] at *
  go_wp2_with (go_at_call 18; refine (num_any _ _).mono ?_; rintro e w' ⟨rfl, rfl⟩)
  go_loopw [7] (fun i wr => ∃ k : Nat, k ≤ 2 ∧ i = .int .i64 k ∧ ∃ q, wr = w2.drewN q) (fun i _ => (2 - intOf i).toNat)
  case atStart => exact ⟨0, by omega, rfl, 0, rfl⟩
  case round =>
    obtain ⟨k, hk, rfl, q, rfl⟩ := hrel
    have hk3 : k = 0 ∨ k = 1 ∨ k = 2 := by omega
    clear hk
    rcases hk3 with rfl | rfl | rfl
    · go_wp2_with fail
      go_quiet (fail)
      go_wp2
      go_roundw
      case rel => exact ⟨1, by omega, rfl, _, by first | rfl | exact World.drewN_drewN ..⟩
      case measure => simp [intOf]
    · go_wp2_with fail
      go_quiet (fail)
      go_wp2
      go_roundw
      case rel => exact ⟨2, by omega, rfl, _, by first | rfl | exact World.drewN_drewN ..⟩
      case measure => simp [intOf]
    · go_wp2
      go_ret
      exact ⟨rfl, Bl.drewN HB2.out _⟩
end Go.Proofs.Ytgkgfeggpoimjaa
