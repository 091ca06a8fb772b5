/- The statements over lane: their walks. -/
import Derived.Test.YtgkgfeggpoimjaaLaneG
import Derived.Test.YtgkgfeggpoimjaaLaneD
namespace Go.Proofs.Ytgkgfeggpoimjaa
set_option linter.unusedVariables false
set_option linter.unusedSimpArgs false
open Go.RowKit

theorem back_pure : ∀ n : Fin 256, (outP ((n.val : Nat) : Int) 1).2 = 0 ∧ (outP ((n.val : Nat) : Int) 1).1.length = 8 ∧ inP (outP ((n.val : Nat) : Int) 1).1 1 = (((n.val : Nat) : Int), 0) ∧ (inP (outP ((n.val : Nat) : Int) 1).1 4).2 = 300 ∧
   (outP ((n.val : Nat) : Int) 4).2 = 0 ∧ (outP ((n.val : Nat) : Int) 4).1.length = 2 ∧ inP (outP ((n.val : Nat) : Int) 4).1 4 = (((n.val : Nat) : Int), 0) ∧ (inP (outP ((n.val : Nat) : Int) 4).1 1).2 = 300 := by decide +kernel


theorem LaneBack_walk1 (b : Int) (w : World) : Calls Try.prog 4 #[.int .i64 b, .bool false] w fun e w' => e = .returned (.bool true) ∧ Below w.heap.size w w' := by
  obtain ⟨n, hn⟩ := and255_fin b
  obtain ⟨g1, g2, g3, g4, g5, g6, g7, g8⟩ := back_pure n
  generalize hm : ((n.val : Nat) : Int) = m at *
  obtain ⟨xs, e0, hp⟩ : ∃ xs e0, outP m 1 = (xs, e0) := ⟨_, _, rfl⟩
  rw [hp] at g1 g2 g3 g4
  obtain ⟨c1, hc1⟩ : ∃ c1, inP xs 4 = (c1, 300) := ⟨_, Prod.ext rfl g4⟩
  have HP := Lib.hid (show outP m 1 = (xs, 0) by rw [hp]; exact Prod.ext rfl g1)
  have HI := Lib.hid g3
  have HL := Lib.hid g2
  have HC := Lib.hid hc1
  clear hm g1 g2 g3 g4 g5 g6 g7 g8 hp hc1
  go_enter Try.func4, Try.ntmps4
  go_wp2_with fail
  with_reducible refine (awake3 _).mono ?_
  rintro e w0 ⟨rfl, hb0⟩
  have HB0 := Lib.hid hb0
  clear hb0
  go_wp2_with fail
  with_reducible refine (out_any m 1 _).mono ?_
  rw [HP.out]
  rintro e w1 ⟨v1, rfl, ho1, hb1⟩
  have R1 := Lib.hid (Rd.own ho1)
  have HB1 := Lib.hid (Bl.then HB0.out hb1)
  clear ho1 hb1 HB0
  obtain ⟨A, c, hv⟩ := R1.out.form
  rw [show xs.length = 8 from HL.out] at hv
  subst hv
  go_wp2_with fail
  with_reducible refine (in_any _ xs 1 _ R1.out).mono ?_
  rw [show inP xs 1 = (m, 0) from HI.out]
  rintro e w2 ⟨rfl, rfl⟩
  go_wp2_with fail
  with_reducible refine (in_any _ xs 4 _ R1.out).mono ?_
  rw [HC.out]
  rintro e w2 ⟨rfl, rfl⟩
  go_wp2_with (go_at_call 18; refine (num_any _ _).mono ?_; rintro e w' ⟨rfl, rfl⟩)
  go_ret
  exact ⟨rfl, HB1.out⟩

theorem LaneBack_walk4 (b : Int) (w : World) : Calls Try.prog 4 #[.int .i64 b, .bool true] w fun e w' => e = .returned (.bool true) ∧ Below w.heap.size w w' := by
  obtain ⟨n, hn⟩ := and255_fin b
  obtain ⟨g1, g2, g3, g4, g5, g6, g7, g8⟩ := back_pure n
  generalize hm : ((n.val : Nat) : Int) = m at *
  obtain ⟨xs, e0, hp⟩ : ∃ xs e0, outP m 4 = (xs, e0) := ⟨_, _, rfl⟩
  rw [hp] at g5 g6 g7 g8
  obtain ⟨c1, hc1⟩ : ∃ c1, inP xs 1 = (c1, 300) := ⟨_, Prod.ext rfl g8⟩
  have HP := Lib.hid (show outP m 4 = (xs, 0) by rw [hp]; exact Prod.ext rfl g5)
  have HI := Lib.hid g7
  have HL := Lib.hid g6
  have HC := Lib.hid hc1
  clear hm g1 g2 g3 g4 g5 g6 g7 g8 hp hc1
  go_enter Try.func4, Try.ntmps4
  go_wp2_with fail
  with_reducible refine (awake3 _).mono ?_
  rintro e w0 ⟨rfl, hb0⟩
  have HB0 := Lib.hid hb0
  clear hb0
  go_wp2_with fail
  with_reducible refine (out_any m 4 _).mono ?_
  rw [HP.out]
  rintro e w1 ⟨v1, rfl, ho1, hb1⟩
  have R1 := Lib.hid (Rd.own ho1)
  have HB1 := Lib.hid (Bl.then HB0.out hb1)
  clear ho1 hb1 HB0
  obtain ⟨A, c, hv⟩ := R1.out.form
  rw [show xs.length = 2 from HL.out] at hv
  subst hv
  go_wp2_with fail
  with_reducible refine (in_any _ xs 4 _ R1.out).mono ?_
  rw [show inP xs 4 = (m, 0) from HI.out]
  rintro e w2 ⟨rfl, rfl⟩
  go_wp2_with fail
  with_reducible refine (in_any _ xs 1 _ R1.out).mono ?_
  rw [HC.out]
  rintro e w2 ⟨rfl, rfl⟩
  go_wp2_with (go_at_call 18; refine (num_any _ _).mono ?_; rintro e w' ⟨rfl, rfl⟩)
  go_ret
  exact ⟨rfl, HB1.out⟩

theorem LaneBack_walk (b : Int) (_ : -9223372036854775808 ≤ b ∧ b ≤ 9223372036854775807) (wide : Bool) (w : World) : Calls Try.prog 4 #[.int .i64 b, .bool wide] w fun e w' => e = .returned (.bool true) ∧ Below w.heap.size w w' := by
  cases wide
  · exact LaneBack_walk1 b w
  · exact LaneBack_walk4 b w
end Go.Proofs.Ytgkgfeggpoimjaa
