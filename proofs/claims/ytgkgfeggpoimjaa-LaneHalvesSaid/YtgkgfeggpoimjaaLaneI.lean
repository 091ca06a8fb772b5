/- The statements LaneApart, Lanes: their walks. -/
import Derived.Test.YtgkgfeggpoimjaaLaneH
namespace Go.Proofs.Ytgkgfeggpoimjaa
set_option linter.unusedVariables false
set_option linter.unusedSimpArgs false
open Go.RowKit

theorem pair_ex {α β : Type} (p : α × β) : ∃ a b, p = (a, b) := ⟨p.1, p.2, rfl⟩
theorem out_apart1 (n m : Fin 256) : ((outP ((n.val : Nat) : Int) 1).1 == (outP ((m.val : Nat) : Int) 1).1) = (((n.val : Nat) : Int) == ((m.val : Nat) : Int)) := by
  rw [Bool.eq_iff_iff, beq_iff_eq, beq_iff_eq]
  constructor
  · intro h
    have h1 := (back_pure n).2.2.1
    have h2 := (back_pure m).2.2.1
    rw [h, h2] at h1
    exact (Prod.mk.inj h1).1.symm
  · intro h
    rw [h]
theorem out_apart4 (n m : Fin 256) : ((outP ((n.val : Nat) : Int) 4).1 == (outP ((m.val : Nat) : Int) 4).1) = (((n.val : Nat) : Int) == ((m.val : Nat) : Int)) := by
  rw [Bool.eq_iff_iff, beq_iff_eq, beq_iff_eq]
  constructor
  · intro h
    have h1 := (back_pure n).2.2.2.2.2.2.1
    have h2 := (back_pure m).2.2.2.2.2.2.1
    rw [h, h2] at h1
    exact (Prod.mk.inj h1).1.symm
  · intro h
    rw [h]

theorem LaneApart_walk (a : Int) (_ : -9223372036854775808 ≤ a ∧ a ≤ 9223372036854775807) (b : Int) (_ : -9223372036854775808 ≤ b ∧ b ≤ 9223372036854775807) (w : World) :
    Calls Try.prog 7 #[.int .i64 a, .int .i64 b] w fun e w' => e = .returned (.bool true) ∧ Below w.heap.size w w' := by
  obtain ⟨n, hn⟩ := and255_fin a
  obtain ⟨m, hm⟩ := and255_fin b
  have q1 := out_apart1 n m
  have q4 := out_apart4 n m
  obtain ⟨xs1, e1, h1⟩ := pair_ex (outP ((n.val : Nat) : Int) 1)
  obtain ⟨ys1, f1, k1⟩ := pair_ex (outP ((m.val : Nat) : Int) 1)
  obtain ⟨xs4, e4, h4⟩ := pair_ex (outP ((n.val : Nat) : Int) 4)
  obtain ⟨ys4, f4, k4⟩ := pair_ex (outP ((m.val : Nat) : Int) 4)
  obtain rfl : e1 = 0 := by have := (back_pure n).1; rw [h1] at this; exact this
  obtain rfl : f1 = 0 := by have := (back_pure m).1; rw [k1] at this; exact this
  obtain rfl : e4 = 0 := by have := (back_pure n).2.2.2.2.1; rw [h4] at this; exact this
  obtain rfl : f4 = 0 := by have := (back_pure m).2.2.2.2.1; rw [k4] at this; exact this
  rw [h1, k1] at q1
  rw [h4, k4] at q4
  generalize hnn : ((n.val : Nat) : Int) = x at *
  generalize hmm : ((m.val : Nat) : Int) = y at *
  have H1 := Lib.hid h1
  have K1 := Lib.hid k1
  have H4 := Lib.hid h4
  have K4 := Lib.hid k4
  have Q1 := Lib.hid q1
  have Q4 := Lib.hid q4
  clear h1 k1 h4 k4 q1 q4 hnn hmm
  go_enter Try.func7, Try.ntmps7
  go_wp2_with fail
  with_reducible refine (awake3 _).mono ?_
  rintro e w0 ⟨rfl, hb0⟩
  have HB0 := Lib.hid hb0
  clear hb0
  go_wp2_with fail
  with_reducible refine (out_any x 1 _).mono ?_
  rw [H1.out]
  rintro e w1 ⟨v1, rfl, ho1, hb1⟩
  have R1 := Lib.hid (Rd.own ho1)
  have HB1 := Lib.hid (Bl.then HB0.out hb1)
  clear ho1 hb1 HB0
  go_wp2_with fail
  with_reducible refine (out_any y 1 _).mono ?_
  rw [K1.out]
  rintro e w2 ⟨v2, rfl, ho2, hb2⟩
  have S1 := Lib.hid (Rd.own ho2)
  have R1' := Lib.hid (R1.out.below hb2)
  have HB2 := Lib.hid (Bl.then HB1.out hb2)
  clear ho2 hb2 HB1 R1
  go_wp2_with fail
  with_reducible refine (out_any x 4 _).mono ?_
  rw [H4.out]
  rintro e w3 ⟨v3, rfl, ho3, hb3⟩
  have R4 := Lib.hid (Rd.own ho3)
  have R1 := Lib.hid (R1'.out.below hb3)
  have S1' := Lib.hid (S1.out.below hb3)
  have HB3 := Lib.hid (Bl.then HB2.out hb3)
  clear ho3 hb3 HB2 R1' S1
  go_wp2_with fail
  with_reducible refine (out_any y 4 _).mono ?_
  rw [K4.out]
  rintro e w4 ⟨v4, rfl, ho4, hb4⟩
  have S4 := Lib.hid (Rd.own ho4)
  have R1' := Lib.hid (R1.out.below hb4)
  have S1 := Lib.hid (S1'.out.below hb4)
  have R4' := Lib.hid (R4.out.below hb4)
  have HB4 := Lib.hid (Bl.then HB3.out hb4)
  clear ho4 hb4 HB3 R1 S1' R4
  go_wp2_with (go_at_call 18; refine (num_any _ _).mono ?_; rintro e w' ⟨rfl, rfl⟩)
  with_reducible refine (same_ints v1 v2 xs1 ys1 _ R1'.out S1.out).mono ?_
  rw [Q1.out]
  rintro e w5 ⟨rfl, q, rfl⟩
  go_wp2_with fail
  with_reducible refine (same_ints v3 v4 xs4 ys4 _ (R4'.out.drewN _) (S4.out.drewN _)).mono ?_
  rw [Q4.out]
  rintro e w6 ⟨rfl, q2, rfl⟩
  go_wp2_with fail
  go_ret
  exact ⟨by first | rfl | simp, Bl.drewN HB4.out _⟩
end Go.Proofs.Ytgkgfeggpoimjaa
