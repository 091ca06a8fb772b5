/- The statements Lanes, LaneHalves: their walks. -/
import Derived.Test.YtgkgfeggpoimjaaLaneI
namespace Go.Proofs.Ytgkgfeggpoimjaa
set_option linter.unusedVariables false
set_option linter.unusedSimpArgs false
open Go.RowKit

theorem own_kept {w w' : World} {B n size : Nat} {e : TypeId} {v : Value} {xs : List Value} (h : w.ownsRow B e size v n xs) (hb : Below w.heap.size w w') : w'.ownsRow B e size v n xs :=
  h.kept (row := none) ⟨hb.os, hb.tape, hb.output, hb.size, fun i hi _ => hb.block i hi⟩ (by cases v.ownBlock <;> simp)

theorem Lanes_walk (b : Int) (_ : -9223372036854775808 ≤ b ∧ b ≤ 9223372036854775807) (n : Int) (_ : -9223372036854775808 ≤ n ∧ n ≤ 9223372036854775807) (w : World) (v : Value) (xs : List Int) (hr : Rd w v xs) (hz : xs.length * 8 ≤ 140737488351232)
    (_ : ∀ x ∈ xs, -9223372036854775808 ≤ x ∧ x ≤ 9223372036854775807) :
    Calls Try.prog 3 #[.int .i64 b, .int .i64 n, v] w fun e w' => e = .returned (.bool true) ∧ Below w.heap.size w w' := by
  obtain ⟨ps, e1, hp⟩ := pair_ex (outP b n)
  obtain ⟨c, f, hc⟩ := pair_ex (inP xs n)
  have HP := Lib.hid hp
  have HC := Lib.hid hc
  have HR := Lib.hid hr
  clear hp hc hr
  go_enter Try.func3, Try.ntmps3
  go_wp2_with fail
  with_reducible refine (lend_ints v xs _ HR.out hz).mono ?_
  rintro e w1 ⟨vl, rfl, hl, hb1⟩
  have RX := Lib.hid (HR.out.below hb1)
  have HL := Lib.hid hl
  have HB := Lib.hid hb1
  clear hl hb1
  go_wp2_with fail
  with_reducible refine (out_any b n _).mono ?_
  rw [HP.out]
  rintro e w2 ⟨vp, rfl, ho2, hb2⟩
  have HO := Lib.hid ho2
  have HA := Lib.hid hb2
  clear ho2 hb2
  go_wp2_with fail
  with_reducible refine (rout_any b n _).mono ?_
  rw [HP.out]
  rintro e w3 ⟨vq, rfl, ho3, hb3⟩
  have HO3 := Lib.hid (own_kept HO.out hb3)
  have RQ := Lib.hid (Rd.own ho3)
  have HA3 := Lib.hid (Bl.then HA.out hb3)
  clear ho3 hb3 HO HA
  go_wp2_with fail
  with_reducible refine (in_any vl xs n _ (HL.out.kept HA3.out).rd).mono ?_
  rw [HC.out]
  rintro e w4 ⟨rfl, rfl⟩
  go_wp2_with fail
  with_reducible refine (rin_any v xs n _ (RX.out.below HA3.out)).mono ?_
  rw [HC.out]
  rintro e w4 ⟨rfl, q, rfl⟩
  go_wp2_with fail
  with_reducible refine (same_ints vp vq ps ps _ ((Rd.own HO3.out).drewN _) (RQ.out.drewN _)).mono ?_
  rw [show (ps == ps) = true by simp]
  rintro e w5 ⟨rfl, q2, rfl⟩
  have g1 : (e1 != e1) = false := by simp
  have g2 : (f != f) = false := by simp
  have g3 : (c != c) = false := by simp
  go_wp2_with (go_at_call 18; refine (num_any _ _).mono ?_; rintro e w' ⟨rfl, rfl⟩)
  with_reducible refine (spoil_ints vp w1.heap.size ps.length ps _ ?_).mono ?_
  · exact HO3.out
  rintro e w6 ⟨rfl, hg⟩
  have HA6 := Lib.hid ((Bl.drewN HA3.out (q + q2)).grown hg HA3.out.size (own_base HO3.out))
  clear hg
  go_wp2_with fail
  with_reducible refine (kept_ints vl v _ xs xs _ (HL.out.kept HA6.out) (RX.out.below HA6.out)).mono ?_
  rw [show (xs == xs) = true by simp]
  rintro e w7 ⟨rfl, q3, rfl⟩
  go_wp2_with fail
  with_reducible refine (awake3 _).mono ?_
  rintro e w8 ⟨rfl, hb8⟩
  have HB8 := Lib.hid (Bl.then (Bl.drewN (Bl.then HB.out HA6.out) q3) hb8)
  clear hb8
  go_wp2_with fail
  go_ret
  exact ⟨rfl, HB8.out⟩
end Go.Proofs.Ytgkgfeggpoimjaa
