/- script: May. -/
import Derived.Test.YtfdbolnifjpbhaaDoorScE
namespace Go.Proofs.YtfdbolnifjpbhaaDoor
set_option linter.unusedVariables false
set_option linter.unusedSimpArgs false
open Go.RowKit

/-- May an act be? -/
def mayA (a : ActV) : Bool := betB 0 7 [a.k] && shortB a && leanB a && betB 0 4095 [a.pl] && betB 0 8 [a.wd] && betB 0 65535 [a.ls] && betB 1 400 a.busy && betB 0 4095 a.reads
theorem bet_one (lo hi x : Int) (W : World) (g : Nat) (hg : W.heap.size = g) : Calls Tryd.prog 29 #[.int .i64 lo, .int .i64 hi, .slice (some ⟨g, 0, none⟩) 1 1] (W.alloc (Obj.cells #[.int .i64 x] 3)) fun e w' => e = .returned (.bool (betB lo hi [x])) ∧ Below W.heap.size W w' :=
  (between_any lo hi _ [x] _ (Rd.lit W [x] 1 g hg rfl (by decide))).mono fun e w' h => ⟨h.1, by rw [h.2]; exact Bl.alloc (Below.refl _ _) _⟩
set_option maxRecDepth 100000 in
set_option maxHeartbeats 16000000 in
theorem may_any (m : ActM) (w : World) (hok : OkM w m) (hz : SzA m.a) :
    Calls Tryd.prog 14 #[m.v] w fun e w' => e = .returned (.bool (mayA m.a)) ∧ Below w.heap.size w w' := by
  have A := Lib.hid (At9.new w m 38)
  have HB := Lib.hid (Bl.alloc (Below.refl w.heap.size w) (Obj.cells #[.int .i64 m.a.k, .string m.a.key, .string m.a.val, .int .i64 m.a.pl, .int .i64 m.a.wd, .int .i64 m.a.ls, .string m.a.mask, m.bv, m.rv] 38))
  have OK := Lib.hid hok
  have SH := Lib.hid (fun (g : Nat) (W : World) (h : At9 W g 0 m) => short_any g m W h hz)
  have LE := Lib.hid (fun (g : Nat) (W : World) (h : At9 W g 0 m) (ho : OkM W m) => lean_any g m W h ho)
  have B1 := Lib.hid (fun (W : World) (g : Nat) (hg : W.heap.size = g) => bet_one 0 7 m.a.k W g hg)
  have B4 := Lib.hid (fun (W : World) (g : Nat) (hg : W.heap.size = g) => bet_one 0 4095 m.a.pl W g hg)
  have B5 := Lib.hid (fun (W : World) (g : Nat) (hg : W.heap.size = g) => bet_one 0 8 m.a.wd W g hg)
  have B6 := Lib.hid (fun (W : World) (g : Nat) (hg : W.heap.size = g) => bet_one 0 65535 m.a.ls W g hg)
  have B7 := Lib.hid (fun (W : World) (h : OkM W m) => between_any 1 400 m.bv m.a.busy W h.1)
  have B8 := Lib.hid (fun (W : World) (h : OkM W m) => between_any 0 4095 m.rv m.a.reads W h.2)
  obtain ⟨b1, h1⟩ : ∃ b, betB 0 7 [m.a.k] = b := ⟨_, rfl⟩
  obtain ⟨b2, h2⟩ : ∃ b, shortB m.a = b := ⟨_, rfl⟩
  obtain ⟨b3, h3⟩ : ∃ b, leanB m.a = b := ⟨_, rfl⟩
  obtain ⟨b4, h4⟩ : ∃ b, betB 0 4095 [m.a.pl] = b := ⟨_, rfl⟩
  obtain ⟨b5, h5⟩ : ∃ b, betB 0 8 [m.a.wd] = b := ⟨_, rfl⟩
  obtain ⟨b6, h6⟩ : ∃ b, betB 0 65535 [m.a.ls] = b := ⟨_, rfl⟩
  obtain ⟨b7, h7⟩ : ∃ b, betB 1 400 m.a.busy = b := ⟨_, rfl⟩
  obtain ⟨b8, h8⟩ : ∃ b, betB 0 4095 m.a.reads = b := ⟨_, rfl⟩
  have hm : mayA m.a = (b1 && b2 && b3 && b4 && b5 && b6 && b7 && b8) := by rw [mayA, h1, h2, h3, h4, h5, h6, h7, h8]
  rw [hm]
  rw [h1] at B1
  rw [h2] at SH
  rw [h3] at LE
  rw [h4] at B4
  rw [h5] at B5
  rw [h6] at B6
  rw [h7] at B7
  rw [h8] at B8
  clear h1 h2 h3 h4 h5 h6 h7 h8 hm hok hz
  obtain ⟨⟨k, key, val, pl, wd, ls, mask, busy, reads⟩, bv, rv⟩ := m
  obtain ⟨hb1, hr1⟩ := OK.out
  simp only at hb1 hr1
  obtain ⟨bA, bc, rfl⟩ := hb1.form
  obtain ⟨rA, rc, rfl⟩ := hr1.form
  clear hb1 hr1
  have OK := Lib.hid (OK.out.below HB.out)
  obtain ⟨bn, hbn⟩ : ∃ n, busy.length = n := ⟨_, rfl⟩
  obtain ⟨rn, hrn⟩ : ∃ n, reads.length = n := ⟨_, rfl⟩
  (try simp only at A)
  (try simp only at HB)
  (try simp only at B1)
  (try simp only at B4)
  (try simp only at B5)
  (try simp only at B6)
  (try simp only at B7)
  (try simp only at B8)
  (try simp only at OK)
  unfold ActM.v
  simp only
  obtain ⟨g0, g1, g2, g3, g4, g5, g6, g7, g8⟩ := A.out
  simp only at g0 g1 g2 g3 g4 g5 g6 g7 g8
  clear hbn hrn
  cases b1 with
  | false =>
    simp only [Bool.false_and, Bool.and_false, Bool.true_and]
    go_enter Tryd.func14, Tryd.ntmps14
    go_wp2_with (first | (go_at_call 29; (with_reducible refine (B1.out _ _ (by first | rfl | simp)).mono ?_); rintro e w1 ⟨rfl, hb⟩; have A := Lib.hid (A.out.below hb); have HB := Lib.hid (Bl.then HB.out hb); have OK := Lib.hid (OK.out.below hb); obtain ⟨g0, g1, g2, g3, g4, g5, g6, g7, g8⟩ := A.out; simp only at g0 g1 g2 g3 g4 g5 g6 g7 g8; clear hb) | (go_at_call 29; (with_reducible refine (B4.out _ _ (by first | rfl | simp)).mono ?_); rintro e w1 ⟨rfl, hb⟩; have A := Lib.hid (A.out.below hb); have HB := Lib.hid (Bl.then HB.out hb); have OK := Lib.hid (OK.out.below hb); obtain ⟨g0, g1, g2, g3, g4, g5, g6, g7, g8⟩ := A.out; simp only at g0 g1 g2 g3 g4 g5 g6 g7 g8; clear hb) | (go_at_call 29; (with_reducible refine (B5.out _ _ (by first | rfl | simp)).mono ?_); rintro e w1 ⟨rfl, hb⟩; have A := Lib.hid (A.out.below hb); have HB := Lib.hid (Bl.then HB.out hb); have OK := Lib.hid (OK.out.below hb); obtain ⟨g0, g1, g2, g3, g4, g5, g6, g7, g8⟩ := A.out; simp only at g0 g1 g2 g3 g4 g5 g6 g7 g8; clear hb) | (go_at_call 29; (with_reducible refine (B6.out _ _ (by first | rfl | simp)).mono ?_); rintro e w1 ⟨rfl, hb⟩; have A := Lib.hid (A.out.below hb); have HB := Lib.hid (Bl.then HB.out hb); have OK := Lib.hid (OK.out.below hb); obtain ⟨g0, g1, g2, g3, g4, g5, g6, g7, g8⟩ := A.out; simp only at g0 g1 g2 g3 g4 g5 g6 g7 g8; clear hb) | (go_at_call 29; (with_reducible refine (B7.out _ OK.out).mono ?_); rintro e w1 ⟨rfl, rfl⟩) | (go_at_call 29; (with_reducible refine (B8.out _ OK.out).mono ?_); rintro e w1 ⟨rfl, rfl⟩) | (go_at_call 30; (with_reducible refine (SH.out _ _ A.out).mono ?_); rintro e w1 ⟨rfl, rfl⟩) | (go_at_call 31; (with_reducible refine (LE.out _ _ A.out OK.out).mono ?_); rintro e w1 ⟨rfl, hb⟩; have A := Lib.hid (A.out.below hb); have HB := Lib.hid (Bl.then HB.out hb); have OK := Lib.hid (OK.out.below hb); obtain ⟨g0, g1, g2, g3, g4, g5, g6, g7, g8⟩ := A.out; simp only at g0 g1 g2 g3 g4 g5 g6 g7 g8; clear hb))
    go_ret
    exact ⟨rfl, HB.out⟩
  | true =>
    cases b2 with
    | false =>
      simp only [Bool.false_and, Bool.and_false, Bool.true_and]
      go_enter Tryd.func14, Tryd.ntmps14
      go_wp2_with (first | (go_at_call 29; (with_reducible refine (B1.out _ _ (by first | rfl | simp)).mono ?_); rintro e w1 ⟨rfl, hb⟩; have A := Lib.hid (A.out.below hb); have HB := Lib.hid (Bl.then HB.out hb); have OK := Lib.hid (OK.out.below hb); obtain ⟨g0, g1, g2, g3, g4, g5, g6, g7, g8⟩ := A.out; simp only at g0 g1 g2 g3 g4 g5 g6 g7 g8; clear hb) | (go_at_call 29; (with_reducible refine (B4.out _ _ (by first | rfl | simp)).mono ?_); rintro e w1 ⟨rfl, hb⟩; have A := Lib.hid (A.out.below hb); have HB := Lib.hid (Bl.then HB.out hb); have OK := Lib.hid (OK.out.below hb); obtain ⟨g0, g1, g2, g3, g4, g5, g6, g7, g8⟩ := A.out; simp only at g0 g1 g2 g3 g4 g5 g6 g7 g8; clear hb) | (go_at_call 29; (with_reducible refine (B5.out _ _ (by first | rfl | simp)).mono ?_); rintro e w1 ⟨rfl, hb⟩; have A := Lib.hid (A.out.below hb); have HB := Lib.hid (Bl.then HB.out hb); have OK := Lib.hid (OK.out.below hb); obtain ⟨g0, g1, g2, g3, g4, g5, g6, g7, g8⟩ := A.out; simp only at g0 g1 g2 g3 g4 g5 g6 g7 g8; clear hb) | (go_at_call 29; (with_reducible refine (B6.out _ _ (by first | rfl | simp)).mono ?_); rintro e w1 ⟨rfl, hb⟩; have A := Lib.hid (A.out.below hb); have HB := Lib.hid (Bl.then HB.out hb); have OK := Lib.hid (OK.out.below hb); obtain ⟨g0, g1, g2, g3, g4, g5, g6, g7, g8⟩ := A.out; simp only at g0 g1 g2 g3 g4 g5 g6 g7 g8; clear hb) | (go_at_call 29; (with_reducible refine (B7.out _ OK.out).mono ?_); rintro e w1 ⟨rfl, rfl⟩) | (go_at_call 29; (with_reducible refine (B8.out _ OK.out).mono ?_); rintro e w1 ⟨rfl, rfl⟩) | (go_at_call 30; (with_reducible refine (SH.out _ _ A.out).mono ?_); rintro e w1 ⟨rfl, rfl⟩) | (go_at_call 31; (with_reducible refine (LE.out _ _ A.out OK.out).mono ?_); rintro e w1 ⟨rfl, hb⟩; have A := Lib.hid (A.out.below hb); have HB := Lib.hid (Bl.then HB.out hb); have OK := Lib.hid (OK.out.below hb); obtain ⟨g0, g1, g2, g3, g4, g5, g6, g7, g8⟩ := A.out; simp only at g0 g1 g2 g3 g4 g5 g6 g7 g8; clear hb))
      go_ret
      exact ⟨rfl, HB.out⟩
    | true =>
      cases b3 with
      | false =>
        simp only [Bool.false_and, Bool.and_false, Bool.true_and]
        go_enter Tryd.func14, Tryd.ntmps14
        go_wp2_with (first | (go_at_call 29; (with_reducible refine (B1.out _ _ (by first | rfl | simp)).mono ?_); rintro e w1 ⟨rfl, hb⟩; have A := Lib.hid (A.out.below hb); have HB := Lib.hid (Bl.then HB.out hb); have OK := Lib.hid (OK.out.below hb); obtain ⟨g0, g1, g2, g3, g4, g5, g6, g7, g8⟩ := A.out; simp only at g0 g1 g2 g3 g4 g5 g6 g7 g8; clear hb) | (go_at_call 29; (with_reducible refine (B4.out _ _ (by first | rfl | simp)).mono ?_); rintro e w1 ⟨rfl, hb⟩; have A := Lib.hid (A.out.below hb); have HB := Lib.hid (Bl.then HB.out hb); have OK := Lib.hid (OK.out.below hb); obtain ⟨g0, g1, g2, g3, g4, g5, g6, g7, g8⟩ := A.out; simp only at g0 g1 g2 g3 g4 g5 g6 g7 g8; clear hb) | (go_at_call 29; (with_reducible refine (B5.out _ _ (by first | rfl | simp)).mono ?_); rintro e w1 ⟨rfl, hb⟩; have A := Lib.hid (A.out.below hb); have HB := Lib.hid (Bl.then HB.out hb); have OK := Lib.hid (OK.out.below hb); obtain ⟨g0, g1, g2, g3, g4, g5, g6, g7, g8⟩ := A.out; simp only at g0 g1 g2 g3 g4 g5 g6 g7 g8; clear hb) | (go_at_call 29; (with_reducible refine (B6.out _ _ (by first | rfl | simp)).mono ?_); rintro e w1 ⟨rfl, hb⟩; have A := Lib.hid (A.out.below hb); have HB := Lib.hid (Bl.then HB.out hb); have OK := Lib.hid (OK.out.below hb); obtain ⟨g0, g1, g2, g3, g4, g5, g6, g7, g8⟩ := A.out; simp only at g0 g1 g2 g3 g4 g5 g6 g7 g8; clear hb) | (go_at_call 29; (with_reducible refine (B7.out _ OK.out).mono ?_); rintro e w1 ⟨rfl, rfl⟩) | (go_at_call 29; (with_reducible refine (B8.out _ OK.out).mono ?_); rintro e w1 ⟨rfl, rfl⟩) | (go_at_call 30; (with_reducible refine (SH.out _ _ A.out).mono ?_); rintro e w1 ⟨rfl, rfl⟩) | (go_at_call 31; (with_reducible refine (LE.out _ _ A.out OK.out).mono ?_); rintro e w1 ⟨rfl, hb⟩; have A := Lib.hid (A.out.below hb); have HB := Lib.hid (Bl.then HB.out hb); have OK := Lib.hid (OK.out.below hb); obtain ⟨g0, g1, g2, g3, g4, g5, g6, g7, g8⟩ := A.out; simp only at g0 g1 g2 g3 g4 g5 g6 g7 g8; clear hb))
        go_ret
        exact ⟨rfl, HB.out⟩
      | true =>
        cases b4 with
        | false =>
          simp only [Bool.false_and, Bool.and_false, Bool.true_and]
          go_enter Tryd.func14, Tryd.ntmps14
          go_wp2_with (first | (go_at_call 29; (with_reducible refine (B1.out _ _ (by first | rfl | simp)).mono ?_); rintro e w1 ⟨rfl, hb⟩; have A := Lib.hid (A.out.below hb); have HB := Lib.hid (Bl.then HB.out hb); have OK := Lib.hid (OK.out.below hb); obtain ⟨g0, g1, g2, g3, g4, g5, g6, g7, g8⟩ := A.out; simp only at g0 g1 g2 g3 g4 g5 g6 g7 g8; clear hb) | (go_at_call 29; (with_reducible refine (B4.out _ _ (by first | rfl | simp)).mono ?_); rintro e w1 ⟨rfl, hb⟩; have A := Lib.hid (A.out.below hb); have HB := Lib.hid (Bl.then HB.out hb); have OK := Lib.hid (OK.out.below hb); obtain ⟨g0, g1, g2, g3, g4, g5, g6, g7, g8⟩ := A.out; simp only at g0 g1 g2 g3 g4 g5 g6 g7 g8; clear hb) | (go_at_call 29; (with_reducible refine (B5.out _ _ (by first | rfl | simp)).mono ?_); rintro e w1 ⟨rfl, hb⟩; have A := Lib.hid (A.out.below hb); have HB := Lib.hid (Bl.then HB.out hb); have OK := Lib.hid (OK.out.below hb); obtain ⟨g0, g1, g2, g3, g4, g5, g6, g7, g8⟩ := A.out; simp only at g0 g1 g2 g3 g4 g5 g6 g7 g8; clear hb) | (go_at_call 29; (with_reducible refine (B6.out _ _ (by first | rfl | simp)).mono ?_); rintro e w1 ⟨rfl, hb⟩; have A := Lib.hid (A.out.below hb); have HB := Lib.hid (Bl.then HB.out hb); have OK := Lib.hid (OK.out.below hb); obtain ⟨g0, g1, g2, g3, g4, g5, g6, g7, g8⟩ := A.out; simp only at g0 g1 g2 g3 g4 g5 g6 g7 g8; clear hb) | (go_at_call 29; (with_reducible refine (B7.out _ OK.out).mono ?_); rintro e w1 ⟨rfl, rfl⟩) | (go_at_call 29; (with_reducible refine (B8.out _ OK.out).mono ?_); rintro e w1 ⟨rfl, rfl⟩) | (go_at_call 30; (with_reducible refine (SH.out _ _ A.out).mono ?_); rintro e w1 ⟨rfl, rfl⟩) | (go_at_call 31; (with_reducible refine (LE.out _ _ A.out OK.out).mono ?_); rintro e w1 ⟨rfl, hb⟩; have A := Lib.hid (A.out.below hb); have HB := Lib.hid (Bl.then HB.out hb); have OK := Lib.hid (OK.out.below hb); obtain ⟨g0, g1, g2, g3, g4, g5, g6, g7, g8⟩ := A.out; simp only at g0 g1 g2 g3 g4 g5 g6 g7 g8; clear hb))
          go_ret
          exact ⟨rfl, HB.out⟩
        | true =>
          cases b5 with
          | false =>
            simp only [Bool.false_and, Bool.and_false, Bool.true_and]
            go_enter Tryd.func14, Tryd.ntmps14
            go_wp2_with (first | (go_at_call 29; (with_reducible refine (B1.out _ _ (by first | rfl | simp)).mono ?_); rintro e w1 ⟨rfl, hb⟩; have A := Lib.hid (A.out.below hb); have HB := Lib.hid (Bl.then HB.out hb); have OK := Lib.hid (OK.out.below hb); obtain ⟨g0, g1, g2, g3, g4, g5, g6, g7, g8⟩ := A.out; simp only at g0 g1 g2 g3 g4 g5 g6 g7 g8; clear hb) | (go_at_call 29; (with_reducible refine (B4.out _ _ (by first | rfl | simp)).mono ?_); rintro e w1 ⟨rfl, hb⟩; have A := Lib.hid (A.out.below hb); have HB := Lib.hid (Bl.then HB.out hb); have OK := Lib.hid (OK.out.below hb); obtain ⟨g0, g1, g2, g3, g4, g5, g6, g7, g8⟩ := A.out; simp only at g0 g1 g2 g3 g4 g5 g6 g7 g8; clear hb) | (go_at_call 29; (with_reducible refine (B5.out _ _ (by first | rfl | simp)).mono ?_); rintro e w1 ⟨rfl, hb⟩; have A := Lib.hid (A.out.below hb); have HB := Lib.hid (Bl.then HB.out hb); have OK := Lib.hid (OK.out.below hb); obtain ⟨g0, g1, g2, g3, g4, g5, g6, g7, g8⟩ := A.out; simp only at g0 g1 g2 g3 g4 g5 g6 g7 g8; clear hb) | (go_at_call 29; (with_reducible refine (B6.out _ _ (by first | rfl | simp)).mono ?_); rintro e w1 ⟨rfl, hb⟩; have A := Lib.hid (A.out.below hb); have HB := Lib.hid (Bl.then HB.out hb); have OK := Lib.hid (OK.out.below hb); obtain ⟨g0, g1, g2, g3, g4, g5, g6, g7, g8⟩ := A.out; simp only at g0 g1 g2 g3 g4 g5 g6 g7 g8; clear hb) | (go_at_call 29; (with_reducible refine (B7.out _ OK.out).mono ?_); rintro e w1 ⟨rfl, rfl⟩) | (go_at_call 29; (with_reducible refine (B8.out _ OK.out).mono ?_); rintro e w1 ⟨rfl, rfl⟩) | (go_at_call 30; (with_reducible refine (SH.out _ _ A.out).mono ?_); rintro e w1 ⟨rfl, rfl⟩) | (go_at_call 31; (with_reducible refine (LE.out _ _ A.out OK.out).mono ?_); rintro e w1 ⟨rfl, hb⟩; have A := Lib.hid (A.out.below hb); have HB := Lib.hid (Bl.then HB.out hb); have OK := Lib.hid (OK.out.below hb); obtain ⟨g0, g1, g2, g3, g4, g5, g6, g7, g8⟩ := A.out; simp only at g0 g1 g2 g3 g4 g5 g6 g7 g8; clear hb))
            go_ret
            exact ⟨rfl, HB.out⟩
          | true =>
            cases b6 with
            | false =>
              simp only [Bool.false_and, Bool.and_false, Bool.true_and]
              go_enter Tryd.func14, Tryd.ntmps14
              go_wp2_with (first | (go_at_call 29; (with_reducible refine (B1.out _ _ (by first | rfl | simp)).mono ?_); rintro e w1 ⟨rfl, hb⟩; have A := Lib.hid (A.out.below hb); have HB := Lib.hid (Bl.then HB.out hb); have OK := Lib.hid (OK.out.below hb); obtain ⟨g0, g1, g2, g3, g4, g5, g6, g7, g8⟩ := A.out; simp only at g0 g1 g2 g3 g4 g5 g6 g7 g8; clear hb) | (go_at_call 29; (with_reducible refine (B4.out _ _ (by first | rfl | simp)).mono ?_); rintro e w1 ⟨rfl, hb⟩; have A := Lib.hid (A.out.below hb); have HB := Lib.hid (Bl.then HB.out hb); have OK := Lib.hid (OK.out.below hb); obtain ⟨g0, g1, g2, g3, g4, g5, g6, g7, g8⟩ := A.out; simp only at g0 g1 g2 g3 g4 g5 g6 g7 g8; clear hb) | (go_at_call 29; (with_reducible refine (B5.out _ _ (by first | rfl | simp)).mono ?_); rintro e w1 ⟨rfl, hb⟩; have A := Lib.hid (A.out.below hb); have HB := Lib.hid (Bl.then HB.out hb); have OK := Lib.hid (OK.out.below hb); obtain ⟨g0, g1, g2, g3, g4, g5, g6, g7, g8⟩ := A.out; simp only at g0 g1 g2 g3 g4 g5 g6 g7 g8; clear hb) | (go_at_call 29; (with_reducible refine (B6.out _ _ (by first | rfl | simp)).mono ?_); rintro e w1 ⟨rfl, hb⟩; have A := Lib.hid (A.out.below hb); have HB := Lib.hid (Bl.then HB.out hb); have OK := Lib.hid (OK.out.below hb); obtain ⟨g0, g1, g2, g3, g4, g5, g6, g7, g8⟩ := A.out; simp only at g0 g1 g2 g3 g4 g5 g6 g7 g8; clear hb) | (go_at_call 29; (with_reducible refine (B7.out _ OK.out).mono ?_); rintro e w1 ⟨rfl, rfl⟩) | (go_at_call 29; (with_reducible refine (B8.out _ OK.out).mono ?_); rintro e w1 ⟨rfl, rfl⟩) | (go_at_call 30; (with_reducible refine (SH.out _ _ A.out).mono ?_); rintro e w1 ⟨rfl, rfl⟩) | (go_at_call 31; (with_reducible refine (LE.out _ _ A.out OK.out).mono ?_); rintro e w1 ⟨rfl, hb⟩; have A := Lib.hid (A.out.below hb); have HB := Lib.hid (Bl.then HB.out hb); have OK := Lib.hid (OK.out.below hb); obtain ⟨g0, g1, g2, g3, g4, g5, g6, g7, g8⟩ := A.out; simp only at g0 g1 g2 g3 g4 g5 g6 g7 g8; clear hb))
              go_ret
              exact ⟨rfl, HB.out⟩
            | true =>
              cases b7 with
              | false =>
                simp only [Bool.false_and, Bool.and_false, Bool.true_and]
                go_enter Tryd.func14, Tryd.ntmps14
                go_wp2_with (first | (go_at_call 29; (with_reducible refine (B1.out _ _ (by first | rfl | simp)).mono ?_); rintro e w1 ⟨rfl, hb⟩; have A := Lib.hid (A.out.below hb); have HB := Lib.hid (Bl.then HB.out hb); have OK := Lib.hid (OK.out.below hb); obtain ⟨g0, g1, g2, g3, g4, g5, g6, g7, g8⟩ := A.out; simp only at g0 g1 g2 g3 g4 g5 g6 g7 g8; clear hb) | (go_at_call 29; (with_reducible refine (B4.out _ _ (by first | rfl | simp)).mono ?_); rintro e w1 ⟨rfl, hb⟩; have A := Lib.hid (A.out.below hb); have HB := Lib.hid (Bl.then HB.out hb); have OK := Lib.hid (OK.out.below hb); obtain ⟨g0, g1, g2, g3, g4, g5, g6, g7, g8⟩ := A.out; simp only at g0 g1 g2 g3 g4 g5 g6 g7 g8; clear hb) | (go_at_call 29; (with_reducible refine (B5.out _ _ (by first | rfl | simp)).mono ?_); rintro e w1 ⟨rfl, hb⟩; have A := Lib.hid (A.out.below hb); have HB := Lib.hid (Bl.then HB.out hb); have OK := Lib.hid (OK.out.below hb); obtain ⟨g0, g1, g2, g3, g4, g5, g6, g7, g8⟩ := A.out; simp only at g0 g1 g2 g3 g4 g5 g6 g7 g8; clear hb) | (go_at_call 29; (with_reducible refine (B6.out _ _ (by first | rfl | simp)).mono ?_); rintro e w1 ⟨rfl, hb⟩; have A := Lib.hid (A.out.below hb); have HB := Lib.hid (Bl.then HB.out hb); have OK := Lib.hid (OK.out.below hb); obtain ⟨g0, g1, g2, g3, g4, g5, g6, g7, g8⟩ := A.out; simp only at g0 g1 g2 g3 g4 g5 g6 g7 g8; clear hb) | (go_at_call 29; (with_reducible refine (B7.out _ OK.out).mono ?_); rintro e w1 ⟨rfl, rfl⟩) | (go_at_call 29; (with_reducible refine (B8.out _ OK.out).mono ?_); rintro e w1 ⟨rfl, rfl⟩) | (go_at_call 30; (with_reducible refine (SH.out _ _ A.out).mono ?_); rintro e w1 ⟨rfl, rfl⟩) | (go_at_call 31; (with_reducible refine (LE.out _ _ A.out OK.out).mono ?_); rintro e w1 ⟨rfl, hb⟩; have A := Lib.hid (A.out.below hb); have HB := Lib.hid (Bl.then HB.out hb); have OK := Lib.hid (OK.out.below hb); obtain ⟨g0, g1, g2, g3, g4, g5, g6, g7, g8⟩ := A.out; simp only at g0 g1 g2 g3 g4 g5 g6 g7 g8; clear hb))
                go_ret
                exact ⟨rfl, HB.out⟩
              | true =>
                cases b8 with
                | false =>
                  simp only [Bool.false_and, Bool.and_false, Bool.true_and]
                  go_enter Tryd.func14, Tryd.ntmps14
                  go_wp2_with (first | (go_at_call 29; (with_reducible refine (B1.out _ _ (by first | rfl | simp)).mono ?_); rintro e w1 ⟨rfl, hb⟩; have A := Lib.hid (A.out.below hb); have HB := Lib.hid (Bl.then HB.out hb); have OK := Lib.hid (OK.out.below hb); obtain ⟨g0, g1, g2, g3, g4, g5, g6, g7, g8⟩ := A.out; simp only at g0 g1 g2 g3 g4 g5 g6 g7 g8; clear hb) | (go_at_call 29; (with_reducible refine (B4.out _ _ (by first | rfl | simp)).mono ?_); rintro e w1 ⟨rfl, hb⟩; have A := Lib.hid (A.out.below hb); have HB := Lib.hid (Bl.then HB.out hb); have OK := Lib.hid (OK.out.below hb); obtain ⟨g0, g1, g2, g3, g4, g5, g6, g7, g8⟩ := A.out; simp only at g0 g1 g2 g3 g4 g5 g6 g7 g8; clear hb) | (go_at_call 29; (with_reducible refine (B5.out _ _ (by first | rfl | simp)).mono ?_); rintro e w1 ⟨rfl, hb⟩; have A := Lib.hid (A.out.below hb); have HB := Lib.hid (Bl.then HB.out hb); have OK := Lib.hid (OK.out.below hb); obtain ⟨g0, g1, g2, g3, g4, g5, g6, g7, g8⟩ := A.out; simp only at g0 g1 g2 g3 g4 g5 g6 g7 g8; clear hb) | (go_at_call 29; (with_reducible refine (B6.out _ _ (by first | rfl | simp)).mono ?_); rintro e w1 ⟨rfl, hb⟩; have A := Lib.hid (A.out.below hb); have HB := Lib.hid (Bl.then HB.out hb); have OK := Lib.hid (OK.out.below hb); obtain ⟨g0, g1, g2, g3, g4, g5, g6, g7, g8⟩ := A.out; simp only at g0 g1 g2 g3 g4 g5 g6 g7 g8; clear hb) | (go_at_call 29; (with_reducible refine (B7.out _ OK.out).mono ?_); rintro e w1 ⟨rfl, rfl⟩) | (go_at_call 29; (with_reducible refine (B8.out _ OK.out).mono ?_); rintro e w1 ⟨rfl, rfl⟩) | (go_at_call 30; (with_reducible refine (SH.out _ _ A.out).mono ?_); rintro e w1 ⟨rfl, rfl⟩) | (go_at_call 31; (with_reducible refine (LE.out _ _ A.out OK.out).mono ?_); rintro e w1 ⟨rfl, hb⟩; have A := Lib.hid (A.out.below hb); have HB := Lib.hid (Bl.then HB.out hb); have OK := Lib.hid (OK.out.below hb); obtain ⟨g0, g1, g2, g3, g4, g5, g6, g7, g8⟩ := A.out; simp only at g0 g1 g2 g3 g4 g5 g6 g7 g8; clear hb))
                  go_ret
                  exact ⟨rfl, HB.out⟩
                | true =>
                  go_enter Tryd.func14, Tryd.ntmps14
                  go_wp2_with (first | (go_at_call 29; (with_reducible refine (B1.out _ _ (by first | rfl | simp)).mono ?_); rintro e w1 ⟨rfl, hb⟩; have A := Lib.hid (A.out.below hb); have HB := Lib.hid (Bl.then HB.out hb); have OK := Lib.hid (OK.out.below hb); obtain ⟨g0, g1, g2, g3, g4, g5, g6, g7, g8⟩ := A.out; simp only at g0 g1 g2 g3 g4 g5 g6 g7 g8; clear hb) | (go_at_call 29; (with_reducible refine (B4.out _ _ (by first | rfl | simp)).mono ?_); rintro e w1 ⟨rfl, hb⟩; have A := Lib.hid (A.out.below hb); have HB := Lib.hid (Bl.then HB.out hb); have OK := Lib.hid (OK.out.below hb); obtain ⟨g0, g1, g2, g3, g4, g5, g6, g7, g8⟩ := A.out; simp only at g0 g1 g2 g3 g4 g5 g6 g7 g8; clear hb) | (go_at_call 29; (with_reducible refine (B5.out _ _ (by first | rfl | simp)).mono ?_); rintro e w1 ⟨rfl, hb⟩; have A := Lib.hid (A.out.below hb); have HB := Lib.hid (Bl.then HB.out hb); have OK := Lib.hid (OK.out.below hb); obtain ⟨g0, g1, g2, g3, g4, g5, g6, g7, g8⟩ := A.out; simp only at g0 g1 g2 g3 g4 g5 g6 g7 g8; clear hb) | (go_at_call 29; (with_reducible refine (B6.out _ _ (by first | rfl | simp)).mono ?_); rintro e w1 ⟨rfl, hb⟩; have A := Lib.hid (A.out.below hb); have HB := Lib.hid (Bl.then HB.out hb); have OK := Lib.hid (OK.out.below hb); obtain ⟨g0, g1, g2, g3, g4, g5, g6, g7, g8⟩ := A.out; simp only at g0 g1 g2 g3 g4 g5 g6 g7 g8; clear hb) | (go_at_call 29; (with_reducible refine (B7.out _ OK.out).mono ?_); rintro e w1 ⟨rfl, rfl⟩) | (go_at_call 29; (with_reducible refine (B8.out _ OK.out).mono ?_); rintro e w1 ⟨rfl, rfl⟩) | (go_at_call 30; (with_reducible refine (SH.out _ _ A.out).mono ?_); rintro e w1 ⟨rfl, rfl⟩) | (go_at_call 31; (with_reducible refine (LE.out _ _ A.out OK.out).mono ?_); rintro e w1 ⟨rfl, hb⟩; have A := Lib.hid (A.out.below hb); have HB := Lib.hid (Bl.then HB.out hb); have OK := Lib.hid (OK.out.below hb); obtain ⟨g0, g1, g2, g3, g4, g5, g6, g7, g8⟩ := A.out; simp only at g0 g1 g2 g3 g4 g5 g6 g7 g8; clear hb))
                  go_ret
                  exact ⟨rfl, HB.out⟩
end Go.Proofs.YtfdbolnifjpbhaaDoor
