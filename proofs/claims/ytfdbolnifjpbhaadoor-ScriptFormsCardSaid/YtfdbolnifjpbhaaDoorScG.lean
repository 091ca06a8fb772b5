/- The document's ActMay. -/
import Derived.Test.YtfdbolnifjpbhaaDoorScB
import Derived.Deep.DeepCutAuto
namespace Go.Proofs.YtfdbolnifjpbhaaDoor
set_option linter.unusedVariables false
set_option linter.unusedSimpArgs false
open Go.RowKit

def okR (a : ActV) : Bool := decide ((a.key.size : Int) ≤ 12) && decide ((a.val.size : Int) ≤ 40) && decide (0 ≤ a.pl) && decide (a.pl < 4096) && decide (0 ≤ a.wd) && decide (a.wd ≤ 8) && decide (0 ≤ a.ls) && decide (a.ls ≤ 65535) && decide ((a.mask.size : Int) ≤ 16) && betB 1 400 a.busy && betB 0 4095 a.reads
def kindR (k : Int) (r0 ke ve p0 w0 l0 b0 : Bool) : Bool :=
  if k = 0 then ke && ve && p0 && w0 else if k = 1 then r0 && ke && ve && p0 && w0 else if k = 2 then p0 && w0 else if k = 3 then r0 && ve && p0 && w0 else if k = 4 then ve && p0 && w0
  else if k = 5 then r0 && ke && ve && p0 && w0 else if k = 6 then r0 && ke && ve else if k = 7 then l0 && b0 && r0 && ke && ve && p0 && w0 else false
def mayR (a : ActV) : Bool := okR a && kindR a.k (a.reads.length == 0) a.key.toList.isEmpty a.val.toList.isEmpty (a.pl == 0) (a.wd == 0) (a.ls == 0) (a.busy.length == 0)
theorem kindR_else {k : Int} {r0 ke ve p0 w0 l0 b0 : Bool} (h0 : ¬ k = 0) (h1 : ¬ k = 1) (h2 : ¬ k = 2) (h3 : ¬ k = 3) (h4 : ¬ k = 4) (h5 : ¬ k = 5) (h6 : ¬ k = 6) (h7 : ¬ k = 7) : kindR k r0 ke ve p0 w0 l0 b0 = false := by
  unfold kindR
  rw [if_neg h0, if_neg h1, if_neg h2, if_neg h3, if_neg h4, if_neg h5, if_neg h6, if_neg h7]
set_option maxRecDepth 100000 in
set_option maxHeartbeats 16000000 in
theorem actmay_any (m : ActM) (w : World) (hok : OkM w m) (hz : SzA m.a) :
    Calls Tryd.prog 15 #[m.v] w fun e w' => e = .returned (.bool (mayR m.a)) ∧ Below w.heap.size w w' := by
  have A := At9.new w m 38
  have hbel := Bl.alloc (Below.refl w.heap.size w) (Obj.cells #[.int .i64 m.a.k, .string m.a.key, .string m.a.val, .int .i64 m.a.pl, .int .i64 m.a.wd, .int .i64 m.a.ls, .string m.a.mask, m.bv, m.rv] 38)
  obtain ⟨⟨k, key, val, pl, wd, ls, mask, busy, reads⟩, bv, rv⟩ := m
  obtain ⟨z1, z2, z3⟩ := hz
  simp only at z1 z2 z3
  have OK := hok.below hbel
  obtain ⟨hb1, hr1⟩ := id hok
  simp only at hb1 hr1
  obtain ⟨bA, bc, rfl⟩ := hb1.form
  obtain ⟨rA, rc, rfl⟩ := hr1.form
  have B7 := Lib.hid (fun (W : World) (h : Rd W (.slice bA busy.length bc) busy) => rowmay_any 1 400 _ busy W h)
  have B8 := Lib.hid (fun (W : World) (h : Rd W (.slice rA reads.length rc) reads) => rowmay_any 0 4095 _ reads W h)
  have OK1 := Lib.hid OK.1
  have OK2 := Lib.hid OK.2
  have HB := Lib.hid hbel
  obtain ⟨g0, g1, g2, g3, g4, g5, g6, g7, g8⟩ := A
  simp only at g0 g1 g2 g3 g4 g5 g6 g7 g8 OK1 OK2 HB
  clear OK hb1 hr1 hok hbel
  unfold ActM.v
  simp only
  have hmay : mayR ⟨k, key, val, pl, wd, ls, mask, busy, reads⟩ = (okR ⟨k, key, val, pl, wd, ls, mask, busy, reads⟩ && kindR k (reads.length == 0) key.toList.isEmpty val.toList.isEmpty (pl == 0) (wd == 0) (ls == 0) (busy.length == 0)) := rfl
  have hokr : okR ⟨k, key, val, pl, wd, ls, mask, busy, reads⟩ = (decide ((key.size : Int) ≤ 12) && decide ((val.size : Int) ≤ 40) && decide (0 ≤ pl) && decide (pl < 4096) && decide (0 ≤ wd) && decide (wd ≤ 8) && decide (0 ≤ ls) && decide (ls ≤ 65535) && decide ((mask.size : Int) ≤ 16) && betB 1 400 busy && betB 0 4095 reads) := rfl
  obtain ⟨bn, hbn⟩ : ∃ n, busy.length = n := ⟨_, rfl⟩
  obtain ⟨rn, hrn⟩ : ∃ n, reads.length = n := ⟨_, rfl⟩
  rw [hbn] at g7 OK1 OK2 B7 hmay HB ⊢
  rw [hrn] at g8 OK1 OK2 B8 hmay HB ⊢
  obtain ⟨n1, hn1⟩ : ∃ n, key.size = n := ⟨_, rfl⟩
  obtain ⟨n2, hn2⟩ : ∃ n, val.size = n := ⟨_, rfl⟩
  obtain ⟨n3, hn3⟩ : ∃ n, mask.size = n := ⟨_, rfl⟩
  rw [hn1, hn2, hn3] at hokr
  rw [hn1] at z1
  rw [hn2] at z2
  rw [hn3] at z3
  obtain ⟨c1, h1⟩ : ∃ c, decide ((n1 : Int) ≤ 12) = c := ⟨_, rfl⟩
  obtain ⟨c2, h2⟩ : ∃ c, decide ((n2 : Int) ≤ 40) = c := ⟨_, rfl⟩
  obtain ⟨c3, h3⟩ : ∃ c, decide (0 ≤ pl) = c := ⟨_, rfl⟩
  obtain ⟨c4, h4⟩ : ∃ c, decide (pl < 4096) = c := ⟨_, rfl⟩
  obtain ⟨c5, h5⟩ : ∃ c, decide (0 ≤ wd) = c := ⟨_, rfl⟩
  obtain ⟨c6, h6⟩ : ∃ c, decide (wd ≤ 8) = c := ⟨_, rfl⟩
  obtain ⟨c7, h7⟩ : ∃ c, decide (0 ≤ ls) = c := ⟨_, rfl⟩
  obtain ⟨c8, h8⟩ : ∃ c, decide (ls ≤ 65535) = c := ⟨_, rfl⟩
  obtain ⟨c9, h9⟩ : ∃ c, decide ((n3 : Int) ≤ 16) = c := ⟨_, rfl⟩
  obtain ⟨c10, h10⟩ : ∃ c, betB 1 400 busy = c := ⟨_, rfl⟩
  obtain ⟨c11, h11⟩ : ∃ c, betB 0 4095 reads = c := ⟨_, rfl⟩
  rw [h1, h2, h3, h4, h5, h6, h7, h8, h9, h10, h11] at hokr
  rw [h10] at B7
  rw [h11] at B8
  obtain ⟨ok, hk⟩ : ∃ ok, okR ⟨k, key, val, pl, wd, ls, mask, busy, reads⟩ = ok := ⟨_, rfl⟩
  rw [hk] at hokr hmay
  obtain ⟨ke, eke⟩ : ∃ c, key.toList.isEmpty = c := ⟨_, rfl⟩
  obtain ⟨ve, eve⟩ : ∃ c, val.toList.isEmpty = c := ⟨_, rfl⟩
  obtain ⟨r0, er0⟩ : ∃ c, (rn == 0) = c := ⟨_, rfl⟩
  obtain ⟨b0, eb0⟩ : ∃ c, (bn == 0) = c := ⟨_, rfl⟩
  obtain ⟨p0, ep0⟩ : ∃ c, (pl == 0) = c := ⟨_, rfl⟩
  obtain ⟨w0, ew0⟩ : ∃ c, (wd == 0) = c := ⟨_, rfl⟩
  obtain ⟨l0, el0⟩ : ∃ c, (ls == 0) = c := ⟨_, rfl⟩
  rw [eke, eve, er0, eb0, ep0, ew0, el0] at hmay
  have er0' : ((rn : Int) == 0) = r0 := by rw [← er0]; exact Bool.eq_iff_iff.2 (by simp only [beq_iff_eq]; omega)
  have eb0' : ((bn : Int) == 0) = b0 := by rw [← eb0]; exact Bool.eq_iff_iff.2 (by simp only [beq_iff_eq]; omega)
  rw [hmay]
  have HOKR := Lib.hid hokr
  clear hmay hokr hk h10 h11 hbn hrn
  go_enter Tryd.func15, Tryd.ntmps15
  go_upto_region 1 with fail
  go_cut [3] (fun s3 wx => s3 = .bool ok ∧ wx = w.alloc (Obj.cells #[.int .i64 k, .string key, .string val, .int .i64 pl, .int .i64 wd, .int .i64 ls, .string mask, .slice bA bn bc, .slice rA rn rc] 38))
  case first =>
    clear eke eve er0 eb0 ep0 ew0 el0 er0' eb0'
    cases c1 with
    | false =>
      have HK := Lib.hid HOKR.out
      simp only [Bool.false_and, Bool.and_false, Bool.true_and] at HK
      have hok9 := HK.out
      clear HOKR HK
      subst hok9
      go_wp2_with (first | (go_at_call 32; with_reducible refine (B7.out _ OK1.out).mono ?_; rintro e w1 ⟨rfl, rfl⟩) | (go_at_call 32; with_reducible refine (B8.out _ OK2.out).mono ?_; rintro e w1 ⟨rfl, rfl⟩))
      go_meet
      exact ⟨rfl, rfl⟩
    | true =>
      cases c2 with
      | false =>
        have HK := Lib.hid HOKR.out
        simp only [Bool.false_and, Bool.and_false, Bool.true_and] at HK
        have hok9 := HK.out
        clear HOKR HK
        subst hok9
        go_wp2_with (first | (go_at_call 32; with_reducible refine (B7.out _ OK1.out).mono ?_; rintro e w1 ⟨rfl, rfl⟩) | (go_at_call 32; with_reducible refine (B8.out _ OK2.out).mono ?_; rintro e w1 ⟨rfl, rfl⟩))
        go_meet
        exact ⟨rfl, rfl⟩
      | true =>
        cases c3 with
        | false =>
          have HK := Lib.hid HOKR.out
          simp only [Bool.false_and, Bool.and_false, Bool.true_and] at HK
          have hok9 := HK.out
          clear HOKR HK
          subst hok9
          go_wp2_with (first | (go_at_call 32; with_reducible refine (B7.out _ OK1.out).mono ?_; rintro e w1 ⟨rfl, rfl⟩) | (go_at_call 32; with_reducible refine (B8.out _ OK2.out).mono ?_; rintro e w1 ⟨rfl, rfl⟩))
          go_meet
          exact ⟨rfl, rfl⟩
        | true =>
          cases c4 with
          | false =>
            have HK := Lib.hid HOKR.out
            simp only [Bool.false_and, Bool.and_false, Bool.true_and] at HK
            have hok9 := HK.out
            clear HOKR HK
            subst hok9
            go_wp2_with (first | (go_at_call 32; with_reducible refine (B7.out _ OK1.out).mono ?_; rintro e w1 ⟨rfl, rfl⟩) | (go_at_call 32; with_reducible refine (B8.out _ OK2.out).mono ?_; rintro e w1 ⟨rfl, rfl⟩))
            go_meet
            exact ⟨rfl, rfl⟩
          | true =>
            cases c5 with
            | false =>
              have HK := Lib.hid HOKR.out
              simp only [Bool.false_and, Bool.and_false, Bool.true_and] at HK
              have hok9 := HK.out
              clear HOKR HK
              subst hok9
              go_wp2_with (first | (go_at_call 32; with_reducible refine (B7.out _ OK1.out).mono ?_; rintro e w1 ⟨rfl, rfl⟩) | (go_at_call 32; with_reducible refine (B8.out _ OK2.out).mono ?_; rintro e w1 ⟨rfl, rfl⟩))
              go_meet
              exact ⟨rfl, rfl⟩
            | true =>
              cases c6 with
              | false =>
                have HK := Lib.hid HOKR.out
                simp only [Bool.false_and, Bool.and_false, Bool.true_and] at HK
                have hok9 := HK.out
                clear HOKR HK
                subst hok9
                go_wp2_with (first | (go_at_call 32; with_reducible refine (B7.out _ OK1.out).mono ?_; rintro e w1 ⟨rfl, rfl⟩) | (go_at_call 32; with_reducible refine (B8.out _ OK2.out).mono ?_; rintro e w1 ⟨rfl, rfl⟩))
                go_meet
                exact ⟨rfl, rfl⟩
              | true =>
                cases c7 with
                | false =>
                  have HK := Lib.hid HOKR.out
                  simp only [Bool.false_and, Bool.and_false, Bool.true_and] at HK
                  have hok9 := HK.out
                  clear HOKR HK
                  subst hok9
                  go_wp2_with (first | (go_at_call 32; with_reducible refine (B7.out _ OK1.out).mono ?_; rintro e w1 ⟨rfl, rfl⟩) | (go_at_call 32; with_reducible refine (B8.out _ OK2.out).mono ?_; rintro e w1 ⟨rfl, rfl⟩))
                  go_meet
                  exact ⟨rfl, rfl⟩
                | true =>
                  cases c8 with
                  | false =>
                    have HK := Lib.hid HOKR.out
                    simp only [Bool.false_and, Bool.and_false, Bool.true_and] at HK
                    have hok9 := HK.out
                    clear HOKR HK
                    subst hok9
                    go_wp2_with (first | (go_at_call 32; with_reducible refine (B7.out _ OK1.out).mono ?_; rintro e w1 ⟨rfl, rfl⟩) | (go_at_call 32; with_reducible refine (B8.out _ OK2.out).mono ?_; rintro e w1 ⟨rfl, rfl⟩))
                    go_meet
                    exact ⟨rfl, rfl⟩
                  | true =>
                    cases c9 with
                    | false =>
                      have HK := Lib.hid HOKR.out
                      simp only [Bool.false_and, Bool.and_false, Bool.true_and] at HK
                      have hok9 := HK.out
                      clear HOKR HK
                      subst hok9
                      go_wp2_with (first | (go_at_call 32; with_reducible refine (B7.out _ OK1.out).mono ?_; rintro e w1 ⟨rfl, rfl⟩) | (go_at_call 32; with_reducible refine (B8.out _ OK2.out).mono ?_; rintro e w1 ⟨rfl, rfl⟩))
                      go_meet
                      exact ⟨rfl, rfl⟩
                    | true =>
                      cases c10 with
                      | false =>
                        have HK := Lib.hid HOKR.out
                        simp only [Bool.false_and, Bool.and_false, Bool.true_and] at HK
                        have hok9 := HK.out
                        clear HOKR HK
                        subst hok9
                        go_wp2_with (first | (go_at_call 32; with_reducible refine (B7.out _ OK1.out).mono ?_; rintro e w1 ⟨rfl, rfl⟩) | (go_at_call 32; with_reducible refine (B8.out _ OK2.out).mono ?_; rintro e w1 ⟨rfl, rfl⟩))
                        go_meet
                        exact ⟨rfl, rfl⟩
                      | true =>
                        cases c11 with
                        | false =>
                          have HK := Lib.hid HOKR.out
                          simp only [Bool.false_and, Bool.and_false, Bool.true_and] at HK
                          have hok9 := HK.out
                          clear HOKR HK
                          subst hok9
                          go_wp2_with (first | (go_at_call 32; with_reducible refine (B7.out _ OK1.out).mono ?_; rintro e w1 ⟨rfl, rfl⟩) | (go_at_call 32; with_reducible refine (B8.out _ OK2.out).mono ?_; rintro e w1 ⟨rfl, rfl⟩))
                          go_meet
                          exact ⟨rfl, rfl⟩
                        | true =>
                          have HK := Lib.hid HOKR.out
                          simp only [Bool.false_and, Bool.and_false, Bool.true_and] at HK
                          have hok9 := HK.out
                          clear HOKR HK
                          subst hok9
                          go_wp2_with (first | (go_at_call 32; with_reducible refine (B7.out _ OK1.out).mono ?_; rintro e w1 ⟨rfl, rfl⟩) | (go_at_call 32; with_reducible refine (B8.out _ OK2.out).mono ?_; rintro e w1 ⟨rfl, rfl⟩))
                          go_meet
                          exact ⟨rfl, rfl⟩
  case rest =>
  obtain ⟨rfl, rfl⟩ := hcut
  clear HOKR h1 h2 h3 h4 h5 h6 h7 h8 h9 OK1 OK2 B7 B8 z1 z2 z3
  have dd : ∀ c : Int, (k == c) = true ∨ (k == c) = false := fun c => by cases (k == c) <;> simp
  rcases dd 0 with e0 | e0
  · obtain rfl := beq_iff_eq.1 e0; clear dd
    cases ok with
    | false =>
      go_wp2_with fail
      go_ret
      exact ⟨ret_bool (by simp [kindR]), HB.out⟩
    | true =>
      cases ke with
      | false =>
        go_wp2_with fail
        go_ret
        exact ⟨ret_bool (by simp [kindR]), HB.out⟩
      | true =>
        cases ve with
        | false =>
          go_wp2_with fail
          go_ret
          exact ⟨ret_bool (by simp [kindR]), HB.out⟩
        | true =>
          cases p0 with
          | false =>
            go_wp2_with fail
            go_ret
            exact ⟨ret_bool (by simp [kindR]), HB.out⟩
          | true =>
            cases w0 with
            | false =>
              go_wp2_with fail
              go_ret
              exact ⟨ret_bool (by simp [kindR]), HB.out⟩
            | true =>
              go_wp2_with fail
              go_ret
              exact ⟨ret_bool (by simp [kindR]), HB.out⟩
  rcases dd 1 with e1 | e1
  · obtain rfl := beq_iff_eq.1 e1; clear dd
    cases ok with
    | false =>
      go_wp2_with fail
      go_ret
      exact ⟨ret_bool (by simp [kindR]), HB.out⟩
    | true =>
      cases r0 with
      | false =>
        go_wp2_with fail
        go_ret
        exact ⟨ret_bool (by simp [kindR]), HB.out⟩
      | true =>
        cases ke with
        | false =>
          go_wp2_with fail
          go_ret
          exact ⟨ret_bool (by simp [kindR]), HB.out⟩
        | true =>
          cases ve with
          | false =>
            go_wp2_with fail
            go_ret
            exact ⟨ret_bool (by simp [kindR]), HB.out⟩
          | true =>
            cases p0 with
            | false =>
              go_wp2_with fail
              go_ret
              exact ⟨ret_bool (by simp [kindR]), HB.out⟩
            | true =>
              cases w0 with
              | false =>
                go_wp2_with fail
                go_ret
                exact ⟨ret_bool (by simp [kindR]), HB.out⟩
              | true =>
                go_wp2_with fail
                go_ret
                exact ⟨ret_bool (by simp [kindR]), HB.out⟩
  rcases dd 2 with e2 | e2
  · obtain rfl := beq_iff_eq.1 e2; clear dd
    cases ok with
    | false =>
      go_wp2_with fail
      go_ret
      exact ⟨ret_bool (by simp [kindR]), HB.out⟩
    | true =>
      cases p0 with
      | false =>
        go_wp2_with fail
        go_ret
        exact ⟨ret_bool (by simp [kindR]), HB.out⟩
      | true =>
        cases w0 with
        | false =>
          go_wp2_with fail
          go_ret
          exact ⟨ret_bool (by simp [kindR]), HB.out⟩
        | true =>
          go_wp2_with fail
          go_ret
          exact ⟨ret_bool (by simp [kindR]), HB.out⟩
  rcases dd 3 with e3 | e3
  · obtain rfl := beq_iff_eq.1 e3; clear dd
    cases ok with
    | false =>
      go_wp2_with fail
      go_ret
      exact ⟨ret_bool (by simp [kindR]), HB.out⟩
    | true =>
      cases r0 with
      | false =>
        go_wp2_with fail
        go_ret
        exact ⟨ret_bool (by simp [kindR]), HB.out⟩
      | true =>
        cases ve with
        | false =>
          go_wp2_with fail
          go_ret
          exact ⟨ret_bool (by simp [kindR]), HB.out⟩
        | true =>
          cases p0 with
          | false =>
            go_wp2_with fail
            go_ret
            exact ⟨ret_bool (by simp [kindR]), HB.out⟩
          | true =>
            cases w0 with
            | false =>
              go_wp2_with fail
              go_ret
              exact ⟨ret_bool (by simp [kindR]), HB.out⟩
            | true =>
              go_wp2_with fail
              go_ret
              exact ⟨ret_bool (by simp [kindR]), HB.out⟩
  rcases dd 4 with e4 | e4
  · obtain rfl := beq_iff_eq.1 e4; clear dd
    cases ok with
    | false =>
      go_wp2_with fail
      go_ret
      exact ⟨ret_bool (by simp [kindR]), HB.out⟩
    | true =>
      cases ve with
      | false =>
        go_wp2_with fail
        go_ret
        exact ⟨ret_bool (by simp [kindR]), HB.out⟩
      | true =>
        cases p0 with
        | false =>
          go_wp2_with fail
          go_ret
          exact ⟨ret_bool (by simp [kindR]), HB.out⟩
        | true =>
          cases w0 with
          | false =>
            go_wp2_with fail
            go_ret
            exact ⟨ret_bool (by simp [kindR]), HB.out⟩
          | true =>
            go_wp2_with fail
            go_ret
            exact ⟨ret_bool (by simp [kindR]), HB.out⟩
  rcases dd 5 with e5 | e5
  · obtain rfl := beq_iff_eq.1 e5; clear dd
    cases ok with
    | false =>
      go_wp2_with fail
      go_ret
      exact ⟨ret_bool (by simp [kindR]), HB.out⟩
    | true =>
      cases r0 with
      | false =>
        go_wp2_with fail
        go_ret
        exact ⟨ret_bool (by simp [kindR]), HB.out⟩
      | true =>
        cases ke with
        | false =>
          go_wp2_with fail
          go_ret
          exact ⟨ret_bool (by simp [kindR]), HB.out⟩
        | true =>
          cases ve with
          | false =>
            go_wp2_with fail
            go_ret
            exact ⟨ret_bool (by simp [kindR]), HB.out⟩
          | true =>
            cases p0 with
            | false =>
              go_wp2_with fail
              go_ret
              exact ⟨ret_bool (by simp [kindR]), HB.out⟩
            | true =>
              cases w0 with
              | false =>
                go_wp2_with fail
                go_ret
                exact ⟨ret_bool (by simp [kindR]), HB.out⟩
              | true =>
                go_wp2_with fail
                go_ret
                exact ⟨ret_bool (by simp [kindR]), HB.out⟩
  rcases dd 6 with e6 | e6
  · obtain rfl := beq_iff_eq.1 e6; clear dd
    cases ok with
    | false =>
      go_wp2_with fail
      go_ret
      exact ⟨ret_bool (by simp [kindR]), HB.out⟩
    | true =>
      cases r0 with
      | false =>
        go_wp2_with fail
        go_ret
        exact ⟨ret_bool (by simp [kindR]), HB.out⟩
      | true =>
        cases ke with
        | false =>
          go_wp2_with fail
          go_ret
          exact ⟨ret_bool (by simp [kindR]), HB.out⟩
        | true =>
          cases ve with
          | false =>
            go_wp2_with fail
            go_ret
            exact ⟨ret_bool (by simp [kindR]), HB.out⟩
          | true =>
            go_wp2_with fail
            go_ret
            exact ⟨ret_bool (by simp [kindR]), HB.out⟩
  rcases dd 7 with e7 | e7
  · obtain rfl := beq_iff_eq.1 e7; clear dd
    cases ok with
    | false =>
      go_wp2_with fail
      go_ret
      exact ⟨ret_bool (by simp [kindR]), HB.out⟩
    | true =>
      cases l0 with
      | false =>
        go_wp2_with fail
        go_ret
        exact ⟨ret_bool (by simp [kindR]), HB.out⟩
      | true =>
        cases b0 with
        | false =>
          go_wp2_with fail
          go_ret
          exact ⟨ret_bool (by simp [kindR]), HB.out⟩
        | true =>
          cases r0 with
          | false =>
            go_wp2_with fail
            go_ret
            exact ⟨ret_bool (by simp [kindR]), HB.out⟩
          | true =>
            cases ke with
            | false =>
              go_wp2_with fail
              go_ret
              exact ⟨ret_bool (by simp [kindR]), HB.out⟩
            | true =>
              cases ve with
              | false =>
                go_wp2_with fail
                go_ret
                exact ⟨ret_bool (by simp [kindR]), HB.out⟩
              | true =>
                cases p0 with
                | false =>
                  go_wp2_with fail
                  go_ret
                  exact ⟨ret_bool (by simp [kindR]), HB.out⟩
                | true =>
                  cases w0 with
                  | false =>
                    go_wp2_with fail
                    go_ret
                    exact ⟨ret_bool (by simp [kindR]), HB.out⟩
                  | true =>
                    go_wp2_with fail
                    go_ret
                    exact ⟨ret_bool (by simp [kindR]), HB.out⟩
  have hkr : kindR k r0 ke ve p0 w0 l0 b0 = false := by
    rw [beq_eq_false_iff_ne] at e0 e1 e2 e3 e4 e5 e6 e7
    exact kindR_else e0 e1 e2 e3 e4 e5 e6 e7
  have HKR := Lib.hid hkr
  clear hkr dd
  go_wp2_with fail
  go_ret
  exact ⟨ret_bool (by rw [HKR.out, Bool.and_false]), HB.out⟩
end Go.Proofs.YtfdbolnifjpbhaaDoor
