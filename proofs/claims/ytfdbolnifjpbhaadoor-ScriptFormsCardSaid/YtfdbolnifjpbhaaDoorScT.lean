/- script: words that stand in a text: the walk. -/
import Derived.Test.YtfdbolnifjpbhaaDoorScS
namespace Go.Proofs.YtfdbolnifjpbhaaDoor
set_option linter.unusedVariables false
set_option linter.unusedSimpArgs false
open Go.RowKit

set_option maxRecDepth 100000 in
set_option maxHeartbeats 4000000 in
theorem word_w (B g : Nat) (s : ByteArray) (i : Nat) (lost : Bool) (w : World) (h : WkB w B g s i lost) (hs : s.size ≤ 140737488355328) (hi : i ≤ 900000000000000) :
    Calls Tryd.prog 39 #[.pointer (some ⟨g, 0, none⟩)] w fun e w' =>
      e = .returned (.string (wordG s (numW s 58) i lost).1) ∧ WkB w' B g s (wordG s (numW s 58) i lost).2.1 (wordG s (numW s 58) i lost).2.2 ∧ w.grownBy w' (some g) := by
  have HB := Lib.hid h
  have N0 := Lib.hid (fun (W : World) (hW : WkB W B g s i lost) => number_w B g s i lost 58 W hW hs (by omega))
  have hm5 := num_lt s i 5 (by decide)
  have hf0 : (numW s 58 i lost).2.1 ≤ i + 7 := by
    have := (cntD_le (rest s i) 5).1
    show i + _ + 1 ≤ i + 7
    omega
  obtain ⟨F, hF⟩ : ∃ F, wordG s (numW s 58) i lost = F := ⟨_, rfl⟩
  rw [hF]
  rw [wordG] at hF
  obtain ⟨m, hm⟩ : ∃ m, (numW s 58 i lost).1 = m := ⟨_, rfl⟩
  obtain ⟨j, hj⟩ : ∃ j, (numW s 58 i lost).2.1 = j := ⟨_, rfl⟩
  obtain ⟨l0, hl0⟩ : ∃ l, (numW s 58 i lost).2.2 = l := ⟨_, rfl⟩
  change (numW s 58 i lost).1 < _ at hm5
  rw [hj] at hf0
  rw [hm] at hm5
  rw [hm, hj, hl0] at N0 hF
  have hj9 : j ≤ 900000000000010 := by omega
  have hs9 : s.size ≤ 9223372036854775807 := by omega
  clear h hm hj hl0 hi hf0
  have w1e : wrap64 ((s.size : Int) - (j : Int)) = (s.size : Int) - (j : Int) := IntWalk.wrap64_in _ ⟨by omega, by omega⟩
  have FINB := Lib.hid (fun (W : World) (l : Bool) (hb : WkB W B g s j l) (hg : w.grownBy W (some g)) => show WkB (W.setCell ⟨g, 2, none⟩ (.bool true)) B g s j true ∧ w.grownBy (W.setCell ⟨g, 2, none⟩ (.bool true)) (some g) from ⟨(hb.stored 2 _).1, grown_set hg 2 _⟩)
  cases l0 with
  | true =>
    rw [Bool.true_or, if_pos rfl] at hF
    subst hF
    clear w1e
    go_enter Tryd.func39, Tryd.ntmps39
    go_wp2_with (go_at_call 37; refine (N0.out _ HB.out).mono ?_; rintro e w1 ⟨rfl, hb1, hg1⟩; have HB1 := Lib.hid hb1; have HG1 := Lib.hid hg1; have c0 := hb1.at' (j := 0) rfl; have c1 := hb1.at' (j := 1) rfl; have c2 := hb1.at' (j := 2) rfl; have fz2 := hb1.free (j := 2) (by decide); clear hb1 hg1)
    go_quiet (fail)
    have HB2 := Lib.hid (show WkB (w1.drewN nq) B g s j true from Own.drewK HB1.out nq)
    have HG2 := Lib.hid (grown_drew HG1.out nq)
    clear c0 c1 c2 fz2
    generalize w1.drewN nq = W2 at HB2 HG2 ⊢
    have fz2 := HB2.out.free (j := 2) (by decide)
    have c2 := HB2.out.at' (j := 2) rfl
    repeat go_step
    go_ret
    exact ⟨rfl, FINB.out _ _ HB2.out HG2.out⟩
  | false =>
    rw [Bool.false_or] at hF
    cases hd : decide (s.size < j + m) with
    | true =>
      rw [hd, if_pos rfl] at hF
      subst hF
      have hlt := of_decide_eq_true hd
      have d1 : decide ((s.size : Int) - (j : Int) < (m : Int)) = true := decide_eq_true (by omega)
      clear hd hlt
      go_enter Tryd.func39, Tryd.ntmps39
      go_wp2_with (go_at_call 37; refine (N0.out _ HB.out).mono ?_; rintro e w1 ⟨rfl, hb1, hg1⟩; have HB1 := Lib.hid hb1; have HG1 := Lib.hid hg1; have c0 := hb1.at' (j := 0) rfl; have c1 := hb1.at' (j := 1) rfl; have c2 := hb1.at' (j := 2) rfl; have fz2 := hb1.free (j := 2) (by decide); clear hb1 hg1)
      go_quiet (fail)
      have HB2 := Lib.hid (show WkB (w1.drewN nq) B g s j false from Own.drewK HB1.out nq)
      have HG2 := Lib.hid (grown_drew HG1.out nq)
      clear c0 c1 c2 fz2 d1 w1e
      generalize w1.drewN nq = W2 at HB2 HG2 ⊢
      have fz2 := HB2.out.free (j := 2) (by decide)
      have c2 := HB2.out.at' (j := 2) rfl
      repeat go_step
      go_ret
      exact ⟨rfl, FINB.out _ _ HB2.out HG2.out⟩
    | false =>
      rw [hd, if_neg (by decide)] at hF
      subst hF
      have hlt := of_decide_eq_false hd
      have d1 : decide ((s.size : Int) - (j : Int) < (m : Int)) = false := decide_eq_false (by omega)
      obtain ⟨tt, htt⟩ : ∃ t, j + m = t := ⟨_, rfl⟩
      rw [htt]
      have w2e : wrap64 ((j : Int) + (m : Int)) = (j : Int) + (m : Int) := IntWalk.wrap64_in _ ⟨by omega, by omega⟩
      have hjm : (j : Int) + (m : Int) = (tt : Int) := by omega
      have w3e : wrap64 ((tt : Int) - (m : Int)) = (j : Int) := by rw [show (tt : Int) - (m : Int) = (j : Int) by omega]; exact IntWalk.wrap64_in _ ⟨by omega, by omega⟩
      have w4e : (tt : Int) - (m : Int) = (j : Int) := by omega
      have HTT := Lib.hid htt
      have HJM := Lib.hid hjm
      have hle1 : j ≤ tt := by omega
      have hle2 : tt ≤ s.size := by omega
      clear hd hlt htt hjm
      go_enter Tryd.func39, Tryd.ntmps39
      go_wp2_with (go_at_call 37; refine (N0.out _ HB.out).mono ?_; rintro e w1 ⟨rfl, hb1, hg1⟩; have HB1 := Lib.hid hb1; have HG1 := Lib.hid hg1; have c0 := hb1.at' (j := 0) rfl; have c1 := hb1.at' (j := 1) rfl; have c2 := hb1.at' (j := 2) rfl; have fz1 := hb1.free (j := 1) (by decide); clear hb1 hg1)
      go_quiet (fail)
      have HB2 := Lib.hid (show WkB (w1.drewN nq) B g s j false from Own.drewK HB1.out nq)
      have HG2 := Lib.hid (grown_drew HG1.out nq)
      clear c0 c1 c2 fz1 d1 w1e
      generalize w1.drewN nq = W2 at HB2 HG2 ⊢
      have fz1 := HB2.out.free (j := 1) (by decide)
      have c1 := HB2.out.at' (j := 1) rfl
      go_wp2_with fail
      rw [HJM.out]
      have HB3 := Lib.hid (show WkB (W2.setCell ⟨g, 1, none⟩ (.int .i64 (tt : Int))) B g s tt false from (HB2.out.stored 1 _).1)
      have HG3 := Lib.hid (grown_set HG2.out 1 (.int .i64 (tt : Int)))
      clear c1 fz1 w2e
      generalize W2.setCell ⟨g, 1, none⟩ (.int .i64 (tt : Int)) = W3 at HB3 HG3 ⊢
      have c0 := HB3.out.at' (j := 0) rfl
      have c1 := HB3.out.at' (j := 1) rfl
      go_quiet (fail)
      go_wp2_with fail
      go_ret
      exact ⟨by rw [cutB, HTT.out]; rfl, Own.drewK HB3.out _, grown_drew HG3.out _⟩
end Go.Proofs.YtfdbolnifjpbhaaDoor
