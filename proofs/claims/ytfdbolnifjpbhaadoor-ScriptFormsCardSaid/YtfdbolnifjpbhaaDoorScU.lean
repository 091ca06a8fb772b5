/- The document's taker: rows and texts (printed by gen_scu.py). -/
import Derived.Test.YtfdbolnifjpbhaaDoorScS
import Derived.Test.YtfdbolnifjpbhaaDoorScQ
namespace Go.Proofs.YtfdbolnifjpbhaaDoor
set_option linter.unusedVariables false
set_option linter.unusedSimpArgs false
open Go.RowKit

theorem num_t (B g : Nat) (s : ByteArray) (i : Nat) (lost : Bool) (w : World) (h : TkB w B g s i lost) (hs : s.size ≤ 140737488355328) (hi : i ≤ 1000000000000000) :
    Calls Tryd.prog 25 #[.pointer (some ⟨g, 0, none⟩)] w fun e w' =>
      e = .returned (.int .i64 ((numT s i lost).1 : Int)) ∧ TkB w' B g s (numT s i lost).2.1 (numT s i lost).2.2 ∧ w.grownBy w' (some g) :=
  num_tk B g s i lost w h hs hi
/-- What stands on the way through a row. -/
structure RowJ (w : World) (B g : Nat) (s : ByteArray) (ys : List Int) (v : Value) (j : Nat) (l : Bool) (W : World) : Prop where
  own : Own W w.heap.size 3 1 v ys.length (nums ys)
  box : TkB W B g s j l
  gr : w.grownBy W (some g)
theorem RowJ.alloc {w : World} {B g : Nat} {s : ByteArray} {ys : List Int} {v : Value} {j : Nat} {l : Bool} {W : World} (h : RowJ w B g s ys v j l W) (o : Obj) : RowJ w B g s ys v j l (W.alloc o) :=
  ⟨h.own.alloc o, Own.alloc h.box o, grown_alloc h.gr o⟩
theorem RowJ.box' {w : World} {B g : Nat} {s : ByteArray} {ys : List Int} {v : Value} {j j' : Nat} {l l' : Bool} {W W' : World} (h : RowJ w B g s ys v j l W) (hb : TkB W' B g s j' l') (hg : W.grownBy W' (some g)) : RowJ w B g s ys v j' l' W' :=
  ⟨h.own.kept hg (Own.neS (by decide) h.own h.box), hb, h.gr.trans hg⟩
theorem RowJ.app {w : World} {B g : Nat} {s : ByteArray} {ys : List Int} {v v' : Value} {j : Nat} {l : Bool} {W W' : World} (h : RowJ w B g s ys v j l W) (x : Int) (ho : Own W' w.heap.size 3 1 v' (ys.length + 1) (nums ys ++ [.int .i64 x])) (hg : W.grownBy W' v.ownBlock) : RowJ w B g s (ys ++ [x]) v' j l W' :=
  ⟨by rw [nums_append, List.length_append]; exact ho, Own.kept h.box hg (Own.neS (by decide) h.box h.own), grown_own h.gr h.own hg⟩
set_option maxRecDepth 100000 in
set_option maxHeartbeats 4000000 in
theorem row_t (B g : Nat) (s : ByteArray) (i : Nat) (lost : Bool) (w : World) (h : TkB w B g s i lost) (hs : s.size ≤ 140737488355328) (hi : i ≤ 900000000000000) :
    Calls Tryd.prog 26 #[.pointer (some ⟨g, 0, none⟩)] w fun e w' =>
      ∃ v, e = .returned v ∧ RowJ w B g s (rowT s i lost).1 v (rowT s i lost).2.1 (rowT s i lost).2.2 w' := by
  have HB := Lib.hid h
  have N0 := Lib.hid (fun (W : World) (hW : TkB W B g s i lost) => num_t B g s i lost W hW hs (by omega))
  have NX := Lib.hid (fun (j : Nat) (W : World) (hj : j ≤ 900000010000000) (hb : TkB W B g s j false) => num_t B g s j false W hb hs (by omega))
  have FAR := Lib.hid (fun (j : Nat) (l : Bool) => show (numT s j l).2.1 ≤ j + 7 from ((takeR_far s).num j l).2)
  have hm5 : (numT s i lost).1 < 1000000 := num_lt s i 6 (by decide)
  have hf0 : (numT s i lost).2.1 ≤ i + 7 := ((takeR_far s).num i lost).2
  obtain ⟨F, hF⟩ : ∃ F, rowT s i lost = F := ⟨_, rfl⟩
  rw [hF]
  rw [rowT] at hF
  obtain ⟨m, hm⟩ : ∃ m, (numT s i lost).1 = m := ⟨_, rfl⟩
  obtain ⟨j0, hj0⟩ : ∃ j, (numT s i lost).2.1 = j := ⟨_, rfl⟩
  obtain ⟨l0, hl0⟩ : ∃ l, (numT s i lost).2.2 = l := ⟨_, rfl⟩
  rw [hj0] at hf0
  rw [hm] at hm5
  rw [hm, hj0, hl0] at N0 hF
  have HF := Lib.hid hF
  have HJ0 := Lib.hid (show j0 ≤ i + 7 from hf0)
  have HI := Lib.hid hi
  obtain ⟨q, hq⟩ : ∃ q, min m 17 = q := ⟨_, rfl⟩
  have HQ := Lib.hid hq
  have hqm : q ≤ m := by omega
  have hq17 : q ≤ 17 := by omega
  clear h hF hf0 hm hj0 hl0 hi hs hq
  go_enter Tryd.func26, Tryd.ntmps26
  go_wp2_with (go_at_call 25; refine (N0.out _ HB.out).mono ?_; rintro e w1 ⟨rfl, hb1, hg1⟩; have HB1 := Lib.hid hb1; have HG1 := Lib.hid hg1; clear hb1 hg1)
  have I1 := Lib.hid (show RowJ w B g s [] (.slice none 0 0) j0 l0 w1 from ⟨Own.nil _ _ _ _, HB1.out, HG1.out⟩)
  have HF1 := Lib.hid (show (([] : List Int) ++ (numsG (numT s) (q - 0) j0 l0).1, (numsG (numT s) (q - 0) j0 l0).2) = F from by rw [← HF.out, HQ.out]; rfl)
  go_loopw [3, 5] (fun v3 v5 wr => ∃ (ys : List Int) (j : Nat) (l : Bool), v5 = .int .i64 (ys.length : Int) ∧ RowJ w B g s ys v3 j l wr ∧ ys.length ≤ q ∧ j ≤ i + 7 + 7 * ys.length ∧ (ys ++ (numsG (numT s) (q - ys.length) j l).1, (numsG (numT s) (q - ys.length) j l).2) = F) (fun v3 v5 wr => q - (intOf v5).toNat)
  case atStart => exact ⟨[], j0, l0, rfl, I1.out, Nat.zero_le _, HJ0.out, HF1.out⟩
  case round =>
    obtain ⟨ys, j, l, rfl, hI, hle, hj, hFy⟩ := hrel
    obtain ⟨A, c, rfl⟩ := hI.own.slice
    obtain ⟨n, hn⟩ : ∃ n, ys.length = n := ⟨_, rfl⟩
    have HN := Lib.hid hn
    have HR := Lib.hid hI
    have c2 := hI.box.at' (j := 2) rfl
    clear hI I1
    by_cases hc : n < q ∧ l = false
    · obtain ⟨hlt, rfl⟩ := hc
      have hq2 := HQ.out
      have d1 : decide ((n : Int) < (m : Int)) = true := decide_eq_true (by omega)
      have d2 : decide (n < m) = true := decide_eq_true (by omega)
      have d3 : decide ((n : Int) ≤ 16) = true := decide_eq_true (by omega)
      have d4 : decide (n ≤ 16) = true := decide_eq_true (by omega)
      have HFy := Lib.hid ((numsG_go (num := numT s) (m := q) (ys := ys) (j := j) (by rw [hn]; exact hlt)).symm.trans hFy)
      have hfar := FAR.out j false
      have hj9 : j ≤ 900000010000000 := by have := HI.out; omega
      have NN := Lib.hid (fun (W : World) (hb : TkB W B g s j false) => NX.out j W hj9 hb)
      obtain ⟨x, hx⟩ : ∃ x, (numT s j false).1 = x := ⟨_, rfl⟩
      obtain ⟨j', hj'⟩ : ∃ x, (numT s j false).2.1 = x := ⟨_, rfl⟩
      obtain ⟨l', hl'⟩ : ∃ x, (numT s j false).2.2 = x := ⟨_, rfl⟩
      rw [hx, hj', hl'] at NN HFy
      rw [hj'] at hfar
      have HJ' := Lib.hid (show j' ≤ i + 7 + 7 * (n + 1) from by omega)
      have HLE := Lib.hid (show n + 1 ≤ q from hlt)
      have hbytes : (n + 1) * 8 ≤ 140737488355328 := by omega
      have w6 : wrap64 ((n : Int) + 1) = (n : Int) + 1 := IntWalk.wrap64_in _ ⟨by omega, by omega⟩
      have HM := Lib.hid (show q - (intOf (Value.int IntKind.i64 ((n : Int) + 1))).toNat < q - (intOf (Value.int IntKind.i64 (n : Int))).toNat from by
        show q - ((n : Int) + 1).toNat < q - (n : Int).toNat
        clear w6 d1 d2 d3 d4
        omega)
      have HV := Lib.hid (show Value.int IntKind.i64 ((n : Int) + 1) = Value.int IntKind.i64 ((n + 1 : Nat) : Int) from rfl)
      rw [hn]
      clear hfar hj9 hx hj' hl' hj hle hFy hlt hn hqm hq17 w6 hq2
      go_wp2_with (first
        | (at_builtin; refine appO w.heap.size rfl (.tmp 24) (.tmp 27) 36 3 (.int .i64 0) 1 8 rfl Tryd.underlying36 infoInt rfl (by decide) (by decide) (.slice A n c) n (nums ys) rfl (some ⟨w2.heap.size, 0, none⟩) 1 1 [.int .i64 (x : Int)] rfl rfl (one1 rfl) (fun h => by cases h) (box1 (one_at w2 (.int .i64 (x : Int)) _)) O2.out GS.out hbytes ?_; intro v3 w3 ho hgw ha; have I3 := Lib.hid ((I2.out.alloc (Obj.cells #[.int .i64 (x : Int)] 3)).app (x : Int) (by rw [HN.out]; exact ho) (by rw [HN.out]; exact hgw)); obtain ⟨A3, c3, rfl⟩ := ho.slice; clear ho hgw ha)
        | (go_at_call 25; refine (NN.out _ HR.out.box).mono ?_; rintro e w2 ⟨rfl, hb2, hg2⟩; have I2 := Lib.hid (HR.out.box' hb2 hg2); have O2 := Lib.hid (show Own (w2.alloc (Obj.cells #[.int .i64 (x : Int)] 3)) w.heap.size 3 1 (.slice A n c) n (nums ys) from by have h := (I2.out.alloc (Obj.cells #[.int .i64 (x : Int)] 3)).own; rw [HN.out] at h; exact h); have GS := Lib.hid (show w.heap.size ≤ (w2.alloc (Obj.cells #[.int .i64 (x : Int)] 3)).heap.size from (I2.out.alloc _).gr.size); clear hb2 hg2))
      go_roundw
      case rel => exact ⟨ys ++ [(x : Int)], j', l', by rw [List.length_append, List.length_singleton, HN.out]; exact HV.out, I3.out, by rw [List.length_append, List.length_singleton, HN.out]; exact HLE.out, by rw [List.length_append, List.length_singleton, HN.out]; exact HJ'.out, HFy.out⟩
      case measure => exact HM.out
    · have hE := (numsG_end (num := numT s) (m := q) (ys := ys) (j := j) (l := l) (by
        by_cases h1 : n < q
        · cases l with
          | true => exact .inr rfl
          | false => exact absurd ⟨h1, rfl⟩ hc
        · exact .inl (by rw [hn]; exact h1))).symm.trans hFy
      have HE := Lib.hid hE
      have hq2 := HQ.out
      have hcase : decide ((n : Int) < (m : Int)) = false ∧ decide (n < m) = false ∨ (decide ((n : Int) < (m : Int)) = true ∧ decide (n < m) = true) ∧ (decide ((n : Int) ≤ 16) = false ∧ decide (n ≤ 16) = false ∨ (decide ((n : Int) ≤ 16) = true ∧ decide (n ≤ 16) = true) ∧ l = true) := by
        by_cases h1 : n < m
        · by_cases h2 : n ≤ 16
          · refine .inr ⟨⟨decide_eq_true (by omega), decide_eq_true h1⟩, .inr ⟨⟨decide_eq_true (by omega), decide_eq_true h2⟩, ?_⟩⟩
            cases l with
            | true => rfl
            | false => exact absurd ⟨by omega, rfl⟩ hc
          · exact .inr ⟨⟨decide_eq_true (by omega), decide_eq_true h1⟩, .inl ⟨decide_eq_false (by omega), decide_eq_false h2⟩⟩
        · exact .inl ⟨decide_eq_false (by omega), decide_eq_false h1⟩
      rw [hn]
      clear hE hFy hj hle hn hc hqm hq17 hq2
      rcases hcase with ⟨d1, d2⟩ | ⟨⟨d1, d2⟩, ⟨d3, d4⟩ | ⟨⟨d3, d4⟩, rfl⟩⟩
      all_goals
        go_wp2_with fail
        go_ret
        rw [← HE.out]
        exact ⟨_, rfl, by have h := HR.out; rw [HN.out] at h; exact h⟩
set_option maxRecDepth 100000 in
set_option maxHeartbeats 4000000 in
theorem str_t (B g : Nat) (s : ByteArray) (i : Nat) (lost : Bool) (w : World) (h : TkB w B g s i lost) (hs : s.size ≤ 140737488355328) (hi : i ≤ 900000000000000) :
    Calls Tryd.prog 27 #[.pointer (some ⟨g, 0, none⟩)] w fun e w' =>
      e = .returned (.string (wordG s (numT s) i lost).1) ∧ TkB w' B g s (wordG s (numT s) i lost).2.1 (wordG s (numT s) i lost).2.2 ∧ w.grownBy w' (some g) := by
  have HB := Lib.hid h
  have N0 := Lib.hid (fun (W : World) (hW : TkB W B g s i lost) => num_t B g s i lost W hW hs (by omega))
  have hm5 := num_lt s i 6 (by decide)
  have hf0 : (numT s i lost).2.1 ≤ i + 7 := by
    have := (cntD_le (rest s i) 6).1
    show i + _ + 1 ≤ i + 7
    omega
  obtain ⟨F, hF⟩ : ∃ F, wordG s (numT s) i lost = F := ⟨_, rfl⟩
  rw [hF]
  rw [wordG] at hF
  obtain ⟨m, hm⟩ : ∃ m, (numT s i lost).1 = m := ⟨_, rfl⟩
  obtain ⟨j, hj⟩ : ∃ j, (numT s i lost).2.1 = j := ⟨_, rfl⟩
  obtain ⟨l0, hl0⟩ : ∃ l, (numT s i lost).2.2 = l := ⟨_, rfl⟩
  change (numT s i lost).1 < _ at hm5
  rw [hj] at hf0
  rw [hm] at hm5
  rw [hm, hj, hl0] at N0 hF
  have hj9 : j ≤ 900000000000010 := by omega
  have hs9 : s.size ≤ 9223372036854775807 := by omega
  clear h hm hj hl0 hi hf0
  have w1e : wrap64 ((s.size : Int) - (j : Int)) = (s.size : Int) - (j : Int) := IntWalk.wrap64_in _ ⟨by omega, by omega⟩
  have FINB := Lib.hid (fun (W : World) (l : Bool) (hb : TkB W B g s j l) (hg : w.grownBy W (some g)) => show TkB (W.setCell ⟨g, 2, none⟩ (.bool true)) B g s j true ∧ w.grownBy (W.setCell ⟨g, 2, none⟩ (.bool true)) (some g) from ⟨(hb.stored 2 _).1, grown_set hg 2 _⟩)
  cases l0 with
  | true =>
    rw [Bool.true_or, if_pos rfl] at hF
    subst hF
    clear w1e
    go_enter Tryd.func27, Tryd.ntmps27
    go_wp2_with (go_at_call 25; refine (N0.out _ HB.out).mono ?_; rintro e w1 ⟨rfl, hb1, hg1⟩; have HB1 := Lib.hid hb1; have HG1 := Lib.hid hg1; have c0 := hb1.at' (j := 0) rfl; have c1 := hb1.at' (j := 1) rfl; have c2 := hb1.at' (j := 2) rfl; have fz2 := hb1.free (j := 2) (by decide); clear hb1 hg1)
    go_quiet (fail)
    have HB2 := Lib.hid (show TkB (w1.drewN nq) B g s j true from Own.drewK HB1.out nq)
    have HG2 := Lib.hid (grown_drew HG1.out nq)
    clear c0 c1 c2 fz2
    generalize w1.drewN nq = W2 at HB2 HG2 ⊢
    have fz2 := HB2.out.free (j := 2) (by decide)
    have c2 := HB2.out.at' (j := 2) rfl
    repeat go_step
    go_ret
    exact ⟨rfl, FINB.out _ _ HB2.out HG2.out⟩
  | false =>
    rw [Bool.false_or] at hF
    cases hd : decide (s.size < j + m) with
    | true =>
      rw [hd, if_pos rfl] at hF
      subst hF
      have hlt := of_decide_eq_true hd
      have d1 : decide ((s.size : Int) - (j : Int) < (m : Int)) = true := decide_eq_true (by omega)
      clear hd hlt
      go_enter Tryd.func27, Tryd.ntmps27
      go_wp2_with (go_at_call 25; refine (N0.out _ HB.out).mono ?_; rintro e w1 ⟨rfl, hb1, hg1⟩; have HB1 := Lib.hid hb1; have HG1 := Lib.hid hg1; have c0 := hb1.at' (j := 0) rfl; have c1 := hb1.at' (j := 1) rfl; have c2 := hb1.at' (j := 2) rfl; have fz2 := hb1.free (j := 2) (by decide); clear hb1 hg1)
      go_quiet (fail)
      have HB2 := Lib.hid (show TkB (w1.drewN nq) B g s j false from Own.drewK HB1.out nq)
      have HG2 := Lib.hid (grown_drew HG1.out nq)
      clear c0 c1 c2 fz2 d1 w1e
      generalize w1.drewN nq = W2 at HB2 HG2 ⊢
      have fz2 := HB2.out.free (j := 2) (by decide)
      have c2 := HB2.out.at' (j := 2) rfl
      repeat go_step
      go_ret
      exact ⟨rfl, FINB.out _ _ HB2.out HG2.out⟩
    | false =>
      rw [hd, if_neg (by decide)] at hF
      subst hF
      have hlt := of_decide_eq_false hd
      have d1 : decide ((s.size : Int) - (j : Int) < (m : Int)) = false := decide_eq_false (by omega)
      obtain ⟨tt, htt⟩ : ∃ t, j + m = t := ⟨_, rfl⟩
      rw [htt]
      have w2e : wrap64 ((j : Int) + (m : Int)) = (j : Int) + (m : Int) := IntWalk.wrap64_in _ ⟨by omega, by omega⟩
      have hjm : (j : Int) + (m : Int) = (tt : Int) := by omega
      have w3e : wrap64 ((tt : Int) - (m : Int)) = (j : Int) := by rw [show (tt : Int) - (m : Int) = (j : Int) by omega]; exact IntWalk.wrap64_in _ ⟨by omega, by omega⟩
      have w4e : (tt : Int) - (m : Int) = (j : Int) := by omega
      have HTT := Lib.hid htt
      have HJM := Lib.hid hjm
      have hle1 : j ≤ tt := by omega
      have hle2 : tt ≤ s.size := by omega
      clear hd hlt htt hjm
      go_enter Tryd.func27, Tryd.ntmps27
      go_wp2_with (go_at_call 25; refine (N0.out _ HB.out).mono ?_; rintro e w1 ⟨rfl, hb1, hg1⟩; have HB1 := Lib.hid hb1; have HG1 := Lib.hid hg1; have c0 := hb1.at' (j := 0) rfl; have c1 := hb1.at' (j := 1) rfl; have c2 := hb1.at' (j := 2) rfl; have fz1 := hb1.free (j := 1) (by decide); clear hb1 hg1)
      go_quiet (fail)
      have HB2 := Lib.hid (show TkB (w1.drewN nq) B g s j false from Own.drewK HB1.out nq)
      have HG2 := Lib.hid (grown_drew HG1.out nq)
      clear c0 c1 c2 fz1 d1 w1e
      generalize w1.drewN nq = W2 at HB2 HG2 ⊢
      have fz1 := HB2.out.free (j := 1) (by decide)
      have c1 := HB2.out.at' (j := 1) rfl
      go_wp2_with fail
      rw [HJM.out]
      have HB3 := Lib.hid (show TkB (W2.setCell ⟨g, 1, none⟩ (.int .i64 (tt : Int))) B g s tt false from (HB2.out.stored 1 _).1)
      have HG3 := Lib.hid (grown_set HG2.out 1 (.int .i64 (tt : Int)))
      clear c1 fz1 w2e
      generalize W2.setCell ⟨g, 1, none⟩ (.int .i64 (tt : Int)) = W3 at HB3 HG3 ⊢
      have c0 := HB3.out.at' (j := 0) rfl
      have c1 := HB3.out.at' (j := 1) rfl
      go_quiet (fail)
      go_wp2_with fail
      go_ret
      exact ⟨by rw [cutB, HTT.out]; rfl, Own.drewK HB3.out _, grown_drew HG3.out _⟩
end Go.Proofs.YtfdbolnifjpbhaaDoor
