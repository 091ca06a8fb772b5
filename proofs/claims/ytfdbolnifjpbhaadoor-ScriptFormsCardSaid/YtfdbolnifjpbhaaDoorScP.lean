/- script: a number that stands in a text. -/
import Derived.Test.YtfdbolnifjpbhaaDoorScO
namespace Go.Proofs.YtfdbolnifjpbhaaDoor
set_option linter.unusedVariables false
set_option linter.unusedSimpArgs false
open Go.RowKit

/-- The walk's box: the text, the place, whether it is lost. -/
def WkB (W : World) (B g : Nat) (s : ByteArray) (i : Nat) (lost : Bool) : Prop := Own W B 54 1 (.slice (some ⟨g, 0, none⟩) 3 3) 3 [.string s, .int .i64 (i : Int), .bool lost]
theorem Own.drewK {W : World} {B n : Nat} {e : TypeId} {size : Nat} {v : Value} {xs : List Value} (h : Own W B e size v n xs) (q : Nat) : Own (W.drewN q) B e size v n xs := h
theorem grown_drew {w W : World} {r : Option Nat} (h : w.grownBy W r) (q : Nat) : w.grownBy (W.drewN q) r := ⟨h.os, h.tape, h.output, h.size, h.block⟩
theorem grown_set {w W : World} {g : Nat} (h : w.grownBy W (some g)) (j : Nat) (u : Value) : w.grownBy (W.setCell ⟨g, j, none⟩ u) (some g) :=
  ⟨h.os, h.tape, h.output, by have := h.size; simpa using this, fun k hk hne => by rw [heap_setCell_other W ⟨g, j, none⟩ k u (fun e => hne (by rw [e]))]; exact h.block k hk hne⟩
theorem ret_num {a b : Nat} (h : a = b) : Ending.returned (.int .i64 (a : Int)) = Ending.returned (.int .i64 (b : Int)) := by rw [h]
def atOf : Option Value → Nat
  | some (.int _ z) => z.toNat
  | _ => 0
theorem dig_cond {c : UInt8} : isDig c = (decide ((48 : Int) ≤ (c.toNat : Int)) && decide ((c.toNat : Int) ≤ 57)) := by
  unfold isDig
  rw [Bool.eq_iff_iff]
  simp only [decide_eq_true_eq, Bool.and_eq_true]
  omega
set_option maxRecDepth 100000 in
set_option maxHeartbeats 4000000 in
theorem number_any (B g : Nat) (s : ByteArray) (i : Nat) (lost : Bool) (sign : UInt8) (w : World) (h : WkB w B g s i lost) (hs : s.size ≤ 140737488355328) (hi : i ≤ 1000000000000000) :
    Calls Tryd.prog 37 #[.pointer (some ⟨g, 0, none⟩), .int .u8 (sign.toNat : Int)] w fun e w' =>
      e = .returned (.int .i64 (valD ((rest s i).take (cntD (rest s i) 5)) 0 : Int)) ∧ WkB w' B g s (i + cntD (rest s i) 5 + 1) (lost || cntD (rest s i) 5 == 0 || nextB s (i + cntD (rest s i) 5) != sign) ∧ w.grownBy w' (some g) := by
  have HB := Lib.hid h
  obtain ⟨l, hl⟩ : ∃ l, rest s i = l := ⟨_, rfl⟩
  rw [hl]
  obtain ⟨n, hn⟩ : ∃ n, cntD l 5 = n := ⟨_, rfl⟩
  rw [hn]
  have CIN := Lib.hid (fun (k : Nat) (hk : k < n) => show nextB s (i + k) = l.getD k 0 ∧ k < 5 ∧ k < l.length ∧ isDig (l.getD k 0) = true from by
    obtain ⟨h1, h2, h3⟩ := cntD_in l 5 k (by rw [hn]; exact hk)
    exact ⟨by rw [rest_getD s i k (by rw [hl]; exact h1), hl], h2, h1, h3⟩)
  have COUT := Lib.hid (show n = 5 ∨ isDig (nextB s (i + n)) = false from by
    rcases cntD_out l 5 with h | h | h
    · exact .inl (by rw [← hn]; exact h)
    · refine .inr ?_
      rw [rest_end s i n (by rw [hl, ← hn, h]; exact Nat.le_refl _)]
      decide
    · rw [hn] at h
      by_cases hlt : n < l.length
      · exact .inr (by rw [rest_getD s i n (by rw [hl]; exact hlt), hl]; exact h)
      · refine .inr ?_
        rw [rest_end s i n (by rw [hl]; omega)]
        decide)
  have HN5 := Lib.hid (show n ≤ 5 from by rw [← hn]; exact (cntD_le l 5).1)
  have VAL := Lib.hid (fun (k : Nat) (hk : k ≤ n) => show valD (l.take k) 0 < 100000 from by
    have h5 : n ≤ 5 := by rw [← hn]; exact (cntD_le l 5).1
    have h1 := valD_lt (l.take k) 0 (fun c hc => by
      obtain ⟨j, hj, rfl⟩ := List.getElem_of_mem hc
      rw [List.length_take] at hj
      have h3 := (cntD_in l 5 j (by rw [hn]; omega)).2.2
      rw [List.getElem_take]
      rwa [List.getD_eq_getElem?_getD, List.getElem?_eq_getElem (by omega), Option.getD_some] at h3)
    have h2 : (l.take k).length ≤ 5 := by rw [List.length_take]; omega
    have h3 : (10 : Nat) ^ (l.take k).length ≤ 10 ^ 5 := Nat.pow_le_pow_right (by decide) h2
    omega)
  have VST := Lib.hid (fun (k : Nat) (hk : k < n) => show valD (l.take (k + 1)) 0 = 10 * valD (l.take k) 0 + ((l.getD k 0).toNat - 48) from by
    have h1 := (cntD_in l 5 k (by rw [hn]; exact hk)).1
    rw [List.take_succ_eq_append_getElem h1, valD_app, List.getD_eq_getElem?_getD, List.getElem?_eq_getElem h1, Option.getD_some]
    rfl)
  clear h hl hn
  have NX := Lib.hid (fun (j : Nat) (W : World) (hb : Own W B 54 1 (.slice (some ⟨g, 0, none⟩) 3 3) 3 [.string s, .int .i64 (j : Int), .bool lost]) => next_any g s j W (hb.at' (j := 0) rfl) (hb.at' (j := 1) rfl) (by omega))
  have c1 := HB.out.at' (j := 1) rfl
  go_enter Tryd.func37, Tryd.ntmps37
  go_wp2_with fail
  go_quiet (fail)
  go_wp2_with (go_at_call 36; refine (NX.out i _ (Own.drewK HB.out _)).mono ?_; rintro e w1 ⟨rfl, q1, rfl⟩)
  clear c1
  go_loopw [5, 7] (fun v5 v7 wr => ∃ k : Nat, k ≤ n ∧ v5 = .int .i64 (valD (l.take k) 0 : Int) ∧ v7 = .int .u8 ((nextB s (i + k)).toNat : Int) ∧ WkB wr B g s (i + k) lost ∧ w.grownBy wr (some g)) (fun v5 v7 wr => n + i - atOf (wr.cell? ⟨g, 1, none⟩))
  case atStart => exact ⟨0, by omega, by rfl, by rfl, HB.out, ⟨rfl, rfl, rfl, Nat.le_refl _, fun k _ _ => rfl⟩⟩
  case round =>
    obtain ⟨k, hk, rfl, rfl, hb, hg⟩ := hrel
    have HB2 := Lib.hid hb
    have HG2 := Lib.hid hg
    clear hb hg
    obtain ⟨j, hj⟩ : ∃ j, i + k = j := ⟨_, rfl⟩
    obtain ⟨x, hx⟩ : ∃ x, valD (l.take k) 0 = x := ⟨_, rfl⟩
    have hx5 := VAL.out k hk
    have HJ := Lib.hid hj
    have HX := Lib.hid hx
    rw [hx] at hx5 ⊢
    rw [hj] at HB2 ⊢
    by_cases hlt : k < n
    · obtain ⟨e1, e2, e3, e4⟩ := CIN.out k hlt
      rw [hj] at e1
      rw [e1]
      have hst := VST.out k hlt
      rw [hx] at hst
      obtain ⟨c, hc⟩ : ∃ c, l.getD k 0 = c := ⟨_, rfl⟩
      rw [hc] at e1 e4 hst ⊢
      rw [dig_cond, Bool.and_eq_true] at e4
      obtain ⟨d1, d2⟩ := e4
      have f1 := of_decide_eq_true d1
      have f2 := of_decide_eq_true d2
      have hsub : wrap64 ((j : Int) - (i : Int)) = (k : Int) := by rw [show (j : Int) - (i : Int) = (k : Int) by omega]; exact IntWalk.wrap64_in _ ⟨by omega, by omega⟩
      have d3 : decide ((k : Int) < 5) = true := decide_eq_true (by omega)
      have m1 : wrap64 (10 * (x : Int)) = 10 * (x : Int) := IntWalk.wrap64_in _ ⟨by omega, by omega⟩
      have m2 : IntKind.u8.wrap ((c.toNat : Int) - 48) = (c.toNat : Int) - 48 := by
        simp only [IntKind.wrap, IntKind.signed, IntKind.bits]
        exact Int.emod_eq_of_lt (by omega) (by omega)
      have m3 : wrap64 (10 * (x : Int) + ((c.toNat : Int) - 48)) = 10 * (x : Int) + ((c.toNat : Int) - 48) := IntWalk.wrap64_in _ ⟨by omega, by omega⟩
      have m4 : wrap64 ((c.toNat : Int) - 48) = (c.toNat : Int) - 48 := IntWalk.wrap64_in _ ⟨by omega, by omega⟩
      have m5 : wrap64 ((j : Int) + 1) = (j : Int) + 1 := IntWalk.wrap64_in _ ⟨by omega, by omega⟩
      have c1 := HB2.out.at' (j := 1) rfl
      have fz := HB2.out.free (j := 1) (by decide)
      have ST := Lib.hid (show Own (wr.setCell ⟨g, 1, none⟩ (.int .i64 ((j : Int) + 1))) B 54 1 (.slice (some ⟨g, 0, none⟩) 3 3) 3 [.string s, .int .i64 ((j + 1 : Nat) : Int), .bool lost] from (HB2.out.stored 1 _).1)
      have HLT := Lib.hid hlt
      have HST := Lib.hid hst
      have HF := Lib.hid (And.intro f1 f2)
      clear hst e1 e2 e3 hc hx hj hlt
      go_wp2_with (go_at_call 36; refine (NX.out (j + 1) _ ST.out).mono ?_; rintro e w1 ⟨rfl, q1, rfl⟩)
      go_roundw
      case rel =>
        have hj := HJ.out
        refine ⟨k + 1, HLT.out, ?_, ?_, ?_, grown_drew (grown_set HG2.out _ _) _⟩
        · rw [HST.out]
          have := HF.out
          exact congrArg (Value.int .i64) (by omega)
        · rw [show i + (k + 1) = j + 1 by omega]
        · rw [show i + (k + 1) = j + 1 by omega]
          exact ST.out
      case measure =>
        have h1 := ST.out.at' (j := 1) rfl
        have h2 : atOf (((wr.setCell ⟨g, 1, none⟩ (.int .i64 ((j : Int) + 1))).drewN q1).cell? ⟨g, 1, none⟩) = j + 1 := by
          show atOf ((wr.setCell ⟨g, 1, none⟩ (.int .i64 ((j : Int) + 1))).cell? ⟨g, 1, none⟩) = j + 1
          rw [h1]
          show ((j + 1 : Nat) : Int).toNat = j + 1
          omega
        have h3 : atOf (wr.cell? ⟨g, 1, none⟩) = j := by
          rw [c1]
          show ((j : Nat) : Int).toNat = j
          omega
        rw [h2, h3]
        have := HJ.out
        have := HLT.out
        clear d1 d2 d3 f1 f2 hsub m1 m2 m3 m4 m5
        omega
    · obtain rfl : k = n := by omega
      obtain ⟨c, hc⟩ : ∃ c, nextB s j = c := ⟨_, rfl⟩
      have hcase : decide ((48 : Int) ≤ (c.toNat : Int)) = false ∨ (decide ((48 : Int) ≤ (c.toNat : Int)) = true ∧ decide ((c.toNat : Int) ≤ 57) = false) ∨ (decide ((48 : Int) ≤ (c.toNat : Int)) = true ∧ decide ((c.toNat : Int) ≤ 57) = true ∧ decide ((k : Int) < 5) = false) := by
        have h1 := COUT.out
        rw [hj, hc, dig_cond] at h1
        cases a1 : decide ((48 : Int) ≤ (c.toNat : Int)) with
        | false => exact .inl rfl
        | true =>
          cases a2 : decide ((c.toNat : Int) ≤ 57) with
          | false => exact .inr (.inl ⟨rfl, rfl⟩)
          | true =>
            rcases h1 with h1 | h1
            · exact .inr (.inr ⟨rfl, rfl, decide_eq_false (by omega)⟩)
            · rw [a1, a2] at h1; cases h1
      have HC := Lib.hid hc
      rw [hc]
      have hsub : wrap64 ((j : Int) - (i : Int)) = (k : Int) := by rw [show (j : Int) - (i : Int) = (k : Int) by omega]; exact IntWalk.wrap64_in _ ⟨by have := HN5.out; omega, by have := HN5.out; omega⟩
      have m5 : wrap64 ((j : Int) + 1) = (j : Int) + 1 := IntWalk.wrap64_in _ ⟨by omega, by have := HN5.out; omega⟩
      obtain ⟨b0, hb0⟩ : ∃ b, ((j : Int) == (i : Int)) = b := ⟨_, rfl⟩
      have HB0 := Lib.hid (show (k == 0) = b0 from by rw [← hb0, Bool.eq_iff_iff, beq_iff_eq, beq_iff_eq]; omega)
      obtain ⟨b1, hb1⟩ : ∃ b, ((c.toNat : Int) != (sign.toNat : Int)) = b := ⟨_, rfl⟩
      have HB1 := Lib.hid (show (c != sign) = b1 from by
        rw [← hb1, Bool.eq_iff_iff, bne_iff_ne, bne_iff_ne]
        constructor
        · intro h e; exact h (UInt8.toNat_inj.1 (by omega))
        · intro h e; exact h (by rw [e]))
      have c0 := HB2.out.at' (j := 0) rfl
      have c1 := HB2.out.at' (j := 1) rfl
      have c2 := HB2.out.at' (j := 2) rfl
      have fz1 := HB2.out.free (j := 1) (by decide)
      have fz2 := HB2.out.free (j := 2) (by decide)
      have FIN := Lib.hid (fun (lb : Bool) (q : Nat) (hlb : lb = (lost || k == 0 || c != sign)) => show WkB (((wr.drewN q).setCell ⟨g, 2, none⟩ (.bool lb)).setCell ⟨g, 1, none⟩ (.int .i64 ((j : Int) + 1))) B g s (i + k + 1) (lost || k == 0 || nextB s (i + k) != sign) ∧ w.grownBy (((wr.drewN q).setCell ⟨g, 2, none⟩ (.bool lb)).setCell ⟨g, 1, none⟩ (.int .i64 ((j : Int) + 1))) (some g) from by
        subst hlb
        rw [HJ.out, HC.out]
        exact ⟨(((HB2.out.drewK q).stored 2 _).1.stored 1 _).1, grown_set (grown_set (grown_drew HG2.out q) _ _) _ _⟩)
      have NX2 := Lib.hid (NX.out j wr HB2.out)
      rw [hc] at NX2
      clear hc hj hx
      rcases hcase with a1 | ⟨a1, a2⟩ | ⟨a1, a2, a3⟩
      all_goals
        cases lost with
        | true =>
          go_wp2_with fail
          go_ret
          exact ⟨ret_num HX.out.symm, FIN.out true 0 rfl⟩
        | false =>
          cases b0 with
          | true =>
            go_wp2_with fail
            go_ret
            exact ⟨ret_num HX.out.symm, FIN.out true 0 (by rw [HB0.out]; rfl)⟩
          | false =>
            go_wp2_with (go_at_call 36; refine NX2.out.mono ?_; rintro e w1 ⟨rfl, q1, rfl⟩)
            go_ret
            exact ⟨ret_num HX.out.symm, FIN.out b1 q1 (by rw [HB0.out, HB1.out]; rfl)⟩
end Go.Proofs.YtfdbolnifjpbhaaDoor
