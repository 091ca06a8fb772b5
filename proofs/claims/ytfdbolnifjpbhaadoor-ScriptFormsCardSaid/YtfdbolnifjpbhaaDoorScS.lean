/- script: rows and words that stand in a text: the walk. -/
import Derived.Test.YtfdbolnifjpbhaaDoorScP
import Derived.Test.YtfdbolnifjpbhaaDoorScR
import Derived.Maps.Range
import Derived.BigQuiet
namespace Go.Proofs.YtfdbolnifjpbhaaDoor
set_option linter.unusedVariables false
set_option linter.unusedSimpArgs false
open Go.RowKit

/-- Rows of other cells lie elsewhere. -/
theorem Own.neS {w : World} {B B' n n' : Nat} {e e' : TypeId} {size size' : Nat} {v v' : Value} {xs xs' : List Value} (hne : e ≠ e') (h : Own w B e size v n xs) (h' : Own w B' e' size' v' n' xs') : v.ownBlock = none ∨ v.ownBlock ≠ v'.ownBlock := by
  rcases h.2 with ⟨rfl, _⟩ | ⟨g, cap, cur, fz, rfl, _, hg, _⟩
  · exact .inl rfl
  · refine .inr ?_
    rcases h'.2 with ⟨rfl, _⟩ | ⟨g', cap', cur', fz', rfl, _, hg', _⟩
    · simp [Value.ownBlock]
    · simp only [Value.ownBlock, ne_eq, Option.some.injEq]
      rintro rfl
      rw [hg] at hg'
      simp only [Option.some.injEq, Obj.cells.injEq] at hg'
      exact hne hg'.2.1
theorem grown_refl (w : World) (r : Option Nat) : w.grownBy w r := ⟨rfl, rfl, rfl, Nat.le_refl _, fun k _ _ => rfl⟩
theorem grown_alloc {w W : World} {r : Option Nat} (h : w.grownBy W r) (o : Obj) : w.grownBy (W.alloc o) r :=
  h.andThen (World.grownBy_alloc W o none) (fun j hj => by cases hj)
/-- Behind an append onto a row of the call's own. -/
theorem grown_own {w W W' : World} {r : Option Nat} {e : TypeId} {size n : Nat} {v : Value} {xs : List Value} (h : w.grownBy W r) (ho : Own W w.heap.size e size v n xs) (hg : W.grownBy W' v.ownBlock) : w.grownBy W' r :=
  h.andThen hg (fun j hj => .inl (ho.base j hj))
theorem number_w (B g : Nat) (s : ByteArray) (i : Nat) (lost : Bool) (sign : UInt8) (w : World) (h : WkB w B g s i lost) (hs : s.size ≤ 140737488355328) (hi : i ≤ 1000000000000000) :
    Calls Tryd.prog 37 #[.pointer (some ⟨g, 0, none⟩), .int .u8 (sign.toNat : Int)] w fun e w' =>
      e = .returned (.int .i64 ((numW s sign i lost).1 : Int)) ∧ WkB w' B g s (numW s sign i lost).2.1 (numW s sign i lost).2.2 ∧ w.grownBy w' (some g) :=
  number_any B g s i lost sign w h hs hi
theorem num_lt (s : ByteArray) (i k : Nat) (hk : k ≤ 6) : valD ((rest s i).take (cntD (rest s i) k)) 0 < 1000000 := by
  have h1 := valD_lt ((rest s i).take (cntD (rest s i) k)) 0 (fun c hc => by
    obtain ⟨j, hj, rfl⟩ := List.getElem_of_mem hc
    rw [List.length_take] at hj
    have h3 := (cntD_in (rest s i) k j (by omega)).2.2
    rw [List.getElem_take]
    rwa [List.getD_eq_getElem?_getD, List.getElem?_eq_getElem (by omega), Option.getD_some] at h3)
  have h2 : ((rest s i).take (cntD (rest s i) k)).length ≤ 6 := by have := (cntD_le (rest s i) k).1; rw [List.length_take]; omega
  have h3 : (10 : Nat) ^ ((rest s i).take (cntD (rest s i) k)).length ≤ 10 ^ 6 := Nat.pow_le_pow_right (by decide) h2
  omega
theorem numsG_go {num : Nat → Bool → Nat × Nat × Bool} {m : Nat} {ys : List Int} {j : Nat} (h : ys.length < m) :
    (ys ++ (numsG num (m - ys.length) j false).1, (numsG num (m - ys.length) j false).2) = ((ys ++ [((num j false).1 : Int)]) ++ (numsG num (m - (ys ++ [((num j false).1 : Int)]).length) (num j false).2.1 (num j false).2.2).1, (numsG num (m - (ys ++ [((num j false).1 : Int)]).length) (num j false).2.1 (num j false).2.2).2) := by
  obtain ⟨d, hd⟩ : ∃ d, m - ys.length = d + 1 := ⟨m - ys.length - 1, by omega⟩
  have hd2 : m - (ys ++ [((num j false).1 : Int)]).length = d := by rw [List.length_append, List.length_singleton]; omega
  rw [hd, hd2, numsG, if_neg (by decide)]
  simp
theorem numsG_end {num : Nat → Bool → Nat × Nat × Bool} {m : Nat} {ys : List Int} {j : Nat} {l : Bool} (h : ¬ ys.length < m ∨ l = true) : (ys ++ (numsG num (m - ys.length) j l).1, (numsG num (m - ys.length) j l).2) = (ys, j, l) := by
  rcases h with h | rfl
  · rw [show m - ys.length = 0 by omega, numsG, List.append_nil]
  · rw [numsG_lost, List.append_nil]
def lenV : Value → Nat
  | .slice _ n _ => n
  | _ => 0
/-- What stands on the way through a row. -/
structure RowI (w : World) (B g : Nat) (s : ByteArray) (ys : List Int) (v : Value) (j : Nat) (l : Bool) (W : World) : Prop where
  own : Own W w.heap.size 3 1 v ys.length (nums ys)
  box : WkB W B g s j l
  gr : w.grownBy W (some g)
theorem RowI.alloc {w : World} {B g : Nat} {s : ByteArray} {ys : List Int} {v : Value} {j : Nat} {l : Bool} {W : World} (h : RowI w B g s ys v j l W) (o : Obj) : RowI w B g s ys v j l (W.alloc o) :=
  ⟨h.own.alloc o, Own.alloc h.box o, grown_alloc h.gr o⟩
theorem RowI.box' {w : World} {B g : Nat} {s : ByteArray} {ys : List Int} {v : Value} {j j' : Nat} {l l' : Bool} {W W' : World} (h : RowI w B g s ys v j l W) (hb : WkB W' B g s j' l') (hg : W.grownBy W' (some g)) : RowI w B g s ys v j' l' W' :=
  ⟨h.own.kept hg (Own.neS (by decide) h.own h.box), hb, h.gr.trans hg⟩
theorem RowI.app {w : World} {B g : Nat} {s : ByteArray} {ys : List Int} {v v' : Value} {j : Nat} {l : Bool} {W W' : World} (h : RowI w B g s ys v j l W) (x : Int) (ho : Own W' w.heap.size 3 1 v' (ys.length + 1) (nums ys ++ [.int .i64 x])) (hg : W.grownBy W' v.ownBlock) : RowI w B g s (ys ++ [x]) v' j l W' :=
  ⟨by rw [nums_append, List.length_append]; exact ho, Own.kept h.box hg (Own.neS (by decide) h.box h.own), grown_own h.gr h.own hg⟩
set_option maxRecDepth 100000 in
set_option maxHeartbeats 4000000 in
theorem row_w (B g : Nat) (s : ByteArray) (i : Nat) (lost : Bool) (w : World) (h : WkB w B g s i lost) (hs : s.size ≤ 140737488355328) (hi : i ≤ 900000000000000) :
    Calls Tryd.prog 38 #[.pointer (some ⟨g, 0, none⟩)] w fun e w' =>
      ∃ v, e = .returned v ∧ RowI w B g s (rowW s i lost).1 v (rowW s i lost).2.1 (rowW s i lost).2.2 w' := by
  have HB := Lib.hid h
  have N0 := Lib.hid (fun (W : World) (hW : WkB W B g s i lost) => number_w B g s i lost 44 W hW hs (by omega))
  have NX := Lib.hid (fun (j : Nat) (W : World) (hj : j ≤ 900000010000000) (hb : WkB W B g s j false) => number_w B g s j false 44 W hb hs (by omega))
  have FAR := Lib.hid (fun (j : Nat) (l : Bool) => show (numW s 44 j l).2.1 ≤ j + 7 from ((walkR_far s).num j l).2)
  have hm5 := num_lt s i 5 (by decide)
  have hf0 := ((walkR_far s).num i lost).2
  obtain ⟨F, hF⟩ : ∃ F, rowW s i lost = F := ⟨_, rfl⟩
  rw [hF]
  rw [rowW] at hF
  obtain ⟨m, hm⟩ : ∃ m, (numW s 44 i lost).1 = m := ⟨_, rfl⟩
  obtain ⟨j0, hj0⟩ : ∃ j, (numW s 44 i lost).2.1 = j := ⟨_, rfl⟩
  obtain ⟨l0, hl0⟩ : ∃ l, (numW s 44 i lost).2.2 = l := ⟨_, rfl⟩
  change (numW s 44 i lost).2.1 ≤ _ at hf0
  rw [hj0] at hf0
  change (numW s 44 i lost).1 < _ at hm5
  rw [hm] at hm5
  rw [hm, hj0, hl0] at N0
  rw [hm, hj0, hl0] at hF
  have HF := Lib.hid hF
  have HJ0 := Lib.hid (show j0 ≤ i + 7 from hf0)
  obtain ⟨b, hb⟩ : ∃ b, decide ((16 : Int) < (m : Int)) = b := ⟨_, rfl⟩
  have HBB := Lib.hid (show decide (16 < m) = b from by rw [← hb, decide_eq_decide]; omega)
  have HI := Lib.hid hi
  clear h hF hf0 hm hj0 hl0 hi hs
  cases l0 with
  | false =>
    go_enter Tryd.func38, Tryd.ntmps38
    go_wp2_with (go_at_call 37; refine (N0.out _ HB.out).mono ?_; rintro e w1 ⟨rfl, hb1, hg1⟩; have HB1 := Lib.hid hb1; have HG1 := Lib.hid hg1; have c2 := hb1.at' (j := 2) rfl; have fz2 := hb1.free (j := 2) (by decide); clear hb1 hg1)
    have I1 := Lib.hid (show RowI w B g s [] (.slice none 0 0) j0 b (w1.setCell ⟨g, 2, none⟩ (.bool b)) from ⟨Own.nil _ _ _ _, (HB1.out.stored 2 _).1, grown_set HG1.out 2 _⟩)
    have HF1 := Lib.hid (show (([] : List Int) ++ (numsG (numW s 44) (m - 0) j0 b).1, (numsG (numW s 44) (m - 0) j0 b).2) = F from by rw [← HF.out, HBB.out]; rfl)
    clear c2 fz2
    generalize w1.setCell ⟨g, 2, none⟩ (.bool b) = W1 at I1 ⊢
    go_loopw [4] (fun v4 wr => ∃ (ys : List Int) (j : Nat) (l : Bool), RowI w B g s ys v4 j l wr ∧ ys.length ≤ m ∧ j ≤ i + 7 + 7 * ys.length ∧ (ys ++ (numsG (numW s 44) (m - ys.length) j l).1, (numsG (numW s 44) (m - ys.length) j l).2) = F) (fun v4 wr => m - lenV v4)
    case atStart => exact ⟨[], j0, b, I1.out, Nat.zero_le _, HJ0.out, HF1.out⟩
    case round =>
      obtain ⟨ys, j, l, hI, hle, hj, hFy⟩ := hrel
      obtain ⟨A, c, rfl⟩ := hI.own.slice
      obtain ⟨n, hn⟩ : ∃ n, ys.length = n := ⟨_, rfl⟩
      have HN := Lib.hid hn
      have HR := Lib.hid hI
      have c2 := hI.box.at' (j := 2) rfl
      clear hI I1
      by_cases hc : n < m ∧ l = false
      · obtain ⟨hlt, rfl⟩ := hc
        have hlt2 : (n : Int) < (m : Int) := by omega
        have d1 : decide ((n : Int) < (m : Int)) = true := decide_eq_true hlt2
        have d2 : decide (n < m) = true := decide_eq_true hlt
        have HFy := Lib.hid ((numsG_go (num := numW s 44) (m := m) (ys := ys) (j := j) (by rw [hn]; exact hlt)).symm.trans hFy)
        have hfar := FAR.out j false
        have hj9 : j ≤ 900000010000000 := by have := HI.out; omega
        have NN := Lib.hid (fun (W : World) (hb : WkB W B g s j false) => NX.out j W hj9 hb)
        obtain ⟨x, hx⟩ : ∃ x, (numW s 44 j false).1 = x := ⟨_, rfl⟩
        obtain ⟨j', hj'⟩ : ∃ x, (numW s 44 j false).2.1 = x := ⟨_, rfl⟩
        obtain ⟨l', hl'⟩ : ∃ x, (numW s 44 j false).2.2 = x := ⟨_, rfl⟩
        rw [hx, hj', hl'] at NN HFy
        rw [hj'] at hfar
        have HJ' := Lib.hid (show j' ≤ i + 7 + 7 * (n + 1) from by omega)
        have HLE := Lib.hid (show n + 1 ≤ m from hlt)
        have hbytes : (n + 1) * 8 ≤ 140737488355328 := by omega
        have HM := Lib.hid (show m - (n + 1) < m - n from by omega)
        rw [hn]
        clear hfar hj9 hx hj' hl' hj hle hFy hlt hn
        go_wp2_with (first
          | (at_builtin; refine appO w.heap.size rfl (.tmp 29) (.tmp 32) 36 3 (.int .i64 0) 1 8 rfl Tryd.underlying36 infoInt rfl (by decide) (by decide) (.slice A n c) n (nums ys) rfl (some ⟨w2.heap.size, 0, none⟩) 1 1 [.int .i64 (x : Int)] rfl rfl (one1 rfl) (fun h => by cases h) (box1 (one_at w2 (.int .i64 (x : Int)) _)) O2.out GS.out hbytes ?_; intro v3 w3 ho hgw ha; have I3 := Lib.hid ((I2.out.alloc (Obj.cells #[.int .i64 (x : Int)] 3)).app (x : Int) (by rw [HN.out]; exact ho) (by rw [HN.out]; exact hgw)); obtain ⟨A3, c3, rfl⟩ := ho.slice; clear ho hgw ha)
          | (go_at_call 37; refine (NN.out _ HR.out.box).mono ?_; rintro e w2 ⟨rfl, hb2, hg2⟩; have I2 := Lib.hid (HR.out.box' hb2 hg2); have O2 := Lib.hid (show Own (w2.alloc (Obj.cells #[.int .i64 (x : Int)] 3)) w.heap.size 3 1 (.slice A n c) n (nums ys) from by have h := (I2.out.alloc (Obj.cells #[.int .i64 (x : Int)] 3)).own; rw [HN.out] at h; exact h); have GS := Lib.hid (show w.heap.size ≤ (w2.alloc (Obj.cells #[.int .i64 (x : Int)] 3)).heap.size from (I2.out.alloc _).gr.size); clear hb2 hg2))
        go_roundw
        case rel => exact ⟨ys ++ [(x : Int)], j', l', I3.out, by rw [List.length_append, List.length_singleton, HN.out]; exact HLE.out, by rw [List.length_append, List.length_singleton, HN.out]; exact HJ'.out, HFy.out⟩
        case measure => exact HM.out
      · have hc2 : decide (n < m) = false ∨ l = true := by
          by_cases h1 : n < m
          · cases l with
            | true => exact .inr rfl
            | false => exact absurd ⟨h1, rfl⟩ hc
          · exact .inl (decide_eq_false h1)
        have hE := (numsG_end (num := numW s 44) (m := m) (ys := ys) (j := j) (l := l) (by
          rcases hc2 with h1 | h1
          · exact .inl (by rw [hn]; exact of_decide_eq_false h1)
          · exact .inr h1)).symm.trans hFy
        have HE := Lib.hid hE
        rw [hn]
        clear hE hFy hj hle hn hc
        rcases hc2 with h1 | rfl
        · have d1 : decide ((n : Int) < (m : Int)) = false := decide_eq_false (by have := of_decide_eq_false h1; omega)
          go_wp2_with fail
          go_ret
          rw [← HE.out]
          exact ⟨_, rfl, by have h := HR.out; rw [HN.out] at h; exact h⟩
        · cases h1 : decide (n < m) with
          | true =>
            have d1 : decide ((n : Int) < (m : Int)) = true := decide_eq_true (by have := of_decide_eq_true h1; omega)
            go_wp2_with fail
            go_ret
            rw [← HE.out]
            exact ⟨_, rfl, by have h := HR.out; rw [HN.out] at h; exact h⟩
          | false =>
            have d1 : decide ((n : Int) < (m : Int)) = false := decide_eq_false (by have := of_decide_eq_false h1; omega)
            go_wp2_with fail
            go_ret
            rw [← HE.out]
            exact ⟨_, rfl, by have h := HR.out; rw [HN.out] at h; exact h⟩
  | true =>
    go_enter Tryd.func38, Tryd.ntmps38
    go_wp2_with (go_at_call 37; refine (N0.out _ HB.out).mono ?_; rintro e w1 ⟨rfl, hb1, hg1⟩; have HB1 := Lib.hid hb1; have HG1 := Lib.hid hg1; have c2 := hb1.at' (j := 2) rfl; have fz2 := hb1.free (j := 2) (by decide); clear hb1 hg1)
    have I1 := Lib.hid (show RowI w B g s [] (.slice none 0 0) j0 true (w1.setCell ⟨g, 2, none⟩ (.bool true)) from ⟨Own.nil _ _ _ _, (HB1.out.stored 2 _).1, grown_set HG1.out 2 _⟩)
    have HF1 := Lib.hid (show (([] : List Int) ++ (numsG (numW s 44) (m - 0) j0 true).1, (numsG (numW s 44) (m - 0) j0 true).2) = F from by rw [← HF.out, HBB.out]; rfl)
    clear c2 fz2
    generalize w1.setCell ⟨g, 2, none⟩ (.bool true) = W1 at I1 ⊢
    go_loopw [4] (fun v4 wr => ∃ (ys : List Int) (j : Nat) (l : Bool), RowI w B g s ys v4 j l wr ∧ ys.length ≤ m ∧ j ≤ i + 7 + 7 * ys.length ∧ (ys ++ (numsG (numW s 44) (m - ys.length) j l).1, (numsG (numW s 44) (m - ys.length) j l).2) = F) (fun v4 wr => m - lenV v4)
    case atStart => exact ⟨[], j0, true, I1.out, Nat.zero_le _, HJ0.out, HF1.out⟩
    case round =>
      obtain ⟨ys, j, l, hI, hle, hj, hFy⟩ := hrel
      obtain ⟨A, c, rfl⟩ := hI.own.slice
      obtain ⟨n, hn⟩ : ∃ n, ys.length = n := ⟨_, rfl⟩
      have HN := Lib.hid hn
      have HR := Lib.hid hI
      have c2 := hI.box.at' (j := 2) rfl
      clear hI I1
      by_cases hc : n < m ∧ l = false
      · obtain ⟨hlt, rfl⟩ := hc
        have hlt2 : (n : Int) < (m : Int) := by omega
        have d1 : decide ((n : Int) < (m : Int)) = true := decide_eq_true hlt2
        have d2 : decide (n < m) = true := decide_eq_true hlt
        have HFy := Lib.hid ((numsG_go (num := numW s 44) (m := m) (ys := ys) (j := j) (by rw [hn]; exact hlt)).symm.trans hFy)
        have hfar := FAR.out j false
        have hj9 : j ≤ 900000010000000 := by have := HI.out; omega
        have NN := Lib.hid (fun (W : World) (hb : WkB W B g s j false) => NX.out j W hj9 hb)
        obtain ⟨x, hx⟩ : ∃ x, (numW s 44 j false).1 = x := ⟨_, rfl⟩
        obtain ⟨j', hj'⟩ : ∃ x, (numW s 44 j false).2.1 = x := ⟨_, rfl⟩
        obtain ⟨l', hl'⟩ : ∃ x, (numW s 44 j false).2.2 = x := ⟨_, rfl⟩
        rw [hx, hj', hl'] at NN HFy
        rw [hj'] at hfar
        have HJ' := Lib.hid (show j' ≤ i + 7 + 7 * (n + 1) from by omega)
        have HLE := Lib.hid (show n + 1 ≤ m from hlt)
        have hbytes : (n + 1) * 8 ≤ 140737488355328 := by omega
        have HM := Lib.hid (show m - (n + 1) < m - n from by omega)
        rw [hn]
        clear hfar hj9 hx hj' hl' hj hle hFy hlt hn
        go_wp2_with (first
          | (at_builtin; refine appO w.heap.size rfl (.tmp 29) (.tmp 32) 36 3 (.int .i64 0) 1 8 rfl Tryd.underlying36 infoInt rfl (by decide) (by decide) (.slice A n c) n (nums ys) rfl (some ⟨w2.heap.size, 0, none⟩) 1 1 [.int .i64 (x : Int)] rfl rfl (one1 rfl) (fun h => by cases h) (box1 (one_at w2 (.int .i64 (x : Int)) _)) O2.out GS.out hbytes ?_; intro v3 w3 ho hgw ha; have I3 := Lib.hid ((I2.out.alloc (Obj.cells #[.int .i64 (x : Int)] 3)).app (x : Int) (by rw [HN.out]; exact ho) (by rw [HN.out]; exact hgw)); obtain ⟨A3, c3, rfl⟩ := ho.slice; clear ho hgw ha)
          | (go_at_call 37; refine (NN.out _ HR.out.box).mono ?_; rintro e w2 ⟨rfl, hb2, hg2⟩; have I2 := Lib.hid (HR.out.box' hb2 hg2); have O2 := Lib.hid (show Own (w2.alloc (Obj.cells #[.int .i64 (x : Int)] 3)) w.heap.size 3 1 (.slice A n c) n (nums ys) from by have h := (I2.out.alloc (Obj.cells #[.int .i64 (x : Int)] 3)).own; rw [HN.out] at h; exact h); have GS := Lib.hid (show w.heap.size ≤ (w2.alloc (Obj.cells #[.int .i64 (x : Int)] 3)).heap.size from (I2.out.alloc _).gr.size); clear hb2 hg2))
        go_roundw
        case rel => exact ⟨ys ++ [(x : Int)], j', l', I3.out, by rw [List.length_append, List.length_singleton, HN.out]; exact HLE.out, by rw [List.length_append, List.length_singleton, HN.out]; exact HJ'.out, HFy.out⟩
        case measure => exact HM.out
      · have hc2 : decide (n < m) = false ∨ l = true := by
          by_cases h1 : n < m
          · cases l with
            | true => exact .inr rfl
            | false => exact absurd ⟨h1, rfl⟩ hc
          · exact .inl (decide_eq_false h1)
        have hE := (numsG_end (num := numW s 44) (m := m) (ys := ys) (j := j) (l := l) (by
          rcases hc2 with h1 | h1
          · exact .inl (by rw [hn]; exact of_decide_eq_false h1)
          · exact .inr h1)).symm.trans hFy
        have HE := Lib.hid hE
        rw [hn]
        clear hE hFy hj hle hn hc
        rcases hc2 with h1 | rfl
        · have d1 : decide ((n : Int) < (m : Int)) = false := decide_eq_false (by have := of_decide_eq_false h1; omega)
          go_wp2_with fail
          go_ret
          rw [← HE.out]
          exact ⟨_, rfl, by have h := HR.out; rw [HN.out] at h; exact h⟩
        · cases h1 : decide (n < m) with
          | true =>
            have d1 : decide ((n : Int) < (m : Int)) = true := decide_eq_true (by have := of_decide_eq_true h1; omega)
            go_wp2_with fail
            go_ret
            rw [← HE.out]
            exact ⟨_, rfl, by have h := HR.out; rw [HN.out] at h; exact h⟩
          | false =>
            have d1 : decide ((n : Int) < (m : Int)) = false := decide_eq_false (by have := of_decide_eq_false h1; omega)
            go_wp2_with fail
            go_ret
            rw [← HE.out]
            exact ⟨_, rfl, by have h := HR.out; rw [HN.out] at h; exact h⟩
end Go.Proofs.YtfdbolnifjpbhaaDoor
