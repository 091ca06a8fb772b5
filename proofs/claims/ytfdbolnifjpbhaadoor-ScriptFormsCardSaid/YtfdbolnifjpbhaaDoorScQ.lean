/- The document's taker: a number. -/
import Derived.Test.YtfdbolnifjpbhaaDoorScP
import Derived.BigQuiet
namespace Go.Proofs.YtfdbolnifjpbhaaDoor
set_option linter.unusedVariables false
set_option linter.unusedSimpArgs false
open Go.RowKit

/-- The taker's box. -/
def TkB (W : World) (B g : Nat) (s : ByteArray) (i : Nat) (bad : Bool) : Prop := Own W B 58 1 (.slice (some ⟨g, 0, none⟩) 3 3) 3 [.string s, .int .i64 (i : Int), .bool bad]
set_option maxRecDepth 100000 in
set_option maxHeartbeats 400000 in
theorem num_tk (B g : Nat) (s : ByteArray) (i : Nat) (bad : Bool) (w : World) (h : TkB w B g s i bad) (hs : s.size ≤ 140737488355328) (hi : i ≤ 1000000000000000) :
    Calls Tryd.prog 25 #[.pointer (some ⟨g, 0, none⟩)] w fun e w' =>
      e = .returned (.int .i64 (valD ((rest s i).take (cntD (rest s i) 6)) 0 : Int)) ∧ TkB w' B g s (i + cntD (rest s i) 6 + 1) (bad || decide (s.size ≤ i + cntD (rest s i) 6)) ∧ w.grownBy w' (some g) := by
  have HB := Lib.hid h
  obtain ⟨l, hl⟩ : ∃ l, rest s i = l := ⟨_, rfl⟩
  have hll : l.length = s.size - i := by rw [← hl, rest, List.length_drop, Array.length_toList]; rfl
  have hget : ∀ k, k < l.length → ∀ (hk : i + k < s.size), l.getD k 0 = s[i + k] := fun k hk hk2 => by
    rw [← getD_byte s (i + k) hk2, ← hl, rest, List.getD_eq_getElem?_getD, List.getD_eq_getElem?_getD, List.getElem?_drop]
  rw [hl]
  obtain ⟨n, hn⟩ : ∃ n, cntD l 6 = n := ⟨_, rfl⟩
  rw [hn]
  have CIN := Lib.hid (fun (k : Nat) (hk : k < n) => show k < 6 ∧ k < l.length ∧ isDig (l.getD k 0) = true from by
    obtain ⟨h1, h2, h3⟩ := cntD_in l 6 k (by rw [hn]; exact hk)
    exact ⟨h2, h1, h3⟩)
  have COUT := Lib.hid (show n = 6 ∨ n = l.length ∨ isDig (l.getD n 0) = false from by rw [← hn]; exact cntD_out l 6)
  have HN6 := Lib.hid (show n ≤ 6 ∧ n ≤ l.length from by rw [← hn]; exact cntD_le l 6)
  have VAL := Lib.hid (fun (k : Nat) (hk : k ≤ n) => show valD (l.take k) 0 < 1000000 from by
    have h5 : n ≤ 6 := by rw [← hn]; exact (cntD_le l 6).1
    have h1 := valD_lt (l.take k) 0 (fun c hc => by
      obtain ⟨j, hj, rfl⟩ := List.getElem_of_mem hc
      rw [List.length_take] at hj
      have h3 := (cntD_in l 6 j (by rw [hn]; omega)).2.2
      rw [List.getElem_take]
      rwa [List.getD_eq_getElem?_getD, List.getElem?_eq_getElem (by omega), Option.getD_some] at h3)
    have h2 : (l.take k).length ≤ 6 := by rw [List.length_take]; omega
    have h3 : (10 : Nat) ^ (l.take k).length ≤ 10 ^ 6 := Nat.pow_le_pow_right (by decide) h2
    omega)
  have VST := Lib.hid (fun (k : Nat) (hk : k < n) => show valD (l.take (k + 1)) 0 = 10 * valD (l.take k) 0 + ((l.getD k 0).toNat - 48) from by
    have h1 := (cntD_in l 6 k (by rw [hn]; exact hk)).1
    rw [List.take_succ_eq_append_getElem h1, valD_app, List.getD_eq_getElem?_getD, List.getElem?_eq_getElem h1, Option.getD_some]
    rfl)
  have HLL := Lib.hid hll
  have HGET := Lib.hid hget
  clear h hl hn hll hget
  go_enter Tryd.func25, Tryd.ntmps25
  go_wp2_with fail
  go_loopw [3, 4] (fun v3 v4 wr => ∃ k : Nat, k ≤ n ∧ v3 = .int .i64 (valD (l.take k) 0 : Int) ∧ v4 = .int .i64 (k : Int) ∧ TkB wr B g s (i + k) bad ∧ w.grownBy wr (some g)) (fun v3 v4 wr => n - (intOf v4).toNat)
  case atStart => exact ⟨0, by omega, by rfl, by rfl, HB.out, ⟨rfl, rfl, rfl, Nat.le_refl _, fun k _ _ => rfl⟩⟩
  case round =>
    obtain ⟨k, hk, rfl, rfl, hb, hg⟩ := hrel
    have HB2 := Lib.hid hb
    have HG2 := Lib.hid hg
    clear hb hg
    obtain ⟨j, hj⟩ : ∃ j, i + k = j := ⟨_, rfl⟩
    obtain ⟨x, hx⟩ : ∃ x, valD (l.take k) 0 = x := ⟨_, rfl⟩
    have hx5 := VAL.out k hk
    have HJ := Lib.hid hj
    have HX := Lib.hid hx
    rw [hx] at hx5 ⊢
    rw [hj] at HB2
    have c0 := HB2.out.at' (j := 0) rfl
    have c1 := HB2.out.at' (j := 1) rfl
    have c2 := HB2.out.at' (j := 2) rfl
    have fz1 := HB2.out.free (j := 1) (by decide)
    have fz2 := HB2.out.free (j := 2) (by decide)
    have hs9 : s.size ≤ 9223372036854775807 := by omega
    by_cases hlt : k < n
    · obtain ⟨e2, e3, e4⟩ := CIN.out k hlt
      have hjs : j < s.size := by have := HLL.out; omega
      have hst := VST.out k hlt
      rw [hx] at hst
      have hgb : l.getD k 0 = s[j] := by rw [HGET.out k e3 (by have := HJ.out; omega)]; simp only [HJ.out]
      obtain ⟨c, hc⟩ : ∃ c, s[j] = c := ⟨_, rfl⟩
      rw [hgb, hc] at e4 hst
      rw [dig_cond, Bool.and_eq_true] at e4
      obtain ⟨d1, d2⟩ := e4
      have f1 := of_decide_eq_true d1
      have f2 := of_decide_eq_true d2
      have hj2 : (j : Int) < (s.size : Int) := by omega
      have dj : decide ((j : Int) < (s.size : Int)) = true := decide_eq_true hj2
      have dj2 : decide (j < s.size) = true := decide_eq_true hjs
      have d3 : decide ((k : Int) < 6) = true := decide_eq_true (by omega)
      have m1 : wrap64 (10 * (x : Int)) = 10 * (x : Int) := IntWalk.wrap64_in _ ⟨by omega, by omega⟩
      have m2 : IntKind.u8.wrap ((c.toNat : Int) - 48) = (c.toNat : Int) - 48 := by
        simp only [IntKind.wrap, IntKind.signed, IntKind.bits]
        exact Int.emod_eq_of_lt (by omega) (by omega)
      have m3 : wrap64 (10 * (x : Int) + ((c.toNat : Int) - 48)) = 10 * (x : Int) + ((c.toNat : Int) - 48) := IntWalk.wrap64_in _ ⟨by omega, by omega⟩
      have m4 : wrap64 ((c.toNat : Int) - 48) = (c.toNat : Int) - 48 := IntWalk.wrap64_in _ ⟨by omega, by omega⟩
      have m5 : wrap64 ((j : Int) + 1) = (j : Int) + 1 := IntWalk.wrap64_in _ ⟨by omega, by omega⟩
      have m6 : wrap64 ((k : Int) + 1) = (k : Int) + 1 := IntWalk.wrap64_in _ ⟨by omega, by omega⟩
      have HLT := Lib.hid (show k + 1 ≤ n from hlt)
      have RV := Lib.hid (show Value.int IntKind.i64 (10 * (x : Int) + ((c.toNat : Int) - 48)) = Value.int IntKind.i64 (valD (l.take (k + 1)) 0 : Int) from by
        rw [hst]
        exact congrArg (Value.int .i64) (by clear m1 m2 m3 m4 m5 m6; omega))
      have RK := Lib.hid (show Value.int IntKind.i64 (wrap64 ((k : Int) + 1)) = Value.int IntKind.i64 ((k + 1 : Nat) : Int) from by rw [m6]; rfl)
      have RJ := Lib.hid (show i + (k + 1) = j + 1 from by clear m1 m2 m3 m4 m5 m6; omega)
      have RM := Lib.hid (show n - (intOf (Value.int IntKind.i64 (wrap64 ((k : Int) + 1)))).toNat < n - (intOf (Value.int IntKind.i64 (k : Int))).toNat from by
        rw [m6]
        show n - ((k : Int) + 1).toNat < n - (k : Int).toNat
        clear m1 m2 m3 m4 m5 m6
        omega)
      clear hst hgb e2 e3 hx hj hlt
      have ST := Lib.hid (show Own (wr.setCell ⟨g, 1, none⟩ (.int .i64 ((j : Int) + 1))) B 58 1 (.slice (some ⟨g, 0, none⟩) 3 3) 3 [.string s, .int .i64 ((j + 1 : Nat) : Int), .bool bad] from (HB2.out.stored 1 _).1)
      go_wp2_with fail
      go_quiet (fail)
      clear dj dj2 d3 d1 d2
      go_wp2_with fail
      go_region
      have HB3 := Lib.hid (show Own (wr.drewN (nq + 1)) B 58 1 (.slice (some ⟨g, 0, none⟩) 3 3) 3 [.string s, .int .i64 (j : Int), .bool bad] from HB2.out.drewK _)
      have HG3 := Lib.hid (grown_drew HG2.out (nq + 1))
      clear c0 c1 c2 fz1 fz2 ST
      generalize wr.drewN (nq + 1) = W3 at HB3 HG3 ⊢
      have c1 := HB3.out.at' (j := 1) rfl
      have fz1 := HB3.out.free (j := 1) (by decide)
      have ST := Lib.hid (show Own (W3.setCell ⟨g, 1, none⟩ (.int .i64 ((j : Int) + 1))) B 58 1 (.slice (some ⟨g, 0, none⟩) 3 3) 3 [.string s, .int .i64 ((j + 1 : Nat) : Int), .bool bad] from (HB3.out.stored 1 _).1)
      clear HB2 hj2 hjs hc m1 m2 m3 m4
      repeat go_step
      go_roundw
      case rel => exact ⟨k + 1, HLT.out, RV.out, RK.out, by rw [RJ.out]; exact ST.out, grown_set HG3.out 1 _⟩
      case measure => exact RM.out
    · obtain rfl : k = n := by omega
      have hj9 : j ≤ 2000000000000000 := by have := HN6.out; have := HJ.out; omega
      have m5 : wrap64 ((j : Int) + 1) = (j : Int) + 1 := IntWalk.wrap64_in _ ⟨by omega, by omega⟩
      have hcase : (decide ((k : Int) < 6) = false) ∨ (decide ((k : Int) < 6) = true ∧ decide ((j : Int) < (s.size : Int)) = false) ∨ (decide ((k : Int) < 6) = true ∧ decide ((j : Int) < (s.size : Int)) = true ∧ ∃ hjs : j < s.size, (decide ((48 : Int) ≤ (s[j].toNat : Int)) = false ∨ (decide ((48 : Int) ≤ (s[j].toNat : Int)) = true ∧ decide ((s[j].toNat : Int) ≤ 57) = false))) := by
        have h6 := HN6.out
        have hjj := HJ.out
        have hll := HLL.out
        rcases COUT.out with h | h | h
        · exact .inl (decide_eq_false (by omega))
        · by_cases h6k : k = 6
          · exact .inl (decide_eq_false (by omega))
          · exact .inr (.inl ⟨decide_eq_true (by omega), decide_eq_false (by omega)⟩)
        · by_cases h6k : k = 6
          · exact .inl (decide_eq_false (by omega))
          · by_cases hjs : j < s.size
            · refine .inr (.inr ⟨decide_eq_true (by omega), decide_eq_true (by omega), hjs, ?_⟩)
              have hgb : l.getD k 0 = s[j] := by rw [HGET.out k (by omega) (by omega)]; simp only [hjj]
              rw [hgb, dig_cond] at h
              cases a1 : decide ((48 : Int) ≤ (s[j].toNat : Int)) with
              | false => exact .inl rfl
              | true => exact .inr ⟨rfl, by rw [a1] at h; simpa using h⟩
            · exact .inr (.inl ⟨decide_eq_true (by omega), decide_eq_false (by omega)⟩)
      clear hx hj hlt hj9
      rcases hcase with d3 | ⟨d3, dj⟩ | ⟨d3, dj, hjs, hd⟩
      · go_wp2_with fail
        go_quiet (fail)
        clear d3
        go_wp2_with fail
        have HB3 := Lib.hid (show Own (wr.drewN nq) B 58 1 (.slice (some ⟨g, 0, none⟩) 3 3) 3 [.string s, .int .i64 (j : Int), .bool bad] from HB2.out.drewK _)
        have HG3 := Lib.hid (grown_drew HG2.out nq)
        clear c0 c1 c2 fz1 fz2
        generalize wr.drewN nq = W3 at HB3 HG3 ⊢
        have c0 := HB3.out.at' (j := 0) rfl
        have c1 := HB3.out.at' (j := 1) rfl
        have c2 := HB3.out.at' (j := 2) rfl
        have fz1 := HB3.out.free (j := 1) (by decide)
        have fz2 := HB3.out.free (j := 2) (by decide)
        cases bad with
        | true =>
          go_region
          have HB4 := Lib.hid (show Own (W3.setCell ⟨g, 2, none⟩ (.bool true)).drew B 58 1 (.slice (some ⟨g, 0, none⟩) 3 3) 3 [.string s, .int .i64 (j : Int), .bool true] from (HB3.out.stored 2 _).1.drewK 1)
          have HG4 := Lib.hid (show w.grownBy (W3.setCell ⟨g, 2, none⟩ (.bool true)).drew (some g) from grown_drew (grown_set HG3.out 2 _) 1)
          clear c0 c1 c2 fz1 fz2
          generalize (W3.setCell ⟨g, 2, none⟩ (.bool true)).drew = W4 at HB4 HG4 ⊢
          have c1 := HB4.out.at' (j := 1) rfl
          have fz1 := HB4.out.free (j := 1) (by decide)
          repeat go_step
          go_ret
          exact ⟨ret_num HX.out.symm, by rw [HJ.out]; exact (HB4.out.stored 1 _).1, grown_set HG4.out 1 _⟩
        | false =>
          go_region
          have HB4 := Lib.hid (show Own (W3.setCell ⟨g, 2, none⟩ (.bool (decide (s.size ≤ j)))).drew B 58 1 (.slice (some ⟨g, 0, none⟩) 3 3) 3 [.string s, .int .i64 (j : Int), .bool (decide (s.size ≤ j))] from (HB3.out.stored 2 _).1.drewK 1)
          have HG4 := Lib.hid (show w.grownBy (W3.setCell ⟨g, 2, none⟩ (.bool (decide (s.size ≤ j)))).drew (some g) from grown_drew (grown_set HG3.out 2 _) 1)
          clear c0 c1 c2 fz1 fz2
          generalize (W3.setCell ⟨g, 2, none⟩ (.bool (decide (s.size ≤ j)))).drew = W4 at HB4 HG4 ⊢
          have c1 := HB4.out.at' (j := 1) rfl
          have fz1 := HB4.out.free (j := 1) (by decide)
          repeat go_step
          go_ret
          exact ⟨ret_num HX.out.symm, by rw [HJ.out]; exact (HB4.out.stored 1 _).1, grown_set HG4.out 1 _⟩
      · have dj2 : decide (j < s.size) = false := decide_eq_false (by have := of_decide_eq_false dj; omega)
        go_wp2_with fail
        go_quiet (fail)
        clear dj dj2 d3
        go_wp2_with fail
        have HB3 := Lib.hid (show Own (wr.drewN nq) B 58 1 (.slice (some ⟨g, 0, none⟩) 3 3) 3 [.string s, .int .i64 (j : Int), .bool bad] from HB2.out.drewK _)
        have HG3 := Lib.hid (grown_drew HG2.out nq)
        clear c0 c1 c2 fz1 fz2
        generalize wr.drewN nq = W3 at HB3 HG3 ⊢
        have c0 := HB3.out.at' (j := 0) rfl
        have c1 := HB3.out.at' (j := 1) rfl
        have c2 := HB3.out.at' (j := 2) rfl
        have fz1 := HB3.out.free (j := 1) (by decide)
        have fz2 := HB3.out.free (j := 2) (by decide)
        cases bad with
        | true =>
          go_region
          have HB4 := Lib.hid (show Own (W3.setCell ⟨g, 2, none⟩ (.bool true)).drew B 58 1 (.slice (some ⟨g, 0, none⟩) 3 3) 3 [.string s, .int .i64 (j : Int), .bool true] from (HB3.out.stored 2 _).1.drewK 1)
          have HG4 := Lib.hid (show w.grownBy (W3.setCell ⟨g, 2, none⟩ (.bool true)).drew (some g) from grown_drew (grown_set HG3.out 2 _) 1)
          clear c0 c1 c2 fz1 fz2
          generalize (W3.setCell ⟨g, 2, none⟩ (.bool true)).drew = W4 at HB4 HG4 ⊢
          have c1 := HB4.out.at' (j := 1) rfl
          have fz1 := HB4.out.free (j := 1) (by decide)
          repeat go_step
          go_ret
          exact ⟨ret_num HX.out.symm, by rw [HJ.out]; exact (HB4.out.stored 1 _).1, grown_set HG4.out 1 _⟩
        | false =>
          go_region
          have HB4 := Lib.hid (show Own (W3.setCell ⟨g, 2, none⟩ (.bool (decide (s.size ≤ j)))).drew B 58 1 (.slice (some ⟨g, 0, none⟩) 3 3) 3 [.string s, .int .i64 (j : Int), .bool (decide (s.size ≤ j))] from (HB3.out.stored 2 _).1.drewK 1)
          have HG4 := Lib.hid (show w.grownBy (W3.setCell ⟨g, 2, none⟩ (.bool (decide (s.size ≤ j)))).drew (some g) from grown_drew (grown_set HG3.out 2 _) 1)
          clear c0 c1 c2 fz1 fz2
          generalize (W3.setCell ⟨g, 2, none⟩ (.bool (decide (s.size ≤ j)))).drew = W4 at HB4 HG4 ⊢
          have c1 := HB4.out.at' (j := 1) rfl
          have fz1 := HB4.out.free (j := 1) (by decide)
          repeat go_step
          go_ret
          exact ⟨ret_num HX.out.symm, by rw [HJ.out]; exact (HB4.out.stored 1 _).1, grown_set HG4.out 1 _⟩
      · have hj2 : (j : Int) < (s.size : Int) := by omega
        have dj2 : decide (j < s.size) = true := decide_eq_true hjs
        obtain ⟨c, hc⟩ : ∃ c, s[j] = c := ⟨_, rfl⟩
        rw [hc] at hd
        rcases hd with d1 | ⟨d1, d2⟩
        · go_wp2_with fail
          go_quiet (fail)
          clear dj dj2 d3 d1 hc hj2
          go_wp2_with fail
          have HB3 := Lib.hid (show Own (wr.drewN nq) B 58 1 (.slice (some ⟨g, 0, none⟩) 3 3) 3 [.string s, .int .i64 (j : Int), .bool bad] from HB2.out.drewK _)
          have HG3 := Lib.hid (grown_drew HG2.out nq)
          clear c0 c1 c2 fz1 fz2
          generalize wr.drewN nq = W3 at HB3 HG3 ⊢
          have c0 := HB3.out.at' (j := 0) rfl
          have c1 := HB3.out.at' (j := 1) rfl
          have c2 := HB3.out.at' (j := 2) rfl
          have fz1 := HB3.out.free (j := 1) (by decide)
          have fz2 := HB3.out.free (j := 2) (by decide)
          cases bad with
          | true =>
            go_region
            have HB4 := Lib.hid (show Own (W3.setCell ⟨g, 2, none⟩ (.bool true)).drew B 58 1 (.slice (some ⟨g, 0, none⟩) 3 3) 3 [.string s, .int .i64 (j : Int), .bool true] from (HB3.out.stored 2 _).1.drewK 1)
            have HG4 := Lib.hid (show w.grownBy (W3.setCell ⟨g, 2, none⟩ (.bool true)).drew (some g) from grown_drew (grown_set HG3.out 2 _) 1)
            clear c0 c1 c2 fz1 fz2
            generalize (W3.setCell ⟨g, 2, none⟩ (.bool true)).drew = W4 at HB4 HG4 ⊢
            have c1 := HB4.out.at' (j := 1) rfl
            have fz1 := HB4.out.free (j := 1) (by decide)
            repeat go_step
            go_ret
            exact ⟨ret_num HX.out.symm, by rw [HJ.out]; exact (HB4.out.stored 1 _).1, grown_set HG4.out 1 _⟩
          | false =>
            go_region
            have HB4 := Lib.hid (show Own (W3.setCell ⟨g, 2, none⟩ (.bool (decide (s.size ≤ j)))).drew B 58 1 (.slice (some ⟨g, 0, none⟩) 3 3) 3 [.string s, .int .i64 (j : Int), .bool (decide (s.size ≤ j))] from (HB3.out.stored 2 _).1.drewK 1)
            have HG4 := Lib.hid (show w.grownBy (W3.setCell ⟨g, 2, none⟩ (.bool (decide (s.size ≤ j)))).drew (some g) from grown_drew (grown_set HG3.out 2 _) 1)
            clear c0 c1 c2 fz1 fz2
            generalize (W3.setCell ⟨g, 2, none⟩ (.bool (decide (s.size ≤ j)))).drew = W4 at HB4 HG4 ⊢
            have c1 := HB4.out.at' (j := 1) rfl
            have fz1 := HB4.out.free (j := 1) (by decide)
            repeat go_step
            go_ret
            exact ⟨ret_num HX.out.symm, by rw [HJ.out]; exact (HB4.out.stored 1 _).1, grown_set HG4.out 1 _⟩
        · go_wp2_with fail
          go_quiet (fail)
          clear dj dj2 d3 d1 d2 hc hj2
          go_wp2_with fail
          have HB3 := Lib.hid (show Own (wr.drewN nq) B 58 1 (.slice (some ⟨g, 0, none⟩) 3 3) 3 [.string s, .int .i64 (j : Int), .bool bad] from HB2.out.drewK _)
          have HG3 := Lib.hid (grown_drew HG2.out nq)
          clear c0 c1 c2 fz1 fz2
          generalize wr.drewN nq = W3 at HB3 HG3 ⊢
          have c0 := HB3.out.at' (j := 0) rfl
          have c1 := HB3.out.at' (j := 1) rfl
          have c2 := HB3.out.at' (j := 2) rfl
          have fz1 := HB3.out.free (j := 1) (by decide)
          have fz2 := HB3.out.free (j := 2) (by decide)
          cases bad with
          | true =>
            go_region
            have HB4 := Lib.hid (show Own (W3.setCell ⟨g, 2, none⟩ (.bool true)).drew B 58 1 (.slice (some ⟨g, 0, none⟩) 3 3) 3 [.string s, .int .i64 (j : Int), .bool true] from (HB3.out.stored 2 _).1.drewK 1)
            have HG4 := Lib.hid (show w.grownBy (W3.setCell ⟨g, 2, none⟩ (.bool true)).drew (some g) from grown_drew (grown_set HG3.out 2 _) 1)
            clear c0 c1 c2 fz1 fz2
            generalize (W3.setCell ⟨g, 2, none⟩ (.bool true)).drew = W4 at HB4 HG4 ⊢
            have c1 := HB4.out.at' (j := 1) rfl
            have fz1 := HB4.out.free (j := 1) (by decide)
            repeat go_step
            go_ret
            exact ⟨ret_num HX.out.symm, by rw [HJ.out]; exact (HB4.out.stored 1 _).1, grown_set HG4.out 1 _⟩
          | false =>
            go_region
            have HB4 := Lib.hid (show Own (W3.setCell ⟨g, 2, none⟩ (.bool (decide (s.size ≤ j)))).drew B 58 1 (.slice (some ⟨g, 0, none⟩) 3 3) 3 [.string s, .int .i64 (j : Int), .bool (decide (s.size ≤ j))] from (HB3.out.stored 2 _).1.drewK 1)
            have HG4 := Lib.hid (show w.grownBy (W3.setCell ⟨g, 2, none⟩ (.bool (decide (s.size ≤ j)))).drew (some g) from grown_drew (grown_set HG3.out 2 _) 1)
            clear c0 c1 c2 fz1 fz2
            generalize (W3.setCell ⟨g, 2, none⟩ (.bool (decide (s.size ≤ j)))).drew = W4 at HB4 HG4 ⊢
            have c1 := HB4.out.at' (j := 1) rfl
            have fz1 := HB4.out.free (j := 1) (by decide)
            repeat go_step
            go_ret
            exact ⟨ret_num HX.out.symm, by rw [HJ.out]; exact (HB4.out.stored 1 _).1, grown_set HG4.out 1 _⟩
end Go.Proofs.YtfdbolnifjpbhaaDoor
