/- Plans and views: alike, copied, written over. -/
import Derived.Test.YtdgnpoapkjoknaaPlB
import Derived.BigQuiet
namespace Go.Proofs.Ytdgnpoapkjoknaa
set_option linter.unusedVariables false
set_option linter.unusedSimpArgs false
open Go.RowKit

set_option maxRecDepth 100000 in
set_option maxHeartbeats 4000000 in
theorem same_view (g : Bool) (ep f : Int) (va vb : Value) (rs : List RecV) (w : World) (ha : RdR w va rs) (hb : RdR w vb rs) :
    Calls Try.prog 32 #[.agg #[.bool g, .int .i64 ep, va, .int .i64 f], .agg #[.bool g, .int .i64 ep, vb, .int .i64 f]] w fun e w' => e = .returned (.bool true) ∧ Below w.heap.size w w' := by
  have HA := Lib.hid ha
  have HB := Lib.hid hb
  obtain ⟨A, c, rfl⟩ := ha.form
  obtain ⟨B, d, rfl⟩ := hb.form
  clear ha hb
  go_enter Try.func32, Try.ntmps32
  go_wp2_with fail
  with_reducible refine (same_recs _ _ rs rs _ (HA.out.below (Bl.alloc (Bl.alloc (Below.refl _ _) _) _)) (HB.out.below (Bl.alloc (Bl.alloc (Below.refl _ _) _) _))).mono ?_
  rw [decide_eq_true (rfl : rs = rs)]
  rintro e w1 ⟨rfl, q, rfl⟩
  go_wp2_with fail
  go_ret
  exact ⟨rfl, Bl.drewN (Bl.alloc (Bl.alloc (Below.refl _ _) _) _) _⟩

theorem flat_set (rs : List RecV) (j : Nat) (hj : j < rs.length) (x : Int) : (flat rs).set (j * 4 + 1) (.int .i64 x) = flat (rs.set j ⟨(rs.getD j zeroR).k, x, (rs.getD j zeroR).key, (rs.getD j zeroR).val⟩) := by
  induction rs generalizing j with
  | nil => simp at hj
  | cons r rs ih =>
    cases j with
    | zero => rfl
    | succ j =>
      have h := ih j (by simpa using hj)
      rw [List.set_cons_succ, flat_cons, flat_cons, List.set_append_right _ _ (by show 4 ≤ _; omega)]
      show cellsR r ++ (flat rs).set ((j + 1) * 4 + 1 - 4) _ = _
      rw [show (j + 1) * 4 + 1 - 4 = j * 4 + 1 by omega, h]
      simp

set_option maxRecDepth 100000 in
set_option maxHeartbeats 4000000 in
theorem spoil_recs (B : Nat) (v : Value) (rs : List RecV) (w : World) (h : Own w B 25 4 v rs.length (flat rs)) :
    Calls Try.prog 51 #[v] w fun e w' => e = .returned (.tuple #[]) ∧ w.grownBy w' v.ownBlock := by
  by_cases hp : 0 < rs.length
  · obtain ⟨g, cap, rfl, hg, hgl, h1, h2⟩ := h.form hp
    obtain ⟨n, hn⟩ : ∃ n, rs.length = n := ⟨_, rfl⟩
    rw [hn] at h h1 ⊢
    have HO := Lib.hid h
    have HN := Lib.hid hn
    have hn2 : n ≤ 9223372036854775807 := by omega
    clear h hn hp hg hgl
    go_enter Try.func51, Try.ntmps51
    go_wp2_with fail
    go_loopw [2] (fun i wr => ∃ (k : Nat) (xs : List RecV), k ≤ n ∧ i = .int .i64 k ∧ xs.length = n ∧ Own wr B 25 4 (.slice (some ⟨g, 0, none⟩) n cap) n (flat xs) ∧ w.grownBy wr (some g)) (fun i _ => (n - intOf i).toNat)
    case atStart => exact ⟨0, rs, by omega, rfl, HN.out, HO.out, World.grownBy.refl _ _⟩
    case round =>
      obtain ⟨k, xs, hk, rfl, hx, ho, hb⟩ := hrel
      have HR := Lib.hid ho
      have HB := Lib.hid hb
      clear ho hb HO
      by_cases hlt : k < n
      · have hlt2 : (k : Int) < (n : Int) := by omega
        have g1 : wr.cell? ⟨g, k * 4 + 1, none⟩ = some (.int .i64 (xs.getD k zeroR).e) := HR.out.at' (flat_at xs k (by omega) 1 (by decide))
        have g2 : wr.frozen? ⟨g, k * 4 + 1, none⟩ = false := HR.out.free (by omega)
        have hst := HR.out.stored (k * 4 + 1) (.int .i64 (bits .xor .i64 (xs.getD k zeroR).e 90))
        rw [flat_set xs k (by omega)] at hst
        have HS := Lib.hid hst
        have HX := Lib.hid hx
        clear hst hx
        go_wp2
        go_roundw
        case rel => exact ⟨k + 1, _, by omega, by go_num, by rw [List.length_set]; exact HX.out, HS.out.1, HB.out.trans HS.out.2⟩
        case measure => simp [intOf]; omega
      · go_wp2
        go_end0
        exact ⟨rfl, HB.out⟩
  · obtain ⟨A, c, rfl⟩ := h.slice
    obtain rfl : rs = [] := List.eq_nil_of_length_eq_zero (by omega)
    clear h hp
    go_enter Try.func51, Try.ntmps51
    go_wp2_with fail
    go_loopw [2] (fun i wr => i = .int .i64 0 ∧ wr = w) (fun _ _ => 0)
    case atStart => exact ⟨rfl, rfl⟩
    case round =>
      obtain ⟨rfl, rfl⟩ := hrel
      go_wp2
      go_end0
      exact ⟨rfl, World.grownBy.refl _ _⟩
set_option maxRecDepth 100000 in
set_option maxHeartbeats 4000000 in
theorem spoil_ints (B : Nat) (v : Value) (xs : List Int) (w : World) (h : Own w B 3 1 v xs.length (nums xs)) :
    Calls Try.prog 50 #[v] w fun e w' => e = .returned (.tuple #[]) ∧ w.grownBy w' v.ownBlock := by
  by_cases hp : 0 < xs.length
  · obtain ⟨g, cap, rfl, hg, hgl, h1, h2⟩ := h.form hp
    obtain ⟨n, hn⟩ : ∃ n, xs.length = n := ⟨_, rfl⟩
    rw [hn] at h h1 ⊢
    have HO := Lib.hid h
    have HN := Lib.hid hn
    have hn2 : n ≤ 9223372036854775807 := by omega
    clear h hn hp hg hgl
    go_enter Try.func50, Try.ntmps50
    go_wp2_with fail
    go_loopw [2] (fun i wr => ∃ (k : Nat) (ys : List Int), k ≤ n ∧ i = .int .i64 k ∧ ys.length = n ∧ Own wr B 3 1 (.slice (some ⟨g, 0, none⟩) n cap) n (nums ys) ∧ w.grownBy wr (some g)) (fun i _ => (n - intOf i).toNat)
    case atStart => exact ⟨0, xs, by omega, rfl, HN.out, HO.out, World.grownBy.refl _ _⟩
    case round =>
      obtain ⟨k, ys, hk, rfl, hx, ho, hb⟩ := hrel
      have HR := Lib.hid ho
      have HB := Lib.hid hb
      clear ho hb HO
      by_cases hlt : k < n
      · have hlt2 : (k : Int) < (n : Int) := by omega
        have g1 : wr.cell? ⟨g, k, none⟩ = some (.int .i64 (ys.getD k 0)) := HR.out.at' (nums_at (by omega))
        have g2 : wr.frozen? ⟨g, k, none⟩ = false := HR.out.free (by omega)
        generalize ys.getD k 0 = x at g1
        have hst := HR.out.stored k (.int .i64 (wrap64 (-9 - x)))
        rw [show (nums ys).set k (.int .i64 (wrap64 (-9 - x))) = nums (ys.set k (wrap64 (-9 - x))) by simp [nums, List.map_set]] at hst
        have HS := Lib.hid hst
        have HX := Lib.hid hx
        clear hst hx
        go_wp2
        go_roundw
        case rel => exact ⟨k + 1, _, by omega, by go_num, by rw [List.length_set]; exact HX.out, HS.out.1, HB.out.trans HS.out.2⟩
        case measure => simp [intOf]; omega
      · go_wp2
        go_end0
        exact ⟨rfl, HB.out⟩
  · obtain ⟨A, c, rfl⟩ := h.slice
    obtain rfl : xs = [] := List.eq_nil_of_length_eq_zero (by omega)
    clear h hp
    go_enter Try.func50, Try.ntmps50
    go_wp2_with fail
    go_loopw [2] (fun i wr => i = .int .i64 0 ∧ wr = w) (fun _ _ => 0)
    case atStart => exact ⟨rfl, rfl⟩
    case round =>
      obtain ⟨rfl, rfl⟩ := hrel
      go_wp2
      go_end0
      exact ⟨rfl, World.grownBy.refl _ _⟩
set_option maxRecDepth 100000 in
set_option maxHeartbeats 4000000 in
theorem spoil_plan (w0 : World) (B : Nat) (v : Value) (q : PlanV) (w : World) (h : OwnL w B v q) (hb : Below w0.heap.size w0 w) (hB : w0.heap.size ≤ B) :
    Calls Try.prog 31 #[v] w fun e w' => e = .returned (.tuple #[]) ∧ Below w0.heap.size w0 w' := by
  obtain ⟨S, R, rfl, hs, hr⟩ := h
  obtain ⟨q1, q2, q3, q4, q5, q6⟩ := q
  simp only at hs hr ⊢
  obtain ⟨S1, S2, rfl⟩ := hs.slice
  obtain ⟨R1, R2, rfl⟩ := hr.slice
  obtain ⟨n, hn⟩ : ∃ n, q3.length = n := ⟨_, rfl⟩
  obtain ⟨m, hm⟩ : ∃ n, q4.length = n := ⟨_, rfl⟩
  have C1 := Lib.hid (fun (W : World) (h : Own W B 3 1 (.slice S1 q3.length S2) q3.length (nums q3)) => spoil_ints B _ q3 W h)
  have C2 := Lib.hid (fun (W : World) (h : Own W B 25 4 (.slice R1 q4.length R2) q4.length (flat q4)) => spoil_recs B _ q4 W h)
  rw [hn] at hs C1 ⊢
  rw [hm] at hr C2 ⊢
  have HS := Lib.hid (hs.alloc (Obj.cells #[.int .i64 q1, .int .i64 q2, .slice S1 n S2, .slice R1 m R2, .int .i64 q5, .int .i64 q6] 60))
  have HR := Lib.hid (hr.alloc (Obj.cells #[.int .i64 q1, .int .i64 q2, .slice S1 n S2, .slice R1 m R2, .int .i64 q5, .int .i64 q6] 60))
  have HX := Lib.hid (Own.arr w #[.int .i64 q1, .int .i64 q2, .slice S1 n S2, .slice R1 m R2, .int .i64 q5, .int .i64 q6] 60 6 rfl (by decide))
  have HB := Lib.hid (Bl.alloc hb (Obj.cells #[.int .i64 q1, .int .i64 q2, .slice S1 n S2, .slice R1 m R2, .int .i64 q5, .int .i64 q6] 60))
  have HBB := Lib.hid hB
  have x2 := HX.out.at' (j := 2) rfl
  clear hs hr hb hB hn hm
  go_enter Try.func31, Try.ntmps31
  go_wp2_with fail
  with_reducible refine (C1.out _ HS.out).mono ?_
  rintro e w1 ⟨rfl, hg⟩
  have B1 := Lib.hid (Below.grown HB.out hg HB.out.size (fun k hk => Nat.le_trans HBB.out (HS.out.base k hk)))
  have X1 := Lib.hid (HX.out.kept hg (Own.ne (by decide) HX.out HS.out))
  have R1' := Lib.hid (HR.out.kept hg (Own.ne (by decide) HR.out HS.out))
  have x3 := X1.out.at' (j := 3) rfl
  clear hg x2 HX HR HS HB
  go_wp2_with fail
  with_reducible refine (C2.out _ R1'.out).mono ?_
  rintro e w2 ⟨rfl, hg⟩
  have B2 := Lib.hid (Below.grown B1.out hg B1.out.size (fun k hk => Nat.le_trans HBB.out (R1'.out.base k hk)))
  clear hg x3
  go_wp2_with fail
  go_end0
  exact ⟨rfl, B2.out⟩
/-- Of a plan that is read. -/
def RdL (w : World) (v : Value) (q : PlanV) : Prop :=
  ∃ S R, v = .agg #[.int .i64 q.wipe, .int .i64 q.sec, S, R, .int .i64 q.free, .int .i64 q.ep] ∧ Rd w S q.slots ∧ RdR w R q.recs
theorem Rd.ownP {w : World} {B : Nat} {v : Value} {n : Nat} {xs : List Int} (h : Own w B 3 1 v n (nums xs)) : Rd w v xs := by
  have hl : xs.length = n := by have := h.1; rw [nums_length] at this; omega
  rcases h.2 with ⟨rfl, rfl⟩ | ⟨g, cap, cur, fz, rfl, _, hg, _, h1, h2, h3, h4⟩
  · exact .inl ⟨List.eq_nil_of_length_eq_zero hl, none, 0, rfl, fun _ => rfl⟩
  · subst hl
    refine .inr ⟨g, 0, cap, rfl, h1, h2, fun j hj => ?_⟩
    rw [Nat.zero_add]
    exact h.at' (nums_at hj)
theorem OwnL.rd {w : World} {B : Nat} {v : Value} {q : PlanV} (h : OwnL w B v q) : RdL w v q := by
  obtain ⟨S, R, h1, h2, h3⟩ := h
  exact ⟨S, R, h1, Rd.ownP h2, RdR.own h3⟩
theorem RdL.below {w w' : World} {v : Value} {q : PlanV} (h : RdL w v q) (hb : Below w.heap.size w w') : RdL w' v q := by
  obtain ⟨S, R, h1, h2, h3⟩ := h
  exact ⟨S, R, h1, h2.below hb, h3.below hb⟩
set_option maxRecDepth 100000 in
set_option maxHeartbeats 4000000 in
theorem same_plan (va vb : Value) (q : PlanV) (w : World) (ha : RdL w va q) (hb : RdL w vb q) :
    Calls Try.prog 30 #[va, vb] w fun e w' => e = .returned (.bool true) ∧ Below w.heap.size w w' := by
  obtain ⟨q1, q2, q3, q4, q5, q6⟩ := q
  obtain ⟨S, R, rfl, hs, hr⟩ := ha
  obtain ⟨T, U, rfl, ht, hu⟩ := hb
  simp only at hs hr ht hu ⊢
  have C1 := Lib.hid (fun (W : World) (h : Rd W S q3) (h2 : Rd W T q3) => same_ints S T q3 q3 W h h2)
  have C2 := Lib.hid (fun (W : World) (h : RdR W R q4) (h2 : RdR W U q4) => same_qr R U q4 W h h2)
  rw [show (q3 == q3) = true from beq_self_eq_true _] at C1
  obtain ⟨S1, S2, rfl⟩ := hs.form
  obtain ⟨R1, R2, rfl⟩ := hr.form
  obtain ⟨T1, T2, rfl⟩ := ht.form
  obtain ⟨U1, U2, rfl⟩ := hu.form
  obtain ⟨n, hn⟩ : ∃ n, q3.length = n := ⟨_, rfl⟩
  obtain ⟨m, hm⟩ : ∃ n, q4.length = n := ⟨_, rfl⟩
  rw [hn] at hs ht C1 ⊢
  rw [hm] at hr hu C2 ⊢
  have HB := Lib.hid (Bl.alloc (Bl.alloc (Below.refl w.heap.size w) (Obj.cells #[.int .i64 q1, .int .i64 q2, .slice S1 n S2, .slice R1 m R2, .int .i64 q5, .int .i64 q6] 60)) (Obj.cells #[.int .i64 q1, .int .i64 q2, .slice T1 n T2, .slice U1 m U2, .int .i64 q5, .int .i64 q6] 60))
  have HS := Lib.hid (hs.below HB.out)
  have HR := Lib.hid (hr.below HB.out)
  have HT := Lib.hid (ht.below HB.out)
  have HU := Lib.hid (hu.below HB.out)
  have X := Lib.hid ((Own.arr w #[.int .i64 q1, .int .i64 q2, .slice S1 n S2, .slice R1 m R2, .int .i64 q5, .int .i64 q6] 60 6 rfl (by decide)).alloc (Obj.cells #[.int .i64 q1, .int .i64 q2, .slice T1 n T2, .slice U1 m U2, .int .i64 q5, .int .i64 q6] 60))
  have y := Own.arr (w.alloc (Obj.cells #[.int .i64 q1, .int .i64 q2, .slice S1 n S2, .slice R1 m R2, .int .i64 q5, .int .i64 q6] 60)) #[.int .i64 q1, .int .i64 q2, .slice T1 n T2, .slice U1 m U2, .int .i64 q5, .int .i64 q6] 60 6 rfl (by decide)
  rw [show (w.alloc (Obj.cells #[.int .i64 q1, .int .i64 q2, .slice S1 n S2, .slice R1 m R2, .int .i64 q5, .int .i64 q6] 60)).heap.size = w.heap.size + 1 by simp] at y
  have Y := Lib.hid y
  clear hs hr ht hu hn hm y
  go_enter Try.func30, Try.ntmps30
  obtain ⟨x0, x1, x2, x3, x4, x5⟩ := And.intro (X.out.at' (j := 0) rfl) (And.intro (X.out.at' (j := 1) rfl) (And.intro (X.out.at' (j := 2) rfl) (And.intro (X.out.at' (j := 3) rfl) (And.intro (X.out.at' (j := 4) rfl) (X.out.at' (j := 5) rfl)))))
  obtain ⟨y0, y1, y2, y3, y4, y5⟩ := And.intro (Y.out.at' (j := 0) rfl) (And.intro (Y.out.at' (j := 1) rfl) (And.intro (Y.out.at' (j := 2) rfl) (And.intro (Y.out.at' (j := 3) rfl) (And.intro (Y.out.at' (j := 4) rfl) (Y.out.at' (j := 5) rfl)))))
  go_wp2_with (first | (go_at_call 34; with_reducible refine (C1.out _ HS.out HT.out).mono ?_; rintro e w1 ⟨rfl, z1, rfl⟩) | (go_at_call 45; with_reducible refine (C2.out _ (HR.out.below (Bl.self _ _)) (HU.out.below (Bl.self _ _))).mono ?_; rintro e w2 ⟨rfl, z2, rfl⟩))
  go_ret
  exact ⟨rfl, Bl.drewN HB.out _⟩
theorem load_view {W : World} {g : Nat} {a b c d : Value} (h0 : W.cell? ⟨g, 0, none⟩ = some a) (h1 : W.cell? ⟨g, 1, none⟩ = some b) (h2 : W.cell? ⟨g, 2, none⟩ = some c) (h3 : W.cell? ⟨g, 3, none⟩ = some d) :
    (loadVar 57 ⟨g, 0, none⟩).run Try.prog W = .ok (.agg #[a, b, c, d]) W := by
  go_simp
theorem results_view {fn : Func} {p : Tmp} {tmps : Array Value} {W : World} {g : Nat} {a b c d : Value} (h : fn.results = #[.cell p 57]) (hp : tmps.getD p undef = .pointer (some ⟨g, 0, none⟩))
    (h0 : W.cell? ⟨g, 0, none⟩ = some a) (h1 : W.cell? ⟨g, 1, none⟩ = some b) (h2 : W.cell? ⟨g, 2, none⟩ = some c) (h3 : W.cell? ⟨g, 3, none⟩ = some d) :
    (results fn tmps).run Try.prog W = .ok (.agg #[a, b, c, d]) W := by
  have hp' : tmps[p]?.getD undef = .pointer (some ⟨g, 0, none⟩) := by simpa using hp
  simp [results, h, hp', asAddr, load_view h0 h1 h2 h3]
set_option maxRecDepth 100000 in
set_option maxHeartbeats 4000000 in
theorem copy_view (w : World) (g0 : Bool) (ep fr : Int) (v : Value) (rs : List RecV) (h : RdR w v rs) (hsz : rs.length * 48 ≤ 140737488355328) :
    Calls Try.prog 27 #[.agg #[.bool g0, .int .i64 ep, v, .int .i64 fr]] w fun e w' => ∃ v', e = .returned (.agg #[.bool g0, .int .i64 ep, v', .int .i64 fr]) ∧ OwnR w' w.heap.size v' rs ∧ Below w.heap.size w w' := by
  obtain ⟨A, c, rfl, hA, hcell⟩ := h.news
  obtain ⟨n, hn⟩ : ∃ n, rs.length = n := ⟨_, rfl⟩
  have hfl := flat_len rs
  rw [hn] at hsz hA hfl ⊢
  have b0 := Bl.alloc (Bl.alloc (Bl.alloc (Below.refl w.heap.size w) (Obj.cells #[.bool g0, .int .i64 ep, .slice A n c, .int .i64 fr] 57)) (Obj.cells #[.bool false, .int .i64 0, .slice none 0 0, .int .i64 0] 57)) (Obj.cells #[] 25)
  have hcell2 : ∀ ad, A = some ad → ∀ j u, (flat rs)[j]? = some u → (((w.alloc (Obj.cells #[.bool g0, .int .i64 ep, .slice A n c, .int .i64 fr] 57)).alloc (Obj.cells #[.bool false, .int .i64 0, .slice none 0 0, .int .i64 0] 57)).alloc (Obj.cells #[] 25)).cell? (ad.add j) = some u := fun ad had j u hu => (b0.cell (World.block_lt_of_cell? _ _ (hcell ad had j u hu))).trans (hcell ad had j u hu)
  have HC := Lib.hid hcell2
  have HA := Lib.hid hA
  have HN := Lib.hid hn
  have HFL := Lib.hid hfl
  have HB := Lib.hid b0
  have ho0 := Own.arr ((w.alloc (Obj.cells #[.bool g0, .int .i64 ep, .slice A n c, .int .i64 fr] 57)).alloc (Obj.cells #[.bool false, .int .i64 0, .slice none 0 0, .int .i64 0] 57)) #[] 25 0 rfl (by decide)
  have ho1 : Own (((w.alloc (Obj.cells #[.bool g0, .int .i64 ep, .slice A n c, .int .i64 fr] 57)).alloc (Obj.cells #[.bool false, .int .i64 0, .slice none 0 0, .int .i64 0] 57)).alloc (Obj.cells #[] 25)) (w.heap.size + 1 + 1) 25 4 (.slice (some ⟨w.heap.size + 1 + 1, 0, none⟩) 0 0) 0 [] := by
    have hs : ((w.alloc (Obj.cells #[.bool g0, .int .i64 ep, .slice A n c, .int .i64 fr] 57)).alloc (Obj.cells #[.bool false, .int .i64 0, .slice none 0 0, .int .i64 0] 57)).heap.size = w.heap.size + 1 + 1 := by simp
    refine ⟨rfl, .inr ⟨w.heap.size + 1 + 1, 0, #[], (0, 0), rfl, Nat.le_refl _, ?_, .inr rfl, Nat.le_refl _, by decide, rfl, rfl⟩⟩
    have := heap_alloc_new ((w.alloc (Obj.cells #[.bool g0, .int .i64 ep, .slice A n c, .int .i64 fr] 57)).alloc (Obj.cells #[.bool false, .int .i64 0, .slice none 0 0, .int .i64 0] 57)) (Obj.cells #[] 25)
    rwa [hs] at this
  have HO := Lib.hid ho1
  have V0 := Lib.hid (((Own.arr w #[.bool g0, .int .i64 ep, .slice A n c, .int .i64 fr] 57 4 rfl (by decide)).alloc (Obj.cells #[.bool false, .int .i64 0, .slice none 0 0, .int .i64 0] 57)).alloc (Obj.cells #[] 25))
  have z0 := (Own.arr (w.alloc (Obj.cells #[.bool g0, .int .i64 ep, .slice A n c, .int .i64 fr] 57)) #[.bool false, .int .i64 0, .slice none 0 0, .int .i64 0] 57 4 rfl (by decide)).alloc (Obj.cells #[] 25)
  rw [show (w.alloc (Obj.cells #[.bool g0, .int .i64 ep, .slice A n c, .int .i64 fr] 57)).heap.size = w.heap.size + 1 by simp] at z0
  have Z0 := Lib.hid z0
  have x2 := V0.out.at' (j := 2) rfl
  have hb3 : w.heap.size + 1 + 1 ≤ (((w.alloc (Obj.cells #[.bool g0, .int .i64 ep, .slice A n c, .int .i64 fr] 57)).alloc (Obj.cells #[.bool false, .int .i64 0, .slice none 0 0, .int .i64 0] 57)).alloc (Obj.cells #[] 25)).heap.size := by simp
  have HB3 := Lib.hid hb3
  clear h hA hcell hcell2 hn hfl b0 ho0 ho1 z0 hb3
  go_enter Try.func27, Try.ntmps27
  go_wp2_with (at_builtin; refine appO (w.heap.size + 1 + 1) rfl (.tmp 3) (.tmp 5) 22 25 (.agg #[.int .i64 0, .int .i64 0, .string ⟨#[]⟩, .string ⟨#[]⟩]) 4 48 rfl Try.underlying22 infoRecX rfl (by decide) (by decide) _ 0 [] rfl A n c (flat rs) rfl HFL.out (flat_one rs) HA.out HC.out HO.out HB3.out (by omega) ?_; intro v1 w2 ho hg ha; rw [Nat.zero_add, List.nil_append] at ho; obtain ⟨D1, d1, hv1⟩ := ho.slice; subst hv1; have O1 := Lib.hid ho; have V1 := Lib.hid (V0.out.kept hg (Own.ne (by decide) V0.out HO.out)); have Z1 := Lib.hid (Z0.out.kept hg (Own.ne (by decide) Z0.out HO.out)); have B1 := Lib.hid (Below.grown HB.out hg HB.out.size (fun k hk => Nat.le_trans (by omega) (HO.out.base k hk))); have V2 := Lib.hid (V1.out.stored 2 (.slice D1 n d1)); have x2' := V1.out.at' (j := 2) rfl; have y2' := V1.out.free (j := 2) (by decide); have Z2 := Lib.hid (Z1.out.kept V2.out.2 (.inr (by simp [Value.ownBlock]))); have O2 := Lib.hid (O1.out.kept V2.out.2 (Own.ne (by decide) O1.out V1.out)); have a0 := V2.out.1.at' (j := 0) rfl; have a1 := V2.out.1.at' (j := 1) rfl; have a2 := V2.out.1.at' (j := 2) rfl; have a3 := V2.out.1.at' (j := 3) rfl; have c0 := Z2.out.at' (j := 0) rfl; have c1 := Z2.out.at' (j := 1) rfl; have c2 := Z2.out.at' (j := 2) rfl; have c3 := Z2.out.at' (j := 3) rfl; have f0 := Z2.out.free (j := 0) (by decide); have f1 := Z2.out.free (j := 1) (by decide); have f2 := Z2.out.free (j := 2) (by decide); have f3 := Z2.out.free (j := 3) (by decide); clear ho hg ha x2)
  refine bodyPost_ret (results_view (a := .bool g0) (b := .int .i64 ep) (c := .slice D1 n d1) (d := .int .i64 fr) rfl rfl (by go_simp) (by go_simp) (by go_simp) (by go_simp)) rfl ?_
  refine ⟨_, rfl, ?_, ?_⟩
  · have s0 := Z2.out.stored 0 (.bool g0)
    have s1 := s0.1.stored 1 (.int .i64 ep)
    have s2 := s1.1.stored 2 (.slice D1 n d1)
    have s3 := s2.1.stored 3 (.int .i64 fr)
    have k0 := O2.out.kept s0.2 (Own.ne (by decide) O2.out Z2.out)
    have k1 := k0.kept s1.2 (Own.ne (by decide) k0 s0.1)
    have k2 := k1.kept s2.2 (Own.ne (by decide) k1 s1.1)
    have k3 := k2.kept s3.2 (Own.ne (by decide) k2 s2.1)
    unfold OwnR
    rw [HN.out]
    exact k3.lower (by omega)
  · exact ((((B1.out.setCell (p := ⟨w.heap.size, 2, none⟩) (Nat.le_refl _) _).setCell (p := ⟨w.heap.size + 1, 0, none⟩) (Nat.le_succ _) _).setCell (p := ⟨w.heap.size + 1, 1, none⟩) (Nat.le_succ _) _).setCell (p := ⟨w.heap.size + 1, 2, none⟩) (Nat.le_succ _) _).setCell (p := ⟨w.heap.size + 1, 3, none⟩) (Nat.le_succ _) _
end Go.Proofs.Ytdgnpoapkjoknaa
