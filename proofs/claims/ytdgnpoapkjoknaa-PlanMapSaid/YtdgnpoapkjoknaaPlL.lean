/- The statement PlanMap: the walk. -/
import Derived.Test.YtdgnpoapkjoknaaPlK
import Derived.Test.YtdgnpoapkjoknaaPlG
namespace Go.Proofs.Ytdgnpoapkjoknaa
set_option linter.unusedVariables false
set_option linter.unusedSimpArgs false
open Go.RowKit

theorem OwnL.formN {w : World} {B : Nat} {v : Value} {q : PlanV} {N : Nat} (h : OwnL w B v q) (h3 : q.slots.length = N) (h4 : q.recs.length = N) :
    ∃ S c R d, v = .agg #[.int .i64 q.wipe, .int .i64 q.sec, .slice S N c, .slice R N d, .int .i64 q.free, .int .i64 q.ep] ∧ Rd w (.slice S N c) q.slots ∧ RdR w (.slice R N d) q.recs := by
  obtain ⟨S, R, rfl, hs, hr⟩ := h
  have a := Rd.ownP hs
  have b := RdR.own hr
  obtain ⟨A, c, rfl⟩ := hs.slice
  obtain ⟨C, d, rfl⟩ := hr.slice
  rw [h3] at a ⊢
  rw [h4] at b ⊢
  exact ⟨A, c, C, d, rfl, a, b⟩
theorem acc_sizes {L0 rl : List RecV} {i : Nat} (h1 : ∀ r ∈ L0, r.key.size ≤ 9223372036854775807 ∧ r.val.size ≤ 9223372036854775807) (h2 : ∀ r ∈ rl, r.key.size ≤ 9223372036854775807 ∧ r.val.size ≤ 9223372036854775807) : ∀ r ∈ accN L0 rl i, r.key.size ≤ 9223372036854775807 ∧ r.val.size ≤ 9223372036854775807 := by
  intro r hr
  rcases List.mem_append.1 hr with hr | hr
  · exact h1 r hr
  · exact h2 r (List.mem_of_mem_take (List.mem_filter.1 hr).1)
theorem rm_wN (N : Nat) (h : N ≤ 8) : wrap64 ((N : Int) - 1) = (N : Int) - 1 := IntWalk.wrap64_in _ ⟨by omega, by omega⟩
set_option maxRecDepth 100000 in
set_option maxHeartbeats 16000000 in
theorem PlanMap_walk (w : World) (g : Bool) (ep : Int) (F : Value) (rs : List RecV) (fr : Int) (hF : RdR w F rs) (hb : rs.length * 48 ≤ 140737488351232) (hz : ∀ r ∈ rs, r.key.size ≤ 9223372036854775807 ∧ r.val.size ≤ 9223372036854775807)
    (s : Int) (_ : -9223372036854775808 ≤ s ∧ s ≤ 9223372036854775807) (r : RecV) (z1 : r.key.size ≤ 9223372036854775807) (z2 : r.val.size ≤ 9223372036854775807) :
    Calls Try.prog 9 #[.agg #[.bool g, .int .i64 ep, F, .int .i64 fr], .int .i64 s, .agg #[.int .i64 r.k, .int .i64 r.e, .string r.key, .string r.val]] w fun e w' => e = .returned (.bool true) ∧ Below w.heap.size w w' := by
  have ca := fun (W : World) (v : Value) (h : RdR W v rs) => change_any W ⟨g, ep, rs, fr⟩ v s r h (by show (rs.length + 1) * 48 ≤ _; omega) hz z1 z2
  have LAW := chL_law ⟨g, ep, rs, fr⟩ s r z1 z2
  have BLD := Lib.hid (fun (W : World) (v : Value) (L : List RecV) (h : RdR W v L) (hl : L.length ≤ rs.length + 8) (hzz : ∀ r ∈ L, r.key.size ≤ 9223372036854775807 ∧ r.val.size ≤ 9223372036854775807) => rbuild_any W v L h (by omega) hzz)
  have WTH := Lib.hid (fun (W : World) (u : Value) (h : RdP W u (buildL rs)) => rwith_any W u (buildL rs) r h (by have := buildL_len rs; omega) z1 z2)
  have HZ := Lib.hid hz
  have HBB := Lib.hid hb
  obtain ⟨A, c, rfl⟩ := hF.form
  obtain ⟨n, hn⟩ : ∃ n, rs.length = n := ⟨_, rfl⟩
  obtain ⟨k, e0, key, val⟩ := r
  change ∀ (W : World) (v : Value), RdR W v rs → Calls Try.prog 28 #[.agg #[.bool g, .int .i64 ep, v, .int .i64 fr], .int .i64 s, .agg #[.int .i64 k, .int .i64 e0, .string key, .string val]] W _ at ca
  change Hid (∀ (W : World) (u : Value), RdP W u (buildL rs) → Calls Try.prog 18 #[u, .agg #[.int .i64 k, .int .i64 e0, .string key, .string val]] W _) at WTH
  simp only at LAW
  rw [hn] at hb hF ⊢
  have CA := Lib.hid ca
  have HN := Lib.hid hn
  have HF := Lib.hid hF
  have LW := Lib.hid LAW
  clear ca hn hF hb hz z1 z2 LAW
  simp only
  have B0 := Lib.hid (Bl.alloc (Bl.alloc (Below.refl w.heap.size w) (Obj.cells #[.bool g, .int .i64 ep, .slice A n c, .int .i64 fr] 57)) (Obj.cells #[.int .i64 k, .int .i64 e0, .string key, .string val] 25))
  have VB := Lib.hid ((Own.arr w #[.bool g, .int .i64 ep, .slice A n c, .int .i64 fr] 57 4 rfl (by decide)).alloc (Obj.cells #[.int .i64 k, .int .i64 e0, .string key, .string val] 25))
  have RX := Lib.hid (Bx.new1 w (Obj.cells #[.bool g, .int .i64 ep, .slice A n c, .int .i64 fr] 57) (.int .i64 k) (.int .i64 e0) (.string key) (.string val) 25)
  have F0 := Lib.hid (HF.out.below B0.out)
  go_enter Try.func9, Try.ntmps9
  go_wp2_with fail
  with_reducible refine (awake22 _).mono ?_
  rintro e w1 ⟨rfl, hb⟩
  have B1 := Lib.hid (Bl.then B0.out hb)
  have VB1 := Lib.hid (VB.out.below hb)
  have RX1 := Lib.hid (RX.out.below hb)
  have F1 := Lib.hid (F0.out.below hb)
  clear hb VB RX F0 B0
  have v0 := VB1.out.at' (j := 0) rfl
  have v1 := VB1.out.at' (j := 1) rfl
  have v2 := VB1.out.at' (j := 2) rfl
  have v3 := VB1.out.at' (j := 3) rfl
  obtain ⟨⟨x0, x1, x2, x3⟩, -⟩ := RX1.out
  go_wp2_with fail
  with_reducible refine (CA.out _ _ F1.out).mono ?_
  rintro e w2 ⟨q2, rfl, o2, hb⟩
  have B2 := Lib.hid (Bl.then B1.out hb)
  have HB2 := Lib.hid hb
  clear hb v0 v1 v2 v3 x0 x1 x2 x3 CA
  rcases LW.out with ⟨cc, hch, hcc⟩ | ⟨q, N, T, hch, hP⟩
  · rw [hch] at o2 ⊢
    have hc0 : (cc != 0) = true := by rw [bne_iff_ne]; exact hcc
    obtain ⟨S, sc, R, rc, rfl⟩ := zeroPl_form o2
    have X5 := Lib.hid (Own.arr w2 #[.int .i64 0, .int .i64 0, .slice S 0 sc, .slice R 0 rc, .int .i64 0, .int .i64 0] 60 6 rfl (by decide))
    have B6 := Lib.hid (Bl.alloc B2.out (Obj.cells #[.int .i64 0, .int .i64 0, .slice S 0 sc, .slice R 0 rc, .int .i64 0, .int .i64 0] 60))
    have y2 := X5.out.at' (j := 2) rfl
    clear o2 hch hcc
    go_wp2_with (go_at_call 22; refine (num_any _ _).mono ?_; rintro e w' ⟨rfl, rfl⟩)
    go_ret
    exact ⟨rfl, B6.out⟩
  · rw [hch] at o2 ⊢
    obtain ⟨wp, sec, sl, rl, pf, pe⟩ := q
    obtain ⟨p1, p2, p3, p4, p5, p6, p7, p8, p9, p10, p11⟩ := hP
    simp only at p3 p4 p7 p8 p10 p11
    obtain ⟨S1, s1, R1, r1, rfl, hS, hR⟩ := o2.formN p3 p4
    simp only at hS hR ⊢
    have W1 := Lib.hid p1
    have W2 := Lib.hid p2
    have L3 := Lib.hid p3
    have L4 := Lib.hid p4
    have P7 := Lib.hid p7
    have P8 := Lib.hid p8
    have P9 := Lib.hid p9
    have P10 := Lib.hid p10
    have P11 := Lib.hid p11
    have BP := Lib.hid (Bl.alloc HB2.out (Obj.cells #[.int .i64 wp, .int .i64 sec, .slice S1 N s1, .slice R1 N r1, .int .i64 pf, .int .i64 pe] 60))
    have X2 := Lib.hid (Own.arr w2 #[.int .i64 wp, .int .i64 sec, .slice S1 N s1, .slice R1 N r1, .int .i64 pf, .int .i64 pe] 60 6 rfl (by decide))
    have S2 := Lib.hid (hS.below (Bl.alloc (Below.refl _ _) (Obj.cells #[.int .i64 wp, .int .i64 sec, .slice S1 N s1, .slice R1 N r1, .int .i64 pf, .int .i64 pe] 60)))
    have R2 := Lib.hid (hR.below (Bl.alloc (Below.refl _ _) (Obj.cells #[.int .i64 wp, .int .i64 sec, .slice S1 N s1, .slice R1 N r1, .int .i64 pf, .int .i64 pe] 60)))
    have B3 := Lib.hid (Bl.then B1.out BP.out)
    have VB2 := Lib.hid (VB1.out.below BP.out)
    have RX2 := Lib.hid (RX1.out.below BP.out)
    have F2 := Lib.hid (F1.out.below BP.out)
    clear o2 hch p1 p2 p3 p4 p7 p8 p9 p10 p11 hS hR LW VB1 RX1 F1 HB2 BP B2
    have v2 := VB2.out.at' (j := 2) rfl
    go_wp2_with (go_at_call 22; refine (num_any _ _).mono ?_; rintro e w' ⟨rfl, rfl⟩)
    generalize w2.alloc (Obj.cells #[.int .i64 wp, .int .i64 sec, .slice S1 N s1, .slice R1 N r1, .int .i64 pf, .int .i64 pe] 60) = w3 at *
    generalize w2.heap.size = gp at *
    with_reducible refine (BLD.out _ _ rs F2.out (Nat.le_add_right _ _) HZ.out).mono ?_
    rw [W1.out]
    rintro e w4 ⟨va, rfl, oa, hb⟩
    obtain ⟨Aa, ca, rfl⟩ := Own.slice oa
    have OA := Lib.hid (OwnP.rd oa)
    have B4 := Lib.hid (Bl.then B3.out hb)
    have VB4 := Lib.hid (VB2.out.below hb)
    have RX4 := Lib.hid (RX2.out.below hb)
    have F4 := Lib.hid (F2.out.below hb)
    have X4 := Lib.hid (X2.out.below hb)
    have S4 := Lib.hid (S2.out.below hb)
    have R4 := Lib.hid (R2.out.below hb)
    clear oa hb v2 VB2 RX2 F2 X2 S2 R2 B3
    obtain ⟨⟨x0, x1, x2, x3⟩, -⟩ := RX4.out
    go_wp2_with fail
    with_reducible refine (WTH.out _ _ OA.out).mono ?_
    rw [W2.out.1, W2.out.2]
    rintro e w5 ⟨vb, rfl, ob, hb⟩
    obtain ⟨Ab, cb, rfl⟩ := Own.slice ob
    have OB := Lib.hid (OwnP.rd ob)
    have B5 := Lib.hid (Bl.then B4.out hb)
    have VB5 := Lib.hid (VB4.out.below hb)
    have F5 := Lib.hid (F4.out.below hb)
    have X5 := Lib.hid (X4.out.below hb)
    have S5 := Lib.hid (S4.out.below hb)
    have R5 := Lib.hid (R4.out.below hb)
    clear ob hb x0 x1 x2 x3 VB4 RX4 F4 X4 S4 R4 B4 OA W1 W2 WTH
    obtain ⟨tl, htl⟩ : ∃ n, T.length = n := ⟨_, rfl⟩
    rw [htl] at P9 OB ⊢
    have HTL := Lib.hid htl
    clear htl
    have y0 := X5.out.at' (j := 0) rfl
    have y1 := X5.out.at' (j := 1) rfl
    have y2 := X5.out.at' (j := 2) rfl
    have y3 := X5.out.at' (j := 3) rfl
    have v2 := VB5.out.at' (j := 2) rfl
    have hnn : decide ((N : Int) < 1) = false := decide_eq_false (by omega)
    have hnn2 : (N < 1) = False := eq_false (by omega)
    have HWN := Lib.hid (rm_wN N p6)
    by_cases hw : wp < 0
    · skip
      have L0 := Lib.hid (show (if wp < 0 then rs else []) = rs from if_pos hw)
      have d1 : decide (wp < 0) = true := decide_eq_true hw
      have d2 : decide (0 ≤ wp) = false := decide_eq_false (by omega)
      have P8' := Lib.hid (show buildE (accN rs rl N) = 0 ∧ buildL (accN rs rl N) = T by have h := P8.out; rwa [L0.out] at h)
      have P10' := Lib.hid (show True from trivial)
      clear hw P8 P10
      obtain ⟨A9, c9, hAv, hA0, hAc⟩ := F5.out.news
      rw [HN.out] at hAv hA0
      obtain ⟨rfl, _, rfl⟩ := Value.slice.inj hAv
      have HA0 := Lib.hid hA0
      have HAC := Lib.hid hAc
      have FL := Lib.hid (show (flat rs).length = n * 4 by rw [flat_len, HN.out])
      have hbytes : (0 + n) * 48 ≤ 140737488355328 := by have h := HBB.out; rw [HN.out] at h; omega
      clear hAv hA0 hAc
      go_wp2_with (at_builtin; refine appO w5.heap.size rfl (.tmp 70) (.tmp 72) 22 25 (.agg #[.int .i64 0, .int .i64 0, .string ⟨#[]⟩, .string ⟨#[]⟩]) 4 48 rfl Try.underlying22 infoRecX rfl (by decide) (by decide) _ 0 [] rfl A n c (flat rs) rfl FL.out (flat_one rs) HA0.out HAC.out (Own.nil _ _ _ _) (Nat.le_refl _) hbytes ?_; intro v1 w6 ho hg ha; have OI := Lib.hid (show Own w6 w5.heap.size 25 4 v1 (accN rs rl 0).length (flat (accN rs rl 0)) by rw [accN_zero, HN.out]; rw [Nat.zero_add, List.nil_append] at ho; exact ho); have BI := Lib.hid (Below.grown (Below.refl w5.heap.size w5) hg (Nat.le_refl _) (fun q hq => (Own.nil w5 w5.heap.size 25 4).base q hq)); clear ho hg ha)
      go_loopw [13, 14] (fun v13 ii wr => ∃ j : Nat, j ≤ N ∧ ii = .int .i64 (j : Int) ∧ Own wr w5.heap.size 25 4 v13 (accN rs rl j).length (flat (accN rs rl j)) ∧ Below w5.heap.size w5 wr) (fun _ ii _ => (N - intOf ii).toNat)
      case atStart => exact ⟨0, Nat.zero_le _, rfl, OI.out, BI.out⟩
      case round =>
        obtain ⟨j, hjN, rfl, o13, hb⟩ := hrel
        obtain ⟨D, dc, rfl⟩ := o13.slice
        have O13 := Lib.hid o13
        have HB := Lib.hid hb
        clear o13 hb OI BI y0 y1 y2 y3 v2
        have X6 := Lib.hid (X5.out.below HB.out)
        have S6 := Lib.hid (S5.out.below HB.out)
        have R6 := Lib.hid (R5.out.below HB.out)
        have y0 := X6.out.at' (j := 0) rfl
        have y1 := X6.out.at' (j := 1) rfl
        have y2 := X6.out.at' (j := 2) rfl
        have y3 := X6.out.at' (j := 3) rfl
        by_cases hlt : j < N
        · have hlt2 : (j : Int) < (N : Int) := Int.ofNat_lt.2 hlt
          obtain ⟨b, oo, c', hv, _, _, hcc⟩ := S6.out.pos (by rw [L3.out]; omega)
          rw [L3.out] at hv hcc
          obtain ⟨rfl, rfl⟩ := Value.slice.inj hv |> fun h => And.intro h.1 h.2.2
          have gs := hcc j hlt
          obtain ⟨b2, oo2, c2', hv2, _, _, hcc2⟩ := R6.out.pos (by rw [L4.out]; omega)
          rw [L4.out] at hv2 hcc2
          obtain ⟨rfl, rfl⟩ := Value.slice.inj hv2 |> fun h => And.intro h.1 h.2.2
          obtain ⟨g0, g1, g2, g3⟩ := hcc2 j hlt
          obtain ⟨a1, a2, a3, a4⟩ := P7.out j hlt
          have AY := Lib.hid (accN_yes (L0 := rs) (rl := rl) (i := j) (by rw [L4.out]; exact hlt))
          have AN := Lib.hid (accN_no (L0 := rs) (rl := rl) (i := j) (by rw [L4.out]; exact hlt))
          obtain ⟨x, hx⟩ : ∃ x, sl.getD j 0 = x := ⟨_, rfl⟩
          obtain ⟨rr, hrr⟩ : ∃ x, rl.getD j zeroR = x := ⟨_, rfl⟩
          rw [hx] at gs a1 a3 a4
          rw [hrr] at g0 g1 g2 g3 a1 a2 AY AN
          obtain ⟨rk, re, rkey, rval⟩ := rr
          simp only at g0 g1 g2 g3 a1 a2 AY AN
          have d3 : decide (x < 0) = false := decide_eq_false (by omega)
          have d4 : decide ((8 : Int) ≤ x) = false := decide_eq_false (by omega)
          have hlen := accN_len rs rl j
          have hby : ((accN rs rl j).length + 1) * 48 ≤ 140737488355328 := by have h := HBB.out; omega
          rw [d2] at a2
          clear hv hcc hv2 hcc2 hx hrr a3 a4 hlen
          rw [Bool.false_and] at a2
          rw [a2] at a1
          have hk9 : rk ≠ 0 := by rw [beq_eq_false_iff_ne] at a2; exact a2
          have HK9 := Lib.hid hk9
          have hwn := HWN.out
          clear hk9
          go_wp2_with (at_builtin; refine appO w5.heap.size rfl (.tmp 129) (.tmp 135) 22 25 (.agg #[.int .i64 0, .int .i64 0, .string ⟨#[]⟩, .string ⟨#[]⟩]) 4 48 rfl Try.underlying22 infoRecX rfl (by decide) (by decide) _ (accN rs rl j).length (flat (accN rs rl j)) rfl (some ⟨wr.heap.size, 0, none⟩) 1 1 [.int .i64 rk, .int .i64 re, .string rkey, .string rval] rfl rfl (cellsR_one ⟨rk, re, rkey, rval⟩) (fun h => by cases h) (box4 (Bx.new wr _ _ _ _ _)) (O13.out.alloc _) (Nat.le_trans HB.out.size (Bl.alloc (Below.refl _ _) _).size) hby ?_; intro v1 w7 ho hg ha; have Q13 := Lib.hid ho; have QB := Lib.hid (Below.grown (Bl.alloc HB.out (Obj.cells #[.int .i64 rk, .int .i64 re, .string rkey, .string rval] 25)) hg (Bl.alloc HB.out (Obj.cells #[.int .i64 rk, .int .i64 re, .string rkey, .string rval] 25)).size (fun q hq => O13.out.base q hq)); clear ho hg ha)
          go_roundw
          case rel =>
            refine ⟨j + 1, hlt, by first | go_num | rfl, ?_, QB.out⟩
            rw [AY.out HK9.out, flat_snoc, List.length_append]
            exact Q13.out
          case measure => clear hwn a1 a2; simp [intOf]; omega
        · obtain rfl : j = N := Nat.le_antisymm hjN (Nat.not_lt.1 hlt)
          have hd9 : decide ((j : Int) < (j : Int)) = false := decide_eq_false (Int.lt_irrefl _)
          have ROW := Lib.hid (RdR.own O13.out)
          have hlen := accN_len rs rl j
          have BB := BLD.out wr _ _ ROW.out (Nat.le_trans hlen (by exact Nat.add_le_add_left p6 _)) (acc_sizes HZ.out P11.out)
          rw [P8'.out.1, P8'.out.2] at BB
          have BBH := Lib.hid BB
          have B7 := Lib.hid (Bl.then B5.out HB.out)
          have OB6 := Lib.hid (OB.out.below HB.out)
          have P6 := Lib.hid p6
          clear hlt BB hlen
          go_wp2_with fail
          with_reducible refine BBH.out.mono ?_
          rintro e w7 ⟨vc, rfl, oc, hb⟩
          obtain ⟨Ac, c7, rfl⟩ := Own.slice oc
          rw [HTL.out]
          have OC := Lib.hid (show RdP w7 (.slice Ac tl c7) T by have h := OwnP.rd oc; rwa [HTL.out] at h)
          have OB7 := Lib.hid (OB6.out.below hb)
          have X7 := Lib.hid (X6.out.below hb)
          have B8 := Lib.hid (Bl.then B7.out hb)
          clear oc hb y0 y1 y2 y3 BBH
          have y0 := X7.out.at' (j := 0) rfl
          have y1 := X7.out.at' (j := 1) rfl
          have hd7 : decide ((tl : Int) ≤ 7) = true := decide_eq_true (by have := P9.out; omega)
          have SP := Lib.hid (same_pairs _ _ T T _ OC.out OB7.out)
          rw [decide_eq_true (rfl : T = T)] at SP
          go_wp2_with (go_at_call 21; refine SP.out.mono ?_; rintro e w' ⟨rfl, q8, rfl⟩)
          go_ret
          exact ⟨rfl, Bl.drewN B8.out _⟩
    · skip
      have L0 := Lib.hid (show (if wp < 0 then rs else []) = [] from if_neg hw)
      have d1 : decide (wp < 0) = false := decide_eq_false hw
      have d2 : decide (0 ≤ wp) = true := decide_eq_true (by omega)
      have P8' := Lib.hid (show buildE (accN [] rl N) = 0 ∧ buildL (accN [] rl N) = T by have h := P8.out; rwa [L0.out] at h)
      have P10' := Lib.hid (show wp = sec ∧ sec ≠ s from (P10.out.resolve_left hw).2)
      clear hw P8 P10
      have OI := Lib.hid (show Own w5 w5.heap.size 25 4 (.slice none 0 0) (accN [] rl 0).length (flat (accN [] rl 0)) by rw [accN_zero]; exact Own.nil _ _ _ _)
      have BI := Lib.hid (Below.refl w5.heap.size w5)
      go_wp2_with fail
      go_loopw [13, 14] (fun v13 ii wr => ∃ j : Nat, j ≤ N ∧ ii = .int .i64 (j : Int) ∧ Own wr w5.heap.size 25 4 v13 (accN [] rl j).length (flat (accN [] rl j)) ∧ Below w5.heap.size w5 wr) (fun _ ii _ => (N - intOf ii).toNat)
      case atStart => exact ⟨0, Nat.zero_le _, rfl, OI.out, BI.out⟩
      case round =>
        obtain ⟨j, hjN, rfl, o13, hb⟩ := hrel
        obtain ⟨D, dc, rfl⟩ := o13.slice
        have O13 := Lib.hid o13
        have HB := Lib.hid hb
        clear o13 hb OI BI y0 y1 y2 y3 v2
        have X6 := Lib.hid (X5.out.below HB.out)
        have S6 := Lib.hid (S5.out.below HB.out)
        have R6 := Lib.hid (R5.out.below HB.out)
        have y0 := X6.out.at' (j := 0) rfl
        have y1 := X6.out.at' (j := 1) rfl
        have y2 := X6.out.at' (j := 2) rfl
        have y3 := X6.out.at' (j := 3) rfl
        by_cases hlt : j < N
        · have hlt2 : (j : Int) < (N : Int) := Int.ofNat_lt.2 hlt
          obtain ⟨b, oo, c', hv, _, _, hcc⟩ := S6.out.pos (by rw [L3.out]; omega)
          rw [L3.out] at hv hcc
          obtain ⟨rfl, rfl⟩ := Value.slice.inj hv |> fun h => And.intro h.1 h.2.2
          have gs := hcc j hlt
          obtain ⟨b2, oo2, c2', hv2, _, _, hcc2⟩ := R6.out.pos (by rw [L4.out]; omega)
          rw [L4.out] at hv2 hcc2
          obtain ⟨rfl, rfl⟩ := Value.slice.inj hv2 |> fun h => And.intro h.1 h.2.2
          obtain ⟨g0, g1, g2, g3⟩ := hcc2 j hlt
          obtain ⟨a1, a2, a3, a4⟩ := P7.out j hlt
          have AY := Lib.hid (accN_yes (L0 := []) (rl := rl) (i := j) (by rw [L4.out]; exact hlt))
          have AN := Lib.hid (accN_no (L0 := []) (rl := rl) (i := j) (by rw [L4.out]; exact hlt))
          obtain ⟨x, hx⟩ : ∃ x, sl.getD j 0 = x := ⟨_, rfl⟩
          obtain ⟨rr, hrr⟩ : ∃ x, rl.getD j zeroR = x := ⟨_, rfl⟩
          rw [hx] at gs a1 a3 a4
          rw [hrr] at g0 g1 g2 g3 a1 a2 AY AN
          obtain ⟨rk, re, rkey, rval⟩ := rr
          simp only at g0 g1 g2 g3 a1 a2 AY AN
          have d3 : decide (x < 0) = false := decide_eq_false (by omega)
          have d4 : decide ((8 : Int) ≤ x) = false := decide_eq_false (by omega)
          have hlen := accN_len [] rl j
          have hby : ((accN [] rl j).length + 1) * 48 ≤ 140737488355328 := by have h := HBB.out; simp only [List.length_nil] at hlen; omega
          rw [d2] at a2
          clear hv hcc hv2 hcc2 hx hrr a3 a4 hlen
          rw [Bool.true_and] at a2
          cases hh : (rk == 0) with
          | false =>
            rw [hh] at a1 a2
            have hk9 : rk ≠ 0 := by rw [beq_eq_false_iff_ne] at hh; exact hh
            replace a2 := a2.symm
            have HK9 := Lib.hid hk9
            have hwn := HWN.out
            clear hk9
            go_wp2_with (at_builtin; refine appO w5.heap.size rfl (.tmp 129) (.tmp 135) 22 25 (.agg #[.int .i64 0, .int .i64 0, .string ⟨#[]⟩, .string ⟨#[]⟩]) 4 48 rfl Try.underlying22 infoRecX rfl (by decide) (by decide) _ (accN [] rl j).length (flat (accN [] rl j)) rfl (some ⟨wr.heap.size, 0, none⟩) 1 1 [.int .i64 rk, .int .i64 re, .string rkey, .string rval] rfl rfl (cellsR_one ⟨rk, re, rkey, rval⟩) (fun h => by cases h) (box4 (Bx.new wr _ _ _ _ _)) (O13.out.alloc _) (Nat.le_trans HB.out.size (Bl.alloc (Below.refl _ _) _).size) hby ?_; intro v1 w7 ho hg ha; have Q13 := Lib.hid ho; have QB := Lib.hid (Below.grown (Bl.alloc HB.out (Obj.cells #[.int .i64 rk, .int .i64 re, .string rkey, .string rval] 25)) hg (Bl.alloc HB.out (Obj.cells #[.int .i64 rk, .int .i64 re, .string rkey, .string rval] 25)).size (fun q hq => O13.out.base q hq)); clear ho hg ha)
            go_roundw
            case rel =>
              refine ⟨j + 1, hlt, by first | go_num | rfl, ?_, QB.out⟩
              rw [AY.out HK9.out, flat_snoc, List.length_append]
              exact Q13.out
            case measure => clear hwn a1 a2; simp [intOf]; omega
          | true =>
            rw [hh] at a1 a2
            have hk9 : rk = 0 := by rw [beq_iff_eq] at hh; exact hh
            have HK9 := Lib.hid hk9
            replace a2 := a2.symm
            have hwn := HWN.out
            clear hk9
            go_wp2_with fail
            go_roundw
            case rel =>
              refine ⟨j + 1, hlt, by first | go_num | rfl, ?_, HB.out⟩
              rw [AN.out HK9.out]
              exact O13.out
            case measure => clear hwn a1 a2; simp [intOf]; omega
        · obtain rfl : j = N := Nat.le_antisymm hjN (Nat.not_lt.1 hlt)
          have hd9 : decide ((j : Int) < (j : Int)) = false := decide_eq_false (Int.lt_irrefl _)
          have ROW := Lib.hid (RdR.own O13.out)
          have hlen := accN_len [] rl j
          have BB := BLD.out wr _ _ ROW.out (Nat.le_trans hlen (by show 0 + j ≤ _; omega)) (acc_sizes (fun r hr => by simp at hr) P11.out)
          rw [P8'.out.1, P8'.out.2] at BB
          have BBH := Lib.hid BB
          have B7 := Lib.hid (Bl.then B5.out HB.out)
          have OB6 := Lib.hid (OB.out.below HB.out)
          have P6 := Lib.hid p6
          clear hlt BB hlen
          go_wp2_with fail
          with_reducible refine BBH.out.mono ?_
          rintro e w7 ⟨vc, rfl, oc, hb⟩
          obtain ⟨Ac, c7, rfl⟩ := Own.slice oc
          rw [HTL.out]
          have OC := Lib.hid (show RdP w7 (.slice Ac tl c7) T by have h := OwnP.rd oc; rwa [HTL.out] at h)
          have OB7 := Lib.hid (OB6.out.below hb)
          have X7 := Lib.hid (X6.out.below hb)
          have B8 := Lib.hid (Bl.then B7.out hb)
          clear oc hb y0 y1 y2 y3 BBH
          have y0 := X7.out.at' (j := 0) rfl
          have y1 := X7.out.at' (j := 1) rfl
          have hd7 : decide ((tl : Int) ≤ 7) = true := decide_eq_true (by have := P9.out; omega)
          have e1 : (wp == sec) = true := by rw [beq_iff_eq]; exact P10'.out.1
          have e2 : (sec != s) = true := by rw [bne_iff_ne]; exact P10'.out.2
          have SP := Lib.hid (same_pairs _ _ T T _ OC.out OB7.out)
          rw [decide_eq_true (rfl : T = T)] at SP
          go_wp2_with (go_at_call 21; refine SP.out.mono ?_; rintro e w' ⟨rfl, q8, rfl⟩)
          go_ret
          exact ⟨rfl, Bl.drewN B8.out _⟩
end Go.Proofs.Ytdgnpoapkjoknaa
