/- The statement ScanCut: the walk. -/
import Derived.Test.YtgfldfkgialdlaaScanT
import Derived.BigQuiet
namespace Go.Proofs.Ytgfldfkgialdlaa
set_option linter.unusedVariables false
set_option linter.unusedSimpArgs false
open Go.RowKit

theorem Own.capd {w : World} {B : Nat} {e : TypeId} {size : Nat} {A : Option Addr} {n c : Nat} {xs : List Value} (h : Own w B e size (.slice A n c) n xs) : n ≤ c ∧ c ≤ 9223372036854775807 := by
  rcases h.2 with ⟨h', _⟩ | ⟨g', cap', cur, fz, h', _, _, _, h1, h2, _⟩
  · simp at h'
    omega
  · simp only [Value.slice.injEq, true_and] at h'
    obtain ⟨_, rfl⟩ := h'
    exact ⟨h1, by unfold maxLen at h2; omega⟩
theorem RdR.pre {w : World} {A : Option Addr} {m c : Nat} {xs ys : List RecV} (h : RdR w (.slice A m c) (xs ++ ys)) : RdR w (.slice A xs.length c) xs := by
  rcases h with ⟨h1, A', c', h2, h3⟩ | ⟨b, o, c', h1, h2, h3, h4⟩
  · simp at h1 h2
    obtain ⟨rfl, _⟩ := h1
    obtain ⟨rfl, _, rfl⟩ := h2
    exact .inl ⟨rfl, A, c, rfl, h3⟩
  · simp only [Value.slice.injEq] at h1
    obtain ⟨rfl, rfl, rfl⟩ := h1
    rw [List.length_append] at h2
    refine .inr ⟨b, o, c, rfl, by omega, h3, fun j u hu => h4 j u ?_⟩
    have : flat (xs ++ ys) = flat xs ++ flat ys := by simp [flat]
    rw [this, List.getElem?_append_left ?_]
    · exact hu
    · exact (List.getElem?_eq_some_iff.1 hu).1
theorem num_q (n : Int) (w : World) : Calls Try.prog 17 #[.int .i64 n] w fun e w' => e = .returned (.int .i64 n) ∧ w' = w :=
  (num_any n w).mono fun e w' ⟨h1, h2⟩ => ⟨h1, h2.symm⟩
theorem same_q (va vb : Value) (xs : List RecV) (w : World) (ha : RdR w va xs) (hb : RdR w vb xs) : Calls Try.prog 32 #[va, vb] w fun e w' => e = .returned (.bool true) ∧ ∃ q, w' = w.drewN q :=
  (same_recs va vb xs xs w ha hb).mono fun e w' ⟨h1, h2⟩ => ⟨by rw [h1, decide_eq_true rfl], h2⟩
set_option maxRecDepth 100000 in
set_option maxHeartbeats 4000000 in
theorem scut_walk (va : Value) (rs : List RecV) (s t first second : ByteArray) (f : Int) (g : Bool) (p : Int) (F n : Nat) (qs : List RecV) (k e0 : Int) (key v : ByteArray)
    (hS : ∀ w, RdR w va rs → Calls Try.prog 24 #[va, .slice none 0 0] w fun e w' => e = .returned (.string s) ∧ Below w.heap.size w w')
    (zs : s.size = 512) (h1 : scanG s = g) (h2 : scanP s = p) (h3 : freeS s = (F : Int)) (hF8 : F ≤ 8) (hF1 : 1 ≤ F) (h4 : recsS s = qs) (h5 : qs.length = n) (hn : n ≤ 7)
    (hR : ∀ w, Calls Try.prog 14 #[.agg #[.int .i64 k, .int .i64 e0, .string key, .string v]] w fun e w' => e = .returned (.tuple #[.string t, .int .i64 f]) ∧ Below w.heap.size w w')
    (hM : f = 0 → F < 8 → k ≠ 0 → CutS s t first second F g p qs ⟨k, e0, key, v⟩) (w : World) (ha : RdR w va rs) :
    Calls Try.prog 12 #[va, .agg #[.int .i64 k, .int .i64 e0, .string key, .string v], .string first, .string second] w fun e w' => e = .returned (.bool true) ∧ Below w.heap.size w w' := by
  have sa := fun w => scan_told s (by omega) g p (F : Int) 0 n h1 h2 h3 (if_pos zs) (by rw [h4, h5]) w
  rw [h4] at sa
  have SA := Lib.hid sa
  have HS := Lib.hid hS
  have HR := Lib.hid hR
  have HM := Lib.hid hM
  have HA := Lib.hid ha
  have H5 := Lib.hid h5
  have ZS := Lib.hid zs
  clear sa h1 h2 h3 h4 h5 hS hR hM ha zs
  go_enter Try.func12, Try.ntmps12
  go_wp2_with fail
  with_reducible refine (awake20 _).mono ?_
  rintro e w0 ⟨rfl, hb⟩
  have B0 := Lib.hid (Bl.then (Bl.alloc (Below.refl _ _) _) hb)
  have X0 := Lib.hid (Bx.below (Bx.new w (.int .i64 k) (.int .i64 e0) (.string key) (.string v) 23) hb)
  clear hb
  go_wp2_with fail
  with_reducible refine (HS.out _ (HA.out.below B0.out)).mono ?_
  rintro e w1 ⟨rfl, hb⟩
  have B1 := Lib.hid (Bl.then B0.out hb)
  have X1 := Lib.hid (Bx.below X0.out hb)
  clear hb B0 X0 HS HA
  go_wp2_with fail
  with_reducible refine (SA.out _).mono ?_
  rintro e w2 ⟨A, c, rfl, oa, hb⟩
  have B2 := Lib.hid (Bl.alloc (Bl.then B1.out hb) (Obj.cells #[.bool g, .int .i64 p, .slice A n c, .int .i64 (F : Int)] 51))
  have X2 := Lib.hid (Bx.below (Bx.below X1.out hb) (Bl.alloc (Below.refl _ _) (Obj.cells #[.bool g, .int .i64 p, .slice A n c, .int .i64 (F : Int)] 51)))
  have V2 := Lib.hid (Bx.new w2 (.bool g) (.int .i64 p) (.slice A n c) (.int .i64 (F : Int)) 51)
  have RA2 := Lib.hid (RdR.own (oa.alloc (Obj.cells #[.bool g, .int .i64 p, .slice A n c, .int .i64 (F : Int)] 51)))
  clear hb oa B1 X1
  obtain ⟨⟨x0, x1, x2, x3⟩, -⟩ := X2.out
  go_wp2_with fail
  with_reducible refine (HR.out _).mono ?_
  rintro e w3 ⟨rfl, hb⟩
  have B3 := Lib.hid (Bl.then B2.out hb)
  have X3 := Lib.hid (Bx.below X2.out hb)
  have V3 := Lib.hid (Bx.below V2.out hb)
  have RA3 := Lib.hid (RA2.out.below hb)
  clear hb B2 X2 V2 RA2 HR x0 x1 x2 x3
  obtain ⟨⟨x0, x1, x2, x3⟩, -⟩ := X3.out
  obtain ⟨⟨v0, v1, v2, v3⟩, -⟩ := V3.out
  generalize w2.heap.size = gv at *
  by_cases hf : f = 0
  · subst hf
    have hl1 : decide ((F : Int) < 1) = false := decide_eq_false (by omega)
    by_cases h8 : F < 8
    · have hl8 : decide ((8 : Int) ≤ (F : Int)) = false := decide_eq_false (by omega)
      by_cases hk : k = 0
      · subst hk
        go_wp2_with (go_at_call 17; refine (num_any _ _).mono ?_; rintro e w' ⟨rfl, rfl⟩)
        go_ret
        exact ⟨rfl, B3.out⟩
      · have hk2 : (k == 0) = false := by rw [beq_eq_false_iff_ne]; exact hk
        obtain ⟨a1, a2, s', u, zt, za, za1, za2, zs', p1, p2, p3, p4, hu, hs', c1, c2, c3, c4, hne⟩ := HM.out rfl h8 hk
        have s1 := ext_data t 0 32 (by omega)
        have s2 := ext_data t 32 64 (by omega)
        have k1 := fun w => rprog_any (aroundB s) ((2048 + 64 * F : Nat) : Int) (t.extract 0 32) first w (by omega) (by omega) (by omega)
        have k2 := fun w => rprog_any a1 ((2048 + 64 * F + 32 : Nat) : Int) (t.extract 32 64) second w (by omega) (by omega) (by omega)
        rw [p1, p2, show ((2048 + 64 * F : Nat) : Int) = 2048 + 64 * (F : Int) by omega] at k1
        rw [p3, p4, show ((2048 + 64 * F + 32 : Nat) : Int) = 2048 + 64 * (F : Int) + 32 by omega] at k2
        obtain ⟨a0, h0⟩ : ∃ a0, aroundB s = a0 := ⟨_, rfl⟩
        obtain ⟨bl, hbl⟩ : ∃ b, str blankL = b := ⟨_, rfl⟩
        have zbl : bl.size = 4096 := by rw [← hbl]; exact blank_size
        rw [h0] at k1 za
        rw [aroundB, hbl] at h0
        obtain ⟨ql, hql⟩ : ∃ z, qs ++ (if u = t then [(⟨k, e0, key, v⟩ : RecV)] else []) = z := ⟨_, rfl⟩
        obtain ⟨m, hm⟩ : ∃ z, ql.length = z := ⟨_, rfl⟩
        obtain ⟨fr, hfr⟩ : ∃ z, (if u = blank64 then F else F + 1) = z := ⟨_, rfl⟩
        rw [hql] at c3
        rw [hfr] at c4
        have hnm : n ≤ m ∧ m ≤ n + 1 := by rw [← hm, ← hql, List.length_append, H5.out]; split <;> simp
        have hSU := fun w => scan_told s' (by omega) g p (fr : Int) 0 m c1 c2 c4 (if_pos zs') (by rw [c3, hm]) w
        rw [c3] at hSU
        have SU := Lib.hid hSU
        have HQL := Lib.hid hql
        have HMM := Lib.hid hm
        have HFR := Lib.hid hfr
        have HNM := Lib.hid hnm
        clear hSU hql hm hfr hnm
        have K1 := Lib.hid k1
        have K2 := Lib.hid k2
        have H0 := Lib.hid h0
        have HBL := Lib.hid hbl
        have ZT := Lib.hid zt
        have ZA1 := Lib.hid za1
        have ZA2 := Lib.hid za2
        have ZBL := Lib.hid zbl
        have HU := Lib.hid hu
        have HS' := Lib.hid hs'
        have HNE := Lib.hid hne
        clear k1 k2 h0 hbl zt za1 za2 zbl hu hs' c1 c2 c3 c4 hne p1 p2 p3 p4 s1 s2 za HM SA hk zs'
        go_wp2_with (go_at_call 17; refine (num_any _ _).mono ?_; rintro e w' ⟨rfl, rfl⟩)
        clear hl1 hl8 hk2 v0 v1 v2 v3 x0 x1 x2 x3
        have SH := Lib.hid (show Below w3.heap.size w3 w3.drew from Bl.drewN (Below.refl _ _) 1)
        have zbl := ZBL.out
        have zs := ZS.out
        go_region_held3 (fun w' => Below w3.heap.size w3 w') (first | exact SH.out | assumption | exact hs2) ((go_at_call 22; with_reducible refine (rblank_any _).mono ?_; rw [HBL.out]; rintro e w4 ⟨rfl, hb⟩; have hs2 : Below w3.heap.size w3 w4 := Bl.then (by assumption) hb; clear hb))
        have hb : Below w3.heap.size w3 w4 := by assumption
        have B4 := Lib.hid (Bl.then B3.out hb)
        have X4 := Lib.hid (Bx.below X3.out hb)
        have V4 := Lib.hid (Bx.below V3.out hb)
        have RA4 := Lib.hid (RA3.out.below hb)
        clear hb B3 X3 V3 RA3 SH
        rw [H0.out]
        have zt := ZT.out
        go_wp2_with fail
        with_reducible refine (K1.out _).mono ?_
        rintro e w5 ⟨rfl, hb⟩
        have B5 := Lib.hid (Bl.then B4.out hb)
        have X5 := Lib.hid (Bx.below X4.out hb)
        have V5 := Lib.hid (Bx.below V4.out hb)
        have RA5 := Lib.hid (RA4.out.below hb)
        have za1 := ZA1.out
        clear hb B4 X4 V4 RA4 K1
        go_wp2_with fail
        with_reducible refine (K2.out _).mono ?_
        rintro e w6 ⟨rfl, hb⟩
        have B6 := Lib.hid (Bl.then B5.out hb)
        have X6 := Lib.hid (Bx.below X5.out hb)
        have V6 := Lib.hid (Bx.below V5.out hb)
        have RA6 := Lib.hid (RA5.out.below hb)
        have za2 := ZA2.out
        have hu := HU.out
        have hs' := HS'.out
        have b1 : 2048 + 64 * (F : Int) + 64 ≤ 4096 := by omega
        have b2 : 2048 + 64 * (F : Int) ≤ 2048 + 64 * (F : Int) + 64 := by omega
        have b3 : (0 : Int) ≤ 2048 + 64 * (F : Int) + 64 := by omega
        have b4 : (0 : Int) ≤ 2048 + 64 * (F : Int) := by omega
        have b5 : (2048 + 64 * (F : Int)).toNat = 2048 + 64 * F := by omega
        have b6 : (2048 + 64 * (F : Int) + 64).toNat = 2048 + 64 * F + 64 := by omega
        have b7 : 2048 + 64 * F + 64 ≤ 4096 := by omega
        have b8 : 2048 + 64 * F ≤ 2048 + 64 * F + 64 := by omega
        clear hb B5 X5 V5 RA5 K2 za1
        go_wp2_with fail
        with_reducible refine (SU.out _).mono ?_
        rintro e w7 ⟨D, d, rfl, od, hb⟩
        have cp := od.capd
        have B7 := Lib.hid (Bl.alloc (Bl.then B6.out hb) (Obj.cells #[.bool g, .int .i64 p, .slice D m d, .int .i64 (fr : Int)] 51))
        have X7 := Lib.hid (Bx.below (Bx.below X6.out hb) (Bl.alloc (Below.refl _ _) (Obj.cells #[.bool g, .int .i64 p, .slice D m d, .int .i64 (fr : Int)] 51)))
        have V7 := Lib.hid (Bx.below (Bx.below V6.out hb) (Bl.alloc (Below.refl _ _) (Obj.cells #[.bool g, .int .i64 p, .slice D m d, .int .i64 (fr : Int)] 51)))
        have W7 := Lib.hid (Bx.new w7 (.bool g) (.int .i64 p) (.slice D m d) (.int .i64 (fr : Int)) 51)
        have RA7 := Lib.hid ((RA6.out.below hb).below (Bl.alloc (Below.refl _ _) (Obj.cells #[.bool g, .int .i64 p, .slice D m d, .int .i64 (fr : Int)] 51)))
        have RD7 := Lib.hid (RdR.own (od.alloc (Obj.cells #[.bool g, .int .i64 p, .slice D m d, .int .i64 (fr : Int)] 51)))
        clear hb od B6 X6 V6 RA6 SU b1 b2 b3 b4 b5 b6 b7 b8 za2 hs'
        go_wp2_with fail
        generalize w7.alloc (Obj.cells #[.bool g, .int .i64 p, .slice D m d, .int .i64 (fr : Int)] 51) = W at *
        generalize w7.heap.size = gw at *
        have hnm := HNM.out
        have PRE := Lib.hid (show RdR W (.slice D n d) qs by have h := RD7.out; rw [← HQL.out] at h; have h2 := h.pre; rw [H5.out] at h2; exact h2)
        have gd : decide ((m : Int) < (n : Int)) = false := decide_eq_false (by omega)
        have nd : n ≤ d := by omega
        obtain ⟨⟨v0, v1, v2, v3⟩, -⟩ := V7.out
        obtain ⟨⟨y0, y1, y2, y3⟩, -⟩ := W7.out
        go_quiet ((first
          | (go_at_call 17; exact Calls.quiet_of_same (num_q _ _))
          | (go_at_call 32; exact Calls.quiet_of (same_q _ _ qs _ (PRE.out.below (Bl.drewN (Below.refl _ _) _)) (RA7.out.below (Bl.drewN (Below.refl _ _) _))))))
        clear nd
        by_cases hut : u = t
        · have w1 := eq_tl hut
          have hql := HQL.out
          rw [if_pos hut] at hql
          have hm := HMM.out
          rw [← hql, List.length_append, H5.out] at hm
          have hm : n + 1 = m := hm
          have hfr := HFR.out
          rw [if_neg (by rw [hut]; exact HNE.out)] at hfr
          have w2 : (u.toList == (bl.extract 0 64).toList) = false := ne_tl (by rw [hut, ← HBL.out]; exact HNE.out)
          obtain ⟨b, o, c', hv, _, _, hcc⟩ := RD7.out.pos (by rw [HMM.out]; omega)
          rw [HMM.out] at hv hcc
          obtain ⟨rfl, rfl⟩ := Value.slice.inj hv |> fun h => And.intro h.1 h.2.2
          obtain ⟨z0, z1, z2, z3⟩ := hcc n (by omega)
          have hqn : ql.getD n zeroR = ⟨k, e0, key, v⟩ := by
            rw [← hql, List.getD_eq_getElem?_getD, List.getElem?_append_right (by rw [H5.out]; exact Nat.le_refl _), H5.out, Nat.sub_self]
            rfl
          rw [hqn] at z0 z1 z2 z3
          have z0 : W.cell? ⟨b, o + n * 4, none⟩ = some (.int .i64 k) := z0
          have z1 : W.cell? ⟨b, o + n * 4 + 1, none⟩ = some (.int .i64 e0) := z1
          have z2 : W.cell? ⟨b, o + n * 4 + 2, none⟩ = some (.string key) := z2
          have z3 : W.cell? ⟨b, o + n * 4 + 3, none⟩ = some (.string v) := z3
          have kr := fun W => neq_dec ⟨k, e0, key, v⟩ ⟨k, e0, key, v⟩ W
          simp only [decide_true, Bool.not_true] at kr
          have i1 : (n : Int) < (m : Int) := by omega
          have i2 : ((m : Int) == (n : Int) + 1) = true := by rw [beq_iff_eq]; omega
          have i3 : ((fr : Int) == (F : Int) + 1) = true := by rw [beq_iff_eq]; omega
          obtain ⟨⟨x0, x1, x2, x3⟩, -⟩ := X7.out
          clear hcc hv hql hqn hm hfr hut hu HQL HMM HFR H5
          go_wp2_with fail
          go_quiet (fail)
          generalize nq = nr at *
          clear v0 v1 v2 v3 y0 y1 y2 y3 x0 x1 x2 x3 z0 z1 z2 z3 kr i1 i2 PRE RD7 RA7
          go_wp2_with fail
          with_reducible refine (rblank_any _).mono ?_
          rw [HBL.out]
          rintro e w8 ⟨rfl, hb⟩
          have zbl := ZBL.out
          have B8 := Lib.hid (Bl.then (Bl.drewN B7.out _) hb)
          obtain ⟨⟨v0, v1, v2, v3⟩, -⟩ := Bx.below (Bx.below V7.out (Bl.drewN (Below.refl _ _) _)) hb
          obtain ⟨⟨y0, y1, y2, y3⟩, -⟩ := Bx.below (Bx.below W7.out (Bl.drewN (Below.refl _ _) _)) hb
          clear hb V7 W7 X7 B7
          go_wp2_with fail
          go_ret
          exact ⟨rfl, B8.out⟩
        · have w1 := ne_tl hut
          have hql := HQL.out
          rw [if_neg hut, List.append_nil] at hql
          have hm := HMM.out
          rw [← hql, H5.out] at hm
          have i2 : ((m : Int) == (n : Int) + 1) = false := by rw [beq_eq_false_iff_ne]; omega
          clear hql hm hut hu HQL HMM H5 PRE RD7 RA7
          go_wp2_with fail
          go_quiet (fail)
          generalize nq = nr at *
          clear v0 v1 v2 v3 y0 y1 y2 y3 i2
          by_cases hub : u = blank64
          · have w2 : (u.toList == (bl.extract 0 64).toList) = true := eq_tl (by rw [hub, ← HBL.out]; rfl)
            have hfr := HFR.out
            rw [if_pos hub] at hfr
            have i3 : ((fr : Int) == (F : Int)) = true := by rw [beq_iff_eq]; omega
            clear hub hfr HFR
            go_wp2_with fail
            with_reducible refine (rblank_any _).mono ?_
            rw [HBL.out]
            rintro e w8 ⟨rfl, hb⟩
            have zbl := ZBL.out
            have B8 := Lib.hid (Bl.then (Bl.drewN B7.out _) hb)
            obtain ⟨⟨v0, v1, v2, v3⟩, -⟩ := Bx.below (Bx.below V7.out (Bl.drewN (Below.refl _ _) _)) hb
            obtain ⟨⟨y0, y1, y2, y3⟩, -⟩ := Bx.below (Bx.below W7.out (Bl.drewN (Below.refl _ _) _)) hb
            clear hb V7 W7 X7 B7
            go_wp2_with fail
            go_ret
            exact ⟨rfl, B8.out⟩
          · have w2 : (u.toList == (bl.extract 0 64).toList) = false := ne_tl (by rw [← HBL.out]; exact hub)
            have hfr := HFR.out
            rw [if_neg hub] at hfr
            have i3 : ((fr : Int) == (F : Int) + 1) = true := by rw [beq_iff_eq]; omega
            clear hub hfr HFR
            go_wp2_with fail
            with_reducible refine (rblank_any _).mono ?_
            rw [HBL.out]
            rintro e w8 ⟨rfl, hb⟩
            have zbl := ZBL.out
            have B8 := Lib.hid (Bl.then (Bl.drewN B7.out _) hb)
            obtain ⟨⟨v0, v1, v2, v3⟩, -⟩ := Bx.below (Bx.below V7.out (Bl.drewN (Below.refl _ _) _)) hb
            obtain ⟨⟨y0, y1, y2, y3⟩, -⟩ := Bx.below (Bx.below W7.out (Bl.drewN (Below.refl _ _) _)) hb
            clear hb V7 W7 X7 B7
            go_wp2_with fail
            go_ret
            exact ⟨rfl, B8.out⟩
    · have hl8 : decide ((8 : Int) ≤ (F : Int)) = true := decide_eq_true (by omega)
      go_wp2_with (go_at_call 17; refine (num_any _ _).mono ?_; rintro e w' ⟨rfl, rfl⟩)
      go_ret
      exact ⟨rfl, B3.out⟩
  · have hf2 : (f != 0) = true := by rw [bne_iff_ne]; exact hf
    go_wp2_with (go_at_call 17; refine (num_any _ _).mono ?_; rintro e w' ⟨rfl, rfl⟩)
    go_ret
    exact ⟨rfl, B3.out⟩
theorem ScanCut_walk (w : World) (va : Value) (rs : List RecV) (ha : RdR w va rs) (hz : ∀ r ∈ rs, r.key.size ≤ 9223372036854775807 ∧ r.val.size ≤ 9223372036854775807) (r : RecV) (z1 : r.key.size ≤ 9223372036854775807) (z2 : r.val.size ≤ 9223372036854775807) (first : ByteArray) (_ : first.size ≤ 140737488351232) (second : ByteArray) (_ : second.size ≤ 140737488351232) :
    Calls Try.prog 12 #[va, r.v, .string first, .string second] w fun e w' => e = .returned (.bool true) ∧ Below w.heap.size w w' := by
  have zs := sectB_size rs []
  obtain ⟨F, hF⟩ : ∃ F, freeN (sectB rs []) 7 = F := ⟨_, rfl⟩
  have hf := freeN_in (sectB rs []) 7
  have hl := recsN_len (sectB rs []) 7
  rw [hF] at hf
  refine scut_walk va rs (sectB rs []) (putR r) first second (putRe r) (scanG (sectB rs [])) (scanP (sectB rs [])) F (recsN (sectB rs []) 7).length (recsS (sectB rs [])) r.k r.e r.key r.val
    (fun w h => sector_any va (.slice none 0 0) rs [] w h (Rd.nil w) hz) zs rfl rfl (by rw [freeS, if_pos zs, hF]) (by omega) hf.1 rfl (by rw [recsS, if_pos zs]) hl
    (fun w => rputr_any r w z1 z2) (fun h0 h8 hk => ?_) w ha
  have hm : mayP r := by
    by_cases h : mayP r
    · exact h
    · rw [putRe, if_neg h] at h0
      cases h0
  exact cut_all first second hm hk zs hF h8
end Go.Proofs.Ytgfldfkgialdlaa
