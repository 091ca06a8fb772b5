/- The statement Indexes: the walk. -/
import Derived.Test.YtdgnpoapkjoknaaIdxT
import Derived.Test.YtdgnpoapkjoknaaIdxU
namespace Go.Proofs.Ytdgnpoapkjoknaa
set_option linter.unusedVariables false
set_option linter.unusedSimpArgs false
open Go.RowKit

theorem keyP_six {r : RecV} (h : liveP r) : r.key.size ≤ 9223372036854775806 := by
  rcases h.1 with ⟨h0, _⟩ | ⟨_, _, hk, _⟩ | ⟨_, _, hk, _⟩
  · exact absurd h0 h.2
  · have := hk.2; omega
  · have := hk.2; omega
theorem putL_up {ps : List PairV} {r : RecV} (h : KeysUp ps) (hr : r.key.size ≤ 9223372036854775806) : KeysUp (putL ps r) := by
  intro p hp
  unfold putL at hp
  split at hp
  · rcases List.mem_append.1 hp with hp | hp
    · exact h p (List.mem_of_mem_take hp)
    · rcases List.mem_cons.1 hp with rfl | hp
      · exact hr
      · exact h p (List.mem_of_mem_drop hp)
  · split at hp
    · exact h p (List.mem_of_mem_eraseIdx hp)
    · exact h p hp
theorem withL_up {ps : List PairV} {r : RecV} (h : KeysUp ps) : KeysUp (withL ps r) := by
  unfold withL
  split
  · rename_i hw
    exact putL_up h (keyP_six hw.2)
  · intro p hp; simp at hp
theorem bldN_up (rs : List RecV) : ∀ a, KeysUp (bldN rs a)
  | 0 => fun p hp => by simp [bldN] at hp
  | a + 1 => withL_up (bldN_up rs a)
theorem buildL_up (rs : List RecV) : KeysUp (buildL rs) := by
  unfold buildL
  split
  · exact bldN_up rs _
  · intro p hp; simp at hp
theorem own_apart {w w2 w3 : World} {B B2 n m : Nat} {e e2 : TypeId} {size size2 : Nat} {v u : Value} {xs ys : List Value} (h : Own w B e size v n xs) (hu : Own w3 B2 e2 size2 u m ys) (hB : w.heap.size ≤ B2) : v.ownBlock = none ∨ v.ownBlock ≠ u.ownBlock := by
  cases hk : v.ownBlock with
  | none => exact .inl rfl
  | some k =>
    refine .inr fun e2 => ?_
    have h1 := hu.base k e2.symm
    have h2 := (h.lt k hk).2
    omega
theorem apart_sym {a b : Option Nat} (h : a = none ∨ a ≠ b) : b = none ∨ b ≠ a := by
  cases b with
  | none => exact .inl rfl
  | some k =>
    refine .inr fun e => ?_
    rcases h with h | h
    · rw [h] at e; cases e
    · exact h e.symm
theorem OwnR.rd {w : World} {B : Nat} {v : Value} {rs : List RecV} (h : OwnR w B v rs) : RdR w v rs := RdR.own h
set_option maxRecDepth 100000 in
set_option maxHeartbeats 4000000 in
theorem Indexes_walk (w : World) (vr : Value) (rs : List RecV) (hr : RdR w vr rs) (yr : rs.length * 48 ≤ 140737488351232) (zr : ∀ r ∈ rs, r.key.size ≤ 9223372036854775807 ∧ r.val.size ≤ 9223372036854775807) (vp : Value) (ps : List PairV) (hp : RdP w vp ps) (yp : ps.length * 32 ≤ 140737488351232) (zp : ∀ p ∈ ps, p.key.size ≤ 140737488351232 ∧ p.val.size ≤ 140737488351232) (r : RecV) (z1 : r.key.size ≤ 9223372036854775807) (z2 : r.val.size ≤ 9223372036854775807) (key : ByteArray) (hk : key.size ≤ 140737488351232) :
    Calls Try.prog 3 #[vr, vp, r.v, .string key] w fun e w' => e = .returned (.bool true) ∧ Below w.heap.size w w' := by
  have up : KeysUp ps := fun p hp => by have := (zp p hp).1; omega
  have LR := Lib.hid (fun (w : World) (v : Value) (h : RdR w v rs) => lend_recs w v rs h (by omega))
  have LP := Lib.hid (fun (w : World) (v : Value) (h : RdP w v ps) => lend_pairs w v ps h (by omega))
  have KR := Lib.hid (fun (w : World) (g c : Nat) (v : Value) (h : RdR w (.slice (some ⟨g, 0, none⟩) (rs.length + 2) c) (rs ++ [roomR, roomR])) (h2 : RdR w v rs) => kept_recs w g c v rs h h2 (by omega))
  have KP := Lib.hid (fun (w : World) (g c : Nat) (v : Value) (h : RdP w (.slice (some ⟨g, 0, none⟩) (ps.length + 2) c) (ps ++ [roomP, roomP])) (h2 : RdP w v ps) => kept_pairs w g c v ps h h2 (by omega))
  have BP := Lib.hid (fun (w : World) (v : Value) (h : RdR w v rs) => build_any w v rs h (by omega) zr)
  have BD := Lib.hid (fun (w : World) (v : Value) (h : RdR w v rs) => rbuild_any w v rs h (by omega) zr)
  have WP := Lib.hid (fun (w : World) (v : Value) (h : RdP w v ps) => with_any w v ps r h (by omega) z1 z2)
  have WD := Lib.hid (fun (w : World) (v : Value) (h : RdP w v ps) => rwith_any w v ps r h (by omega) z1 z2)
  have FP := Lib.hid (fun (w : World) (v : Value) (h : RdP w v ps) => find_any w v ps key h (by omega))
  have FD := Lib.hid (fun (w : World) (v : Value) (h : RdP w v ps) => rfind_any w v ps key h (by omega))
  obtain ⟨qa, hqa⟩ : ∃ z, buildL rs = z := ⟨_, rfl⟩
  obtain ⟨qc, hqc⟩ : ∃ z, withL ps r = z := ⟨_, rfl⟩
  have ua : KeysUp qa := by rw [← hqa]; exact buildL_up rs
  have uc : KeysUp qc := by rw [← hqc]; exact withL_up up
  obtain ⟨ea, hea⟩ : ∃ z, buildE rs = z := ⟨_, rfl⟩
  obtain ⟨ec, hec⟩ : ∃ z, withE ps r = z := ⟨_, rfl⟩
  obtain ⟨fv, hfv⟩ : ∃ z, findV ps key = z := ⟨_, rfl⟩
  obtain ⟨fb, hfb⟩ : ∃ z, findB ps key = z := ⟨_, rfl⟩
  rw [hqa, hea] at BP BD
  rw [hqc, hec] at WP WD
  rw [hfv, hfb] at FP FD
  have UA := Lib.hid ua
  have UC := Lib.hid uc
  obtain ⟨A0, c0, rfl⟩ := hr.form
  obtain ⟨A1, c1, rfl⟩ := hp.form
  have RR := Lib.hid hr
  have RP := Lib.hid hp
  obtain ⟨k, e0, rkey, rval⟩ := r
  change Hid (∀ (w : World) (v : Value), RdP w v ps → Calls Try.prog 17 #[v, .agg #[.int .i64 k, .int .i64 e0, .string rkey, .string rval]] w _) at WP
  change Hid (∀ (w : World) (v : Value), RdP w v ps → Calls Try.prog 18 #[v, .agg #[.int .i64 k, .int .i64 e0, .string rkey, .string rval]] w _) at WD
  show Calls Try.prog 3 #[_, _, .agg #[.int .i64 k, .int .i64 e0, .string rkey, .string rval], .string key] w _
  clear hr hp yr zr yp zp z1 z2 hk up ua uc hqa hqc hea hec hfv hfb
  go_enter Try.func3, Try.ntmps3
  go_wp2_with fail
  have X0 := Lib.hid (Bx.new w (.int .i64 k) (.int .i64 e0) (.string rkey) (.string rval) 25)
  have B0 := Lib.hid (Bl.alloc (Below.refl w.heap.size w) (Obj.cells #[.int .i64 k, .int .i64 e0, .string rkey, .string rval] 25))
  refine (LR.out _ _ (RR.out.below B0.out)).mono ?_
  rintro e w1 ⟨gx, cx, rfl, ox, hb⟩
  have OX := Lib.hid ox
  have B1 := Lib.hid (Bl.then B0.out hb)
  have X1 := Lib.hid (Bx.below X0.out hb)
  clear ox hb B0 X0 LR
  go_wp2_with fail
  refine (LP.out _ _ (RP.out.below B1.out)).mono ?_
  rintro e w2 ⟨gy, cy, rfl, oy, hb⟩
  have OY := Lib.hid oy
  have OX2 := Lib.hid (Own.below OX.out hb)
  have B2 := Lib.hid (Bl.then B1.out hb)
  have X2 := Lib.hid (Bx.below X1.out hb)
  clear oy hb B1 X1 LP OX
  go_wp2_with fail
  refine (BP.out _ _ (RdR.pre (OwnR.rd OX2.out))).mono ?_
  rintro e w3 ⟨va, rfl, oa, hb⟩
  have OA := Lib.hid oa
  have DA1 := Lib.hid (own_apart (w2 := w) OX2.out oa (Nat.le_refl _))
  have DA2 := Lib.hid (own_apart (w2 := w) OY.out oa (Nat.le_refl _))
  have OX3 := Lib.hid (Own.below OX2.out hb)
  have OY3 := Lib.hid (OwnP.below OY.out hb)
  have B3 := Lib.hid (Bl.then B2.out hb)
  have X3 := Lib.hid (Bx.below X2.out hb)
  have SB2 := Lib.hid B2.out.size
  clear oa hb B2 X2 BP OX2 OY
  go_wp2_with fail
  refine (BD.out _ _ (RR.out.below B3.out)).mono ?_
  rintro e w4 ⟨vb, rfl, ob, hb⟩
  have OB4 := Lib.hid (OwnP.rd ob)
  have OA4 := Lib.hid (OwnP.below OA.out hb)
  have OX4 := Lib.hid (Own.below OX3.out hb)
  have OY4 := Lib.hid (OwnP.below OY3.out hb)
  have B4 := Lib.hid (Bl.then B3.out hb)
  have X4 := Lib.hid (Bx.below X3.out hb)
  clear ob hb B3 X3 BD OX3 OY3 OA
  obtain ⟨⟨x0, x1, x2, x3⟩, -⟩ := X4.out
  go_wp2_with fail
  refine (WP.out _ _ (RdP.pre (OwnP.rd OY4.out))).mono ?_
  rintro e w5 ⟨vc, rfl, oc, hb⟩
  have OC5 := Lib.hid oc
  have DC1 := Lib.hid (own_apart (w2 := w) OX4.out oc (Nat.le_refl _))
  have DC2 := Lib.hid (own_apart (w2 := w) OY4.out oc (Nat.le_refl _))
  have DC3 := Lib.hid (own_apart (w2 := w) OA4.out oc (Nat.le_refl _))
  have OB5 := Lib.hid (OB4.out.below hb)
  have OA5 := Lib.hid (OwnP.below OA4.out hb)
  have OX5 := Lib.hid (Own.below OX4.out hb)
  have OY5 := Lib.hid (OwnP.below OY4.out hb)
  have B5 := Lib.hid (Bl.then B4.out hb)
  have X5 := Lib.hid (Bx.below X4.out hb)
  have SB4 := Lib.hid B4.out.size
  clear oc hb B4 X4 WP OX4 OY4 OA4 OB4 x0 x1 x2 x3
  obtain ⟨⟨x0, x1, x2, x3⟩, -⟩ := X5.out
  go_wp2_with fail
  refine (WD.out _ _ (RP.out.below B5.out)).mono ?_
  rintro e w6 ⟨vd, rfl, od, hb⟩
  have OD6 := Lib.hid (OwnP.rd od)
  have OC6 := Lib.hid (OwnP.below OC5.out hb)
  have OB6 := Lib.hid (OB5.out.below hb)
  have OA6 := Lib.hid (OwnP.below OA5.out hb)
  have OX6 := Lib.hid (Own.below OX5.out hb)
  have OY6 := Lib.hid (OwnP.below OY5.out hb)
  have B6 := Lib.hid (Bl.then B5.out hb)
  clear od hb B5 X5 WD OX5 OY5 OA5 OB5 OC5 x0 x1 x2 x3
  go_wp2_with fail
  refine (FP.out _ _ (RdP.pre (OwnP.rd OY6.out))).mono ?_
  rintro e w7 ⟨rfl, hb⟩
  have OD7 := Lib.hid (OD6.out.below hb)
  have OC7 := Lib.hid (OwnP.below OC6.out hb)
  have OB7 := Lib.hid (OB6.out.below hb)
  have OA7 := Lib.hid (OwnP.below OA6.out hb)
  have OX7 := Lib.hid (Own.below OX6.out hb)
  have OY7 := Lib.hid (OwnP.below OY6.out hb)
  have B7 := Lib.hid (Bl.then B6.out hb)
  clear hb B6 FP OX6 OY6 OA6 OB6 OC6 OD6
  go_wp2_with fail
  refine (FD.out _ _ (RP.out.below B7.out)).mono ?_
  rintro e w8 ⟨rfl, rfl⟩
  have q1 : (ea != ea) = false := by simp
  have q2 : (ec != ec) = false := by simp
  have q3 : (fb != fb) = false := by simp
  go_wp2_with fail
  refine (same_qp _ _ qa _ (OwnP.rd OA7.out) OB7.out).mono ?_
  rintro e w9 ⟨rfl, n9, rfl⟩
  go_wp2_with (go_at_call 22; refine (num_any _ _).mono ?_; rintro e w' ⟨rfl, rfl⟩)
  refine (same_qp _ _ qc _ ((OwnP.rd OC7.out).below (Bl.self _ _)) (OD7.out.below (Bl.self _ _))).mono ?_
  rintro e w10 ⟨rfl, n10, rfl⟩
  go_wp2_with (go_at_call 22; refine (num_any _ _).mono ?_; rintro e w' ⟨rfl, rfl⟩)
  refine (spoil_pairs _ va qa _ (Own.drewN OA7.out _) UA.out).mono ?_
  rintro e w11 ⟨rfl, hg⟩
  have OX11 := Lib.hid (Own.kept (Own.drewN OX7.out _) hg DA1.out)
  have OY11 := Lib.hid (Own.kept (Own.drewN OY7.out _) hg DA2.out)
  have OC11 := Lib.hid (Own.kept (Own.drewN OC7.out _) hg (apart_sym DC3.out))
  have B11 := Lib.hid (Below.grown (Bl.drewN B7.out _) hg (Bl.drewN B7.out _).size (fun q hq => Nat.le_trans SB2.out (Own.base OA7.out q hq)))
  clear hg OX7 OY7 OA7 OB7 OC7 OD7 B7
  go_wp2_with fail
  refine (spoil_pairs _ vc qc _ OC11.out UC.out).mono ?_
  rintro e w12 ⟨rfl, hg⟩
  have OX12 := Lib.hid (Own.kept OX11.out hg DC1.out)
  have OY12 := Lib.hid (Own.kept OY11.out hg DC2.out)
  have B12 := Lib.hid (Below.grown B11.out hg B11.out.size (fun q hq => Nat.le_trans SB4.out (Own.base OC11.out q hq)))
  clear hg OX11 OY11 OC11 B11
  go_wp2_with fail
  refine (KR.out _ gx cx _ (OwnR.rd OX12.out) (RR.out.below B12.out)).mono ?_
  rintro e w13 ⟨rfl, hb⟩
  have OY13 := Lib.hid (OwnP.below OY12.out hb)
  have B13 := Lib.hid (Bl.then B12.out hb)
  clear hb OX12 OY12 B12
  go_wp2_with fail
  refine (KP.out _ gy cy _ (OwnP.rd OY13.out) (RP.out.below B13.out)).mono ?_
  rintro e w14 ⟨rfl, hb⟩
  have B14 := Lib.hid (Bl.then B13.out hb)
  clear hb OY13 B13
  go_wp2_with fail
  refine (awake21 _).mono ?_
  rintro e w15 ⟨rfl, hb⟩
  have B15 := Lib.hid (Bl.then B14.out hb)
  clear hb B14
  go_wp2_with fail
  go_ret
  exact ⟨rfl, B15.out⟩
end Go.Proofs.Ytdgnpoapkjoknaa
