/- The statement Plans: the walk. -/
import Derived.Test.YtdgnpoapkjoknaaPlE
import Derived.Test.YtdgnpoapkjoknaaPlG
namespace Go.Proofs.Ytdgnpoapkjoknaa
set_option linter.unusedVariables false
set_option linter.unusedSimpArgs false
open Go.RowKit

theorem OwnL.form {w : World} {B : Nat} {v : Value} {m1 m2 : Int} {m3 : List Int} {m4 : List RecV} {m5 m6 : Int} {l3 l4 : Nat} (h : OwnL w B v ⟨m1, m2, m3, m4, m5, m6⟩) (h3 : m3.length = l3) (h4 : m4.length = l4) :
    ∃ S c R d, v = .agg #[.int .i64 m1, .int .i64 m2, .slice S l3 c, .slice R l4 d, .int .i64 m5, .int .i64 m6] := by
  obtain ⟨S, R, rfl, hs, hr⟩ := h
  obtain ⟨A, c, rfl⟩ := hs.slice
  obtain ⟨C, d, rfl⟩ := hr.slice
  subst h3 h4
  exact ⟨A, c, C, d, rfl⟩
set_option maxRecDepth 100000 in
set_option maxHeartbeats 8000000 in
theorem Plans_walk (w : World) (g : Bool) (ep : Int) (F : Value) (rs : List RecV) (fr : Int) (hF : RdR w F rs) (hb : rs.length * 48 ≤ 140737488351232) (hz : ∀ r ∈ rs, r.key.size ≤ 9223372036854775807 ∧ r.val.size ≤ 9223372036854775807)
    (s : Int) (_ : -9223372036854775808 ≤ s ∧ s ≤ 9223372036854775807) (r : RecV) (z1 : r.key.size ≤ 9223372036854775807) (z2 : r.val.size ≤ 9223372036854775807) :
    Calls Try.prog 8 #[.agg #[.bool g, .int .i64 ep, F, .int .i64 fr], .int .i64 s, .agg #[.int .i64 r.k, .int .i64 r.e, .string r.key, .string r.val]] w fun e w' => e = .returned (.bool true) ∧ Below w.heap.size w w' := by
  have ca := fun (W : World) (v : Value) (h : RdR W v rs) => change_any W ⟨g, ep, rs, fr⟩ v s r h (by show (rs.length + 1) * 48 ≤ _; omega) hz z1 z2
  have cb := fun (W : World) (v : Value) (h : RdR W v rs) => rchange_any W ⟨g, ep, rs, fr⟩ v s r h (by show (rs.length + 1) * 48 ≤ _; omega) hz z1 z2
  obtain ⟨A, c, rfl⟩ := hF.form
  obtain ⟨n, hn⟩ : ∃ n, rs.length = n := ⟨_, rfl⟩
  obtain ⟨k, e0, key, val⟩ := r
  change ∀ (W : World) (v : Value), RdR W v rs → Calls Try.prog 28 #[.agg #[.bool g, .int .i64 ep, v, .int .i64 fr], .int .i64 s, .agg #[.int .i64 k, .int .i64 e0, .string key, .string val]] W _ at ca
  change ∀ (W : World) (v : Value), RdR W v rs → Calls Try.prog 29 #[.agg #[.bool g, .int .i64 ep, v, .int .i64 fr], .int .i64 s, .agg #[.int .i64 k, .int .i64 e0, .string key, .string val]] W _ at cb
  obtain ⟨ch, hch⟩ : ∃ ch, chL ⟨g, ep, rs, fr⟩ s ⟨k, e0, key, val⟩ = ch := ⟨_, rfl⟩
  rw [hch] at ca cb
  obtain ⟨⟨m1, m2, m3, m4, m5, m6⟩, er⟩ := ch
  simp only at ca cb
  obtain ⟨l3, hl3⟩ : ∃ n, m3.length = n := ⟨_, rfl⟩
  obtain ⟨l4, hl4⟩ : ∃ n, m4.length = n := ⟨_, rfl⟩
  rw [hn] at hb hF ⊢
  have CV := Lib.hid (fun (W : World) (h : RdR W (.slice A n c) rs) => copy_view W g ep fr (.slice A n c) rs h (by rw [hn]; omega))
  have CA := Lib.hid ca
  have CB := Lib.hid cb
  have HN := Lib.hid hn
  have L3 := Lib.hid hl3
  have L4 := Lib.hid hl4
  have HF := Lib.hid hF
  clear ca cb hn hl3 hl4 hF hb hz z1 z2 hch
  simp only
  have B0 := Lib.hid (Bl.alloc (Bl.alloc (Below.refl w.heap.size w) (Obj.cells #[.bool g, .int .i64 ep, .slice A n c, .int .i64 fr] 57)) (Obj.cells #[.int .i64 k, .int .i64 e0, .string key, .string val] 25))
  have VB := Lib.hid ((Own.arr w #[.bool g, .int .i64 ep, .slice A n c, .int .i64 fr] 57 4 rfl (by decide)).alloc (Obj.cells #[.int .i64 k, .int .i64 e0, .string key, .string val] 25))
  have RX := Lib.hid (Bx.new1 w (Obj.cells #[.bool g, .int .i64 ep, .slice A n c, .int .i64 fr] 57) (.int .i64 k) (.int .i64 e0) (.string key) (.string val) 25)
  have F0 := Lib.hid (HF.out.below B0.out)
  have v0 := VB.out.at' (j := 0) rfl
  have v1 := VB.out.at' (j := 1) rfl
  have v2 := VB.out.at' (j := 2) rfl
  have v3 := VB.out.at' (j := 3) rfl
  go_enter Try.func8, Try.ntmps8
  go_wp2_with fail
  with_reducible refine (CV.out _ F0.out).mono ?_
  rintro e w1 ⟨x1, rfl, ox, hb⟩
  obtain ⟨A1, c1, rfl⟩ := (show ∃ A c, x1 = .slice A rs.length c from Own.slice ox)
  rw [HN.out] at ox ⊢
  have FX := RdR.own ox

  have VB' := Lib.hid ((VB.out.below hb).below (Bl.alloc (Below.refl _ _) (Obj.cells #[.bool g, .int .i64 ep, .slice A1 n c1, .int .i64 fr] 57)))
  have RX' := Lib.hid ((RX.out.below hb).below (Bl.alloc (Below.refl _ _) (Obj.cells #[.bool g, .int .i64 ep, .slice A1 n c1, .int .i64 fr] 57)))
  have F0' := Lib.hid ((F0.out.below hb).below (Bl.alloc (Below.refl _ _) (Obj.cells #[.bool g, .int .i64 ep, .slice A1 n c1, .int .i64 fr] 57)))
  have FX1 := Lib.hid (FX.below (Bl.alloc (Below.refl _ _) (Obj.cells #[.bool g, .int .i64 ep, .slice A1 n c1, .int .i64 fr] 57)))
  have XB1 := Lib.hid (Own.arr w1 #[.bool g, .int .i64 ep, .slice A1 n c1, .int .i64 fr] 57 4 rfl (by decide))
  have B1 := Lib.hid (Bl.alloc (Bl.then B0.out hb) (Obj.cells #[.bool g, .int .i64 ep, .slice A1 n c1, .int .i64 fr] 57))
  have K1 := Lib.hid VB'.out
  have K2 := Lib.hid F0'.out
  have K3 := Lib.hid FX1.out
  have K4 := Lib.hid XB1.out
  have K5 := Lib.hid B1.out
  clear ox FX hb v0 v1 v2 v3 VB RX F0 B0
  have v0 := XB1.out.at' (j := 0) rfl
  have v1 := XB1.out.at' (j := 1) rfl
  have v2 := XB1.out.at' (j := 2) rfl
  have v3 := XB1.out.at' (j := 3) rfl
  obtain ⟨⟨x0, x1, x2, x3⟩, -⟩ := RX'.out
  go_wp2_with fail
  with_reducible refine (CA.out _ _ FX1.out).mono ?_
  rintro e w2 ⟨q2, rfl, o2, hb⟩
  obtain ⟨S2, s2, R2, r2, rfl⟩ := o2.form L3.out L4.out
  have M2 := Lib.hid o2
  have O2 := Lib.hid (o2.below (Bl.alloc (Below.refl _ _) (Obj.cells #[.int .i64 m1, .int .i64 m2, .slice S2 l3 s2, .slice R2 l4 r2, .int .i64 m5, .int .i64 m6] 60)))
  have VB'' := Lib.hid ((VB'.out.below hb).below (Bl.alloc (Below.refl _ _) (Obj.cells #[.int .i64 m1, .int .i64 m2, .slice S2 l3 s2, .slice R2 l4 r2, .int .i64 m5, .int .i64 m6] 60)))
  have RX'' := Lib.hid ((RX'.out.below hb).below (Bl.alloc (Below.refl _ _) (Obj.cells #[.int .i64 m1, .int .i64 m2, .slice S2 l3 s2, .slice R2 l4 r2, .int .i64 m5, .int .i64 m6] 60)))
  have F0'' := Lib.hid ((F0'.out.below hb).below (Bl.alloc (Below.refl _ _) (Obj.cells #[.int .i64 m1, .int .i64 m2, .slice S2 l3 s2, .slice R2 l4 r2, .int .i64 m5, .int .i64 m6] 60)))
  have FX1' := Lib.hid ((FX1.out.below hb).below (Bl.alloc (Below.refl _ _) (Obj.cells #[.int .i64 m1, .int .i64 m2, .slice S2 l3 s2, .slice R2 l4 r2, .int .i64 m5, .int .i64 m6] 60)))
  have XB1' := Lib.hid ((XB1.out.below hb).below (Bl.alloc (Below.refl _ _) (Obj.cells #[.int .i64 m1, .int .i64 m2, .slice S2 l3 s2, .slice R2 l4 r2, .int .i64 m5, .int .i64 m6] 60)))
  have PX := Lib.hid (Own.arr w2 #[.int .i64 m1, .int .i64 m2, .slice S2 l3 s2, .slice R2 l4 r2, .int .i64 m5, .int .i64 m6] 60 6 rfl (by decide))
  have HB2 := Lib.hid (Bl.alloc hb (Obj.cells #[.int .i64 m1, .int .i64 m2, .slice S2 l3 s2, .slice R2 l4 r2, .int .i64 m5, .int .i64 m6] 60))
  have B2 := Lib.hid (Bl.then B1.out HB2.out)
  clear o2 hb v0 v1 v2 v3 x0 x1 x2 x3 M2 VB' RX' F0' XB1
  have v0 := VB''.out.at' (j := 0) rfl
  have v1 := VB''.out.at' (j := 1) rfl
  have v2 := VB''.out.at' (j := 2) rfl
  have v3 := VB''.out.at' (j := 3) rfl
  obtain ⟨⟨x0, x1, x2, x3⟩, -⟩ := RX''.out
  go_wp2_with fail
  with_reducible refine (CB.out _ _ F0''.out).mono ?_
  rintro e w3 ⟨q3, rfl, o3, hb⟩
  obtain ⟨S3, s3, R3, r3, rfl⟩ := o3.form L3.out L4.out
  have O3 := Lib.hid (o3.below (Bl.alloc (Below.refl _ _) (Obj.cells #[.int .i64 m1, .int .i64 m2, .slice S3 l3 s3, .slice R3 l4 r3, .int .i64 m5, .int .i64 m6] 60)))
  have VB''' := Lib.hid ((VB''.out.below hb).below (Bl.alloc (Below.refl _ _) (Obj.cells #[.int .i64 m1, .int .i64 m2, .slice S3 l3 s3, .slice R3 l4 r3, .int .i64 m5, .int .i64 m6] 60)))
  have F0''' := Lib.hid ((F0''.out.below hb).below (Bl.alloc (Below.refl _ _) (Obj.cells #[.int .i64 m1, .int .i64 m2, .slice S3 l3 s3, .slice R3 l4 r3, .int .i64 m5, .int .i64 m6] 60)))
  have FX1'' := Lib.hid ((FX1'.out.below hb).below (Bl.alloc (Below.refl _ _) (Obj.cells #[.int .i64 m1, .int .i64 m2, .slice S3 l3 s3, .slice R3 l4 r3, .int .i64 m5, .int .i64 m6] 60)))
  have XB1'' := Lib.hid ((XB1'.out.below hb).below (Bl.alloc (Below.refl _ _) (Obj.cells #[.int .i64 m1, .int .i64 m2, .slice S3 l3 s3, .slice R3 l4 r3, .int .i64 m5, .int .i64 m6] 60)))
  have PX' := Lib.hid ((PX.out.below hb).below (Bl.alloc (Below.refl _ _) (Obj.cells #[.int .i64 m1, .int .i64 m2, .slice S3 l3 s3, .slice R3 l4 r3, .int .i64 m5, .int .i64 m6] 60)))
  have O2' := Lib.hid ((O2.out.below hb).below (Bl.alloc (Below.refl _ _) (Obj.cells #[.int .i64 m1, .int .i64 m2, .slice S3 l3 s3, .slice R3 l4 r3, .int .i64 m5, .int .i64 m6] 60)))
  have PY := Lib.hid (Own.arr w3 #[.int .i64 m1, .int .i64 m2, .slice S3 l3 s3, .slice R3 l4 r3, .int .i64 m5, .int .i64 m6] 60 6 rfl (by decide))
  have HB3 := Lib.hid (Bl.then HB2.out (Bl.alloc hb (Obj.cells #[.int .i64 m1, .int .i64 m2, .slice S3 l3 s3, .slice R3 l4 r3, .int .i64 m5, .int .i64 m6] 60)))
  have B3 := Lib.hid (Bl.then B2.out (Bl.alloc hb (Obj.cells #[.int .i64 m1, .int .i64 m2, .slice S3 l3 s3, .slice R3 l4 r3, .int .i64 m5, .int .i64 m6] 60)))
  clear o3 hb v0 v1 v2 v3 x0 x1 x2 x3 VB'' RX'' F0'' XB1' PX O2 HB2 B2 CA CB CV
  have a0 := PX'.out.at' (j := 0) rfl
  have b0 := PY.out.at' (j := 0) rfl
  have a1 := PX'.out.at' (j := 1) rfl
  have b1 := PY.out.at' (j := 1) rfl
  have a2 := PX'.out.at' (j := 2) rfl
  have b2 := PY.out.at' (j := 2) rfl
  have a3 := PX'.out.at' (j := 3) rfl
  have b3 := PY.out.at' (j := 3) rfl
  have a4 := PX'.out.at' (j := 4) rfl
  have b4 := PY.out.at' (j := 4) rfl
  have a5 := PX'.out.at' (j := 5) rfl
  have b5 := PY.out.at' (j := 5) rfl
  go_wp2_with fail
  with_reducible refine (same_plan _ _ ⟨m1, m2, m3, m4, m5, m6⟩ _ O2'.out.rd O3.out.rd).mono ?_
  rintro e w4 ⟨rfl, hb⟩
  have VB'''' := Lib.hid (VB'''.out.below hb)
  have F0'''' := Lib.hid (F0'''.out.below hb)
  have FX1''' := Lib.hid (FX1''.out.below hb)
  have XB1''' := Lib.hid (XB1''.out.below hb)
  have PX'' := Lib.hid (PX'.out.below hb)
  have O2'' := Lib.hid (O2'.out.below hb)
  have HB4 := Lib.hid (Bl.then HB3.out hb)
  have B4 := Lib.hid (Bl.then B3.out hb)
  clear hb a0 b0 a1 b1 a2 b2 a3 b3 a4 b4 a5 b5 VB''' F0''' FX1'' XB1'' PX' O2' PY O3 HB3 B3
  have a0 := PX''.out.at' (j := 0) rfl
  have a1 := PX''.out.at' (j := 1) rfl
  have a2 := PX''.out.at' (j := 2) rfl
  have a3 := PX''.out.at' (j := 3) rfl
  have a4 := PX''.out.at' (j := 4) rfl
  have a5 := PX''.out.at' (j := 5) rfl
  go_wp2_with (go_at_call 22; refine (num_any _ _).mono ?_; rintro e w' ⟨rfl, rfl⟩)
  with_reducible refine (spoil_plan _ _ _ _ _ O2''.out HB4.out (Nat.le_refl _)).mono ?_
  rintro e w5 ⟨rfl, hb⟩
  have VC := Lib.hid (K1.out.below hb)
  have FC := Lib.hid (K2.out.below hb)
  have GC := Lib.hid (K3.out.below hb)
  have XC := Lib.hid (K4.out.below hb)
  have B5 := Lib.hid (Bl.then K5.out hb)
  clear hb a0 a1 a2 a3 a4 a5 K1 K2 K3 K4 K5 HB4 B4 O2'' PX''
  have v0 := VC.out.at' (j := 0) rfl
  have v1 := VC.out.at' (j := 1) rfl
  have v2 := VC.out.at' (j := 2) rfl
  have v3 := VC.out.at' (j := 3) rfl
  have x0 := XC.out.at' (j := 0) rfl
  have x1 := XC.out.at' (j := 1) rfl
  have x2 := XC.out.at' (j := 2) rfl
  have x3 := XC.out.at' (j := 3) rfl
  go_wp2_with fail
  with_reducible refine (same_view g ep fr _ _ rs _ GC.out FC.out).mono ?_
  rintro e w6 ⟨rfl, hb⟩
  have B6 := Lib.hid (Bl.then B5.out hb)
  clear hb v0 v1 v2 v3 x0 x1 x2 x3
  go_wp2_with fail
  with_reducible refine (awake22 _).mono ?_
  rintro e w7 ⟨rfl, hb⟩
  have B7 := Lib.hid (Bl.then B6.out hb)
  clear hb
  go_wp2_with fail
  go_ret
  exact ⟨rfl, B7.out⟩
end Go.Proofs.Ytdgnpoapkjoknaa
