/- What every program answers that is one. -/
import Derived.Test.YtdgnpoapkjoknaaPlF
import Derived.Test.YtdgnpoapkjoknaaPlD
namespace Go.Proofs.Ytdgnpoapkjoknaa
set_option linter.unusedVariables false
set_option linter.unusedSimpArgs false
open Go.RowKit

def awR : RecV := ⟨1, 0, ⟨#[98]⟩, ⟨#[49]⟩⟩
def awC : RecV := ⟨1, 0, ⟨#[99]⟩, nilB⟩
def awP1 : PlanV := ⟨-1, 7, [2], [awR], 3, 3⟩
def awP2 : PlanV := ⟨4, 4, [1, 2, 0], [awR, awC, ⟨0, 4, nilB, nilB⟩], 3, 4⟩
theorem aw_1 : chL ⟨true, 3, [], 2⟩ 7 awR = (awP1, 0) := by kernel_rfl
theorem aw_2 : chL ⟨true, 3, [awC], 8⟩ 7 awR = (awP2, 0) := by kernel_rfl
theorem aw_3 : chL ⟨true, 3, [], 8⟩ 7 ⟨2, 0, ⟨#[122]⟩, nilB⟩ = (zeroPl, 2202) := by kernel_rfl
theorem aw_4 : chL ⟨false, 3, [], 8⟩ 7 awR = (zeroPl, 2200) := by kernel_rfl

theorem zeroPl_form {w : World} {B : Nat} {v : Value} (h : OwnL w B v zeroPl) : ∃ S c R d, v = .agg #[.int .i64 0, .int .i64 0, .slice S 0 c, .slice R 0 d, .int .i64 0, .int .i64 0] := by
  obtain ⟨S, R, rfl, hs, hr⟩ := h
  obtain ⟨A, c, rfl⟩ := hs.slice
  obtain ⟨C, d, rfl⟩ := hr.slice
  exact ⟨A, c, C, d, rfl⟩
theorem awP1_form {w : World} {B : Nat} {v : Value} (h : OwnL w B v awP1) : ∃ S c R d, v = .agg #[.int .i64 (-1), .int .i64 7, .slice S 1 c, .slice R 1 d, .int .i64 3, .int .i64 3] := by
  obtain ⟨S, R, rfl, hs, hr⟩ := h
  obtain ⟨A, c, rfl⟩ := hs.slice
  obtain ⟨C, d, rfl⟩ := hr.slice
  exact ⟨A, c, C, d, rfl⟩
theorem awP2_form {w : World} {B : Nat} {v : Value} (h : OwnL w B v awP2) : ∃ S c R d, v = .agg #[.int .i64 4, .int .i64 4, .slice S 3 c, .slice R 3 d, .int .i64 3, .int .i64 4] := by
  obtain ⟨S, R, rfl, hs, hr⟩ := h
  obtain ⟨A, c, rfl⟩ := hs.slice
  obtain ⟨C, d, rfl⟩ := hr.slice
  exact ⟨A, c, C, d, rfl⟩
set_option maxRecDepth 100000 in
set_option maxHeartbeats 4000000 in
theorem awake22 (w : World) : Calls Try.prog 33 #[] w fun e w' => e = .returned (.bool true) ∧ Below w.heap.size w w' := by
  have c1 := fun (W : World) => change_any W ⟨true, 3, [], 2⟩ (.slice none 0 0) 7 awR (RdR.nil W) (by decide) (by simp) (by decide) (by decide)
  rw [aw_1] at c1
  change ∀ W, Calls Try.prog 28 #[_, _, .agg #[.int .i64 1, .int .i64 0, .string ⟨#[98]⟩, .string ⟨#[49]⟩]] W _ at c1
  have c2 := fun (W : World) (v : Value) (h : RdR W v [awC]) => change_any W ⟨true, 3, [awC], 8⟩ v 7 awR h (by show (1 + 1) * 48 ≤ _; decide) (by intro r hr; simp at hr; subst hr; decide) (by decide) (by decide)
  rw [aw_2] at c2
  change ∀ (W : World) (v : Value), _ → Calls Try.prog 28 #[_, _, .agg #[.int .i64 1, .int .i64 0, .string ⟨#[98]⟩, .string ⟨#[49]⟩]] W _ at c2
  have c3 := fun (W : World) => change_any W ⟨true, 3, [], 8⟩ (.slice none 0 0) 7 ⟨2, 0, ⟨#[122]⟩, nilB⟩ (RdR.nil W) (by decide) (by simp) (by decide) (by decide)
  rw [aw_3] at c3
  change ∀ W, Calls Try.prog 28 #[_, _, .agg #[.int .i64 2, .int .i64 0, .string ⟨#[122]⟩, .string ⟨#[]⟩]] W _ at c3
  have c4 := fun (W : World) => change_any W ⟨false, 3, [], 8⟩ (.slice none 0 0) 7 awR (RdR.nil W) (by decide) (by simp) (by decide) (by decide)
  rw [aw_4] at c4
  change ∀ W, Calls Try.prog 28 #[_, _, .agg #[.int .i64 1, .int .i64 0, .string ⟨#[98]⟩, .string ⟨#[49]⟩]] W _ at c4
  have C1 := Lib.hid c1
  have C2 := Lib.hid c2
  have C3 := Lib.hid c3
  have C4 := Lib.hid c4
  clear c1 c2 c3 c4
  have RX := Lib.hid (Bx.new w (.int .i64 1) (.int .i64 0) (.string ⟨#[98]⟩) (.string ⟨#[49]⟩) 25)
  have B0 := Lib.hid (Bl.alloc (Below.refl w.heap.size w) (Obj.cells #[.int .i64 1, .int .i64 0, .string ⟨#[98]⟩, .string ⟨#[49]⟩] 25))
  obtain ⟨⟨x0, x1, x2, x3⟩, -⟩ := RX.out
  go_enter Try.func33, Try.ntmps33
  go_wp2_with fail
  with_reducible refine (C1.out _).mono ?_
  rintro e w1 ⟨v1, rfl, o1, hb⟩
  have L1 := Lib.hid o1.rd
  obtain ⟨S1, s1, R1, r1, rfl⟩ := awP1_form o1
  have B1 := Lib.hid (Bl.then B0.out hb)
  have R1' := Lib.hid (RX.out.below (Bl.then hb (Bl.alloc (Below.refl _ _) (Obj.cells #[.int .i64 (-1), .int .i64 7, .slice S1 1 s1, .slice R1 1 r1, .int .i64 3, .int .i64 3] 60))))
  have R1c := Lib.hid (R1'.out.below (Bl.alloc (Below.refl _ _) (Obj.cells #[.int .i64 1, .int .i64 0, .string ⟨#[99]⟩, .string ⟨#[]⟩] 25)))
  have A1' := Lib.hid ((Own.arr w1 #[.int .i64 (-1), .int .i64 7, .slice S1 1 s1, .slice R1 1 r1, .int .i64 3, .int .i64 3] 60 6 rfl (by decide)).alloc (Obj.cells #[.int .i64 1, .int .i64 0, .string ⟨#[99]⟩, .string ⟨#[]⟩] 25))
  have L1' := Lib.hid ((L1.out.below (Bl.alloc (Below.refl _ _) (Obj.cells #[.int .i64 (-1), .int .i64 7, .slice S1 1 s1, .slice R1 1 r1, .int .i64 3, .int .i64 3] 60))).below (Bl.alloc (Below.refl _ _) (Obj.cells #[.int .i64 1, .int .i64 0, .string ⟨#[99]⟩, .string ⟨#[]⟩] 25)))
  have B1' := Lib.hid (Bl.alloc (Bl.alloc B1.out (Obj.cells #[.int .i64 (-1), .int .i64 7, .slice S1 1 s1, .slice R1 1 r1, .int .i64 3, .int .i64 3] 60)) (Obj.cells #[.int .i64 1, .int .i64 0, .string ⟨#[99]⟩, .string ⟨#[]⟩] 25))
  clear hb x0 x1 x2 x3
  obtain ⟨⟨x0, x1, x2, x3⟩, -⟩ := R1c.out
  change Hid (RdL _ (.agg #[.int .i64 (-1), .int .i64 7, .slice S1 1 s1, .slice R1 1 r1, .int .i64 3, .int .i64 3]) _) at L1'
  go_wp2_with fail
  have hC2 := (show RdR ((w1.alloc (Obj.cells #[.int .i64 (-1), .int .i64 7, .slice S1 1 s1, .slice R1 1 r1, .int .i64 3, .int .i64 3] 60)).alloc (Obj.cells #[.int .i64 1, .int .i64 0, .string ⟨#[99]⟩, .string ⟨#[]⟩] 25)) (.slice (some ⟨w1.heap.size + 1, 0, none⟩) 1 1) [awC] by have h := RdR.own (Own.rec1 (w1.alloc (Obj.cells #[.int .i64 (-1), .int .i64 7, .slice S1 1 s1, .slice R1 1 r1, .int .i64 3, .int .i64 3] 60)) awC); rw [show (w1.alloc (Obj.cells #[.int .i64 (-1), .int .i64 7, .slice S1 1 s1, .slice R1 1 r1, .int .i64 3, .int .i64 3] 60)).heap.size = w1.heap.size + 1 by simp] at h; exact h)
  with_reducible refine (C2.out _ _ hC2).mono ?_
  rintro e w2 ⟨v2, rfl, o2, hb⟩
  have L2 := Lib.hid o2.rd
  obtain ⟨S2, s2, R2, r2, rfl⟩ := awP2_form o2
  have B2 := Lib.hid (Bl.alloc (Bl.then B1'.out hb) (Obj.cells #[.int .i64 4, .int .i64 4, .slice S2 3 s2, .slice R2 3 r2, .int .i64 3, .int .i64 4] 60))
  have R2' := Lib.hid ((R1c.out.below hb).below (Bl.alloc (Below.refl _ _) (Obj.cells #[.int .i64 4, .int .i64 4, .slice S2 3 s2, .slice R2 3 r2, .int .i64 3, .int .i64 4] 60)))
  have A1b := Lib.hid ((A1'.out.below hb).alloc (Obj.cells #[.int .i64 4, .int .i64 4, .slice S2 3 s2, .slice R2 3 r2, .int .i64 3, .int .i64 4] 60))
  have A2' := Lib.hid (Own.arr w2 #[.int .i64 4, .int .i64 4, .slice S2 3 s2, .slice R2 3 r2, .int .i64 3, .int .i64 4] 60 6 rfl (by decide))
  have L1b := Lib.hid ((L1'.out.below hb).below (Bl.alloc (Below.refl _ _) (Obj.cells #[.int .i64 4, .int .i64 4, .slice S2 3 s2, .slice R2 3 r2, .int .i64 3, .int .i64 4] 60)))
  have L2' := Lib.hid (L2.out.below (Bl.alloc (Below.refl _ _) (Obj.cells #[.int .i64 4, .int .i64 4, .slice S2 3 s2, .slice R2 3 r2, .int .i64 3, .int .i64 4] 60)))
  change Hid (RdL _ (.agg #[.int .i64 4, .int .i64 4, .slice S2 3 s2, .slice R2 3 r2, .int .i64 3, .int .i64 4]) _) at L2'
  clear hb x0 x1 x2 x3
  go_wp2_with fail
  with_reducible refine (C3.out _).mono ?_
  rintro e w3 ⟨v3, rfl, o3, hb⟩
  obtain ⟨S3, s3, R3, r3, rfl⟩ := zeroPl_form o3
  have B3 := Lib.hid (Bl.alloc (Bl.then B2.out hb) (Obj.cells #[.int .i64 0, .int .i64 0, .slice S3 0 s3, .slice R3 0 r3, .int .i64 0, .int .i64 0] 60))
  have R3' := Lib.hid ((R2'.out.below hb).below (Bl.alloc (Below.refl _ _) (Obj.cells #[.int .i64 0, .int .i64 0, .slice S3 0 s3, .slice R3 0 r3, .int .i64 0, .int .i64 0] 60)))
  have A1c := Lib.hid ((A1b.out.below hb).alloc (Obj.cells #[.int .i64 0, .int .i64 0, .slice S3 0 s3, .slice R3 0 r3, .int .i64 0, .int .i64 0] 60))
  have A2b := Lib.hid ((A2'.out.below hb).alloc (Obj.cells #[.int .i64 0, .int .i64 0, .slice S3 0 s3, .slice R3 0 r3, .int .i64 0, .int .i64 0] 60))
  have L1c := Lib.hid ((L1b.out.below hb).below (Bl.alloc (Below.refl _ _) (Obj.cells #[.int .i64 0, .int .i64 0, .slice S3 0 s3, .slice R3 0 r3, .int .i64 0, .int .i64 0] 60)))
  have L2b := Lib.hid ((L2'.out.below hb).below (Bl.alloc (Below.refl _ _) (Obj.cells #[.int .i64 0, .int .i64 0, .slice S3 0 s3, .slice R3 0 r3, .int .i64 0, .int .i64 0] 60)))
  clear o3 hb L1 L2 L1' L2' L1b R1c R2' A1' A1b A2' B0 B1 B1' B2 RX R1'
  obtain ⟨⟨x0, x1, x2, x3⟩, -⟩ := R3'.out
  go_wp2_with fail
  with_reducible refine (C4.out _).mono ?_
  rintro e w4 ⟨v4, rfl, o4, hb⟩
  obtain ⟨S4, s4, R4, r4, rfl⟩ := zeroPl_form o4
  have B4 := Lib.hid (Bl.alloc (Bl.then B3.out hb) (Obj.cells #[.int .i64 0, .int .i64 0, .slice S4 0 s4, .slice R4 0 r4, .int .i64 0, .int .i64 0] 60))
  have X4 := Lib.hid ((R3'.out.below hb).below (Bl.alloc (Below.refl _ _) (Obj.cells #[.int .i64 0, .int .i64 0, .slice S4 0 s4, .slice R4 0 r4, .int .i64 0, .int .i64 0] 60)))
  have A1d := Lib.hid ((A1c.out.below hb).alloc (Obj.cells #[.int .i64 0, .int .i64 0, .slice S4 0 s4, .slice R4 0 r4, .int .i64 0, .int .i64 0] 60))
  have A2c := Lib.hid ((A2b.out.below hb).alloc (Obj.cells #[.int .i64 0, .int .i64 0, .slice S4 0 s4, .slice R4 0 r4, .int .i64 0, .int .i64 0] 60))
  have L1d := Lib.hid ((L1c.out.below hb).below (Bl.alloc (Below.refl _ _) (Obj.cells #[.int .i64 0, .int .i64 0, .slice S4 0 s4, .slice R4 0 r4, .int .i64 0, .int .i64 0] 60)))
  have L2c := Lib.hid ((L2b.out.below hb).below (Bl.alloc (Below.refl _ _) (Obj.cells #[.int .i64 0, .int .i64 0, .slice S4 0 s4, .slice R4 0 r4, .int .i64 0, .int .i64 0] 60)))
  clear o4 hb R3' A1c A2b L1c L2b B3 x0 x1 x2 x3 C1 C2 C3 C4
  have IB := Lib.hid (Bl.alloc (Below.refl ((w4.alloc (Obj.cells #[.int .i64 0, .int .i64 0, .slice S4 0 s4, .slice R4 0 r4, .int .i64 0, .int .i64 0] 60))).heap.size ((w4.alloc (Obj.cells #[.int .i64 0, .int .i64 0, .slice S4 0 s4, .slice R4 0 r4, .int .i64 0, .int .i64 0] 60)))) (Obj.cells #[.int .i64 2] 3))
  have a0 := A1d.out.at' (j := 0) rfl
  have a1 := A1d.out.at' (j := 1) rfl
  have a2 := A1d.out.at' (j := 2) rfl
  have a3 := A1d.out.at' (j := 3) rfl
  have a4 := A1d.out.at' (j := 4) rfl
  have a5 := A1d.out.at' (j := 5) rfl
  obtain ⟨⟨x0, x1, x2, x3⟩, -⟩ := (X4.out.below IB.out)
  have hs5 : (w4.alloc (Obj.cells #[.int .i64 0, .int .i64 0, .slice S4 0 s4, .slice R4 0 r4, .int .i64 0, .int .i64 0] 60)).heap.size = w4.heap.size + 1 := by simp
  have hs6 : ((w4.alloc (Obj.cells #[.int .i64 0, .int .i64 0, .slice S4 0 s4, .slice R4 0 r4, .int .i64 0, .int .i64 0] 60)).alloc (Obj.cells #[.int .i64 2] 3)).heap.size = w4.heap.size + 1 + 1 := by simp
  have va := (L1d.out.below IB.out).below (Bl.alloc (Below.refl _ _) (Obj.cells #[.int .i64 1, .int .i64 0, .string ⟨#[98]⟩, .string ⟨#[49]⟩] 25))
  have vb : RdL (((w4.alloc (Obj.cells #[.int .i64 0, .int .i64 0, .slice S4 0 s4, .slice R4 0 r4, .int .i64 0, .int .i64 0] 60)).alloc (Obj.cells #[.int .i64 2] 3)).alloc (Obj.cells #[.int .i64 1, .int .i64 0, .string ⟨#[98]⟩, .string ⟨#[49]⟩] 25)) (.agg #[.int .i64 (-1), .int .i64 7, .slice (some ⟨w4.heap.size + 1, 0, none⟩) 1 1, .slice (some ⟨w4.heap.size + 1 + 1, 0, none⟩) 1 1, .int .i64 3, .int .i64 3]) awP1 := by
    refine ⟨_, _, rfl, (show Rd ((w4.alloc (Obj.cells #[.int .i64 0, .int .i64 0, .slice S4 0 s4, .slice R4 0 r4, .int .i64 0, .int .i64 0] 60)).alloc (Obj.cells #[.int .i64 2] 3)) (.slice (some ⟨w4.heap.size + 1, 0, none⟩) 1 1) [2] from ?_).alloc _, ?_⟩
    · have h := Own.int1 (w4.alloc (Obj.cells #[.int .i64 0, .int .i64 0, .slice S4 0 s4, .slice R4 0 r4, .int .i64 0, .int .i64 0] 60)) 2
      rw [hs5] at h
      exact Rd.ownP h
    · have h := Own.rec1 ((w4.alloc (Obj.cells #[.int .i64 0, .int .i64 0, .slice S4 0 s4, .slice R4 0 r4, .int .i64 0, .int .i64 0] 60)).alloc (Obj.cells #[.int .i64 2] 3)) awR
      rw [hs6] at h
      exact RdR.own h
  have VA := Lib.hid va
  have VB := Lib.hid vb
  have X6 := Lib.hid ((X4.out.below IB.out).below (Bl.alloc (Below.refl _ _) (Obj.cells #[.int .i64 1, .int .i64 0, .string ⟨#[98]⟩, .string ⟨#[49]⟩] 25)))
  have B6 := Lib.hid (Bl.alloc (Bl.alloc B4.out (Obj.cells #[.int .i64 2] 3)) (Obj.cells #[.int .i64 1, .int .i64 0, .string ⟨#[98]⟩, .string ⟨#[49]⟩] 25))
  have A2d := Lib.hid ((A2c.out.alloc (Obj.cells #[.int .i64 2] 3)).alloc (Obj.cells #[.int .i64 1, .int .i64 0, .string ⟨#[98]⟩, .string ⟨#[49]⟩] 25))
  have L2d := Lib.hid ((L2c.out.below IB.out).below (Bl.alloc (Below.refl _ _) (Obj.cells #[.int .i64 1, .int .i64 0, .string ⟨#[98]⟩, .string ⟨#[49]⟩] 25)))
  clear va vb hs5 hs6
  go_wp2_with fail
  with_reducible refine (same_plan _ _ awP1 _ VA.out VB.out).mono ?_
  rintro e w7 ⟨rfl, hb⟩
  have B7 := Lib.hid (Bl.then B6.out hb)
  have X7 := Lib.hid (X6.out.below hb)
  have A7 := Lib.hid (A2d.out.below hb)
  have L7 := Lib.hid (L2d.out.below hb)
  clear hb x0 x1 x2 x3 a0 a1 a2 a3 a4 a5 VA VB X6 B6 A2d L2d X4 B4 A1d A2c L1d L2c IB
  have X8 := Lib.hid (X7.out.below (Bl.alloc (Below.refl _ _) (Obj.cells #[.int .i64 1, .int .i64 2, .int .i64 0] 3)))
  have a0 := A7.out.at' (j := 0) rfl
  have a1 := A7.out.at' (j := 1) rfl
  have a2 := A7.out.at' (j := 2) rfl
  have a3 := A7.out.at' (j := 3) rfl
  have a4 := A7.out.at' (j := 4) rfl
  have a5 := A7.out.at' (j := 5) rfl
  obtain ⟨⟨x0, x1, x2, x3⟩, -⟩ := X8.out
  have hs7 : (w7.alloc (Obj.cells #[.int .i64 1, .int .i64 2, .int .i64 0] 3)).heap.size = w7.heap.size + 1 := by simp
  have va := (L7.out.below (Bl.alloc (Below.refl _ _) (Obj.cells #[.int .i64 1, .int .i64 2, .int .i64 0] 3))).below (Bl.alloc (Below.refl _ _) (Obj.cells #[.int .i64 1, .int .i64 0, .string ⟨#[98]⟩, .string ⟨#[49]⟩, .int .i64 1, .int .i64 0, .string ⟨#[99]⟩, .string ⟨#[]⟩, .int .i64 0, .int .i64 4, .string ⟨#[]⟩, .string ⟨#[]⟩] 25))
  have vb : RdL ((w7.alloc (Obj.cells #[.int .i64 1, .int .i64 2, .int .i64 0] 3)).alloc (Obj.cells #[.int .i64 1, .int .i64 0, .string ⟨#[98]⟩, .string ⟨#[49]⟩, .int .i64 1, .int .i64 0, .string ⟨#[99]⟩, .string ⟨#[]⟩, .int .i64 0, .int .i64 4, .string ⟨#[]⟩, .string ⟨#[]⟩] 25)) (.agg #[.int .i64 4, .int .i64 4, .slice (some ⟨w7.heap.size, 0, none⟩) 3 3, .slice (some ⟨w7.heap.size + 1, 0, none⟩) 3 3, .int .i64 3, .int .i64 4]) awP2 := by
    refine ⟨_, _, rfl, (show Rd (w7.alloc (Obj.cells #[.int .i64 1, .int .i64 2, .int .i64 0] 3)) (.slice (some ⟨w7.heap.size, 0, none⟩) 3 3) [1, 2, 0] from Rd.lit w7 [1, 2, 0] 3 w7.heap.size rfl rfl (by decide)).alloc _, ?_⟩
    exact RdR.lit (w7.alloc (Obj.cells #[.int .i64 1, .int .i64 2, .int .i64 0] 3)) [awR, awC, ⟨0, 4, nilB, nilB⟩] 3 (w7.heap.size + 1) hs7 rfl (by decide) 25
  have VA := Lib.hid va
  have VB := Lib.hid vb
  have B8 := Lib.hid (Bl.alloc (Bl.alloc B7.out (Obj.cells #[.int .i64 1, .int .i64 2, .int .i64 0] 3)) (Obj.cells #[.int .i64 1, .int .i64 0, .string ⟨#[98]⟩, .string ⟨#[49]⟩, .int .i64 1, .int .i64 0, .string ⟨#[99]⟩, .string ⟨#[]⟩, .int .i64 0, .int .i64 4, .string ⟨#[]⟩, .string ⟨#[]⟩] 25))
  clear va vb hs7
  go_wp2_with (go_at_call 22; refine (num_any _ _).mono ?_; rintro e w' ⟨rfl, rfl⟩)
  with_reducible refine (same_plan _ _ awP2 _ VA.out VB.out).mono ?_
  rintro e w9 ⟨rfl, hb⟩
  have B9 := Lib.hid (Bl.then B8.out hb)
  clear hb
  go_wp2_with (go_at_call 22; refine (num_any _ _).mono ?_; rintro e w' ⟨rfl, rfl⟩)
  go_ret
  exact ⟨rfl, B9.out⟩
end Go.Proofs.Ytdgnpoapkjoknaa
