/- The statement PlanForms: the walk. -/
import Derived.Test.YtdgnpoapkjoknaaPlG
namespace Go.Proofs.Ytdgnpoapkjoknaa
set_option linter.unusedVariables false
set_option linter.unusedSimpArgs false
open Go.RowKit

def foA : RecV := ⟨1, 0, ⟨#[97]⟩, nilB⟩
def foB : RecV := ⟨1, 0, ⟨#[98]⟩, nilB⟩
theorem fo5 : ¬ bldOk [foA, ⟨0, 1, nilB, nilB⟩] := by decide +kernel
theorem fo6 : ¬ bldOk [foA, ⟨2, 0, nilB, nilB⟩] := by decide +kernel
theorem fo9 : ¬ liveP ⟨0, 5, nilB, nilB⟩ := by decide +kernel
theorem fo10 : ¬ liveP ⟨1, 0, nilB, nilB⟩ := by decide +kernel
theorem fo11 (d : Int) (h : 1 ≤ d) : ¬ liveP ⟨2 + d, 0, ⟨#[98]⟩, nilB⟩ := fun h2 => by
  rcases h2.1 with ⟨h3, _⟩ | ⟨h3, _⟩ | ⟨h3, _⟩
  · have : (2 + d) = 0 := h3
    omega
  · have : (2 + d) = 1 := h3
    omega
  · have : (2 + d) = 2 := h3
    omega
/-- Change, of what may not be. -/
theorem change_no (v : ViewV) (s : Int) (r : RecV) (hno : ¬ chOk v s r) (hb : v.recs.length ≤ 10) (hz : ∀ r ∈ v.recs, r.key.size ≤ 9223372036854775807 ∧ r.val.size ≤ 9223372036854775807) (z1 : r.key.size ≤ 9223372036854775807) (z2 : r.val.size ≤ 9223372036854775807) (W : World) (F : Value) (h : RdR W F v.recs) :
    Calls Try.prog 28 #[.agg #[.bool v.good, .int .i64 v.ep, F, .int .i64 v.free], .int .i64 s, .agg #[.int .i64 r.k, .int .i64 r.e, .string r.key, .string r.val]] W fun e w' => ∃ S sc R rc, e = .returned (.tuple #[.agg #[.int .i64 0, .int .i64 0, .slice S 0 sc, .slice R 0 rc, .int .i64 0, .int .i64 0], .int .i64 2200]) ∧ RdL w' (.agg #[.int .i64 0, .int .i64 0, .slice S 0 sc, .slice R 0 rc, .int .i64 0, .int .i64 0]) zeroPl ∧ Below W.heap.size W w' := by
  have h := change_any W v F s r h (by omega) hz z1 z2
  rw [chL_no hno] at h
  refine h.mono fun e w' hh => ?_
  obtain ⟨q, rfl, ho, hb⟩ := hh
  have hr := ho.rd
  obtain ⟨S, sc, R, rc, rfl⟩ := zeroPl_form ho
  exact ⟨S, sc, R, rc, rfl, hr, hb⟩
theorem rd_zero (w : World) : RdL w (.agg #[.int .i64 0, .int .i64 0, .slice none 0 0, .slice none 0 0, .int .i64 0, .int .i64 0]) zeroPl := (OwnL.zero w 0).rd
theorem rem_12 (x : Int) : ∃ k : Nat, (IntKind.u64.wrap x).tmod 12 = (k : Int) ∧ k < 12 := by
  have hu : 0 ≤ IntKind.u64.wrap x := by
    simp only [IntKind.wrap, IntKind.signed, IntKind.bits]
    exact Int.emod_nonneg _ (by decide)
  rw [Int.tmod_eq_emod_of_nonneg hu]
  exact ⟨((IntKind.u64.wrap x) % 12).toNat, by omega, by omega⟩

set_option maxRecDepth 100000 in
set_option maxHeartbeats 16000000 in
theorem PlanForms_walk (w : World) (which : Int) (_ : -9223372036854775808 ≤ which ∧ which ≤ 9223372036854775807) (x : Int) (_ : -9223372036854775808 ≤ x ∧ x ≤ 9223372036854775807) :
    Calls Try.prog 10 #[.int .i64 which, .int .i64 x] w fun e w' => e = .returned (.bool true) ∧ Below w.heap.size w w' := by
  obtain ⟨j, hj, hj2⟩ := rem_12 which
  have hx : bits .and .i64 x 1023 = x % 1024 := and_mask64 x 10 (by decide)
  have hx0 := Int.emod_nonneg x (show (1024 : Int) ≠ 0 by decide)
  have hx1 := Int.emod_lt_of_pos x (show (0 : Int) < 1024 by decide)
  obtain ⟨d, hd⟩ : ∃ d, 1 + bits .and .i64 x 1023 = d := ⟨_, rfl⟩
  have hd1 : 1 ≤ d := by omega
  have hd2 : d ≤ 1024 := by omega
  have hwd : wrap64 d = d := IntWalk.wrap64_in _ ⟨by omega, by omega⟩
  clear hx hx0 hx1
  have HJ := Lib.hid hj
  have HD := Lib.hid hd
  have HWD := Lib.hid hwd
  clear hj hd hwd
  have hzA : ∀ r ∈ [foA], r.key.size ≤ 9223372036854775807 ∧ r.val.size ≤ 9223372036854775807 := by intro r hr; simp at hr; subst hr; decide
  go_enter Try.func10, Try.ntmps10
  go_wp2_with fail
  with_reducible refine (awake22 _).mono ?_
  rintro e w0 ⟨rfl, hb⟩
  have B3 := Lib.hid (Bl.alloc (Bl.alloc (Bl.alloc hb (Obj.cells #[.int .i64 1, .int .i64 0, .string ⟨#[97]⟩, .string ⟨#[]⟩] 25)) (Obj.cells #[.bool true, .int .i64 5, .slice (some ⟨w0.heap.size, 0, none⟩) 1 1, .int .i64 3] 57)) (Obj.cells #[.int .i64 1, .int .i64 0, .string ⟨#[98]⟩, .string ⟨#[]⟩] 25))
  have RC := Lib.hid (((Own.rec1 w0 foA).alloc (Obj.cells #[.bool true, .int .i64 5, .slice (some ⟨w0.heap.size, 0, none⟩) 1 1, .int .i64 3] 57)).alloc (Obj.cells #[.int .i64 1, .int .i64 0, .string ⟨#[98]⟩, .string ⟨#[]⟩] 25))
  have vb := (Own.arr (w0.alloc (Obj.cells #[.int .i64 1, .int .i64 0, .string ⟨#[97]⟩, .string ⟨#[]⟩] 25)) #[.bool true, .int .i64 5, .slice (some ⟨w0.heap.size, 0, none⟩) 1 1, .int .i64 3] 57 4 rfl (by decide)).alloc (Obj.cells #[.int .i64 1, .int .i64 0, .string ⟨#[98]⟩, .string ⟨#[]⟩] 25)
  rw [show (w0.alloc (Obj.cells #[.int .i64 1, .int .i64 0, .string ⟨#[97]⟩, .string ⟨#[]⟩] 25)).heap.size = w0.heap.size + 1 by simp] at vb
  have VX := Lib.hid vb
  have rb := Own.arr ((w0.alloc (Obj.cells #[.int .i64 1, .int .i64 0, .string ⟨#[97]⟩, .string ⟨#[]⟩] 25)).alloc (Obj.cells #[.bool true, .int .i64 5, .slice (some ⟨w0.heap.size, 0, none⟩) 1 1, .int .i64 3] 57)) #[.int .i64 1, .int .i64 0, .string ⟨#[98]⟩, .string ⟨#[]⟩] 25 4 rfl (by decide)
  rw [show ((w0.alloc (Obj.cells #[.int .i64 1, .int .i64 0, .string ⟨#[97]⟩, .string ⟨#[]⟩] 25)).alloc (Obj.cells #[.bool true, .int .i64 5, .slice (some ⟨w0.heap.size, 0, none⟩) 1 1, .int .i64 3] 57)).heap.size = w0.heap.size + 1 + 1 by simp] at rb
  have RX := Lib.hid rb
  have HS := Lib.hid (show w0.heap.size ≤ (((w0.alloc (Obj.cells #[.int .i64 1, .int .i64 0, .string ⟨#[97]⟩, .string ⟨#[]⟩] 25)).alloc (Obj.cells #[.bool true, .int .i64 5, .slice (some ⟨w0.heap.size, 0, none⟩) 1 1, .int .i64 3] 57)).alloc (Obj.cells #[.int .i64 1, .int .i64 0, .string ⟨#[98]⟩, .string ⟨#[]⟩] 25)).heap.size by simp; omega)
  have HW := Lib.hid hb.size
  have HBW := Lib.hid hb
  clear hb vb rb
  obtain ⟨b0, hb0⟩ : ∃ b, w0.heap.size = b := ⟨_, rfl⟩
  have hcases : j = 0 ∨ j = 1 ∨ j = 2 ∨ j = 3 ∨ j = 4 ∨ j = 5 ∨ j = 6 ∨ j = 7 ∨ j = 8 ∨ j = 9 ∨ j = 10 ∨ j = 11 := by omega
  clear hj2 hb0 b0
  rcases hcases with rfl | rfl | rfl | rfl | rfl | rfl | rfl | rfl | rfl | rfl | rfl | rfl
  · have C := Lib.hid (show ∀ (W : World) (F : Value), RdR W F [foA] → Calls Try.prog 28 #[.agg #[.bool false, .int .i64 (5), F, .int .i64 (3)], .int .i64 5, .agg #[.int .i64 (1), .int .i64 0, .string ⟨#[98]⟩, .string ⟨#[]⟩]] W _ from change_no ⟨false, 5, [foA], 3⟩ 5 foB (fun h => absurd h.1.1 (by decide)) (by show 1 ≤ 10; decide) hzA (by show (ByteArray.mk #[98]).size ≤ _; decide) (by show (ByteArray.mk #[]).size ≤ _; decide))
    have hj := HJ.out
    have hd := HD.out
    have hwd := HWD.out
    clear HJ HD HWD hzA
    have B4 := Lib.hid (Bl.alloc (Bl.alloc (Bl.alloc HBW.out (Obj.cells #[.int .i64 1, .int .i64 0, .string ⟨#[97]⟩, .string ⟨#[]⟩] 25)) (Obj.cells #[.bool false, .int .i64 5, .slice (some ⟨w0.heap.size, 0, none⟩) 1 1, .int .i64 3] 57)) (Obj.cells #[.int .i64 (1), .int .i64 0, .string ⟨#[98]⟩, .string ⟨#[]⟩] 25))
    have ROW := Lib.hid (show RdR (((w0.alloc (Obj.cells #[.int .i64 1, .int .i64 0, .string ⟨#[97]⟩, .string ⟨#[]⟩] 25)).alloc (Obj.cells #[.bool false, .int .i64 5, .slice (some ⟨w0.heap.size, 0, none⟩) 1 1, .int .i64 3] 57)).alloc (Obj.cells #[.int .i64 (1), .int .i64 0, .string ⟨#[98]⟩, .string ⟨#[]⟩] 25)) (.slice (some ⟨w0.heap.size, 0, none⟩) 1 1) [foA] from RdR.own (((Own.rec1 w0 foA).alloc (Obj.cells #[.bool false, .int .i64 5, .slice (some ⟨w0.heap.size, 0, none⟩) 1 1, .int .i64 3] 57)).alloc (Obj.cells #[.int .i64 (1), .int .i64 0, .string ⟨#[98]⟩, .string ⟨#[]⟩] 25)))
    have vb := (Own.arr (w0.alloc (Obj.cells #[.int .i64 1, .int .i64 0, .string ⟨#[97]⟩, .string ⟨#[]⟩] 25)) #[.bool false, .int .i64 5, .slice (some ⟨w0.heap.size, 0, none⟩) 1 1, .int .i64 3] 57 4 rfl (by decide)).alloc (Obj.cells #[.int .i64 (1), .int .i64 0, .string ⟨#[98]⟩, .string ⟨#[]⟩] 25)
    rw [show (w0.alloc (Obj.cells #[.int .i64 1, .int .i64 0, .string ⟨#[97]⟩, .string ⟨#[]⟩] 25)).heap.size = w0.heap.size + 1 by simp] at vb
    have V4 := Lib.hid vb
    have rb := Own.arr ((w0.alloc (Obj.cells #[.int .i64 1, .int .i64 0, .string ⟨#[97]⟩, .string ⟨#[]⟩] 25)).alloc (Obj.cells #[.bool false, .int .i64 5, .slice (some ⟨w0.heap.size, 0, none⟩) 1 1, .int .i64 3] 57)) #[.int .i64 (1), .int .i64 0, .string ⟨#[98]⟩, .string ⟨#[]⟩] 25 4 rfl (by decide)
    rw [show ((w0.alloc (Obj.cells #[.int .i64 1, .int .i64 0, .string ⟨#[97]⟩, .string ⟨#[]⟩] 25)).alloc (Obj.cells #[.bool false, .int .i64 5, .slice (some ⟨w0.heap.size, 0, none⟩) 1 1, .int .i64 3] 57)).heap.size = w0.heap.size + 1 + 1 by simp] at rb
    have R4 := Lib.hid rb
    clear vb rb
    have a0 := V4.out.at' (j := 0) rfl
    have a1 := V4.out.at' (j := 1) rfl
    have a2 := V4.out.at' (j := 2) rfl
    have a3 := V4.out.at' (j := 3) rfl
    have c0 := R4.out.at' (j := 0) rfl
    have c1 := R4.out.at' (j := 1) rfl
    have c2 := R4.out.at' (j := 2) rfl
    have c3 := R4.out.at' (j := 3) rfl
    go_wp2_with fail
    with_reducible refine (C.out _ _ ROW.out).mono ?_
    rintro e w5 ⟨S, sc, R, rc, rfl, oq, hb⟩
    have P5 := Lib.hid (oq.below (Bl.alloc (Below.refl _ _) (Obj.cells #[.int .i64 0, .int .i64 0, .slice S 0 sc, .slice R 0 rc, .int .i64 0, .int .i64 0] 60)))
    have X5 := Lib.hid (Own.arr w5 #[.int .i64 0, .int .i64 0, .slice S 0 sc, .slice R 0 rc, .int .i64 0, .int .i64 0] 60 6 rfl (by decide))
    have B5 := Lib.hid (Bl.alloc (Bl.then B4.out hb) (Obj.cells #[.int .i64 0, .int .i64 0, .slice S 0 sc, .slice R 0 rc, .int .i64 0, .int .i64 0] 60))
    clear hb oq C ROW
    have y0 := X5.out.at' (j := 0) rfl
    have y1 := X5.out.at' (j := 1) rfl
    have y2 := X5.out.at' (j := 2) rfl
    have y3 := X5.out.at' (j := 3) rfl
    have y4 := X5.out.at' (j := 4) rfl
    have y5 := X5.out.at' (j := 5) rfl
    go_wp2_with fail
    with_reducible refine (same_plan _ _ zeroPl _ P5.out (rd_zero _)).mono ?_
    rintro e w6 ⟨rfl, hb⟩
    have B6 := Lib.hid (Bl.then B5.out hb)
    clear hb y0 y1 y2 y3 y4 y5
    go_wp2_with (go_at_call 22; refine (num_any _ _).mono ?_; rintro e w' ⟨rfl, rfl⟩)
    go_ret
    exact ⟨rfl, B6.out⟩
  · have C := Lib.hid (show ∀ (W : World) (F : Value), RdR W F [foA] → Calls Try.prog 28 #[.agg #[.bool true, .int .i64 (1 - d), F, .int .i64 (3)], .int .i64 5, .agg #[.int .i64 (1), .int .i64 0, .string ⟨#[98]⟩, .string ⟨#[]⟩]] W _ from change_no ⟨true, 1 - d, [foA], 3⟩ 5 foB (fun h => absurd ((epochB_iff _).1 h.1.2.1).1 (by show ¬ 1 ≤ 1 - d; omega)) (by show 1 ≤ 10; decide) hzA (by show (ByteArray.mk #[98]).size ≤ _; decide) (by show (ByteArray.mk #[]).size ≤ _; decide))
    have hj := HJ.out
    have hd := HD.out
    have hwd := HWD.out
    have hsm : wrap64 (1 - d) = 1 - d := IntWalk.wrap64_in _ ⟨by omega, by omega⟩
    clear HJ HD HWD hzA
    have B4 := Lib.hid (Bl.alloc (Bl.alloc (Bl.alloc HBW.out (Obj.cells #[.int .i64 1, .int .i64 0, .string ⟨#[97]⟩, .string ⟨#[]⟩] 25)) (Obj.cells #[.bool true, .int .i64 (1 - d), .slice (some ⟨w0.heap.size, 0, none⟩) 1 1, .int .i64 3] 57)) (Obj.cells #[.int .i64 (1), .int .i64 0, .string ⟨#[98]⟩, .string ⟨#[]⟩] 25))
    have ROW := Lib.hid (show RdR (((w0.alloc (Obj.cells #[.int .i64 1, .int .i64 0, .string ⟨#[97]⟩, .string ⟨#[]⟩] 25)).alloc (Obj.cells #[.bool true, .int .i64 (1 - d), .slice (some ⟨w0.heap.size, 0, none⟩) 1 1, .int .i64 3] 57)).alloc (Obj.cells #[.int .i64 (1), .int .i64 0, .string ⟨#[98]⟩, .string ⟨#[]⟩] 25)) (.slice (some ⟨w0.heap.size, 0, none⟩) 1 1) [foA] from RdR.own (((Own.rec1 w0 foA).alloc (Obj.cells #[.bool true, .int .i64 (1 - d), .slice (some ⟨w0.heap.size, 0, none⟩) 1 1, .int .i64 3] 57)).alloc (Obj.cells #[.int .i64 (1), .int .i64 0, .string ⟨#[98]⟩, .string ⟨#[]⟩] 25)))
    have vb := (Own.arr (w0.alloc (Obj.cells #[.int .i64 1, .int .i64 0, .string ⟨#[97]⟩, .string ⟨#[]⟩] 25)) #[.bool true, .int .i64 (1 - d), .slice (some ⟨w0.heap.size, 0, none⟩) 1 1, .int .i64 3] 57 4 rfl (by decide)).alloc (Obj.cells #[.int .i64 (1), .int .i64 0, .string ⟨#[98]⟩, .string ⟨#[]⟩] 25)
    rw [show (w0.alloc (Obj.cells #[.int .i64 1, .int .i64 0, .string ⟨#[97]⟩, .string ⟨#[]⟩] 25)).heap.size = w0.heap.size + 1 by simp] at vb
    have V4 := Lib.hid vb
    have rb := Own.arr ((w0.alloc (Obj.cells #[.int .i64 1, .int .i64 0, .string ⟨#[97]⟩, .string ⟨#[]⟩] 25)).alloc (Obj.cells #[.bool true, .int .i64 (1 - d), .slice (some ⟨w0.heap.size, 0, none⟩) 1 1, .int .i64 3] 57)) #[.int .i64 (1), .int .i64 0, .string ⟨#[98]⟩, .string ⟨#[]⟩] 25 4 rfl (by decide)
    rw [show ((w0.alloc (Obj.cells #[.int .i64 1, .int .i64 0, .string ⟨#[97]⟩, .string ⟨#[]⟩] 25)).alloc (Obj.cells #[.bool true, .int .i64 (1 - d), .slice (some ⟨w0.heap.size, 0, none⟩) 1 1, .int .i64 3] 57)).heap.size = w0.heap.size + 1 + 1 by simp] at rb
    have R4 := Lib.hid rb
    clear vb rb
    have a0 := V4.out.at' (j := 0) rfl
    have a1 := V4.out.at' (j := 1) rfl
    have a2 := V4.out.at' (j := 2) rfl
    have a3 := V4.out.at' (j := 3) rfl
    have c0 := R4.out.at' (j := 0) rfl
    have c1 := R4.out.at' (j := 1) rfl
    have c2 := R4.out.at' (j := 2) rfl
    have c3 := R4.out.at' (j := 3) rfl
    go_wp2_with fail
    with_reducible refine (C.out _ _ ROW.out).mono ?_
    rintro e w5 ⟨S, sc, R, rc, rfl, oq, hb⟩
    have P5 := Lib.hid (oq.below (Bl.alloc (Below.refl _ _) (Obj.cells #[.int .i64 0, .int .i64 0, .slice S 0 sc, .slice R 0 rc, .int .i64 0, .int .i64 0] 60)))
    have X5 := Lib.hid (Own.arr w5 #[.int .i64 0, .int .i64 0, .slice S 0 sc, .slice R 0 rc, .int .i64 0, .int .i64 0] 60 6 rfl (by decide))
    have B5 := Lib.hid (Bl.alloc (Bl.then B4.out hb) (Obj.cells #[.int .i64 0, .int .i64 0, .slice S 0 sc, .slice R 0 rc, .int .i64 0, .int .i64 0] 60))
    clear hb oq C ROW
    have y0 := X5.out.at' (j := 0) rfl
    have y1 := X5.out.at' (j := 1) rfl
    have y2 := X5.out.at' (j := 2) rfl
    have y3 := X5.out.at' (j := 3) rfl
    have y4 := X5.out.at' (j := 4) rfl
    have y5 := X5.out.at' (j := 5) rfl
    go_wp2_with fail
    with_reducible refine (same_plan _ _ zeroPl _ P5.out (rd_zero _)).mono ?_
    rintro e w6 ⟨rfl, hb⟩
    have B6 := Lib.hid (Bl.then B5.out hb)
    clear hb y0 y1 y2 y3 y4 y5
    go_wp2_with (go_at_call 22; refine (num_any _ _).mono ?_; rintro e w' ⟨rfl, rfl⟩)
    go_ret
    exact ⟨rfl, B6.out⟩
  · have C := Lib.hid (show ∀ (W : World) (F : Value), RdR W F [foA] → Calls Try.prog 28 #[.agg #[.bool true, .int .i64 (1048576 + d), F, .int .i64 (3)], .int .i64 5, .agg #[.int .i64 (1), .int .i64 0, .string ⟨#[98]⟩, .string ⟨#[]⟩]] W _ from change_no ⟨true, 1048576 + d, [foA], 3⟩ 5 foB (fun h => absurd ((epochB_iff _).1 h.1.2.1).2 (by show ¬ 1048576 + d ≤ 1048576; omega)) (by show 1 ≤ 10; decide) hzA (by show (ByteArray.mk #[98]).size ≤ _; decide) (by show (ByteArray.mk #[]).size ≤ _; decide))
    have hj := HJ.out
    have hd := HD.out
    have hwd := HWD.out
    have hsm : wrap64 (1048576 + d) = 1048576 + d := IntWalk.wrap64_in _ ⟨by omega, by omega⟩
    clear HJ HD HWD hzA
    have B4 := Lib.hid (Bl.alloc (Bl.alloc (Bl.alloc HBW.out (Obj.cells #[.int .i64 1, .int .i64 0, .string ⟨#[97]⟩, .string ⟨#[]⟩] 25)) (Obj.cells #[.bool true, .int .i64 (1048576 + d), .slice (some ⟨w0.heap.size, 0, none⟩) 1 1, .int .i64 3] 57)) (Obj.cells #[.int .i64 (1), .int .i64 0, .string ⟨#[98]⟩, .string ⟨#[]⟩] 25))
    have ROW := Lib.hid (show RdR (((w0.alloc (Obj.cells #[.int .i64 1, .int .i64 0, .string ⟨#[97]⟩, .string ⟨#[]⟩] 25)).alloc (Obj.cells #[.bool true, .int .i64 (1048576 + d), .slice (some ⟨w0.heap.size, 0, none⟩) 1 1, .int .i64 3] 57)).alloc (Obj.cells #[.int .i64 (1), .int .i64 0, .string ⟨#[98]⟩, .string ⟨#[]⟩] 25)) (.slice (some ⟨w0.heap.size, 0, none⟩) 1 1) [foA] from RdR.own (((Own.rec1 w0 foA).alloc (Obj.cells #[.bool true, .int .i64 (1048576 + d), .slice (some ⟨w0.heap.size, 0, none⟩) 1 1, .int .i64 3] 57)).alloc (Obj.cells #[.int .i64 (1), .int .i64 0, .string ⟨#[98]⟩, .string ⟨#[]⟩] 25)))
    have vb := (Own.arr (w0.alloc (Obj.cells #[.int .i64 1, .int .i64 0, .string ⟨#[97]⟩, .string ⟨#[]⟩] 25)) #[.bool true, .int .i64 (1048576 + d), .slice (some ⟨w0.heap.size, 0, none⟩) 1 1, .int .i64 3] 57 4 rfl (by decide)).alloc (Obj.cells #[.int .i64 (1), .int .i64 0, .string ⟨#[98]⟩, .string ⟨#[]⟩] 25)
    rw [show (w0.alloc (Obj.cells #[.int .i64 1, .int .i64 0, .string ⟨#[97]⟩, .string ⟨#[]⟩] 25)).heap.size = w0.heap.size + 1 by simp] at vb
    have V4 := Lib.hid vb
    have rb := Own.arr ((w0.alloc (Obj.cells #[.int .i64 1, .int .i64 0, .string ⟨#[97]⟩, .string ⟨#[]⟩] 25)).alloc (Obj.cells #[.bool true, .int .i64 (1048576 + d), .slice (some ⟨w0.heap.size, 0, none⟩) 1 1, .int .i64 3] 57)) #[.int .i64 (1), .int .i64 0, .string ⟨#[98]⟩, .string ⟨#[]⟩] 25 4 rfl (by decide)
    rw [show ((w0.alloc (Obj.cells #[.int .i64 1, .int .i64 0, .string ⟨#[97]⟩, .string ⟨#[]⟩] 25)).alloc (Obj.cells #[.bool true, .int .i64 (1048576 + d), .slice (some ⟨w0.heap.size, 0, none⟩) 1 1, .int .i64 3] 57)).heap.size = w0.heap.size + 1 + 1 by simp] at rb
    have R4 := Lib.hid rb
    clear vb rb
    have a0 := V4.out.at' (j := 0) rfl
    have a1 := V4.out.at' (j := 1) rfl
    have a2 := V4.out.at' (j := 2) rfl
    have a3 := V4.out.at' (j := 3) rfl
    have c0 := R4.out.at' (j := 0) rfl
    have c1 := R4.out.at' (j := 1) rfl
    have c2 := R4.out.at' (j := 2) rfl
    have c3 := R4.out.at' (j := 3) rfl
    go_wp2_with fail
    with_reducible refine (C.out _ _ ROW.out).mono ?_
    rintro e w5 ⟨S, sc, R, rc, rfl, oq, hb⟩
    have P5 := Lib.hid (oq.below (Bl.alloc (Below.refl _ _) (Obj.cells #[.int .i64 0, .int .i64 0, .slice S 0 sc, .slice R 0 rc, .int .i64 0, .int .i64 0] 60)))
    have X5 := Lib.hid (Own.arr w5 #[.int .i64 0, .int .i64 0, .slice S 0 sc, .slice R 0 rc, .int .i64 0, .int .i64 0] 60 6 rfl (by decide))
    have B5 := Lib.hid (Bl.alloc (Bl.then B4.out hb) (Obj.cells #[.int .i64 0, .int .i64 0, .slice S 0 sc, .slice R 0 rc, .int .i64 0, .int .i64 0] 60))
    clear hb oq C ROW
    have y0 := X5.out.at' (j := 0) rfl
    have y1 := X5.out.at' (j := 1) rfl
    have y2 := X5.out.at' (j := 2) rfl
    have y3 := X5.out.at' (j := 3) rfl
    have y4 := X5.out.at' (j := 4) rfl
    have y5 := X5.out.at' (j := 5) rfl
    go_wp2_with fail
    with_reducible refine (same_plan _ _ zeroPl _ P5.out (rd_zero _)).mono ?_
    rintro e w6 ⟨rfl, hb⟩
    have B6 := Lib.hid (Bl.then B5.out hb)
    clear hb y0 y1 y2 y3 y4 y5
    go_wp2_with (go_at_call 22; refine (num_any _ _).mono ?_; rintro e w' ⟨rfl, rfl⟩)
    go_ret
    exact ⟨rfl, B6.out⟩
  · have C := Lib.hid (show ∀ (W : World) (F : Value), RdR W F [foA] → Calls Try.prog 28 #[.agg #[.bool true, .int .i64 (5), F, .int .i64 (1 - d)], .int .i64 5, .agg #[.int .i64 (1), .int .i64 0, .string ⟨#[98]⟩, .string ⟨#[]⟩]] W _ from change_no ⟨true, 5, [foA], 1 - d⟩ 5 foB (fun h => absurd h.1.2.2.1 (by show ¬ 1 ≤ 1 - d; omega)) (by show 1 ≤ 10; decide) hzA (by show (ByteArray.mk #[98]).size ≤ _; decide) (by show (ByteArray.mk #[]).size ≤ _; decide))
    have hj := HJ.out
    have hd := HD.out
    have hwd := HWD.out
    have hsm : wrap64 (1 - d) = 1 - d := IntWalk.wrap64_in _ ⟨by omega, by omega⟩
    clear HJ HD HWD hzA
    have B4 := Lib.hid (Bl.alloc (Bl.alloc (Bl.alloc HBW.out (Obj.cells #[.int .i64 1, .int .i64 0, .string ⟨#[97]⟩, .string ⟨#[]⟩] 25)) (Obj.cells #[.bool true, .int .i64 5, .slice (some ⟨w0.heap.size, 0, none⟩) 1 1, .int .i64 (1 - d)] 57)) (Obj.cells #[.int .i64 (1), .int .i64 0, .string ⟨#[98]⟩, .string ⟨#[]⟩] 25))
    have ROW := Lib.hid (show RdR (((w0.alloc (Obj.cells #[.int .i64 1, .int .i64 0, .string ⟨#[97]⟩, .string ⟨#[]⟩] 25)).alloc (Obj.cells #[.bool true, .int .i64 5, .slice (some ⟨w0.heap.size, 0, none⟩) 1 1, .int .i64 (1 - d)] 57)).alloc (Obj.cells #[.int .i64 (1), .int .i64 0, .string ⟨#[98]⟩, .string ⟨#[]⟩] 25)) (.slice (some ⟨w0.heap.size, 0, none⟩) 1 1) [foA] from RdR.own (((Own.rec1 w0 foA).alloc (Obj.cells #[.bool true, .int .i64 5, .slice (some ⟨w0.heap.size, 0, none⟩) 1 1, .int .i64 (1 - d)] 57)).alloc (Obj.cells #[.int .i64 (1), .int .i64 0, .string ⟨#[98]⟩, .string ⟨#[]⟩] 25)))
    have vb := (Own.arr (w0.alloc (Obj.cells #[.int .i64 1, .int .i64 0, .string ⟨#[97]⟩, .string ⟨#[]⟩] 25)) #[.bool true, .int .i64 5, .slice (some ⟨w0.heap.size, 0, none⟩) 1 1, .int .i64 (1 - d)] 57 4 rfl (by decide)).alloc (Obj.cells #[.int .i64 (1), .int .i64 0, .string ⟨#[98]⟩, .string ⟨#[]⟩] 25)
    rw [show (w0.alloc (Obj.cells #[.int .i64 1, .int .i64 0, .string ⟨#[97]⟩, .string ⟨#[]⟩] 25)).heap.size = w0.heap.size + 1 by simp] at vb
    have V4 := Lib.hid vb
    have rb := Own.arr ((w0.alloc (Obj.cells #[.int .i64 1, .int .i64 0, .string ⟨#[97]⟩, .string ⟨#[]⟩] 25)).alloc (Obj.cells #[.bool true, .int .i64 5, .slice (some ⟨w0.heap.size, 0, none⟩) 1 1, .int .i64 (1 - d)] 57)) #[.int .i64 (1), .int .i64 0, .string ⟨#[98]⟩, .string ⟨#[]⟩] 25 4 rfl (by decide)
    rw [show ((w0.alloc (Obj.cells #[.int .i64 1, .int .i64 0, .string ⟨#[97]⟩, .string ⟨#[]⟩] 25)).alloc (Obj.cells #[.bool true, .int .i64 5, .slice (some ⟨w0.heap.size, 0, none⟩) 1 1, .int .i64 (1 - d)] 57)).heap.size = w0.heap.size + 1 + 1 by simp] at rb
    have R4 := Lib.hid rb
    clear vb rb
    have a0 := V4.out.at' (j := 0) rfl
    have a1 := V4.out.at' (j := 1) rfl
    have a2 := V4.out.at' (j := 2) rfl
    have a3 := V4.out.at' (j := 3) rfl
    have c0 := R4.out.at' (j := 0) rfl
    have c1 := R4.out.at' (j := 1) rfl
    have c2 := R4.out.at' (j := 2) rfl
    have c3 := R4.out.at' (j := 3) rfl
    go_wp2_with fail
    with_reducible refine (C.out _ _ ROW.out).mono ?_
    rintro e w5 ⟨S, sc, R, rc, rfl, oq, hb⟩
    have P5 := Lib.hid (oq.below (Bl.alloc (Below.refl _ _) (Obj.cells #[.int .i64 0, .int .i64 0, .slice S 0 sc, .slice R 0 rc, .int .i64 0, .int .i64 0] 60)))
    have X5 := Lib.hid (Own.arr w5 #[.int .i64 0, .int .i64 0, .slice S 0 sc, .slice R 0 rc, .int .i64 0, .int .i64 0] 60 6 rfl (by decide))
    have B5 := Lib.hid (Bl.alloc (Bl.then B4.out hb) (Obj.cells #[.int .i64 0, .int .i64 0, .slice S 0 sc, .slice R 0 rc, .int .i64 0, .int .i64 0] 60))
    clear hb oq C ROW
    have y0 := X5.out.at' (j := 0) rfl
    have y1 := X5.out.at' (j := 1) rfl
    have y2 := X5.out.at' (j := 2) rfl
    have y3 := X5.out.at' (j := 3) rfl
    have y4 := X5.out.at' (j := 4) rfl
    have y5 := X5.out.at' (j := 5) rfl
    go_wp2_with fail
    with_reducible refine (same_plan _ _ zeroPl _ P5.out (rd_zero _)).mono ?_
    rintro e w6 ⟨rfl, hb⟩
    have B6 := Lib.hid (Bl.then B5.out hb)
    clear hb y0 y1 y2 y3 y4 y5
    go_wp2_with (go_at_call 22; refine (num_any _ _).mono ?_; rintro e w' ⟨rfl, rfl⟩)
    go_ret
    exact ⟨rfl, B6.out⟩
  · have C := Lib.hid (show ∀ (W : World) (F : Value), RdR W F [foA] → Calls Try.prog 28 #[.agg #[.bool true, .int .i64 (5), F, .int .i64 (8 + d)], .int .i64 5, .agg #[.int .i64 (1), .int .i64 0, .string ⟨#[98]⟩, .string ⟨#[]⟩]] W _ from change_no ⟨true, 5, [foA], 8 + d⟩ 5 foB (fun h => absurd h.1.2.2.2.1 (by show ¬ 8 + d ≤ 8; omega)) (by show 1 ≤ 10; decide) hzA (by show (ByteArray.mk #[98]).size ≤ _; decide) (by show (ByteArray.mk #[]).size ≤ _; decide))
    have hj := HJ.out
    have hd := HD.out
    have hwd := HWD.out
    have hsm : wrap64 (8 + d) = 8 + d := IntWalk.wrap64_in _ ⟨by omega, by omega⟩
    clear HJ HD HWD hzA
    have B4 := Lib.hid (Bl.alloc (Bl.alloc (Bl.alloc HBW.out (Obj.cells #[.int .i64 1, .int .i64 0, .string ⟨#[97]⟩, .string ⟨#[]⟩] 25)) (Obj.cells #[.bool true, .int .i64 5, .slice (some ⟨w0.heap.size, 0, none⟩) 1 1, .int .i64 (8 + d)] 57)) (Obj.cells #[.int .i64 (1), .int .i64 0, .string ⟨#[98]⟩, .string ⟨#[]⟩] 25))
    have ROW := Lib.hid (show RdR (((w0.alloc (Obj.cells #[.int .i64 1, .int .i64 0, .string ⟨#[97]⟩, .string ⟨#[]⟩] 25)).alloc (Obj.cells #[.bool true, .int .i64 5, .slice (some ⟨w0.heap.size, 0, none⟩) 1 1, .int .i64 (8 + d)] 57)).alloc (Obj.cells #[.int .i64 (1), .int .i64 0, .string ⟨#[98]⟩, .string ⟨#[]⟩] 25)) (.slice (some ⟨w0.heap.size, 0, none⟩) 1 1) [foA] from RdR.own (((Own.rec1 w0 foA).alloc (Obj.cells #[.bool true, .int .i64 5, .slice (some ⟨w0.heap.size, 0, none⟩) 1 1, .int .i64 (8 + d)] 57)).alloc (Obj.cells #[.int .i64 (1), .int .i64 0, .string ⟨#[98]⟩, .string ⟨#[]⟩] 25)))
    have vb := (Own.arr (w0.alloc (Obj.cells #[.int .i64 1, .int .i64 0, .string ⟨#[97]⟩, .string ⟨#[]⟩] 25)) #[.bool true, .int .i64 5, .slice (some ⟨w0.heap.size, 0, none⟩) 1 1, .int .i64 (8 + d)] 57 4 rfl (by decide)).alloc (Obj.cells #[.int .i64 (1), .int .i64 0, .string ⟨#[98]⟩, .string ⟨#[]⟩] 25)
    rw [show (w0.alloc (Obj.cells #[.int .i64 1, .int .i64 0, .string ⟨#[97]⟩, .string ⟨#[]⟩] 25)).heap.size = w0.heap.size + 1 by simp] at vb
    have V4 := Lib.hid vb
    have rb := Own.arr ((w0.alloc (Obj.cells #[.int .i64 1, .int .i64 0, .string ⟨#[97]⟩, .string ⟨#[]⟩] 25)).alloc (Obj.cells #[.bool true, .int .i64 5, .slice (some ⟨w0.heap.size, 0, none⟩) 1 1, .int .i64 (8 + d)] 57)) #[.int .i64 (1), .int .i64 0, .string ⟨#[98]⟩, .string ⟨#[]⟩] 25 4 rfl (by decide)
    rw [show ((w0.alloc (Obj.cells #[.int .i64 1, .int .i64 0, .string ⟨#[97]⟩, .string ⟨#[]⟩] 25)).alloc (Obj.cells #[.bool true, .int .i64 5, .slice (some ⟨w0.heap.size, 0, none⟩) 1 1, .int .i64 (8 + d)] 57)).heap.size = w0.heap.size + 1 + 1 by simp] at rb
    have R4 := Lib.hid rb
    clear vb rb
    have a0 := V4.out.at' (j := 0) rfl
    have a1 := V4.out.at' (j := 1) rfl
    have a2 := V4.out.at' (j := 2) rfl
    have a3 := V4.out.at' (j := 3) rfl
    have c0 := R4.out.at' (j := 0) rfl
    have c1 := R4.out.at' (j := 1) rfl
    have c2 := R4.out.at' (j := 2) rfl
    have c3 := R4.out.at' (j := 3) rfl
    go_wp2_with fail
    with_reducible refine (C.out _ _ ROW.out).mono ?_
    rintro e w5 ⟨S, sc, R, rc, rfl, oq, hb⟩
    have P5 := Lib.hid (oq.below (Bl.alloc (Below.refl _ _) (Obj.cells #[.int .i64 0, .int .i64 0, .slice S 0 sc, .slice R 0 rc, .int .i64 0, .int .i64 0] 60)))
    have X5 := Lib.hid (Own.arr w5 #[.int .i64 0, .int .i64 0, .slice S 0 sc, .slice R 0 rc, .int .i64 0, .int .i64 0] 60 6 rfl (by decide))
    have B5 := Lib.hid (Bl.alloc (Bl.then B4.out hb) (Obj.cells #[.int .i64 0, .int .i64 0, .slice S 0 sc, .slice R 0 rc, .int .i64 0, .int .i64 0] 60))
    clear hb oq C ROW
    have y0 := X5.out.at' (j := 0) rfl
    have y1 := X5.out.at' (j := 1) rfl
    have y2 := X5.out.at' (j := 2) rfl
    have y3 := X5.out.at' (j := 3) rfl
    have y4 := X5.out.at' (j := 4) rfl
    have y5 := X5.out.at' (j := 5) rfl
    go_wp2_with fail
    with_reducible refine (same_plan _ _ zeroPl _ P5.out (rd_zero _)).mono ?_
    rintro e w6 ⟨rfl, hb⟩
    have B6 := Lib.hid (Bl.then B5.out hb)
    clear hb y0 y1 y2 y3 y4 y5
    go_wp2_with (go_at_call 22; refine (num_any _ _).mono ?_; rintro e w' ⟨rfl, rfl⟩)
    go_ret
    exact ⟨rfl, B6.out⟩
  · have C := Lib.hid (show ∀ (W : World) (F : Value), RdR W F [foA, ⟨0, 1, nilB, nilB⟩] → Calls Try.prog 28 #[.agg #[.bool true, .int .i64 (5), F, .int .i64 (3)], .int .i64 5, .agg #[.int .i64 (1), .int .i64 0, .string ⟨#[98]⟩, .string ⟨#[]⟩]] W _ from change_no ⟨true, 5, [foA, ⟨0, 1, nilB, nilB⟩], 3⟩ 5 foB (fun h => fo5 h.1.2.2.2.2.1) (by show 2 ≤ 10; decide) (by intro r hr; simp at hr; rcases hr with rfl | rfl <;> decide) (by show (ByteArray.mk #[98]).size ≤ _; decide) (by show (ByteArray.mk #[]).size ≤ _; decide))
    have hj := HJ.out
    have hd := HD.out
    have hwd := HWD.out
    clear HJ HD HWD hzA
    have x2 := VX.out.at' (j := 2) rfl
    have BN := Lib.hid (fun (a1 a2 a3 a4 : Value) (ty : TypeId) => show Bx ((((w0.alloc (Obj.cells #[.int .i64 1, .int .i64 0, .string ⟨#[97]⟩, .string ⟨#[]⟩] 25)).alloc (Obj.cells #[.bool true, .int .i64 5, .slice (some ⟨w0.heap.size, 0, none⟩) 1 1, .int .i64 3] 57)).alloc (Obj.cells #[.int .i64 1, .int .i64 0, .string ⟨#[98]⟩, .string ⟨#[]⟩] 25)).alloc (Obj.cells #[a1, a2, a3, a4] ty)) (w0.heap.size + 1 + 1 + 1) a1 a2 a3 a4 by have h := Bx.new (((w0.alloc (Obj.cells #[.int .i64 1, .int .i64 0, .string ⟨#[97]⟩, .string ⟨#[]⟩] 25)).alloc (Obj.cells #[.bool true, .int .i64 5, .slice (some ⟨w0.heap.size, 0, none⟩) 1 1, .int .i64 3] 57)).alloc (Obj.cells #[.int .i64 1, .int .i64 0, .string ⟨#[98]⟩, .string ⟨#[]⟩] 25)) a1 a2 a3 a4 ty; rwa [show (((w0.alloc (Obj.cells #[.int .i64 1, .int .i64 0, .string ⟨#[97]⟩, .string ⟨#[]⟩] 25)).alloc (Obj.cells #[.bool true, .int .i64 5, .slice (some ⟨w0.heap.size, 0, none⟩) 1 1, .int .i64 3] 57)).alloc (Obj.cells #[.int .i64 1, .int .i64 0, .string ⟨#[98]⟩, .string ⟨#[]⟩] 25)).heap.size = w0.heap.size + 1 + 1 + 1 by simp] at h)
    go_wp2_with (at_builtin; refine appO w0.heap.size rfl (.tmp 52) (.tmp 54) 22 25 (.agg #[.int .i64 0, .int .i64 0, .string ⟨#[]⟩, .string ⟨#[]⟩]) 4 48 rfl Try.underlying22 infoRecX rfl (by decide) (by decide) _ 1 (flat [foA]) rfl (some ⟨w0.heap.size + 1 + 1 + 1, 0, none⟩) 1 1 [.int .i64 0, .int .i64 1, .string ⟨#[]⟩, .string ⟨#[]⟩] rfl rfl (cellsR_one ⟨0, 1, nilB, nilB⟩) (fun h => by cases h) (box4 (BN.out _ _ _ _ _)) (RC.out.alloc _) (Nat.le_trans HS.out (Bl.alloc (Below.refl _ _) _).size) (by decide) ?_; intro v1 w2 ho hg ha; have VX2 := Lib.hid ((VX.out.alloc (Obj.cells #[.int .i64 0, .int .i64 1, .string ⟨#[]⟩, .string ⟨#[]⟩] 25)).kept hg (Own.ne (by decide) (VX.out.alloc (Obj.cells #[.int .i64 0, .int .i64 1, .string ⟨#[]⟩, .string ⟨#[]⟩] 25)) (RC.out.alloc (Obj.cells #[.int .i64 0, .int .i64 1, .string ⟨#[]⟩, .string ⟨#[]⟩] 25)))); have RX2 := Lib.hid (Own.kept (row := some w0.heap.size) (RX.out.alloc (Obj.cells #[.int .i64 0, .int .i64 1, .string ⟨#[]⟩, .string ⟨#[]⟩] 25)) hg (.inr (fun e => by have h9 : w0.heap.size + 1 + 1 = w0.heap.size := Option.some.inj e; omega))); have B2 := Lib.hid (Below.grown (Bl.alloc B3.out (Obj.cells #[.int .i64 0, .int .i64 1, .string ⟨#[]⟩, .string ⟨#[]⟩] 25)) hg (Bl.alloc B3.out (Obj.cells #[.int .i64 0, .int .i64 1, .string ⟨#[]⟩, .string ⟨#[]⟩] 25)).size (fun q hq => Nat.le_trans HW.out (RC.out.base q hq))); have O2 := Lib.hid (show Own w2 w0.heap.size 25 4 v1 2 (flat [foA, ⟨0, 1, nilB, nilB⟩]) from ho); have st := VX2.out.stored 2 v1; have V4 := Lib.hid st.1; have R4 := Lib.hid (RX2.out.kept st.2 (Own.ne (by decide) RX2.out VX2.out)); have ROW := Lib.hid (RdR.own (O2.out.kept st.2 (Own.ne (by decide) O2.out VX2.out))); have B4 := Lib.hid (B2.out.setCell (p := ⟨w0.heap.size + 1, 2, none⟩) (Nat.le_trans HW.out (Nat.le_succ _)) v1); have fz := VX2.out.free (j := 2) (by decide); have oz := VX2.out.at' (j := 2) rfl; obtain ⟨D1, d1, hv1⟩ := O2.out.slice; subst hv1; have a0 := V4.out.at' (j := 0) rfl; have a1 := V4.out.at' (j := 1) rfl; have a2 := V4.out.at' (j := 2) rfl; have a3 := V4.out.at' (j := 3) rfl; have c0 := R4.out.at' (j := 0) rfl; have c1 := R4.out.at' (j := 1) rfl; have c2 := R4.out.at' (j := 2) rfl; have c3 := R4.out.at' (j := 3) rfl; clear ho hg ha st x2 BN)
    with_reducible refine (C.out _ _ ROW.out).mono ?_
    rintro e w5 ⟨S, sc, R, rc, rfl, oq, hb⟩
    have P5 := Lib.hid (oq.below (Bl.alloc (Below.refl _ _) (Obj.cells #[.int .i64 0, .int .i64 0, .slice S 0 sc, .slice R 0 rc, .int .i64 0, .int .i64 0] 60)))
    have X5 := Lib.hid (Own.arr w5 #[.int .i64 0, .int .i64 0, .slice S 0 sc, .slice R 0 rc, .int .i64 0, .int .i64 0] 60 6 rfl (by decide))
    have B5 := Lib.hid (Bl.alloc (Bl.then B4.out hb) (Obj.cells #[.int .i64 0, .int .i64 0, .slice S 0 sc, .slice R 0 rc, .int .i64 0, .int .i64 0] 60))
    clear hb oq C ROW
    have y0 := X5.out.at' (j := 0) rfl
    have y1 := X5.out.at' (j := 1) rfl
    have y2 := X5.out.at' (j := 2) rfl
    have y3 := X5.out.at' (j := 3) rfl
    have y4 := X5.out.at' (j := 4) rfl
    have y5 := X5.out.at' (j := 5) rfl
    go_wp2_with fail
    with_reducible refine (same_plan _ _ zeroPl _ P5.out (rd_zero _)).mono ?_
    rintro e w6 ⟨rfl, hb⟩
    have B6 := Lib.hid (Bl.then B5.out hb)
    clear hb y0 y1 y2 y3 y4 y5
    go_wp2_with (go_at_call 22; refine (num_any _ _).mono ?_; rintro e w' ⟨rfl, rfl⟩)
    go_ret
    exact ⟨rfl, B6.out⟩
  · have C := Lib.hid (show ∀ (W : World) (F : Value), RdR W F [foA, ⟨2, 0, nilB, nilB⟩] → Calls Try.prog 28 #[.agg #[.bool true, .int .i64 (5), F, .int .i64 (3)], .int .i64 5, .agg #[.int .i64 (1), .int .i64 0, .string ⟨#[98]⟩, .string ⟨#[]⟩]] W _ from change_no ⟨true, 5, [foA, ⟨2, 0, nilB, nilB⟩], 3⟩ 5 foB (fun h => fo6 h.1.2.2.2.2.1) (by show 2 ≤ 10; decide) (by intro r hr; simp at hr; rcases hr with rfl | rfl <;> decide) (by show (ByteArray.mk #[98]).size ≤ _; decide) (by show (ByteArray.mk #[]).size ≤ _; decide))
    have hj := HJ.out
    have hd := HD.out
    have hwd := HWD.out
    clear HJ HD HWD hzA
    have x2 := VX.out.at' (j := 2) rfl
    have BN := Lib.hid (fun (a1 a2 a3 a4 : Value) (ty : TypeId) => show Bx ((((w0.alloc (Obj.cells #[.int .i64 1, .int .i64 0, .string ⟨#[97]⟩, .string ⟨#[]⟩] 25)).alloc (Obj.cells #[.bool true, .int .i64 5, .slice (some ⟨w0.heap.size, 0, none⟩) 1 1, .int .i64 3] 57)).alloc (Obj.cells #[.int .i64 1, .int .i64 0, .string ⟨#[98]⟩, .string ⟨#[]⟩] 25)).alloc (Obj.cells #[a1, a2, a3, a4] ty)) (w0.heap.size + 1 + 1 + 1) a1 a2 a3 a4 by have h := Bx.new (((w0.alloc (Obj.cells #[.int .i64 1, .int .i64 0, .string ⟨#[97]⟩, .string ⟨#[]⟩] 25)).alloc (Obj.cells #[.bool true, .int .i64 5, .slice (some ⟨w0.heap.size, 0, none⟩) 1 1, .int .i64 3] 57)).alloc (Obj.cells #[.int .i64 1, .int .i64 0, .string ⟨#[98]⟩, .string ⟨#[]⟩] 25)) a1 a2 a3 a4 ty; rwa [show (((w0.alloc (Obj.cells #[.int .i64 1, .int .i64 0, .string ⟨#[97]⟩, .string ⟨#[]⟩] 25)).alloc (Obj.cells #[.bool true, .int .i64 5, .slice (some ⟨w0.heap.size, 0, none⟩) 1 1, .int .i64 3] 57)).alloc (Obj.cells #[.int .i64 1, .int .i64 0, .string ⟨#[98]⟩, .string ⟨#[]⟩] 25)).heap.size = w0.heap.size + 1 + 1 + 1 by simp] at h)
    go_wp2_with (at_builtin; refine appO w0.heap.size rfl (.tmp 60) (.tmp 62) 22 25 (.agg #[.int .i64 0, .int .i64 0, .string ⟨#[]⟩, .string ⟨#[]⟩]) 4 48 rfl Try.underlying22 infoRecX rfl (by decide) (by decide) _ 1 (flat [foA]) rfl (some ⟨w0.heap.size + 1 + 1 + 1, 0, none⟩) 1 1 [.int .i64 2, .int .i64 0, .string ⟨#[]⟩, .string ⟨#[]⟩] rfl rfl (cellsR_one ⟨2, 0, nilB, nilB⟩) (fun h => by cases h) (box4 (BN.out _ _ _ _ _)) (RC.out.alloc _) (Nat.le_trans HS.out (Bl.alloc (Below.refl _ _) _).size) (by decide) ?_; intro v1 w2 ho hg ha; have VX2 := Lib.hid ((VX.out.alloc (Obj.cells #[.int .i64 2, .int .i64 0, .string ⟨#[]⟩, .string ⟨#[]⟩] 25)).kept hg (Own.ne (by decide) (VX.out.alloc (Obj.cells #[.int .i64 2, .int .i64 0, .string ⟨#[]⟩, .string ⟨#[]⟩] 25)) (RC.out.alloc (Obj.cells #[.int .i64 2, .int .i64 0, .string ⟨#[]⟩, .string ⟨#[]⟩] 25)))); have RX2 := Lib.hid (Own.kept (row := some w0.heap.size) (RX.out.alloc (Obj.cells #[.int .i64 2, .int .i64 0, .string ⟨#[]⟩, .string ⟨#[]⟩] 25)) hg (.inr (fun e => by have h9 : w0.heap.size + 1 + 1 = w0.heap.size := Option.some.inj e; omega))); have B2 := Lib.hid (Below.grown (Bl.alloc B3.out (Obj.cells #[.int .i64 2, .int .i64 0, .string ⟨#[]⟩, .string ⟨#[]⟩] 25)) hg (Bl.alloc B3.out (Obj.cells #[.int .i64 2, .int .i64 0, .string ⟨#[]⟩, .string ⟨#[]⟩] 25)).size (fun q hq => Nat.le_trans HW.out (RC.out.base q hq))); have O2 := Lib.hid (show Own w2 w0.heap.size 25 4 v1 2 (flat [foA, ⟨2, 0, nilB, nilB⟩]) from ho); have st := VX2.out.stored 2 v1; have V4 := Lib.hid st.1; have R4 := Lib.hid (RX2.out.kept st.2 (Own.ne (by decide) RX2.out VX2.out)); have ROW := Lib.hid (RdR.own (O2.out.kept st.2 (Own.ne (by decide) O2.out VX2.out))); have B4 := Lib.hid (B2.out.setCell (p := ⟨w0.heap.size + 1, 2, none⟩) (Nat.le_trans HW.out (Nat.le_succ _)) v1); have fz := VX2.out.free (j := 2) (by decide); have oz := VX2.out.at' (j := 2) rfl; obtain ⟨D1, d1, hv1⟩ := O2.out.slice; subst hv1; have a0 := V4.out.at' (j := 0) rfl; have a1 := V4.out.at' (j := 1) rfl; have a2 := V4.out.at' (j := 2) rfl; have a3 := V4.out.at' (j := 3) rfl; have c0 := R4.out.at' (j := 0) rfl; have c1 := R4.out.at' (j := 1) rfl; have c2 := R4.out.at' (j := 2) rfl; have c3 := R4.out.at' (j := 3) rfl; clear ho hg ha st x2 BN)
    with_reducible refine (C.out _ _ ROW.out).mono ?_
    rintro e w5 ⟨S, sc, R, rc, rfl, oq, hb⟩
    have P5 := Lib.hid (oq.below (Bl.alloc (Below.refl _ _) (Obj.cells #[.int .i64 0, .int .i64 0, .slice S 0 sc, .slice R 0 rc, .int .i64 0, .int .i64 0] 60)))
    have X5 := Lib.hid (Own.arr w5 #[.int .i64 0, .int .i64 0, .slice S 0 sc, .slice R 0 rc, .int .i64 0, .int .i64 0] 60 6 rfl (by decide))
    have B5 := Lib.hid (Bl.alloc (Bl.then B4.out hb) (Obj.cells #[.int .i64 0, .int .i64 0, .slice S 0 sc, .slice R 0 rc, .int .i64 0, .int .i64 0] 60))
    clear hb oq C ROW
    have y0 := X5.out.at' (j := 0) rfl
    have y1 := X5.out.at' (j := 1) rfl
    have y2 := X5.out.at' (j := 2) rfl
    have y3 := X5.out.at' (j := 3) rfl
    have y4 := X5.out.at' (j := 4) rfl
    have y5 := X5.out.at' (j := 5) rfl
    go_wp2_with fail
    with_reducible refine (same_plan _ _ zeroPl _ P5.out (rd_zero _)).mono ?_
    rintro e w6 ⟨rfl, hb⟩
    have B6 := Lib.hid (Bl.then B5.out hb)
    clear hb y0 y1 y2 y3 y4 y5
    go_wp2_with (go_at_call 22; refine (num_any _ _).mono ?_; rintro e w' ⟨rfl, rfl⟩)
    go_ret
    exact ⟨rfl, B6.out⟩
  · have C := Lib.hid (show ∀ (W : World) (F : Value), RdR W F [foA] → Calls Try.prog 28 #[.agg #[.bool true, .int .i64 (5), F, .int .i64 (3)], .int .i64 (4 - d), .agg #[.int .i64 (1), .int .i64 0, .string ⟨#[98]⟩, .string ⟨#[]⟩]] W _ from change_no ⟨true, 5, [foA], 3⟩ (4 - d) foB (fun h => absurd h.2.1 (by omega)) (by show 1 ≤ 10; decide) hzA (by show (ByteArray.mk #[98]).size ≤ _; decide) (by show (ByteArray.mk #[]).size ≤ _; decide))
    have hj := HJ.out
    have hd := HD.out
    have hwd := HWD.out
    have hsm : wrap64 (4 - d) = 4 - d := IntWalk.wrap64_in _ ⟨by omega, by omega⟩
    clear HJ HD HWD hzA
    have B4 := Lib.hid (Bl.alloc (Bl.alloc (Bl.alloc HBW.out (Obj.cells #[.int .i64 1, .int .i64 0, .string ⟨#[97]⟩, .string ⟨#[]⟩] 25)) (Obj.cells #[.bool true, .int .i64 5, .slice (some ⟨w0.heap.size, 0, none⟩) 1 1, .int .i64 3] 57)) (Obj.cells #[.int .i64 (1), .int .i64 0, .string ⟨#[98]⟩, .string ⟨#[]⟩] 25))
    have ROW := Lib.hid (show RdR (((w0.alloc (Obj.cells #[.int .i64 1, .int .i64 0, .string ⟨#[97]⟩, .string ⟨#[]⟩] 25)).alloc (Obj.cells #[.bool true, .int .i64 5, .slice (some ⟨w0.heap.size, 0, none⟩) 1 1, .int .i64 3] 57)).alloc (Obj.cells #[.int .i64 (1), .int .i64 0, .string ⟨#[98]⟩, .string ⟨#[]⟩] 25)) (.slice (some ⟨w0.heap.size, 0, none⟩) 1 1) [foA] from RdR.own (((Own.rec1 w0 foA).alloc (Obj.cells #[.bool true, .int .i64 5, .slice (some ⟨w0.heap.size, 0, none⟩) 1 1, .int .i64 3] 57)).alloc (Obj.cells #[.int .i64 (1), .int .i64 0, .string ⟨#[98]⟩, .string ⟨#[]⟩] 25)))
    have vb := (Own.arr (w0.alloc (Obj.cells #[.int .i64 1, .int .i64 0, .string ⟨#[97]⟩, .string ⟨#[]⟩] 25)) #[.bool true, .int .i64 5, .slice (some ⟨w0.heap.size, 0, none⟩) 1 1, .int .i64 3] 57 4 rfl (by decide)).alloc (Obj.cells #[.int .i64 (1), .int .i64 0, .string ⟨#[98]⟩, .string ⟨#[]⟩] 25)
    rw [show (w0.alloc (Obj.cells #[.int .i64 1, .int .i64 0, .string ⟨#[97]⟩, .string ⟨#[]⟩] 25)).heap.size = w0.heap.size + 1 by simp] at vb
    have V4 := Lib.hid vb
    have rb := Own.arr ((w0.alloc (Obj.cells #[.int .i64 1, .int .i64 0, .string ⟨#[97]⟩, .string ⟨#[]⟩] 25)).alloc (Obj.cells #[.bool true, .int .i64 5, .slice (some ⟨w0.heap.size, 0, none⟩) 1 1, .int .i64 3] 57)) #[.int .i64 (1), .int .i64 0, .string ⟨#[98]⟩, .string ⟨#[]⟩] 25 4 rfl (by decide)
    rw [show ((w0.alloc (Obj.cells #[.int .i64 1, .int .i64 0, .string ⟨#[97]⟩, .string ⟨#[]⟩] 25)).alloc (Obj.cells #[.bool true, .int .i64 5, .slice (some ⟨w0.heap.size, 0, none⟩) 1 1, .int .i64 3] 57)).heap.size = w0.heap.size + 1 + 1 by simp] at rb
    have R4 := Lib.hid rb
    clear vb rb
    have a0 := V4.out.at' (j := 0) rfl
    have a1 := V4.out.at' (j := 1) rfl
    have a2 := V4.out.at' (j := 2) rfl
    have a3 := V4.out.at' (j := 3) rfl
    have c0 := R4.out.at' (j := 0) rfl
    have c1 := R4.out.at' (j := 1) rfl
    have c2 := R4.out.at' (j := 2) rfl
    have c3 := R4.out.at' (j := 3) rfl
    go_wp2_with fail
    with_reducible refine (C.out _ _ ROW.out).mono ?_
    rintro e w5 ⟨S, sc, R, rc, rfl, oq, hb⟩
    have P5 := Lib.hid (oq.below (Bl.alloc (Below.refl _ _) (Obj.cells #[.int .i64 0, .int .i64 0, .slice S 0 sc, .slice R 0 rc, .int .i64 0, .int .i64 0] 60)))
    have X5 := Lib.hid (Own.arr w5 #[.int .i64 0, .int .i64 0, .slice S 0 sc, .slice R 0 rc, .int .i64 0, .int .i64 0] 60 6 rfl (by decide))
    have B5 := Lib.hid (Bl.alloc (Bl.then B4.out hb) (Obj.cells #[.int .i64 0, .int .i64 0, .slice S 0 sc, .slice R 0 rc, .int .i64 0, .int .i64 0] 60))
    clear hb oq C ROW
    have y0 := X5.out.at' (j := 0) rfl
    have y1 := X5.out.at' (j := 1) rfl
    have y2 := X5.out.at' (j := 2) rfl
    have y3 := X5.out.at' (j := 3) rfl
    have y4 := X5.out.at' (j := 4) rfl
    have y5 := X5.out.at' (j := 5) rfl
    go_wp2_with fail
    with_reducible refine (same_plan _ _ zeroPl _ P5.out (rd_zero _)).mono ?_
    rintro e w6 ⟨rfl, hb⟩
    have B6 := Lib.hid (Bl.then B5.out hb)
    clear hb y0 y1 y2 y3 y4 y5
    go_wp2_with (go_at_call 22; refine (num_any _ _).mono ?_; rintro e w' ⟨rfl, rfl⟩)
    go_ret
    exact ⟨rfl, B6.out⟩
  · have C := Lib.hid (show ∀ (W : World) (F : Value), RdR W F [foA] → Calls Try.prog 28 #[.agg #[.bool true, .int .i64 (5), F, .int .i64 (3)], .int .i64 (7 + d), .agg #[.int .i64 (1), .int .i64 0, .string ⟨#[98]⟩, .string ⟨#[]⟩]] W _ from change_no ⟨true, 5, [foA], 3⟩ (7 + d) foB (fun h => absurd h.2.2 (by omega)) (by show 1 ≤ 10; decide) hzA (by show (ByteArray.mk #[98]).size ≤ _; decide) (by show (ByteArray.mk #[]).size ≤ _; decide))
    have hj := HJ.out
    have hd := HD.out
    have hwd := HWD.out
    have hsm : wrap64 (7 + d) = 7 + d := IntWalk.wrap64_in _ ⟨by omega, by omega⟩
    clear HJ HD HWD hzA
    have B4 := Lib.hid (Bl.alloc (Bl.alloc (Bl.alloc HBW.out (Obj.cells #[.int .i64 1, .int .i64 0, .string ⟨#[97]⟩, .string ⟨#[]⟩] 25)) (Obj.cells #[.bool true, .int .i64 5, .slice (some ⟨w0.heap.size, 0, none⟩) 1 1, .int .i64 3] 57)) (Obj.cells #[.int .i64 (1), .int .i64 0, .string ⟨#[98]⟩, .string ⟨#[]⟩] 25))
    have ROW := Lib.hid (show RdR (((w0.alloc (Obj.cells #[.int .i64 1, .int .i64 0, .string ⟨#[97]⟩, .string ⟨#[]⟩] 25)).alloc (Obj.cells #[.bool true, .int .i64 5, .slice (some ⟨w0.heap.size, 0, none⟩) 1 1, .int .i64 3] 57)).alloc (Obj.cells #[.int .i64 (1), .int .i64 0, .string ⟨#[98]⟩, .string ⟨#[]⟩] 25)) (.slice (some ⟨w0.heap.size, 0, none⟩) 1 1) [foA] from RdR.own (((Own.rec1 w0 foA).alloc (Obj.cells #[.bool true, .int .i64 5, .slice (some ⟨w0.heap.size, 0, none⟩) 1 1, .int .i64 3] 57)).alloc (Obj.cells #[.int .i64 (1), .int .i64 0, .string ⟨#[98]⟩, .string ⟨#[]⟩] 25)))
    have vb := (Own.arr (w0.alloc (Obj.cells #[.int .i64 1, .int .i64 0, .string ⟨#[97]⟩, .string ⟨#[]⟩] 25)) #[.bool true, .int .i64 5, .slice (some ⟨w0.heap.size, 0, none⟩) 1 1, .int .i64 3] 57 4 rfl (by decide)).alloc (Obj.cells #[.int .i64 (1), .int .i64 0, .string ⟨#[98]⟩, .string ⟨#[]⟩] 25)
    rw [show (w0.alloc (Obj.cells #[.int .i64 1, .int .i64 0, .string ⟨#[97]⟩, .string ⟨#[]⟩] 25)).heap.size = w0.heap.size + 1 by simp] at vb
    have V4 := Lib.hid vb
    have rb := Own.arr ((w0.alloc (Obj.cells #[.int .i64 1, .int .i64 0, .string ⟨#[97]⟩, .string ⟨#[]⟩] 25)).alloc (Obj.cells #[.bool true, .int .i64 5, .slice (some ⟨w0.heap.size, 0, none⟩) 1 1, .int .i64 3] 57)) #[.int .i64 (1), .int .i64 0, .string ⟨#[98]⟩, .string ⟨#[]⟩] 25 4 rfl (by decide)
    rw [show ((w0.alloc (Obj.cells #[.int .i64 1, .int .i64 0, .string ⟨#[97]⟩, .string ⟨#[]⟩] 25)).alloc (Obj.cells #[.bool true, .int .i64 5, .slice (some ⟨w0.heap.size, 0, none⟩) 1 1, .int .i64 3] 57)).heap.size = w0.heap.size + 1 + 1 by simp] at rb
    have R4 := Lib.hid rb
    clear vb rb
    have a0 := V4.out.at' (j := 0) rfl
    have a1 := V4.out.at' (j := 1) rfl
    have a2 := V4.out.at' (j := 2) rfl
    have a3 := V4.out.at' (j := 3) rfl
    have c0 := R4.out.at' (j := 0) rfl
    have c1 := R4.out.at' (j := 1) rfl
    have c2 := R4.out.at' (j := 2) rfl
    have c3 := R4.out.at' (j := 3) rfl
    go_wp2_with fail
    with_reducible refine (C.out _ _ ROW.out).mono ?_
    rintro e w5 ⟨S, sc, R, rc, rfl, oq, hb⟩
    have P5 := Lib.hid (oq.below (Bl.alloc (Below.refl _ _) (Obj.cells #[.int .i64 0, .int .i64 0, .slice S 0 sc, .slice R 0 rc, .int .i64 0, .int .i64 0] 60)))
    have X5 := Lib.hid (Own.arr w5 #[.int .i64 0, .int .i64 0, .slice S 0 sc, .slice R 0 rc, .int .i64 0, .int .i64 0] 60 6 rfl (by decide))
    have B5 := Lib.hid (Bl.alloc (Bl.then B4.out hb) (Obj.cells #[.int .i64 0, .int .i64 0, .slice S 0 sc, .slice R 0 rc, .int .i64 0, .int .i64 0] 60))
    clear hb oq C ROW
    have y0 := X5.out.at' (j := 0) rfl
    have y1 := X5.out.at' (j := 1) rfl
    have y2 := X5.out.at' (j := 2) rfl
    have y3 := X5.out.at' (j := 3) rfl
    have y4 := X5.out.at' (j := 4) rfl
    have y5 := X5.out.at' (j := 5) rfl
    go_wp2_with fail
    with_reducible refine (same_plan _ _ zeroPl _ P5.out (rd_zero _)).mono ?_
    rintro e w6 ⟨rfl, hb⟩
    have B6 := Lib.hid (Bl.then B5.out hb)
    clear hb y0 y1 y2 y3 y4 y5
    go_wp2_with (go_at_call 22; refine (num_any _ _).mono ?_; rintro e w' ⟨rfl, rfl⟩)
    go_ret
    exact ⟨rfl, B6.out⟩
  · have C := Lib.hid (show ∀ (W : World) (F : Value), RdR W F [foA] → Calls Try.prog 28 #[.agg #[.bool true, .int .i64 (5), F, .int .i64 (3)], .int .i64 5, .agg #[.int .i64 (0), .int .i64 5, .string ⟨#[]⟩, .string ⟨#[]⟩]] W _ from change_no ⟨true, 5, [foA], 3⟩ 5 ⟨0, 5, nilB, nilB⟩ (fun h => fo9 h.1.2.2.2.2.2.2) (by show 1 ≤ 10; decide) hzA (by show (ByteArray.mk #[]).size ≤ _; decide) (by show (ByteArray.mk #[]).size ≤ _; decide))
    have hj := HJ.out
    have hd := HD.out
    have hwd := HWD.out
    clear HJ HD HWD hzA
    have B4 := Lib.hid (Bl.alloc (Bl.alloc (Bl.alloc HBW.out (Obj.cells #[.int .i64 1, .int .i64 0, .string ⟨#[97]⟩, .string ⟨#[]⟩] 25)) (Obj.cells #[.bool true, .int .i64 5, .slice (some ⟨w0.heap.size, 0, none⟩) 1 1, .int .i64 3] 57)) (Obj.cells #[.int .i64 (0), .int .i64 5, .string ⟨#[]⟩, .string ⟨#[]⟩] 25))
    have ROW := Lib.hid (show RdR (((w0.alloc (Obj.cells #[.int .i64 1, .int .i64 0, .string ⟨#[97]⟩, .string ⟨#[]⟩] 25)).alloc (Obj.cells #[.bool true, .int .i64 5, .slice (some ⟨w0.heap.size, 0, none⟩) 1 1, .int .i64 3] 57)).alloc (Obj.cells #[.int .i64 (0), .int .i64 5, .string ⟨#[]⟩, .string ⟨#[]⟩] 25)) (.slice (some ⟨w0.heap.size, 0, none⟩) 1 1) [foA] from RdR.own (((Own.rec1 w0 foA).alloc (Obj.cells #[.bool true, .int .i64 5, .slice (some ⟨w0.heap.size, 0, none⟩) 1 1, .int .i64 3] 57)).alloc (Obj.cells #[.int .i64 (0), .int .i64 5, .string ⟨#[]⟩, .string ⟨#[]⟩] 25)))
    have vb := (Own.arr (w0.alloc (Obj.cells #[.int .i64 1, .int .i64 0, .string ⟨#[97]⟩, .string ⟨#[]⟩] 25)) #[.bool true, .int .i64 5, .slice (some ⟨w0.heap.size, 0, none⟩) 1 1, .int .i64 3] 57 4 rfl (by decide)).alloc (Obj.cells #[.int .i64 (0), .int .i64 5, .string ⟨#[]⟩, .string ⟨#[]⟩] 25)
    rw [show (w0.alloc (Obj.cells #[.int .i64 1, .int .i64 0, .string ⟨#[97]⟩, .string ⟨#[]⟩] 25)).heap.size = w0.heap.size + 1 by simp] at vb
    have V4 := Lib.hid vb
    have rb := Own.arr ((w0.alloc (Obj.cells #[.int .i64 1, .int .i64 0, .string ⟨#[97]⟩, .string ⟨#[]⟩] 25)).alloc (Obj.cells #[.bool true, .int .i64 5, .slice (some ⟨w0.heap.size, 0, none⟩) 1 1, .int .i64 3] 57)) #[.int .i64 (0), .int .i64 5, .string ⟨#[]⟩, .string ⟨#[]⟩] 25 4 rfl (by decide)
    rw [show ((w0.alloc (Obj.cells #[.int .i64 1, .int .i64 0, .string ⟨#[97]⟩, .string ⟨#[]⟩] 25)).alloc (Obj.cells #[.bool true, .int .i64 5, .slice (some ⟨w0.heap.size, 0, none⟩) 1 1, .int .i64 3] 57)).heap.size = w0.heap.size + 1 + 1 by simp] at rb
    have R4 := Lib.hid rb
    clear vb rb
    have a0 := V4.out.at' (j := 0) rfl
    have a1 := V4.out.at' (j := 1) rfl
    have a2 := V4.out.at' (j := 2) rfl
    have a3 := V4.out.at' (j := 3) rfl
    have c0 := R4.out.at' (j := 0) rfl
    have c1 := R4.out.at' (j := 1) rfl
    have c2 := R4.out.at' (j := 2) rfl
    have c3 := R4.out.at' (j := 3) rfl
    go_wp2_with fail
    with_reducible refine (C.out _ _ ROW.out).mono ?_
    rintro e w5 ⟨S, sc, R, rc, rfl, oq, hb⟩
    have P5 := Lib.hid (oq.below (Bl.alloc (Below.refl _ _) (Obj.cells #[.int .i64 0, .int .i64 0, .slice S 0 sc, .slice R 0 rc, .int .i64 0, .int .i64 0] 60)))
    have X5 := Lib.hid (Own.arr w5 #[.int .i64 0, .int .i64 0, .slice S 0 sc, .slice R 0 rc, .int .i64 0, .int .i64 0] 60 6 rfl (by decide))
    have B5 := Lib.hid (Bl.alloc (Bl.then B4.out hb) (Obj.cells #[.int .i64 0, .int .i64 0, .slice S 0 sc, .slice R 0 rc, .int .i64 0, .int .i64 0] 60))
    clear hb oq C ROW
    have y0 := X5.out.at' (j := 0) rfl
    have y1 := X5.out.at' (j := 1) rfl
    have y2 := X5.out.at' (j := 2) rfl
    have y3 := X5.out.at' (j := 3) rfl
    have y4 := X5.out.at' (j := 4) rfl
    have y5 := X5.out.at' (j := 5) rfl
    go_wp2_with fail
    with_reducible refine (same_plan _ _ zeroPl _ P5.out (rd_zero _)).mono ?_
    rintro e w6 ⟨rfl, hb⟩
    have B6 := Lib.hid (Bl.then B5.out hb)
    clear hb y0 y1 y2 y3 y4 y5
    go_wp2_with (go_at_call 22; refine (num_any _ _).mono ?_; rintro e w' ⟨rfl, rfl⟩)
    go_ret
    exact ⟨rfl, B6.out⟩
  · have C := Lib.hid (show ∀ (W : World) (F : Value), RdR W F [foA] → Calls Try.prog 28 #[.agg #[.bool true, .int .i64 (5), F, .int .i64 (3)], .int .i64 5, .agg #[.int .i64 (1), .int .i64 0, .string ⟨#[]⟩, .string ⟨#[]⟩]] W _ from change_no ⟨true, 5, [foA], 3⟩ 5 ⟨1, 0, nilB, nilB⟩ (fun h => fo10 h.1.2.2.2.2.2.2) (by show 1 ≤ 10; decide) hzA (by show (ByteArray.mk #[]).size ≤ _; decide) (by show (ByteArray.mk #[]).size ≤ _; decide))
    have hj := HJ.out
    have hd := HD.out
    have hwd := HWD.out
    clear HJ HD HWD hzA
    have B4 := Lib.hid (Bl.alloc (Bl.alloc (Bl.alloc HBW.out (Obj.cells #[.int .i64 1, .int .i64 0, .string ⟨#[97]⟩, .string ⟨#[]⟩] 25)) (Obj.cells #[.bool true, .int .i64 5, .slice (some ⟨w0.heap.size, 0, none⟩) 1 1, .int .i64 3] 57)) (Obj.cells #[.int .i64 (1), .int .i64 0, .string ⟨#[]⟩, .string ⟨#[]⟩] 25))
    have ROW := Lib.hid (show RdR (((w0.alloc (Obj.cells #[.int .i64 1, .int .i64 0, .string ⟨#[97]⟩, .string ⟨#[]⟩] 25)).alloc (Obj.cells #[.bool true, .int .i64 5, .slice (some ⟨w0.heap.size, 0, none⟩) 1 1, .int .i64 3] 57)).alloc (Obj.cells #[.int .i64 (1), .int .i64 0, .string ⟨#[]⟩, .string ⟨#[]⟩] 25)) (.slice (some ⟨w0.heap.size, 0, none⟩) 1 1) [foA] from RdR.own (((Own.rec1 w0 foA).alloc (Obj.cells #[.bool true, .int .i64 5, .slice (some ⟨w0.heap.size, 0, none⟩) 1 1, .int .i64 3] 57)).alloc (Obj.cells #[.int .i64 (1), .int .i64 0, .string ⟨#[]⟩, .string ⟨#[]⟩] 25)))
    have vb := (Own.arr (w0.alloc (Obj.cells #[.int .i64 1, .int .i64 0, .string ⟨#[97]⟩, .string ⟨#[]⟩] 25)) #[.bool true, .int .i64 5, .slice (some ⟨w0.heap.size, 0, none⟩) 1 1, .int .i64 3] 57 4 rfl (by decide)).alloc (Obj.cells #[.int .i64 (1), .int .i64 0, .string ⟨#[]⟩, .string ⟨#[]⟩] 25)
    rw [show (w0.alloc (Obj.cells #[.int .i64 1, .int .i64 0, .string ⟨#[97]⟩, .string ⟨#[]⟩] 25)).heap.size = w0.heap.size + 1 by simp] at vb
    have V4 := Lib.hid vb
    have rb := Own.arr ((w0.alloc (Obj.cells #[.int .i64 1, .int .i64 0, .string ⟨#[97]⟩, .string ⟨#[]⟩] 25)).alloc (Obj.cells #[.bool true, .int .i64 5, .slice (some ⟨w0.heap.size, 0, none⟩) 1 1, .int .i64 3] 57)) #[.int .i64 (1), .int .i64 0, .string ⟨#[]⟩, .string ⟨#[]⟩] 25 4 rfl (by decide)
    rw [show ((w0.alloc (Obj.cells #[.int .i64 1, .int .i64 0, .string ⟨#[97]⟩, .string ⟨#[]⟩] 25)).alloc (Obj.cells #[.bool true, .int .i64 5, .slice (some ⟨w0.heap.size, 0, none⟩) 1 1, .int .i64 3] 57)).heap.size = w0.heap.size + 1 + 1 by simp] at rb
    have R4 := Lib.hid rb
    clear vb rb
    have a0 := V4.out.at' (j := 0) rfl
    have a1 := V4.out.at' (j := 1) rfl
    have a2 := V4.out.at' (j := 2) rfl
    have a3 := V4.out.at' (j := 3) rfl
    have c0 := R4.out.at' (j := 0) rfl
    have c1 := R4.out.at' (j := 1) rfl
    have c2 := R4.out.at' (j := 2) rfl
    have c3 := R4.out.at' (j := 3) rfl
    go_wp2_with fail
    with_reducible refine (C.out _ _ ROW.out).mono ?_
    rintro e w5 ⟨S, sc, R, rc, rfl, oq, hb⟩
    have P5 := Lib.hid (oq.below (Bl.alloc (Below.refl _ _) (Obj.cells #[.int .i64 0, .int .i64 0, .slice S 0 sc, .slice R 0 rc, .int .i64 0, .int .i64 0] 60)))
    have X5 := Lib.hid (Own.arr w5 #[.int .i64 0, .int .i64 0, .slice S 0 sc, .slice R 0 rc, .int .i64 0, .int .i64 0] 60 6 rfl (by decide))
    have B5 := Lib.hid (Bl.alloc (Bl.then B4.out hb) (Obj.cells #[.int .i64 0, .int .i64 0, .slice S 0 sc, .slice R 0 rc, .int .i64 0, .int .i64 0] 60))
    clear hb oq C ROW
    have y0 := X5.out.at' (j := 0) rfl
    have y1 := X5.out.at' (j := 1) rfl
    have y2 := X5.out.at' (j := 2) rfl
    have y3 := X5.out.at' (j := 3) rfl
    have y4 := X5.out.at' (j := 4) rfl
    have y5 := X5.out.at' (j := 5) rfl
    go_wp2_with fail
    with_reducible refine (same_plan _ _ zeroPl _ P5.out (rd_zero _)).mono ?_
    rintro e w6 ⟨rfl, hb⟩
    have B6 := Lib.hid (Bl.then B5.out hb)
    clear hb y0 y1 y2 y3 y4 y5
    go_wp2_with (go_at_call 22; refine (num_any _ _).mono ?_; rintro e w' ⟨rfl, rfl⟩)
    go_ret
    exact ⟨rfl, B6.out⟩
  · have C := Lib.hid (show ∀ (W : World) (F : Value), RdR W F [foA] → Calls Try.prog 28 #[.agg #[.bool true, .int .i64 (5), F, .int .i64 (3)], .int .i64 5, .agg #[.int .i64 (2 + d), .int .i64 0, .string ⟨#[98]⟩, .string ⟨#[]⟩]] W _ from change_no ⟨true, 5, [foA], 3⟩ 5 ⟨2 + d, 0, ⟨#[98]⟩, nilB⟩ (fun h => fo11 d hd1 h.1.2.2.2.2.2.2) (by show 1 ≤ 10; decide) hzA (by show (ByteArray.mk #[98]).size ≤ _; decide) (by show (ByteArray.mk #[]).size ≤ _; decide))
    have hj := HJ.out
    have hd := HD.out
    have hwd := HWD.out
    have hsm : wrap64 (2 + d) = 2 + d := IntWalk.wrap64_in _ ⟨by omega, by omega⟩
    clear HJ HD HWD hzA
    have B4 := Lib.hid (Bl.alloc (Bl.alloc (Bl.alloc HBW.out (Obj.cells #[.int .i64 1, .int .i64 0, .string ⟨#[97]⟩, .string ⟨#[]⟩] 25)) (Obj.cells #[.bool true, .int .i64 5, .slice (some ⟨w0.heap.size, 0, none⟩) 1 1, .int .i64 3] 57)) (Obj.cells #[.int .i64 (2 + d), .int .i64 0, .string ⟨#[98]⟩, .string ⟨#[]⟩] 25))
    have ROW := Lib.hid (show RdR (((w0.alloc (Obj.cells #[.int .i64 1, .int .i64 0, .string ⟨#[97]⟩, .string ⟨#[]⟩] 25)).alloc (Obj.cells #[.bool true, .int .i64 5, .slice (some ⟨w0.heap.size, 0, none⟩) 1 1, .int .i64 3] 57)).alloc (Obj.cells #[.int .i64 (2 + d), .int .i64 0, .string ⟨#[98]⟩, .string ⟨#[]⟩] 25)) (.slice (some ⟨w0.heap.size, 0, none⟩) 1 1) [foA] from RdR.own (((Own.rec1 w0 foA).alloc (Obj.cells #[.bool true, .int .i64 5, .slice (some ⟨w0.heap.size, 0, none⟩) 1 1, .int .i64 3] 57)).alloc (Obj.cells #[.int .i64 (2 + d), .int .i64 0, .string ⟨#[98]⟩, .string ⟨#[]⟩] 25)))
    have vb := (Own.arr (w0.alloc (Obj.cells #[.int .i64 1, .int .i64 0, .string ⟨#[97]⟩, .string ⟨#[]⟩] 25)) #[.bool true, .int .i64 5, .slice (some ⟨w0.heap.size, 0, none⟩) 1 1, .int .i64 3] 57 4 rfl (by decide)).alloc (Obj.cells #[.int .i64 (2 + d), .int .i64 0, .string ⟨#[98]⟩, .string ⟨#[]⟩] 25)
    rw [show (w0.alloc (Obj.cells #[.int .i64 1, .int .i64 0, .string ⟨#[97]⟩, .string ⟨#[]⟩] 25)).heap.size = w0.heap.size + 1 by simp] at vb
    have V4 := Lib.hid vb
    have rb := Own.arr ((w0.alloc (Obj.cells #[.int .i64 1, .int .i64 0, .string ⟨#[97]⟩, .string ⟨#[]⟩] 25)).alloc (Obj.cells #[.bool true, .int .i64 5, .slice (some ⟨w0.heap.size, 0, none⟩) 1 1, .int .i64 3] 57)) #[.int .i64 (2 + d), .int .i64 0, .string ⟨#[98]⟩, .string ⟨#[]⟩] 25 4 rfl (by decide)
    rw [show ((w0.alloc (Obj.cells #[.int .i64 1, .int .i64 0, .string ⟨#[97]⟩, .string ⟨#[]⟩] 25)).alloc (Obj.cells #[.bool true, .int .i64 5, .slice (some ⟨w0.heap.size, 0, none⟩) 1 1, .int .i64 3] 57)).heap.size = w0.heap.size + 1 + 1 by simp] at rb
    have R4 := Lib.hid rb
    clear vb rb
    have a0 := V4.out.at' (j := 0) rfl
    have a1 := V4.out.at' (j := 1) rfl
    have a2 := V4.out.at' (j := 2) rfl
    have a3 := V4.out.at' (j := 3) rfl
    have c0 := R4.out.at' (j := 0) rfl
    have c1 := R4.out.at' (j := 1) rfl
    have c2 := R4.out.at' (j := 2) rfl
    have c3 := R4.out.at' (j := 3) rfl
    go_wp2_with fail
    with_reducible refine (C.out _ _ ROW.out).mono ?_
    rintro e w5 ⟨S, sc, R, rc, rfl, oq, hb⟩
    have P5 := Lib.hid (oq.below (Bl.alloc (Below.refl _ _) (Obj.cells #[.int .i64 0, .int .i64 0, .slice S 0 sc, .slice R 0 rc, .int .i64 0, .int .i64 0] 60)))
    have X5 := Lib.hid (Own.arr w5 #[.int .i64 0, .int .i64 0, .slice S 0 sc, .slice R 0 rc, .int .i64 0, .int .i64 0] 60 6 rfl (by decide))
    have B5 := Lib.hid (Bl.alloc (Bl.then B4.out hb) (Obj.cells #[.int .i64 0, .int .i64 0, .slice S 0 sc, .slice R 0 rc, .int .i64 0, .int .i64 0] 60))
    clear hb oq C ROW
    have y0 := X5.out.at' (j := 0) rfl
    have y1 := X5.out.at' (j := 1) rfl
    have y2 := X5.out.at' (j := 2) rfl
    have y3 := X5.out.at' (j := 3) rfl
    have y4 := X5.out.at' (j := 4) rfl
    have y5 := X5.out.at' (j := 5) rfl
    go_wp2_with fail
    with_reducible refine (same_plan _ _ zeroPl _ P5.out (rd_zero _)).mono ?_
    rintro e w6 ⟨rfl, hb⟩
    have B6 := Lib.hid (Bl.then B5.out hb)
    clear hb y0 y1 y2 y3 y4 y5
    go_wp2_with (go_at_call 22; refine (num_any _ _).mono ?_; rintro e w' ⟨rfl, rfl⟩)
    go_ret
    exact ⟨rfl, B6.out⟩
end Go.Proofs.Ytdgnpoapkjoknaa
