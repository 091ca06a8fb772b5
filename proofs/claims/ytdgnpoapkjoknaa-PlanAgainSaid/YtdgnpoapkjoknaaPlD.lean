/- Change: the walk. -/
import Derived.Test.YtdgnpoapkjoknaaPlC
import Derived.StillTailTactics
namespace Go.Proofs.Ytdgnpoapkjoknaa
set_option linter.unusedVariables false
set_option linter.unusedSimpArgs false
open Go.RowKit

theorem chL_no {v : ViewV} {s : Int} {r : RecV} (h : ¬ chOk v s r) : chL v s r = (zeroPl, 2200) := if_neg h
theorem chL_none {v : ViewV} {s : Int} {r : RecV} (h : chOk v s r) (h1 : findB (buildL v.recs) r.key = false) (h2 : r.k = 2) : chL v s r = (zeroPl, 2202) := by
  rw [chL, if_pos h, chB, if_pos ⟨h1, h2⟩]
theorem chL_full {v : ViewV} {s : Int} {r : RecV} (h : chOk v s r) (h1 : ¬ (findB (buildL v.recs) r.key = false ∧ r.k = 2)) (h2 : 7 < (putL (buildL v.recs) r).length) : chL v s r = (zeroPl, 2201) := by
  rw [chL, if_pos h, chB, if_neg h1, if_pos h2]
theorem chL_slot {v : ViewV} {s : Int} {r : RecV} (h : chOk v s r) (h1 : ¬ (findB (buildL v.recs) r.key = false ∧ r.k = 2)) (h2 : ¬ 7 < (putL (buildL v.recs) r).length) (h3 : v.free < 8) : chL v s r = (⟨-1, s, [v.free], [r], v.free + 1, v.ep⟩, 0) := by
  rw [chL, if_pos h, chB, if_neg h1, if_neg h2, if_pos h3]
theorem chL_end {v : ViewV} {s : Int} {r : RecV} (h : chOk v s r) (h1 : ¬ (findB (buildL v.recs) r.key = false ∧ r.k = 2)) (h2 : ¬ 7 < (putL (buildL v.recs) r).length) (h3 : ¬ v.free < 8) (h4 : v.ep = 1048576) : chL v s r = (zeroPl, 2201) := by
  rw [chL, if_pos h, chB, if_neg h1, if_neg h2, if_neg h3, if_pos h4]
theorem chL_moved {v : ViewV} {s : Int} {r : RecV} (h : chOk v s r) (h1 : ¬ (findB (buildL v.recs) r.key = false ∧ r.k = 2)) (h2 : ¬ 7 < (putL (buildL v.recs) r).length) (h3 : ¬ v.free < 8) (h4 : v.ep ≠ 1048576) : chL v s r = (movedP (nextS s) (v.ep + 1) (putL (buildL v.recs) r), 0) := by
  rw [chL, if_pos h, chB, if_neg h1, if_neg h2, if_neg h3, if_neg h4]
/-- A row of one int, of one record. -/
theorem Own.int1 (W : World) (x : Int) : Own (W.alloc (Obj.cells #[.int .i64 x] 3)) W.heap.size 3 1 (.slice (some ⟨W.heap.size, 0, none⟩) 1 1) 1 (nums [x]) := Own.arr W #[.int .i64 x] 3 1 rfl (by decide)
theorem Own.rec1 (W : World) (r : RecV) : Own (W.alloc (Obj.cells #[.int .i64 r.k, .int .i64 r.e, .string r.key, .string r.val] 25)) W.heap.size 25 4 (.slice (some ⟨W.heap.size, 0, none⟩) 1 1) 1 (flat [r]) :=
  ⟨rfl, .inr ⟨W.heap.size, 1, #[.int .i64 r.k, .int .i64 r.e, .string r.key, .string r.val], (0, 0), rfl, Nat.le_refl _, heap_alloc_new W _, .inr rfl, Nat.le_refl _, by decide, rfl, rfl⟩⟩

set_option maxRecDepth 100000 in
set_option maxHeartbeats 4000000 in
theorem change_any (w : World) (v : ViewV) (F : Value) (s : Int) (r : RecV) (h : RdR w F v.recs) (hb : (v.recs.length + 1) * 48 ≤ 140737488355328) (hz : ∀ r ∈ v.recs, r.key.size ≤ 9223372036854775807 ∧ r.val.size ≤ 9223372036854775807)
    (z1 : r.key.size ≤ 9223372036854775807) (z2 : r.val.size ≤ 9223372036854775807) :
    Calls Try.prog 28 #[.agg #[.bool v.good, .int .i64 v.ep, F, .int .i64 v.free], .int .i64 s, r.v] w fun e w' => ∃ q, e = .returned (.tuple #[q, .int .i64 (chL v s r).2]) ∧ OwnL w' w.heap.size q (chL v s r).1 ∧ Below w.heap.size w w' := by
  have LA := Lib.hid (fun (W : World) (g : Nat) (hB : Bx W g (.bool v.good) (.int .i64 v.ep) F (.int .i64 v.free)) (h : RdR W F v.recs) => live_any W g v F r hB h hb hz z1 z2)
  have FA := Lib.hid (fun (W : World) (u : Value) (h : RdP W u (buildL v.recs)) => find_any W u (buildL v.recs) r.key h (by have := buildL_len v.recs; omega))
  have MA := Lib.hid (fun (W : World) (u : Value) (e : Int) (h : RdP W u (putL (buildL v.recs) r)) (hl : (putL (buildL v.recs) r).length ≤ 1000) => moved_any W (nextS s) e u (putL (buildL v.recs) r) h hl)
  have CNO := Lib.hid (chL_no (v := v) (s := s) (r := r))
  have CNONE := Lib.hid (chL_none (v := v) (s := s) (r := r))
  have CFULL := Lib.hid (chL_full (v := v) (s := s) (r := r))
  have CSLOT := Lib.hid (chL_slot (v := v) (s := s) (r := r))
  have CEND := Lib.hid (chL_end (v := v) (s := s) (r := r))
  have CMOV := Lib.hid (chL_moved (v := v) (s := s) (r := r))
  have OKL := Lib.hid (show chOk v s r ↔ lvOk v r ∧ 4 ≤ s ∧ s < 8 from Iff.rfl)
  have LVH := Lib.hid (fun (h : lvOk v r) => (show lvN v r = buildL v.recs ∧ lvT v r = putL (buildL v.recs) r ∧ lvE v r = 0 from ⟨if_pos h, if_pos h, if_pos h⟩))
  have LVN := Lib.hid (fun (h : ¬ lvOk v r) => lv_no h)
  have LVF := Lib.hid (fun (h : lvOk v r) => (show 1 ≤ v.ep ∧ v.ep ≤ 1048576 ∧ 1 ≤ v.free ∧ v.free ≤ 8 from ⟨((epochB_iff _).1 h.2.1).1, ((epochB_iff _).1 h.2.1).2, h.2.2.1, h.2.2.2.1⟩))
  generalize chL v s r = ch at *
  generalize lvN v r = ln at *
  generalize lvT v r = lt at *
  generalize lvE v r = le at *
  generalize lvOk v r = LV at *
  generalize chOk v s r = CH at *
  obtain ⟨good, ep, rs, free⟩ := v
  simp only at h LA FA MA CNONE CFULL CSLOT CEND CMOV LVH LVF ⊢
  generalize buildL rs = L at *
  obtain ⟨T, hT⟩ : ∃ T, putL L r = T := ⟨_, rfl⟩
  rw [hT] at MA CFULL CSLOT CEND CMOV LVH
  clear hT
  have HR := Lib.hid h
  obtain ⟨fb, hfb⟩ : ∃ fb, findB L r.key = fb := ⟨_, rfl⟩
  obtain ⟨fv, hfv⟩ : ∃ fv, findV L r.key = fv := ⟨_, rfl⟩
  simp only [hfb, hfv] at FA CNONE CFULL CSLOT CEND CMOV
  obtain ⟨k, e0, key, val⟩ := r
  simp only at FA CNONE CFULL CSLOT CEND CMOV
  clear hfb hfv
  show Calls Try.prog 28 #[_, _, .agg #[.int .i64 k, .int .i64 e0, .string key, .string val]] w _
  change Hid (∀ (W : World) (g : Nat), Bx W g (.bool good) (.int .i64 ep) F (.int .i64 free) → RdR W F rs → Calls Try.prog 46 #[_, .agg #[.int .i64 k, .int .i64 e0, .string key, .string val]] W _) at LA
  have v1 := Bx.new w (.bool good) (.int .i64 ep) F (.int .i64 free) 57
  have v2 := v1.below (Bl.alloc (Below.refl _ _) (Obj.cells #[.int .i64 k, .int .i64 e0, .string key, .string val] 25))
  have v3 := v2.below (Bl.alloc (Below.refl _ _) (Obj.cells #[.int .i64 0, .int .i64 0, .slice none 0 0, .slice none 0 0, .int .i64 0, .int .i64 0] 60))
  have r2 := Bx.new1 w (Obj.cells #[.bool good, .int .i64 ep, F, .int .i64 free] 57) (.int .i64 k) (.int .i64 e0) (.string key) (.string val) 25
  have r3 := r2.below (Bl.alloc (Below.refl _ _) (Obj.cells #[.int .i64 0, .int .i64 0, .slice none 0 0, .slice none 0 0, .int .i64 0, .int .i64 0] 60))
  have p3 := Own.arr ((w.alloc (Obj.cells #[.bool good, .int .i64 ep, F, .int .i64 free] 57)).alloc (Obj.cells #[.int .i64 k, .int .i64 e0, .string key, .string val] 25)) #[.int .i64 0, .int .i64 0, .slice none 0 0, .slice none 0 0, .int .i64 0, .int .i64 0] 60 6 rfl (by decide)
  have hs2 : ((w.alloc (Obj.cells #[.bool good, .int .i64 ep, F, .int .i64 free] 57)).alloc (Obj.cells #[.int .i64 k, .int .i64 e0, .string key, .string val] 25)).heap.size = w.heap.size + 2 := by simp
  rw [hs2] at p3
  have b3 := Bl.alloc (Bl.alloc (Bl.alloc (Below.refl w.heap.size w) (Obj.cells #[.bool good, .int .i64 ep, F, .int .i64 free] 57)) (Obj.cells #[.int .i64 k, .int .i64 e0, .string key, .string val] 25)) (Obj.cells #[.int .i64 0, .int .i64 0, .slice none 0 0, .slice none 0 0, .int .i64 0, .int .i64 0] 60)
  go_enter Try.func28, Try.ntmps28
  have V3 := Lib.hid v3
  have R3 := Lib.hid r3
  have P3 := Lib.hid p3
  have B3 := Lib.hid b3
  obtain ⟨⟨x0, x1, x2, x3⟩, -⟩ := R3.out
  have F3 := Lib.hid (HR.out.below b3)
  clear v1 v2 v3 r2 r3 p3 hs2 b3 h hb hz z1 z2 HR
  go_wp2_with fail
  generalize ((w.alloc (Obj.cells #[.bool good, .int .i64 ep, F, .int .i64 free] 57)).alloc (Obj.cells #[.int .i64 k, .int .i64 e0, .string key, .string val] 25)).alloc (Obj.cells #[.int .i64 0, .int .i64 0, .slice none 0 0, .slice none 0 0, .int .i64 0, .int .i64 0] 60) = wl at *
  have HWB := Lib.hid (show w.heap.size ≤ w.heap.size + 2 by omega)
  with_reducible refine (LA.out _ _ V3.out F3.out).mono ?_
  rintro e w1 ⟨a, b, rfl, oa, ob, hb⟩
  obtain ⟨A, ca, rfl⟩ := Own.slice oa
  obtain ⟨C, cc, rfl⟩ := Own.slice ob
  have OA := Lib.hid oa
  have OB := Lib.hid ob
  have B1 := Lib.hid (Bl.then B3.out hb)
  have V1 := Lib.hid (V3.out.below hb)
  have R1 := Lib.hid (R3.out.below hb)
  have P1 := Lib.hid (P3.out.below hb)
  clear oa ob hb x0 x1 x2 x3 V3 R3 P3 B3 F3
  by_cases hlv : LV
  · obtain ⟨q1, q2, q3⟩ := LVH.out hlv
    obtain ⟨u1, u2, u3, u4⟩ := LVF.out hlv
    subst q1 q2 q3
    by_cases hs : 4 ≤ s ∧ s < 8
    · have hch := OKL.out.2 ⟨hlv, hs⟩
      obtain ⟨s1, s2⟩ := hs
      have CN := Lib.hid (CNONE.out hch)
      have CF := Lib.hid (CFULL.out hch)
      have CS := Lib.hid (CSLOT.out hch)
      have CE := Lib.hid (CEND.out hch)
      have CM := Lib.hid (CMOV.out hch)
      clear CNO CNONE CFULL CSLOT CEND CMOV OKL LVH LVN LVF LA
      have hd1 : decide (s < 4) = false := decide_eq_false (by omega)
      have hd2 : decide ((8 : Int) ≤ s) = false := decide_eq_false (by omega)
      obtain ⟨⟨x0, x1, x2, x3⟩, -⟩ := R1.out
      clear hlv hch
      have FC := Lib.hid (FA.out _ _ (OwnP.rd OA.out))
      have NX := Lib.hid (fun (W : World) => (next_any s s1 s2 W).mono fun e w' h => (show e = .returned (.int .i64 (nextS s)) ∧ w' = W from ⟨h.1, h.2.symm⟩))
      clear FA s1 s2
      go_wp2_with fail
      with_reducible refine FC.out.mono ?_
      rintro e w2 ⟨rfl, hb⟩
      have B2 := Lib.hid (Bl.then B1.out hb)
      have V2 := Lib.hid (V1.out.below hb)
      have R2 := Lib.hid (R1.out.below hb)
      have P2 := Lib.hid (P1.out.below hb)
      have OB2 := Lib.hid (OB.out.below hb)
      clear hb x0 x1 x2 x3 B1 V1 R1 P1 OB OA FC
      obtain ⟨⟨x0, x1, x2, x3⟩, -⟩ := R2.out
      obtain ⟨⟨y0, y1, y2, y3⟩, -⟩ := V2.out
      have CC := cells6 P2.out
      obtain ⟨f0, f1, f2, f3, f4, f5⟩ := And.intro (CC.1 0 (by decide)) (And.intro (CC.1 1 (by decide)) (And.intro (CC.1 2 (by decide)) (And.intro (CC.1 3 (by decide)) (And.intro (CC.1 4 (by decide)) (CC.1 5 (by decide))))))
      obtain ⟨o0, p0⟩ := CC.2 0 (by decide)
      obtain ⟨o1, p1⟩ := CC.2 1 (by decide)
      obtain ⟨o2, p2⟩ := CC.2 2 (by decide)
      obtain ⟨o3, p3⟩ := CC.2 3 (by decide)
      obtain ⟨o4, p4⟩ := CC.2 4 (by decide)
      obtain ⟨o5, p5⟩ := CC.2 5 (by decide)
      clear CC
      by_cases hnone : fb = false ∧ k = 2
      · obtain rfl := CN.out hnone.1 hnone.2
        obtain ⟨rfl, rfl⟩ := hnone
        go_wp2_with fail
        refine bodyPost_ret (results_plan2 (a := .int .i64 0) (b := .int .i64 0) (c := .slice none 0 0) (d := .slice none 0 0) (e := .int .i64 0) (f := .int .i64 0) rfl rfl (by go_simp) (by go_simp) (by go_simp) (by go_simp) (by go_simp) (by go_simp)) rfl ?_
        exact ⟨_, rfl, OwnL.zero _ _, Bl.set6 B2.out HWB.out _ _ _ _ _ _⟩
      · have CF2 := Lib.hid (CF.out hnone)
        have CS2 := Lib.hid (CS.out hnone)
        have CE2 := Lib.hid (CE.out hnone)
        have CM2 := Lib.hid (CM.out hnone)
        clear CN CF CS CE CM
        have hg : (!fb && (k == 2)) = false := by
          cases fb with
          | true => rfl
          | false =>
            rw [Bool.not_false, Bool.true_and, beq_eq_false_iff_ne]
            exact fun e => hnone ⟨rfl, e⟩
        clear hnone
        obtain ⟨tl, htl⟩ : ∃ n, lt.length = n := ⟨_, rfl⟩
        rw [htl]
        have HTL := Lib.hid htl
        have OT := Lib.hid (show Own w2 wl.heap.size 48 2 (.slice C tl cc) tl (flatP lt) by have h := OB2.out; unfold OwnP at h; rwa [htl] at h)
        rw [htl] at CF2 CS2 CE2 CM2
        clear htl
        have hsplit : fb = true ∨ (fb = false ∧ (k == 2) = false) := by
          cases fb with
          | true => exact .inl rfl
          | false => exact .inr ⟨rfl, by simpa using hg⟩
        clear hg
        by_cases h7 : 7 < tl
        · have hd7 : decide ((7 : Int) < (tl : Int)) = true := decide_eq_true (by omega)
          have hd8 : (7 < tl) = True := eq_true h7
          obtain rfl := CF2.out h7
          clear h7 u1 u2 u3 u4
          rcases hsplit with rfl | ⟨rfl, hk2⟩
          all_goals
            go_wp2_with fail
            refine bodyPost_ret (results_plan2 (a := .int .i64 0) (b := .int .i64 0) (c := .slice none 0 0) (d := .slice none 0 0) (e := .int .i64 0) (f := .int .i64 0) rfl rfl (by go_simp) (by go_simp) (by go_simp) (by go_simp) (by go_simp) (by go_simp)) rfl ?_
            exact ⟨_, rfl, OwnL.zero _ _, Bl.set6 B2.out HWB.out _ _ _ _ _ _⟩
        · have hd7 : decide ((7 : Int) < (tl : Int)) = false := decide_eq_false (by omega)
          have hd8 : (7 < tl) = False := eq_false h7
          by_cases h8 : free < 8
          · have hd9 : decide (free < 8) = true := decide_eq_true h8
            have hw : IntKind.i64.wrap (free + 1) = free + 1 := wrap_i64_small (by omega) (by omega)
            have hw2 : wrap64 (free + 1) = free + 1 := IntWalk.wrap64_in _ ⟨by omega, by omega⟩
            obtain rfl := CS2.out h7 h8
            have V5 := Lib.hid ((V2.out.below (Bl.alloc (Below.refl _ _) (Obj.cells #[.int .i64 free] 3))).below (Bl.alloc (Below.refl _ _) (Obj.cells #[.int .i64 k, .int .i64 e0, .string key, .string val] 25)))
            have R4 := Lib.hid (R2.out.below (Bl.alloc (Below.refl _ _) (Obj.cells #[.int .i64 free] 3)))
            have P5 := Lib.hid ((P2.out.alloc (Obj.cells #[.int .i64 free] 3)).alloc (Obj.cells #[.int .i64 k, .int .i64 e0, .string key, .string val] 25))
            have S5 := Lib.hid ((Own.int1 w2 free).alloc (Obj.cells #[.int .i64 k, .int .i64 e0, .string key, .string val] 25))
            have r5 := Own.rec1 (w2.alloc (Obj.cells #[.int .i64 free] 3)) ⟨k, e0, key, val⟩
            have hsz : (w2.alloc (Obj.cells #[.int .i64 free] 3)).heap.size = w2.heap.size + 1 := by simp
            rw [hsz] at r5
            have R5 := Lib.hid r5
            have B5 := Lib.hid (Bl.alloc (Bl.alloc B2.out (Obj.cells #[.int .i64 free] 3)) (Obj.cells #[.int .i64 k, .int .i64 e0, .string key, .string val] 25))
            obtain ⟨⟨i0, i1, i2, i3⟩, -⟩ := R4.out
            obtain ⟨⟨j0, j1, j2, j3⟩, -⟩ := V5.out
            clear h7 h8 u1 u2 u3 u4 f0 f1 f2 f3 f4 f5 p0 p1 p2 p3 p4 p5 x0 x1 x2 x3 r5 hsz
            obtain ⟨⟨x0, -, x2, -⟩, -⟩ := R2.out
            have CC := cells6 P5.out
            obtain ⟨f0, f1, f2, f3, f4, f5⟩ := And.intro (CC.1 0 (by decide)) (And.intro (CC.1 1 (by decide)) (And.intro (CC.1 2 (by decide)) (And.intro (CC.1 3 (by decide)) (And.intro (CC.1 4 (by decide)) (CC.1 5 (by decide))))))
            obtain ⟨o0, p0⟩ := CC.2 0 (by decide)
            obtain ⟨o1, p1⟩ := CC.2 1 (by decide)
            obtain ⟨o2, p2⟩ := CC.2 2 (by decide)
            obtain ⟨o3, p3⟩ := CC.2 3 (by decide)
            obtain ⟨o4, p4⟩ := CC.2 4 (by decide)
            obtain ⟨o5, p5⟩ := CC.2 5 (by decide)
            clear CC
            rcases hsplit with rfl | ⟨rfl, hk2⟩
            all_goals
              go_wp2_with fail
              refine bodyPost_ret (results_plan2 (a := .int .i64 (-1)) (b := .int .i64 s) (c := .slice (some ⟨w2.heap.size, 0, none⟩) 1 1) (d := .slice (some ⟨w2.heap.size + 1, 0, none⟩) 1 1) (e := .int .i64 (free + 1)) (f := .int .i64 ep) rfl rfl (by go_simp) (by go_simp) (by go_simp) (by go_simp) (by go_simp) (by go_simp)) rfl ?_
              exact ⟨_, rfl, ⟨_, _, rfl, (S5.out.lower B2.out.size).off6 P5.out (by decide) _ _ _ _ _ _, (R5.out.lower (Nat.le_trans B2.out.size (Nat.le_succ _))).off6 P5.out (by decide) _ _ _ _ _ _⟩, Bl.set6 B5.out HWB.out _ _ _ _ _ _⟩
          · have hd9 : decide (free < 8) = false := decide_eq_false h8
            by_cases he : ep = 1048576
            · have hd10 : decide ((1048576 : Int) ≤ ep) = true := decide_eq_true (by omega)
              obtain rfl := CE2.out h7 (by first | exact h8 | exact Int.not_lt.1 h8) he
              clear h7 h8 u1 u2 u3 u4 he
              rcases hsplit with rfl | ⟨rfl, hk2⟩
              all_goals
                go_wp2_with fail
                refine bodyPost_ret (results_plan2 (a := .int .i64 0) (b := .int .i64 0) (c := .slice none 0 0) (d := .slice none 0 0) (e := .int .i64 0) (f := .int .i64 0) rfl rfl (by go_simp) (by go_simp) (by go_simp) (by go_simp) (by go_simp) (by go_simp)) rfl ?_
                exact ⟨_, rfl, OwnL.zero _ _, Bl.set6 B2.out HWB.out _ _ _ _ _ _⟩
            · have hd10 : decide ((1048576 : Int) ≤ ep) = false := decide_eq_false (by omega)
              have HWR := Lib.hid (show wrap64 (ep + 1) = ep + 1 from IntWalk.wrap64_in _ ⟨by omega, by omega⟩)
              have MA2 := Lib.hid (fun (W : World) (h : RdP W (.slice C tl cc) lt) => MA.out W (.slice C tl cc) (ep + 1) h (by rw [HTL.out]; omega))
              obtain ⟨M, hM⟩ : ∃ M, movedP (nextS s) (ep + 1) lt = M := ⟨_, rfl⟩
              rw [hM] at CM2 MA2
              clear hM
              obtain ⟨m1, m2, m3, m4, m5, m6⟩ := M
              obtain rfl := CM2.out h7 (by first | exact h8 | exact Int.not_lt.1 h8) he
              clear h7 h8 u1 u2 u3 u4 he MA CF2 CS2 CE2 CM2
              rcases hsplit with rfl | ⟨rfl, hk2⟩
              all_goals
                go_wp2_with fail
                go_still_tail 6, (by kernel_rfl)
                still_call (NX.out _)
                repeat still_step
                refine wpStill_nil ?_
                change wpList _ _ _ _ _ w2.drew
                have OT9 := Lib.hid (show Own w2.drew wl.heap.size 48 2 (.slice C tl cc) tl (flatP lt) from OT.out.drewN 1)
                have P9 := Lib.hid (show Own w2.drew w.heap.size.succ.succ 60 1 _ 6 _ from P2.out.drewN 1)
                have B9 := Lib.hid (show Below w.heap.size w w2.drew from Bl.drewN B2.out 1)
                generalize w2.drew = w9 at *
                clear f0 f1 f2 f3 f4 f5 p0 p1 p2 p3 p4 p5 x0 x1 x2 x3 y0 y1 y2 y3 P2 B2 OT OB2 V2 R2
                go_wp2_with fail
                rw [HWR.out]
                with_reducible refine (MA2.out _ (OwnP.rd (show OwnP w9 wl.heap.size (.slice C tl cc) lt by unfold OwnP; rw [HTL.out]; exact OT9.out))).mono ?_
                rintro e w10 ⟨q10, rfl, ⟨S, R, rfl, os, orr⟩, hb⟩
                have B10 := Lib.hid (Bl.then B9.out hb)
                have P10 := Lib.hid (P9.out.below hb)
                obtain ⟨SA, sc, rfl⟩ := os.slice
                obtain ⟨RA, rc, rfl⟩ := orr.slice
                have OS := Lib.hid (os.lower B9.out.size)
                have OR := Lib.hid (orr.lower B9.out.size)
                clear os orr hb P9 B9
                have CC := cells6 P10.out
                obtain ⟨f0, f1, f2, f3, f4, f5⟩ := And.intro (CC.1 0 (by decide)) (And.intro (CC.1 1 (by decide)) (And.intro (CC.1 2 (by decide)) (And.intro (CC.1 3 (by decide)) (And.intro (CC.1 4 (by decide)) (CC.1 5 (by decide))))))
                obtain ⟨o0, p0⟩ := CC.2 0 (by decide)
                obtain ⟨o1, p1⟩ := CC.2 1 (by decide)
                obtain ⟨o2, p2⟩ := CC.2 2 (by decide)
                obtain ⟨o3, p3⟩ := CC.2 3 (by decide)
                obtain ⟨o4, p4⟩ := CC.2 4 (by decide)
                obtain ⟨o5, p5⟩ := CC.2 5 (by decide)
                clear CC
                go_wp2_with fail
                refine bodyPost_ret (results_plan2 (a := .int .i64 m1) (b := .int .i64 m2) (c := .slice SA m3.length sc) (d := .slice RA m4.length rc) (e := .int .i64 m5) (f := .int .i64 m6) rfl rfl (by go_simp) (by go_simp) (by go_simp) (by go_simp) (by go_simp) (by go_simp)) rfl ?_
                exact ⟨_, rfl, ⟨_, _, rfl, OS.out.off6 P10.out (by decide) _ _ _ _ _ _, OR.out.off6 P10.out (by decide) _ _ _ _ _ _⟩, Bl.set6 B10.out HWB.out _ _ _ _ _ _⟩
    · obtain rfl := CNO.out (fun h => hs (OKL.out.1 h).2)
      clear hlv CNO CNONE CFULL CSLOT CEND CMOV OKL LVH LVN LVF LA FA MA
      have CC := cells6 P1.out
      obtain ⟨f0, f1, f2, f3, f4, f5⟩ := And.intro (CC.1 0 (by decide)) (And.intro (CC.1 1 (by decide)) (And.intro (CC.1 2 (by decide)) (And.intro (CC.1 3 (by decide)) (And.intro (CC.1 4 (by decide)) (CC.1 5 (by decide))))))
      obtain ⟨o0, p0⟩ := CC.2 0 (by decide)
      obtain ⟨o1, p1⟩ := CC.2 1 (by decide)
      obtain ⟨o2, p2⟩ := CC.2 2 (by decide)
      obtain ⟨o3, p3⟩ := CC.2 3 (by decide)
      obtain ⟨o4, p4⟩ := CC.2 4 (by decide)
      obtain ⟨o5, p5⟩ := CC.2 5 (by decide)
      clear CC
      by_cases hs4 : s < 4
      · have hd1 : decide (s < 4) = true := decide_eq_true hs4
        clear hs hs4 u1 u2 u3 u4
        go_wp2_with fail
        refine bodyPost_ret (results_plan2 (a := .int .i64 0) (b := .int .i64 0) (c := .slice none 0 0) (d := .slice none 0 0) (e := .int .i64 0) (f := .int .i64 0) rfl rfl (by go_simp) (by go_simp) (by go_simp) (by go_simp) (by go_simp) (by go_simp)) rfl ?_
        exact ⟨_, rfl, OwnL.zero _ _, Bl.set6 B1.out HWB.out _ _ _ _ _ _⟩
      · have hd1 : decide (s < 4) = false := decide_eq_false hs4
        have hd2 : decide ((8 : Int) ≤ s) = true := decide_eq_true (by omega)
        clear hs hs4 u1 u2 u3 u4
        go_wp2_with fail
        refine bodyPost_ret (results_plan2 (a := .int .i64 0) (b := .int .i64 0) (c := .slice none 0 0) (d := .slice none 0 0) (e := .int .i64 0) (f := .int .i64 0) rfl rfl (by go_simp) (by go_simp) (by go_simp) (by go_simp) (by go_simp) (by go_simp)) rfl ?_
        exact ⟨_, rfl, OwnL.zero _ _, Bl.set6 B1.out HWB.out _ _ _ _ _ _⟩
  · obtain rfl := CNO.out (fun h => hlv (OKL.out.1 h).1)
    obtain ⟨q1, q2, q3⟩ := LVN.out hlv
    subst q1 q2 q3
    clear hlv CNO CNONE CFULL CSLOT CEND CMOV OKL LVH LVN LVF LA FA MA
    have CC := cells6 P1.out
    obtain ⟨f0, f1, f2, f3, f4, f5⟩ := And.intro (CC.1 0 (by decide)) (And.intro (CC.1 1 (by decide)) (And.intro (CC.1 2 (by decide)) (And.intro (CC.1 3 (by decide)) (And.intro (CC.1 4 (by decide)) (CC.1 5 (by decide))))))
    obtain ⟨o0, p0⟩ := CC.2 0 (by decide)
    obtain ⟨o1, p1⟩ := CC.2 1 (by decide)
    obtain ⟨o2, p2⟩ := CC.2 2 (by decide)
    obtain ⟨o3, p3⟩ := CC.2 3 (by decide)
    obtain ⟨o4, p4⟩ := CC.2 4 (by decide)
    obtain ⟨o5, p5⟩ := CC.2 5 (by decide)
    clear CC
    go_wp2_with fail
    refine bodyPost_ret (results_plan2 (a := .int .i64 0) (b := .int .i64 0) (c := .slice none 0 0) (d := .slice none 0 0) (e := .int .i64 0) (f := .int .i64 0) rfl rfl (by go_simp) (by go_simp) (by go_simp) (by go_simp) (by go_simp) (by go_simp)) rfl ?_
    exact ⟨_, rfl, OwnL.zero _ _, Bl.set6 B1.out HWB.out _ _ _ _ _ _⟩
end Go.Proofs.Ytdgnpoapkjoknaa
