/- The document's Change: the walk. -/
import Derived.Test.YtdgnpoapkjoknaaPlD
import Derived.Deep.RegionLaw
import Derived.BigRegion
import Derived.Deep.RegionHeld3
namespace Go.Proofs.Ytdgnpoapkjoknaa
set_option linter.unusedVariables false
set_option linter.unusedSimpArgs false
open Go.RowKit

/-- A region all of whose orders come to one end. -/
theorem region_one {P : Program} {c : Code} {Q : Exit → Act → World → Prop} {a : Act} {w : World} (A : Act) (W : World) (h2 : c.wp P (fun e a' w' => e = .normal ∧ a' = A ∧ w' = W) a w) (h1 : Q .normal A W) : c.wp P Q a w :=
  Code.wp_mono (fun e a w h => by obtain ⟨h, h', h''⟩ := h; subst h h' h''; exact h1) h2
theorem PIn.drew {w W : World} {B g : Nat} {cs : List Value} {S R : Value} {k j : Nat} {xs : List Int} {rs : List RecV} (h : PIn w B g cs S R k j xs rs W) : PIn w B g cs S R k j xs rs W.drew :=
  ⟨h.1, h.2.1.drewN 1, h.2.2.1.drewN 1, h.2.2.2.1.drewN 1, Bl.drewN h.2.2.2.2.1 1, h.2.2.2.2.2⟩
theorem keepA {W w' : World} {g : Nat} {u : Value} (h : w'.cell? ⟨g, 1, none⟩ = some u ∧ Below W.heap.size W w') (o : Obj) : (w'.alloc o).cell? ⟨g, 1, none⟩ = some u ∧ Below W.heap.size W (w'.alloc o) :=
  ⟨((Bl.alloc (Below.refl _ w') o).cell (World.block_lt_of_cell? _ _ h.1)).trans h.1, Bl.alloc h.2 o⟩
theorem cells6' {w : World} {B g : Nat} {cs : List Value} (h : Own w B 60 1 (.slice (some ⟨g, 0, none⟩) 6 6) 6 cs) :
    (w.frozen? ⟨g, 0, none⟩ = false ∧ w.frozen? ⟨g, 1, none⟩ = false ∧ w.frozen? ⟨g, 2, none⟩ = false ∧ w.frozen? ⟨g, 3, none⟩ = false ∧ w.frozen? ⟨g, 4, none⟩ = false ∧ w.frozen? ⟨g, 5, none⟩ = false) ∧
    ((∃ u, w.cell? ⟨g, 0, none⟩ = some u) ∧ (∃ u, w.cell? ⟨g, 1, none⟩ = some u) ∧ (∃ u, w.cell? ⟨g, 2, none⟩ = some u) ∧ (∃ u, w.cell? ⟨g, 3, none⟩ = some u) ∧ (∃ u, w.cell? ⟨g, 4, none⟩ = some u) ∧ (∃ u, w.cell? ⟨g, 5, none⟩ = some u)) := by
  have h := cells6 h
  exact ⟨⟨h.1 0 (by decide), h.1 1 (by decide), h.1 2 (by decide), h.1 3 (by decide), h.1 4 (by decide), h.1 5 (by decide)⟩, ⟨h.2 0 (by decide), h.2 1 (by decide), h.2 2 (by decide), h.2 3 (by decide), h.2 4 (by decide), h.2 5 (by decide)⟩⟩

set_option maxRecDepth 100000 in
set_option maxHeartbeats 16000000 in
theorem rchange_any (w : World) (v : ViewV) (F : Value) (s : Int) (r : RecV) (h : RdR w F v.recs) (hb : (v.recs.length + 1) * 48 ≤ 140737488355328) (hz : ∀ r ∈ v.recs, r.key.size ≤ 9223372036854775807 ∧ r.val.size ≤ 9223372036854775807)
    (z1 : r.key.size ≤ 9223372036854775807) (z2 : r.val.size ≤ 9223372036854775807) :
    Calls Try.prog 29 #[.agg #[.bool v.good, .int .i64 v.ep, F, .int .i64 v.free], .int .i64 s, r.v] w fun e w' => ∃ q, e = .returned (.tuple #[q, .int .i64 (chL v s r).2]) ∧ OwnL w' w.heap.size q (chL v s r).1 ∧ Below w.heap.size w w' := by
  have BA := Lib.hid (fun (W : World) (h : RdR W F v.recs) => rbuild_any W F v.recs h (by omega) hz)
  have FA := Lib.hid (fun (W : World) (u : Value) (h : RdP W u (buildL v.recs)) => rfind_any W u (buildL v.recs) r.key h (by have := buildL_len v.recs; omega))
  have WA := Lib.hid (fun (W : World) (u : Value) (h : RdP W u (buildL v.recs)) => rwith_any W u (buildL v.recs) r h (by have := buildL_len v.recs; omega) z1 z2)
  have MA := Lib.hid (fun (W : World) => rmay_any r W z1 z2)
  have SRT := buildL_sort v.recs
  have CNO := Lib.hid (chL_no (v := v) (s := s) (r := r))
  have CNONE := Lib.hid (chL_none (v := v) (s := s) (r := r))
  have CFULL := Lib.hid (chL_full (v := v) (s := s) (r := r))
  have CSLOT := Lib.hid (chL_slot (v := v) (s := s) (r := r))
  have CEND := Lib.hid (chL_end (v := v) (s := s) (r := r))
  have CMOV := Lib.hid (chL_moved (v := v) (s := s) (r := r))
  have OKL := Lib.hid (show chOk v s r ↔ (v.good = true ∧ epochB v.ep = true ∧ 1 ≤ v.free ∧ v.free ≤ 8 ∧ bldOk v.recs ∧ withOk (buildL v.recs) r) ∧ 4 ≤ s ∧ s < 8 from Iff.rfl)
  have BE := Lib.hid (show (bldOk v.recs → buildE v.recs = 0) ∧ (¬ bldOk v.recs → buildE v.recs = 2100) from ⟨fun h => if_pos h, fun h => if_neg h⟩)
  have WOK := Lib.hid (fun (h : liveP r) => (show withE (buildL v.recs) r = 0 ∧ withL (buildL v.recs) r = putL (buildL v.recs) r from ⟨if_pos ⟨SRT, h⟩, if_pos ⟨SRT, h⟩⟩))
  generalize chL v s r = ch at *
  generalize chOk v s r = CH at *
  obtain ⟨good, ep, rs, free⟩ := v
  simp only at h BA FA WA CNONE CFULL CSLOT CEND CMOV OKL BE WOK SRT ⊢
  generalize bldOk rs = BK at *
  generalize buildE rs = be at *
  generalize buildL rs = L at *
  obtain ⟨T, hT⟩ : ∃ T, putL L r = T := ⟨_, rfl⟩
  rw [hT] at CFULL CSLOT CEND CMOV WOK
  clear hT
  have HR := Lib.hid h
  obtain ⟨fb, hfb⟩ : ∃ fb, findB L r.key = fb := ⟨_, rfl⟩
  obtain ⟨fv, hfv⟩ : ∃ fv, findV L r.key = fv := ⟨_, rfl⟩
  simp only [hfb, hfv] at FA CNONE CFULL CSLOT CEND CMOV
  obtain ⟨mb, hmb⟩ : ∃ mb, mayB r = mb := ⟨_, rfl⟩
  have HMB := Lib.hid (show mb = true ↔ mayP r by rw [← hmb]; exact decide_eq_true_iff)
  have HWK := Lib.hid (show withOk L r ↔ mayP r ∧ r.k ≠ 0 from ⟨fun h => h.2, fun h => ⟨SRT, h⟩⟩)
  simp only [hmb] at MA
  generalize withOk L r = WK at *
  generalize withE L r = we at *
  generalize withL L r = wl9 at *
  have WOK := Lib.hid (show mb = true → r.k ≠ 0 → we = 0 ∧ wl9 = T from fun h1 h2 => WOK.out ⟨HMB.out.1 h1, h2⟩)
  generalize mayP r = MP at *
  obtain ⟨k, e0, key, val⟩ := r
  simp only at FA CNONE CFULL CSLOT CEND CMOV HWK WOK
  clear hfb hfv hmb SRT
  show Calls Try.prog 29 #[_, _, .agg #[.int .i64 k, .int .i64 e0, .string key, .string val]] w _
  change Hid (∀ (W : World), Calls Try.prog 35 #[.agg #[.int .i64 k, .int .i64 e0, .string key, .string val]] W _) at MA
  change Hid (∀ (W : World) (u : Value), RdP W u L → Calls Try.prog 18 #[u, .agg #[.int .i64 k, .int .i64 e0, .string key, .string val]] W _) at WA
  have v1 := Bx.new w (.bool good) (.int .i64 ep) F (.int .i64 free) 57
  have v2 := v1.below (Bl.alloc (Below.refl _ _) (Obj.cells #[.int .i64 k, .int .i64 e0, .string key, .string val] 25))
  have v3 := v2.below (Bl.alloc (Below.refl _ _) (Obj.cells #[.int .i64 0, .int .i64 0, .slice none 0 0, .slice none 0 0, .int .i64 0, .int .i64 0] 60))
  have r2 := Bx.new1 w (Obj.cells #[.bool good, .int .i64 ep, F, .int .i64 free] 57) (.int .i64 k) (.int .i64 e0) (.string key) (.string val) 25
  have r3 := r2.below (Bl.alloc (Below.refl _ _) (Obj.cells #[.int .i64 0, .int .i64 0, .slice none 0 0, .slice none 0 0, .int .i64 0, .int .i64 0] 60))
  have p3 := Own.arr ((w.alloc (Obj.cells #[.bool good, .int .i64 ep, F, .int .i64 free] 57)).alloc (Obj.cells #[.int .i64 k, .int .i64 e0, .string key, .string val] 25)) #[.int .i64 0, .int .i64 0, .slice none 0 0, .slice none 0 0, .int .i64 0, .int .i64 0] 60 6 rfl (by decide)
  have hs2 : ((w.alloc (Obj.cells #[.bool good, .int .i64 ep, F, .int .i64 free] 57)).alloc (Obj.cells #[.int .i64 k, .int .i64 e0, .string key, .string val] 25)).heap.size = w.heap.size + 2 := by simp
  rw [hs2] at p3
  have b3 := Bl.alloc (Bl.alloc (Bl.alloc (Below.refl w.heap.size w) (Obj.cells #[.bool good, .int .i64 ep, F, .int .i64 free] 57)) (Obj.cells #[.int .i64 k, .int .i64 e0, .string key, .string val] 25)) (Obj.cells #[.int .i64 0, .int .i64 0, .slice none 0 0, .slice none 0 0, .int .i64 0, .int .i64 0] 60)
  go_enter Try.func29, Try.ntmps29
  have V3 := Lib.hid v3
  have R3 := Lib.hid r3
  have P3 := Lib.hid p3
  have B3 := Lib.hid b3
  obtain ⟨⟨y0, y1, y2, y3⟩, -⟩ := V3.out
  have F3 := Lib.hid (HR.out.below b3)
  clear v1 v2 v3 r2 r3 p3 hs2 b3 h hb hz z1 z2 HR
  go_wp2_with fail
  generalize ((w.alloc (Obj.cells #[.bool good, .int .i64 ep, F, .int .i64 free] 57)).alloc (Obj.cells #[.int .i64 k, .int .i64 e0, .string key, .string val] 25)).alloc (Obj.cells #[.int .i64 0, .int .i64 0, .slice none 0 0, .slice none 0 0, .int .i64 0, .int .i64 0] 60) = wl at *
  have HWB := Lib.hid (show w.heap.size ≤ w.heap.size + 2 by omega)
  with_reducible refine (BA.out _ F3.out).mono ?_
  rintro e w1 ⟨a, rfl, oa, hb⟩
  obtain ⟨A, ca, rfl⟩ := Own.slice oa
  have OA := Lib.hid (OwnP.rd oa)
  have B1 := Lib.hid (Bl.then B3.out hb)
  have V1 := Lib.hid (V3.out.below hb)
  have R1 := Lib.hid (R3.out.below hb)
  have P1 := Lib.hid (P3.out.below hb)
  clear oa hb y0 y1 y2 y3 V3 R3 P3 B3 F3 BA
  obtain ⟨⟨y0, y1, y2, y3⟩, -⟩ := V1.out
  obtain ⟨⟨x0, x1, x2, x3⟩, -⟩ := R1.out
  have CC := cells6 P1.out
  obtain ⟨f0, f1, f2, f3, f4, f5⟩ := And.intro (CC.1 0 (by decide)) (And.intro (CC.1 1 (by decide)) (And.intro (CC.1 2 (by decide)) (And.intro (CC.1 3 (by decide)) (And.intro (CC.1 4 (by decide)) (CC.1 5 (by decide))))))
  obtain ⟨o0, p0⟩ := CC.2 0 (by decide)
  obtain ⟨o1, p1⟩ := CC.2 1 (by decide)
  obtain ⟨o2, p2⟩ := CC.2 2 (by decide)
  obtain ⟨o3, p3⟩ := CC.2 3 (by decide)
  obtain ⟨o4, p4⟩ := CC.2 4 (by decide)
  obtain ⟨o5, p5⟩ := CC.2 5 (by decide)
  clear CC
  cases hg : good with
  | false =>
    rw [hg] at y0
    obtain rfl := CNO.out (fun h => by have h := OKL.out.1 h; exact absurd (hg.symm.trans h.1.1) (by decide))
    clear CNO CNONE CFULL CSLOT CEND CMOV OKL FA WA HMB HWK WOK BE
    go_wp2_with fail
    refine bodyPost_ret (results_plan2 (a := .int .i64 0) (b := .int .i64 0) (c := .slice none 0 0) (d := .slice none 0 0) (e := .int .i64 0) (f := .int .i64 0) rfl rfl (by go_simp) (by go_simp) (by go_simp) (by go_simp) (by go_simp) (by go_simp)) rfl ?_
    exact ⟨_, rfl, OwnL.zero _ _, Bl.set6 B1.out HWB.out _ _ _ _ _ _⟩
  | true =>
    rw [hg] at y0
    have HG := Lib.hid hg
    clear hg
    by_cases h1 : ep < 1
    · have d1 : decide (ep < 1) = true := decide_eq_true h1
      obtain rfl := CNO.out (fun h => by have h := OKL.out.1 h; exact absurd ((epochB_iff _).1 h.1.2.1).1 (by omega))
      clear CNO CNONE CFULL CSLOT CEND CMOV OKL FA WA HMB HWK WOK BE
      go_wp2_with fail
      refine bodyPost_ret (results_plan2 (a := .int .i64 0) (b := .int .i64 0) (c := .slice none 0 0) (d := .slice none 0 0) (e := .int .i64 0) (f := .int .i64 0) rfl rfl (by go_simp) (by go_simp) (by go_simp) (by go_simp) (by go_simp) (by go_simp)) rfl ?_
      exact ⟨_, rfl, OwnL.zero _ _, Bl.set6 B1.out HWB.out _ _ _ _ _ _⟩
    · have d1 : decide (ep < 1) = false := decide_eq_false h1
      by_cases h2 : (1048576 : Int) < ep
      · have d2 : decide ((1048576 : Int) < ep) = true := decide_eq_true h2
        obtain rfl := CNO.out (fun h => by have h := OKL.out.1 h; exact absurd ((epochB_iff _).1 h.1.2.1).2 (by omega))
        clear CNO CNONE CFULL CSLOT CEND CMOV OKL FA WA HMB HWK WOK BE
        go_wp2_with fail
        refine bodyPost_ret (results_plan2 (a := .int .i64 0) (b := .int .i64 0) (c := .slice none 0 0) (d := .slice none 0 0) (e := .int .i64 0) (f := .int .i64 0) rfl rfl (by go_simp) (by go_simp) (by go_simp) (by go_simp) (by go_simp) (by go_simp)) rfl ?_
        exact ⟨_, rfl, OwnL.zero _ _, Bl.set6 B1.out HWB.out _ _ _ _ _ _⟩
      · have d2 : decide ((1048576 : Int) < ep) = false := decide_eq_false h2
        by_cases h3 : free < 1
        · have d3 : decide (free < 1) = true := decide_eq_true h3
          obtain rfl := CNO.out (fun h => by have h := OKL.out.1 h; exact absurd h.1.2.2.1 (by omega))
          clear CNO CNONE CFULL CSLOT CEND CMOV OKL FA WA HMB HWK WOK BE
          go_wp2_with fail
          refine bodyPost_ret (results_plan2 (a := .int .i64 0) (b := .int .i64 0) (c := .slice none 0 0) (d := .slice none 0 0) (e := .int .i64 0) (f := .int .i64 0) rfl rfl (by go_simp) (by go_simp) (by go_simp) (by go_simp) (by go_simp) (by go_simp)) rfl ?_
          exact ⟨_, rfl, OwnL.zero _ _, Bl.set6 B1.out HWB.out _ _ _ _ _ _⟩
        · have d3 : decide (free < 1) = false := decide_eq_false h3
          by_cases h4 : (8 : Int) < free
          · have d4 : decide ((8 : Int) < free) = true := decide_eq_true h4
            obtain rfl := CNO.out (fun h => by have h := OKL.out.1 h; exact absurd h.1.2.2.2.1 (by omega))
            clear CNO CNONE CFULL CSLOT CEND CMOV OKL FA WA HMB HWK WOK BE
            go_wp2_with fail
            refine bodyPost_ret (results_plan2 (a := .int .i64 0) (b := .int .i64 0) (c := .slice none 0 0) (d := .slice none 0 0) (e := .int .i64 0) (f := .int .i64 0) rfl rfl (by go_simp) (by go_simp) (by go_simp) (by go_simp) (by go_simp) (by go_simp)) rfl ?_
            exact ⟨_, rfl, OwnL.zero _ _, Bl.set6 B1.out HWB.out _ _ _ _ _ _⟩
          · have d4 : decide ((8 : Int) < free) = false := decide_eq_false h4
            by_cases hk : BK
            · have e5 : be = 0 := BE.out.1 hk
              subst e5
              have HK := Lib.hid hk
              clear hk
              by_cases h6 : s < 4
              · have d6 : decide (s < 4) = true := decide_eq_true h6
                obtain rfl := CNO.out (fun h => by have h := OKL.out.1 h; exact absurd h.2.1 (by omega))
                clear CNO CNONE CFULL CSLOT CEND CMOV OKL FA WA HMB HWK WOK BE
                go_wp2_with fail
                refine bodyPost_ret (results_plan2 (a := .int .i64 0) (b := .int .i64 0) (c := .slice none 0 0) (d := .slice none 0 0) (e := .int .i64 0) (f := .int .i64 0) rfl rfl (by go_simp) (by go_simp) (by go_simp) (by go_simp) (by go_simp) (by go_simp)) rfl ?_
                exact ⟨_, rfl, OwnL.zero _ _, Bl.set6 B1.out HWB.out _ _ _ _ _ _⟩
              · have d6 : decide (s < 4) = false := decide_eq_false h6
                by_cases h7 : (8 : Int) ≤ s
                · have d7 : decide ((8 : Int) ≤ s) = true := decide_eq_true h7
                  obtain rfl := CNO.out (fun h => by have h := OKL.out.1 h; exact absurd h.2.2 (by omega))
                  clear CNO CNONE CFULL CSLOT CEND CMOV OKL FA WA HMB HWK WOK BE
                  go_wp2_with fail
                  refine bodyPost_ret (results_plan2 (a := .int .i64 0) (b := .int .i64 0) (c := .slice none 0 0) (d := .slice none 0 0) (e := .int .i64 0) (f := .int .i64 0) rfl rfl (by go_simp) (by go_simp) (by go_simp) (by go_simp) (by go_simp) (by go_simp)) rfl ?_
                  exact ⟨_, rfl, OwnL.zero _ _, Bl.set6 B1.out HWB.out _ _ _ _ _ _⟩
                · have d7 : decide ((8 : Int) ≤ s) = false := decide_eq_false h7
                  cases hm : mb with
                  | false =>
                    rw [hm] at MA
                    obtain rfl := CNO.out (fun h => by have h := OKL.out.1 h; exact absurd (HMB.out.2 (HWK.out.1 h.1.2.2.2.2.2).1) (by rw [hm]; decide))
                    clear CNO CNONE CFULL CSLOT CEND CMOV OKL FA WA HMB HWK WOK BE
                    go_wp2_with (go_at_call 35; refine (MA.out _).mono ?_; rintro e w2 ⟨rfl, hb⟩; have B2 := Lib.hid (Bl.then B1.out hb); have R2 := Lib.hid (R1.out.below hb); have P2 := Lib.hid (P1.out.below hb); have V2 := Lib.hid (V1.out.below hb); have OA2 := Lib.hid (OA.out.below hb); obtain ⟨⟨z0, z1, z2, z3⟩, -⟩ := R2.out; clear hb f0 f1 f2 f3 f4 f5 p0 p1 p2 p3 p4 p5; obtain ⟨f0, f1, f2, f3, f4, f5⟩ := (cells6' P2.out).1; obtain ⟨⟨n0, p0⟩, ⟨n1, p1⟩, ⟨n2, p2⟩, ⟨n3, p3⟩, ⟨n4, p4⟩, ⟨n5, p5⟩⟩ := (cells6' P2.out).2)
                    refine bodyPost_ret (results_plan2 (a := .int .i64 0) (b := .int .i64 0) (c := .slice none 0 0) (d := .slice none 0 0) (e := .int .i64 0) (f := .int .i64 0) rfl rfl (by go_simp) (by go_simp) (by go_simp) (by go_simp) (by go_simp) (by go_simp)) rfl ?_
                    exact ⟨_, rfl, OwnL.zero _ _, Bl.set6 B2.out HWB.out _ _ _ _ _ _⟩
                  | true =>
                    rw [hm] at MA
                    have HM := Lib.hid hm
                    clear hm
                    by_cases h8 : k = 0
                    · have d8 : (k == 0) = true := by rw [h8]; rfl
                      obtain rfl := CNO.out (fun h => by have h := OKL.out.1 h; exact absurd h8 (HWK.out.1 h.1.2.2.2.2.2).2)
                      clear CNO CNONE CFULL CSLOT CEND CMOV OKL FA WA HMB HWK WOK BE h8
                      go_wp2_with (go_at_call 35; refine (MA.out _).mono ?_; rintro e w2 ⟨rfl, hb⟩; have B2 := Lib.hid (Bl.then B1.out hb); have R2 := Lib.hid (R1.out.below hb); have P2 := Lib.hid (P1.out.below hb); have V2 := Lib.hid (V1.out.below hb); have OA2 := Lib.hid (OA.out.below hb); obtain ⟨⟨z0, z1, z2, z3⟩, -⟩ := R2.out; clear hb f0 f1 f2 f3 f4 f5 p0 p1 p2 p3 p4 p5; obtain ⟨f0, f1, f2, f3, f4, f5⟩ := (cells6' P2.out).1; obtain ⟨⟨n0, p0⟩, ⟨n1, p1⟩, ⟨n2, p2⟩, ⟨n3, p3⟩, ⟨n4, p4⟩, ⟨n5, p5⟩⟩ := (cells6' P2.out).2)
                      refine bodyPost_ret (results_plan2 (a := .int .i64 0) (b := .int .i64 0) (c := .slice none 0 0) (d := .slice none 0 0) (e := .int .i64 0) (f := .int .i64 0) rfl rfl (by go_simp) (by go_simp) (by go_simp) (by go_simp) (by go_simp) (by go_simp)) rfl ?_
                      exact ⟨_, rfl, OwnL.zero _ _, Bl.set6 B2.out HWB.out _ _ _ _ _ _⟩
                    · have d8 : (k == 0) = false := by rw [beq_eq_false_iff_ne]; exact h8
                      have hch := OKL.out.2 ⟨⟨HG.out, (epochB_iff _).2 ⟨by omega, by omega⟩, by omega, by omega, HK.out, HWK.out.2 ⟨HMB.out.1 HM.out, h8⟩⟩, by omega, by omega⟩
                      obtain ⟨e9, e10⟩ := WOK.out HM.out h8
                      subst e9 e10
                      have CN := Lib.hid (CNONE.out hch)
                      have CF := Lib.hid (CFULL.out hch)
                      have CS := Lib.hid (CSLOT.out hch)
                      have CE := Lib.hid (CEND.out hch)
                      have CM := Lib.hid (CMOV.out hch)
                      have u1 : 1 ≤ ep := by omega
                      have u2 : ep ≤ 1048576 := by omega
                      have u3 : 1 ≤ free := by omega
                      have u4 : free ≤ 8 := by omega
                      have NX := Lib.hid (fun (W : World) => (behind_any s (by omega) (by omega) W).mono fun e w' h => (show e = .returned (.int .i64 (nextS s)) ∧ w' = W from ⟨h.1, h.2.symm⟩))
                      have U := Lib.hid (And.intro u1 (And.intro u2 (And.intro u3 u4)))
                      clear hch h1 h2 h3 h4 h6 h7 h8 u1 u2 u3 u4 CNO CNONE CFULL CSLOT CEND CMOV OKL HMB HWK WOK BE
                      go_wp2_with (go_at_call 35; refine (MA.out _).mono ?_; rintro e w2 ⟨rfl, hb⟩; have B2 := Lib.hid (Bl.then B1.out hb); have R2 := Lib.hid (R1.out.below hb); have P2 := Lib.hid (P1.out.below hb); have V2 := Lib.hid (V1.out.below hb); have OA2 := Lib.hid (OA.out.below hb); obtain ⟨⟨z0, z1, z2, z3⟩, -⟩ := R2.out; clear hb f0 f1 f2 f3 f4 f5 p0 p1 p2 p3 p4 p5; obtain ⟨f0, f1, f2, f3, f4, f5⟩ := (cells6' P2.out).1; obtain ⟨⟨n0, p0⟩, ⟨n1, p1⟩, ⟨n2, p2⟩, ⟨n3, p3⟩, ⟨n4, p4⟩, ⟨n5, p5⟩⟩ := (cells6' P2.out).2)
                      with_reducible refine (FA.out _ _ OA2.out).mono ?_
                      rintro e w9 ⟨rfl, rfl⟩
                      clear MA FA y0 y1 y2 y3 x0 x1 x2 x3
                      obtain ⟨⟨y0, y1, y2, y3⟩, -⟩ := V2.out
                      by_cases hnone : fb = false ∧ k = 2
                      · obtain rfl := CN.out hnone.1 hnone.2
                        have hk2 : (k == 2) = true := by rw [hnone.2]; rfl
                        have hfb := hnone.1
                        subst hfb
                        clear hnone CN CF CS CE CM WA
                        go_wp2_with fail
                        refine bodyPost_ret (results_plan2 (a := .int .i64 0) (b := .int .i64 0) (c := .slice none 0 0) (d := .slice none 0 0) (e := .int .i64 0) (f := .int .i64 0) rfl rfl (by go_simp) (by go_simp) (by go_simp) (by go_simp) (by go_simp) (by go_simp)) rfl ?_
                        exact ⟨_, rfl, OwnL.zero _ _, Bl.set6 B2.out HWB.out _ _ _ _ _ _⟩
                      · have CF2 := Lib.hid (CF.out hnone)
                        have CS2 := Lib.hid (CS.out hnone)
                        have CE2 := Lib.hid (CE.out hnone)
                        have CM2 := Lib.hid (CM.out hnone)
                        have hsplit : (k == 2) = false ∨ (fb = true ∧ (k == 2) = true) := by
                          by_cases e : k = 2
                          · cases fb with
                            | true => exact .inr ⟨rfl, by rw [e]; rfl⟩
                            | false => exact absurd ⟨rfl, e⟩ hnone
                          · exact .inl (by rw [beq_eq_false_iff_ne]; exact e)
                        obtain ⟨tl, htl⟩ : ∃ n, wl9.length = n := ⟨_, rfl⟩
                        rw [htl] at CF2 CS2 CE2 CM2
                        have HTL := Lib.hid htl
                        clear CN CF CS CE CM hnone htl
                        rcases hsplit with hk2 | ⟨rfl, hk2⟩
                        all_goals
                          go_wp2_with fail
                          with_reducible refine (WA.out _ _ OA2.out).mono ?_
                          rintro e w3 ⟨b, rfl, ob, hb⟩
                          obtain ⟨C, cc, rfl⟩ := Own.slice ob
                          rw [HTL.out]
                          have OT := Lib.hid (show RdP w3 (.slice C tl cc) wl9 by have h := OwnP.rd ob; rwa [HTL.out] at h)
                          have B3 := Lib.hid (Bl.then B2.out hb)
                          have V3 := Lib.hid (V2.out.below hb)
                          have R3 := Lib.hid (R2.out.below hb)
                          have P3 := Lib.hid (P2.out.below hb)
                          clear ob hb f0 f1 f2 f3 f4 f5 p0 p1 p2 p3 p4 p5 y0 y1 y2 y3 z0 z1 z2 z3 V2 R2 P2 B2 OA2 OA B1 V1 R1 P1
                          obtain ⟨⟨y0, y1, y2, y3⟩, -⟩ := V3.out
                          obtain ⟨⟨z0, z1, z2, z3⟩, -⟩ := R3.out
                          obtain ⟨f0, f1, f2, f3, f4, f5⟩ := (cells6' P3.out).1
                          obtain ⟨⟨n0, p0⟩, ⟨n1, p1⟩, ⟨n2, p2⟩, ⟨n3, p3⟩, ⟨n4, p4⟩, ⟨n5, p5⟩⟩ := (cells6' P3.out).2
                          obtain ⟨u1, u2, u3, u4⟩ := U.out
                          by_cases h7 : 7 < tl
                          · have hd7 : decide ((7 : Int) < (tl : Int)) = true := decide_eq_true (by omega)
                            have hd8 : (7 < tl) = True := eq_true h7
                            obtain rfl := CF2.out h7
                            clear h7 u1 u2 u3 u4
                            go_wp2_with fail
                            refine bodyPost_ret (results_plan2 (a := .int .i64 0) (b := .int .i64 0) (c := .slice none 0 0) (d := .slice none 0 0) (e := .int .i64 0) (f := .int .i64 0) rfl rfl (by go_simp) (by go_simp) (by go_simp) (by go_simp) (by go_simp) (by go_simp)) rfl ?_
                            exact ⟨_, rfl, OwnL.zero _ _, Bl.set6 B3.out HWB.out _ _ _ _ _ _⟩
                          · have hd7 : decide ((7 : Int) < (tl : Int)) = false := decide_eq_false (by omega)
                            have hd8 : (7 < tl) = False := eq_false h7
                            by_cases h8 : free < 8
                            · have hd9 : decide (free < 8) = true := decide_eq_true h8
                              have hw2 : wrap64 (free + 1) = free + 1 := IntWalk.wrap64_in _ ⟨by omega, by omega⟩
                              obtain rfl := CS2.out h7 h8
                              have V5 := Lib.hid ((V3.out.below (Bl.alloc (Below.refl _ _) (Obj.cells #[.int .i64 free] 3))).below (Bl.alloc (Below.refl _ _) (Obj.cells #[.int .i64 k, .int .i64 e0, .string key, .string val] 25)))
                              have R4 := Lib.hid (R3.out.below (Bl.alloc (Below.refl _ _) (Obj.cells #[.int .i64 free] 3)))
                              have P5 := Lib.hid ((P3.out.alloc (Obj.cells #[.int .i64 free] 3)).alloc (Obj.cells #[.int .i64 k, .int .i64 e0, .string key, .string val] 25))
                              have S5 := Lib.hid ((Own.int1 w3 free).alloc (Obj.cells #[.int .i64 k, .int .i64 e0, .string key, .string val] 25))
                              have r5 := Own.rec1 (w3.alloc (Obj.cells #[.int .i64 free] 3)) ⟨k, e0, key, val⟩
                              have hsz : (w3.alloc (Obj.cells #[.int .i64 free] 3)).heap.size = w3.heap.size + 1 := by simp
                              rw [hsz] at r5
                              have R5 := Lib.hid r5
                              have B5 := Lib.hid (Bl.alloc (Bl.alloc B3.out (Obj.cells #[.int .i64 free] 3)) (Obj.cells #[.int .i64 k, .int .i64 e0, .string key, .string val] 25))
                              obtain ⟨⟨i0, i1, i2, i3⟩, -⟩ := R4.out
                              obtain ⟨⟨j0, j1, j2, j3⟩, -⟩ := V5.out
                              clear h7 h8 u1 u2 u3 u4 f0 f1 f2 f3 f4 f5 p0 p1 p2 p3 p4 p5 z0 z1 z2 z3 r5 hsz
                              obtain ⟨f0, f1, f2, f3, f4, f5⟩ := (cells6' P5.out).1
                              obtain ⟨⟨n0, p0⟩, ⟨n1, p1⟩, ⟨n2, p2⟩, ⟨n3, p3⟩, ⟨n4, p4⟩, ⟨n5, p5⟩⟩ := (cells6' P5.out).2
                              go_wp2_with fail
                              refine bodyPost_ret (results_plan2 (a := .int .i64 (-1)) (b := .int .i64 s) (c := .slice (some ⟨w3.heap.size, 0, none⟩) 1 1) (d := .slice (some ⟨w3.heap.size + 1, 0, none⟩) 1 1) (e := .int .i64 (free + 1)) (f := .int .i64 ep) rfl rfl (by go_simp) (by go_simp) (by go_simp) (by go_simp) (by go_simp) (by go_simp)) rfl ?_
                              exact ⟨_, rfl, ⟨_, _, rfl, (S5.out.lower B3.out.size).off6 P5.out (by decide) _ _ _ _ _ _, (R5.out.lower (Nat.le_trans B3.out.size (Nat.le_succ _))).off6 P5.out (by decide) _ _ _ _ _ _⟩, Bl.set6 B5.out HWB.out _ _ _ _ _ _⟩
                            · have hd9 : decide (free < 8) = false := decide_eq_false h8
                              by_cases he : ep = 1048576
                              · have hd10 : (ep == 1048576) = true := by rw [he]; rfl
                                obtain rfl := CE2.out h7 (by first | exact h8 | exact Int.not_lt.1 h8) he
                                clear h7 h8 u1 u2 u3 u4 he
                                go_wp2_with fail
                                refine bodyPost_ret (results_plan2 (a := .int .i64 0) (b := .int .i64 0) (c := .slice none 0 0) (d := .slice none 0 0) (e := .int .i64 0) (f := .int .i64 0) rfl rfl (by go_simp) (by go_simp) (by go_simp) (by go_simp) (by go_simp) (by go_simp)) rfl ?_
                                exact ⟨_, rfl, OwnL.zero _ _, Bl.set6 B3.out HWB.out _ _ _ _ _ _⟩
                              · have hd10 : (ep == 1048576) = false := by rw [beq_eq_false_iff_ne]; exact he
                                have hw1 : wrap64 (ep + 1) = ep + 1 := IntWalk.wrap64_in _ ⟨by omega, by omega⟩
                                have hw2 : wrap64 (1 + (tl : Int)) = 1 + (tl : Int) := IntWalk.wrap64_in _ ⟨by omega, by omega⟩
                                obtain rfl := CM2.out h7 (by first | exact h8 | exact Int.not_lt.1 h8) he
                                have hl7 : tl ≤ 7 := Nat.not_lt.1 h7
                                have HL7 := Lib.hid hl7
                                clear h7 h8 u1 u2 u3 u4 he hl7 CF2 CS2 CE2 CM2
                                go_wp2_with fail
                                have h8 := y1
                                have SH := Lib.hid (show w3.cell? ⟨w.heap.size, 1, none⟩ = some (.int .i64 ep) ∧ Below w3.heap.size w3 w3 from ⟨h8, Below.refl _ _⟩)
                                clear h8
                                apply region_one
                                · go_region_held3 (fun w' => w'.cell? ⟨w.heap.size, 1, none⟩ = some (.int .i64 ep) ∧ Below w3.heap.size w3 w') (first | exact ⟨SH.out.1, Bl.drewN SH.out.2 1⟩ | assumption | exact hs2 | exact keepA (by assumption) _ | exact keepA SH.out _ | exact keepA (W := w3) (show w3.drew.cell? ⟨w.heap.size, 1, none⟩ = some (.int .i64 ep) ∧ Below w3.heap.size w3 w3.drew from ⟨SH.out.1, Bl.drewN SH.out.2 1⟩) _) ((go_at_call 49; with_reducible refine (NX.out _).mono ?_; rintro e w4 ⟨rfl, rfl⟩; have hs2 := SH.out))
                                  all_goals exact ⟨rfl, rfl, rfl⟩
                                clear SH f0 f1 f2 f3 f4 f5 p0 p1 p2 p3 p4 p5 y0 y1 y2 y3 z0 z1 z2 z3
                                rw [show IntKind.i64.wrap (1 + (tl : Int)) = 1 + (tl : Int) from wrap_i64_small (by have := HL7.out; omega) (by have := HL7.out; omega), show IntKind.i64.wrap (ep + 1) = ep + 1 from wrap_i64_small (by have := U.out; omega) (by have := U.out; omega)]
                                have I0 := Lib.hid (show PIn w3 w3.heap.size w3.heap.size [.int .i64 (nextS s), .int .i64 (nextS s), .slice none 0 0, .slice none 0 0, .int .i64 (1 + (tl : Int)), .int .i64 (ep + 1)] (.slice none 0 0) (.slice none 0 0) 0 0 (onesN 0) ((wl9.take 0).map recP) (w3.alloc (Obj.cells #[.int .i64 (nextS s), .int .i64 (nextS s), .slice none 0 0, .slice none 0 0, .int .i64 (1 + (tl : Int)), .int .i64 (ep + 1)] 60)).drew from PIn.drew ⟨Nat.le_refl _, Own.arr w3 #[.int .i64 (nextS s), .int .i64 (nextS s), .slice none 0 0, .slice none 0 0, .int .i64 (1 + (tl : Int)), .int .i64 (ep + 1)] 60 6 rfl (by decide), Own.nil _ _ _ _, Own.nil _ _ _ _, Bl.alloc (Below.refl _ _) _, (Bl.alloc (Below.refl w3.heap.size w3) _).size⟩)
                                generalize (w3.alloc (Obj.cells #[.int .i64 (nextS s), .int .i64 (nextS s), .slice none 0 0, .slice none 0 0, .int .i64 (1 + (tl : Int)), .int .i64 (ep + 1)] 60)).drew = w5 at *
                                obtain ⟨g, hg⟩ : ∃ g, w3.heap.size = g := ⟨_, rfl⟩
                                have HGW := Lib.hid hg
                                obtain ⟨ns, hns⟩ : ∃ ns, nextS s = ns := ⟨_, rfl⟩
                                rw [hg, hns] at I0
                                rw [hg, hns]
                                have HNS := Lib.hid hns
                                clear hg hns hw1 hw2
                                go_wp2_with fail
                                go_loopw [13] (fun i wr => ∃ (q : Nat) (S R : Value), q ≤ tl ∧ i = .int .i64 (q : Int) ∧ PIn w3 g g [.int .i64 ns, .int .i64 ns, S, R, .int .i64 (1 + (tl : Int)), .int .i64 (ep + 1)] S R q q (onesN q) ((wl9.take q).map recP) wr) (fun i _ => (tl - intOf i).toNat)
                                case atStart => exact ⟨0, _, _, Nat.zero_le _, rfl, I0.out⟩
                                case round =>
                                  obtain ⟨q, S, R, hq, rfl, hi⟩ := hrel
                                  obtain ⟨S1, S2, S3⟩ : ∃ A c, S = .slice A q c := hi.2.2.1.slice
                                  obtain ⟨R1, R2, R3⟩ : ∃ A c, R = .slice A q c := hi.2.2.2.1.slice
                                  subst S3 R3
                                  have HI := Lib.hid hi
                                  clear hi I0
                                  have hq7 : q ≤ 7 := Nat.le_trans hq HL7.out
                                  have hbytes : (q + 1) * 48 ≤ 140737488355328 := by omega
                                  have hbytes8 : (q + 1) * 8 ≤ 140737488355328 := by omega
                                  have q2 := HI.out.at (i := 2) rfl
                                  by_cases hlt : q < tl
                                  · have hlt2 : (q : Int) < (tl : Int) := by omega
                                    have HS1 := Lib.hid (show g ≤ (wr.alloc (Obj.cells #[.int .i64 (1 + (q : Int))] 3)).heap.size from (HI.out.alloc _).2.2.2.2.2)
                                    have HM := Lib.hid (mapR_snoc (ps := wl9) (k := q) (by rw [HTL.out]; exact hlt))
                                    go_wp2_with (at_builtin; refine appO g rfl (.tmp 128) (.tmp 131) 43 3 (.int .i64 0) 1 8 rfl Try.underlying43 infoInt rfl (by decide) (by decide) _ q (nums (onesN q)) rfl (some ⟨wr.heap.size, 0, none⟩) 1 1 [.int .i64 (1 + (q : Int))] rfl rfl (one1 rfl) (fun h => by cases h) (box1 (one_new _ _ rfl _ _)) (HI.out.alloc _).2.2.1 HS1.out hbytes8 ?_; intro v1 w2 ho hgw ha; have I2 := Lib.hid ((HI.out.alloc (Obj.cells #[.int .i64 (1 + (q : Int))] 3)).grownS (xs' := onesN q ++ [1 + (q : Int)]) hgw (by rw [nums_append]; exact ho)); have I3 := Lib.hid (I2.out.set 2 v1); have z2' := I2.out.free (i := 2) (by omega); have y2' := I2.out.at (i := 2) rfl; obtain ⟨D1, c1, hv1⟩ := ho.slice; subst hv1; clear ho hgw ha)
                                    obtain ⟨b, o, c', hv, _, _, hcc⟩ := (OT.out.below I3.out.2.2.2.2.1).pos (by rw [HTL.out]; omega)
                                    rw [HTL.out] at hv hcc
                                    obtain ⟨h1, _, h2⟩ := Value.slice.inj hv
                                    subst h1 h2
                                    obtain ⟨g0, g1⟩ := hcc q hlt
                                    obtain ⟨x, hx⟩ : ∃ x, wl9.getD q zeroP = x := ⟨_, rfl⟩
                                    rw [hx] at g0 g1 HM
                                    obtain ⟨xk, xv⟩ := x
                                    change Hid (_ = _ ++ [(⟨1, 0, xk, xv⟩ : RecV)]) at HM
                                    simp only at g0 g1
                                    have q3 := I3.out.at (i := 3) rfl
                                    have I4 := Lib.hid I3.out.drew
                                    clear hcc hv hx z2' y2' q2
                                    generalize (w2.setCell ⟨g, 2, none⟩ (.slice D1 (q + 1) c1)) = w7 at *
                                    have q3a := (I3.out.alloc (Obj.cells #[.int .i64 1, .int .i64 0, .string xk, .string xv] 25)).at (i := 3) rfl
                                    have BN := Lib.hid (fun (a1 a2 a3 a4 : Value) (ty : TypeId) => show Bx (w7.alloc (Obj.cells #[a1, a2, a3, a4] ty)).drew w7.heap.size a1 a2 a3 a4 from (Bx.new w7 a1 a2 a3 a4 ty).below (Bl.self _ 1))
                                    go_region_law (refine stepO g rfl (.tmp 135) (.tmp 147) 22 25 (.agg #[.int .i64 0, .int .i64 0, .string ⟨#[]⟩, .string ⟨#[]⟩]) 4 48 rfl Try.underlying22 infoRecX rfl (by decide) (by decide) (.slice R1 q R2) q (flat ((wl9.take q).map recP)) (by simp [Act.eval, Act.put]) (some ⟨w7.heap.size, 0, none⟩) 1 1 [.int .i64 1, .int .i64 0, .string xk, .string xv] (by simp [Act.eval, Act.put]) rfl (cellsR_one ⟨1, 0, xk, xv⟩) (fun h => by cases h) (box4 (BN.out _ _ _ _ _)) (I3.out.alloc (Obj.cells #[.int .i64 1, .int .i64 0, .string xk, .string xv] 25)).drew.2.2.2.1 (I3.out.alloc (Obj.cells #[.int .i64 1, .int .i64 0, .string xk, .string xv] 25)).drew.2.2.2.2.2 hbytes ?_; intro v3 w4 ho hgw ha; have J1 := Lib.hid ((I3.out.alloc (Obj.cells #[.int .i64 1, .int .i64 0, .string xk, .string xv] 25)).drew.grownR (rs' := (wl9.take q).map recP ++ [⟨1, 0, xk, xv⟩]) hgw (by rw [flat_snoc]; exact ho)); have J2 := Lib.hid (J1.out.set 3 v3); have z3' := J1.out.free (i := 3) (by omega); have y3' := J1.out.at (i := 3) rfl; obtain ⟨D3, c3, hv3⟩ := ho.slice; subst hv3; clear ho hgw ha)
                                    all_goals
                                      go_wp2_with fail
                                      go_roundw
                                      case rel =>
                                        refine ⟨q + 1, .slice D1 (q + 1) c1, .slice D3 (q + 1) c3, hlt, by first | go_num | rfl, ?_⟩
                                        rw [HM.out, onesN_snoc]
                                        exact J2.out
                                      case measure => simp [intOf]; omega
                                  · obtain rfl : q = tl := by omega
                                    have hd : decide ((q : Int) < (q : Int)) = false := decide_eq_false (by omega)
                                    have hmap : (wl9.take q).map recP = wl9.map recP := by rw [← HTL.out, List.take_length]
                                    rw [hmap] at HI
                                    have HS1 := Lib.hid (show g ≤ (wr.alloc (Obj.cells #[.int .i64 0] 3)).heap.size from (HI.out.alloc _).2.2.2.2.2)
                                    have HFIN := Lib.hid (show movedP (nextS s) (ep + 1) wl9 = ⟨ns, ns, onesN q ++ [0], wl9.map recP ++ [⟨0, ep + 1, nilB, nilB⟩], 1 + (q : Int), ep + 1⟩ by rw [movedP, HTL.out, HNS.out])
                                    have HL1 := Lib.hid (show (onesN q ++ [0]).length = q + 1 by rw [List.length_append, onesN_len]; rfl)
                                    have HL2 := Lib.hid (show (wl9.map recP ++ [(⟨0, ep + 1, nilB, nilB⟩ : RecV)]).length = q + 1 by rw [List.length_append, List.length_map, HTL.out]; rfl)
                                    clear hmap hlt
                                    go_wp2_with (first | (at_builtin; refine appO g rfl (.tmp 156) (.tmp 160) 22 25 (.agg #[.int .i64 0, .int .i64 0, .string ⟨#[]⟩, .string ⟨#[]⟩]) 4 48 rfl Try.underlying22 infoRecX rfl (by decide) (by decide) _ q (flat (wl9.map recP)) rfl (some ⟨w7.heap.size, 0, none⟩) 1 1 [.int .i64 0, .int .i64 (ep + 1), .string ⟨#[]⟩, .string ⟨#[]⟩] rfl rfl (cellsR_one ⟨0, ep + 1, nilB, nilB⟩) (fun h => by cases h) (box4 (BN.out _ _ _ _ _)) (I3.out.alloc _).2.2.2.1 (I3.out.alloc _).2.2.2.2.2 hbytes ?_; intro v3 w8 ho hgw ha; have J1 := Lib.hid ((I3.out.alloc (Obj.cells #[.int .i64 0, .int .i64 (ep + 1), .string ⟨#[]⟩, .string ⟨#[]⟩] 25)).grownR (rs' := wl9.map recP ++ [⟨0, ep + 1, nilB, nilB⟩]) hgw (by rw [flat_snoc]; exact ho)); have J2 := Lib.hid (J1.out.set 3 v3); have t3 := J1.out.free (i := 3) (by omega); have s3 := J1.out.at (i := 3) rfl; have d0' := J2.out.at (i := 0) rfl; have d1' := J2.out.at (i := 1) rfl; have d2' := J2.out.at (i := 2) rfl; have d3' := J2.out.at (i := 3) rfl; have d4' := J2.out.at (i := 4) rfl; have d5' := J2.out.at (i := 5) rfl; have P8 := Lib.hid (P3.out.below J2.out.2.2.2.2.1); obtain ⟨f0, f1, f2, f3, f4, f5⟩ := (cells6' P8.out).1; obtain ⟨⟨m0, p0⟩, ⟨m1, p1⟩, ⟨m2, p2⟩, ⟨m3, p3⟩, ⟨m4, p4⟩, ⟨m5, p5⟩⟩ := (cells6' P8.out).2; obtain ⟨D3, c3, hv3⟩ := ho.slice; subst hv3; clear ho hgw ha BN) | (at_builtin; refine appO g rfl (.tmp 151) (.tmp 152) 43 3 (.int .i64 0) 1 8 rfl Try.underlying43 infoInt rfl (by decide) (by decide) _ q (nums (onesN q)) rfl (some ⟨wr.heap.size, 0, none⟩) 1 1 [.int .i64 0] rfl rfl (one1 rfl) (fun h => by cases h) (box1 (one_new _ _ rfl _ _)) (HI.out.alloc _).2.2.1 HS1.out hbytes8 ?_; intro v1 w7 ho hgw ha; have I2 := Lib.hid ((HI.out.alloc (Obj.cells #[.int .i64 0] 3)).grownS (xs' := onesN q ++ [0]) hgw (by rw [nums_append]; exact ho)); have I3 := Lib.hid (I2.out.set 2 v1); have t2 := I2.out.free (i := 2) (by omega); have s2 := I2.out.at (i := 2) rfl; have q3 := I3.out.at (i := 3) rfl; have q5 := I3.out.at (i := 5) rfl; have BN := Lib.hid (fun (a1 a2 a3 a4 : Value) (ty : TypeId) => show Bx ((w7.setCell ⟨g, 2, none⟩ v1).alloc (Obj.cells #[a1, a2, a3, a4] ty)) w7.heap.size a1 a2 a3 a4 by have h := Bx.new (w7.setCell ⟨g, 2, none⟩ v1) a1 a2 a3 a4 ty; rwa [setCell_size] at h); obtain ⟨D1, c1, hv1⟩ := ho.slice; subst hv1; clear ho hgw ha))
                                    refine bodyPost_ret (results_plan2 (a := .int .i64 ns) (b := .int .i64 ns) (c := .slice D1 (q + 1) c1) (d := .slice D3 (q + 1) c3) (e := .int .i64 (1 + (q : Int))) (f := .int .i64 (ep + 1)) rfl rfl (by go_simp) (by go_simp) (by go_simp) (by go_simp) (by go_simp) (by go_simp)) rfl ?_
                                    rw [HFIN.out]
                                    have hlow : w.heap.size ≤ g := by have h := B3.out.size; rw [HGW.out] at h; exact h
                                    refine ⟨_, rfl, ⟨_, _, rfl, ?_, ?_⟩, Bl.set6 (Bl.then B3.out J2.out.2.2.2.2.1) HWB.out _ _ _ _ _ _⟩
                                    · rw [HL1.out]
                                      exact (J2.out.2.2.1.lower hlow).off6 P8.out (by decide) _ _ _ _ _ _
                                    · rw [HL2.out]
                                      exact (J2.out.2.2.2.1.lower hlow).off6 P8.out (by decide) _ _ _ _ _ _
            · have e5 : be = 2100 := BE.out.2 hk
              subst e5
              obtain rfl := CNO.out (fun h => by have h := OKL.out.1 h; exact absurd h.1.2.2.2.2.1 hk)
              clear CNO CNONE CFULL CSLOT CEND CMOV OKL FA WA HMB HWK WOK BE
              go_wp2_with fail
              refine bodyPost_ret (results_plan2 (a := .int .i64 0) (b := .int .i64 0) (c := .slice none 0 0) (d := .slice none 0 0) (e := .int .i64 0) (f := .int .i64 0) rfl rfl (by go_simp) (by go_simp) (by go_simp) (by go_simp) (by go_simp) (by go_simp)) rfl ?_
              exact ⟨_, rfl, OwnL.zero _ _, Bl.set6 B1.out HWB.out _ _ _ _ _ _⟩
end Go.Proofs.Ytdgnpoapkjoknaa
