/- scan: the document's Scan. -/
import Derived.Test.YtgfldfkgialdlaaScanE
namespace Go.Proofs.Ytgfldfkgialdlaa
set_option linter.unusedVariables false
set_option linter.unusedSimpArgs false
open Go.RowKit

theorem rscan_no (s : ByteArray) (h : s.size ≠ 512) (hs : s.size ≤ 140737488351232) (w : World) : Calls Try.prog 26 #[.string s] w (ScanPost w s) := by
  have hd : ((s.size : Int) != 512) = true := by rw [bne_iff_ne]; omega
  have H1 := Lib.hid (show scanG s = false ∧ scanP s = 0 ∧ freeS s = 0 ∧ scanE s = 2000 ∧ recsS s = [] from ⟨if_neg h, if_neg h, if_neg h, if_neg h, if_neg h⟩)
  clear h
  go_enter Try.func26, Try.ntmps26
  go_wp2_with fail
  (try simp only [Exit.inBlock, Exit.then])
  refine bodyPost_ret (results_view2 (a := .bool false) (b := .int .i64 0) (c := .slice none 0 0) (d := .int .i64 0) rfl rfl (by go_simp) (by go_simp) (by go_simp) (by go_simp)) rfl ?_
  obtain ⟨h1, h2, h3, h4, h5⟩ := H1.out
  refine ⟨.slice none 0 0, ?_, ?_, ?_⟩
  · rw [h1, h2, h3, h4]
    rfl
  · rw [h5]
    exact Own.nil _ _ _ _
  · first | exact Bl.alloc (Below.refl _ _) _ | exact Bl.set4 (Bl.alloc (Below.refl _ _) _) (Nat.le_refl _) _ _ _ _

set_option maxRecDepth 100000 in
set_option maxHeartbeats 4000000 in
theorem rscan_yes (s : ByteArray) (hs : s.size = 512) (w : World) : Calls Try.prog 26 #[.string s] w (ScanPost w s) := by
  obtain ⟨u0, hu0⟩ : ∃ u, slotB s 0 = u := ⟨_, rfl⟩
  have hue0 : s.extract 0 64 = u0 := hu0
  have hT := fun w => rgetr_any u0 _ _ (tell_ans u0) w
  obtain ⟨r, hr⟩ : ∃ r, tellR u0 = r := ⟨_, rfl⟩
  obtain ⟨te, hte⟩ : ∃ r, tellE u0 = r := ⟨_, rfl⟩
  rw [hr, hte] at hT
  have hG : goodS s = decide (te = 0 ∧ r.k = 0) := by rw [goodS, hu0, hr, hte]
  have hE : epochS s = if goodS s = true then r.e else 0 := by rw [epochS, hu0, hr]
  obtain ⟨k, e0, key, rv⟩ := r
  change ∀ w : World, Calls Try.prog 16 #[.string u0] w fun e w' => e = .returned (.tuple #[.agg #[.int .i64 k, .int .i64 e0, .string key, .string rv], .int .i64 te]) ∧ Below w.heap.size w w' at hT
  simp only at hG hE
  have T0 := Lib.hid hT
  clear hT hr hte hu0
  by_cases hgd : te = 0 ∧ k = 0
  · have HG := Lib.hid (scan_good hs hG hE hgd)
    clear hG hE
    obtain ⟨rfl, rfl⟩ := hgd
    go_enter Try.func26, Try.ntmps26
    go_wp2_with fail
    with_reducible refine (T0.out _).mono ?_
    rintro e w1 ⟨rfl, hb⟩
    have Z1 := Lib.hid (Bl.alloc (Bl.then (Bl.alloc (Bl.alloc (Below.refl _ _) _) _) hb) (Obj.cells #[.int .i64 0, .int .i64 e0, .string key, .string rv] 23))
    have Z2 := Lib.hid (Bx.below (Bx.below (Bx.below (Bx.new w (.bool false) (.int .i64 0) (.slice none 0 0) (.int .i64 0) 51) (Bl.alloc (Below.refl _ _) _)) hb) (Bl.alloc (Below.refl _ _) (Obj.cells #[.int .i64 0, .int .i64 e0, .string key, .string rv] 23)))
    have Z4 := Lib.hid (Bx.below (Bx.below (Bx.new1 w _ (.bool false) (.int .i64 0) (.slice none 0 0) (.int .i64 0) 51) hb) (Bl.alloc (Below.refl _ _) (Obj.cells #[.int .i64 0, .int .i64 e0, .string key, .string rv] 23)))
    clear hb
    obtain ⟨⟨c0, c1, c2, c3⟩, f0, f1, f2, f3⟩ := Z4.out
    obtain ⟨⟨r0, r1, r2, r3⟩, _⟩ := Bx.new w1 (.int .i64 0) (.int .i64 e0) (.string key) (.string rv) 23
    go_wp2_with fail
    have Y2 := Lib.hid (show Bx ((((w1.alloc (Obj.cells #[.int .i64 0, .int .i64 e0, .string key, .string rv] 23)).setCell ⟨w.heap.size + 1, 0, none⟩ (.bool true)).setCell ⟨w.heap.size + 1, 1, none⟩ (.int .i64 e0)).setCell ⟨w.heap.size + 1, 3, none⟩ (.int .i64 1)) w.heap.size (.bool false) (.int .i64 0) (.slice none 0 0) (.int .i64 0) from ((Bx.far Z2.out (by omega) (.bool true)).far (by omega) (.int .i64 e0)).far (by omega) (.int .i64 1))
    have Y4 := Lib.hid (show Bx ((((w1.alloc (Obj.cells #[.int .i64 0, .int .i64 e0, .string key, .string rv] 23)).setCell ⟨w.heap.size + 1, 0, none⟩ (.bool true)).setCell ⟨w.heap.size + 1, 1, none⟩ (.int .i64 e0)).setCell ⟨w.heap.size + 1, 3, none⟩ (.int .i64 1)) (w.heap.size + 1) (.bool true) (.int .i64 e0) (.slice none 0 0) (.int .i64 1) from Bx.set3 (Bx.set1 (Bx.set0 Z4.out (.bool true)) (.int .i64 e0)) (.int .i64 1))
    have Y1 := Lib.hid (show Below w.heap.size w ((((w1.alloc (Obj.cells #[.int .i64 0, .int .i64 e0, .string key, .string rv] 23)).setCell ⟨w.heap.size + 1, 0, none⟩ (.bool true)).setCell ⟨w.heap.size + 1, 1, none⟩ (.int .i64 e0)).setCell ⟨w.heap.size + 1, 3, none⟩ (.int .i64 1)) from ((Z1.out.setCell (p := ⟨w.heap.size + 1, 0, none⟩) (by show _ ≤ w.heap.size + 1; omega) (.bool true)).setCell (p := ⟨w.heap.size + 1, 1, none⟩) (by show _ ≤ w.heap.size + 1; omega) (.int .i64 e0)).setCell (p := ⟨w.heap.size + 1, 3, none⟩) (by show _ ≤ w.heap.size + 1; omega) (.int .i64 1))
    clear c0 c1 c2 c3 f0 f1 f2 f3 r0 r1 r2 r3 Z1 Z2 Z4
    generalize (((w1.alloc (Obj.cells #[.int .i64 0, .int .i64 e0, .string key, .string rv] 23)).setCell ⟨w.heap.size + 1, 0, none⟩ (.bool true)).setCell ⟨w.heap.size + 1, 1, none⟩ (.int .i64 e0)).setCell ⟨w.heap.size + 1, 3, none⟩ (.int .i64 1) = W0 at *
    obtain ⟨B, hB⟩ : ∃ B, W0.heap.size = B := ⟨_, rfl⟩
    have A0 : SAt w B w.heap.size (w.heap.size + 1) true e0 (freeN s (1 - 1)) (recsN s (1 - 1)) (.slice none 0 0) W0 := ⟨Y2.out, Y4.out, Own.nil _ _ _ _, Y1.out, by have := Y2.out.lt; omega, by have := Y4.out.lt; omega, by omega, Nat.le_refl _, by omega⟩
    replace A0 := Lib.hid A0
    clear Y1 Y2 Y4 hB
    go_loopw [7] (fun i wr => ∃ (j : Nat) (v : Value), 1 ≤ j ∧ j ≤ 8 ∧ i = .int .i64 j ∧ SAt w B w.heap.size (w.heap.size + 1) true e0 (freeN s (j - 1)) (recsN s (j - 1)) v wr) (fun i _ => (8 - intOf i).toNat)
    case atStart => exact ⟨1, .slice none 0 0, by omega, by omega, rfl, A0.out⟩
    case round =>
      obtain ⟨j, v, h1, h8, rfl, hA⟩ := hrel
      have HA := Lib.hid hA
      clear hA A0
      by_cases hlt : j < 8
      · have hlt2 : (j : Int) < 8 := by omega
        have hj1 : (1 : Int) ≤ (j : Int) := by omega
        obtain ⟨u, hu⟩ : ∃ u, slotB s j = u := ⟨_, rfl⟩
        have zu : u.size = 64 := by rw [← hu]; exact slotB_size hs hlt
        obtain ⟨a, ha⟩ : ∃ a, 64 * j = a := ⟨_, rfl⟩
        obtain ⟨b, hb⟩ : ∃ b, a + 64 = b := ⟨_, rfl⟩
        have i1 : (64 : Int) * (j : Int) = (a : Int) := by omega
        have i2 : (a : Int) + 64 = (b : Int) := by omega
        have i3 : IntKind.i64.wrap (a : Int) = (a : Int) := wrap_i64_small (by omega) (by omega)
        have i4 : IntKind.i64.wrap (b : Int) = (b : Int) := wrap_i64_small (by omega) (by omega)
        have i5 : (a : Int) ≤ (b : Int) := by omega
        have i6 : (b : Int) ≤ 512 := by omega
        have i7 : a ≤ b := by omega
        have i8 : b ≤ 512 := by omega
        have hue : s.extract a b = u := by rw [← hu, slotB, ha, hb]
        clear ha hb
        have HBL := Lib.hid (fun w => rblankS_any u (by omega) w)
        have hT := fun w => rgetr_any u _ _ (tell_ans u) w
        obtain ⟨r, hr⟩ : ∃ r, tellR u = r := ⟨_, rfl⟩
        obtain ⟨te, hte⟩ : ∃ r, tellE u = r := ⟨_, rfl⟩
        rw [hr, hte] at hT
        have hi := isR_iff u
        rw [hr, hte] at hi
        have hlen := recsN_len s (j - 1)
        by_cases hrec : te = 0 ∧ r.k ≠ 0
        · have HR := Lib.hid (recsN_yes h1 (by rw [hu]; exact hi.2 hrec))
          rw [hu, hr] at HR
          obtain ⟨rfl, hk0⟩ := hrec
          obtain ⟨k, e0, key, rv⟩ := r
          change ∀ w : World, Calls Try.prog 16 #[.string u] w fun e w' => e = .returned (.tuple #[.agg #[.int .i64 k, .int .i64 e0, .string key, .string rv], .int .i64 0]) ∧ Below w.heap.size w w' at hT
          simp only at hk0
          have HT := Lib.hid hT
          clear hT hr hte hi
          have hk1 : (k != 0) = true := by rw [bne_iff_ne]; exact hk0
          go_wp2_with fail
          with_reducible refine (HT.out _).mono ?_
          rintro e w1 ⟨rfl, hb⟩
          have A1 := Lib.hid ((HA.out.below hb).alloc (Obj.cells #[.int .i64 k, .int .i64 e0, .string key, .string rv] 23))
          clear hb HA
          obtain ⟨_, ⟨⟨x0, x1, x2, x3⟩, _⟩, _⟩ := A1.out
          obtain ⟨A, c, rfl⟩ := A1.out.2.2.1.slice
          go_wp2_with (at_builtin; (refine appO B rfl (.tmp 57) (.tmp 59) 41 23 (.agg #[.int .i64 0, .int .i64 0, .string ⟨#[]⟩, .string ⟨#[]⟩]) 4 48 rfl Try.underlying41 infoRec rfl (by decide) (by decide) _ (recsN s (j - 1)).length (flat (recsN s (j - 1))) rfl (some ⟨w1.heap.size + 1, 0, none⟩) 1 1 [.int .i64 k, .int .i64 e0, .string key, .string rv] rfl rfl (cellsR_one ⟨k, e0, key, rv⟩) (fun h => by cases h) (box4 (Bx.new1 w1 _ _ _ _ _ _)) (A1.out.2.2.1.alloc _) (Nat.le_trans A1.out.2.2.2.2.2.2.1 (Bl.alloc (Below.refl _ _) _).size) (by omega) ?_; intro v1 w2 ho hg ha; obtain ⟨A', c', rfl⟩ := ho.slice; have A2 := Lib.hid (SAt.appended (r := ⟨k, e0, key, rv⟩) (A1.out.alloc _) ho hg); obtain ⟨⟨c0, c1, c2, c3⟩, f0, f1, f2, f3⟩ := Bx.grown (A1.out.alloc (Obj.cells #[.int .i64 k, .int .i64 e0, .string key, .string rv] 23)).2.1 hg (A1.out.2.2.1.not_block A1.out.2.2.2.2.2.1); clear ho hg ha x0 x1 x2 x3))
          clear A1
          cases hbl : blankB u
          · have HF := Lib.hid (freeN_no h1 (by rw [hu]; exact hbl))
            rw [hbl] at HBL
            go_wp2_with fail
            with_reducible refine (HBL.out _).mono ?_
            rintro e w3 ⟨rfl, rfl⟩
            have A3 := A2
            clear A2
            obtain ⟨_, ⟨⟨x0, x1, x2, x3⟩, y0, y1, y2, y3⟩, _⟩ := A3.out
            have A4 := Lib.hid (A3.out.free ((j : Int) + 1))
            clear A3
            go_wp2_with fail
            go_roundw
            case rel => exact ⟨j + 1, .slice A' _ c', by omega, by omega, by go_num, by rw [Nat.add_sub_cancel, HF.out, HR.out]; exact A4.out⟩
            case measure => simp [intOf]; omega
          · have HF := Lib.hid (freeN_yes h1 (by rw [hu]; exact hbl))
            rw [hbl] at HBL
            go_wp2_with fail
            with_reducible refine (HBL.out _).mono ?_
            rintro e w3 ⟨rfl, rfl⟩
            have A3 := A2
            clear A2
            go_wp2_with fail
            go_roundw
            case rel => exact ⟨j + 1, .slice A' _ c', by omega, by omega, by go_num, by rw [Nat.add_sub_cancel, HF.out, HR.out]; exact A3.out⟩
            case measure => simp [intOf]; omega
        · have HR := Lib.hid (recsN_no h1 (by rw [hu]; exact fun h => hrec (hi.1 h)))
          obtain ⟨k, e0, key, rv⟩ := r
          change ∀ w : World, Calls Try.prog 16 #[.string u] w fun e w' => e = .returned (.tuple #[.agg #[.int .i64 k, .int .i64 e0, .string key, .string rv], .int .i64 te]) ∧ Below w.heap.size w w' at hT
          simp only at hrec
          have HT := Lib.hid hT
          clear hT hr hte hi
          by_cases hte0 : te = 0
          · have hk0 : k = 0 := Classical.byContradiction fun h => hrec ⟨hte0, h⟩
            subst hte0 hk0
            clear hrec
            go_wp2_with fail
            with_reducible refine (HT.out _).mono ?_
            rintro e w1 ⟨rfl, hb⟩
            have A2 := Lib.hid ((HA.out.below hb).alloc (Obj.cells #[.int .i64 0, .int .i64 e0, .string key, .string rv] 23))
            clear hb HA
            cases hbl : blankB u
            · have HF := Lib.hid (freeN_no h1 (by rw [hu]; exact hbl))
              rw [hbl] at HBL
              go_wp2_with fail
              with_reducible refine (HBL.out _).mono ?_
              rintro e w3 ⟨rfl, rfl⟩
              have A3 := A2
              clear A2
              obtain ⟨_, ⟨⟨x0, x1, x2, x3⟩, y0, y1, y2, y3⟩, _⟩ := A3.out
              have A4 := Lib.hid (A3.out.free ((j : Int) + 1))
              clear A3
              go_wp2_with fail
              go_roundw
              case rel => exact ⟨j + 1, v, by omega, by omega, by go_num, by rw [Nat.add_sub_cancel, HF.out, HR.out]; exact A4.out⟩
              case measure => simp [intOf]; omega
            · have HF := Lib.hid (freeN_yes h1 (by rw [hu]; exact hbl))
              rw [hbl] at HBL
              go_wp2_with fail
              with_reducible refine (HBL.out _).mono ?_
              rintro e w3 ⟨rfl, rfl⟩
              have A3 := A2
              clear A2
              go_wp2_with fail
              go_roundw
              case rel => exact ⟨j + 1, v, by omega, by omega, by go_num, by rw [Nat.add_sub_cancel, HF.out, HR.out]; exact A3.out⟩
              case measure => simp [intOf]; omega
          · have ht1 : (te == 0) = false := by rw [beq_eq_false_iff_ne]; exact hte0
            clear hrec
            go_wp2_with fail
            with_reducible refine (HT.out _).mono ?_
            rintro e w1 ⟨rfl, hb⟩
            have A2 := Lib.hid ((HA.out.below hb).alloc (Obj.cells #[.int .i64 k, .int .i64 e0, .string key, .string rv] 23))
            clear hb HA
            cases hbl : blankB u
            · have HF := Lib.hid (freeN_no h1 (by rw [hu]; exact hbl))
              rw [hbl] at HBL
              go_wp2_with fail
              with_reducible refine (HBL.out _).mono ?_
              rintro e w3 ⟨rfl, rfl⟩
              have A3 := A2
              clear A2
              obtain ⟨_, ⟨⟨x0, x1, x2, x3⟩, y0, y1, y2, y3⟩, _⟩ := A3.out
              have A4 := Lib.hid (A3.out.free ((j : Int) + 1))
              clear A3
              go_wp2_with fail
              go_roundw
              case rel => exact ⟨j + 1, v, by omega, by omega, by go_num, by rw [Nat.add_sub_cancel, HF.out, HR.out]; exact A4.out⟩
              case measure => simp [intOf]; omega
            · have HF := Lib.hid (freeN_yes h1 (by rw [hu]; exact hbl))
              rw [hbl] at HBL
              go_wp2_with fail
              with_reducible refine (HBL.out _).mono ?_
              rintro e w3 ⟨rfl, rfl⟩
              have A3 := A2
              clear A2
              go_wp2_with fail
              go_roundw
              case rel => exact ⟨j + 1, v, by omega, by omega, by go_num, by rw [Nat.add_sub_cancel, HF.out, HR.out]; exact A3.out⟩
              case measure => simp [intOf]; omega
      · obtain rfl : j = 8 := by omega
        have VS := HA.out.2.2.1.slice
        obtain ⟨A, c, rfl⟩ := VS
        obtain ⟨⟨⟨c0, c1, c2, c3⟩, f0, f1, f2, f3⟩, ⟨⟨d0, d1, d2, d3⟩, _⟩, ho, hbl, hp⟩ := HA.out
        have HO := Lib.hid ho
        have HBL := Lib.hid hbl
        have HP := Lib.hid hp
        clear ho hbl hp
        go_wp2_with fail
        (try simp only [Exit.inBlock, Exit.then])
        refine bodyPost_ret (results_view2 (a := .bool true) (b := .int .i64 e0) (c := .slice A (recsN s (8 - 1)).length c) (d := .int .i64 (freeN s (8 - 1) : Int)) rfl rfl (by go_simp) (by go_simp) (by go_simp) (by go_simp)) rfl ?_
        exact scan_end hs HG.out.1 HG.out.2 HO.out HBL.out HP.out _ _ _ _
  · have HG := Lib.hid (scan_bad hs hG hE hgd)
    clear hG hE
    by_cases hte0 : te = 0
    · have hk0 : ¬ k = 0 := fun h => hgd ⟨hte0, h⟩
      have hk1 : (k == 0) = false := by rw [beq_eq_false_iff_ne]; exact hk0
      subst hte0
      clear hgd
      go_enter Try.func26, Try.ntmps26
      go_wp2_with fail
      with_reducible refine (T0.out _).mono ?_
      rintro e w1 ⟨rfl, hb⟩
      have Z1 := Lib.hid (Bl.alloc (Bl.then (Bl.alloc (Bl.alloc (Below.refl _ _) _) _) hb) (Obj.cells #[.int .i64 k, .int .i64 e0, .string key, .string rv] 23))
      have Z2 := Lib.hid (Bx.below (Bx.below (Bx.below (Bx.new w (.bool false) (.int .i64 0) (.slice none 0 0) (.int .i64 0) 51) (Bl.alloc (Below.refl _ _) _)) hb) (Bl.alloc (Below.refl _ _) (Obj.cells #[.int .i64 k, .int .i64 e0, .string key, .string rv] 23)))
      have Z4 := Lib.hid (Bx.below (Bx.below (Bx.new1 w _ (.bool false) (.int .i64 0) (.slice none 0 0) (.int .i64 0) 51) hb) (Bl.alloc (Below.refl _ _) (Obj.cells #[.int .i64 k, .int .i64 e0, .string key, .string rv] 23)))
      clear hb
      obtain ⟨⟨c0, c1, c2, c3⟩, f0, f1, f2, f3⟩ := Z4.out
      obtain ⟨⟨r0, r1, r2, r3⟩, _⟩ := Bx.new w1 (.int .i64 k) (.int .i64 e0) (.string key) (.string rv) 23
      go_wp2_with fail
      have Y2 := Lib.hid (show Bx ((w1.alloc (Obj.cells #[.int .i64 k, .int .i64 e0, .string key, .string rv] 23)).setCell ⟨w.heap.size + 1, 3, none⟩ (.int .i64 1)) w.heap.size (.bool false) (.int .i64 0) (.slice none 0 0) (.int .i64 0) from Bx.far Z2.out (by omega) (.int .i64 1))
      have Y4 := Lib.hid (show Bx ((w1.alloc (Obj.cells #[.int .i64 k, .int .i64 e0, .string key, .string rv] 23)).setCell ⟨w.heap.size + 1, 3, none⟩ (.int .i64 1)) (w.heap.size + 1) (.bool false) (.int .i64 0) (.slice none 0 0) (.int .i64 1) from Bx.set3 Z4.out (.int .i64 1))
      have Y1 := Lib.hid (show Below w.heap.size w ((w1.alloc (Obj.cells #[.int .i64 k, .int .i64 e0, .string key, .string rv] 23)).setCell ⟨w.heap.size + 1, 3, none⟩ (.int .i64 1)) from Z1.out.setCell (p := ⟨w.heap.size + 1, 3, none⟩) (by show _ ≤ w.heap.size + 1; omega) (.int .i64 1))
      clear c0 c1 c2 c3 f0 f1 f2 f3 r0 r1 r2 r3 Z1 Z2 Z4
      generalize (w1.alloc (Obj.cells #[.int .i64 k, .int .i64 e0, .string key, .string rv] 23)).setCell ⟨w.heap.size + 1, 3, none⟩ (.int .i64 1) = W0 at *
      obtain ⟨B, hB⟩ : ∃ B, W0.heap.size = B := ⟨_, rfl⟩
      have A0 : SAt w B w.heap.size (w.heap.size + 1) false 0 (freeN s (1 - 1)) (recsN s (1 - 1)) (.slice none 0 0) W0 := ⟨Y2.out, Y4.out, Own.nil _ _ _ _, Y1.out, by have := Y2.out.lt; omega, by have := Y4.out.lt; omega, by omega, Nat.le_refl _, by omega⟩
      replace A0 := Lib.hid A0
      clear Y1 Y2 Y4 hB
      go_loopw [7] (fun i wr => ∃ (j : Nat) (v : Value), 1 ≤ j ∧ j ≤ 8 ∧ i = .int .i64 j ∧ SAt w B w.heap.size (w.heap.size + 1) false 0 (freeN s (j - 1)) (recsN s (j - 1)) v wr) (fun i _ => (8 - intOf i).toNat)
      case atStart => exact ⟨1, .slice none 0 0, by omega, by omega, rfl, A0.out⟩
      case round =>
        obtain ⟨j, v, h1, h8, rfl, hA⟩ := hrel
        have HA := Lib.hid hA
        clear hA A0
        by_cases hlt : j < 8
        · have hlt2 : (j : Int) < 8 := by omega
          have hj1 : (1 : Int) ≤ (j : Int) := by omega
          obtain ⟨u, hu⟩ : ∃ u, slotB s j = u := ⟨_, rfl⟩
          have zu : u.size = 64 := by rw [← hu]; exact slotB_size hs hlt
          obtain ⟨a, ha⟩ : ∃ a, 64 * j = a := ⟨_, rfl⟩
          obtain ⟨b, hb⟩ : ∃ b, a + 64 = b := ⟨_, rfl⟩
          have i1 : (64 : Int) * (j : Int) = (a : Int) := by omega
          have i2 : (a : Int) + 64 = (b : Int) := by omega
          have i3 : IntKind.i64.wrap (a : Int) = (a : Int) := wrap_i64_small (by omega) (by omega)
          have i4 : IntKind.i64.wrap (b : Int) = (b : Int) := wrap_i64_small (by omega) (by omega)
          have i5 : (a : Int) ≤ (b : Int) := by omega
          have i6 : (b : Int) ≤ 512 := by omega
          have i7 : a ≤ b := by omega
          have i8 : b ≤ 512 := by omega
          have hue : s.extract a b = u := by rw [← hu, slotB, ha, hb]
          clear ha hb
          have HBL := Lib.hid (fun w => rblankS_any u (by omega) w)
          have hT := fun w => rgetr_any u _ _ (tell_ans u) w
          obtain ⟨r, hr⟩ : ∃ r, tellR u = r := ⟨_, rfl⟩
          obtain ⟨te, hte⟩ : ∃ r, tellE u = r := ⟨_, rfl⟩
          rw [hr, hte] at hT
          have hi := isR_iff u
          rw [hr, hte] at hi
          have hlen := recsN_len s (j - 1)
          by_cases hrec : te = 0 ∧ r.k ≠ 0
          · have HR := Lib.hid (recsN_yes h1 (by rw [hu]; exact hi.2 hrec))
            rw [hu, hr] at HR
            obtain ⟨rfl, hk0⟩ := hrec
            obtain ⟨k, e0, key, rv⟩ := r
            change ∀ w : World, Calls Try.prog 16 #[.string u] w fun e w' => e = .returned (.tuple #[.agg #[.int .i64 k, .int .i64 e0, .string key, .string rv], .int .i64 0]) ∧ Below w.heap.size w w' at hT
            simp only at hk0
            have HT := Lib.hid hT
            clear hT hr hte hi
            have hk1 : (k != 0) = true := by rw [bne_iff_ne]; exact hk0
            go_wp2_with fail
            with_reducible refine (HT.out _).mono ?_
            rintro e w1 ⟨rfl, hb⟩
            have A1 := Lib.hid ((HA.out.below hb).alloc (Obj.cells #[.int .i64 k, .int .i64 e0, .string key, .string rv] 23))
            clear hb HA
            obtain ⟨_, ⟨⟨x0, x1, x2, x3⟩, _⟩, _⟩ := A1.out
            obtain ⟨A, c, rfl⟩ := A1.out.2.2.1.slice
            go_wp2_with (at_builtin; (refine appO B rfl (.tmp 57) (.tmp 59) 41 23 (.agg #[.int .i64 0, .int .i64 0, .string ⟨#[]⟩, .string ⟨#[]⟩]) 4 48 rfl Try.underlying41 infoRec rfl (by decide) (by decide) _ (recsN s (j - 1)).length (flat (recsN s (j - 1))) rfl (some ⟨w1.heap.size + 1, 0, none⟩) 1 1 [.int .i64 k, .int .i64 e0, .string key, .string rv] rfl rfl (cellsR_one ⟨k, e0, key, rv⟩) (fun h => by cases h) (box4 (Bx.new1 w1 _ _ _ _ _ _)) (A1.out.2.2.1.alloc _) (Nat.le_trans A1.out.2.2.2.2.2.2.1 (Bl.alloc (Below.refl _ _) _).size) (by omega) ?_; intro v1 w2 ho hg ha; obtain ⟨A', c', rfl⟩ := ho.slice; have A2 := Lib.hid (SAt.appended (r := ⟨k, e0, key, rv⟩) (A1.out.alloc _) ho hg); obtain ⟨⟨c0, c1, c2, c3⟩, f0, f1, f2, f3⟩ := Bx.grown (A1.out.alloc (Obj.cells #[.int .i64 k, .int .i64 e0, .string key, .string rv] 23)).2.1 hg (A1.out.2.2.1.not_block A1.out.2.2.2.2.2.1); clear ho hg ha x0 x1 x2 x3))
            clear A1
            cases hbl : blankB u
            · have HF := Lib.hid (freeN_no h1 (by rw [hu]; exact hbl))
              rw [hbl] at HBL
              go_wp2_with fail
              with_reducible refine (HBL.out _).mono ?_
              rintro e w3 ⟨rfl, rfl⟩
              have A3 := A2
              clear A2
              obtain ⟨_, ⟨⟨x0, x1, x2, x3⟩, y0, y1, y2, y3⟩, _⟩ := A3.out
              have A4 := Lib.hid (A3.out.free ((j : Int) + 1))
              clear A3
              go_wp2_with fail
              go_roundw
              case rel => exact ⟨j + 1, .slice A' _ c', by omega, by omega, by go_num, by rw [Nat.add_sub_cancel, HF.out, HR.out]; exact A4.out⟩
              case measure => simp [intOf]; omega
            · have HF := Lib.hid (freeN_yes h1 (by rw [hu]; exact hbl))
              rw [hbl] at HBL
              go_wp2_with fail
              with_reducible refine (HBL.out _).mono ?_
              rintro e w3 ⟨rfl, rfl⟩
              have A3 := A2
              clear A2
              go_wp2_with fail
              go_roundw
              case rel => exact ⟨j + 1, .slice A' _ c', by omega, by omega, by go_num, by rw [Nat.add_sub_cancel, HF.out, HR.out]; exact A3.out⟩
              case measure => simp [intOf]; omega
          · have HR := Lib.hid (recsN_no h1 (by rw [hu]; exact fun h => hrec (hi.1 h)))
            obtain ⟨k, e0, key, rv⟩ := r
            change ∀ w : World, Calls Try.prog 16 #[.string u] w fun e w' => e = .returned (.tuple #[.agg #[.int .i64 k, .int .i64 e0, .string key, .string rv], .int .i64 te]) ∧ Below w.heap.size w w' at hT
            simp only at hrec
            have HT := Lib.hid hT
            clear hT hr hte hi
            by_cases hte0 : te = 0
            · have hk0 : k = 0 := Classical.byContradiction fun h => hrec ⟨hte0, h⟩
              subst hte0 hk0
              clear hrec
              go_wp2_with fail
              with_reducible refine (HT.out _).mono ?_
              rintro e w1 ⟨rfl, hb⟩
              have A2 := Lib.hid ((HA.out.below hb).alloc (Obj.cells #[.int .i64 0, .int .i64 e0, .string key, .string rv] 23))
              clear hb HA
              cases hbl : blankB u
              · have HF := Lib.hid (freeN_no h1 (by rw [hu]; exact hbl))
                rw [hbl] at HBL
                go_wp2_with fail
                with_reducible refine (HBL.out _).mono ?_
                rintro e w3 ⟨rfl, rfl⟩
                have A3 := A2
                clear A2
                obtain ⟨_, ⟨⟨x0, x1, x2, x3⟩, y0, y1, y2, y3⟩, _⟩ := A3.out
                have A4 := Lib.hid (A3.out.free ((j : Int) + 1))
                clear A3
                go_wp2_with fail
                go_roundw
                case rel => exact ⟨j + 1, v, by omega, by omega, by go_num, by rw [Nat.add_sub_cancel, HF.out, HR.out]; exact A4.out⟩
                case measure => simp [intOf]; omega
              · have HF := Lib.hid (freeN_yes h1 (by rw [hu]; exact hbl))
                rw [hbl] at HBL
                go_wp2_with fail
                with_reducible refine (HBL.out _).mono ?_
                rintro e w3 ⟨rfl, rfl⟩
                have A3 := A2
                clear A2
                go_wp2_with fail
                go_roundw
                case rel => exact ⟨j + 1, v, by omega, by omega, by go_num, by rw [Nat.add_sub_cancel, HF.out, HR.out]; exact A3.out⟩
                case measure => simp [intOf]; omega
            · have ht1 : (te == 0) = false := by rw [beq_eq_false_iff_ne]; exact hte0
              clear hrec
              go_wp2_with fail
              with_reducible refine (HT.out _).mono ?_
              rintro e w1 ⟨rfl, hb⟩
              have A2 := Lib.hid ((HA.out.below hb).alloc (Obj.cells #[.int .i64 k, .int .i64 e0, .string key, .string rv] 23))
              clear hb HA
              cases hbl : blankB u
              · have HF := Lib.hid (freeN_no h1 (by rw [hu]; exact hbl))
                rw [hbl] at HBL
                go_wp2_with fail
                with_reducible refine (HBL.out _).mono ?_
                rintro e w3 ⟨rfl, rfl⟩
                have A3 := A2
                clear A2
                obtain ⟨_, ⟨⟨x0, x1, x2, x3⟩, y0, y1, y2, y3⟩, _⟩ := A3.out
                have A4 := Lib.hid (A3.out.free ((j : Int) + 1))
                clear A3
                go_wp2_with fail
                go_roundw
                case rel => exact ⟨j + 1, v, by omega, by omega, by go_num, by rw [Nat.add_sub_cancel, HF.out, HR.out]; exact A4.out⟩
                case measure => simp [intOf]; omega
              · have HF := Lib.hid (freeN_yes h1 (by rw [hu]; exact hbl))
                rw [hbl] at HBL
                go_wp2_with fail
                with_reducible refine (HBL.out _).mono ?_
                rintro e w3 ⟨rfl, rfl⟩
                have A3 := A2
                clear A2
                go_wp2_with fail
                go_roundw
                case rel => exact ⟨j + 1, v, by omega, by omega, by go_num, by rw [Nat.add_sub_cancel, HF.out, HR.out]; exact A3.out⟩
                case measure => simp [intOf]; omega
        · obtain rfl : j = 8 := by omega
          have VS := HA.out.2.2.1.slice
          obtain ⟨A, c, rfl⟩ := VS
          obtain ⟨⟨⟨c0, c1, c2, c3⟩, f0, f1, f2, f3⟩, ⟨⟨d0, d1, d2, d3⟩, _⟩, ho, hbl, hp⟩ := HA.out
          have HO := Lib.hid ho
          have HBL := Lib.hid hbl
          have HP := Lib.hid hp
          clear ho hbl hp
          go_wp2_with fail
          (try simp only [Exit.inBlock, Exit.then])
          refine bodyPost_ret (results_view2 (a := .bool false) (b := .int .i64 0) (c := .slice A (recsN s (8 - 1)).length c) (d := .int .i64 (freeN s (8 - 1) : Int)) rfl rfl (by go_simp) (by go_simp) (by go_simp) (by go_simp)) rfl ?_
          exact scan_end hs HG.out.1 HG.out.2 HO.out HBL.out HP.out _ _ _ _
    · have ht1 : (te == 0) = false := by rw [beq_eq_false_iff_ne]; exact hte0
      clear hgd
      go_enter Try.func26, Try.ntmps26
      go_wp2_with fail
      with_reducible refine (T0.out _).mono ?_
      rintro e w1 ⟨rfl, hb⟩
      have Z1 := Lib.hid (Bl.alloc (Bl.then (Bl.alloc (Bl.alloc (Below.refl _ _) _) _) hb) (Obj.cells #[.int .i64 k, .int .i64 e0, .string key, .string rv] 23))
      have Z2 := Lib.hid (Bx.below (Bx.below (Bx.below (Bx.new w (.bool false) (.int .i64 0) (.slice none 0 0) (.int .i64 0) 51) (Bl.alloc (Below.refl _ _) _)) hb) (Bl.alloc (Below.refl _ _) (Obj.cells #[.int .i64 k, .int .i64 e0, .string key, .string rv] 23)))
      have Z4 := Lib.hid (Bx.below (Bx.below (Bx.new1 w _ (.bool false) (.int .i64 0) (.slice none 0 0) (.int .i64 0) 51) hb) (Bl.alloc (Below.refl _ _) (Obj.cells #[.int .i64 k, .int .i64 e0, .string key, .string rv] 23)))
      clear hb
      obtain ⟨⟨c0, c1, c2, c3⟩, f0, f1, f2, f3⟩ := Z4.out
      obtain ⟨⟨r0, r1, r2, r3⟩, _⟩ := Bx.new w1 (.int .i64 k) (.int .i64 e0) (.string key) (.string rv) 23
      go_wp2_with fail
      have Y2 := Lib.hid (show Bx ((w1.alloc (Obj.cells #[.int .i64 k, .int .i64 e0, .string key, .string rv] 23)).setCell ⟨w.heap.size + 1, 3, none⟩ (.int .i64 1)) w.heap.size (.bool false) (.int .i64 0) (.slice none 0 0) (.int .i64 0) from Bx.far Z2.out (by omega) (.int .i64 1))
      have Y4 := Lib.hid (show Bx ((w1.alloc (Obj.cells #[.int .i64 k, .int .i64 e0, .string key, .string rv] 23)).setCell ⟨w.heap.size + 1, 3, none⟩ (.int .i64 1)) (w.heap.size + 1) (.bool false) (.int .i64 0) (.slice none 0 0) (.int .i64 1) from Bx.set3 Z4.out (.int .i64 1))
      have Y1 := Lib.hid (show Below w.heap.size w ((w1.alloc (Obj.cells #[.int .i64 k, .int .i64 e0, .string key, .string rv] 23)).setCell ⟨w.heap.size + 1, 3, none⟩ (.int .i64 1)) from Z1.out.setCell (p := ⟨w.heap.size + 1, 3, none⟩) (by show _ ≤ w.heap.size + 1; omega) (.int .i64 1))
      clear c0 c1 c2 c3 f0 f1 f2 f3 r0 r1 r2 r3 Z1 Z2 Z4
      generalize (w1.alloc (Obj.cells #[.int .i64 k, .int .i64 e0, .string key, .string rv] 23)).setCell ⟨w.heap.size + 1, 3, none⟩ (.int .i64 1) = W0 at *
      obtain ⟨B, hB⟩ : ∃ B, W0.heap.size = B := ⟨_, rfl⟩
      have A0 : SAt w B w.heap.size (w.heap.size + 1) false 0 (freeN s (1 - 1)) (recsN s (1 - 1)) (.slice none 0 0) W0 := ⟨Y2.out, Y4.out, Own.nil _ _ _ _, Y1.out, by have := Y2.out.lt; omega, by have := Y4.out.lt; omega, by omega, Nat.le_refl _, by omega⟩
      replace A0 := Lib.hid A0
      clear Y1 Y2 Y4 hB
      go_loopw [7] (fun i wr => ∃ (j : Nat) (v : Value), 1 ≤ j ∧ j ≤ 8 ∧ i = .int .i64 j ∧ SAt w B w.heap.size (w.heap.size + 1) false 0 (freeN s (j - 1)) (recsN s (j - 1)) v wr) (fun i _ => (8 - intOf i).toNat)
      case atStart => exact ⟨1, .slice none 0 0, by omega, by omega, rfl, A0.out⟩
      case round =>
        obtain ⟨j, v, h1, h8, rfl, hA⟩ := hrel
        have HA := Lib.hid hA
        clear hA A0
        by_cases hlt : j < 8
        · have hlt2 : (j : Int) < 8 := by omega
          have hj1 : (1 : Int) ≤ (j : Int) := by omega
          obtain ⟨u, hu⟩ : ∃ u, slotB s j = u := ⟨_, rfl⟩
          have zu : u.size = 64 := by rw [← hu]; exact slotB_size hs hlt
          obtain ⟨a, ha⟩ : ∃ a, 64 * j = a := ⟨_, rfl⟩
          obtain ⟨b, hb⟩ : ∃ b, a + 64 = b := ⟨_, rfl⟩
          have i1 : (64 : Int) * (j : Int) = (a : Int) := by omega
          have i2 : (a : Int) + 64 = (b : Int) := by omega
          have i3 : IntKind.i64.wrap (a : Int) = (a : Int) := wrap_i64_small (by omega) (by omega)
          have i4 : IntKind.i64.wrap (b : Int) = (b : Int) := wrap_i64_small (by omega) (by omega)
          have i5 : (a : Int) ≤ (b : Int) := by omega
          have i6 : (b : Int) ≤ 512 := by omega
          have i7 : a ≤ b := by omega
          have i8 : b ≤ 512 := by omega
          have hue : s.extract a b = u := by rw [← hu, slotB, ha, hb]
          clear ha hb
          have HBL := Lib.hid (fun w => rblankS_any u (by omega) w)
          have hT := fun w => rgetr_any u _ _ (tell_ans u) w
          obtain ⟨r, hr⟩ : ∃ r, tellR u = r := ⟨_, rfl⟩
          obtain ⟨te, hte⟩ : ∃ r, tellE u = r := ⟨_, rfl⟩
          rw [hr, hte] at hT
          have hi := isR_iff u
          rw [hr, hte] at hi
          have hlen := recsN_len s (j - 1)
          by_cases hrec : te = 0 ∧ r.k ≠ 0
          · have HR := Lib.hid (recsN_yes h1 (by rw [hu]; exact hi.2 hrec))
            rw [hu, hr] at HR
            obtain ⟨rfl, hk0⟩ := hrec
            obtain ⟨k, e0, key, rv⟩ := r
            change ∀ w : World, Calls Try.prog 16 #[.string u] w fun e w' => e = .returned (.tuple #[.agg #[.int .i64 k, .int .i64 e0, .string key, .string rv], .int .i64 0]) ∧ Below w.heap.size w w' at hT
            simp only at hk0
            have HT := Lib.hid hT
            clear hT hr hte hi
            have hk1 : (k != 0) = true := by rw [bne_iff_ne]; exact hk0
            go_wp2_with fail
            with_reducible refine (HT.out _).mono ?_
            rintro e w1 ⟨rfl, hb⟩
            have A1 := Lib.hid ((HA.out.below hb).alloc (Obj.cells #[.int .i64 k, .int .i64 e0, .string key, .string rv] 23))
            clear hb HA
            obtain ⟨_, ⟨⟨x0, x1, x2, x3⟩, _⟩, _⟩ := A1.out
            obtain ⟨A, c, rfl⟩ := A1.out.2.2.1.slice
            go_wp2_with (at_builtin; (refine appO B rfl (.tmp 57) (.tmp 59) 41 23 (.agg #[.int .i64 0, .int .i64 0, .string ⟨#[]⟩, .string ⟨#[]⟩]) 4 48 rfl Try.underlying41 infoRec rfl (by decide) (by decide) _ (recsN s (j - 1)).length (flat (recsN s (j - 1))) rfl (some ⟨w1.heap.size + 1, 0, none⟩) 1 1 [.int .i64 k, .int .i64 e0, .string key, .string rv] rfl rfl (cellsR_one ⟨k, e0, key, rv⟩) (fun h => by cases h) (box4 (Bx.new1 w1 _ _ _ _ _ _)) (A1.out.2.2.1.alloc _) (Nat.le_trans A1.out.2.2.2.2.2.2.1 (Bl.alloc (Below.refl _ _) _).size) (by omega) ?_; intro v1 w2 ho hg ha; obtain ⟨A', c', rfl⟩ := ho.slice; have A2 := Lib.hid (SAt.appended (r := ⟨k, e0, key, rv⟩) (A1.out.alloc _) ho hg); obtain ⟨⟨c0, c1, c2, c3⟩, f0, f1, f2, f3⟩ := Bx.grown (A1.out.alloc (Obj.cells #[.int .i64 k, .int .i64 e0, .string key, .string rv] 23)).2.1 hg (A1.out.2.2.1.not_block A1.out.2.2.2.2.2.1); clear ho hg ha x0 x1 x2 x3))
            clear A1
            cases hbl : blankB u
            · have HF := Lib.hid (freeN_no h1 (by rw [hu]; exact hbl))
              rw [hbl] at HBL
              go_wp2_with fail
              with_reducible refine (HBL.out _).mono ?_
              rintro e w3 ⟨rfl, rfl⟩
              have A3 := A2
              clear A2
              obtain ⟨_, ⟨⟨x0, x1, x2, x3⟩, y0, y1, y2, y3⟩, _⟩ := A3.out
              have A4 := Lib.hid (A3.out.free ((j : Int) + 1))
              clear A3
              go_wp2_with fail
              go_roundw
              case rel => exact ⟨j + 1, .slice A' _ c', by omega, by omega, by go_num, by rw [Nat.add_sub_cancel, HF.out, HR.out]; exact A4.out⟩
              case measure => simp [intOf]; omega
            · have HF := Lib.hid (freeN_yes h1 (by rw [hu]; exact hbl))
              rw [hbl] at HBL
              go_wp2_with fail
              with_reducible refine (HBL.out _).mono ?_
              rintro e w3 ⟨rfl, rfl⟩
              have A3 := A2
              clear A2
              go_wp2_with fail
              go_roundw
              case rel => exact ⟨j + 1, .slice A' _ c', by omega, by omega, by go_num, by rw [Nat.add_sub_cancel, HF.out, HR.out]; exact A3.out⟩
              case measure => simp [intOf]; omega
          · have HR := Lib.hid (recsN_no h1 (by rw [hu]; exact fun h => hrec (hi.1 h)))
            obtain ⟨k, e0, key, rv⟩ := r
            change ∀ w : World, Calls Try.prog 16 #[.string u] w fun e w' => e = .returned (.tuple #[.agg #[.int .i64 k, .int .i64 e0, .string key, .string rv], .int .i64 te]) ∧ Below w.heap.size w w' at hT
            simp only at hrec
            have HT := Lib.hid hT
            clear hT hr hte hi
            by_cases hte0 : te = 0
            · have hk0 : k = 0 := Classical.byContradiction fun h => hrec ⟨hte0, h⟩
              subst hte0 hk0
              clear hrec
              go_wp2_with fail
              with_reducible refine (HT.out _).mono ?_
              rintro e w1 ⟨rfl, hb⟩
              have A2 := Lib.hid ((HA.out.below hb).alloc (Obj.cells #[.int .i64 0, .int .i64 e0, .string key, .string rv] 23))
              clear hb HA
              cases hbl : blankB u
              · have HF := Lib.hid (freeN_no h1 (by rw [hu]; exact hbl))
                rw [hbl] at HBL
                go_wp2_with fail
                with_reducible refine (HBL.out _).mono ?_
                rintro e w3 ⟨rfl, rfl⟩
                have A3 := A2
                clear A2
                obtain ⟨_, ⟨⟨x0, x1, x2, x3⟩, y0, y1, y2, y3⟩, _⟩ := A3.out
                have A4 := Lib.hid (A3.out.free ((j : Int) + 1))
                clear A3
                go_wp2_with fail
                go_roundw
                case rel => exact ⟨j + 1, v, by omega, by omega, by go_num, by rw [Nat.add_sub_cancel, HF.out, HR.out]; exact A4.out⟩
                case measure => simp [intOf]; omega
              · have HF := Lib.hid (freeN_yes h1 (by rw [hu]; exact hbl))
                rw [hbl] at HBL
                go_wp2_with fail
                with_reducible refine (HBL.out _).mono ?_
                rintro e w3 ⟨rfl, rfl⟩
                have A3 := A2
                clear A2
                go_wp2_with fail
                go_roundw
                case rel => exact ⟨j + 1, v, by omega, by omega, by go_num, by rw [Nat.add_sub_cancel, HF.out, HR.out]; exact A3.out⟩
                case measure => simp [intOf]; omega
            · have ht1 : (te == 0) = false := by rw [beq_eq_false_iff_ne]; exact hte0
              clear hrec
              go_wp2_with fail
              with_reducible refine (HT.out _).mono ?_
              rintro e w1 ⟨rfl, hb⟩
              have A2 := Lib.hid ((HA.out.below hb).alloc (Obj.cells #[.int .i64 k, .int .i64 e0, .string key, .string rv] 23))
              clear hb HA
              cases hbl : blankB u
              · have HF := Lib.hid (freeN_no h1 (by rw [hu]; exact hbl))
                rw [hbl] at HBL
                go_wp2_with fail
                with_reducible refine (HBL.out _).mono ?_
                rintro e w3 ⟨rfl, rfl⟩
                have A3 := A2
                clear A2
                obtain ⟨_, ⟨⟨x0, x1, x2, x3⟩, y0, y1, y2, y3⟩, _⟩ := A3.out
                have A4 := Lib.hid (A3.out.free ((j : Int) + 1))
                clear A3
                go_wp2_with fail
                go_roundw
                case rel => exact ⟨j + 1, v, by omega, by omega, by go_num, by rw [Nat.add_sub_cancel, HF.out, HR.out]; exact A4.out⟩
                case measure => simp [intOf]; omega
              · have HF := Lib.hid (freeN_yes h1 (by rw [hu]; exact hbl))
                rw [hbl] at HBL
                go_wp2_with fail
                with_reducible refine (HBL.out _).mono ?_
                rintro e w3 ⟨rfl, rfl⟩
                have A3 := A2
                clear A2
                go_wp2_with fail
                go_roundw
                case rel => exact ⟨j + 1, v, by omega, by omega, by go_num, by rw [Nat.add_sub_cancel, HF.out, HR.out]; exact A3.out⟩
                case measure => simp [intOf]; omega
        · obtain rfl : j = 8 := by omega
          have VS := HA.out.2.2.1.slice
          obtain ⟨A, c, rfl⟩ := VS
          obtain ⟨⟨⟨c0, c1, c2, c3⟩, f0, f1, f2, f3⟩, ⟨⟨d0, d1, d2, d3⟩, _⟩, ho, hbl, hp⟩ := HA.out
          have HO := Lib.hid ho
          have HBL := Lib.hid hbl
          have HP := Lib.hid hp
          clear ho hbl hp
          go_wp2_with fail
          (try simp only [Exit.inBlock, Exit.then])
          refine bodyPost_ret (results_view2 (a := .bool false) (b := .int .i64 0) (c := .slice A (recsN s (8 - 1)).length c) (d := .int .i64 (freeN s (8 - 1) : Int)) rfl rfl (by go_simp) (by go_simp) (by go_simp) (by go_simp)) rfl ?_
          exact scan_end hs HG.out.1 HG.out.2 HO.out HBL.out HP.out _ _ _ _
end Go.Proofs.Ytgfldfkgialdlaa
