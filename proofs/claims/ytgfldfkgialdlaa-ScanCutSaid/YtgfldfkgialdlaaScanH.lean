/- scan: the program's Scan. -/
import Derived.Test.YtgfldfkgialdlaaScanE
namespace Go.Proofs.Ytgfldfkgialdlaa
set_option linter.unusedVariables false
set_option linter.unusedSimpArgs false
open Go.RowKit

set_option maxRecDepth 100000 in
set_option maxHeartbeats 4000000 in
theorem scan_yes (s : ByteArray) (hs : s.size = 512) (w : World) : Calls Try.prog 25 #[.string s] w (ScanPost w s) := by
  obtain ⟨u0, hu0⟩ : ∃ u, slotB s 0 = u := ⟨_, rfl⟩
  have hK := fun w => slot_zero s hs w
  rw [hu0] at hK
  have hT := fun w => getr_any u0 _ _ (tell_ans u0) w
  obtain ⟨r, hr⟩ : ∃ r, tellR u0 = r := ⟨_, rfl⟩
  obtain ⟨te, hte⟩ : ∃ r, tellE u0 = r := ⟨_, rfl⟩
  rw [hr, hte] at hT
  have hG : goodS s = decide (te = 0 ∧ r.k = 0) := by rw [goodS, hu0, hr, hte]
  have hE : epochS s = if goodS s = true then r.e else 0 := by rw [epochS, hu0, hr]
  obtain ⟨k, e0, key, rv⟩ := r
  change ∀ w : World, Calls Try.prog 15 #[.string u0] w fun e w' => e = .returned (.tuple #[.agg #[.int .i64 k, .int .i64 e0, .string key, .string rv], .int .i64 te]) ∧ Below w.heap.size w w' at hT
  simp only at hG hE
  have K0 := Lib.hid hK
  have T0 := Lib.hid hT
  clear hK hT hr hte hu0
  by_cases hgd : te = 0 ∧ k = 0
  · have HG := Lib.hid (scan_good hs hG hE hgd)
    clear hG hE
    obtain ⟨rfl, rfl⟩ := hgd
    go_enter Try.func25, Try.ntmps25
    go_wp2_with fail
    with_reducible refine (K0.out _).mono ?_
    rintro e w' ⟨rfl, rfl⟩
    go_wp2_with fail
    with_reducible refine (T0.out _).mono ?_
    rintro e w1 ⟨rfl, hb⟩
    have B1 := Lib.hid (Bl.then (Bl.alloc (Bl.alloc (Below.refl _ _) _) _) hb)
    have X2 := Lib.hid (Bx.below (Bx.below (Bx.new w (.bool false) (.int .i64 0) (.slice none 0 0) (.int .i64 0) 51) (Bl.alloc (Below.refl _ _) _)) hb)
    have X4 := Lib.hid (Bx.below (Bx.new1 w _ (.bool false) (.int .i64 0) (.slice none 0 0) (.int .i64 1) 51) hb)
    clear hb
    go_wp2_with fail
    have B2 := Lib.hid (Bl.alloc B1.out (Obj.cells #[.int .i64 0, .int .i64 e0, .string key, .string rv] 23))
    have Y2 := Lib.hid (Bx.below X2.out (Bl.alloc (Below.refl _ _) (Obj.cells #[.int .i64 0, .int .i64 e0, .string key, .string rv] 23)))
    have Y4 := Lib.hid (Bx.below X4.out (Bl.alloc (Below.refl _ _) (Obj.cells #[.int .i64 0, .int .i64 e0, .string key, .string rv] 23)))
    obtain ⟨⟨_, r1, _, _⟩, _⟩ := Bx.new w1 (.int .i64 0) (.int .i64 e0) (.string key) (.string rv) 23
    generalize w1.alloc (Obj.cells #[.int .i64 0, .int .i64 e0, .string key, .string rv] 23) = W at *
    generalize w1.heap.size = g5 at *
    clear X2 X4 B1
    obtain ⟨⟨c0, c1, c2, c3⟩, f0, f1, f2, f3⟩ := Y4.out
    go_region
    have Z2 := Lib.hid (show Bx ((W.setCell ⟨w.heap.size + 1, 0, none⟩ (.bool true)).setCell ⟨w.heap.size + 1, 1, none⟩ (.int .i64 e0)).drew w.heap.size (.bool false) (.int .i64 0) (.slice none 0 0) (.int .i64 0) from Bx.below (Bx.far (Bx.far Y2.out (by omega) (.bool true)) (by omega) (.int .i64 e0)) (Bl.drewN (Below.refl _ _) 1))
    have Z4 := Lib.hid (show Bx ((W.setCell ⟨w.heap.size + 1, 0, none⟩ (.bool true)).setCell ⟨w.heap.size + 1, 1, none⟩ (.int .i64 e0)).drew (w.heap.size + 1) (.bool true) (.int .i64 e0) (.slice none 0 0) (.int .i64 1) from Bx.below (Bx.set1 (Bx.set0 Y4.out (.bool true)) (.int .i64 e0)) (Bl.drewN (Below.refl _ _) 1))
    have Z1 := Lib.hid (show Below w.heap.size w ((W.setCell ⟨w.heap.size + 1, 0, none⟩ (.bool true)).setCell ⟨w.heap.size + 1, 1, none⟩ (.int .i64 e0)).drew from Bl.drewN ((B2.out.setCell (p := ⟨w.heap.size + 1, 0, none⟩) (by show _ ≤ w.heap.size + 1; omega) (.bool true)).setCell (p := ⟨w.heap.size + 1, 1, none⟩) (by show _ ≤ w.heap.size + 1; omega) (.int .i64 e0)) 1)
    clear c0 c1 c2 c3 f0 f1 f2 f3 r1 Y2 Y4 B2
    go_wp2_with fail
    generalize ((W.setCell ⟨w.heap.size + 1, 0, none⟩ (.bool true)).setCell ⟨w.heap.size + 1, 1, none⟩ (.int .i64 e0)).drew = W0 at *
    obtain ⟨B, hB⟩ : ∃ B, W0.heap.size = B := ⟨_, rfl⟩
    have A0 : SAt w B w.heap.size (w.heap.size + 1) true e0 (freeN s (1 - 1)) (recsN s (1 - 1)) (.slice none 0 0) W0 := ⟨Z2.out, Z4.out, Own.nil _ _ _ _, Z1.out, by have := Z2.out.lt; omega, by have := Z4.out.lt; omega, by omega, Nat.le_refl _, by omega⟩
    replace A0 := Lib.hid A0
    clear Z1 Z2 Z4 hB
    go_loopw [7] (fun i wr => ∃ (j : Nat) (v : Value), 1 ≤ j ∧ j ≤ 8 ∧ i = .int .i64 j ∧ SAt w B w.heap.size (w.heap.size + 1) true e0 (freeN s (j - 1)) (recsN s (j - 1)) v wr) (fun i _ => (8 - intOf i).toNat)
    case atStart => exact ⟨1, .slice none 0 0, by omega, by omega, rfl, A0.out⟩
    case round =>
      obtain ⟨j, v, h1, h8, rfl, hA⟩ := hrel
      have HA := Lib.hid hA
      clear hA A0
      by_cases hlt : j < 8
      · have hlt2 : (j : Int) < 8 := by omega
        have hj1 : (1 : Int) ≤ (j : Int) := by omega
        obtain ⟨u, hu⟩ : ∃ u, slotB s j = u := ⟨_, rfl⟩
        have zu : u.size = 64 := by rw [← hu]; exact slotB_size hs hlt
        have HK := Lib.hid (show ∀ w : World, Calls Try.prog 48 #[.string s, .int .i64 (j : Int)] w fun e w' => e = .returned (.string u) ∧ w = w' from fun w => by rw [← hu]; exact slot_any s j (64 * j) _ rfl rfl (by omega) (by omega) w)
        have HBL := Lib.hid (fun w => blankS_any u (by omega) w)
        have hT := fun w => getr_any u _ _ (tell_ans u) w
        obtain ⟨r, hr⟩ : ∃ r, tellR u = r := ⟨_, rfl⟩
        obtain ⟨te, hte⟩ : ∃ r, tellE u = r := ⟨_, rfl⟩
        rw [hr, hte] at hT
        have hi := isR_iff u
        rw [hr, hte] at hi
        have hlen := recsN_len s (j - 1)
        by_cases hrec : te = 0 ∧ r.k ≠ 0
        · have HR := Lib.hid (recsN_yes h1 (by rw [hu]; exact hi.2 hrec))
          rw [hu, hr] at HR
          obtain ⟨rfl, hk0⟩ := hrec
          obtain ⟨k, e0, key, rv⟩ := r
          change ∀ w : World, Calls Try.prog 15 #[.string u] w fun e w' => e = .returned (.tuple #[.agg #[.int .i64 k, .int .i64 e0, .string key, .string rv], .int .i64 0]) ∧ Below w.heap.size w w' at hT
          simp only at hk0
          have HT := Lib.hid hT
          clear hT hr hte hi
          have hk1 : (k != 0) = true := by rw [bne_iff_ne]; exact hk0
          go_wp2_with fail
          with_reducible refine (HK.out _).mono ?_
          rintro e w' ⟨rfl, rfl⟩
          go_wp2_with fail
          with_reducible refine (HT.out _).mono ?_
          rintro e w1 ⟨rfl, hb⟩
          have A1 := Lib.hid ((HA.out.below hb).alloc (Obj.cells #[.int .i64 k, .int .i64 e0, .string key, .string rv] 23))
          clear hb HA
          obtain ⟨_, ⟨⟨x0, x1, x2, x3⟩, _⟩, _⟩ := A1.out
          obtain ⟨A, c, rfl⟩ := A1.out.2.2.1.slice
          go_wp2_with (at_builtin; (refine appO B rfl (.tmp 53) (.tmp 55) 41 23 (.agg #[.int .i64 0, .int .i64 0, .string ⟨#[]⟩, .string ⟨#[]⟩]) 4 48 rfl Try.underlying41 infoRec rfl (by decide) (by decide) _ (recsN s (j - 1)).length (flat (recsN s (j - 1))) rfl (some ⟨w1.heap.size + 1, 0, none⟩) 1 1 [.int .i64 k, .int .i64 e0, .string key, .string rv] rfl rfl (cellsR_one ⟨k, e0, key, rv⟩) (fun h => by cases h) (box4 (Bx.new1 w1 _ _ _ _ _ _)) (A1.out.2.2.1.alloc _) (Nat.le_trans A1.out.2.2.2.2.2.2.1 (Bl.alloc (Below.refl _ _) _).size) (by omega) ?_; intro v1 w2 ho hg ha; obtain ⟨A', c', rfl⟩ := ho.slice; have A2 := Lib.hid (SAt.appended (r := ⟨k, e0, key, rv⟩) (A1.out.alloc _) ho hg); obtain ⟨⟨c0, c1, c2, c3⟩, f0, f1, f2, f3⟩ := Bx.grown (A1.out.alloc (Obj.cells #[.int .i64 k, .int .i64 e0, .string key, .string rv] 23)).2.1 hg (A1.out.2.2.1.not_block A1.out.2.2.2.2.2.1); clear ho hg ha x0 x1 x2 x3))
          clear A1
          cases hbl : blankB u
          · have HF := Lib.hid (freeN_no h1 (by rw [hu]; exact hbl))
            rw [hbl] at HBL
            go_wp2_with fail
            with_reducible refine (HBL.out _).mono ?_
            rintro e w3 ⟨rfl, hb⟩
            have A3 := Lib.hid (A2.out.below hb)
            clear hb A2
            obtain ⟨_, ⟨⟨x0, x1, x2, x3⟩, y0, y1, y2, y3⟩, _⟩ := A3.out
            have A4 := Lib.hid (A3.out.free ((j : Int) + 1))
            clear A3
            go_wp2_with fail
            go_roundw
            case rel => exact ⟨j + 1, .slice A' _ c', by omega, by omega, by go_num, by rw [Nat.add_sub_cancel, HF.out, HR.out]; exact A4.out⟩
            case measure => simp [intOf]; omega
          · have HF := Lib.hid (freeN_yes h1 (by rw [hu]; exact hbl))
            rw [hbl] at HBL
            go_wp2_with fail
            with_reducible refine (HBL.out _).mono ?_
            rintro e w3 ⟨rfl, hb⟩
            have A3 := Lib.hid (A2.out.below hb)
            clear hb A2
            go_wp2_with fail
            go_roundw
            case rel => exact ⟨j + 1, .slice A' _ c', by omega, by omega, by go_num, by rw [Nat.add_sub_cancel, HF.out, HR.out]; exact A3.out⟩
            case measure => simp [intOf]; omega
        · have HR := Lib.hid (recsN_no h1 (by rw [hu]; exact fun h => hrec (hi.1 h)))
          obtain ⟨k, e0, key, rv⟩ := r
          change ∀ w : World, Calls Try.prog 15 #[.string u] w fun e w' => e = .returned (.tuple #[.agg #[.int .i64 k, .int .i64 e0, .string key, .string rv], .int .i64 te]) ∧ Below w.heap.size w w' at hT
          simp only at hrec
          have HT := Lib.hid hT
          clear hT hr hte hi
          by_cases hte0 : te = 0
          · have hk0 : k = 0 := Classical.byContradiction fun h => hrec ⟨hte0, h⟩
            subst hte0 hk0
            clear hrec
            go_wp2_with fail
            with_reducible refine (HK.out _).mono ?_
            rintro e w' ⟨rfl, rfl⟩
            go_wp2_with fail
            with_reducible refine (HT.out _).mono ?_
            rintro e w1 ⟨rfl, hb⟩
            have A2 := Lib.hid ((HA.out.below hb).alloc (Obj.cells #[.int .i64 0, .int .i64 e0, .string key, .string rv] 23))
            clear hb HA
            cases hbl : blankB u
            · have HF := Lib.hid (freeN_no h1 (by rw [hu]; exact hbl))
              rw [hbl] at HBL
              go_wp2_with fail
              with_reducible refine (HBL.out _).mono ?_
              rintro e w3 ⟨rfl, hb⟩
              have A3 := Lib.hid (A2.out.below hb)
              clear hb A2
              obtain ⟨_, ⟨⟨x0, x1, x2, x3⟩, y0, y1, y2, y3⟩, _⟩ := A3.out
              have A4 := Lib.hid (A3.out.free ((j : Int) + 1))
              clear A3
              go_wp2_with fail
              go_roundw
              case rel => exact ⟨j + 1, v, by omega, by omega, by go_num, by rw [Nat.add_sub_cancel, HF.out, HR.out]; exact A4.out⟩
              case measure => simp [intOf]; omega
            · have HF := Lib.hid (freeN_yes h1 (by rw [hu]; exact hbl))
              rw [hbl] at HBL
              go_wp2_with fail
              with_reducible refine (HBL.out _).mono ?_
              rintro e w3 ⟨rfl, hb⟩
              have A3 := Lib.hid (A2.out.below hb)
              clear hb A2
              go_wp2_with fail
              go_roundw
              case rel => exact ⟨j + 1, v, by omega, by omega, by go_num, by rw [Nat.add_sub_cancel, HF.out, HR.out]; exact A3.out⟩
              case measure => simp [intOf]; omega
          · have ht1 : (te == 0) = false := by rw [beq_eq_false_iff_ne]; exact hte0
            clear hrec
            go_wp2_with fail
            with_reducible refine (HK.out _).mono ?_
            rintro e w' ⟨rfl, rfl⟩
            go_wp2_with fail
            with_reducible refine (HT.out _).mono ?_
            rintro e w1 ⟨rfl, hb⟩
            have A2 := Lib.hid ((HA.out.below hb).alloc (Obj.cells #[.int .i64 k, .int .i64 e0, .string key, .string rv] 23))
            clear hb HA
            cases hbl : blankB u
            · have HF := Lib.hid (freeN_no h1 (by rw [hu]; exact hbl))
              rw [hbl] at HBL
              go_wp2_with fail
              with_reducible refine (HBL.out _).mono ?_
              rintro e w3 ⟨rfl, hb⟩
              have A3 := Lib.hid (A2.out.below hb)
              clear hb A2
              obtain ⟨_, ⟨⟨x0, x1, x2, x3⟩, y0, y1, y2, y3⟩, _⟩ := A3.out
              have A4 := Lib.hid (A3.out.free ((j : Int) + 1))
              clear A3
              go_wp2_with fail
              go_roundw
              case rel => exact ⟨j + 1, v, by omega, by omega, by go_num, by rw [Nat.add_sub_cancel, HF.out, HR.out]; exact A4.out⟩
              case measure => simp [intOf]; omega
            · have HF := Lib.hid (freeN_yes h1 (by rw [hu]; exact hbl))
              rw [hbl] at HBL
              go_wp2_with fail
              with_reducible refine (HBL.out _).mono ?_
              rintro e w3 ⟨rfl, hb⟩
              have A3 := Lib.hid (A2.out.below hb)
              clear hb A2
              go_wp2_with fail
              go_roundw
              case rel => exact ⟨j + 1, v, by omega, by omega, by go_num, by rw [Nat.add_sub_cancel, HF.out, HR.out]; exact A3.out⟩
              case measure => simp [intOf]; omega
      · obtain rfl : j = 8 := by omega
        have VS := HA.out.2.2.1.slice
        obtain ⟨A, c, rfl⟩ := VS
        obtain ⟨⟨⟨c0, c1, c2, c3⟩, f0, f1, f2, f3⟩, ⟨⟨d0, d1, d2, d3⟩, _⟩, ho, hbl, hp⟩ := HA.out
        have HO := Lib.hid ho
        have HBL := Lib.hid hbl
        have HP := Lib.hid hp
        clear ho hbl hp
        go_wp2_with fail
        (try simp only [Exit.inBlock, Exit.then])
        refine bodyPost_ret (results_view2 (a := .bool true) (b := .int .i64 e0) (c := .slice A (recsN s (8 - 1)).length c) (d := .int .i64 (freeN s (8 - 1) : Int)) rfl rfl (by go_simp) (by go_simp) (by go_simp) (by go_simp)) rfl ?_
        exact scan_end hs HG.out.1 HG.out.2 HO.out HBL.out HP.out _ _ _ _
  · have HG := Lib.hid (scan_bad hs hG hE hgd)
    clear hG hE
    go_enter Try.func25, Try.ntmps25
    go_wp2_with fail
    with_reducible refine (K0.out _).mono ?_
    rintro e w' ⟨rfl, rfl⟩
    go_wp2_with fail
    with_reducible refine (T0.out _).mono ?_
    rintro e w1 ⟨rfl, hb⟩
    have Z1 := Lib.hid (Bl.alloc (Bl.then (Bl.alloc (Bl.alloc (Below.refl _ _) _) _) hb) (Obj.cells #[.int .i64 k, .int .i64 e0, .string key, .string rv] 23))
    have Z2 := Lib.hid (Bx.below (Bx.below (Bx.below (Bx.new w (.bool false) (.int .i64 0) (.slice none 0 0) (.int .i64 0) 51) (Bl.alloc (Below.refl _ _) _)) hb) (Bl.alloc (Below.refl _ _) (Obj.cells #[.int .i64 k, .int .i64 e0, .string key, .string rv] 23)))
    have Z4 := Lib.hid (Bx.below (Bx.below (Bx.new1 w _ (.bool false) (.int .i64 0) (.slice none 0 0) (.int .i64 1) 51) hb) (Bl.alloc (Below.refl _ _) (Obj.cells #[.int .i64 k, .int .i64 e0, .string key, .string rv] 23)))
    have hq : ((te == 0) && (k == 0)) = false := by
      rw [Bool.eq_false_iff]
      intro h
      simp only [Bool.and_eq_true, beq_iff_eq] at h
      exact hgd h
    clear hb
    by_cases hte0 : te = 0
    · have hk0 : ¬ k = 0 := fun h => hgd ⟨hte0, h⟩
      have hk1 : (k == 0) = false := by rw [beq_eq_false_iff_ne]; exact hk0
      subst hte0
      go_wp2_with fail
      generalize w1.alloc (Obj.cells #[.int .i64 k, .int .i64 e0, .string key, .string rv] 23) = W0 at *
      obtain ⟨B, hB⟩ : ∃ B, W0.heap.size = B := ⟨_, rfl⟩
      have A0 : SAt w B w.heap.size (w.heap.size + 1) false 0 (freeN s (1 - 1)) (recsN s (1 - 1)) (.slice none 0 0) W0 := ⟨Z2.out, Z4.out, Own.nil _ _ _ _, Z1.out, by have := Z2.out.lt; omega, by have := Z4.out.lt; omega, by omega, Nat.le_refl _, by omega⟩
      replace A0 := Lib.hid A0
      clear Z1 Z2 Z4 hB hgd hq
      go_loopw [7] (fun i wr => ∃ (j : Nat) (v : Value), 1 ≤ j ∧ j ≤ 8 ∧ i = .int .i64 j ∧ SAt w B w.heap.size (w.heap.size + 1) false 0 (freeN s (j - 1)) (recsN s (j - 1)) v wr) (fun i _ => (8 - intOf i).toNat)
      case atStart => exact ⟨1, .slice none 0 0, by omega, by omega, rfl, A0.out⟩
      case round =>
        obtain ⟨j, v, h1, h8, rfl, hA⟩ := hrel
        have HA := Lib.hid hA
        clear hA A0
        by_cases hlt : j < 8
        · have hlt2 : (j : Int) < 8 := by omega
          have hj1 : (1 : Int) ≤ (j : Int) := by omega
          obtain ⟨u, hu⟩ : ∃ u, slotB s j = u := ⟨_, rfl⟩
          have zu : u.size = 64 := by rw [← hu]; exact slotB_size hs hlt
          have HK := Lib.hid (show ∀ w : World, Calls Try.prog 48 #[.string s, .int .i64 (j : Int)] w fun e w' => e = .returned (.string u) ∧ w = w' from fun w => by rw [← hu]; exact slot_any s j (64 * j) _ rfl rfl (by omega) (by omega) w)
          have HBL := Lib.hid (fun w => blankS_any u (by omega) w)
          have hT := fun w => getr_any u _ _ (tell_ans u) w
          obtain ⟨r, hr⟩ : ∃ r, tellR u = r := ⟨_, rfl⟩
          obtain ⟨te, hte⟩ : ∃ r, tellE u = r := ⟨_, rfl⟩
          rw [hr, hte] at hT
          have hi := isR_iff u
          rw [hr, hte] at hi
          have hlen := recsN_len s (j - 1)
          by_cases hrec : te = 0 ∧ r.k ≠ 0
          · have HR := Lib.hid (recsN_yes h1 (by rw [hu]; exact hi.2 hrec))
            rw [hu, hr] at HR
            obtain ⟨rfl, hk0⟩ := hrec
            obtain ⟨k, e0, key, rv⟩ := r
            change ∀ w : World, Calls Try.prog 15 #[.string u] w fun e w' => e = .returned (.tuple #[.agg #[.int .i64 k, .int .i64 e0, .string key, .string rv], .int .i64 0]) ∧ Below w.heap.size w w' at hT
            simp only at hk0
            have HT := Lib.hid hT
            clear hT hr hte hi
            have hk1 : (k != 0) = true := by rw [bne_iff_ne]; exact hk0
            go_wp2_with fail
            with_reducible refine (HK.out _).mono ?_
            rintro e w' ⟨rfl, rfl⟩
            go_wp2_with fail
            with_reducible refine (HT.out _).mono ?_
            rintro e w1 ⟨rfl, hb⟩
            have A1 := Lib.hid ((HA.out.below hb).alloc (Obj.cells #[.int .i64 k, .int .i64 e0, .string key, .string rv] 23))
            clear hb HA
            obtain ⟨_, ⟨⟨x0, x1, x2, x3⟩, _⟩, _⟩ := A1.out
            obtain ⟨A, c, rfl⟩ := A1.out.2.2.1.slice
            go_wp2_with (at_builtin; (refine appO B rfl (.tmp 53) (.tmp 55) 41 23 (.agg #[.int .i64 0, .int .i64 0, .string ⟨#[]⟩, .string ⟨#[]⟩]) 4 48 rfl Try.underlying41 infoRec rfl (by decide) (by decide) _ (recsN s (j - 1)).length (flat (recsN s (j - 1))) rfl (some ⟨w1.heap.size + 1, 0, none⟩) 1 1 [.int .i64 k, .int .i64 e0, .string key, .string rv] rfl rfl (cellsR_one ⟨k, e0, key, rv⟩) (fun h => by cases h) (box4 (Bx.new1 w1 _ _ _ _ _ _)) (A1.out.2.2.1.alloc _) (Nat.le_trans A1.out.2.2.2.2.2.2.1 (Bl.alloc (Below.refl _ _) _).size) (by omega) ?_; intro v1 w2 ho hg ha; obtain ⟨A', c', rfl⟩ := ho.slice; have A2 := Lib.hid (SAt.appended (r := ⟨k, e0, key, rv⟩) (A1.out.alloc _) ho hg); obtain ⟨⟨c0, c1, c2, c3⟩, f0, f1, f2, f3⟩ := Bx.grown (A1.out.alloc (Obj.cells #[.int .i64 k, .int .i64 e0, .string key, .string rv] 23)).2.1 hg (A1.out.2.2.1.not_block A1.out.2.2.2.2.2.1); clear ho hg ha x0 x1 x2 x3))
            clear A1
            cases hbl : blankB u
            · have HF := Lib.hid (freeN_no h1 (by rw [hu]; exact hbl))
              rw [hbl] at HBL
              go_wp2_with fail
              with_reducible refine (HBL.out _).mono ?_
              rintro e w3 ⟨rfl, hb⟩
              have A3 := Lib.hid (A2.out.below hb)
              clear hb A2
              obtain ⟨_, ⟨⟨x0, x1, x2, x3⟩, y0, y1, y2, y3⟩, _⟩ := A3.out
              have A4 := Lib.hid (A3.out.free ((j : Int) + 1))
              clear A3
              go_wp2_with fail
              go_roundw
              case rel => exact ⟨j + 1, .slice A' _ c', by omega, by omega, by go_num, by rw [Nat.add_sub_cancel, HF.out, HR.out]; exact A4.out⟩
              case measure => simp [intOf]; omega
            · have HF := Lib.hid (freeN_yes h1 (by rw [hu]; exact hbl))
              rw [hbl] at HBL
              go_wp2_with fail
              with_reducible refine (HBL.out _).mono ?_
              rintro e w3 ⟨rfl, hb⟩
              have A3 := Lib.hid (A2.out.below hb)
              clear hb A2
              go_wp2_with fail
              go_roundw
              case rel => exact ⟨j + 1, .slice A' _ c', by omega, by omega, by go_num, by rw [Nat.add_sub_cancel, HF.out, HR.out]; exact A3.out⟩
              case measure => simp [intOf]; omega
          · have HR := Lib.hid (recsN_no h1 (by rw [hu]; exact fun h => hrec (hi.1 h)))
            obtain ⟨k, e0, key, rv⟩ := r
            change ∀ w : World, Calls Try.prog 15 #[.string u] w fun e w' => e = .returned (.tuple #[.agg #[.int .i64 k, .int .i64 e0, .string key, .string rv], .int .i64 te]) ∧ Below w.heap.size w w' at hT
            simp only at hrec
            have HT := Lib.hid hT
            clear hT hr hte hi
            by_cases hte0 : te = 0
            · have hk0 : k = 0 := Classical.byContradiction fun h => hrec ⟨hte0, h⟩
              subst hte0 hk0
              clear hrec
              go_wp2_with fail
              with_reducible refine (HK.out _).mono ?_
              rintro e w' ⟨rfl, rfl⟩
              go_wp2_with fail
              with_reducible refine (HT.out _).mono ?_
              rintro e w1 ⟨rfl, hb⟩
              have A2 := Lib.hid ((HA.out.below hb).alloc (Obj.cells #[.int .i64 0, .int .i64 e0, .string key, .string rv] 23))
              clear hb HA
              cases hbl : blankB u
              · have HF := Lib.hid (freeN_no h1 (by rw [hu]; exact hbl))
                rw [hbl] at HBL
                go_wp2_with fail
                with_reducible refine (HBL.out _).mono ?_
                rintro e w3 ⟨rfl, hb⟩
                have A3 := Lib.hid (A2.out.below hb)
                clear hb A2
                obtain ⟨_, ⟨⟨x0, x1, x2, x3⟩, y0, y1, y2, y3⟩, _⟩ := A3.out
                have A4 := Lib.hid (A3.out.free ((j : Int) + 1))
                clear A3
                go_wp2_with fail
                go_roundw
                case rel => exact ⟨j + 1, v, by omega, by omega, by go_num, by rw [Nat.add_sub_cancel, HF.out, HR.out]; exact A4.out⟩
                case measure => simp [intOf]; omega
              · have HF := Lib.hid (freeN_yes h1 (by rw [hu]; exact hbl))
                rw [hbl] at HBL
                go_wp2_with fail
                with_reducible refine (HBL.out _).mono ?_
                rintro e w3 ⟨rfl, hb⟩
                have A3 := Lib.hid (A2.out.below hb)
                clear hb A2
                go_wp2_with fail
                go_roundw
                case rel => exact ⟨j + 1, v, by omega, by omega, by go_num, by rw [Nat.add_sub_cancel, HF.out, HR.out]; exact A3.out⟩
                case measure => simp [intOf]; omega
            · have ht1 : (te == 0) = false := by rw [beq_eq_false_iff_ne]; exact hte0
              clear hrec
              go_wp2_with fail
              with_reducible refine (HK.out _).mono ?_
              rintro e w' ⟨rfl, rfl⟩
              go_wp2_with fail
              with_reducible refine (HT.out _).mono ?_
              rintro e w1 ⟨rfl, hb⟩
              have A2 := Lib.hid ((HA.out.below hb).alloc (Obj.cells #[.int .i64 k, .int .i64 e0, .string key, .string rv] 23))
              clear hb HA
              cases hbl : blankB u
              · have HF := Lib.hid (freeN_no h1 (by rw [hu]; exact hbl))
                rw [hbl] at HBL
                go_wp2_with fail
                with_reducible refine (HBL.out _).mono ?_
                rintro e w3 ⟨rfl, hb⟩
                have A3 := Lib.hid (A2.out.below hb)
                clear hb A2
                obtain ⟨_, ⟨⟨x0, x1, x2, x3⟩, y0, y1, y2, y3⟩, _⟩ := A3.out
                have A4 := Lib.hid (A3.out.free ((j : Int) + 1))
                clear A3
                go_wp2_with fail
                go_roundw
                case rel => exact ⟨j + 1, v, by omega, by omega, by go_num, by rw [Nat.add_sub_cancel, HF.out, HR.out]; exact A4.out⟩
                case measure => simp [intOf]; omega
              · have HF := Lib.hid (freeN_yes h1 (by rw [hu]; exact hbl))
                rw [hbl] at HBL
                go_wp2_with fail
                with_reducible refine (HBL.out _).mono ?_
                rintro e w3 ⟨rfl, hb⟩
                have A3 := Lib.hid (A2.out.below hb)
                clear hb A2
                go_wp2_with fail
                go_roundw
                case rel => exact ⟨j + 1, v, by omega, by omega, by go_num, by rw [Nat.add_sub_cancel, HF.out, HR.out]; exact A3.out⟩
                case measure => simp [intOf]; omega
        · obtain rfl : j = 8 := by omega
          have VS := HA.out.2.2.1.slice
          obtain ⟨A, c, rfl⟩ := VS
          obtain ⟨⟨⟨c0, c1, c2, c3⟩, f0, f1, f2, f3⟩, ⟨⟨d0, d1, d2, d3⟩, _⟩, ho, hbl, hp⟩ := HA.out
          have HO := Lib.hid ho
          have HBL := Lib.hid hbl
          have HP := Lib.hid hp
          clear ho hbl hp
          go_wp2_with fail
          (try simp only [Exit.inBlock, Exit.then])
          refine bodyPost_ret (results_view2 (a := .bool false) (b := .int .i64 0) (c := .slice A (recsN s (8 - 1)).length c) (d := .int .i64 (freeN s (8 - 1) : Int)) rfl rfl (by go_simp) (by go_simp) (by go_simp) (by go_simp)) rfl ?_
          exact scan_end hs HG.out.1 HG.out.2 HO.out HBL.out HP.out _ _ _ _
    · have ht1 : (te == 0) = false := by rw [beq_eq_false_iff_ne]; exact hte0
      go_wp2_with fail
      generalize w1.alloc (Obj.cells #[.int .i64 k, .int .i64 e0, .string key, .string rv] 23) = W0 at *
      obtain ⟨B, hB⟩ : ∃ B, W0.heap.size = B := ⟨_, rfl⟩
      have A0 : SAt w B w.heap.size (w.heap.size + 1) false 0 (freeN s (1 - 1)) (recsN s (1 - 1)) (.slice none 0 0) W0 := ⟨Z2.out, Z4.out, Own.nil _ _ _ _, Z1.out, by have := Z2.out.lt; omega, by have := Z4.out.lt; omega, by omega, Nat.le_refl _, by omega⟩
      replace A0 := Lib.hid A0
      clear Z1 Z2 Z4 hB hgd hq
      go_loopw [7] (fun i wr => ∃ (j : Nat) (v : Value), 1 ≤ j ∧ j ≤ 8 ∧ i = .int .i64 j ∧ SAt w B w.heap.size (w.heap.size + 1) false 0 (freeN s (j - 1)) (recsN s (j - 1)) v wr) (fun i _ => (8 - intOf i).toNat)
      case atStart => exact ⟨1, .slice none 0 0, by omega, by omega, rfl, A0.out⟩
      case round =>
        obtain ⟨j, v, h1, h8, rfl, hA⟩ := hrel
        have HA := Lib.hid hA
        clear hA A0
        by_cases hlt : j < 8
        · have hlt2 : (j : Int) < 8 := by omega
          have hj1 : (1 : Int) ≤ (j : Int) := by omega
          obtain ⟨u, hu⟩ : ∃ u, slotB s j = u := ⟨_, rfl⟩
          have zu : u.size = 64 := by rw [← hu]; exact slotB_size hs hlt
          have HK := Lib.hid (show ∀ w : World, Calls Try.prog 48 #[.string s, .int .i64 (j : Int)] w fun e w' => e = .returned (.string u) ∧ w = w' from fun w => by rw [← hu]; exact slot_any s j (64 * j) _ rfl rfl (by omega) (by omega) w)
          have HBL := Lib.hid (fun w => blankS_any u (by omega) w)
          have hT := fun w => getr_any u _ _ (tell_ans u) w
          obtain ⟨r, hr⟩ : ∃ r, tellR u = r := ⟨_, rfl⟩
          obtain ⟨te, hte⟩ : ∃ r, tellE u = r := ⟨_, rfl⟩
          rw [hr, hte] at hT
          have hi := isR_iff u
          rw [hr, hte] at hi
          have hlen := recsN_len s (j - 1)
          by_cases hrec : te = 0 ∧ r.k ≠ 0
          · have HR := Lib.hid (recsN_yes h1 (by rw [hu]; exact hi.2 hrec))
            rw [hu, hr] at HR
            obtain ⟨rfl, hk0⟩ := hrec
            obtain ⟨k, e0, key, rv⟩ := r
            change ∀ w : World, Calls Try.prog 15 #[.string u] w fun e w' => e = .returned (.tuple #[.agg #[.int .i64 k, .int .i64 e0, .string key, .string rv], .int .i64 0]) ∧ Below w.heap.size w w' at hT
            simp only at hk0
            have HT := Lib.hid hT
            clear hT hr hte hi
            have hk1 : (k != 0) = true := by rw [bne_iff_ne]; exact hk0
            go_wp2_with fail
            with_reducible refine (HK.out _).mono ?_
            rintro e w' ⟨rfl, rfl⟩
            go_wp2_with fail
            with_reducible refine (HT.out _).mono ?_
            rintro e w1 ⟨rfl, hb⟩
            have A1 := Lib.hid ((HA.out.below hb).alloc (Obj.cells #[.int .i64 k, .int .i64 e0, .string key, .string rv] 23))
            clear hb HA
            obtain ⟨_, ⟨⟨x0, x1, x2, x3⟩, _⟩, _⟩ := A1.out
            obtain ⟨A, c, rfl⟩ := A1.out.2.2.1.slice
            go_wp2_with (at_builtin; (refine appO B rfl (.tmp 53) (.tmp 55) 41 23 (.agg #[.int .i64 0, .int .i64 0, .string ⟨#[]⟩, .string ⟨#[]⟩]) 4 48 rfl Try.underlying41 infoRec rfl (by decide) (by decide) _ (recsN s (j - 1)).length (flat (recsN s (j - 1))) rfl (some ⟨w1.heap.size + 1, 0, none⟩) 1 1 [.int .i64 k, .int .i64 e0, .string key, .string rv] rfl rfl (cellsR_one ⟨k, e0, key, rv⟩) (fun h => by cases h) (box4 (Bx.new1 w1 _ _ _ _ _ _)) (A1.out.2.2.1.alloc _) (Nat.le_trans A1.out.2.2.2.2.2.2.1 (Bl.alloc (Below.refl _ _) _).size) (by omega) ?_; intro v1 w2 ho hg ha; obtain ⟨A', c', rfl⟩ := ho.slice; have A2 := Lib.hid (SAt.appended (r := ⟨k, e0, key, rv⟩) (A1.out.alloc _) ho hg); obtain ⟨⟨c0, c1, c2, c3⟩, f0, f1, f2, f3⟩ := Bx.grown (A1.out.alloc (Obj.cells #[.int .i64 k, .int .i64 e0, .string key, .string rv] 23)).2.1 hg (A1.out.2.2.1.not_block A1.out.2.2.2.2.2.1); clear ho hg ha x0 x1 x2 x3))
            clear A1
            cases hbl : blankB u
            · have HF := Lib.hid (freeN_no h1 (by rw [hu]; exact hbl))
              rw [hbl] at HBL
              go_wp2_with fail
              with_reducible refine (HBL.out _).mono ?_
              rintro e w3 ⟨rfl, hb⟩
              have A3 := Lib.hid (A2.out.below hb)
              clear hb A2
              obtain ⟨_, ⟨⟨x0, x1, x2, x3⟩, y0, y1, y2, y3⟩, _⟩ := A3.out
              have A4 := Lib.hid (A3.out.free ((j : Int) + 1))
              clear A3
              go_wp2_with fail
              go_roundw
              case rel => exact ⟨j + 1, .slice A' _ c', by omega, by omega, by go_num, by rw [Nat.add_sub_cancel, HF.out, HR.out]; exact A4.out⟩
              case measure => simp [intOf]; omega
            · have HF := Lib.hid (freeN_yes h1 (by rw [hu]; exact hbl))
              rw [hbl] at HBL
              go_wp2_with fail
              with_reducible refine (HBL.out _).mono ?_
              rintro e w3 ⟨rfl, hb⟩
              have A3 := Lib.hid (A2.out.below hb)
              clear hb A2
              go_wp2_with fail
              go_roundw
              case rel => exact ⟨j + 1, .slice A' _ c', by omega, by omega, by go_num, by rw [Nat.add_sub_cancel, HF.out, HR.out]; exact A3.out⟩
              case measure => simp [intOf]; omega
          · have HR := Lib.hid (recsN_no h1 (by rw [hu]; exact fun h => hrec (hi.1 h)))
            obtain ⟨k, e0, key, rv⟩ := r
            change ∀ w : World, Calls Try.prog 15 #[.string u] w fun e w' => e = .returned (.tuple #[.agg #[.int .i64 k, .int .i64 e0, .string key, .string rv], .int .i64 te]) ∧ Below w.heap.size w w' at hT
            simp only at hrec
            have HT := Lib.hid hT
            clear hT hr hte hi
            by_cases hte0 : te = 0
            · have hk0 : k = 0 := Classical.byContradiction fun h => hrec ⟨hte0, h⟩
              subst hte0 hk0
              clear hrec
              go_wp2_with fail
              with_reducible refine (HK.out _).mono ?_
              rintro e w' ⟨rfl, rfl⟩
              go_wp2_with fail
              with_reducible refine (HT.out _).mono ?_
              rintro e w1 ⟨rfl, hb⟩
              have A2 := Lib.hid ((HA.out.below hb).alloc (Obj.cells #[.int .i64 0, .int .i64 e0, .string key, .string rv] 23))
              clear hb HA
              cases hbl : blankB u
              · have HF := Lib.hid (freeN_no h1 (by rw [hu]; exact hbl))
                rw [hbl] at HBL
                go_wp2_with fail
                with_reducible refine (HBL.out _).mono ?_
                rintro e w3 ⟨rfl, hb⟩
                have A3 := Lib.hid (A2.out.below hb)
                clear hb A2
                obtain ⟨_, ⟨⟨x0, x1, x2, x3⟩, y0, y1, y2, y3⟩, _⟩ := A3.out
                have A4 := Lib.hid (A3.out.free ((j : Int) + 1))
                clear A3
                go_wp2_with fail
                go_roundw
                case rel => exact ⟨j + 1, v, by omega, by omega, by go_num, by rw [Nat.add_sub_cancel, HF.out, HR.out]; exact A4.out⟩
                case measure => simp [intOf]; omega
              · have HF := Lib.hid (freeN_yes h1 (by rw [hu]; exact hbl))
                rw [hbl] at HBL
                go_wp2_with fail
                with_reducible refine (HBL.out _).mono ?_
                rintro e w3 ⟨rfl, hb⟩
                have A3 := Lib.hid (A2.out.below hb)
                clear hb A2
                go_wp2_with fail
                go_roundw
                case rel => exact ⟨j + 1, v, by omega, by omega, by go_num, by rw [Nat.add_sub_cancel, HF.out, HR.out]; exact A3.out⟩
                case measure => simp [intOf]; omega
            · have ht1 : (te == 0) = false := by rw [beq_eq_false_iff_ne]; exact hte0
              clear hrec
              go_wp2_with fail
              with_reducible refine (HK.out _).mono ?_
              rintro e w' ⟨rfl, rfl⟩
              go_wp2_with fail
              with_reducible refine (HT.out _).mono ?_
              rintro e w1 ⟨rfl, hb⟩
              have A2 := Lib.hid ((HA.out.below hb).alloc (Obj.cells #[.int .i64 k, .int .i64 e0, .string key, .string rv] 23))
              clear hb HA
              cases hbl : blankB u
              · have HF := Lib.hid (freeN_no h1 (by rw [hu]; exact hbl))
                rw [hbl] at HBL
                go_wp2_with fail
                with_reducible refine (HBL.out _).mono ?_
                rintro e w3 ⟨rfl, hb⟩
                have A3 := Lib.hid (A2.out.below hb)
                clear hb A2
                obtain ⟨_, ⟨⟨x0, x1, x2, x3⟩, y0, y1, y2, y3⟩, _⟩ := A3.out
                have A4 := Lib.hid (A3.out.free ((j : Int) + 1))
                clear A3
                go_wp2_with fail
                go_roundw
                case rel => exact ⟨j + 1, v, by omega, by omega, by go_num, by rw [Nat.add_sub_cancel, HF.out, HR.out]; exact A4.out⟩
                case measure => simp [intOf]; omega
              · have HF := Lib.hid (freeN_yes h1 (by rw [hu]; exact hbl))
                rw [hbl] at HBL
                go_wp2_with fail
                with_reducible refine (HBL.out _).mono ?_
                rintro e w3 ⟨rfl, hb⟩
                have A3 := Lib.hid (A2.out.below hb)
                clear hb A2
                go_wp2_with fail
                go_roundw
                case rel => exact ⟨j + 1, v, by omega, by omega, by go_num, by rw [Nat.add_sub_cancel, HF.out, HR.out]; exact A3.out⟩
                case measure => simp [intOf]; omega
        · obtain rfl : j = 8 := by omega
          have VS := HA.out.2.2.1.slice
          obtain ⟨A, c, rfl⟩ := VS
          obtain ⟨⟨⟨c0, c1, c2, c3⟩, f0, f1, f2, f3⟩, ⟨⟨d0, d1, d2, d3⟩, _⟩, ho, hbl, hp⟩ := HA.out
          have HO := Lib.hid ho
          have HBL := Lib.hid hbl
          have HP := Lib.hid hp
          clear ho hbl hp
          go_wp2_with fail
          (try simp only [Exit.inBlock, Exit.then])
          refine bodyPost_ret (results_view2 (a := .bool false) (b := .int .i64 0) (c := .slice A (recsN s (8 - 1)).length c) (d := .int .i64 (freeN s (8 - 1) : Int)) rfl rfl (by go_simp) (by go_simp) (by go_simp) (by go_simp)) rfl ?_
          exact scan_end hs HG.out.1 HG.out.2 HO.out HBL.out HP.out _ _ _ _
end Go.Proofs.Ytgfldfkgialdlaa
