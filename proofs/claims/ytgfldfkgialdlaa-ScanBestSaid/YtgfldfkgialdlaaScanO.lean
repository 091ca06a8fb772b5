/- The statement ScanBest: the walk. -/
import Derived.Test.YtgfldfkgialdlaaScanL
import Derived.BigRegion
namespace Go.Proofs.Ytgfldfkgialdlaa
set_option linter.unusedVariables false
set_option linter.unusedSimpArgs false
open Go.RowKit

theorem infoView : (Try.prog.info? 51).map (fun i => (i.zero, i.size, i.bytes)) = some (some (.agg #[.bool false, .int .i64 0, .slice none 0 0, .int .i64 0]), 4, 48) := by kernel_rfl
theorem RdV.own {w : World} {B : Nat} {v : Value} {n : Nat} {rs : List ViewV} (h : Own w B 51 4 v n (flatV rs)) : RdV w v rs := by
  have hl : rs.length = n := by have := h.1; rw [flatV_len] at this; omega
  rcases h.2 with ⟨rfl, rfl⟩ | ⟨g, cap, cur, fz, rfl, _, hg, _, h1, h2, h3, h4⟩
  · exact .inl ⟨List.eq_nil_of_length_eq_zero hl, none, 0, rfl, fun _ => rfl⟩
  · subst hl
    refine .inr ⟨g, 0, cap, rfl, h1, h2, fun j u hu => ?_⟩
    rw [Nat.zero_add]
    exact h.at' hu
def vw (x : Int) : ViewV := ⟨decide (x % 4 > 0), x / 4 % 8, none, 0, 0, 1⟩
def vsF (xs : List Int) : List ViewV := (xs.take 10).map vw
theorem vsF_len (xs : List Int) : (vsF xs).length = min 10 xs.length := by simp [vsF]
theorem vsF_at (xs : List Int) (k : Nat) (h : k < (vsF xs).length) : (vsF xs).getD k zeroV = vw (xs.getD k 0) := by
  have h2 := vsF_len xs
  have h3 : k < xs.length := by omega
  have h4 : k < 10 := by omega
  unfold vsF
  rw [List.getD_eq_getElem?_getD, List.getElem?_map, List.getElem?_take, if_pos h4, List.getElem?_eq_getElem h3]
  simp [List.getD_eq_getElem?_getD, List.getElem?_eq_getElem h3]
theorem take_snoc (vs : List ViewV) (k : Nat) (h : k < vs.length) : vs.take (k + 1) = vs.take k ++ [vs.getD k zeroV] := by
  rw [List.take_add_one, List.getElem?_eq_getElem h, List.getD_eq_getElem?_getD, List.getElem?_eq_getElem h]
  rfl

set_option maxRecDepth 100000 in
set_option maxHeartbeats 4000000 in
theorem ScanBest_walk (w : World) (va : Value) (xs : List Int) (ha : Rd w va xs) (_ : xs.length * 8 ≤ 140737488351232) (_ : ∀ n ∈ xs, -9223372036854775808 ≤ n ∧ n ≤ 9223372036854775807) :
    Calls Try.prog 10 #[va] w fun e w' => e = .returned (.bool true) ∧ Below w.heap.size w w' := by
  have HA := Lib.hid ha
  obtain ⟨A, c, rfl⟩ := ha.form
  obtain ⟨n, hn⟩ : ∃ n, xs.length = n := ⟨_, rfl⟩
  obtain ⟨m, hm⟩ : ∃ m, (vsF xs).length = m := ⟨_, rfl⟩
  have hmn : m = min 10 n := by rw [← hm, vsF_len, hn]
  have hm1 : m ≤ n := by omega
  have hm2 : m ≤ 10 := by omega
  have HMN := Lib.hid hmn
  have hn2 : n ≤ 9223372036854775807 := by have := ha.len; rw [hn] at this; unfold maxLen at this; omega
  rw [hn] at HA ⊢
  have HN := Lib.hid hn
  have HM := Lib.hid hm
  clear ha hn hm hmn
  go_enter Try.func10, Try.ntmps10
  go_wp2_with fail
  with_reducible refine (awake20 _).mono ?_
  rintro e w0 ⟨rfl, hb⟩
  have B0 := Lib.hid hb
  clear hb
  go_wp2_with fail
  go_loopw [3, 4, 5] (fun v x i wr => ∃ k : Nat, k ≤ m ∧ i = .int .i64 k ∧ x = .int .i64 (bestN (vsF xs) k) ∧ Own wr w.heap.size 51 4 v k (flatV ((vsF xs).take k)) ∧ Below w.heap.size w wr) (fun _ _ i _ => (m - intOf i).toNat)
  case atStart => exact ⟨0, by omega, rfl, rfl, Own.nil _ _ _ _, B0.out⟩
  case round =>
    obtain ⟨k, hk, rfl, rfl, ho, hb⟩ := hrel
    obtain ⟨D, d, rfl⟩ := ho.slice
    have HO := Lib.hid ho
    have HB := Lib.hid hb
    clear ho hb B0
    have hin := bestN_in (vsF xs) k
    have hs : bestN (vsF xs) (k + 1) = if ((vsF xs).getD k zeroV).good = true ∧ (bestN (vsF xs) k < 0 ∨ ((vsF xs).getD (bestN (vsF xs) k).toNat zeroV).e < ((vsF xs).getD k zeroV).e) then (k : Int) else bestN (vsF xs) k := rfl
    obtain ⟨bb, hbb⟩ : ∃ b, bestN (vsF xs) k = b := ⟨_, rfl⟩
    rw [hbb] at hin hs ⊢
    have HBB := Lib.hid hbb
    clear hbb
    by_cases hlt : k < m
    · have h1 : (k : Int) < (n : Int) := by omega
      have h2 : (k : Int) < 10 := by omega
      obtain ⟨b, o, c', hv, _, _, hcc⟩ := HA.out.pos (by rw [HN.out]; omega)
      rw [HN.out] at hv hcc
      obtain ⟨rfl, rfl⟩ := Value.slice.inj hv |> fun h => And.intro h.1 h.2.2
      have g0 := hcc k (by omega)
      have g1 : wr.cell? ⟨b, o + k, none⟩ = some (.int .i64 (xs.getD k 0)) := (HB.out.cell (World.block_lt_of_cell? _ _ g0)).trans g0
      have hvk := vsF_at xs k (by rw [HM.out]; exact hlt)
      rw [hvk] at hs
      generalize xs.getD k 0 = x at g1 hs hvk
      have x1 : bits .and .i64 x 3 = x % 4 := and_mask64 x 2 (by decide)
      have x2 : bits .and .i64 (x / 4) 7 = x / 4 % 8 := and_mask64 (x / 4) 3 (by decide)
      have HV := Lib.hid hvk
      clear hv hcc g0 hvk
      simp only [vw, gt_iff_lt] at hs
      have hsnoc := take_snoc (vsF xs) k (by rw [HM.out]; exact hlt)
      rw [HV.out] at hsnoc
      have HT := Lib.hid hsnoc
      clear hsnoc
      have g2 := up1 g1
      have g3 : ∀ oo : Obj, (wr.alloc oo).drew.cell? ⟨b, o + k, none⟩ = some (.int .i64 x) := fun o' => up1 g1 o'
      go_wp2_with fail
      go_region
      have HB1 := Lib.hid (Bl.drewN (Bl.alloc HB.out (Obj.cells #[.bool (decide (0 < x % 4)), .int .i64 (x / 4 % 8), .slice none 0 0, .int .i64 1] 51)) 1)
      have HO1 := Lib.hid ((HO.out.alloc (Obj.cells #[.bool (decide (0 < x % 4)), .int .i64 (x / 4 % 8), .slice none 0 0, .int .i64 1] 51)).drewN 1)
      have X1 := Lib.hid (Bx.below (Bx.new wr (.bool (decide (0 < x % 4))) (.int .i64 (x / 4 % 8)) (.slice none 0 0) (.int .i64 1) 51) (Bl.drewN (Below.refl _ _) 1))
      have NB := Lib.hid (show (Value.slice D k d).ownBlock ≠ some wr.heap.size from fun e => Nat.lt_irrefl _ (HO.out.lt _ e).2)
      change Hid (Below w.heap.size w (wr.alloc (Obj.cells #[.bool (decide (0 < x % 4)), .int .i64 (x / 4 % 8), .slice none 0 0, .int .i64 1] 51)).drew) at HB1
      change Hid (Own (wr.alloc (Obj.cells #[.bool (decide (0 < x % 4)), .int .i64 (x / 4 % 8), .slice none 0 0, .int .i64 1] 51)).drew w.heap.size 51 4 (.slice D k d) k (flatV ((vsF xs).take k))) at HO1
      change Hid (Bx (wr.alloc (Obj.cells #[.bool (decide (0 < x % 4)), .int .i64 (x / 4 % 8), .slice none 0 0, .int .i64 1] 51)).drew wr.heap.size (.bool (decide (0 < x % 4))) (.int .i64 (x / 4 % 8)) (.slice none 0 0) (.int .i64 1)) at X1
      generalize (wr.alloc (Obj.cells #[.bool (decide (0 < x % 4)), .int .i64 (x / 4 % 8), .slice none 0 0, .int .i64 1] 51)).drew = W1 at *
      generalize wr.heap.size = g6 at *
      have hcv : cellsV (vw x) = [.bool (decide (0 < x % 4)), .int .i64 (x / 4 % 8), .slice none 0 0, .int .i64 1] := rfl
      have HCV := Lib.hid hcv
      clear hcv HB HO g1 g2 g3 x1 x2
      generalize hgd : decide (0 < x % 4) = gd at *
      generalize hep : x / 4 % 8 = ep at *
      clear hgd hep
      obtain ⟨⟨y0, y1, y2, y3⟩, _⟩ := X1.out
      go_wp2_with (at_builtin; refine appO w.heap.size rfl (.tmp 34) (.tmp 36) 48 51 (.agg #[.bool false, .int .i64 0, .slice none 0 0, .int .i64 0]) 4 48 rfl Try.underlying48 infoView rfl (by decide) (by decide) _ k (flatV ((vsF xs).take k)) rfl (some ⟨W1.heap.size, 0, none⟩) 1 1 [.bool gd, .int .i64 ep, .slice none 0 0, .int .i64 1] rfl rfl (by intro u hu; simp at hu; rcases hu with rfl | rfl | rfl | rfl <;> rfl) (fun h => by cases h) (box4 (Bx.new W1 _ _ _ _ _)) (HO1.out.alloc _) (Nat.le_trans HB1.out.size (Bl.alloc (Below.refl _ _) _).size) (by omega) ?_; intro v1 w2 ho hg ha; have HB2 := Lib.hid (Below.grown (Bl.alloc HB1.out (Obj.cells #[.bool gd, .int .i64 ep, .slice none 0 0, .int .i64 1] 51)) hg (Bl.alloc HB1.out (Obj.cells #[.bool gd, .int .i64 ep, .slice none 0 0, .int .i64 1] 51)).size (fun q hq => HO1.out.base q hq)); have X2 := Lib.hid (Bx.grown (X1.out.below (Bl.alloc (Below.refl _ _) (Obj.cells #[.bool gd, .int .i64 ep, .slice none 0 0, .int .i64 1] 51))) hg NB.out); obtain ⟨g7, cap7, rfl, hg7, hl7, hc1, hc2⟩ := ho.form (by omega); have HO2 := Lib.hid (show Own w2 w.heap.size 51 4 (.slice (some ⟨g7, 0, none⟩) (k + 1) cap7) (k + 1) (flatV ((vsF xs).take k) ++ cellsV (vw x)) from by rw [HCV.out]; exact ho); clear ho hg ha y0 y1 y2 y3 hg7 hl7)
      obtain ⟨⟨y0, y1, y2, y3⟩, _⟩ := X2.out
      cases gd
      · simp only [Bool.false_eq_true, false_and, if_false] at hs
        have HS := Lib.hid hs
        clear hs
        go_quiet (fail)
        go_wp2
        go_roundw
        case rel => exact ⟨k + 1, by omega, by go_num, by rw [HS.out], by rw [HT.out, flatV_snoc]; exact HO2.out, Bl.drewN HB2.out _⟩
        case measure => simp [intOf]; omega
      · simp only [eq_self, true_and] at hs
        by_cases hm0 : bb < 0
        · rw [if_pos (.inl hm0)] at hs
          have HS := Lib.hid hs
          have d0 : decide (bb < 0) = true := decide_eq_true hm0
          clear hs
          go_quiet (fail)
          go_wp2
          go_roundw
          case rel => exact ⟨k + 1, by omega, by go_num, by rw [HS.out], by rw [HT.out, flatV_snoc]; exact HO2.out, Bl.drewN HB2.out _⟩
          case measure => simp [intOf]; omega
        · obtain ⟨j, rfl⟩ := Int.eq_ofNat_of_zero_le (show 0 ≤ bb by omega)
          have hj : j < k + 1 := by omega
          have f1 : w2.cell? ⟨g7, j * 4 + 1, none⟩ = some (.int .i64 ((vsF xs).getD j zeroV).e) := by
            refine HO2.out.at' ?_
            have h3 := HT.out
            rw [← flatV_snoc, ← h3]
            have h4 := flatV_at ((vsF xs).take (k + 1)) j (by rw [List.length_take, HM.out]; omega) 1 (by decide)
            rw [h4]
            have h5 : ((vsF xs).take (k + 1)).getD j zeroV = (vsF xs).getD j zeroV := by
              rw [List.getD_eq_getElem?_getD, List.getD_eq_getElem?_getD, List.getElem?_take, if_pos hj]
            rw [h5]
            rfl
          rw [Int.toNat_natCast] at hs
          generalize ((vsF xs).getD j zeroV).e = y at f1 hs
          have d0 : decide ((j : Int) < 0) = false := decide_eq_false (by omega)
          have hj2 : (j : Int) < ((k + 1 : Nat) : Int) := by omega
          have hj3 : (j : Int) < (k : Int) + 1 := by omega
          by_cases hgt : y < ep
          · rw [if_pos (.inr hgt)] at hs
            have HS := Lib.hid hs
            have d1 : decide (y < ep) = true := decide_eq_true hgt
            clear hs hm0
            go_quiet (fail)
            go_wp2
            go_roundw
            case rel => exact ⟨k + 1, by omega, by go_num, by rw [HS.out], by rw [HT.out, flatV_snoc]; exact HO2.out, Bl.drewN HB2.out _⟩
            case measure => simp [intOf]; omega
          · rw [if_neg (by omega)] at hs
            have HS := Lib.hid hs
            have d1 : decide (y < ep) = false := decide_eq_false hgt
            clear hs hm0
            go_quiet (fail)
            go_wp2
            go_roundw
            case rel => exact ⟨k + 1, by omega, by go_num, by rw [HS.out], by rw [HT.out, flatV_snoc]; exact HO2.out, Bl.drewN HB2.out _⟩
            case measure => simp [intOf]; omega
    · obtain rfl : k = m := by omega
      have HR := RdV.own HO.out
      rw [List.take_of_length_le (by rw [HM.out]; exact Nat.le_refl _)] at HR
      replace HR := Lib.hid HR
      have e1 : bestV (vsF xs) = if bb < 0 then 0 else bb := by rw [bestV, HM.out, HBB.out]
      have e2 : bestE (vsF xs) = if bb < 0 then 2001 else 0 := by rw [bestE, HM.out, HBB.out]
      have hB := fun w h => best_any (.slice D k d) (vsF xs) w h
      rw [e1, e2] at hB
      clear e1 e2 hs HO
      by_cases hm : bb < 0
      · rw [if_pos hm, if_pos hm] at hB
        have BV := Lib.hid hB
        have d0 : decide (bb < 0) = true := decide_eq_true hm
        clear hB
        by_cases hkn : (k : Int) < (n : Int)
        · have hk10 : ¬ (k : Int) < 10 := by have := HMN.out; omega
          go_wp2_with fail
          with_reducible refine (BV.out _ HR.out).mono ?_
          rintro e w8 ⟨rfl, hb⟩
          have B8 := Lib.hid (Bl.then HB.out hb)
          clear hb
          go_wp2_with (go_at_call 17; refine (num_any _ _).mono ?_; rintro e w' ⟨rfl, rfl⟩)
          go_ret
          exact ⟨rfl, B8.out⟩
        · go_wp2_with fail
          with_reducible refine (BV.out _ HR.out).mono ?_
          rintro e w8 ⟨rfl, hb⟩
          have B8 := Lib.hid (Bl.then HB.out hb)
          clear hb
          go_wp2_with (go_at_call 17; refine (num_any _ _).mono ?_; rintro e w' ⟨rfl, rfl⟩)
          go_ret
          exact ⟨rfl, B8.out⟩
      · rw [if_neg hm, if_neg hm] at hB
        have BV := Lib.hid hB
        have d0 : decide (bb < 0) = false := decide_eq_false hm
        have q1 : (bb == bb) = true := by simp
        clear hB
        by_cases hkn : (k : Int) < (n : Int)
        · have hk10 : ¬ (k : Int) < 10 := by have := HMN.out; omega
          go_wp2_with fail
          with_reducible refine (BV.out _ HR.out).mono ?_
          rintro e w8 ⟨rfl, hb⟩
          have B8 := Lib.hid (Bl.then HB.out hb)
          clear hb
          go_wp2_with (go_at_call 17; refine (num_any _ _).mono ?_; rintro e w' ⟨rfl, rfl⟩)
          go_ret
          exact ⟨rfl, B8.out⟩
        · go_wp2_with fail
          with_reducible refine (BV.out _ HR.out).mono ?_
          rintro e w8 ⟨rfl, hb⟩
          have B8 := Lib.hid (Bl.then HB.out hb)
          clear hb
          go_wp2_with (go_at_call 17; refine (num_any _ _).mono ?_; rintro e w' ⟨rfl, rfl⟩)
          go_ret
          exact ⟨rfl, B8.out⟩
end Go.Proofs.Ytgfldfkgialdlaa
