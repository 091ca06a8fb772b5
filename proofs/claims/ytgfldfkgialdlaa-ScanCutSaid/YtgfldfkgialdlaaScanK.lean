/- scan: a sector of records. -/
import Derived.Test.YtgfldfkgialdlaaScanJ
import Derived.Test.YtgfldfkgialdlaaInts
namespace Go.Proofs.Ytgfldfkgialdlaa
set_option linter.unusedVariables false
set_option linter.unusedSimpArgs false
open Go.RowKit

def blank64 : ByteArray := (str blankL).extract 0 64
theorem blank64_size : blank64.size = 64 := by rw [blank64, ByteArray.size_extract, blank_size]; rfl
/-- A record's slot, or a blank one. -/
def recT (rs : List RecV) (i : Nat) : ByteArray := if i < rs.length ∧ mayP (rs.getD i zeroR) then putR (rs.getD i zeroR) else blank64
theorem recT_size (rs : List RecV) (i : Nat) : (recT rs i).size = 64 := by
  unfold recT
  split
  · rename_i h
    exact putR_size h.2
  · exact blank64_size
/-- A byte 0 at one place. -/
def deadT (d : Int) (t : ByteArray) : ByteArray := if d % 4 = 3 then str (t.data.toList.set (d / 4 % 64).toNat 0) else t
theorem deadT_size (d : Int) (t : ByteArray) : (deadT d t).size = t.size := by
  unfold deadT
  split
  · rw [str_size, List.length_set, data_len]
  · rfl
def slotT (rs : List RecV) (ds : List Int) (i : Nat) : ByteArray := if i < ds.length then deadT (ds.getD i 0) (recT rs i) else recT rs i
theorem slotT_size (rs : List RecV) (ds : List Int) (i : Nat) : (slotT rs ds i).size = 64 := by
  unfold slotT
  split
  · rw [deadT_size, recT_size]
  · exact recT_size rs i
def sectT (rs : List RecV) (ds : List Int) : Nat → ByteArray
  | 0 => str []
  | k + 1 => sectT rs ds k ++ slotT rs ds k
theorem sectT_size (rs : List RecV) (ds : List Int) : ∀ k, (sectT rs ds k).size = 64 * k
  | 0 => by rw [sectT, str_size]; rfl
  | k + 1 => by rw [sectT, size_app, sectT_size rs ds k, slotT_size]; omega
def sectB (rs : List RecV) (ds : List Int) : ByteArray := sectT rs ds 8
theorem sectB_size (rs : List RecV) (ds : List Int) : (sectB rs ds).size = 512 := sectT_size rs ds 8

theorem dead_cut (t : ByteArray) (k : Nat) (hk : k < t.size) : (t.extract 0 k ++ (⟨#[0]⟩ : ByteArray)) ++ t.extract (k + 1) t.size = str (t.data.toList.set k 0) := by
  have hl := data_len t
  refine ext_str ?_
  rw [app_data, app_data, ext_list, ext_list, str_data, str_data, str_data]
  rw [List.drop_zero, List.take_of_length_le (l := List.drop (k + 1) _) (by rw [List.length_drop, hl]; omega), List.set_eq_take_append_cons_drop, if_pos (by omega)]
  simp
set_option maxRecDepth 100000 in
set_option maxHeartbeats 4000000 in
theorem sector_any (va vd : Value) (rs : List RecV) (ds : List Int) (w : World) (ha : RdR w va rs) (hd : Rd w vd ds) (hz : ∀ r ∈ rs, r.key.size ≤ 9223372036854775807 ∧ r.val.size ≤ 9223372036854775807) :
    Calls Try.prog 24 #[va, vd] w fun e w' => e = .returned (.string (sectB rs ds)) ∧ Below w.heap.size w w' := by
  have HA := Lib.hid ha
  have HD := Lib.hid hd
  have HZ := Lib.hid hz
  obtain ⟨A, c, rfl⟩ := ha.form
  obtain ⟨D, d, rfl⟩ := hd.form
  clear ha hd hz
  obtain ⟨bl, hbl⟩ : ∃ u, str blankL = u := ⟨_, rfl⟩
  obtain ⟨b64, hb64⟩ : ∃ u, bl.extract 0 64 = u := ⟨_, rfl⟩
  have zb : bl.size = 4096 := by rw [← hbl]; exact blank_size
  have HB := Lib.hid hbl
  have H64 := Lib.hid (show blank64 = b64 by rw [blank64, hbl, hb64])
  have z64 : b64.size = 64 := by rw [← H64.out]; exact blank64_size
  clear hbl
  obtain ⟨n, hn⟩ : ∃ n, rs.length = n := ⟨_, rfl⟩
  obtain ⟨m, hm⟩ : ∃ n, ds.length = n := ⟨_, rfl⟩
  rw [hn] at HA ⊢
  rw [hm] at HD ⊢
  have HN := Lib.hid hn
  have HM := Lib.hid hm
  clear hn hm
  go_enter Try.func24, Try.ntmps24
  go_wp2_with fail
  go_loopw [5, 6] (fun x i wr => ∃ k : Nat, k ≤ 8 ∧ i = .int .i64 k ∧ x = .string (sectT rs ds k) ∧ Below w.heap.size w wr) (fun _ i _ => (8 - intOf i).toNat)
  case atStart => exact ⟨0, by omega, rfl, rfl, Below.refl _ _⟩
  case round =>
    obtain ⟨k, hk, rfl, rfl, hb⟩ := hrel
    have HBL := Lib.hid hb
    clear hb
    have zo := sectT_size rs ds k
    obtain ⟨out, hout⟩ : ∃ u, sectT rs ds k = u := ⟨_, rfl⟩
    rw [hout] at zo ⊢
    have HOUT := Lib.hid hout
    clear hout
    by_cases hlt : k < 8
    · have hlt2 : (k : Int) < 8 := by omega
      by_cases hkn : k < n
      · have hkn2 : (k : Int) < (n : Int) := by omega
        obtain ⟨b, o, c', hv, _, _, hcc⟩ := HA.out.pos (by rw [HN.out]; omega)
        rw [HN.out] at hv hcc
        obtain ⟨rfl, rfl⟩ := Value.slice.inj hv |> fun h => And.intro h.1 h.2.2
        have hmem : rs.getD k zeroR ∈ rs := by
          rw [List.getD_eq_getElem?_getD, List.getElem?_eq_getElem (by rw [HN.out]; exact hkn), Option.getD_some]
          exact List.getElem_mem _
        obtain ⟨s1, s2⟩ := HZ.out _ hmem
        have hC := hcc k hkn
        have hT0 : recT rs k = if mayP (rs.getD k zeroR) then putR (rs.getD k zeroR) else blank64 := by
          unfold recT
          by_cases hm : mayP (rs.getD k zeroR)
          · rw [if_pos ⟨by rw [HN.out]; exact hkn, hm⟩, if_pos hm]
          · rw [if_neg (fun h => hm h.2), if_neg hm]
        have hP := fun w => rputr_any (rs.getD k zeroR) w s1 s2
        generalize rs.getD k zeroR = r at hC hT0 hP
        have HC := Lib.hid hC
        clear hC hcc hmem s1 s2 hv
        by_cases hm : mayP r
        · rw [if_pos hm] at hT0
          obtain ⟨t, ht⟩ : ∃ t, putR r = t := ⟨_, rfl⟩
          have zt : t.size = 64 := by rw [← ht]; exact putR_size hm
          rw [ht] at hT0 hP
          rw [show putRe r = 0 from if_pos hm] at hP
          have HT := Lib.hid hT0
          have HP := Lib.hid hP
          change Hid (∀ w : World, Calls Try.prog 14 #[.agg #[.int .i64 r.k, .int .i64 r.e, .string r.key, .string r.val]] w fun e w' => e = .returned (.tuple #[.string t, .int .i64 0]) ∧ Below w.heap.size w w') at HP
          clear hT0 hP ht hm
          go_wp2_with fail
          with_reducible refine (rblank_any _).mono ?_
          rw [HB.out]
          rintro e w1 ⟨rfl, hb⟩
          have hB1 := Bl.then HBL.out hb
          have kb := fun (q : Nat) (v : Value) (h : w.cell? ⟨b, q, none⟩ = some v) => (hB1.cell (World.block_lt_of_cell? _ _ h)).trans h
          obtain ⟨g0, g1, g2, g3⟩ := HC.out
          have g0 := kb _ _ g0
          have g1 := kb _ _ g1
          have g2 := kb _ _ g2
          have g3 := kb _ _ g3
          have B1 := Lib.hid hB1
          clear hb HBL hB1 kb
          go_wp2_with fail
          with_reducible refine (HP.out _).mono ?_
          rintro e w2 ⟨rfl, hb⟩
          have B2 := Lib.hid (Bl.then B1.out hb)
          clear hb B1 g0 g1 g2 g3
          by_cases hkm : k < m
          · obtain ⟨b0, o0, c0, hv0, _, _, hc0⟩ := (HD.out.below B2.out).pos (by rw [HM.out]; omega)
            rw [HM.out] at hv0 hc0
            obtain ⟨rfl, rfl⟩ := Value.slice.inj hv0 |> fun h => And.intro h.1 h.2.2
            have gd := hc0 k hkm
            obtain ⟨x, hx⟩ : ∃ x, ds.getD k 0 = x := ⟨_, rfl⟩
            rw [hx] at gd
            have hkm2 : (k : Int) < (m : Int) := by omega
            have x1 : bits .and .i64 x 3 = x % 4 := and_mask64 x 2 (by decide)
            have x2 : bits .and .i64 (x / 4) 63 = x / 4 % 64 := and_mask64 (x / 4) 6 (by decide)
            have hS0 : slotT rs ds k = deadT x t := by rw [slotT, if_pos (by rw [HM.out]; exact hkm), hx, HT.out]
            by_cases h3 : x % 4 = 3
            · obtain ⟨q, hq⟩ : ∃ q : Nat, x / 4 % 64 = (q : Int) := Int.eq_ofNat_of_zero_le (Int.emod_nonneg _ (by decide))
              have q64 : q < 64 := by have := Int.emod_lt_of_pos (x / 4) (show (0 : Int) < 64 by decide); omega
              obtain ⟨t1, e1⟩ : ∃ u, t.extract 0 q = u := ⟨_, rfl⟩
              obtain ⟨t2, e2⟩ : ∃ u, t1 ++ (⟨#[0]⟩ : ByteArray) = u := ⟨_, rfl⟩
              obtain ⟨t3, e3⟩ : ∃ u, t.extract (q + 1) 64 = u := ⟨_, rfl⟩
              obtain ⟨t4, e4⟩ : ∃ u, t2 ++ t3 = u := ⟨_, rfl⟩
              have z1 : t1.size = q := by rw [← e1, ByteArray.size_extract]; omega
              have z2 : t2.size = q + 1 := by rw [← e2, size_app, z1]; rfl
              have z3 : t3.size = 63 - q := by rw [← e3, ByteArray.size_extract]; omega
              have z4 : t4.size = 64 := by rw [← e4, size_app, z2, z3]; omega
              have HS := Lib.hid (show slotT rs ds k = t4 by
                rw [hS0, deadT, if_pos h3, hq, Int.toNat_natCast, ← dead_cut t q (by omega), zt, e1, e2, e3, e4])
              have y1 : ¬ 9223372036854775807 < q + 1 := by omega
              have y2 : ¬ 9223372036854775807 < q + 1 + (63 - q) := by omega
              have y3 : (q : Int) ≤ 64 := by omega
              have y4 : (q : Int) + 1 ≤ 64 := by omega
              have y5 : q ≤ 64 := by omega
              have y6 : q + 1 ≤ 64 := by omega
              have y7 : ((q : Int) + 1).toNat = q + 1 := by omega
              have y8 : (0 : Int) ≤ (q : Int) + 1 := by omega
              have y9 : ¬ 9223372036854775807 < 64 * k + 64 := by omega
              rw [hq] at x2
              rw [h3] at x1
              clear hS0 hq h3 hx hc0
              go_wp2_with fail
              go_quiet (fail)
              go_wp2_with fail
              go_roundw
              case rel => exact ⟨k + 1, by omega, by go_num, by rw [sectT, HOUT.out, HS.out], Bl.drewN B2.out _⟩
              case measure => simp [intOf]; omega
            · have HS := Lib.hid (show slotT rs ds k = t by rw [hS0, deadT, if_neg h3])
              have h4 : (x % 4 == 3) = false := by rw [beq_eq_false_iff_ne]; exact h3
              have y9 : ¬ 9223372036854775807 < 64 * k + 64 := by omega
              clear hS0 h3 hx hc0
              go_wp2_with fail
              go_roundw
              case rel => exact ⟨k + 1, by omega, by go_num, by rw [sectT, HOUT.out, HS.out], B2.out⟩
              case measure => simp [intOf]; omega
          · have HS := Lib.hid (show slotT rs ds k = t by rw [slotT, if_neg (by rw [HM.out]; exact hkm), HT.out])
            have hkm2 : ¬ (k : Int) < (m : Int) := by omega
            have y9 : ¬ 9223372036854775807 < 64 * k + 64 := by omega
            go_wp2_with fail
            go_roundw
            case rel => exact ⟨k + 1, by omega, by go_num, by rw [sectT, HOUT.out, HS.out], B2.out⟩
            case measure => simp [intOf]; omega
        · rw [if_neg hm, H64.out] at hT0
          rw [show putRe r = 1900 from if_neg hm] at hP
          obtain ⟨t, ht⟩ : ∃ t, b64 = t := ⟨_, rfl⟩
          rw [ht] at hT0 z64 hb64
          obtain ⟨u, hu⟩ : ∃ t, putR r = t := ⟨_, rfl⟩
          rw [hu] at hP
          have zt := z64
          have HT := Lib.hid hT0
          have HP := Lib.hid hP
          change Hid (∀ w : World, Calls Try.prog 14 #[.agg #[.int .i64 r.k, .int .i64 r.e, .string r.key, .string r.val]] w fun e w' => e = .returned (.tuple #[.string u, .int .i64 1900]) ∧ Below w.heap.size w w') at HP
          clear hT0 hP ht hm hu z64 H64
          go_wp2_with fail
          with_reducible refine (rblank_any _).mono ?_
          rw [HB.out]
          rintro e w1 ⟨rfl, hb⟩
          have hB1 := Bl.then HBL.out hb
          have kb := fun (q : Nat) (v : Value) (h : w.cell? ⟨b, q, none⟩ = some v) => (hB1.cell (World.block_lt_of_cell? _ _ h)).trans h
          obtain ⟨g0, g1, g2, g3⟩ := HC.out
          have g0 := kb _ _ g0
          have g1 := kb _ _ g1
          have g2 := kb _ _ g2
          have g3 := kb _ _ g3
          have B1 := Lib.hid hB1
          clear hb HBL hB1 kb
          go_wp2_with fail
          with_reducible refine (HP.out _).mono ?_
          rintro e w2 ⟨rfl, hb⟩
          have B2 := Lib.hid (Bl.then B1.out hb)
          clear hb B1 g0 g1 g2 g3
          by_cases hkm : k < m
          · obtain ⟨b0, o0, c0, hv0, _, _, hc0⟩ := (HD.out.below B2.out).pos (by rw [HM.out]; omega)
            rw [HM.out] at hv0 hc0
            obtain ⟨rfl, rfl⟩ := Value.slice.inj hv0 |> fun h => And.intro h.1 h.2.2
            have gd := hc0 k hkm
            obtain ⟨x, hx⟩ : ∃ x, ds.getD k 0 = x := ⟨_, rfl⟩
            rw [hx] at gd
            have hkm2 : (k : Int) < (m : Int) := by omega
            have x1 : bits .and .i64 x 3 = x % 4 := and_mask64 x 2 (by decide)
            have x2 : bits .and .i64 (x / 4) 63 = x / 4 % 64 := and_mask64 (x / 4) 6 (by decide)
            have hS0 : slotT rs ds k = deadT x t := by rw [slotT, if_pos (by rw [HM.out]; exact hkm), hx, HT.out]
            by_cases h3 : x % 4 = 3
            · obtain ⟨q, hq⟩ : ∃ q : Nat, x / 4 % 64 = (q : Int) := Int.eq_ofNat_of_zero_le (Int.emod_nonneg _ (by decide))
              have q64 : q < 64 := by have := Int.emod_lt_of_pos (x / 4) (show (0 : Int) < 64 by decide); omega
              obtain ⟨t1, e1⟩ : ∃ u, t.extract 0 q = u := ⟨_, rfl⟩
              obtain ⟨t2, e2⟩ : ∃ u, t1 ++ (⟨#[0]⟩ : ByteArray) = u := ⟨_, rfl⟩
              obtain ⟨t3, e3⟩ : ∃ u, t.extract (q + 1) 64 = u := ⟨_, rfl⟩
              obtain ⟨t4, e4⟩ : ∃ u, t2 ++ t3 = u := ⟨_, rfl⟩
              have z1 : t1.size = q := by rw [← e1, ByteArray.size_extract]; omega
              have z2 : t2.size = q + 1 := by rw [← e2, size_app, z1]; rfl
              have z3 : t3.size = 63 - q := by rw [← e3, ByteArray.size_extract]; omega
              have z4 : t4.size = 64 := by rw [← e4, size_app, z2, z3]; omega
              have HS := Lib.hid (show slotT rs ds k = t4 by
                rw [hS0, deadT, if_pos h3, hq, Int.toNat_natCast, ← dead_cut t q (by omega), zt, e1, e2, e3, e4])
              have y1 : ¬ 9223372036854775807 < q + 1 := by omega
              have y2 : ¬ 9223372036854775807 < q + 1 + (63 - q) := by omega
              have y3 : (q : Int) ≤ 64 := by omega
              have y4 : (q : Int) + 1 ≤ 64 := by omega
              have y5 : q ≤ 64 := by omega
              have y6 : q + 1 ≤ 64 := by omega
              have y7 : ((q : Int) + 1).toNat = q + 1 := by omega
              have y8 : (0 : Int) ≤ (q : Int) + 1 := by omega
              have y9 : ¬ 9223372036854775807 < 64 * k + 64 := by omega
              rw [hq] at x2
              rw [h3] at x1
              clear hS0 hq h3 hx hc0
              go_wp2_with fail
              go_quiet (fail)
              go_wp2_with fail
              go_roundw
              case rel => exact ⟨k + 1, by omega, by go_num, by rw [sectT, HOUT.out, HS.out], Bl.drewN B2.out _⟩
              case measure => simp [intOf]; omega
            · have HS := Lib.hid (show slotT rs ds k = t by rw [hS0, deadT, if_neg h3])
              have h4 : (x % 4 == 3) = false := by rw [beq_eq_false_iff_ne]; exact h3
              have y9 : ¬ 9223372036854775807 < 64 * k + 64 := by omega
              clear hS0 h3 hx hc0
              go_wp2_with fail
              go_roundw
              case rel => exact ⟨k + 1, by omega, by go_num, by rw [sectT, HOUT.out, HS.out], B2.out⟩
              case measure => simp [intOf]; omega
          · have HS := Lib.hid (show slotT rs ds k = t by rw [slotT, if_neg (by rw [HM.out]; exact hkm), HT.out])
            have hkm2 : ¬ (k : Int) < (m : Int) := by omega
            have y9 : ¬ 9223372036854775807 < 64 * k + 64 := by omega
            go_wp2_with fail
            go_roundw
            case rel => exact ⟨k + 1, by omega, by go_num, by rw [sectT, HOUT.out, HS.out], B2.out⟩
            case measure => simp [intOf]; omega
      · have hkn2 : ¬ (k : Int) < (n : Int) := by omega
        obtain ⟨t, ht⟩ : ∃ t, b64 = t := ⟨_, rfl⟩
        have hT0 : recT rs k = t := by
          rw [recT, if_neg (fun h => hkn (by have := h.1; rw [HN.out] at this; exact this)), H64.out, ht]
        rw [ht] at z64 hb64
        have zt := z64
        have HT := Lib.hid hT0
        clear hT0 ht z64 H64
        go_wp2_with fail
        with_reducible refine (rblank_any _).mono ?_
        rw [HB.out]
        rintro e w2 ⟨rfl, hb⟩
        have B2 := Lib.hid (Bl.then HBL.out hb)
        clear hb HBL
        by_cases hkm : k < m
        · obtain ⟨b0, o0, c0, hv0, _, _, hc0⟩ := (HD.out.below B2.out).pos (by rw [HM.out]; omega)
          rw [HM.out] at hv0 hc0
          obtain ⟨rfl, rfl⟩ := Value.slice.inj hv0 |> fun h => And.intro h.1 h.2.2
          have gd := hc0 k hkm
          obtain ⟨x, hx⟩ : ∃ x, ds.getD k 0 = x := ⟨_, rfl⟩
          rw [hx] at gd
          have hkm2 : (k : Int) < (m : Int) := by omega
          have x1 : bits .and .i64 x 3 = x % 4 := and_mask64 x 2 (by decide)
          have x2 : bits .and .i64 (x / 4) 63 = x / 4 % 64 := and_mask64 (x / 4) 6 (by decide)
          have hS0 : slotT rs ds k = deadT x t := by rw [slotT, if_pos (by rw [HM.out]; exact hkm), hx, HT.out]
          by_cases h3 : x % 4 = 3
          · obtain ⟨q, hq⟩ : ∃ q : Nat, x / 4 % 64 = (q : Int) := Int.eq_ofNat_of_zero_le (Int.emod_nonneg _ (by decide))
            have q64 : q < 64 := by have := Int.emod_lt_of_pos (x / 4) (show (0 : Int) < 64 by decide); omega
            obtain ⟨t1, e1⟩ : ∃ u, t.extract 0 q = u := ⟨_, rfl⟩
            obtain ⟨t2, e2⟩ : ∃ u, t1 ++ (⟨#[0]⟩ : ByteArray) = u := ⟨_, rfl⟩
            obtain ⟨t3, e3⟩ : ∃ u, t.extract (q + 1) 64 = u := ⟨_, rfl⟩
            obtain ⟨t4, e4⟩ : ∃ u, t2 ++ t3 = u := ⟨_, rfl⟩
            have z1 : t1.size = q := by rw [← e1, ByteArray.size_extract]; omega
            have z2 : t2.size = q + 1 := by rw [← e2, size_app, z1]; rfl
            have z3 : t3.size = 63 - q := by rw [← e3, ByteArray.size_extract]; omega
            have z4 : t4.size = 64 := by rw [← e4, size_app, z2, z3]; omega
            have HS := Lib.hid (show slotT rs ds k = t4 by
              rw [hS0, deadT, if_pos h3, hq, Int.toNat_natCast, ← dead_cut t q (by omega), zt, e1, e2, e3, e4])
            have y1 : ¬ 9223372036854775807 < q + 1 := by omega
            have y2 : ¬ 9223372036854775807 < q + 1 + (63 - q) := by omega
            have y3 : (q : Int) ≤ 64 := by omega
            have y4 : (q : Int) + 1 ≤ 64 := by omega
            have y5 : q ≤ 64 := by omega
            have y6 : q + 1 ≤ 64 := by omega
            have y7 : ((q : Int) + 1).toNat = q + 1 := by omega
            have y8 : (0 : Int) ≤ (q : Int) + 1 := by omega
            have y9 : ¬ 9223372036854775807 < 64 * k + 64 := by omega
            rw [hq] at x2
            rw [h3] at x1
            clear hS0 hq h3 hx hc0
            go_wp2_with fail
            go_quiet (fail)
            go_wp2_with fail
            go_roundw
            case rel => exact ⟨k + 1, by omega, by go_num, by rw [sectT, HOUT.out, HS.out], Bl.drewN B2.out _⟩
            case measure => simp [intOf]; omega
          · have HS := Lib.hid (show slotT rs ds k = t by rw [hS0, deadT, if_neg h3])
            have h4 : (x % 4 == 3) = false := by rw [beq_eq_false_iff_ne]; exact h3
            have y9 : ¬ 9223372036854775807 < 64 * k + 64 := by omega
            clear hS0 h3 hx hc0
            go_wp2_with fail
            go_roundw
            case rel => exact ⟨k + 1, by omega, by go_num, by rw [sectT, HOUT.out, HS.out], B2.out⟩
            case measure => simp [intOf]; omega
        · have HS := Lib.hid (show slotT rs ds k = t by rw [slotT, if_neg (by rw [HM.out]; exact hkm), HT.out])
          have hkm2 : ¬ (k : Int) < (m : Int) := by omega
          have y9 : ¬ 9223372036854775807 < 64 * k + 64 := by omega
          go_wp2_with fail
          go_roundw
          case rel => exact ⟨k + 1, by omega, by go_num, by rw [sectT, HOUT.out, HS.out], B2.out⟩
          case measure => simp [intOf]; omega
    · obtain rfl : k = 8 := by omega
      go_wp2
      go_ret
      exact ⟨by rw [sectB, HOUT.out]; rfl, HBL.out⟩
end Go.Proofs.Ytgfldfkgialdlaa
