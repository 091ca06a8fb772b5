/- The statement CellBits: the plain law, the walk. -/
import Derived.Test.YtohjijhmlfhcnaaCellG
import Derived.Test.YtohjijhmlfhcnaaPairD
import Derived.Deep.QuietTactic
import Derived.BigQuiet
namespace Go.Proofs.Ytohjijhmlfhcnaa
set_option linter.unusedVariables false
set_option linter.unusedSimpArgs false
open Go.RowKit

theorem u8_cut (b d m : UInt8) : (b &&& ~~~(m &&& ~~~d)) &&& (b &&& d) = b &&& d := by
  refine u8_eq fun i hi => ?_
  simp only [UInt8.toBitVec_and, UInt8.toBitVec_not, BitVec.getLsbD_and, BitVec.getLsbD_not, hi, decide_true, Bool.true_and]
  generalize b.toBitVec.getLsbD i = p
  generalize d.toBitVec.getLsbD i = q
  generalize m.toBitVec.getLsbD i = r
  revert p q r; decide
theorem u8_abs (b m : UInt8) : (b &&& m) ||| b = b := by
  refine u8_eq fun i hi => ?_
  simp only [UInt8.toBitVec_and, UInt8.toBitVec_or, BitVec.getLsbD_and, BitVec.getLsbD_or]
  generalize b.toBitVec.getLsbD i = p
  generalize m.toBitVec.getLsbD i = r
  revert p r; decide
theorem u8_abs2 (b m : UInt8) : (b ||| m) &&& b = b := by
  refine u8_eq fun i hi => ?_
  simp only [UInt8.toBitVec_and, UInt8.toBitVec_or, BitVec.getLsbD_and, BitVec.getLsbD_or]
  generalize b.toBitVec.getLsbD i = p
  generalize m.toBitVec.getLsbD i = r
  revert p r; decide

theorem prog_round {a : ByteArray} {t : Nat} {d : ByteArray} (h : progOk a t d = true) (m : ByteArray) (j : Nat) :
    (gB (progL a t d m) j &&& gB (progL a t d allB) j = gB (progL a t d allB) j) ∧ (gB (progL a t d m) j ||| gB a j = gB a j)
    ∧ ((t ≤ j ∧ j < t + d.size) → gB (progL a t d allB) j = gB a j &&& gB d (j - t)) ∧ (¬ (t ≤ j ∧ j < t + d.size) → gB (progL a t d allB) j = gB a j) := by
  rw [progL_get h, progL_get h]
  simp only [Int.toNat_natCast]
  by_cases c : t ≤ j ∧ j < t + d.size
  · rw [if_pos c, if_pos c, progF_all, progF]
    exact ⟨u8_cut _ _ _, u8_abs _ _, fun _ => rfl, fun h => absurd c h⟩
  · rw [if_neg c, if_neg c]
    exact ⟨UInt8.and_self, UInt8.or_self, fun h => absurd h c, fun _ => rfl⟩
theorem eras_round {a : ByteArray} {x : Nat} (h : erasOk a x = true) (m : ByteArray) (j : Nat) :
    (gB (erasL a x m) j &&& gB a j = gB a j) ∧ (gB (erasL a x m) j ||| gB (erasL a x allB) j = gB (erasL a x allB) j)
    ∧ (j / 512 = x → gB (erasL a x allB) j = 255) ∧ (¬ j / 512 = x → gB (erasL a x allB) j = gB a j) := by
  rw [erasL_get h, erasL_get h]
  simp only [Int.toNat_natCast]
  by_cases c : 512 * x ≤ j ∧ j < 512 * x + 512
  · rw [if_pos c, if_pos c, erasF_all, erasF]
    exact ⟨u8_abs2 _ _, u8_or255 _, fun _ => rfl, fun h => by omega⟩
  · rw [if_neg c, if_neg c]
    exact ⟨UInt8.and_self, UInt8.or_self, fun h => by omega, fun _ => rfl⟩
theorem eras_none {a : ByteArray} {x : Int} (h : erasOk a x = true) : erasL a x ⟨#[]⟩ = a := by
  refine ext_gB (by rw [erasL_size h, (erasOk_of h).1]) fun j hj => ?_
  rw [erasL_get h]
  split
  · have e : maskB (⟨#[]⟩ : ByteArray).data.toList (j - 512 * x.toNat) = 0 := by simp [maskB]
    rw [erasF, e, UInt8.or_zero]
  · rfl
set_option maxRecDepth 100000 in
set_option maxHeartbeats 8000000 in
theorem CellBits_walk (s : ByteArray) (_ : s.size ≤ 140737488351232) (at_ : Int) (_ : -9223372036854775808 ≤ at_ ∧ at_ ≤ 9223372036854775807) (d : ByteArray) (_ : d.size ≤ 140737488351232) (sector : Int) (_ : -9223372036854775808 ≤ sector ∧ sector ≤ 9223372036854775807) (m : ByteArray) (_ : m.size ≤ 140737488351232) (w : World) :
    Calls Try.prog 8 #[.string s, .int .i64 at_, .string d, .int .i64 sector, .string m] w fun e w' => e = .returned (.bool true) ∧ Below w.heap.size w w' := by
  by_cases cx : 200 < (d.size : Int)
  · go_enter Try.func8, Try.ntmps8
    go_wp2_with fail
    with_reducible refine (awake1 _).mono ?_
    rintro e w1 ⟨rfl, hb⟩
    have B1 := Lib.hid (hb)
    clear hb
    go_wp2_with fail
    with_reducible refine (lcells_any s _ (by assumption)).mono ?_
    rintro e w2 ⟨rfl, hb⟩
    have B2 := Lib.hid (Bl.then B1.out hb)
    clear hb B1
    go_wp2_with fail
    go_ret
    exact ⟨rfl, B2.out⟩
  have cx' : (d.size : Int) ≤ 200 := by omega
  clear cx
  obtain ⟨r, hr, r0, r1⟩ := rem_fin at_ 3896 (by decide) (by decide)
  obtain ⟨i, hi, i0, i1⟩ := rem_fin sector 8 (by decide) (by decide)
  obtain ⟨t, rfl⟩ := Int.eq_ofNat_of_zero_le r0
  obtain ⟨u, rfl⟩ := Int.eq_ofNat_of_zero_le i0
  have za := cellsP_size s
  obtain ⟨a, ha⟩ : ∃ a, cellsP s = a := ⟨_, rfl⟩
  rw [ha] at za
  have o1 : progOk a t d = true := progOk_in za r0 (by omega)
  have o2 : erasOk a u = true := erasOk_in za i0 i1
  have E1 := Lib.hid (progE_of o1)
  have E2 := Lib.hid (erasE_of o2)
  have E3 := Lib.hid (eras_none o2)
  have R1 := prog_round o1 m
  have R2 := eras_round o2 m
  have z1 := progL_size (m := allB) o1
  have z2 := progL_size (m := m) o1
  have z3 := erasL_size (m := allB) o2
  have z4 := erasL_size (m := m) o2
  obtain ⟨p, hp⟩ : ∃ z, progL a t d allB = z := ⟨_, rfl⟩
  obtain ⟨c, hc⟩ : ∃ z, progL a t d m = z := ⟨_, rfl⟩
  obtain ⟨x, hx⟩ : ∃ z, erasL a u allB = z := ⟨_, rfl⟩
  obtain ⟨v, hv⟩ : ∃ z, erasL a u m = z := ⟨_, rfl⟩
  rw [hp] at z1
  rw [hc] at z2
  rw [hx] at z3
  rw [hv] at z4
  rw [hp, hc] at R1
  rw [hx, hv] at R2
  have HA := Lib.hid ha
  have HP := Lib.hid hp
  have HC := Lib.hid hc
  have HX := Lib.hid hx
  have HV := Lib.hid hv
  have HR1 := Lib.hid R1
  have HR2 := Lib.hid R2
  have HQ := Lib.hid (show progL a t d ⟨#[255]⟩ = p from hp)
  clear ha hp hc hx hv R1 R2 o1 o2
  go_enter Try.func8, Try.ntmps8
  go_wp2_with fail
  with_reducible refine (awake1 _).mono ?_
  rintro e w1 ⟨rfl, hb⟩
  have B1 := Lib.hid (hb)
  clear hb
  go_wp2_with fail
  with_reducible refine (lcells_any s _ (by assumption)).mono ?_
  rw [HA.out]
  rintro e w2 ⟨rfl, hb⟩
  have B2 := Lib.hid (Bl.then B1.out hb)
  clear hb B1
  go_wp2_with fail
  with_reducible refine (program_any a t d _ (by omega) (by omega) (by omega)).mono ?_
  rw [HP.out]
  rw [E1.out]
  rintro e w3 ⟨rfl, hb⟩
  have B3 := Lib.hid (Bl.then B2.out hb)
  clear hb B2
  go_wp2_with fail
  with_reducible refine (prog_any a t d m _ (by omega) (by omega) (by omega)).mono ?_
  rw [HC.out]
  rw [E1.out]
  rintro e w4 ⟨rfl, hb⟩
  have B4 := Lib.hid (Bl.then B3.out hb)
  clear hb B3
  go_wp2_with fail
  with_reducible refine (erase_any a u _ (by omega) (by omega)).mono ?_
  rw [HX.out]
  rw [E2.out]
  rintro e w5 ⟨rfl, hb⟩
  have B5 := Lib.hid (Bl.then B4.out hb)
  clear hb B4
  go_wp2_with fail
  with_reducible refine (eras_any a u m _ (by omega) (by omega)).mono ?_
  rw [HV.out]
  rw [E2.out]
  rintro e w6 ⟨rfl, hb⟩
  have B6 := Lib.hid (Bl.then B5.out hb)
  clear hb B5
  go_wp2_with fail
  with_reducible refine (prog_any a t d ⟨#[255]⟩ _ (by omega) (by omega) (by omega)).mono ?_
  rw [HQ.out]
  rw [E1.out]
  rintro e w7 ⟨rfl, hb⟩
  have B7 := Lib.hid (Bl.then B6.out hb)
  clear hb B6
  go_wp2_with fail
  with_reducible refine (eras_any a u ⟨#[]⟩ _ (by omega) (by omega)).mono ?_
  rw [E3.out]
  rw [E2.out]
  rintro e w8 ⟨rfl, hb⟩
  have B8 := Lib.hid (Bl.then B7.out hb)
  clear hb B7
  go_wp2_with (go_at_call 19; refine (num_any _ _).mono ?_; rintro e w' ⟨rfl, rfl⟩)
  go_loopw [26] (fun i wr => ∃ k : Nat, k ≤ 4096 ∧ i = .int .i64 k ∧ Below w.heap.size w wr) (fun i _ => (4096 - intOf i).toNat)
  case atStart => exact ⟨0, by omega, rfl, B8.out⟩
  case round =>
    obtain ⟨k, hk, rfl, hb⟩ := hrel
    have HB := Lib.hid hb
    clear hb
    by_cases hlt : k < 4096
    · obtain ⟨a1, a2, a3, a4⟩ := HR1.out k
      obtain ⟨b1, b2, b3, b4⟩ := HR2.out k
      have fa := get_gB a k (by omega)
      have fp := get_gB p k (by omega)
      have fc := get_gB c k (by omega)
      have fx := get_gB x k (by omega)
      have fv := get_gB v k (by omega)
      generalize gB a k = va at *
      generalize gB p k = vp at *
      generalize gB c k = vc at *
      generalize gB x k = vx at *
      generalize gB v k = vv at *
      have l1 : bits .and .u8 (vc.toNat : Int) (vp.toNat : Int) = (vp.toNat : Int) := by rw [u8_and, a1]
      have l2 : bits .or .u8 (vc.toNat : Int) (va.toNat : Int) = (va.toNat : Int) := by rw [u8_or, a2]
      have l3 : bits .and .u8 (vv.toNat : Int) (va.toNat : Int) = (va.toNat : Int) := by rw [u8_and, b1]
      have l4 : bits .or .u8 (vv.toNat : Int) (vx.toNat : Int) = (vx.toNat : Int) := by rw [u8_or, b2]
      clear a1 a2 b1 b2
      have A3 := Lib.hid a3
      have A4 := Lib.hid a4
      have B3 := Lib.hid b3
      have B4 := Lib.hid b4
      clear a3 a4 b3 b4
      by_cases c1 : t ≤ k ∧ k < t + d.size
      · have hs : k - t < d.size := by omega
        have fd := get_gB d (k - t) hs
        have e1 := A3.out c1
        generalize gB d (k - t) = vd at *
        have l5 : bits .and .u8 (va.toNat : Int) (vd.toNat : Int) = (vp.toNat : Int) := by rw [u8_and, ← e1]
        have c2 : (t : Int) ≤ k := by omega
        have c3 : (k : Int) < (t : Int) + (d.size : Int) := by omega
        have c4 : ((k : Int) - (t : Int)).toNat = k - t := by omega
        have c5 : (0 : Int) ≤ (k : Int) - (t : Int) := by omega
        have c6 : (k : Int) - (t : Int) < (d.size : Int) := by omega
        clear A3 A4 e1 c1
        by_cases o : k / 512 = u
        · have e2 := B3.out o
          have l6 : (vx.toNat : Int) = 255 := by rw [e2]; rfl
          have l7 : ((k : Int) / 512 == (u : Int)) = true := by rw [beq_iff_eq]; omega
          rw [l6] at l4
          clear e2
          clear B3 B4 o
          go_wp2_with fail
          go_quiet (fail)
          go_wp2_with fail
          go_quiet (fail)
          go_wp2
          go_roundw
          case rel => exact ⟨k + 1, by omega, by go_num, by exact Bl.drewN HB.out _⟩
          case measure => simp [intOf]; omega
        · have e2 := B4.out o
          subst e2
          have l7 : ((k : Int) / 512 == (u : Int)) = false := by rw [beq_eq_false_iff_ne]; omega
          clear B3 B4 o
          go_wp2_with fail
          go_quiet (fail)
          go_wp2_with fail
          go_quiet (fail)
          go_wp2
          go_roundw
          case rel => exact ⟨k + 1, by omega, by go_num, by exact Bl.drewN HB.out _⟩
          case measure => simp [intOf]; omega
      · have e1 := A4.out c1
        subst e1
        clear A3 A4
        by_cases c2 : (k : Int) < (t : Int)
        · clear c1
          by_cases o : k / 512 = u
          · have e2 := B3.out o
            have l6 : (vx.toNat : Int) = 255 := by rw [e2]; rfl
            have l7 : ((k : Int) / 512 == (u : Int)) = true := by rw [beq_iff_eq]; omega
            rw [l6] at l4
            clear e2
            clear B3 B4 o
            go_wp2_with fail
            go_quiet (fail)
            go_wp2_with fail
            go_quiet (fail)
            go_wp2
            go_roundw
            case rel => exact ⟨k + 1, by omega, by go_num, by exact Bl.drewN HB.out _⟩
            case measure => simp [intOf]; omega
          · have e2 := B4.out o
            subst e2
            have l7 : ((k : Int) / 512 == (u : Int)) = false := by rw [beq_eq_false_iff_ne]; omega
            clear B3 B4 o
            go_wp2_with fail
            go_quiet (fail)
            go_wp2_with fail
            go_quiet (fail)
            go_wp2
            go_roundw
            case rel => exact ⟨k + 1, by omega, by go_num, by exact Bl.drewN HB.out _⟩
            case measure => simp [intOf]; omega
        · have c3 : (t : Int) + (d.size : Int) ≤ (k : Int) := by omega
          have c4 : (t : Int) ≤ (k : Int) := by omega
          have c5 : decide ((k : Int) < (t : Int) + (d.size : Int)) = false := decide_eq_false (by omega)
          clear c1 c2
          by_cases o : k / 512 = u
          · have e2 := B3.out o
            have l6 : (vx.toNat : Int) = 255 := by rw [e2]; rfl
            have l7 : ((k : Int) / 512 == (u : Int)) = true := by rw [beq_iff_eq]; omega
            rw [l6] at l4
            clear e2
            clear B3 B4 o
            go_wp2_with fail
            go_quiet (fail)
            go_wp2_with fail
            go_quiet (fail)
            go_wp2
            go_roundw
            case rel => exact ⟨k + 1, by omega, by go_num, by exact Bl.drewN HB.out _⟩
            case measure => simp [intOf]; omega
          · have e2 := B4.out o
            subst e2
            have l7 : ((k : Int) / 512 == (u : Int)) = false := by rw [beq_eq_false_iff_ne]; omega
            clear B3 B4 o
            go_wp2_with fail
            go_quiet (fail)
            go_wp2_with fail
            go_quiet (fail)
            go_wp2
            go_roundw
            case rel => exact ⟨k + 1, by omega, by go_num, by exact Bl.drewN HB.out _⟩
            case measure => simp [intOf]; omega
    · have h5 : (4096 : Int) ≤ k := by omega
      go_wp2
      go_ret
      exact ⟨rfl, HB.out⟩
end Go.Proofs.Ytohjijhmlfhcnaa
