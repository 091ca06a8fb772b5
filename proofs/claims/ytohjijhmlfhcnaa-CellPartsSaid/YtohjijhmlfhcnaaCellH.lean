/- The statements CellTwice, CellOver, CellParts: walks. -/
import Derived.Test.YtohjijhmlfhcnaaCellG
import Derived.Test.YtohjijhmlfhcnaaPairD
namespace Go.Proofs.Ytohjijhmlfhcnaa
set_option linter.unusedVariables false
set_option linter.unusedSimpArgs false
open Go.RowKit

theorem CellTwice_walk (s : ByteArray) (_ : s.size ≤ 140737488351232) (at_ : Int) (_ : -9223372036854775808 ≤ at_ ∧ at_ ≤ 9223372036854775807) (x : ByteArray) (_ : x.size ≤ 140737488351232) (y : ByteArray) (_ : y.size ≤ 140737488351232) (sector : Int) (_ : -9223372036854775808 ≤ sector ∧ sector ≤ 9223372036854775807) (w : World) :
    Calls Try.prog 10 #[.string s, .int .i64 at_, .string x, .string y, .int .i64 sector] w fun e w' => e = .returned (.bool true) ∧ Below w.heap.size w w' := by
  by_cases cx : 200 < (x.size : Int)
  · go_enter Try.func10, Try.ntmps10
    go_wp2_with fail
    with_reducible refine (awake1 _).mono ?_
    rintro e w1 ⟨rfl, hb⟩
    have B1 := Lib.hid (hb)
    clear hb
    go_wp2_with fail
    with_reducible refine (lcells_any s _ (by assumption)).mono ?_
    rintro e w2 ⟨rfl, hb⟩
    have B2 := Lib.hid (Bl.then B1.out hb)
    clear hb B1
    go_wp2_with fail
    go_ret
    exact ⟨rfl, B2.out⟩
  by_cases cy : 200 < (y.size : Int)
  · go_enter Try.func10, Try.ntmps10
    go_wp2_with fail
    with_reducible refine (awake1 _).mono ?_
    rintro e w1 ⟨rfl, hb⟩
    have B1 := Lib.hid (hb)
    clear hb
    go_wp2_with fail
    with_reducible refine (lcells_any s _ (by assumption)).mono ?_
    rintro e w2 ⟨rfl, hb⟩
    have B2 := Lib.hid (Bl.then B1.out hb)
    clear hb B1
    go_wp2_with fail
    go_ret
    exact ⟨rfl, B2.out⟩
  have cx' : (x.size : Int) ≤ 200 := by omega
  have cy' : (y.size : Int) ≤ 200 := by omega
  clear cx cy
  obtain ⟨r, hr, r0, r1⟩ := rem_fin at_ 3896 (by decide) (by decide)
  obtain ⟨i, hi, i0, i1⟩ := rem_fin sector 8 (by decide) (by decide)
  have za := cellsP_size s
  obtain ⟨a, ha⟩ : ∃ a, cellsP s = a := ⟨_, rfl⟩
  rw [ha] at za
  have o1 : progOk a r x = true := progOk_in za r0 (by omega)
  have o2 : progOk a r y = true := progOk_in za r0 (by omega)
  have o3 : progOk (progL a r x allB) r x = true := progOk_in (progL_size o1) r0 (by omega)
  have o4 : progOk (progL a r x allB) r y = true := progOk_in (progL_size o1) r0 (by omega)
  have o5 : progOk (progL a r y allB) r x = true := progOk_in (progL_size o2) r0 (by omega)
  have o6 : erasOk a i = true := erasOk_in za i0 i1
  have o7 : erasOk (erasL a i allB) i = true := erasOk_in (erasL_size o6) i0 i1
  have E1 := progE_of o1
  have E2 := progE_of o2
  have E3 := progE_of o3
  have E4 := progE_of o4
  have E5 := progE_of o5
  have E6 := erasE_of o6
  have E7 := erasE_of o7
  have Q1 := prog_over o1 allB
  have Q2 := prog_comm o1 o2
  have Q3 := eras_over o6 allB
  obtain ⟨p, hp⟩ : ∃ z, progL a r x allB = z := ⟨_, rfl⟩
  rw [hp] at E3 E4 Q1 Q2
  obtain ⟨t, ht⟩ : ∃ z, progL a r y allB = z := ⟨_, rfl⟩
  rw [ht] at E5 Q2
  obtain ⟨u, hu⟩ : ∃ z, progL p r y allB = z := ⟨_, rfl⟩
  rw [hu] at Q2
  obtain ⟨v, hv⟩ : ∃ z, erasL a i allB = z := ⟨_, rfl⟩
  rw [hv] at E7 Q3
  have HE1 := Lib.hid E1
  have HE2 := Lib.hid E2
  have HE3 := Lib.hid E3
  have HE4 := Lib.hid E4
  have HE5 := Lib.hid E5
  have HE6 := Lib.hid E6
  have HE7 := Lib.hid E7
  have HQ1 := Lib.hid Q1
  have HQ2 := Lib.hid Q2
  have HQ3 := Lib.hid Q3
  have Hhp := Lib.hid hp
  have Hht := Lib.hid ht
  have Hhu := Lib.hid hu
  have Hhv := Lib.hid hv
  have Hha := Lib.hid ha
  clear E1 E2 E3 E4 E5 E6 E7 Q1 Q2 Q3 hp ht hu hv ha o1 o2 o3 o4 o5 o6 o7 za
  go_enter Try.func10, Try.ntmps10
  go_wp2_with fail
  with_reducible refine (awake1 _).mono ?_
  rintro e w1 ⟨rfl, hb⟩
  have B1 := Lib.hid (hb)
  clear hb
  go_wp2_with fail
  with_reducible refine (lcells_any s _ (by assumption)).mono ?_
  rw [Hha.out]
  rintro e w2 ⟨rfl, hb⟩
  have B2 := Lib.hid (Bl.then B1.out hb)
  clear hb B1
  go_wp2_with fail
  with_reducible refine (program_any a r x _ (by omega) (by omega) (by omega)).mono ?_
  rw [Hhp.out]
  rw [HE1.out]
  rintro e w3 ⟨rfl, hb⟩
  have B3 := Lib.hid (Bl.then B2.out hb)
  clear hb B2
  go_wp2_with fail
  with_reducible refine (program_any p r x _ (by omega) (by omega) (by omega)).mono ?_
  rw [HQ1.out]
  rw [HE3.out]
  rintro e w4 ⟨rfl, hb⟩
  have B4 := Lib.hid (Bl.then B3.out hb)
  clear hb B3
  go_wp2_with fail
  with_reducible refine (program_any p r y _ (by omega) (by omega) (by omega)).mono ?_
  rw [Hhu.out]
  rw [HE4.out]
  rintro e w5 ⟨rfl, hb⟩
  have B5 := Lib.hid (Bl.then B4.out hb)
  clear hb B4
  go_wp2_with fail
  with_reducible refine (program_any a r y _ (by omega) (by omega) (by omega)).mono ?_
  rw [Hht.out]
  rw [HE2.out]
  rintro e w6 ⟨rfl, hb⟩
  have B6 := Lib.hid (Bl.then B5.out hb)
  clear hb B5
  go_wp2_with fail
  with_reducible refine (program_any t r x _ (by omega) (by omega) (by omega)).mono ?_
  rw [← HQ2.out]
  rw [HE5.out]
  rintro e w7 ⟨rfl, hb⟩
  have B7 := Lib.hid (Bl.then B6.out hb)
  clear hb B6
  go_wp2_with fail
  with_reducible refine (erase_any a i _ (by omega) (by omega)).mono ?_
  rw [Hhv.out]
  rw [HE6.out]
  rintro e w8 ⟨rfl, hb⟩
  have B8 := Lib.hid (Bl.then B7.out hb)
  clear hb B7
  go_wp2_with fail
  with_reducible refine (erase_any v i _ (by omega) (by omega)).mono ?_
  rw [HQ3.out]
  rw [HE7.out]
  rintro e w9 ⟨rfl, hb⟩
  have B9 := Lib.hid (Bl.then B8.out hb)
  clear hb B8
  go_wp2_with (go_at_call 19; refine (num_any _ _).mono ?_; rintro e w' ⟨rfl, rfl⟩)
  go_ret
  exact ⟨rfl, B9.out⟩

theorem CellOver_walk (s : ByteArray) (_ : s.size ≤ 140737488351232) (at_ : Int) (_ : -9223372036854775808 ≤ at_ ∧ at_ ≤ 9223372036854775807) (d : ByteArray) (_ : d.size ≤ 140737488351232) (sector : Int) (_ : -9223372036854775808 ≤ sector ∧ sector ≤ 9223372036854775807) (m : ByteArray) (_ : m.size ≤ 140737488351232) (w : World) :
    Calls Try.prog 11 #[.string s, .int .i64 at_, .string d, .int .i64 sector, .string m] w fun e w' => e = .returned (.bool true) ∧ Below w.heap.size w w' := by
  by_cases cx : 200 < (d.size : Int)
  · go_enter Try.func11, Try.ntmps11
    go_wp2_with fail
    with_reducible refine (awake1 _).mono ?_
    rintro e w1 ⟨rfl, hb⟩
    have B1 := Lib.hid (hb)
    clear hb
    go_wp2_with fail
    with_reducible refine (lcells_any s _ (by assumption)).mono ?_
    rintro e w2 ⟨rfl, hb⟩
    have B2 := Lib.hid (Bl.then B1.out hb)
    clear hb B1
    go_wp2_with fail
    go_ret
    exact ⟨rfl, B2.out⟩
  have cx' : (d.size : Int) ≤ 200 := by omega
  clear cx
  obtain ⟨r, hr, r0, r1⟩ := rem_fin at_ 3896 (by decide) (by decide)
  obtain ⟨i, hi, i0, i1⟩ := rem_fin sector 8 (by decide) (by decide)
  have za := cellsP_size s
  obtain ⟨a, ha⟩ : ∃ a, cellsP s = a := ⟨_, rfl⟩
  rw [ha] at za
  have o1 : progOk a r d = true := progOk_in za r0 (by omega)
  have o3 : progOk (progL a r d m) r d = true := progOk_in (progL_size o1) r0 (by omega)
  have o6 : erasOk a i = true := erasOk_in za i0 i1
  have o7 : erasOk (erasL a i m) i = true := erasOk_in (erasL_size o6) i0 i1
  have E1 := progE_of o1
  have E3 := progE_of o3
  have E6 := erasE_of o6
  have E7 := erasE_of o7
  have Q1 := prog_over o1 m
  have Q3 := eras_over o6 m
  obtain ⟨c, hc⟩ : ∃ z, progL a r d m = z := ⟨_, rfl⟩
  rw [hc] at E3 Q1
  obtain ⟨p, hp⟩ : ∃ z, progL a r d allB = z := ⟨_, rfl⟩
  rw [hp] at Q1
  obtain ⟨v, hv⟩ : ∃ z, erasL a i m = z := ⟨_, rfl⟩
  rw [hv] at E7 Q3
  obtain ⟨u, hu⟩ : ∃ z, erasL a i allB = z := ⟨_, rfl⟩
  rw [hu] at Q3
  have HE1 := Lib.hid E1
  have HE3 := Lib.hid E3
  have HE6 := Lib.hid E6
  have HE7 := Lib.hid E7
  have HQ1 := Lib.hid Q1
  have HQ3 := Lib.hid Q3
  have Hhc := Lib.hid hc
  have Hhp := Lib.hid hp
  have Hhu := Lib.hid hu
  have Hhv := Lib.hid hv
  have Hha := Lib.hid ha
  clear E1 E3 E6 E7 Q1 Q3 hc hp hu hv ha o1 o3 o6 o7 za
  go_enter Try.func11, Try.ntmps11
  go_wp2_with fail
  with_reducible refine (awake1 _).mono ?_
  rintro e w1 ⟨rfl, hb⟩
  have B1 := Lib.hid (hb)
  clear hb
  go_wp2_with fail
  with_reducible refine (lcells_any s _ (by assumption)).mono ?_
  rw [Hha.out]
  rintro e w2 ⟨rfl, hb⟩
  have B2 := Lib.hid (Bl.then B1.out hb)
  clear hb B1
  go_wp2_with fail
  with_reducible refine (prog_any a r d m _ (by omega) (by omega) (by omega)).mono ?_
  rw [Hhc.out]
  rw [HE1.out]
  rintro e w3 ⟨rfl, hb⟩
  have B3 := Lib.hid (Bl.then B2.out hb)
  clear hb B2
  go_wp2_with fail
  with_reducible refine (program_any c r d _ (by omega) (by omega) (by omega)).mono ?_
  rw [HQ1.out]
  rw [HE3.out]
  rintro e w4 ⟨rfl, hb⟩
  have B4 := Lib.hid (Bl.then B3.out hb)
  clear hb B3
  go_wp2_with fail
  with_reducible refine (program_any a r d _ (by omega) (by omega) (by omega)).mono ?_
  rw [Hhp.out]
  rw [HE1.out]
  rintro e w5 ⟨rfl, hb⟩
  have B5 := Lib.hid (Bl.then B4.out hb)
  clear hb B4
  go_wp2_with fail
  with_reducible refine (eras_any a i m _ (by omega) (by omega)).mono ?_
  rw [Hhv.out]
  rw [HE6.out]
  rintro e w6 ⟨rfl, hb⟩
  have B6 := Lib.hid (Bl.then B5.out hb)
  clear hb B5
  go_wp2_with fail
  with_reducible refine (erase_any v i _ (by omega) (by omega)).mono ?_
  rw [HQ3.out]
  rw [HE7.out]
  rintro e w7 ⟨rfl, hb⟩
  have B7 := Lib.hid (Bl.then B6.out hb)
  clear hb B6
  go_wp2_with fail
  with_reducible refine (erase_any a i _ (by omega) (by omega)).mono ?_
  rw [Hhu.out]
  rw [HE6.out]
  rintro e w8 ⟨rfl, hb⟩
  have B8 := Lib.hid (Bl.then B7.out hb)
  clear hb B7
  go_wp2_with (go_at_call 19; refine (num_any _ _).mono ?_; rintro e w' ⟨rfl, rfl⟩)
  go_ret
  exact ⟨rfl, B8.out⟩

theorem CellParts_walk (s : ByteArray) (_ : s.size ≤ 140737488351232) (at_ : Int) (_ : -9223372036854775808 ≤ at_ ∧ at_ ≤ 9223372036854775807) (d : ByteArray) (_ : d.size ≤ 140737488351232) (cut : Int) (_ : -9223372036854775808 ≤ cut ∧ cut ≤ 9223372036854775807) (i : Int) (_ : -9223372036854775808 ≤ i ∧ i ≤ 9223372036854775807) (j : Int) (_ : -9223372036854775808 ≤ j ∧ j ≤ 9223372036854775807) (w : World) :
    Calls Try.prog 12 #[.string s, .int .i64 at_, .string d, .int .i64 cut, .int .i64 i, .int .i64 j] w fun e w' => e = .returned (.bool true) ∧ Below w.heap.size w w' := by
  by_cases cx : 200 < (d.size : Int)
  · go_enter Try.func12, Try.ntmps12
    go_wp2_with fail
    with_reducible refine (awake1 _).mono ?_
    rintro e w1 ⟨rfl, hb⟩
    have B1 := Lib.hid (hb)
    clear hb
    go_wp2_with fail
    with_reducible refine (lcells_any s _ (by assumption)).mono ?_
    rintro e w2 ⟨rfl, hb⟩
    have B2 := Lib.hid (Bl.then B1.out hb)
    clear hb B1
    go_wp2_with fail
    go_ret
    exact ⟨rfl, B2.out⟩
  have cx' : (d.size : Int) ≤ 200 := by omega
  clear cx
  obtain ⟨r, hr, r0, r1⟩ := rem_fin at_ 3896 (by decide) (by decide)
  obtain ⟨c, hc, c0, c1⟩ := rem_fin cut ((d.size : Int) + 1) (by omega) (by omega)
  obtain ⟨x, hx, x0, x1⟩ := rem_fin i 8 (by decide) (by decide)
  obtain ⟨y, hy, y0, y1⟩ := rem_fin j 8 (by decide) (by decide)
  have ce : ((d.size : Int) + 1 == 0) = false := by rw [beq_eq_false_iff_ne]; omega
  have cw : IntKind.u64.wrap ((d.size : Int) + 1) = (d.size : Int) + 1 := IntWalk.u64_in _ (by omega)
  have cl : c ≤ (d.size : Int) := by omega
  have kc : IntKind.i64.wrap (r + c) = r + c := IntWalk.i64_in _ (by omega)
  have za := cellsP_size s
  obtain ⟨a, ha⟩ : ∃ a, cellsP s = a := ⟨_, rfl⟩
  rw [ha] at za
  have s1 := ext_data d 0 c.toNat (by omega)
  have s2 := ext_data d c.toNat d.size (by omega)
  have o1 : progOk a r d = true := progOk_in za r0 (by omega)
  have o2 : progOk a r (d.extract 0 c.toNat) = true := progOk_in za r0 (by omega)
  have o3 : progOk (progL a r (d.extract 0 c.toNat) allB) (r + c) (d.extract c.toNat d.size) = true := progOk_in (progL_size o2) (by omega) (by omega)
  have o4 : erasOk a x = true := erasOk_in za x0 x1
  have o5 : erasOk a y = true := erasOk_in za y0 y1
  have o6 : erasOk (erasL a x allB) y = true := erasOk_in (erasL_size o4) y0 y1
  have o7 : erasOk (erasL a y allB) x = true := erasOk_in (erasL_size o5) x0 x1
  have E1 := progE_of o1
  have E2 := progE_of o2
  have E3 := progE_of o3
  have E4 := erasE_of o4
  have E5 := erasE_of o5
  have E6 := erasE_of o6
  have E7 := erasE_of o7
  have Q1 := prog_parts o1 c0 (by omega)
  have Q2 := eras_comm o4 o5
  obtain ⟨p, hp⟩ : ∃ z, progL a r d allB = z := ⟨_, rfl⟩
  rw [hp] at Q1
  obtain ⟨q, hq⟩ : ∃ z, progL a r (d.extract 0 c.toNat) allB = z := ⟨_, rfl⟩
  rw [hq] at E3 Q1
  obtain ⟨u, hu⟩ : ∃ z, erasL a x allB = z := ⟨_, rfl⟩
  rw [hu] at E6 Q2
  obtain ⟨v, hv⟩ : ∃ z, erasL a y allB = z := ⟨_, rfl⟩
  rw [hv] at E7 Q2
  obtain ⟨z, hz⟩ : ∃ z, erasL u y allB = z := ⟨_, rfl⟩
  rw [hz] at Q2
  have HE1 := Lib.hid E1
  have HE2 := Lib.hid E2
  have HE3 := Lib.hid E3
  have HE4 := Lib.hid E4
  have HE5 := Lib.hid E5
  have HE6 := Lib.hid E6
  have HE7 := Lib.hid E7
  have HQ1 := Lib.hid Q1
  have HQ2 := Lib.hid Q2
  have Hhp := Lib.hid hp
  have Hhq := Lib.hid hq
  have Hhu := Lib.hid hu
  have Hhv := Lib.hid hv
  have Hhz := Lib.hid hz
  have Hha := Lib.hid ha
  have Hs1 := Lib.hid s1
  have Hs2 := Lib.hid s2
  clear E1 E2 E3 E4 E5 E6 E7 Q1 Q2 hp hq hu hv hz ha s1 s2 o1 o2 o3 o4 o5 o6 o7 za
  go_enter Try.func12, Try.ntmps12
  go_wp2_with fail
  with_reducible refine (awake1 _).mono ?_
  rintro e w1 ⟨rfl, hb⟩
  have B1 := Lib.hid (hb)
  clear hb
  go_wp2_with fail
  with_reducible refine (lcells_any s _ (by assumption)).mono ?_
  rw [Hha.out]
  rintro e w2 ⟨rfl, hb⟩
  have B2 := Lib.hid (Bl.then B1.out hb)
  clear hb B1
  go_wp2_with fail
  with_reducible refine (program_any a r d _ (by omega) (by omega) (by omega)).mono ?_
  rw [Hhp.out]
  rw [HE1.out]
  rintro e w3 ⟨rfl, hb⟩
  have B3 := Lib.hid (Bl.then B2.out hb)
  clear hb B2
  go_wp2_with fail
  with_reducible refine (program_any a r (d.extract 0 c.toNat) _ (by rw [Hs1.out]; omega) (by omega) (by omega)).mono ?_
  rw [Hhq.out]
  rw [HE2.out]
  rintro e w4 ⟨rfl, hb⟩
  have B4 := Lib.hid (Bl.then B3.out hb)
  clear hb B3
  go_wp2_with fail
  with_reducible refine (program_any q (r + c) (d.extract c.toNat d.size) _ (by rw [Hs2.out]; omega) (by omega) (by omega)).mono ?_
  rw [HQ1.out]
  rw [HE3.out]
  rintro e w5 ⟨rfl, hb⟩
  have B5 := Lib.hid (Bl.then B4.out hb)
  clear hb B4
  go_wp2_with fail
  with_reducible refine (erase_any a x _ (by omega) (by omega)).mono ?_
  rw [Hhu.out]
  rw [HE4.out]
  rintro e w6 ⟨rfl, hb⟩
  have B6 := Lib.hid (Bl.then B5.out hb)
  clear hb B5
  go_wp2_with fail
  with_reducible refine (erase_any u y _ (by omega) (by omega)).mono ?_
  rw [Hhz.out]
  rw [HE6.out]
  rintro e w7 ⟨rfl, hb⟩
  have B7 := Lib.hid (Bl.then B6.out hb)
  clear hb B6
  go_wp2_with fail
  with_reducible refine (erase_any a y _ (by omega) (by omega)).mono ?_
  rw [Hhv.out]
  rw [HE5.out]
  rintro e w8 ⟨rfl, hb⟩
  have B8 := Lib.hid (Bl.then B7.out hb)
  clear hb B7
  go_wp2_with fail
  with_reducible refine (erase_any v x _ (by omega) (by omega)).mono ?_
  rw [← HQ2.out]
  rw [HE7.out]
  rintro e w9 ⟨rfl, hb⟩
  have B9 := Lib.hid (Bl.then B8.out hb)
  clear hb B8
  go_wp2_with (go_at_call 19; refine (num_any _ _).mono ?_; rintro e w' ⟨rfl, rfl⟩)
  go_ret
  exact ⟨rfl, B9.out⟩

end Go.Proofs.Ytohjijhmlfhcnaa
