/- The statement PairWhole: the walk. -/
import Derived.Test.YtohjijhmlfhcnaaPairK
import Derived.Test.YtohjijhmlfhcnaaPairD
import Derived.Deep.RegionHeld3
namespace Go.Proofs.Ytohjijhmlfhcnaa
set_option linter.unusedVariables false
set_option linter.unusedSimpArgs false
open Go.RowKit

set_option maxRecDepth 100000 in
set_option maxHeartbeats 2000000 in
theorem PairWhole_walk (s : ByteArray) (_ : s.size ≤ 140737488351232) (m1 : ByteArray) (_ : m1.size ≤ 140737488351232) (m2 : ByteArray) (_ : m2.size ≤ 140737488351232) (m3 : ByteArray) (_ : m3.size ≤ 140737488351232) (slot : Int) (_ : -9223372036854775808 ≤ slot ∧ slot ≤ 9223372036854775807) (w : World) :
    Calls Try.prog 14 #[.string s, .string m1, .string m2, .string m3, .int .i64 slot] w fun e w' => e = .returned (.bool true) ∧ Below w.heap.size w w' := by
  obtain ⟨r, hr, r0, r1⟩ := rem_fin slot 64 (by decide) (by decide)
  obtain ⟨r, rfl⟩ := Int.eq_ofNat_of_zero_le r0
  obtain ⟨at_, hat⟩ : ∃ z, 64 * r = z := ⟨_, rfl⟩
  obtain ⟨x, hx⟩ : ∃ z, str (textL s.data.toList 32) = z := ⟨_, rfl⟩
  have zx : x.size = 32 := by rw [← hx, str_size, textL_len]
  obtain ⟨t, ht⟩ : ∃ z, (putP x).1 = z := ⟨_, rfl⟩
  have pt : putP x = (t, 0) := by rw [← ht, ← put_err zx]
  have zt : t.size = 64 := by rw [← ht]; exact put_size zx
  obtain ⟨lo, hlo⟩ : ∃ z, t.extract 0 32 = z := ⟨_, rfl⟩
  obtain ⟨hi, hhi⟩ : ∃ z, t.extract 32 64 = z := ⟨_, rfl⟩
  have zlo : lo.size = 32 := by rw [← hlo]; exact ext_data t 0 32 (by omega)
  have zhi : hi.size = 32 := by rw [← hhi]; exact ext_data t 32 64 (by omega)
  obtain ⟨a, ha⟩ : ∃ z, progL (str blankL) (at_ : Int) lo m1 = z := ⟨_, rfl⟩
  obtain ⟨b, hb⟩ : ∃ z, progL a ((at_ + 32 : Nat) : Int) hi m2 = z := ⟨_, rfl⟩
  obtain ⟨u, hu⟩ : ∃ z, b.extract at_ (at_ + 64) = z := ⟨_, rfl⟩
  obtain ⟨c, hc⟩ : ∃ z, erasL b ((r / 8 : Nat) : Int) m3 = z := ⟨_, rfl⟩
  obtain ⟨v, hv⟩ : ∃ z, c.extract at_ (at_ + 64) = z := ⟨_, rfl⟩
  obtain ⟨k1, k2, k3, k4, k5, k6, k7⟩ := whole_slot (x := x) (t := t) (a := a) (b := b) (c := c) (u := u) (v := v) (r := r) (m1 := m1) (m2 := m2) (m3 := m3) zx (by omega) ht (by rw [hlo, hat]; exact ha) (by rw [hhi, hat]; exact hb) (by rw [hat]; exact hu) hc (by rw [hat]; exact hv)
  rw [hlo, hat] at k1
  rw [hhi, hat] at k2
  have a1 : (64 : Int) * (r : Int) = (at_ : Int) := by omega
  have a2 : ((at_ : Int) + 32) = ((at_ + 32 : Nat) : Int) := by omega
  have a3 : ((at_ : Int) / 512) = ((r / 8 : Nat) : Int) := by omega
  have a4 : ((at_ : Int) + 64).toNat = at_ + 64 := by omega
  have a5 : (at_ : Int) ≤ 4032 := by omega
  have K1 := Lib.hid k1
  have K2 := Lib.hid k2
  have K3 := Lib.hid k3
  have HX := Lib.hid hx
  have HT := Lib.hid pt
  have HA := Lib.hid ha
  have HB := Lib.hid hb
  have HC := Lib.hid hc
  have hq : (r / 8 : Nat) ≤ 7 := by omega
  clear k1 k2 k3 hx ht pt ha hb hc zx hat
  have HP := Lib.hid a2
  clear a2
  rcases k7 with ⟨g1, g2, g3, g4⟩ | ⟨g1, g2, g3, g4, g5⟩ | ⟨g1, g2, g3⟩
  · have gu := g1
    have gv := g3
    have f1 := eq_tl g2
    have f2 := eq_tl g4
    clear g1 g2 g3 g4
    obtain ⟨bl, hbl⟩ : ∃ z, str blankL = z := ⟨_, rfl⟩
    have c1 := fun w => prog_any (str blankL) (at_ : Int) lo m1 w (by omega) (by omega) (by omega)
    have c2 := fun w => prog_any a ((at_ + 32 : Nat) : Int) hi m2 w (by omega) (by omega) (by omega)
    have c3 := fun w => eras_any b ((r / 8 : Nat) : Int) m3 w (by omega) (by omega)
    rw [HA.out, K1.out, hbl] at c1
    rw [HB.out, K2.out, ← HP.out] at c2
    rw [HC.out, K3.out] at c3
    rw [show ((r / 8 : Nat) : Int) = (r : Int) / 8 by omega] at c3
    have gu2 := fun w => get_any u w
    rw [gu] at gu2
    have gv2 := fun w => get_any v w
    rw [gv] at gv2
    have C1 := Lib.hid c1
    have C2 := Lib.hid c2
    have C3 := Lib.hid c3
    have GU := Lib.hid gu2
    have GV := Lib.hid gv2
    have HBL := Lib.hid hbl
    have mn : min (64 : Int) 32 = 32 := by decide
    have b1 : (at_ : Int) + 64 ≤ 4096 := by omega
    have b2 : (at_ : Int) ≤ (at_ : Int) + 64 := by omega
    have b3 : (0 : Int) ≤ (at_ : Int) + 64 := by omega
    have b4 : at_ + 64 ≤ 4096 := by omega
    have b5 : at_ ≤ at_ + 64 := by omega
    clear c1 c2 c3 gu gv gu2 gv2 hbl
    go_enter Try.func14, Try.ntmps14
    go_wp2_with fail
    with_reducible refine (awake2 _).mono ?_
    rintro e w1 ⟨rfl, hb⟩
    have B1 := Lib.hid (hb)
    clear hb
    go_wp2_with fail
    with_reducible refine (text_int s 32 _ (by decide) (by decide)).mono ?_
    rw [show str (textL _ (32 : Int).toNat) = x from HX.out]
    rintro e w2 ⟨rfl, hb⟩
    have B2 := Lib.hid (Bl.then B1.out hb)
    clear hb B1
    go_wp2_with fail
    with_reducible refine (put_any x _).mono ?_
    rw [HT.out]
    rintro e w3 ⟨rfl, hb⟩
    have B3 := Lib.hid (Bl.then B2.out hb)
    clear hb B2
    go_wp2_with fail
    have SH := Lib.hid (show Below w.heap.size w w3.drew from Bl.drewN B3.out 1)
    clear B3
    go_region_held3 (fun w' => Below w.heap.size w w') (first | exact SH.out | assumption | exact hs2) (first | (go_at_call 34; with_reducible refine (blank_any _).mono ?_; rw [HBL.out]; rintro e w4 ⟨rfl, hb⟩; have hs2 : Below w.heap.size w w4 := Bl.then (by assumption) hb) | (go_at_call 25; with_reducible refine (C1.out _).mono ?_; rintro e w4 ⟨rfl, hb⟩; have hs2 : Below w.heap.size w w4 := Bl.then (by assumption) hb))
    all_goals (
      have B4 := Lib.hid (show Below w.heap.size w _ by assumption)
      go_wp2_with (go_at_call 19; refine (num_any _ _).mono ?_; rintro e w' ⟨rfl, rfl⟩)
      with_reducible refine (C2.out _).mono ?_
      rintro e w5 ⟨rfl, hb⟩
      have B5 := Lib.hid (Bl.then B4.out hb)
      clear hb
      go_wp2_with (go_at_call 19; refine (num_any _ _).mono ?_; rintro e w' ⟨rfl, rfl⟩)
      with_reducible refine (GU.out _).mono ?_
      rintro e w6 ⟨rfl, hb⟩
      have B6 := Lib.hid (Bl.then B5.out hb)
      clear hb
      go_wp2_with (go_at_call 19; refine (num_any _ _).mono ?_; rintro e w' ⟨rfl, rfl⟩)
      with_reducible refine (C3.out _).mono ?_
      rintro e w7 ⟨rfl, hb⟩
      have B7 := Lib.hid (Bl.then B6.out hb)
      clear hb
      go_wp2_with (go_at_call 19; refine (num_any _ _).mono ?_; rintro e w' ⟨rfl, rfl⟩)
      with_reducible refine (GV.out _).mono ?_
      rintro e w8 ⟨rfl, hb⟩
      have B8 := Lib.hid (Bl.then B7.out hb)
      clear hb
      go_wp2_with (go_at_call 19; refine (num_any _ _).mono ?_; rintro e w' ⟨rfl, rfl⟩)
      all_goals (go_ret; exact ⟨rfl, B8.out⟩))
  · have gu := g1
    have gv := g3
    have f1 := eq_tl g2
    have f2 := ne_tl g4
    have f3 := ne_tl g5
    clear g1 g2 g3 g4 g5
    obtain ⟨bl, hbl⟩ : ∃ z, str blankL = z := ⟨_, rfl⟩
    have c1 := fun w => prog_any (str blankL) (at_ : Int) lo m1 w (by omega) (by omega) (by omega)
    have c2 := fun w => prog_any a ((at_ + 32 : Nat) : Int) hi m2 w (by omega) (by omega) (by omega)
    have c3 := fun w => eras_any b ((r / 8 : Nat) : Int) m3 w (by omega) (by omega)
    rw [HA.out, K1.out, hbl] at c1
    rw [HB.out, K2.out, ← HP.out] at c2
    rw [HC.out, K3.out] at c3
    rw [show ((r / 8 : Nat) : Int) = (r : Int) / 8 by omega] at c3
    have gu2 := fun w => get_any u w
    rw [gu] at gu2
    have gv2 := fun w => get_any v w
    rw [gv] at gv2
    have C1 := Lib.hid c1
    have C2 := Lib.hid c2
    have C3 := Lib.hid c3
    have GU := Lib.hid gu2
    have GV := Lib.hid gv2
    have HBL := Lib.hid hbl
    have mn : min (64 : Int) 32 = 32 := by decide
    have b1 : (at_ : Int) + 64 ≤ 4096 := by omega
    have b2 : (at_ : Int) ≤ (at_ : Int) + 64 := by omega
    have b3 : (0 : Int) ≤ (at_ : Int) + 64 := by omega
    have b4 : at_ + 64 ≤ 4096 := by omega
    have b5 : at_ ≤ at_ + 64 := by omega
    clear c1 c2 c3 gu gv gu2 gv2 hbl
    go_enter Try.func14, Try.ntmps14
    go_wp2_with fail
    with_reducible refine (awake2 _).mono ?_
    rintro e w1 ⟨rfl, hb⟩
    have B1 := Lib.hid (hb)
    clear hb
    go_wp2_with fail
    with_reducible refine (text_int s 32 _ (by decide) (by decide)).mono ?_
    rw [show str (textL _ (32 : Int).toNat) = x from HX.out]
    rintro e w2 ⟨rfl, hb⟩
    have B2 := Lib.hid (Bl.then B1.out hb)
    clear hb B1
    go_wp2_with fail
    with_reducible refine (put_any x _).mono ?_
    rw [HT.out]
    rintro e w3 ⟨rfl, hb⟩
    have B3 := Lib.hid (Bl.then B2.out hb)
    clear hb B2
    go_wp2_with fail
    have SH := Lib.hid (show Below w.heap.size w w3.drew from Bl.drewN B3.out 1)
    clear B3
    go_region_held3 (fun w' => Below w.heap.size w w') (first | exact SH.out | assumption | exact hs2) (first | (go_at_call 34; with_reducible refine (blank_any _).mono ?_; rw [HBL.out]; rintro e w4 ⟨rfl, hb⟩; have hs2 : Below w.heap.size w w4 := Bl.then (by assumption) hb) | (go_at_call 25; with_reducible refine (C1.out _).mono ?_; rintro e w4 ⟨rfl, hb⟩; have hs2 : Below w.heap.size w w4 := Bl.then (by assumption) hb))
    all_goals (
      have B4 := Lib.hid (show Below w.heap.size w _ by assumption)
      go_wp2_with (go_at_call 19; refine (num_any _ _).mono ?_; rintro e w' ⟨rfl, rfl⟩)
      with_reducible refine (C2.out _).mono ?_
      rintro e w5 ⟨rfl, hb⟩
      have B5 := Lib.hid (Bl.then B4.out hb)
      clear hb
      go_wp2_with (go_at_call 19; refine (num_any _ _).mono ?_; rintro e w' ⟨rfl, rfl⟩)
      with_reducible refine (GU.out _).mono ?_
      rintro e w6 ⟨rfl, hb⟩
      have B6 := Lib.hid (Bl.then B5.out hb)
      clear hb
      go_wp2_with (go_at_call 19; refine (num_any _ _).mono ?_; rintro e w' ⟨rfl, rfl⟩)
      with_reducible refine (C3.out _).mono ?_
      rintro e w7 ⟨rfl, hb⟩
      have B7 := Lib.hid (Bl.then B6.out hb)
      clear hb
      go_wp2_with (go_at_call 19; refine (num_any _ _).mono ?_; rintro e w' ⟨rfl, rfl⟩)
      with_reducible refine (GV.out _).mono ?_
      rintro e w8 ⟨rfl, hb⟩
      have B8 := Lib.hid (Bl.then B7.out hb)
      clear hb
      go_wp2_with (go_at_call 19; refine (num_any _ _).mono ?_; rintro e w' ⟨rfl, rfl⟩)
      all_goals (go_ret; exact ⟨rfl, B8.out⟩))
  · have gu := g1
    have gv := g3
    have f1 := ne_tl g2
    clear g1 g2 g3
    obtain ⟨bl, hbl⟩ : ∃ z, str blankL = z := ⟨_, rfl⟩
    have c1 := fun w => prog_any (str blankL) (at_ : Int) lo m1 w (by omega) (by omega) (by omega)
    have c2 := fun w => prog_any a ((at_ + 32 : Nat) : Int) hi m2 w (by omega) (by omega) (by omega)
    have c3 := fun w => eras_any b ((r / 8 : Nat) : Int) m3 w (by omega) (by omega)
    rw [HA.out, K1.out, hbl] at c1
    rw [HB.out, K2.out, ← HP.out] at c2
    rw [HC.out, K3.out] at c3
    rw [show ((r / 8 : Nat) : Int) = (r : Int) / 8 by omega] at c3
    have gu2 := fun w => get_any u w
    rw [gu] at gu2
    have gv2 := fun w => get_any v w
    rw [gv] at gv2
    have C1 := Lib.hid c1
    have C2 := Lib.hid c2
    have C3 := Lib.hid c3
    have GU := Lib.hid gu2
    have GV := Lib.hid gv2
    have HBL := Lib.hid hbl
    have mn : min (64 : Int) 32 = 32 := by decide
    have b1 : (at_ : Int) + 64 ≤ 4096 := by omega
    have b2 : (at_ : Int) ≤ (at_ : Int) + 64 := by omega
    have b3 : (0 : Int) ≤ (at_ : Int) + 64 := by omega
    have b4 : at_ + 64 ≤ 4096 := by omega
    have b5 : at_ ≤ at_ + 64 := by omega
    clear c1 c2 c3 gu gv gu2 gv2 hbl
    go_enter Try.func14, Try.ntmps14
    go_wp2_with fail
    with_reducible refine (awake2 _).mono ?_
    rintro e w1 ⟨rfl, hb⟩
    have B1 := Lib.hid (hb)
    clear hb
    go_wp2_with fail
    with_reducible refine (text_int s 32 _ (by decide) (by decide)).mono ?_
    rw [show str (textL _ (32 : Int).toNat) = x from HX.out]
    rintro e w2 ⟨rfl, hb⟩
    have B2 := Lib.hid (Bl.then B1.out hb)
    clear hb B1
    go_wp2_with fail
    with_reducible refine (put_any x _).mono ?_
    rw [HT.out]
    rintro e w3 ⟨rfl, hb⟩
    have B3 := Lib.hid (Bl.then B2.out hb)
    clear hb B2
    go_wp2_with fail
    have SH := Lib.hid (show Below w.heap.size w w3.drew from Bl.drewN B3.out 1)
    clear B3
    go_region_held3 (fun w' => Below w.heap.size w w') (first | exact SH.out | assumption | exact hs2) (first | (go_at_call 34; with_reducible refine (blank_any _).mono ?_; rw [HBL.out]; rintro e w4 ⟨rfl, hb⟩; have hs2 : Below w.heap.size w w4 := Bl.then (by assumption) hb) | (go_at_call 25; with_reducible refine (C1.out _).mono ?_; rintro e w4 ⟨rfl, hb⟩; have hs2 : Below w.heap.size w w4 := Bl.then (by assumption) hb))
    all_goals (
      have B4 := Lib.hid (show Below w.heap.size w _ by assumption)
      go_wp2_with (go_at_call 19; refine (num_any _ _).mono ?_; rintro e w' ⟨rfl, rfl⟩)
      with_reducible refine (C2.out _).mono ?_
      rintro e w5 ⟨rfl, hb⟩
      have B5 := Lib.hid (Bl.then B4.out hb)
      clear hb
      go_wp2_with (go_at_call 19; refine (num_any _ _).mono ?_; rintro e w' ⟨rfl, rfl⟩)
      with_reducible refine (GU.out _).mono ?_
      rintro e w6 ⟨rfl, hb⟩
      have B6 := Lib.hid (Bl.then B5.out hb)
      clear hb
      go_wp2_with (go_at_call 19; refine (num_any _ _).mono ?_; rintro e w' ⟨rfl, rfl⟩)
      with_reducible refine (C3.out _).mono ?_
      rintro e w7 ⟨rfl, hb⟩
      have B7 := Lib.hid (Bl.then B6.out hb)
      clear hb
      go_wp2_with (go_at_call 19; refine (num_any _ _).mono ?_; rintro e w' ⟨rfl, rfl⟩)
      with_reducible refine (GV.out _).mono ?_
      rintro e w8 ⟨rfl, hb⟩
      have B8 := Lib.hid (Bl.then B7.out hb)
      clear hb
      go_wp2_with (go_at_call 19; refine (num_any _ _).mono ?_; rintro e w' ⟨rfl, rfl⟩)
      all_goals (go_ret; exact ⟨rfl, B8.out⟩))
end Go.Proofs.Ytohjijhmlfhcnaa
