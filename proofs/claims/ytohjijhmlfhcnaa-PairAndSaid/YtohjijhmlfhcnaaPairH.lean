/- The statement PairAnd: the walk. -/
import Derived.Test.YtohjijhmlfhcnaaPairG
import Derived.Test.YtohjijhmlfhcnaaPairD
namespace Go.Proofs.Ytohjijhmlfhcnaa
set_option linter.unusedVariables false
set_option linter.unusedSimpArgs false
open Go.RowKit

theorem PairAnd_walk (a : ByteArray) (_ : a.size ≤ 140737488351232) (b : ByteArray) (_ : b.size ≤ 140737488351232) (w : World) :
    Calls Try.prog 13 #[.string a, .string b] w fun e w' => e = .returned (.bool true) ∧ Below w.heap.size w w' := by
  obtain ⟨x, hx⟩ : ∃ z, str (textL a.data.toList 32) = z := ⟨_, rfl⟩
  obtain ⟨y, hy⟩ : ∃ z, str (textL b.data.toList 32) = z := ⟨_, rfl⟩
  have zx : x.size = 32 := by rw [← hx, str_size, textL_len]
  have zy : y.size = 32 := by rw [← hy, str_size, textL_len]
  obtain ⟨s, hs⟩ : ∃ z, (putP x).1 = z := ⟨_, rfl⟩
  obtain ⟨t, ht⟩ : ∃ z, (putP y).1 = z := ⟨_, rfl⟩
  have ps : putP x = (s, 0) := by rw [← hs, ← put_err zx]
  have pt : putP y = (t, 0) := by rw [← ht, ← put_err zy]
  have zs : s.size = 64 := by rw [← hs]; exact put_size zx
  have zt : t.size = 64 := by rw [← ht]; exact put_size zy
  obtain ⟨p, hp⟩ : ∃ z, progL (str blankL) 0 s allB = z := ⟨_, rfl⟩
  obtain ⟨q, hq⟩ : ∃ z, progL p 0 t allB = z := ⟨_, rfl⟩
  obtain ⟨u, hu⟩ : ∃ z, q.extract 0 64 = z := ⟨_, rfl⟩
  obtain ⟨k1, k2, k3, k4, k5, k6⟩ := over_slot (x := x) (y := y) (p := p) (q := q) (u := u) zx zy (by rw [hs]; exact hp) (by rw [ht]; exact hq) hu
  rw [hs] at k1
  rw [ht] at k2
  have K1 := Lib.hid k1
  have K2 := Lib.hid k2
  have HX := Lib.hid hx
  have HY := Lib.hid hy
  have HS := Lib.hid ps
  have HT := Lib.hid pt
  have HP := Lib.hid hp
  have HQ := Lib.hid hq
  clear k1 k2 hx hy hs ht ps pt hp hq zx zy
  by_cases hxy : x = y
  · subst hxy
    have GU := Lib.hid (k5 rfl)
    clear k5 k6
    go_enter Try.func13, Try.ntmps13
    go_wp2_with fail
    with_reducible refine (awake2 _).mono ?_
    rintro e w1 ⟨rfl, hb⟩
    have B1 := Lib.hid (hb)
    clear hb
    go_wp2_with fail
    with_reducible refine (text_int a 32 _ (by decide) (by decide)).mono ?_
    rw [show str (textL _ (32 : Int).toNat) = x from HX.out]
    rintro e w2 ⟨rfl, hb⟩
    have B2 := Lib.hid (Bl.then B1.out hb)
    clear hb B1
    go_wp2_with fail
    with_reducible refine (text_int b 32 _ (by decide) (by decide)).mono ?_
    rw [show str (textL _ (32 : Int).toNat) = x from HY.out]
    rintro e w3 ⟨rfl, hb⟩
    have B3 := Lib.hid (Bl.then B2.out hb)
    clear hb B2
    go_wp2_with fail
    with_reducible refine (put_any x _).mono ?_
    rw [HS.out]
    rintro e w4 ⟨rfl, hb⟩
    have B4 := Lib.hid (Bl.then B3.out hb)
    clear hb B3
    go_wp2_with fail
    with_reducible refine (put_any x _).mono ?_
    rw [HT.out]
    rintro e w5 ⟨rfl, hb⟩
    have B5 := Lib.hid (Bl.then B4.out hb)
    clear hb B4
    go_wp2_with (go_at_call 19; refine (num_any _ _).mono ?_; rintro e w' ⟨rfl, rfl⟩)
    with_reducible refine (blank_any _).mono ?_
    rintro e w6 ⟨rfl, hb⟩
    have B6 := Lib.hid (Bl.then B5.out hb)
    clear hb B5
    go_wp2_with fail
    with_reducible refine (program_any (str blankL) 0 s _ (by omega) (by decide) (by decide)).mono ?_
    rw [HP.out]
    rw [K1.out]
    rintro e w7 ⟨rfl, hb⟩
    have B7 := Lib.hid (Bl.then B6.out hb)
    clear hb B6
    go_wp2_with fail
    with_reducible refine (program_any p 0 t _ (by omega) (by decide) (by decide)).mono ?_
    rw [HQ.out]
    rw [K2.out]
    rintro e w8 ⟨rfl, hb⟩
    have B8 := Lib.hid (Bl.then B7.out hb)
    clear hb B7
    go_wp2_with (go_at_call 19; refine (num_any _ _).mono ?_; rintro e w' ⟨rfl, rfl⟩)
    with_reducible refine (get_any u _).mono ?_
    rw [GU.out]
    rintro e w9 ⟨rfl, hb⟩
    have B9 := Lib.hid (Bl.then B8.out hb)
    clear hb B8
    go_wp2_with (go_at_call 19; refine (num_any _ _).mono ?_; rintro e w' ⟨rfl, rfl⟩)
    go_ret
    exact ⟨rfl, B9.out⟩
  · have GU := Lib.hid (k6 hxy)
    have nx := ne_tl hxy
    clear k5 k6
    go_enter Try.func13, Try.ntmps13
    go_wp2_with fail
    with_reducible refine (awake2 _).mono ?_
    rintro e w1 ⟨rfl, hb⟩
    have B1 := Lib.hid (hb)
    clear hb
    go_wp2_with fail
    with_reducible refine (text_int a 32 _ (by decide) (by decide)).mono ?_
    rw [show str (textL _ (32 : Int).toNat) = x from HX.out]
    rintro e w2 ⟨rfl, hb⟩
    have B2 := Lib.hid (Bl.then B1.out hb)
    clear hb B1
    go_wp2_with fail
    with_reducible refine (text_int b 32 _ (by decide) (by decide)).mono ?_
    rw [show str (textL _ (32 : Int).toNat) = y from HY.out]
    rintro e w3 ⟨rfl, hb⟩
    have B3 := Lib.hid (Bl.then B2.out hb)
    clear hb B2
    go_wp2_with fail
    with_reducible refine (put_any x _).mono ?_
    rw [HS.out]
    rintro e w4 ⟨rfl, hb⟩
    have B4 := Lib.hid (Bl.then B3.out hb)
    clear hb B3
    go_wp2_with fail
    with_reducible refine (put_any y _).mono ?_
    rw [HT.out]
    rintro e w5 ⟨rfl, hb⟩
    have B5 := Lib.hid (Bl.then B4.out hb)
    clear hb B4
    go_wp2_with (go_at_call 19; refine (num_any _ _).mono ?_; rintro e w' ⟨rfl, rfl⟩)
    with_reducible refine (blank_any _).mono ?_
    rintro e w6 ⟨rfl, hb⟩
    have B6 := Lib.hid (Bl.then B5.out hb)
    clear hb B5
    go_wp2_with fail
    with_reducible refine (program_any (str blankL) 0 s _ (by omega) (by decide) (by decide)).mono ?_
    rw [HP.out]
    rw [K1.out]
    rintro e w7 ⟨rfl, hb⟩
    have B7 := Lib.hid (Bl.then B6.out hb)
    clear hb B6
    go_wp2_with fail
    with_reducible refine (program_any p 0 t _ (by omega) (by decide) (by decide)).mono ?_
    rw [HQ.out]
    rw [K2.out]
    rintro e w8 ⟨rfl, hb⟩
    have B8 := Lib.hid (Bl.then B7.out hb)
    clear hb B7
    go_wp2_with (go_at_call 19; refine (num_any _ _).mono ?_; rintro e w' ⟨rfl, rfl⟩)
    with_reducible refine (get_any u _).mono ?_
    rw [GU.out]
    rintro e w9 ⟨rfl, hb⟩
    have B9 := Lib.hid (Bl.then B8.out hb)
    clear hb B8
    go_wp2_with (go_at_call 19; refine (num_any _ _).mono ?_; rintro e w' ⟨rfl, rfl⟩)
    go_ret
    exact ⟨rfl, B9.out⟩
end Go.Proofs.Ytohjijhmlfhcnaa
