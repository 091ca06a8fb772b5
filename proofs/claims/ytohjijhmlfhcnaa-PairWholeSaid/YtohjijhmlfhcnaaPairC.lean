/- awake of the statements over pair. -/
import Derived.Test.YtohjijhmlfhcnaaPairB
namespace Go.Proofs.Ytohjijhmlfhcnaa
set_option linter.unusedVariables false
set_option linter.unusedSimpArgs false
open Go.RowKit
theorem text_int (s : ByteArray) (n : Int) (w : World) (h0 : 0 ≤ n) (h1 : n ≤ 1000000) :
    Calls Try.prog 21 #[.string s, .int .i64 n] w fun e w' => e = .returned (.string (str (textL s.data.toList n.toNat))) ∧ Below w.heap.size w w' := by
  obtain ⟨k, rfl⟩ := Int.eq_ofNat_of_zero_le h0
  exact text_any s k w (by omega)

theorem awake2 (w : World) : Calls Try.prog 20 #[] w fun e w' => e = .returned (.bool true) ∧ Below w.heap.size w w' := by
  obtain ⟨a, ha⟩ : ∃ a, str (textL [97, 98, 0] 32) = a := ⟨_, rfl⟩
  obtain ⟨t, ht⟩ : ∃ t, (putP a).1 = t := ⟨_, rfl⟩
  have h0 : putP a = (t, 0) := by rw [← ht, ← ha]; decide +kernel
  have h1 : getP t = (a, 0) := by rw [← ht, ← ha]; decide +kernel
  have h2 : getP (t.extract 0 63) = (str [], 200) := by rw [← ht, ← ha]; decide +kernel
  have h3 : putP ⟨#[120]⟩ = (str [], 200) := by decide +kernel
  have h4 : t.size = 64 := by rw [← ht, ← ha]; decide +kernel
  have h5 : (t.extract 0 3).toList = [97, 98, 0] := by rw [ByteArray.toList_eq, ← ht, ← ha]; decide +kernel
  have h6 : (t.extract 32 35).toList = [158, 157, 255] := by rw [ByteArray.toList_eq, ← ht, ← ha]; decide +kernel
  have HA := Lib.hid ha
  have H0 := Lib.hid h0
  have H1 := Lib.hid h1
  have H2 := Lib.hid h2
  have H3 := Lib.hid h3
  clear h0 h1 h2 h3 ha ht
  go_enter Try.func20, Try.ntmps20
  go_wp2_with fail
  with_reducible refine (text_int _ 32 _ (by decide) (by decide)).mono ?_
  rw [show str (textL _ (32 : Int).toNat) = a from HA.out]
  rintro e w1 ⟨rfl, hb⟩
  have B1 := Lib.hid hb
  clear hb
  go_wp2_with fail
  with_reducible refine (put_any _ _).mono ?_
  rw [H0.out]
  rintro e w2 ⟨rfl, hb⟩
  have B2 := Lib.hid (Bl.then B1.out hb)
  clear hb B1
  go_wp2_with fail
  with_reducible refine (get_any _ _).mono ?_
  rw [H1.out]
  rintro e w3 ⟨rfl, hb⟩
  have B3 := Lib.hid (Bl.then B2.out hb)
  clear hb B2
  go_wp2_with fail
  with_reducible refine (get_any _ _).mono ?_
  rw [H2.out]
  rintro e w4 ⟨rfl, hb⟩
  have B4 := Lib.hid (Bl.then B3.out hb)
  clear hb B3
  go_wp2_with fail
  with_reducible refine (put_any _ _).mono ?_
  rw [H3.out]
  rintro e w5 ⟨rfl, hb⟩
  have B5 := Lib.hid (Bl.then B4.out hb)
  clear hb B4
  go_wp2_with (go_at_call 19; refine (num_any _ _).mono ?_; rintro e w' ⟨rfl, rfl⟩)
  go_ret
  exact ⟨rfl, B5.out⟩
end Go.Proofs.Ytohjijhmlfhcnaa
