/- The statements Pairs, PairForms: their walks. -/
import Derived.Test.YtohjijhmlfhcnaaPairC
namespace Go.Proofs.Ytohjijhmlfhcnaa
set_option linter.unusedVariables false
set_option linter.unusedSimpArgs false
open Go.RowKit
theorem pair_ex {α β : Type} (p : α × β) : ∃ a b, p = (a, b) := ⟨p.1, p.2, rfl⟩
/-- An index that is cut to n places. -/
theorem rem_fin (x n : Int) (h0 : 0 < n) (h1 : n < 9223372036854775808) : ∃ r : Int, wrap64 ((IntKind.u64.wrap x).tmod n) = r ∧ 0 ≤ r ∧ r < n := by
  have hu : 0 ≤ IntKind.u64.wrap x := by
    simp only [IntKind.wrap, IntKind.signed, IntKind.bits]
    exact Int.emod_nonneg _ (by decide)
  rw [Int.tmod_eq_emod_of_nonneg hu]
  have a := Int.emod_nonneg (IntKind.u64.wrap x) (show n ≠ 0 by omega)
  have b := Int.emod_lt_of_pos (IntKind.u64.wrap x) h0
  exact ⟨IntKind.u64.wrap x % n, IntWalk.wrap64_in _ ⟨by omega, by omega⟩, a, b⟩

theorem Pairs_walk (s : ByteArray) (_ : s.size ≤ 140737488351232) (t : ByteArray) (_ : t.size ≤ 140737488351232) (w : World) :
    Calls Try.prog 3 #[.string s, .string t] w fun e w' => e = .returned (.bool true) ∧ Below w.heap.size w w' := by
  obtain ⟨a, e1, h1⟩ := pair_ex (putP s)
  obtain ⟨c, g1, h2⟩ := pair_ex (getP t)
  have H1 := Lib.hid h1
  have H2 := Lib.hid h2
  clear h1 h2
  go_enter Try.func3, Try.ntmps3
  go_wp2_with fail
  with_reducible refine (put_any _ _).mono ?_
  rw [H1.out]
  rintro e w1 ⟨rfl, hb⟩
  have B1 := Lib.hid hb
  clear hb
  go_wp2_with fail
  with_reducible refine (rput_any _ _).mono ?_
  rw [H1.out]
  rintro e w2 ⟨rfl, hb⟩
  have B2 := Lib.hid (Bl.then B1.out hb)
  clear hb B1
  go_wp2_with fail
  with_reducible refine (get_any _ _).mono ?_
  rw [H2.out]
  rintro e w3 ⟨rfl, hb⟩
  have B3 := Lib.hid (Bl.then B2.out hb)
  clear hb B2
  go_wp2_with fail
  with_reducible refine (rget_any _ _).mono ?_
  rw [H2.out]
  rintro e w4 ⟨rfl, hb⟩
  have B4 := Lib.hid (Bl.then B3.out hb)
  clear hb B3
  have q1 : (e1 == e1) = true := by simp
  have q2 : (g1 == g1) = true := by simp
  go_wp2_with (go_at_call 19; refine (num_any _ _).mono ?_; rintro e w' ⟨rfl, rfl⟩)
  with_reducible refine (awake2 _).mono ?_
  rintro e w5 ⟨rfl, hb⟩
  have B5 := Lib.hid (Bl.then B4.out hb)
  clear hb B4
  go_wp2_with fail
  go_ret
  exact ⟨rfl, B5.out⟩

theorem str_nil_tl : (str []).toList = [] := by rw [ByteArray.toList_eq]; rfl

theorem PairForms_walk (s : ByteArray) (_ : s.size ≤ 140737488351232) (size : Int) (_ : -9223372036854775808 ≤ size ∧ size ≤ 9223372036854775807) (w : World) :
    Calls Try.prog 5 #[.string s, .int .i64 size] w fun e w' => e = .returned (.bool true) ∧ Below w.heap.size w w' := by
  obtain ⟨r, hr, h0, h5⟩ := rem_fin size 130 (by decide) (by decide)
  obtain ⟨t, ht⟩ : ∃ t, str (textL s.data.toList r.toNat) = t := ⟨_, rfl⟩
  have hz : t.size = r.toNat := by rw [← ht, str_size, textL_len]
  obtain ⟨a, e1, h1⟩ := pair_ex (putP t)
  obtain ⟨c, g1, h2⟩ := pair_ex (getP t)
  have hA : (r = 32 ∧ e1 = 0) ∨ (r ≠ 32 ∧ e1 = 200 ∧ a = str []) := by
    unfold putP at h1
    split at h1
    · exact .inl ⟨by omega, (Prod.mk.inj h1).2.symm⟩
    · exact .inr ⟨by omega, (Prod.mk.inj h1).2.symm, (Prod.mk.inj h1).1.symm⟩
  have hG : (g1 = 0 ∧ r = 64) ∨ (g1 = 200 ∧ c = str []) := by
    unfold getP at h2
    split at h2
    · rename_i hx
      obtain ⟨u, hu⟩ : ∃ u, putP (t.extract 0 32) = (u, 0) := ⟨_, by unfold putP; rw [if_pos (ext_size t hx.1)]⟩
      have h3 := putP_size _ _ hu
      rw [hu] at hx
      have h4 : u = t := hx.2
      rw [h4] at h3
      exact .inl ⟨(Prod.mk.inj h2).2.symm, by omega⟩
    · exact .inr ⟨(Prod.mk.inj h2).2.symm, (Prod.mk.inj h2).1.symm⟩
  have H1 := Lib.hid h1
  have H2 := Lib.hid h2
  have HT := Lib.hid ht
  clear h1 h2 ht hz
  have hs := str_nil_tl
  rcases hA with ⟨rfl, rfl⟩ | ⟨hr1, rfl, rfl⟩
  · rcases hG with ⟨rfl, hx⟩ | ⟨rfl, rfl⟩
    · exact absurd hx (by decide)
    · go_enter Try.func5, Try.ntmps5
      go_wp2_with fail
      with_reducible refine (awake2 _).mono ?_
      rintro e w1 ⟨rfl, hb⟩
      have B1 := Lib.hid hb
      clear hb
      go_wp2_with fail
      with_reducible refine (text_int _ _ _ (by omega) (by omega)).mono ?_
      rw [HT.out]
      rintro e w2 ⟨rfl, hb⟩
      have B2 := Lib.hid (Bl.then B1.out hb)
      clear hb B1
      go_wp2_with fail
      with_reducible refine (put_any _ _).mono ?_
      rw [H1.out]
      rintro e w3 ⟨rfl, hb⟩
      have B3 := Lib.hid (Bl.then B2.out hb)
      clear hb B2
      go_wp2_with fail
      with_reducible refine (get_any _ _).mono ?_
      rw [H2.out]
      rintro e w4 ⟨rfl, hb⟩
      have B4 := Lib.hid (Bl.then B3.out hb)
      clear hb B3
      go_wp2_with (go_at_call 19; refine (num_any _ _).mono ?_; rintro e w' ⟨rfl, rfl⟩)
      go_ret
      exact ⟨rfl, B4.out⟩
  · rcases hG with ⟨rfl, hx⟩ | ⟨rfl, rfl⟩
    · have d1 : (r == 32) = false := by simpa using hr1
      have d2 : (r == 64) = true := by simpa using hx
      clear hr1 hx
      go_enter Try.func5, Try.ntmps5
      go_wp2_with fail
      with_reducible refine (awake2 _).mono ?_
      rintro e w1 ⟨rfl, hb⟩
      have B1 := Lib.hid (hb)
      clear hb
      go_wp2_with fail
      with_reducible refine (text_int _ _ _ (by omega) (by omega)).mono ?_
      rw [HT.out]
      rintro e w2 ⟨rfl, hb⟩
      have B2 := Lib.hid (Bl.then B1.out hb)
      clear hb B1
      go_wp2_with fail
      with_reducible refine (put_any _ _).mono ?_
      rw [H1.out]
      rintro e w3 ⟨rfl, hb⟩
      have B3 := Lib.hid (Bl.then B2.out hb)
      clear hb B2
      go_wp2_with fail
      with_reducible refine (get_any _ _).mono ?_
      rw [H2.out]
      rintro e w4 ⟨rfl, hb⟩
      have B4 := Lib.hid (Bl.then B3.out hb)
      clear hb B3
      go_wp2_with (go_at_call 19; refine (num_any _ _).mono ?_; rintro e w' ⟨rfl, rfl⟩)
      go_ret
      exact ⟨rfl, B4.out⟩
    · have d1 : (r == 32) = false := by simpa using hr1
      clear hr1
      go_enter Try.func5, Try.ntmps5
      go_wp2_with fail
      with_reducible refine (awake2 _).mono ?_
      rintro e w1 ⟨rfl, hb⟩
      have B1 := Lib.hid (hb)
      clear hb
      go_wp2_with fail
      with_reducible refine (text_int _ _ _ (by omega) (by omega)).mono ?_
      rw [HT.out]
      rintro e w2 ⟨rfl, hb⟩
      have B2 := Lib.hid (Bl.then B1.out hb)
      clear hb B1
      go_wp2_with fail
      with_reducible refine (put_any _ _).mono ?_
      rw [H1.out]
      rintro e w3 ⟨rfl, hb⟩
      have B3 := Lib.hid (Bl.then B2.out hb)
      clear hb B2
      go_wp2_with fail
      with_reducible refine (get_any _ _).mono ?_
      rw [H2.out]
      rintro e w4 ⟨rfl, hb⟩
      have B4 := Lib.hid (Bl.then B3.out hb)
      clear hb B3
      go_wp2_with (go_at_call 19; refine (num_any _ _).mono ?_; rintro e w' ⟨rfl, rfl⟩)
      go_ret
      exact ⟨rfl, B4.out⟩
end Go.Proofs.Ytohjijhmlfhcnaa
