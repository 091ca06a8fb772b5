/- The statements over sfdp: awake, Sfdps. -/
import Derived.Test.YtgkgfeggpoimjaaSfD
namespace Go.Proofs.Ytgkgfeggpoimjaa
set_option linter.unusedVariables false
set_option linter.unusedSimpArgs false
open Go.RowKit

theorem num_s (n : Int) (w : World) : Calls Try.prog 18 #[.int .i64 n] w fun e w' => e = .returned (.int .i64 n) ∧ w = w' := by
  go_enter Try.func18, Try.ntmps18
  go_wp2
  go_ret
  exact ⟨rfl, rfl⟩

set_option maxRecDepth 100000 in
set_option maxHeartbeats 2000000 in
theorem awake7 (w : World) : Calls Try.prog 26 #[] w fun e w' => e = .returned (.bool true) ∧ Below w.heap.size w w' := by
  obtain ⟨t, ht⟩ : ∃ t, sfP 4096 512 32 = t := ⟨_, rfl⟩
  have e1 : sfE 4096 512 32 = 0 := by decide +kernel
  have n1 : sN t 8 = 4096 := by rw [← ht]; decide +kernel
  have n2 : sN t 12 = 512 := by rw [← ht]; decide +kernel
  have n3 : sN t 16 = 32 := by rw [← ht]; decide +kernel
  have k1 : sfOk 4096 512 32 = true := by decide +kernel
  have zt : t.size = 32 := by rw [← ht]; decide +kernel
  have hh : (t.extract 0 12).toList = [83, 70, 68, 80, 6, 1, 0, 255, 0, 16, 0, 0] := by rw [ByteArray.toList_eq, ← ht]; decide +kernel
  have e2 : sfE 3 1 1 = 700 := by decide +kernel
  have A1 := Lib.hid (show ansS t 4096 512 32 0 from .inl ⟨⟨zt, by rw [n1, n2, n3]; exact k1, by rw [n1, n2, n3]; exact ht⟩, n1.symm, n2.symm, n3.symm, rfl⟩)
  have A2 := Lib.hid (show ansS ⟨#[]⟩ 0 0 0 700 from .inr ⟨fun h => absurd h.1 (by decide), rfl, rfl, rfl, rfl⟩)
  have HT := Lib.hid ht
  have E1 := Lib.hid e1
  have E2 := Lib.hid e2
  clear ht e1 n1 n2 n3 k1 e2
  go_enter Try.func26, Try.ntmps26
  go_wp2_with fail
  with_reducible refine (put_s 4096 512 32 _ (by decide) (by decide) (by decide) (by decide) (by decide) (by decide)).mono ?_
  rw [HT.out]
  rw [E1.out]
  rintro e w1 ⟨rfl, hb⟩
  have B1 := Lib.hid (hb)
  clear hb
  go_wp2_with fail
  with_reducible refine (get_s t 4096 512 32 0 A1.out _ (by omega)).mono ?_
  rintro e w2 ⟨rfl, hb⟩
  have B2 := Lib.hid (Bl.then B1.out hb)
  clear hb B1
  go_wp2_with fail
  with_reducible refine (put_s 3 1 1 _ (by decide) (by decide) (by decide) (by decide) (by decide) (by decide)).mono ?_
  rw [E2.out]
  rintro e w3 ⟨rfl, hb⟩
  have B3 := Lib.hid (Bl.then B2.out hb)
  clear hb B2
  go_wp2_with fail
  with_reducible refine (get_s ⟨#[]⟩ 0 0 0 700 A2.out _ (by decide)).mono ?_
  rintro e w4 ⟨rfl, hb⟩
  have B4 := Lib.hid (Bl.then B3.out hb)
  clear hb B3
  go_wp2_with (go_at_call 18; refine (num_s _ _).mono ?_; rintro e w' ⟨rfl, rfl⟩)
  go_ret
  exact ⟨rfl, B4.out⟩

set_option maxRecDepth 100000 in
set_option maxHeartbeats 2000000 in
theorem Sfdps_walk (a : Int) (_ : -9223372036854775808 ≤ a ∧ a ≤ 9223372036854775807) (b : Int) (_ : -9223372036854775808 ≤ b ∧ b ≤ 9223372036854775807) (c : Int) (_ : -9223372036854775808 ≤ c ∧ c ≤ 9223372036854775807) (s : ByteArray) (_ : s.size ≤ 140737488351232) (w : World) :
    Calls Try.prog 8 #[.int .i64 a, .int .i64 b, .int .i64 c, .string s] w fun e w' => e = .returned (.bool true) ∧ Below w.heap.size w w' := by
  obtain ⟨t, ht⟩ : ∃ t, sfP a b c = t := ⟨_, rfl⟩
  obtain ⟨e0, he⟩ : ∃ t, sfE a b c = t := ⟨_, rfl⟩
  obtain ⟨x, y, z, f0, hA⟩ := ansS_ex s
  have HA := Lib.hid hA
  have HT := Lib.hid ht
  have HE := Lib.hid he
  have q1 : (e0 == e0) = true := by simp
  have q2 : (f0 == f0) = true := by simp
  have q3 : (x == x) = true := by simp
  have q4 : (y == y) = true := by simp
  have q5 : (z == z) = true := by simp
  clear hA ht he
  go_enter Try.func8, Try.ntmps8
  go_wp2_with fail
  with_reducible refine (put_s a b c _ (by omega) (by omega) (by omega) (by omega) (by omega) (by omega)).mono ?_
  rw [HT.out]
  rw [HE.out]
  rintro e w1 ⟨rfl, hb⟩
  have B1 := Lib.hid (hb)
  clear hb
  go_wp2_with fail
  with_reducible refine (rput_s a b c _ (by omega) (by omega) (by omega) (by omega) (by omega) (by omega)).mono ?_
  rw [HT.out]
  rw [HE.out]
  rintro e w2 ⟨rfl, hb⟩
  have B2 := Lib.hid (Bl.then B1.out hb)
  clear hb B1
  go_wp2_with fail
  with_reducible refine (get_s s x y z f0 HA.out _ (by assumption)).mono ?_
  rintro e w3 ⟨rfl, hb⟩
  have B3 := Lib.hid (Bl.then B2.out hb)
  clear hb B2
  go_wp2_with fail
  with_reducible refine (rget_s s x y z f0 HA.out _ (by assumption)).mono ?_
  rintro e w4 ⟨rfl, hb⟩
  have B4 := Lib.hid (Bl.then B3.out hb)
  clear hb B3
  go_wp2_with (go_at_call 18; refine (num_s _ _).mono ?_; rintro e w' ⟨rfl, rfl⟩)
  with_reducible refine (awake7 _).mono ?_
  rintro e w5 ⟨rfl, hb⟩
  have B5 := Lib.hid (Bl.then B4.out hb)
  clear hb B4
  go_wp2_with fail
  go_ret
  exact ⟨rfl, B5.out⟩
end Go.Proofs.Ytgkgfeggpoimjaa
