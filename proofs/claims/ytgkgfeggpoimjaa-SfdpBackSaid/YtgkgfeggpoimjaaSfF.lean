/- The statement SfdpApart. -/
import Derived.Test.YtgkgfeggpoimjaaSfE
namespace Go.Proofs.Ytgkgfeggpoimjaa
set_option linter.unusedVariables false
set_option linter.unusedSimpArgs false
open Go.RowKit

theorem rem17 (x : Int) : ∃ k : Fin 17, (IntKind.u64.wrap x).tmod 17 = ((k.val : Nat) : Int) := by
  have hu : 0 ≤ IntKind.u64.wrap x := by
    simp only [IntKind.wrap, IntKind.signed, IntKind.bits]
    exact Int.emod_nonneg _ (by decide)
  rw [Int.tmod_eq_emod_of_nonneg hu]
  have a := Int.emod_nonneg (IntKind.u64.wrap x) (show (17 : Int) ≠ 0 by decide)
  have b := Int.emod_lt_of_pos (IntKind.u64.wrap x) (show (0 : Int) < 17 by decide)
  exact ⟨⟨(IntKind.u64.wrap x % 17).toNat, by omega⟩, by simp; omega⟩
theorem pow_ok : ∀ k : Fin 17, powB (2 ^ k.val) = true := by decide +kernel
theorem pow_num : ∀ k : Fin 17, numL (lowL (2 ^ k.val)) = 2 ^ k.val := by decide +kernel
theorem pow_rng : ∀ k : Fin 17, 1 ≤ (2 : Int) ^ k.val ∧ (2 : Int) ^ k.val ≤ 65536 := by decide +kernel

theorem sf_nums (x y z : Int) : sN (str (sfL x y z)) 8 = numL (lowL x) ∧ sN (str (sfL x y z)) 12 = numL (lowL y) ∧ sN (str (sfL x y z)) 16 = numL (lowL z) := by
  refine ⟨?_, ?_, ?_⟩ <;>
  · simp only [sN, gS, str_data]
    rfl
theorem sf_size (x y z : Int) : (str (sfL x y z)).size = 32 := by rw [str_size]; rfl
theorem sf_p {x y z : Int} (hx : powB x = true) (hy : powB y = true) (hz : powB z = true) : sfP x y z = str (sfL x y z) ∧ sfE x y z = 0 := by
  unfold sfP sfE sfOk
  rw [hx, hy, hz]
  exact ⟨rfl, rfl⟩
theorem tl_beq {s t : ByteArray} {p : Bool} (h1 : p = true → s = t) (h2 : s = t → p = true) : (s.toList == t.toList) = p := by
  cases p
  · exact ne_tl fun e => by have := h2 e; cases this
  · exact eq_tl (h1 rfl)

set_option maxRecDepth 100000 in
set_option maxHeartbeats 2000000 in
theorem SfdpApart_walk (a : Int) (_ : -9223372036854775808 ≤ a ∧ a ≤ 9223372036854775807) (b : Int) (_ : -9223372036854775808 ≤ b ∧ b ≤ 9223372036854775807) (c : Int) (_ : -9223372036854775808 ≤ c ∧ c ≤ 9223372036854775807) (d : Int) (_ : -9223372036854775808 ≤ d ∧ d ≤ 9223372036854775807) (w : World) :
    Calls Try.prog 11 #[.int .i64 a, .int .i64 b, .int .i64 c, .int .i64 d] w fun e w' => e = .returned (.bool true) ∧ Below w.heap.size w w' := by
  obtain ⟨i, hi⟩ := rem17 a
  obtain ⟨j, hj⟩ := rem17 b
  obtain ⟨k, hk⟩ := rem17 c
  obtain ⟨l, hl⟩ := rem17 d
  obtain ⟨x, hx⟩ : ∃ x, (2 : Int) ^ i.val = x := ⟨_, rfl⟩
  obtain ⟨y, hy⟩ : ∃ x, (2 : Int) ^ j.val = x := ⟨_, rfl⟩
  obtain ⟨z, hz⟩ : ∃ x, (2 : Int) ^ k.val = x := ⟨_, rfl⟩
  obtain ⟨v, hv⟩ : ∃ x, (2 : Int) ^ l.val = x := ⟨_, rfl⟩
  have i1 := pow_rng i
  have j1 := pow_rng j
  have k1 := pow_rng k
  have l1 := pow_rng l
  have i2 := pow_num i
  have j2 := pow_num j
  have k2 := pow_num k
  have l2 := pow_num l
  have i3 := pow_ok i
  have j3 := pow_ok j
  have k3 := pow_ok k
  have l3 := pow_ok l
  rw [hx] at i1 i2 i3
  rw [hy] at j1 j2 j3
  rw [hz] at k1 k2 k3
  rw [hv] at l1 l2 l3
  obtain ⟨s1, e1⟩ := sf_p i3 j3 k3
  obtain ⟨s2, e2⟩ := sf_p l3 j3 k3
  obtain ⟨s3, e3⟩ := sf_p i3 l3 k3
  obtain ⟨s4, e4⟩ := sf_p i3 j3 l3
  have n1 := sf_nums x y z
  have n2 := sf_nums v y z
  have n3 := sf_nums x v z
  have n4 := sf_nums x y v
  rw [← s1, i2, j2, k2] at n1
  rw [← s2, l2, j2, k2] at n2
  rw [← s3, i2, l2, k2] at n3
  rw [← s4, i2, j2, l2] at n4
  obtain ⟨p1, q1⟩ : ∃ p, (v == x) = p := ⟨_, rfl⟩
  obtain ⟨p2, q2⟩ : ∃ p, (v == y) = p := ⟨_, rfl⟩
  obtain ⟨p3, q3⟩ : ∃ p, (v == z) = p := ⟨_, rfl⟩
  have f1 : ((sfP x y z).toList == (sfP v y z).toList) = p1 := tl_beq (fun h => by rw [h, beq_iff_eq] at q1; rw [q1]) (fun h => by rw [← q1, beq_iff_eq, ← n2.1, ← h, n1.1])
  have f2 : ((sfP x y z).toList == (sfP x v z).toList) = p2 := tl_beq (fun h => by rw [h, beq_iff_eq] at q2; rw [q2]) (fun h => by rw [← q2, beq_iff_eq, ← n3.2.1, ← h, n1.2.1])
  have f3 : ((sfP x y z).toList == (sfP x y v).toList) = p3 := tl_beq (fun h => by rw [h, beq_iff_eq] at q3; rw [q3]) (fun h => by rw [← q3, beq_iff_eq, ← n4.2.2, ← h, n1.2.2])
  obtain ⟨t1, h1⟩ : ∃ t, sfP x y z = t := ⟨_, rfl⟩
  obtain ⟨t2, h2⟩ : ∃ t, sfP v y z = t := ⟨_, rfl⟩
  obtain ⟨t3, h3⟩ : ∃ t, sfP x v z = t := ⟨_, rfl⟩
  obtain ⟨t4, h4⟩ : ∃ t, sfP x y v = t := ⟨_, rfl⟩
  rw [h1, h2] at f1
  rw [h1, h3] at f2
  rw [h1, h4] at f3
  have H1 := Lib.hid h1
  have H2 := Lib.hid h2
  have H3 := Lib.hid h3
  have H4 := Lib.hid h4
  have E1 := Lib.hid e1
  have E2 := Lib.hid e2
  have E3 := Lib.hid e3
  have E4 := Lib.hid e4
  clear i2 j2 k2 l2 i3 j3 k3 l3 s1 s2 s3 s4 e1 e2 e3 e4 n1 n2 n3 n4 h1 h2 h3 h4
  go_enter Try.func11, Try.ntmps11
  go_wp2_with fail
  with_reducible refine (awake7 _).mono ?_
  rintro e w1 ⟨rfl, hb⟩
  have B1 := Lib.hid (hb)
  clear hb
  go_wp2_with fail
  with_reducible refine (put_s x y z _ (by omega) (by omega) (by omega) (by omega) (by omega) (by omega)).mono ?_
  rw [H1.out]
  rw [E1.out]
  rintro e w2 ⟨rfl, hb⟩
  have B2 := Lib.hid (Bl.then B1.out hb)
  clear hb B1
  go_wp2_with fail
  with_reducible refine (put_s v y z _ (by omega) (by omega) (by omega) (by omega) (by omega) (by omega)).mono ?_
  rw [H2.out]
  rw [E2.out]
  rintro e w3 ⟨rfl, hb⟩
  have B3 := Lib.hid (Bl.then B2.out hb)
  clear hb B2
  go_wp2_with fail
  with_reducible refine (put_s x v z _ (by omega) (by omega) (by omega) (by omega) (by omega) (by omega)).mono ?_
  rw [H3.out]
  rw [E3.out]
  rintro e w4 ⟨rfl, hb⟩
  have B4 := Lib.hid (Bl.then B3.out hb)
  clear hb B3
  go_wp2_with fail
  with_reducible refine (put_s x y v _ (by omega) (by omega) (by omega) (by omega) (by omega) (by omega)).mono ?_
  rw [H4.out]
  rw [E4.out]
  rintro e w5 ⟨rfl, hb⟩
  have B5 := Lib.hid (Bl.then B4.out hb)
  clear hb B4
  go_wp2_with (go_at_call 18; refine (num_s _ _).mono ?_; rintro e w' ⟨rfl, rfl⟩)
  go_ret
  exact ⟨rfl, B5.out⟩
end Go.Proofs.Ytgkgfeggpoimjaa
