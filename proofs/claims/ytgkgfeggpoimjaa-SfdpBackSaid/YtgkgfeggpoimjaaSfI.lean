/- The statement SfdpBack. -/
import Derived.Test.YtgkgfeggpoimjaaSfF
import Derived.Test.YtgkgfeggpoimjaaSfG
namespace Go.Proofs.Ytgkgfeggpoimjaa
set_option linter.unusedVariables false
set_option linter.unusedSimpArgs false
open Go.RowKit

theorem u8_flip (y m : UInt8) (h : m ≠ 0) : y ^^^ m ≠ y := by
  intro e
  apply h
  have : y ^^^ (y ^^^ m) = y ^^^ y := by rw [e]
  rwa [← UInt8.xor_assoc, UInt8.xor_self, UInt8.zero_xor] at this

theorem head_get (x y z : Int) (i : Nat) (h : i < 8) : (sfL x y z).getD i 0 = headL.getD i 0 := by
  have : ∀ i : Fin 8, (sfL x y z).getD i.1 0 = headL.getD i.1 0 := by
    intro i
    match i with
    | ⟨0, _⟩ => rfl
    | ⟨1, _⟩ => rfl
    | ⟨2, _⟩ => rfl
    | ⟨3, _⟩ => rfl
    | ⟨4, _⟩ => rfl
    | ⟨5, _⟩ => rfl
    | ⟨6, _⟩ => rfl
    | ⟨7, _⟩ => rfl
  exact this ⟨i, h⟩
theorem tail_get (x y z : Int) (i : Nat) (h : 20 ≤ i) (h2 : i < 32) : (sfL x y z).getD i 0 = 255 := by
  have e : sfL x y z = (headL ++ lowL x ++ lowL y ++ lowL z) ++ List.replicate 12 255 := rfl
  have l : (headL ++ lowL x ++ lowL y ++ lowL z).length = 20 := rfl
  rw [e, List.getD_eq_getElem?_getD, List.getElem?_append_right (by rw [l]; exact h), l, List.getElem?_replicate, if_pos (by omega)]
  rfl
theorem back_law {x y z p q r f : Int} {i : Nat} {m b : UInt8} {t : ByteArray} (hi : i < 32) (hm : m ≠ 0) (hb : (sfL x y z).getD i 0 = b)
    (ht : str ((sfL x y z).set i (b ^^^ m)) = t) (hA : ansS t p q r f) :
    (p = 0 ∧ q = 0 ∧ r = 0 ∧ f = 700) ∨ (f = 0 ∧ 8 ≤ i ∧ i < 20 ∧ (p ≠ x ∨ q ≠ y ∨ r ≠ z)) := by
  rcases hA with ⟨hk, rfl, rfl, rfl, rfl⟩ | ⟨_, rfl, rfl, rfl, rfl⟩
  · right
    obtain ⟨_, h2, h3⟩ := hk
    generalize sN t 8 = p at *
    generalize sN t 12 = q at *
    generalize sN t 16 = r at *
    have h4 : sfP p q r = str (sfL p q r) := by rw [sfP, h2]; rfl
    rw [h4, ← ht] at h3
    have h5 := str_inj h3
    have ln : (sfL x y z).length = 32 := rfl
    have h6 : (sfL p q r).getD i 0 = b ^^^ m := by
      rw [h5, List.getD_eq_getElem?_getD, List.getElem?_set, if_pos rfl, if_pos (by rw [ln]; exact hi)]
      rfl
    have hf := u8_flip b m hm
    refine ⟨rfl, ?_, ?_, ?_⟩
    · refine Classical.byContradiction fun h => hf ?_
      rw [← h6, ← hb, head_get p q r i (by omega), head_get x y z i (by omega)]
    · refine Classical.byContradiction fun h => hf ?_
      rw [← h6, ← hb, tail_get p q r i (by omega) hi, tail_get x y z i (by omega) hi]
    · refine Classical.byContradiction fun h => hf ?_
      have e1 : p = x := Classical.byContradiction fun e => h (.inl e)
      have e2 : q = y := Classical.byContradiction fun e => h (.inr (.inl e))
      have e3 : r = z := Classical.byContradiction fun e => h (.inr (.inr e))
      rw [← h6, ← hb, e1, e2, e3]
  · exact .inl ⟨rfl, rfl, rfl, rfl⟩
theorem and127_u8 (x : Int) : ∃ (k : Int) (m : UInt8), bits .and .i64 x 127 = k ∧ 0 ≤ k ∧ k ≤ 127 ∧ 1 + k = (m.toNat : Int) ∧ m ≠ 0 := by
  have h1 := Int.emod_nonneg x (show (128 : Int) ≠ 0 by decide)
  have h2 := Int.emod_lt_of_pos x (show (0 : Int) < 128 by decide)
  have hm : (UInt8.ofNat (1 + x % 128).toNat).toNat = (1 + x % 128).toNat := by
    rw [UInt8.toNat_ofNat', Nat.mod_eq_of_lt (by simp; omega)]
  refine ⟨x % 128, UInt8.ofNat (1 + x % 128).toNat, and_mask64 x 7 (by decide), h1, by omega, by rw [hm]; omega, ?_⟩
  intro e
  rw [e] at hm
  simp at hm
  omega

set_option maxRecDepth 100000 in
set_option maxHeartbeats 4000000 in
theorem SfdpBack_walk (a : Int) (_ : -9223372036854775808 ≤ a ∧ a ≤ 9223372036854775807) (b : Int) (_ : -9223372036854775808 ≤ b ∧ b ≤ 9223372036854775807) (c : Int) (_ : -9223372036854775808 ≤ c ∧ c ≤ 9223372036854775807) (at_ : Int) (_ : -9223372036854775808 ≤ at_ ∧ at_ ≤ 9223372036854775807) (by_ : Int) (_ : -9223372036854775808 ≤ by_ ∧ by_ ≤ 9223372036854775807) (w : World) :
    Calls Try.prog 9 #[.int .i64 a, .int .i64 b, .int .i64 c, .int .i64 at_, .int .i64 by_] w fun e w' => e = .returned (.bool true) ∧ Below w.heap.size w w' := by
  obtain ⟨i, hi⟩ := rem17 a
  obtain ⟨j, hj⟩ := rem17 b
  obtain ⟨l, hl⟩ := rem17 c
  obtain ⟨x, hx⟩ : ∃ x, (2 : Int) ^ i.val = x := ⟨_, rfl⟩
  obtain ⟨y, hy⟩ : ∃ x, (2 : Int) ^ j.val = x := ⟨_, rfl⟩
  obtain ⟨z, hz⟩ : ∃ x, (2 : Int) ^ l.val = x := ⟨_, rfl⟩
  have i1 := pow_rng i
  have j1 := pow_rng j
  have k1 := pow_rng l
  have i2 := pow_num i
  have j2 := pow_num j
  have k2 := pow_num l
  have i3 := pow_ok i
  have j3 := pow_ok j
  have k3 := pow_ok l
  rw [hx] at i1 i2 i3
  rw [hy] at j1 j2 j3
  rw [hz] at k1 k2 k3
  obtain ⟨s1, e1⟩ := sf_p i3 j3 k3
  have n1 := sf_nums x y z
  rw [i2, j2, k2] at n1
  obtain ⟨s, hs⟩ : ∃ s, str (sfL x y z) = s := ⟨_, rfl⟩
  have zs : s.size = 32 := by rw [← hs]; exact sf_size x y z
  have hd : s.data.toList = sfL x y z := by rw [← hs, str_data]
  rw [hs] at s1 n1
  have A1 := Lib.hid (show ansS s x y z 0 from .inl ⟨⟨zs, by rw [n1.1, n1.2.1, n1.2.2, sfOk, i3, j3, k3]; rfl, by rw [n1.1, n1.2.1, n1.2.2]; exact s1⟩, n1.1.symm, n1.2.1.symm, n1.2.2.symm, rfl⟩)
  obtain ⟨n, hn, n0, n2⟩ := rem_finS at_ 32 (by decide) (by decide)
  obtain ⟨n, rfl⟩ := Int.eq_ofNat_of_zero_le n0
  obtain ⟨k, m, hk, hk0, hk1, hm, hm0⟩ := and127_u8 by_
  have hm1 : (m.toNat : Int) % 256 = (m.toNat : Int) := by omega
  have S1 := Lib.hid s1
  have E1 := Lib.hid e1
  have HD := Lib.hid hd
  have M0 := Lib.hid hm0
  clear s1 e1 n1 i2 j2 k2 i3 j3 k3 hs hd hm0
  have q1 : (x != x) = false := by simp
  have q2 : (y != y) = false := by simp
  have q3 : (z != z) = false := by simp
  go_enter Try.func9, Try.ntmps9
  go_wp2_with fail
  with_reducible refine (awake7 _).mono ?_
  rintro e w1 ⟨rfl, hb⟩
  have B1 := Lib.hid (hb)
  clear hb
  go_wp2_with fail
  with_reducible refine (put_s x y z _ (by omega) (by omega) (by omega) (by omega) (by omega) (by omega)).mono ?_
  rw [S1.out, E1.out]
  rintro e w2 ⟨rfl, hb⟩
  have B2 := Lib.hid (Bl.then B1.out hb)
  clear hb B1
  go_wp2_with fail
  with_reducible refine (get_s s x y z 0 A1.out _ (by omega)).mono ?_
  rintro e w3 ⟨rfl, hb⟩
  have B3 := Lib.hid (Bl.then B2.out hb)
  clear hb B2
  have kb := Lib.run_convert_string_bytes (P := Try.prog) w3 9 52 5 s Try.underlying9 Try.underlying52 Try.underlying5
  rw [zs] at kb
  have hO := Own.bytes w3 s 5 (by omega)
  rw [zs] at hO
  obtain ⟨hc1, hc2⟩ := hO.caps
  have B4 := Lib.hid (Bl.bytes B3.out 5 s)
  generalize grownCap w3 32 0 5 = cap at *
  generalize Lib.bytesWorld w3 5 s = w4 at *
  have hgb0 : ∃ gb, w3.heap.size = gb := ⟨_, rfl⟩
  obtain ⟨gb, hgb⟩ := hgb0
  rw [hgb] at kb hO
  have HO := Lib.hid hO
  have hgw : w.heap.size ≤ gb := by rw [← hgb]; exact B3.out.size
  clear hO hgb B3
  have g1 : w4.cell? ⟨gb, n, none⟩ = some (.int .u8 ((s.data.toList.getD n 0).toNat : Int)) := HO.out.at' (byts_at (by rw [data_len]; omega))
  have g2 : w4.frozen? ⟨gb, n, none⟩ = false := HO.out.free (by omega)
  generalize hu : s.data.toList.getD n 0 = u at g1
  have HU := Lib.hid hu
  clear hu
  have hst := HO.out.stored n (.int .u8 (bits .xor .u8 (u.toNat : Int) (m.toNat : Int)))
  have kc := (show Own (w4.setCell ⟨gb, n, none⟩ (.int .u8 (bits .xor .u8 (u.toNat : Int) (m.toNat : Int)))) gb 5 1 (.slice (some ⟨gb, 0, none⟩) 32 cap) 32 (byts (s.data.toList.set n (u ^^^ m))) from by
    rw [byts_set, ← u8_xor]
    exact hst.1).string (P := Try.prog) Try.underlying52 Try.underlying5 Try.underlying9
  have B5 := Lib.hid ((B4.out.setCell hgw (.int .u8 (bits .xor .u8 (u.toNat : Int) (m.toNat : Int))) (p := ⟨gb, n, none⟩)))
  obtain ⟨t, ht⟩ : ∃ t, str (s.data.toList.set n (u ^^^ m)) = t := ⟨_, rfl⟩
  rw [ht] at kc
  obtain ⟨p, q, r, f, hA⟩ := ansS_ex t
  have hz2 : t.size = 32 := by rw [← ht, str_size, List.length_set, data_len, zs]
  have hL := back_law (x := x) (y := y) (z := z) (i := n) (m := m) (b := u) (t := t) (by omega) M0.out (by rw [← HD.out]; exact HU.out) (by rw [← HD.out]; exact ht) hA
  have A2 := Lib.hid hA
  clear ht hst B4 hA
  go_wp2_with (go_at_call 18; refine (num_s _ _).mono ?_; rintro e w' ⟨rfl, rfl⟩)
  with_reducible refine (get_s t p q r f A2.out _ (by omega)).mono ?_
  rintro e w6 ⟨rfl, hb⟩
  have B6 := Lib.hid (Bl.then B5.out hb)
  clear hb B5
  rcases hL with ⟨rfl, rfl, rfl, rfl⟩ | ⟨rfl, l1, l2, l3⟩
  · go_wp2_with (go_at_call 18; refine (num_s _ _).mono ?_; rintro e w' ⟨rfl, rfl⟩)
    go_ret
    exact ⟨rfl, B6.out⟩
  · have l1' : (8 : Int) ≤ (n : Int) := by omega
    have l2' : (n : Int) < 20 := by omega
    obtain ⟨b1, hb1⟩ : ∃ v, (p != x) = v := ⟨_, rfl⟩
    obtain ⟨b2, hb2⟩ : ∃ v, (q != y) = v := ⟨_, rfl⟩
    obtain ⟨b3, hb3⟩ : ∃ v, (r != z) = v := ⟨_, rfl⟩
    have hor : b1 = true ∨ b2 = true ∨ b3 = true := by
      rcases l3 with h | h | h
      · exact .inl (by rw [← hb1, bne_iff_ne]; exact h)
      · exact .inr (.inl (by rw [← hb2, bne_iff_ne]; exact h))
      · exact .inr (.inr (by rw [← hb3, bne_iff_ne]; exact h))
    clear l3
    cases b1
    · cases b2
      · cases b3
        · simp at hor
        · clear hor
          go_wp2_with (go_at_call 18; refine (num_s _ _).mono ?_; rintro e w' ⟨rfl, rfl⟩)
          go_ret
          exact ⟨rfl, B6.out⟩
      · clear hor
        go_wp2_with (go_at_call 18; refine (num_s _ _).mono ?_; rintro e w' ⟨rfl, rfl⟩)
        go_ret
        exact ⟨rfl, B6.out⟩
    · clear hor
      go_wp2_with (go_at_call 18; refine (num_s _ _).mono ?_; rintro e w' ⟨rfl, rfl⟩)
      go_ret
      exact ⟨rfl, B6.out⟩
end Go.Proofs.Ytgkgfeggpoimjaa
