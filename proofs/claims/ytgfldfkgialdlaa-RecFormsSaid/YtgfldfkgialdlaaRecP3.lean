/- The statement RecForms: three of fifteen ways. -/
import Derived.Test.YtgfldfkgialdlaaRecP
namespace Go.Proofs.Ytgfldfkgialdlaa
set_option linter.unusedVariables false
set_option linter.unusedSimpArgs false
open Go.RowKit
set_option maxRecDepth 100000 in
theorem bad_9 (d : Int) (h1 : 1 ≤ d) (h2 : d ≤ 1024) : ¬ mayP (⟨2, 0, ⟨#[]⟩, ⟨#[]⟩⟩ : RecV) := by
  rintro (⟨h, h3, h4, h5, h6⟩ | ⟨h, h3, ⟨h4, h5⟩, h6⟩ | ⟨h, h3, ⟨h4, h5⟩, h6⟩)
  · first | (simp only at h; omega) | (simp only at h3; omega) | (simp only at h4; omega) | exact absurd h5 (by decide) | exact absurd h6 (by decide)
  · first | (simp only at h; omega) | (simp only at h3; omega) | exact absurd h4 (by show ¬ (1 ≤ ByteArray.size _); decide) | exact absurd h5 (by show ¬ (ByteArray.size _ ≤ 6); decide) | exact absurd h6 (by show ¬ (ByteArray.size _ ≤ 20); decide)
  · first | (simp only at h; omega) | (simp only at h3; omega) | exact absurd h4 (by show ¬ (1 ≤ ByteArray.size _); decide) | exact absurd h5 (by show ¬ (ByteArray.size _ ≤ 6); decide) | exact absurd h6 (by decide)

set_option maxRecDepth 100000 in
set_option maxHeartbeats 4000000 in
theorem forms_9 (which x d : Int) (hd : bits .and .i64 x 1023 + 1 = d) (h1 : 1 ≤ d) (h2 : d ≤ 1024) (hj : wrap64 ((IntKind.u64.wrap which).tmod 15) = 9) (n : Nat) (hn : wrap64 ((IntKind.u64.wrap which).tmod 64) = (n : Int)) (n1 : n < 64) (w : World) :
    Calls Try.prog 5 #[.int .i64 which, .int .i64 x] w fun e w' => e = .returned (.bool true) ∧ Below w.heap.size w w' := by
  have nb := bad_9 d h1 h2
  have PB := Lib.hid (put_not nb (show ByteArray.size ⟨#[]⟩ ≤ 9223372036854775807 by decide) (show ByteArray.size ⟨#[]⟩ ≤ 9223372036854775807 by decide))
  have mb := fun w => may_any (⟨2, 0, ⟨#[]⟩, ⟨#[]⟩⟩ : RecV) w (show ByteArray.size ⟨#[]⟩ ≤ 9223372036854775807 by decide) (show ByteArray.size ⟨#[]⟩ ≤ 9223372036854775807 by decide)
  rw [show mayB (⟨2, 0, ⟨#[]⟩, ⟨#[]⟩⟩ : RecV) = false from decide_eq_false nb] at mb
  have MB := Lib.hid mb
  change Hid (∀ w : World, Calls Try.prog 13 #[.agg #[.int .i64 2, .int .i64 0, .string ⟨#[]⟩, .string ⟨#[]⟩]] w fun e w' => e = .returned (.tuple #[.string ⟨#[]⟩, .int .i64 1900]) ∧ Below w.heap.size w w') at PB
  change Hid (∀ w : World, Calls Try.prog 18 #[.agg #[.int .i64 2, .int .i64 0, .string ⟨#[]⟩, .string ⟨#[]⟩]] w fun e w' => e = .returned (.bool false) ∧ Below w.heap.size w w') at MB
  obtain ⟨m, hm, m0⟩ := mask_u8 d h1 h2
  have hm1 : (m.toNat : Int) % 256 = (m.toNat : Int) := by have := m.toNat_lt; omega
  have FL := Lib.hid (rD_flip n n1 m m0)
  obtain ⟨s, hs⟩ : ∃ t, putR rD = t := ⟨_, rfl⟩
  have zs : s.size = 64 := by rw [← hs]; exact putR_size rD_may
  have PD := Lib.hid (put_hold rD_may s hs)
  change Hid (∀ w : World, Calls Try.prog 13 #[.agg #[.int .i64 1, .int .i64 0, .string ⟨#[97, 98]⟩, .string ⟨#[99, 100]⟩]] w fun e w' => e = .returned (.tuple #[.string s, .int .i64 0]) ∧ Below w.heap.size w w') at PD
  rw [hs] at FL
  obtain ⟨u3, hu3⟩ : ∃ t, s.extract 0 63 = t := ⟨_, rfl⟩
  have G3 := Lib.hid (fun w => getr_any u3 zeroR 1900 (ansR_size (by rw [← hu3, ByteArray.size_extract]; omega)) w)
  change Hid (∀ w : World, Calls Try.prog 15 #[.string u3] w fun e w' => e = .returned (.tuple #[.agg #[.int .i64 0, .int .i64 0, .string ⟨#[]⟩, .string ⟨#[]⟩], .int .i64 1900]) ∧ Below w.heap.size w w') at G3
  have hd2 : 1 + bits .and .i64 x 1023 = d := by omega
  have kz := eql_same 0 0 ⟨#[]⟩ ⟨#[]⟩
  clear nb mb hs hd m0
  go_enter Try.func5, Try.ntmps5
  go_wp2_with fail
  with_reducible refine (awake19 _).mono ?_
  rintro e w1 ⟨rfl, hb⟩
  have B1 := Lib.hid (Bl.then (Below.refl _ _) hb)
  clear hb
  go_wp2_with fail
  with_reducible refine (PB.out _).mono ?_
  rintro e w2 ⟨rfl, hb⟩
  have B2 := Lib.hid (Bl.then (Bl.alloc (Bl.alloc (B1.out) _) _) hb)
  have r2 := Lib.hid (Bx.below (Bx.new1 w1 _ (.int .i64 2) (.int .i64 0) (.string ⟨#[]⟩) (.string ⟨#[]⟩) 23) hb)
  clear hb B1
  go_wp2_with fail
  with_reducible refine (PD.out _).mono ?_
  rintro e w3 ⟨rfl, hb⟩
  have B3 := Lib.hid (Bl.then (B2.out) hb)
  have r3 := Lib.hid (Bx.below (r2.out) hb)
  clear hb B2 r2
  have kb := Lib.run_convert_string_bytes (P := Try.prog) w3 9 43 5 s Try.underlying9 Try.underlying43 Try.underlying5
  rw [zs] at kb
  have hO := Own.bytes w3 s 5 (by omega)
  rw [zs] at hO
  obtain ⟨hc1, hc2⟩ := hO.caps
  have B4 := Lib.hid (Bl.bytes B3.out 5 s)
  have r4 := Lib.hid (Bx.below r3.out (Bl.bytes (Below.refl _ _) 5 s))
  generalize grownCap w3 64 0 5 = cap at *
  generalize Lib.bytesWorld w3 5 s = w4 at *
  have hgb0 : ∃ gb, w3.heap.size = gb := ⟨_, rfl⟩
  obtain ⟨gb, hgb⟩ := hgb0
  rw [hgb] at kb hO
  have HO := Lib.hid hO
  have hgw : w.heap.size ≤ gb := by rw [← hgb]; exact B3.out.size
  have hr : w1.heap.size + 1 < gb := by rw [← hgb]; exact r3.out.lt
  clear hO hgb B3 r3
  have g1 : w4.cell? ⟨gb, n, none⟩ = some (.int .u8 ((s.data.toList.getD n 0).toNat : Int)) := HO.out.at' (byts_at (by rw [data_len]; omega))
  have g2 : w4.frozen? ⟨gb, n, none⟩ = false := HO.out.free (by omega)
  generalize hu : s.data.toList.getD n 0 = u at g1
  have FL2 := FL.out
  rw [hu] at FL2
  clear hu FL
  have hst := HO.out.stored n (.int .u8 (bits .xor .u8 (u.toNat : Int) (m.toNat : Int)))
  have kc := (show Own (w4.setCell ⟨gb, n, none⟩ (.int .u8 (bits .xor .u8 (u.toNat : Int) (m.toNat : Int)))) gb 5 1 (.slice (some ⟨gb, 0, none⟩) 64 cap) 64 (byts (s.data.toList.set n (u ^^^ m))) from by
    rw [byts_set, ← u8_xor]
    exact hst.1).string (P := Try.prog) Try.underlying43 Try.underlying5 Try.underlying9
  have B5 := Lib.hid ((B4.out.setCell hgw (.int .u8 (bits .xor .u8 (u.toNat : Int) (m.toNat : Int))) (p := ⟨gb, n, none⟩)))
  obtain ⟨⟨s0, s1, s2, s3⟩, _⟩ := r4.out
  have o0 := (World.cell?_setCell_far w4 ⟨gb, n, none⟩ ⟨w1.heap.size + 1, 0, none⟩ (.int .u8 (bits .xor .u8 (u.toNat : Int) (m.toNat : Int))) (show gb ≠ w1.heap.size + 1 by omega)).trans s0
  have o1 := (World.cell?_setCell_far w4 ⟨gb, n, none⟩ ⟨w1.heap.size + 1, 1, none⟩ (.int .u8 (bits .xor .u8 (u.toNat : Int) (m.toNat : Int))) (show gb ≠ w1.heap.size + 1 by omega)).trans s1
  have o2 := (World.cell?_setCell_far w4 ⟨gb, n, none⟩ ⟨w1.heap.size + 1, 2, none⟩ (.int .u8 (bits .xor .u8 (u.toNat : Int) (m.toNat : Int))) (show gb ≠ w1.heap.size + 1 by omega)).trans s2
  have o3 := (World.cell?_setCell_far w4 ⟨gb, n, none⟩ ⟨w1.heap.size + 1, 3, none⟩ (.int .u8 (bits .xor .u8 (u.toNat : Int) (m.toNat : Int))) (show gb ≠ w1.heap.size + 1 by omega)).trans s3
  have O4 := Lib.hid (And.intro o0 (And.intro o1 (And.intro o2 o3)))
  clear o0 o1 o2 o3 s0 s1 s2 s3
  obtain ⟨t, ht⟩ : ∃ t, str (s.data.toList.set n (u ^^^ m)) = t := ⟨_, rfl⟩
  rw [ht] at kc FL2
  have GF := Lib.hid (fun w => getr_any t zeroR 1900 (ansR_bad FL2) w)
  change Hid (∀ w : World, Calls Try.prog 15 #[.string t] w fun e w' => e = .returned (.tuple #[.agg #[.int .i64 0, .int .i64 0, .string ⟨#[]⟩, .string ⟨#[]⟩], .int .i64 1900]) ∧ Below w.heap.size w w') at GF
  clear ht hst B4 FL2
  go_wp2_with (go_at_call 17; refine (num_any _ _).mono ?_; rintro e w' ⟨rfl, rfl⟩)
  with_reducible refine (GF.out _).mono ?_
  rintro e w6 ⟨rfl, hb⟩
  have B6 := Lib.hid (Bl.then B5.out hb)
  have O6 := Lib.hid (kept4 hb O4.out)
  clear hb B5 O4
  go_wp2_with fail
  with_reducible refine (G3.out _).mono ?_
  rintro e w7 ⟨rfl, hb⟩
  have B7 := Lib.hid (Bl.then (Bl.alloc B6.out _) hb)
  obtain ⟨d0, d1, d2, d3⟩ := kept4 (Bl.then (Bl.alloc (Below.refl _ _) _) hb) O6.out
  obtain ⟨⟨e0, e1, e2, e3⟩, _⟩ := Bx.below (Bx.new w6 (.int .i64 0) (.int .i64 0) (.string ⟨#[]⟩) (.string ⟨#[]⟩) 23) hb
  have d0' := up1 d0
  have d1' := up1 d1
  have d2' := up1 d2
  have d3' := up1 d3
  have O7 := Lib.hid (And.intro e0 (And.intro e1 (And.intro e2 e3)))
  clear hb e0 e1 e2 e3
  go_wp2_with fail
  with_reducible refine (MB.out _).mono ?_
  rintro e w8 ⟨rfl, hb⟩
  have B8 := Lib.hid (Bl.then (Bl.alloc B7.out _) hb)
  obtain ⟨f0, f1, f2, f3⟩ := kept4 (Bl.then (Bl.alloc (Below.refl _ _) _) hb) O7.out
  clear hb d0 d1 d2 d3 d0' d1' d2' d3'
  go_wp2_with (go_at_call 17; refine (num_any _ _).mono ?_; rintro e w' ⟨rfl, rfl⟩)
  go_ret
  exact ⟨rfl, B8.out⟩

set_option maxRecDepth 100000 in
theorem bad_10 (d : Int) (h1 : 1 ≤ d) (h2 : d ≤ 1024) : ¬ mayP (⟨2, 0, ⟨#[97]⟩, ⟨#[98]⟩⟩ : RecV) := by
  rintro (⟨h, h3, h4, h5, h6⟩ | ⟨h, h3, ⟨h4, h5⟩, h6⟩ | ⟨h, h3, ⟨h4, h5⟩, h6⟩)
  · first | (simp only at h; omega) | (simp only at h3; omega) | (simp only at h4; omega) | exact absurd h5 (by decide) | exact absurd h6 (by decide)
  · first | (simp only at h; omega) | (simp only at h3; omega) | exact absurd h4 (by show ¬ (1 ≤ ByteArray.size _); decide) | exact absurd h5 (by show ¬ (ByteArray.size _ ≤ 6); decide) | exact absurd h6 (by show ¬ (ByteArray.size _ ≤ 20); decide)
  · first | (simp only at h; omega) | (simp only at h3; omega) | exact absurd h4 (by show ¬ (1 ≤ ByteArray.size _); decide) | exact absurd h5 (by show ¬ (ByteArray.size _ ≤ 6); decide) | exact absurd h6 (by decide)

set_option maxRecDepth 100000 in
set_option maxHeartbeats 4000000 in
theorem forms_10 (which x d : Int) (hd : bits .and .i64 x 1023 + 1 = d) (h1 : 1 ≤ d) (h2 : d ≤ 1024) (hj : wrap64 ((IntKind.u64.wrap which).tmod 15) = 10) (n : Nat) (hn : wrap64 ((IntKind.u64.wrap which).tmod 64) = (n : Int)) (n1 : n < 64) (w : World) :
    Calls Try.prog 5 #[.int .i64 which, .int .i64 x] w fun e w' => e = .returned (.bool true) ∧ Below w.heap.size w w' := by
  have nb := bad_10 d h1 h2
  have PB := Lib.hid (put_not nb (show ByteArray.size ⟨#[97]⟩ ≤ 9223372036854775807 by decide) (show ByteArray.size ⟨#[98]⟩ ≤ 9223372036854775807 by decide))
  have mb := fun w => may_any (⟨2, 0, ⟨#[97]⟩, ⟨#[98]⟩⟩ : RecV) w (show ByteArray.size ⟨#[97]⟩ ≤ 9223372036854775807 by decide) (show ByteArray.size ⟨#[98]⟩ ≤ 9223372036854775807 by decide)
  rw [show mayB (⟨2, 0, ⟨#[97]⟩, ⟨#[98]⟩⟩ : RecV) = false from decide_eq_false nb] at mb
  have MB := Lib.hid mb
  change Hid (∀ w : World, Calls Try.prog 13 #[.agg #[.int .i64 2, .int .i64 0, .string ⟨#[97]⟩, .string ⟨#[98]⟩]] w fun e w' => e = .returned (.tuple #[.string ⟨#[]⟩, .int .i64 1900]) ∧ Below w.heap.size w w') at PB
  change Hid (∀ w : World, Calls Try.prog 18 #[.agg #[.int .i64 2, .int .i64 0, .string ⟨#[97]⟩, .string ⟨#[98]⟩]] w fun e w' => e = .returned (.bool false) ∧ Below w.heap.size w w') at MB
  obtain ⟨m, hm, m0⟩ := mask_u8 d h1 h2
  have hm1 : (m.toNat : Int) % 256 = (m.toNat : Int) := by have := m.toNat_lt; omega
  have FL := Lib.hid (rD_flip n n1 m m0)
  obtain ⟨s, hs⟩ : ∃ t, putR rD = t := ⟨_, rfl⟩
  have zs : s.size = 64 := by rw [← hs]; exact putR_size rD_may
  have PD := Lib.hid (put_hold rD_may s hs)
  change Hid (∀ w : World, Calls Try.prog 13 #[.agg #[.int .i64 1, .int .i64 0, .string ⟨#[97, 98]⟩, .string ⟨#[99, 100]⟩]] w fun e w' => e = .returned (.tuple #[.string s, .int .i64 0]) ∧ Below w.heap.size w w') at PD
  rw [hs] at FL
  obtain ⟨u3, hu3⟩ : ∃ t, s.extract 0 63 = t := ⟨_, rfl⟩
  have G3 := Lib.hid (fun w => getr_any u3 zeroR 1900 (ansR_size (by rw [← hu3, ByteArray.size_extract]; omega)) w)
  change Hid (∀ w : World, Calls Try.prog 15 #[.string u3] w fun e w' => e = .returned (.tuple #[.agg #[.int .i64 0, .int .i64 0, .string ⟨#[]⟩, .string ⟨#[]⟩], .int .i64 1900]) ∧ Below w.heap.size w w') at G3
  have hd2 : 1 + bits .and .i64 x 1023 = d := by omega
  have kz := eql_same 0 0 ⟨#[]⟩ ⟨#[]⟩
  clear nb mb hs hd m0
  go_enter Try.func5, Try.ntmps5
  go_wp2_with fail
  with_reducible refine (awake19 _).mono ?_
  rintro e w1 ⟨rfl, hb⟩
  have B1 := Lib.hid (Bl.then (Below.refl _ _) hb)
  clear hb
  go_wp2_with fail
  with_reducible refine (PB.out _).mono ?_
  rintro e w2 ⟨rfl, hb⟩
  have B2 := Lib.hid (Bl.then (Bl.alloc (Bl.alloc (B1.out) _) _) hb)
  have r2 := Lib.hid (Bx.below (Bx.new1 w1 _ (.int .i64 2) (.int .i64 0) (.string ⟨#[97]⟩) (.string ⟨#[98]⟩) 23) hb)
  clear hb B1
  go_wp2_with fail
  with_reducible refine (PD.out _).mono ?_
  rintro e w3 ⟨rfl, hb⟩
  have B3 := Lib.hid (Bl.then (B2.out) hb)
  have r3 := Lib.hid (Bx.below (r2.out) hb)
  clear hb B2 r2
  have kb := Lib.run_convert_string_bytes (P := Try.prog) w3 9 43 5 s Try.underlying9 Try.underlying43 Try.underlying5
  rw [zs] at kb
  have hO := Own.bytes w3 s 5 (by omega)
  rw [zs] at hO
  obtain ⟨hc1, hc2⟩ := hO.caps
  have B4 := Lib.hid (Bl.bytes B3.out 5 s)
  have r4 := Lib.hid (Bx.below r3.out (Bl.bytes (Below.refl _ _) 5 s))
  generalize grownCap w3 64 0 5 = cap at *
  generalize Lib.bytesWorld w3 5 s = w4 at *
  have hgb0 : ∃ gb, w3.heap.size = gb := ⟨_, rfl⟩
  obtain ⟨gb, hgb⟩ := hgb0
  rw [hgb] at kb hO
  have HO := Lib.hid hO
  have hgw : w.heap.size ≤ gb := by rw [← hgb]; exact B3.out.size
  have hr : w1.heap.size + 1 < gb := by rw [← hgb]; exact r3.out.lt
  clear hO hgb B3 r3
  have g1 : w4.cell? ⟨gb, n, none⟩ = some (.int .u8 ((s.data.toList.getD n 0).toNat : Int)) := HO.out.at' (byts_at (by rw [data_len]; omega))
  have g2 : w4.frozen? ⟨gb, n, none⟩ = false := HO.out.free (by omega)
  generalize hu : s.data.toList.getD n 0 = u at g1
  have FL2 := FL.out
  rw [hu] at FL2
  clear hu FL
  have hst := HO.out.stored n (.int .u8 (bits .xor .u8 (u.toNat : Int) (m.toNat : Int)))
  have kc := (show Own (w4.setCell ⟨gb, n, none⟩ (.int .u8 (bits .xor .u8 (u.toNat : Int) (m.toNat : Int)))) gb 5 1 (.slice (some ⟨gb, 0, none⟩) 64 cap) 64 (byts (s.data.toList.set n (u ^^^ m))) from by
    rw [byts_set, ← u8_xor]
    exact hst.1).string (P := Try.prog) Try.underlying43 Try.underlying5 Try.underlying9
  have B5 := Lib.hid ((B4.out.setCell hgw (.int .u8 (bits .xor .u8 (u.toNat : Int) (m.toNat : Int))) (p := ⟨gb, n, none⟩)))
  obtain ⟨⟨s0, s1, s2, s3⟩, _⟩ := r4.out
  have o0 := (World.cell?_setCell_far w4 ⟨gb, n, none⟩ ⟨w1.heap.size + 1, 0, none⟩ (.int .u8 (bits .xor .u8 (u.toNat : Int) (m.toNat : Int))) (show gb ≠ w1.heap.size + 1 by omega)).trans s0
  have o1 := (World.cell?_setCell_far w4 ⟨gb, n, none⟩ ⟨w1.heap.size + 1, 1, none⟩ (.int .u8 (bits .xor .u8 (u.toNat : Int) (m.toNat : Int))) (show gb ≠ w1.heap.size + 1 by omega)).trans s1
  have o2 := (World.cell?_setCell_far w4 ⟨gb, n, none⟩ ⟨w1.heap.size + 1, 2, none⟩ (.int .u8 (bits .xor .u8 (u.toNat : Int) (m.toNat : Int))) (show gb ≠ w1.heap.size + 1 by omega)).trans s2
  have o3 := (World.cell?_setCell_far w4 ⟨gb, n, none⟩ ⟨w1.heap.size + 1, 3, none⟩ (.int .u8 (bits .xor .u8 (u.toNat : Int) (m.toNat : Int))) (show gb ≠ w1.heap.size + 1 by omega)).trans s3
  have O4 := Lib.hid (And.intro o0 (And.intro o1 (And.intro o2 o3)))
  clear o0 o1 o2 o3 s0 s1 s2 s3
  obtain ⟨t, ht⟩ : ∃ t, str (s.data.toList.set n (u ^^^ m)) = t := ⟨_, rfl⟩
  rw [ht] at kc FL2
  have GF := Lib.hid (fun w => getr_any t zeroR 1900 (ansR_bad FL2) w)
  change Hid (∀ w : World, Calls Try.prog 15 #[.string t] w fun e w' => e = .returned (.tuple #[.agg #[.int .i64 0, .int .i64 0, .string ⟨#[]⟩, .string ⟨#[]⟩], .int .i64 1900]) ∧ Below w.heap.size w w') at GF
  clear ht hst B4 FL2
  go_wp2_with (go_at_call 17; refine (num_any _ _).mono ?_; rintro e w' ⟨rfl, rfl⟩)
  with_reducible refine (GF.out _).mono ?_
  rintro e w6 ⟨rfl, hb⟩
  have B6 := Lib.hid (Bl.then B5.out hb)
  have O6 := Lib.hid (kept4 hb O4.out)
  clear hb B5 O4
  go_wp2_with fail
  with_reducible refine (G3.out _).mono ?_
  rintro e w7 ⟨rfl, hb⟩
  have B7 := Lib.hid (Bl.then (Bl.alloc B6.out _) hb)
  obtain ⟨d0, d1, d2, d3⟩ := kept4 (Bl.then (Bl.alloc (Below.refl _ _) _) hb) O6.out
  obtain ⟨⟨e0, e1, e2, e3⟩, _⟩ := Bx.below (Bx.new w6 (.int .i64 0) (.int .i64 0) (.string ⟨#[]⟩) (.string ⟨#[]⟩) 23) hb
  have d0' := up1 d0
  have d1' := up1 d1
  have d2' := up1 d2
  have d3' := up1 d3
  have O7 := Lib.hid (And.intro e0 (And.intro e1 (And.intro e2 e3)))
  clear hb e0 e1 e2 e3
  go_wp2_with fail
  with_reducible refine (MB.out _).mono ?_
  rintro e w8 ⟨rfl, hb⟩
  have B8 := Lib.hid (Bl.then (Bl.alloc B7.out _) hb)
  obtain ⟨f0, f1, f2, f3⟩ := kept4 (Bl.then (Bl.alloc (Below.refl _ _) _) hb) O7.out
  clear hb d0 d1 d2 d3 d0' d1' d2' d3'
  go_wp2_with (go_at_call 17; refine (num_any _ _).mono ?_; rintro e w' ⟨rfl, rfl⟩)
  go_ret
  exact ⟨rfl, B8.out⟩

set_option maxRecDepth 100000 in
theorem bad_11 (d : Int) (h1 : 1 ≤ d) (h2 : d ≤ 1024) : ¬ mayP (⟨2, 0, ⟨#[116, 111, 111, 108, 111, 110, 103]⟩, ⟨#[]⟩⟩ : RecV) := by
  rintro (⟨h, h3, h4, h5, h6⟩ | ⟨h, h3, ⟨h4, h5⟩, h6⟩ | ⟨h, h3, ⟨h4, h5⟩, h6⟩)
  · first | (simp only at h; omega) | (simp only at h3; omega) | (simp only at h4; omega) | exact absurd h5 (by decide) | exact absurd h6 (by decide)
  · first | (simp only at h; omega) | (simp only at h3; omega) | exact absurd h4 (by show ¬ (1 ≤ ByteArray.size _); decide) | exact absurd h5 (by show ¬ (ByteArray.size _ ≤ 6); decide) | exact absurd h6 (by show ¬ (ByteArray.size _ ≤ 20); decide)
  · first | (simp only at h; omega) | (simp only at h3; omega) | exact absurd h4 (by show ¬ (1 ≤ ByteArray.size _); decide) | exact absurd h5 (by show ¬ (ByteArray.size _ ≤ 6); decide) | exact absurd h6 (by decide)

set_option maxRecDepth 100000 in
set_option maxHeartbeats 4000000 in
theorem forms_11 (which x d : Int) (hd : bits .and .i64 x 1023 + 1 = d) (h1 : 1 ≤ d) (h2 : d ≤ 1024) (hj : wrap64 ((IntKind.u64.wrap which).tmod 15) = 11) (n : Nat) (hn : wrap64 ((IntKind.u64.wrap which).tmod 64) = (n : Int)) (n1 : n < 64) (w : World) :
    Calls Try.prog 5 #[.int .i64 which, .int .i64 x] w fun e w' => e = .returned (.bool true) ∧ Below w.heap.size w w' := by
  have nb := bad_11 d h1 h2
  have PB := Lib.hid (put_not nb (show ByteArray.size ⟨#[116, 111, 111, 108, 111, 110, 103]⟩ ≤ 9223372036854775807 by decide) (show ByteArray.size ⟨#[]⟩ ≤ 9223372036854775807 by decide))
  have mb := fun w => may_any (⟨2, 0, ⟨#[116, 111, 111, 108, 111, 110, 103]⟩, ⟨#[]⟩⟩ : RecV) w (show ByteArray.size ⟨#[116, 111, 111, 108, 111, 110, 103]⟩ ≤ 9223372036854775807 by decide) (show ByteArray.size ⟨#[]⟩ ≤ 9223372036854775807 by decide)
  rw [show mayB (⟨2, 0, ⟨#[116, 111, 111, 108, 111, 110, 103]⟩, ⟨#[]⟩⟩ : RecV) = false from decide_eq_false nb] at mb
  have MB := Lib.hid mb
  change Hid (∀ w : World, Calls Try.prog 13 #[.agg #[.int .i64 2, .int .i64 0, .string ⟨#[116, 111, 111, 108, 111, 110, 103]⟩, .string ⟨#[]⟩]] w fun e w' => e = .returned (.tuple #[.string ⟨#[]⟩, .int .i64 1900]) ∧ Below w.heap.size w w') at PB
  change Hid (∀ w : World, Calls Try.prog 18 #[.agg #[.int .i64 2, .int .i64 0, .string ⟨#[116, 111, 111, 108, 111, 110, 103]⟩, .string ⟨#[]⟩]] w fun e w' => e = .returned (.bool false) ∧ Below w.heap.size w w') at MB
  obtain ⟨m, hm, m0⟩ := mask_u8 d h1 h2
  have hm1 : (m.toNat : Int) % 256 = (m.toNat : Int) := by have := m.toNat_lt; omega
  have FL := Lib.hid (rD_flip n n1 m m0)
  obtain ⟨s, hs⟩ : ∃ t, putR rD = t := ⟨_, rfl⟩
  have zs : s.size = 64 := by rw [← hs]; exact putR_size rD_may
  have PD := Lib.hid (put_hold rD_may s hs)
  change Hid (∀ w : World, Calls Try.prog 13 #[.agg #[.int .i64 1, .int .i64 0, .string ⟨#[97, 98]⟩, .string ⟨#[99, 100]⟩]] w fun e w' => e = .returned (.tuple #[.string s, .int .i64 0]) ∧ Below w.heap.size w w') at PD
  rw [hs] at FL
  obtain ⟨u3, hu3⟩ : ∃ t, s.extract 0 63 = t := ⟨_, rfl⟩
  have G3 := Lib.hid (fun w => getr_any u3 zeroR 1900 (ansR_size (by rw [← hu3, ByteArray.size_extract]; omega)) w)
  change Hid (∀ w : World, Calls Try.prog 15 #[.string u3] w fun e w' => e = .returned (.tuple #[.agg #[.int .i64 0, .int .i64 0, .string ⟨#[]⟩, .string ⟨#[]⟩], .int .i64 1900]) ∧ Below w.heap.size w w') at G3
  have hd2 : 1 + bits .and .i64 x 1023 = d := by omega
  have kz := eql_same 0 0 ⟨#[]⟩ ⟨#[]⟩
  clear nb mb hs hd m0
  go_enter Try.func5, Try.ntmps5
  go_wp2_with fail
  with_reducible refine (awake19 _).mono ?_
  rintro e w1 ⟨rfl, hb⟩
  have B1 := Lib.hid (Bl.then (Below.refl _ _) hb)
  clear hb
  go_wp2_with fail
  with_reducible refine (PB.out _).mono ?_
  rintro e w2 ⟨rfl, hb⟩
  have B2 := Lib.hid (Bl.then (Bl.alloc (Bl.alloc (B1.out) _) _) hb)
  have r2 := Lib.hid (Bx.below (Bx.new1 w1 _ (.int .i64 2) (.int .i64 0) (.string ⟨#[116, 111, 111, 108, 111, 110, 103]⟩) (.string ⟨#[]⟩) 23) hb)
  clear hb B1
  go_wp2_with fail
  with_reducible refine (PD.out _).mono ?_
  rintro e w3 ⟨rfl, hb⟩
  have B3 := Lib.hid (Bl.then (B2.out) hb)
  have r3 := Lib.hid (Bx.below (r2.out) hb)
  clear hb B2 r2
  have kb := Lib.run_convert_string_bytes (P := Try.prog) w3 9 43 5 s Try.underlying9 Try.underlying43 Try.underlying5
  rw [zs] at kb
  have hO := Own.bytes w3 s 5 (by omega)
  rw [zs] at hO
  obtain ⟨hc1, hc2⟩ := hO.caps
  have B4 := Lib.hid (Bl.bytes B3.out 5 s)
  have r4 := Lib.hid (Bx.below r3.out (Bl.bytes (Below.refl _ _) 5 s))
  generalize grownCap w3 64 0 5 = cap at *
  generalize Lib.bytesWorld w3 5 s = w4 at *
  have hgb0 : ∃ gb, w3.heap.size = gb := ⟨_, rfl⟩
  obtain ⟨gb, hgb⟩ := hgb0
  rw [hgb] at kb hO
  have HO := Lib.hid hO
  have hgw : w.heap.size ≤ gb := by rw [← hgb]; exact B3.out.size
  have hr : w1.heap.size + 1 < gb := by rw [← hgb]; exact r3.out.lt
  clear hO hgb B3 r3
  have g1 : w4.cell? ⟨gb, n, none⟩ = some (.int .u8 ((s.data.toList.getD n 0).toNat : Int)) := HO.out.at' (byts_at (by rw [data_len]; omega))
  have g2 : w4.frozen? ⟨gb, n, none⟩ = false := HO.out.free (by omega)
  generalize hu : s.data.toList.getD n 0 = u at g1
  have FL2 := FL.out
  rw [hu] at FL2
  clear hu FL
  have hst := HO.out.stored n (.int .u8 (bits .xor .u8 (u.toNat : Int) (m.toNat : Int)))
  have kc := (show Own (w4.setCell ⟨gb, n, none⟩ (.int .u8 (bits .xor .u8 (u.toNat : Int) (m.toNat : Int)))) gb 5 1 (.slice (some ⟨gb, 0, none⟩) 64 cap) 64 (byts (s.data.toList.set n (u ^^^ m))) from by
    rw [byts_set, ← u8_xor]
    exact hst.1).string (P := Try.prog) Try.underlying43 Try.underlying5 Try.underlying9
  have B5 := Lib.hid ((B4.out.setCell hgw (.int .u8 (bits .xor .u8 (u.toNat : Int) (m.toNat : Int))) (p := ⟨gb, n, none⟩)))
  obtain ⟨⟨s0, s1, s2, s3⟩, _⟩ := r4.out
  have o0 := (World.cell?_setCell_far w4 ⟨gb, n, none⟩ ⟨w1.heap.size + 1, 0, none⟩ (.int .u8 (bits .xor .u8 (u.toNat : Int) (m.toNat : Int))) (show gb ≠ w1.heap.size + 1 by omega)).trans s0
  have o1 := (World.cell?_setCell_far w4 ⟨gb, n, none⟩ ⟨w1.heap.size + 1, 1, none⟩ (.int .u8 (bits .xor .u8 (u.toNat : Int) (m.toNat : Int))) (show gb ≠ w1.heap.size + 1 by omega)).trans s1
  have o2 := (World.cell?_setCell_far w4 ⟨gb, n, none⟩ ⟨w1.heap.size + 1, 2, none⟩ (.int .u8 (bits .xor .u8 (u.toNat : Int) (m.toNat : Int))) (show gb ≠ w1.heap.size + 1 by omega)).trans s2
  have o3 := (World.cell?_setCell_far w4 ⟨gb, n, none⟩ ⟨w1.heap.size + 1, 3, none⟩ (.int .u8 (bits .xor .u8 (u.toNat : Int) (m.toNat : Int))) (show gb ≠ w1.heap.size + 1 by omega)).trans s3
  have O4 := Lib.hid (And.intro o0 (And.intro o1 (And.intro o2 o3)))
  clear o0 o1 o2 o3 s0 s1 s2 s3
  obtain ⟨t, ht⟩ : ∃ t, str (s.data.toList.set n (u ^^^ m)) = t := ⟨_, rfl⟩
  rw [ht] at kc FL2
  have GF := Lib.hid (fun w => getr_any t zeroR 1900 (ansR_bad FL2) w)
  change Hid (∀ w : World, Calls Try.prog 15 #[.string t] w fun e w' => e = .returned (.tuple #[.agg #[.int .i64 0, .int .i64 0, .string ⟨#[]⟩, .string ⟨#[]⟩], .int .i64 1900]) ∧ Below w.heap.size w w') at GF
  clear ht hst B4 FL2
  go_wp2_with (go_at_call 17; refine (num_any _ _).mono ?_; rintro e w' ⟨rfl, rfl⟩)
  with_reducible refine (GF.out _).mono ?_
  rintro e w6 ⟨rfl, hb⟩
  have B6 := Lib.hid (Bl.then B5.out hb)
  have O6 := Lib.hid (kept4 hb O4.out)
  clear hb B5 O4
  go_wp2_with fail
  with_reducible refine (G3.out _).mono ?_
  rintro e w7 ⟨rfl, hb⟩
  have B7 := Lib.hid (Bl.then (Bl.alloc B6.out _) hb)
  obtain ⟨d0, d1, d2, d3⟩ := kept4 (Bl.then (Bl.alloc (Below.refl _ _) _) hb) O6.out
  obtain ⟨⟨e0, e1, e2, e3⟩, _⟩ := Bx.below (Bx.new w6 (.int .i64 0) (.int .i64 0) (.string ⟨#[]⟩) (.string ⟨#[]⟩) 23) hb
  have d0' := up1 d0
  have d1' := up1 d1
  have d2' := up1 d2
  have d3' := up1 d3
  have O7 := Lib.hid (And.intro e0 (And.intro e1 (And.intro e2 e3)))
  clear hb e0 e1 e2 e3
  go_wp2_with fail
  with_reducible refine (MB.out _).mono ?_
  rintro e w8 ⟨rfl, hb⟩
  have B8 := Lib.hid (Bl.then (Bl.alloc B7.out _) hb)
  obtain ⟨f0, f1, f2, f3⟩ := kept4 (Bl.then (Bl.alloc (Below.refl _ _) _) hb) O7.out
  clear hb d0 d1 d2 d3 d0' d1' d2' d3'
  go_wp2_with (go_at_call 17; refine (num_any _ _).mono ?_; rintro e w' ⟨rfl, rfl⟩)
  go_ret
  exact ⟨rfl, B8.out⟩
end Go.Proofs.Ytgfldfkgialdlaa
