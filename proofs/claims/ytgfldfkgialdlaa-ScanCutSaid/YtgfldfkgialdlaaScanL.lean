/- scan: what a sector of records tells. · The statements over scan: awake. · The statement Scans: the walk. -/
import Derived.Test.YtgfldfkgialdlaaScanK
namespace Go.Proofs.Ytgfldfkgialdlaa
set_option linter.unusedVariables false
set_option linter.unusedSimpArgs false
open Go.RowKit

theorem ext_left (a b : ByteArray) (i j : Nat) (h : j ≤ a.size) : (a ++ b).extract i j = a.extract i j := by
  rw [ext_list, ext_list, app_data]
  congr 1
  have hl := data_len a
  by_cases hi : i ≤ a.data.toList.length
  · rw [List.drop_append_of_le_length hi, List.take_append_of_le_length (by rw [List.length_drop]; omega)]
  · rw [show j - i = 0 by omega]
    simp
theorem ext_right (a b : ByteArray) (n : Nat) (h : n = a.size) (hb : b.size = 64) : (a ++ b).extract n (n + 64) = b := by
  subst h
  rw [ext_list, app_data, List.drop_left' (data_len a), show a.size + 64 - a.size = 64 by omega, List.take_of_length_le (by rw [data_len]; omega), str_of]
theorem sect_slot (rs : List RecV) (ds : List Int) : ∀ (n i : Nat), i < n → (sectT rs ds n).extract (64 * i) (64 * i + 64) = slotT rs ds i
  | 0, i, h => by omega
  | n + 1, i, h => by
    rw [sectT]
    by_cases hi : i < n
    · rw [ext_left _ _ _ _ (by rw [sectT_size]; omega)]
      exact sect_slot rs ds n i hi
    · obtain rfl : i = n := by omega
      exact ext_right _ _ _ (sectT_size rs ds i).symm (slotT_size rs ds i)
theorem slotB_sect (rs : List RecV) (ds : List Int) (i : Nat) (h : i < 8) : slotB (sectB rs ds) i = slotT rs ds i := sect_slot rs ds 8 i h
theorem blank64_data : blank64.data.toList = List.replicate 64 255 := by
  rw [blank64, ext_list, str_data, str_data, blankL, List.drop_zero, List.take_replicate]
  rfl
theorem blank64_bad : tellR blank64 = zeroR ∧ tellE blank64 = 1900 := tell_of (ansR_bad blank_bad)
theorem isR_blank : isR blank64 = false := by
  cases h : isR blank64 with
  | false => rfl
  | true =>
    have := (isR_iff _).1 h
    rw [blank64_bad.2] at this
    exact absurd this.1 (by decide)
theorem blankB_blank : blankB blank64 = true := by
  rw [blankB, blank64_data, blank64_size]
  exact beq_self_eq_true _
theorem isR_put {r : RecV} (h : mayP r) : isR (putR r) = decide (r.k ≠ 0) := by
  have t := tell_put h
  rw [Bool.eq_iff_iff, isR_iff, t.1, t.2]
  simp
theorem blankB_bad {u : ByteArray} (h : blankB u = true) (hz : u.size = 64) : u = blank64 := by
  rw [blankB, beq_iff_eq, hz] at h
  exact ext_str (by rw [h, blank64_data])
theorem blankB_put {r : RecV} (h : mayP r) : blankB (putR r) = false := by
  cases hb : blankB (putR r) with
  | false => rfl
  | true =>
    have e := blankB_bad hb (putR_size h)
    have t := tell_put h
    rw [e, blank64_bad.2] at t
    exact absurd t.2 (by decide)
theorem slotT_nil (rs : List RecV) (i : Nat) : slotT rs [] i = recT rs i := by
  unfold slotT
  rw [if_neg (by simp)]
theorem blank_slots (i : Nat) (h : i < 8) : slotB ((str blankL).extract 0 512) i = blank64 := by
  rw [slotB, ext_list, ext_list, str_data, str_data, blankL]
  refine ext_str ?_
  rw [str_data, blank64_data, List.drop_zero, List.take_replicate, List.drop_replicate, List.take_replicate]
  congr 1
  omega
theorem RdV.lit (w : World) (vs : List ViewV) (n g : Nat) (hg : w.heap.size = g) (hn : vs.length = n) (hm : n ≤ maxLen) (t : TypeId) : RdV (w.alloc (.cells (flatV vs).toArray t)) (.slice (some ⟨g, 0, none⟩) n n) vs := by
  subst hn
  subst hg
  refine .inr ⟨w.heap.size, 0, vs.length, rfl, Nat.le_refl _, hm, fun j u hu => ?_⟩
  rw [Nat.zero_add, cell_of_row _ w.heap.size j (flatV vs).toArray t (0, 0) (heap_alloc_new w _)]
  simpa using hu
theorem RdR.lit (w : World) (rs : List RecV) (n g : Nat) (hg : w.heap.size = g) (hn : rs.length = n) (hm : n ≤ maxLen) (t : TypeId) : RdR (w.alloc (.cells (flat rs).toArray t)) (.slice (some ⟨g, 0, none⟩) n n) rs := by
  subst hn
  subst hg
  refine .inr ⟨w.heap.size, 0, rs.length, rfl, Nat.le_refl _, hm, fun j u hu => ?_⟩
  rw [Nat.zero_add, cell_of_row _ w.heap.size j (flat rs).toArray t (0, 0) (heap_alloc_new w _)]
  simpa using hu

def aw3 : List RecV := [⟨0, 7, nilB, nilB⟩, ⟨1, 0, ⟨#[97]⟩, ⟨#[98]⟩⟩, ⟨2, 0, ⟨#[97]⟩, nilB⟩]
theorem aw_slot (i : Nat) (h : i < 8) : slotB (sectB aw3 []) i = if i = 0 then putR ⟨0, 7, nilB, nilB⟩ else if i = 1 then putR ⟨1, 0, ⟨#[97]⟩, ⟨#[98]⟩⟩ else if i = 2 then putR ⟨2, 0, ⟨#[97]⟩, nilB⟩ else blank64 := by
  rw [slotB_sect _ _ _ h, slotT_nil, recT]
  have hc : i = 0 ∨ i = 1 ∨ i = 2 ∨ 3 ≤ i := by omega
  rcases hc with rfl | rfl | rfl | h3
  · rw [if_pos ⟨by decide, by decide⟩]; rfl
  · rw [if_pos ⟨by decide, by decide⟩]; rfl
  · rw [if_pos ⟨by decide, by decide⟩]; rfl
  · rw [if_neg (fun h => by have := h.1; simp [aw3] at this; omega), if_neg (by omega), if_neg (by omega), if_neg (by omega)]
theorem aw_facts : scanG (sectB aw3 []) = true ∧ scanP (sectB aw3 []) = 7 ∧ freeS (sectB aw3 []) = 3 ∧ (recsS (sectB aw3 [])).length = 2 := by
  have z := sectB_size aw3 []
  have s := aw_slot
  generalize sectB aw3 [] = t at *
  have m0 : mayP ⟨0, 7, nilB, nilB⟩ := by decide
  have m1 : mayP ⟨1, 0, ⟨#[97]⟩, ⟨#[98]⟩⟩ := by decide
  have m2 : mayP ⟨2, 0, ⟨#[97]⟩, nilB⟩ := by decide
  have k1 : slotB t 1 = putR ⟨1, 0, ⟨#[97]⟩, ⟨#[98]⟩⟩ := s 1 (by decide)
  have k2 : slotB t 2 = putR ⟨2, 0, ⟨#[97]⟩, nilB⟩ := s 2 (by decide)
  have k3 : slotB t 3 = blank64 := s 3 (by decide)
  have k4 : slotB t 4 = blank64 := s 4 (by decide)
  have k5 : slotB t 5 = blank64 := s 5 (by decide)
  have k6 : slotB t 6 = blank64 := s 6 (by decide)
  have k7 : slotB t 7 = blank64 := s 7 (by decide)
  have i1 : isR (putR ⟨1, 0, ⟨#[97]⟩, ⟨#[98]⟩⟩) = true := by rw [isR_put m1]; rfl
  have i2 : isR (putR ⟨2, 0, ⟨#[97]⟩, nilB⟩) = true := by rw [isR_put m2]; rfl
  have t0 := tell_put m0
  have hg : goodS t = true := by
    rw [goodS, s 0 (by decide), if_pos rfl, t0.1, t0.2]
    exact decide_eq_true ⟨rfl, rfl⟩
  refine ⟨by rw [scanG, if_pos z, hg], by rw [scanP, if_pos z, epochS, hg, if_pos rfl, s 0 (by decide), if_pos rfl, t0.1], ?_, ?_⟩
  · rw [freeS, if_pos z]
    simp only [freeN, Nat.reduceAdd, k1, k2, k3, k4, k5, k6, k7, blankB_blank, blankB_put m1, blankB_put m2, if_true, Bool.false_eq_true, if_false]
    rfl
  · rw [recsS, if_pos z]
    simp only [recsN, Nat.reduceAdd, k1, k2, k3, k4, k5, k6, k7, isR_blank, i1, i2, if_true, Bool.false_eq_true, if_false]
    rfl
theorem bl_facts {t : ByteArray} (z : t.size = 512) (s : ∀ i, i < 8 → slotB t i = blank64) : scanG t = false ∧ scanP t = 0 ∧ freeS t = 1 ∧ recsS t = [] := by
  have hg : goodS t = false := by
    rw [goodS, s 0 (by decide), blank64_bad.2]
    exact decide_eq_false (fun h => absurd h.1 (by decide))
  refine ⟨by rw [scanG, if_pos z, hg], by rw [scanP, if_pos z, epochS, hg]; rfl, ?_, ?_⟩
  · rw [freeS, if_pos z]
    simp only [freeN, s 1 (by decide), s 2 (by decide), s 3 (by decide), s 4 (by decide), s 5 (by decide), s 6 (by decide), s 7 (by decide), Nat.reduceAdd, blankB_blank, if_true]
    rfl
  · rw [recsS, if_pos z]
    simp only [recsN, s 1 (by decide), s 2 (by decide), s 3 (by decide), s 4 (by decide), s 5 (by decide), s 6 (by decide), s 7 (by decide), Nat.reduceAdd, isR_blank, Bool.false_eq_true, if_false]
end Go.Proofs.Ytgfldfkgialdlaa
namespace Go.Proofs.Ytgfldfkgialdlaa
set_option linter.unusedVariables false
set_option linter.unusedSimpArgs false
open Go.RowKit

/-- Scan where what it tells is known. -/
theorem scan_told (s : ByteArray) (hs : s.size ≤ 140737488351232) (g : Bool) (p f e0 : Int) (n : Nat) (h1 : scanG s = g) (h2 : scanP s = p) (h3 : freeS s = f) (h4 : scanE s = e0) (h5 : (recsS s).length = n) (w : World) :
    Calls Try.prog 25 #[.string s] w fun e w' => ∃ A c, e = .returned (.tuple #[.agg #[.bool g, .int .i64 p, .slice A n c, .int .i64 f], .int .i64 e0]) ∧ Own w' w.heap.size 23 4 (.slice A n c) n (flat (recsS s)) ∧ Below w.heap.size w w' :=
  (scan_any s hs w).mono fun e w' ⟨v, he, ho, hb⟩ => by
    obtain ⟨A, c, rfl⟩ := ho.slice
    rw [h1, h2, h3, h4, h5] at he
    rw [h5] at ho
    exact ⟨A, c, he, ho, hb⟩
theorem rscan_told (s : ByteArray) (hs : s.size ≤ 140737488351232) (g : Bool) (p f e0 : Int) (n : Nat) (h1 : scanG s = g) (h2 : scanP s = p) (h3 : freeS s = f) (h4 : scanE s = e0) (h5 : (recsS s).length = n) (w : World) :
    Calls Try.prog 26 #[.string s] w fun e w' => ∃ A c, e = .returned (.tuple #[.agg #[.bool g, .int .i64 p, .slice A n c, .int .i64 f], .int .i64 e0]) ∧ Own w' w.heap.size 23 4 (.slice A n c) n (flat (recsS s)) ∧ Below w.heap.size w w' :=
  (rscan_any s hs w).mono fun e w' ⟨v, he, ho, hb⟩ => by
    obtain ⟨A, c, rfl⟩ := ho.slice
    rw [h1, h2, h3, h4, h5] at he
    rw [h5] at ho
    exact ⟨A, c, he, ho, hb⟩

set_option maxRecDepth 100000 in
set_option maxHeartbeats 4000000 in
theorem awake20 (w : World) : Calls Try.prog 31 #[] w fun e w' => e = .returned (.bool true) ∧ Below w.heap.size w w' := by
  obtain ⟨f1, f2, f3, f4⟩ := aw_facts
  have zs := sectB_size aw3 []
  have hS := fun (v : Value) (w : World) (h : RdR w v aw3) => sector_any v (.slice none 0 0) aw3 [] w h (Rd.nil w) (by decide)
  generalize sectB aw3 [] = s at *
  obtain ⟨bl, hbl⟩ : ∃ u, str blankL = u := ⟨_, rfl⟩
  have zb : bl.size = 4096 := by rw [← hbl]; exact blank_size
  obtain ⟨t, ht⟩ : ∃ u, bl.extract 0 512 = u := ⟨_, rfl⟩
  have zt : t.size = 512 := by rw [← ht, ByteArray.size_extract]; omega
  obtain ⟨b1, b2, b3, b4⟩ := bl_facts zt (fun i hi => by rw [← ht, ← hbl]; exact blank_slots i hi)
  have SA := Lib.hid (fun w => scan_told s (by omega) true 7 3 0 2 f1 f2 f3 (if_pos zs) f4 w)
  have SB := Lib.hid (fun w => scan_told t (by omega) false 0 1 0 0 b1 b2 b3 (if_pos zt) (by rw [b4]; rfl) w)
  have SC := Lib.hid (fun w => scan_told ⟨#[]⟩ (by decide) false 0 0 2000 0 rfl rfl rfl rfl rfl w)
  have HS := Lib.hid hS
  have HB := Lib.hid hbl
  clear f1 f2 f3 f4 b1 b2 b3 b4 hS hbl
  go_enter Try.func31, Try.ntmps31
  go_wp2_with fail
  refine (HS.out _ _ (RdR.lit w aw3 3 w.heap.size rfl rfl (by decide) 23)).mono ?_
  rintro e w1 ⟨rfl, hb⟩
  have B1 := Lib.hid (Bl.then (Bl.alloc (Below.refl _ _) _) hb)
  clear hb
  go_wp2_with fail
  with_reducible refine (SA.out _).mono ?_
  rintro e w2 ⟨A, c, rfl, _, hb⟩
  have B2 := Lib.hid (Bl.then B1.out hb)
  clear hb B1
  go_wp2_with fail
  with_reducible refine (rblank_any _).mono ?_
  rw [HB.out]
  rintro e w3 ⟨rfl, hb⟩
  have X3 := Lib.hid (Bx.below (Bx.new w2 (.bool true) (.int .i64 7) (.slice A 2 c) (.int .i64 3) 51) hb)
  have B3 := Lib.hid (Bl.then (Bl.alloc B2.out _) hb)
  clear hb B2
  go_wp2_with fail
  with_reducible refine (SB.out _).mono ?_
  rintro e w4 ⟨D, d, rfl, _, hb⟩
  have X4 := Lib.hid (Bx.below X3.out hb)
  have B4 := Lib.hid (Bl.then B3.out hb)
  clear hb B3 X3
  go_wp2_with fail
  with_reducible refine (SC.out _).mono ?_
  rintro e w5 ⟨E, e5, rfl, _, hb⟩
  have X5 := Lib.hid (Bx.below (Bx.below X4.out (Bl.alloc (Below.refl _ _) _)) hb)
  have Y5 := Lib.hid (Bx.below (Bx.new w4 (.bool false) (.int .i64 0) (.slice D 0 d) (.int .i64 1) 51) hb)
  have B5 := Lib.hid (Bl.then (Bl.alloc B4.out _) hb)
  clear hb B4 X4
  obtain ⟨⟨c0, c1, c2, c3⟩, _⟩ := X5.out
  obtain ⟨⟨d0, d1, d2, d3⟩, _⟩ := Y5.out
  have c0' := up1 c0
  have c1' := up1 c1
  have c2' := up1 c2
  have c3' := up1 c3
  have d0' := up1 d0
  have d1' := up1 d1
  have d2' := up1 d2
  have d3' := up1 d3
  go_wp2_with fail
  refine (best_any _ [⟨false, 0, D, 0, d, 1⟩, ⟨true, 7, A, 2, c, 3⟩, ⟨true, 7, none, 0, 0, 0⟩] _ (RdV.lit (w5.alloc (Obj.cells #[.bool false, .int .i64 0, .slice E 0 e5, .int .i64 0] 51)) _ 3 (w5.heap.size + 1) (by simp) rfl (by decide) 51)).mono ?_
  rw [show bestV [⟨false, 0, D, 0, d, 1⟩, ⟨true, 7, A, 2, c, 3⟩, ⟨true, 7, none, 0, 0, 0⟩] = 1 from rfl, show bestE [⟨false, 0, D, 0, d, 1⟩, ⟨true, 7, A, 2, c, 3⟩, ⟨true, 7, none, 0, 0, 0⟩] = 0 from rfl]
  rintro e w6 ⟨rfl, hb⟩
  have X6 := Lib.hid (Bx.below X5.out (Bl.then (Bl.alloc (Bl.alloc (Below.refl _ _) _) _) hb))
  have Y6 := Lib.hid (Bx.below Y5.out (Bl.then (Bl.alloc (Bl.alloc (Below.refl _ _) _) _) hb))
  have B6 := Lib.hid (Bl.then (Bl.alloc (Bl.alloc B5.out _) _) hb)
  clear hb B5 X5 Y5 c0 c1 c2 c3 d0 d1 d2 d3 c0' c1' c2' c3' d0' d1' d2' d3'
  obtain ⟨⟨d0, d1, d2, d3⟩, _⟩ := Y6.out
  go_wp2_with fail
  refine (best_any _ [⟨false, 0, D, 0, d, 1⟩] _ (RdV.lit w6 _ 1 w6.heap.size rfl rfl (by decide) 51)).mono ?_
  rw [show bestV [⟨false, 0, D, 0, d, 1⟩] = 0 from rfl, show bestE [⟨false, 0, D, 0, d, 1⟩] = 2001 from rfl]
  rintro e w7 ⟨rfl, hb⟩
  have X7 := Lib.hid (Bx.below X6.out (Bl.then (Bl.alloc (Below.refl _ _) _) hb))
  have Y7 := Lib.hid (Bx.below Y6.out (Bl.then (Bl.alloc (Below.refl _ _) _) hb))
  have B7 := Lib.hid (Bl.then (Bl.alloc B6.out _) hb)
  clear hb B6 X6 Y6 d0 d1 d2 d3
  obtain ⟨⟨c0, c1, c2, c3⟩, _⟩ := X7.out
  obtain ⟨⟨d0, d1, d2, d3⟩, _⟩ := Y7.out
  go_wp2_with (go_at_call 17; refine (num_any _ _).mono ?_; rintro e w' ⟨rfl, rfl⟩)
  go_ret
  exact ⟨rfl, B7.out⟩
end Go.Proofs.Ytgfldfkgialdlaa
namespace Go.Proofs.Ytgfldfkgialdlaa
set_option linter.unusedVariables false
set_option linter.unusedSimpArgs false
open Go.RowKit
theorem Own.apart {w w2 w3 : World} {B B2 n m : Nat} {e : TypeId} {size size2 : Nat} {v u : Value} {xs ys : List Value} (h : Own w B e size v n xs) (hu : ∀ k, u.ownBlock = some k → B2 ≤ k) (hB : w.heap.size ≤ B2) : u.ownBlock = none ∨ u.ownBlock ≠ v.ownBlock := by
  cases hk : u.ownBlock with
  | none => exact .inl rfl
  | some k =>
    refine .inr fun e2 => ?_
    have h1 := hu k hk
    have h2 := (h.lt k e2.symm).2
    omega
set_option maxRecDepth 100000 in
set_option maxHeartbeats 4000000 in
theorem Scans_any (s : ByteArray) (hs0 : s.size ≤ 140737488351232) (va : Value) (rs : List RecV) (vd : Value) (ds : List Int) (vv : Value) (vs : List ViewV) (w : World) (ha : RdR w va rs) (hd : Rd w vd ds) (hv : RdV w vv vs) (hz : ∀ r ∈ rs, r.key.size ≤ 9223372036854775807 ∧ r.val.size ≤ 9223372036854775807) :
    Calls Try.prog 8 #[.string s, va, vd, .bool false, vv] w fun e w' => e = .returned (.bool true) ∧ Below w.heap.size w w' := by
  have hs := hs0
  have HV := Lib.hid hv
  obtain ⟨V, vc, rfl⟩ := hv.form
  obtain ⟨A0, a0, rfl⟩ := ha.form
  obtain ⟨D0, d0, rfl⟩ := hd.form
  obtain ⟨g, hg⟩ : ∃ z, scanG s = z := ⟨_, rfl⟩
  obtain ⟨p, hp⟩ : ∃ z, scanP s = z := ⟨_, rfl⟩
  obtain ⟨f, hf⟩ : ∃ z, freeS s = z := ⟨_, rfl⟩
  obtain ⟨e0, he⟩ : ∃ z, scanE s = z := ⟨_, rfl⟩
  obtain ⟨qs, hq⟩ : ∃ z, recsS s = z := ⟨_, rfl⟩
  obtain ⟨n, hn⟩ : ∃ z, qs.length = z := ⟨_, rfl⟩
  have sa := fun w => scan_told s hs g p f e0 n hg hp hf he (by rw [hq, hn]) w
  have sb := fun w => rscan_told s hs g p f e0 n hg hp hf he (by rw [hq, hn]) w
  rw [hq] at sa sb
  have SA := Lib.hid sa
  have SB := Lib.hid sb
  have HN := Lib.hid hn
  obtain ⟨bv, hbv⟩ : ∃ z, bestV vs = z := ⟨_, rfl⟩
  obtain ⟨be, hbe⟩ : ∃ z, bestE vs = z := ⟨_, rfl⟩
  have hb1 := fun w h => best_any (.slice V vs.length vc) vs w h
  have hb2 := fun w h => rbest_any (.slice V vs.length vc) vs w h
  rw [hbv, hbe] at hb1 hb2
  have BV1 := Lib.hid hb1
  have BV2 := Lib.hid hb2
  have q1 : (e0 != e0) = false := by simp
  have q2 : (bv != bv) = false := by simp
  have q3 : (be != be) = false := by simp
  clear ha hd hv hz hg hp hf he hq hn sa sb hb1 hb2 hbv hbe
  generalize vs.length = m at *
  go_enter Try.func8, Try.ntmps8
  go_wp2_with fail
  obtain ⟨w0, hw0⟩ : ∃ w0, w0 = w := ⟨w, rfl⟩
  have B0 : Below w.heap.size w w0 := by rw [hw0]; exact Below.refl _ _
  replace B0 := Lib.hid B0
  rw [← hw0]
  clear hw0
  with_reducible refine (SA.out _).mono ?_
  rintro e w1 ⟨A, c, rfl, oa, hb⟩
  have OA := Lib.hid oa
  have B1 := Lib.hid (Bl.then B0.out hb)
  have hB0 := B0.out.size
  clear hb oa B0
  go_wp2_with fail
  with_reducible refine (SB.out _).mono ?_
  rintro e w2 ⟨D, d, rfl, od, hb⟩
  have OD := Lib.hid od
  have hsz : w1.heap.size ≤ (w1.alloc (Obj.cells #[.bool g, .int .i64 p, .slice A n c, .int .i64 f] 51)).heap.size := (Bl.alloc (Below.refl _ _) _).size
  have AP := Lib.hid (Own.apart (w2 := w) (w3 := w) (n := n) (m := n) (size := 4) (size2 := 4) (ys := []) OA.out od.base hsz)
  have X2 := Lib.hid (Bx.below (Bx.new w1 (.bool g) (.int .i64 p) (.slice A n c) (.int .i64 f) 51) hb)
  have OA2 := Lib.hid (OA.out.below (Bl.then (Bl.alloc (Below.refl _ _) _) hb))
  have AB := Lib.hid (show ∀ k, (Value.slice A n c).ownBlock = some k → k < w2.heap.size from fun k hk => Nat.lt_of_lt_of_le (OA.out.lt k hk).2 (Nat.le_trans hsz hb.size))
  have B2 := Lib.hid (Bl.then (Bl.alloc B1.out _) hb)
  clear hb od B1 OA hsz
  go_wp2_with fail
  with_reducible refine (BV1.out _ (HV.out.below (Bl.alloc B2.out _))).mono ?_
  rintro e w3 ⟨rfl, hb⟩
  have X3 := Lib.hid (Bx.below X2.out (Bl.then (Bl.alloc (Below.refl _ _) _) hb))
  have Y3 := Lib.hid (Bx.below (Bx.new w2 (.bool g) (.int .i64 p) (.slice D n d) (.int .i64 f) 51) hb)
  have OA3 := Lib.hid (OA2.out.below (Bl.then (Bl.alloc (Below.refl _ _) _) hb))
  have OD3 := Lib.hid (OD.out.below (Bl.then (Bl.alloc (Below.refl _ _) _) hb))
  have B3 := Lib.hid (Bl.then (Bl.alloc B2.out _) hb)
  clear hb X2 OA2 OD B2
  go_wp2_with fail
  with_reducible refine (BV2.out _ (HV.out.below B3.out)).mono ?_
  rintro e w4 ⟨rfl, hb⟩
  have X4 := Lib.hid (Bx.below X3.out hb)
  have Y4 := Lib.hid (Bx.below Y3.out hb)
  have OA4 := Lib.hid (OA3.out.below hb)
  have OD4 := Lib.hid (OD3.out.below hb)
  have B4 := Lib.hid (Bl.then B3.out hb)
  clear hb X3 Y3 OA3 OD3 B3
  obtain ⟨⟨c0, c1, c2, c3⟩, _⟩ := X4.out
  obtain ⟨⟨d0, d1, d2, d3⟩, _⟩ := Y4.out
  go_wp2_with fail
  with_reducible refine (same_view g p f (.slice A n c) (.slice D n d) qs _ (RdR.own OA4.out) (RdR.own OD4.out)).mono ?_
  rintro e w5 ⟨rfl, hb⟩
  have X5 := Lib.hid (Bx.below X4.out hb)
  have Y5 := Lib.hid (Bx.below Y4.out hb)
  have OA5 := Lib.hid (OA4.out.below hb)
  have OD5 := Lib.hid (OD4.out.below hb)
  have B5 := Lib.hid (Bl.then B4.out hb)
  clear hb X4 Y4 OA4 OD4 B4 c0 c1 c2 c3 d0 d1 d2 d3
  obtain ⟨⟨c0, c1, c2, c3⟩, _⟩ := X5.out
  go_wp2_with (go_at_call 17; refine (num_any _ _).mono ?_; rintro e w' ⟨rfl, rfl⟩)
  with_reducible refine (spoil_any _ (.slice A n c) qs _ (by rw [HN.out]; exact OA5.out)).mono ?_
  rintro e w6 ⟨rfl, hg6⟩
  have Y6 := Lib.hid (Bx.grown Y5.out hg6 (fun e => Nat.lt_irrefl _ (AB.out _ e)))
  have OD6 := Lib.hid (OD5.out.kept hg6 AP.out)
  have B6 := Lib.hid (Below.grown B5.out hg6 B5.out.size (fun k hk => Nat.le_trans hB0 (OA5.out.base k hk)))
  clear hg6 X5 Y5 OA5 OD5 B5 c0 c1 c2 c3
  go_wp2_with fail
  with_reducible refine (SA.out _).mono ?_
  rintro e w7 ⟨E, e7, rfl, oe, hb⟩
  have OE := Lib.hid (oe.alloc (Obj.cells #[.bool g, .int .i64 p, .slice E n e7, .int .i64 f] 51))
  have Y7 := Lib.hid (Bx.below Y6.out hb)
  have OD7 := Lib.hid ((OD6.out.below hb).alloc (Obj.cells #[.bool g, .int .i64 p, .slice E n e7, .int .i64 f] 51))
  have B7 := Lib.hid (Bl.then B6.out hb)
  clear hb oe Y6 OD6 B6
  obtain ⟨⟨d0, d1, d2, d3⟩, _⟩ := Y7.out
  have d0' := up1 d0
  have d1' := up1 d1
  have d2' := up1 d2
  have d3' := up1 d3
  go_wp2_with fail
  with_reducible refine (same_view g p f (.slice E n e7) (.slice D n d) qs _ (RdR.own OE.out) (RdR.own OD7.out)).mono ?_
  rintro e w8 ⟨rfl, hb⟩
  have B8 := Lib.hid (Bl.then (Bl.alloc B7.out _) hb)
  clear hb B7 OE OD7 d0 d1 d2 d3 d0' d1' d2' d3'
  go_wp2_with fail
  with_reducible refine (awake20 _).mono ?_
  rintro e w9 ⟨rfl, hb⟩
  have B9 := Lib.hid (Bl.then B8.out hb)
  clear hb
  go_wp2_with fail
  go_ret
  exact ⟨rfl, B9.out⟩

set_option maxRecDepth 100000 in
set_option maxHeartbeats 4000000 in
theorem Scans_own (s0 : ByteArray) (hs0 : s0.size ≤ 140737488351232) (va : Value) (rs : List RecV) (vd : Value) (ds : List Int) (vv : Value) (vs : List ViewV) (w : World) (ha : RdR w va rs) (hd : Rd w vd ds) (hv : RdV w vv vs) (hz : ∀ r ∈ rs, r.key.size ≤ 9223372036854775807 ∧ r.val.size ≤ 9223372036854775807) :
    Calls Try.prog 8 #[.string s0, va, vd, .bool true, vv] w fun e w' => e = .returned (.bool true) ∧ Below w.heap.size w w' := by
  have hS := sector_any va vd rs ds w ha hd hz
  have hs : (sectB rs ds).size ≤ 140737488351232 := by rw [sectB_size]; decide
  generalize sectB rs ds = s at hS hs
  have HS := Lib.hid hS
  clear hS
  have HV := Lib.hid hv
  obtain ⟨V, vc, rfl⟩ := hv.form
  obtain ⟨A0, a0, rfl⟩ := ha.form
  obtain ⟨D0, d0, rfl⟩ := hd.form
  obtain ⟨g, hg⟩ : ∃ z, scanG s = z := ⟨_, rfl⟩
  obtain ⟨p, hp⟩ : ∃ z, scanP s = z := ⟨_, rfl⟩
  obtain ⟨f, hf⟩ : ∃ z, freeS s = z := ⟨_, rfl⟩
  obtain ⟨e0, he⟩ : ∃ z, scanE s = z := ⟨_, rfl⟩
  obtain ⟨qs, hq⟩ : ∃ z, recsS s = z := ⟨_, rfl⟩
  obtain ⟨n, hn⟩ : ∃ z, qs.length = z := ⟨_, rfl⟩
  have sa := fun w => scan_told s hs g p f e0 n hg hp hf he (by rw [hq, hn]) w
  have sb := fun w => rscan_told s hs g p f e0 n hg hp hf he (by rw [hq, hn]) w
  rw [hq] at sa sb
  have SA := Lib.hid sa
  have SB := Lib.hid sb
  have HN := Lib.hid hn
  obtain ⟨bv, hbv⟩ : ∃ z, bestV vs = z := ⟨_, rfl⟩
  obtain ⟨be, hbe⟩ : ∃ z, bestE vs = z := ⟨_, rfl⟩
  have hb1 := fun w h => best_any (.slice V vs.length vc) vs w h
  have hb2 := fun w h => rbest_any (.slice V vs.length vc) vs w h
  rw [hbv, hbe] at hb1 hb2
  have BV1 := Lib.hid hb1
  have BV2 := Lib.hid hb2
  have q1 : (e0 != e0) = false := by simp
  have q2 : (bv != bv) = false := by simp
  have q3 : (be != be) = false := by simp
  clear ha hd hv hz hg hp hf he hq hn sa sb hb1 hb2 hbv hbe
  generalize vs.length = m at *
  go_enter Try.func8, Try.ntmps8
  go_wp2_with fail
  with_reducible refine HS.out.mono ?_
  rintro e w0 ⟨rfl, hb⟩
  have B0 := Lib.hid hb
  clear hb HS
  go_wp2_with fail
  with_reducible refine (SA.out _).mono ?_
  rintro e w1 ⟨A, c, rfl, oa, hb⟩
  have OA := Lib.hid oa
  have B1 := Lib.hid (Bl.then B0.out hb)
  have hB0 := B0.out.size
  clear hb oa B0
  go_wp2_with fail
  with_reducible refine (SB.out _).mono ?_
  rintro e w2 ⟨D, d, rfl, od, hb⟩
  have OD := Lib.hid od
  have hsz : w1.heap.size ≤ (w1.alloc (Obj.cells #[.bool g, .int .i64 p, .slice A n c, .int .i64 f] 51)).heap.size := (Bl.alloc (Below.refl _ _) _).size
  have AP := Lib.hid (Own.apart (w2 := w) (w3 := w) (n := n) (m := n) (size := 4) (size2 := 4) (ys := []) OA.out od.base hsz)
  have X2 := Lib.hid (Bx.below (Bx.new w1 (.bool g) (.int .i64 p) (.slice A n c) (.int .i64 f) 51) hb)
  have OA2 := Lib.hid (OA.out.below (Bl.then (Bl.alloc (Below.refl _ _) _) hb))
  have AB := Lib.hid (show ∀ k, (Value.slice A n c).ownBlock = some k → k < w2.heap.size from fun k hk => Nat.lt_of_lt_of_le (OA.out.lt k hk).2 (Nat.le_trans hsz hb.size))
  have B2 := Lib.hid (Bl.then (Bl.alloc B1.out _) hb)
  clear hb od B1 OA hsz
  go_wp2_with fail
  with_reducible refine (BV1.out _ (HV.out.below (Bl.alloc B2.out _))).mono ?_
  rintro e w3 ⟨rfl, hb⟩
  have X3 := Lib.hid (Bx.below X2.out (Bl.then (Bl.alloc (Below.refl _ _) _) hb))
  have Y3 := Lib.hid (Bx.below (Bx.new w2 (.bool g) (.int .i64 p) (.slice D n d) (.int .i64 f) 51) hb)
  have OA3 := Lib.hid (OA2.out.below (Bl.then (Bl.alloc (Below.refl _ _) _) hb))
  have OD3 := Lib.hid (OD.out.below (Bl.then (Bl.alloc (Below.refl _ _) _) hb))
  have B3 := Lib.hid (Bl.then (Bl.alloc B2.out _) hb)
  clear hb X2 OA2 OD B2
  go_wp2_with fail
  with_reducible refine (BV2.out _ (HV.out.below B3.out)).mono ?_
  rintro e w4 ⟨rfl, hb⟩
  have X4 := Lib.hid (Bx.below X3.out hb)
  have Y4 := Lib.hid (Bx.below Y3.out hb)
  have OA4 := Lib.hid (OA3.out.below hb)
  have OD4 := Lib.hid (OD3.out.below hb)
  have B4 := Lib.hid (Bl.then B3.out hb)
  clear hb X3 Y3 OA3 OD3 B3
  obtain ⟨⟨c0, c1, c2, c3⟩, _⟩ := X4.out
  obtain ⟨⟨d0, d1, d2, d3⟩, _⟩ := Y4.out
  go_wp2_with fail
  with_reducible refine (same_view g p f (.slice A n c) (.slice D n d) qs _ (RdR.own OA4.out) (RdR.own OD4.out)).mono ?_
  rintro e w5 ⟨rfl, hb⟩
  have X5 := Lib.hid (Bx.below X4.out hb)
  have Y5 := Lib.hid (Bx.below Y4.out hb)
  have OA5 := Lib.hid (OA4.out.below hb)
  have OD5 := Lib.hid (OD4.out.below hb)
  have B5 := Lib.hid (Bl.then B4.out hb)
  clear hb X4 Y4 OA4 OD4 B4 c0 c1 c2 c3 d0 d1 d2 d3
  obtain ⟨⟨c0, c1, c2, c3⟩, _⟩ := X5.out
  go_wp2_with (go_at_call 17; refine (num_any _ _).mono ?_; rintro e w' ⟨rfl, rfl⟩)
  with_reducible refine (spoil_any _ (.slice A n c) qs _ (by rw [HN.out]; exact OA5.out)).mono ?_
  rintro e w6 ⟨rfl, hg6⟩
  have Y6 := Lib.hid (Bx.grown Y5.out hg6 (fun e => Nat.lt_irrefl _ (AB.out _ e)))
  have OD6 := Lib.hid (OD5.out.kept hg6 AP.out)
  have B6 := Lib.hid (Below.grown B5.out hg6 B5.out.size (fun k hk => Nat.le_trans hB0 (OA5.out.base k hk)))
  clear hg6 X5 Y5 OA5 OD5 B5 c0 c1 c2 c3
  go_wp2_with fail
  with_reducible refine (SA.out _).mono ?_
  rintro e w7 ⟨E, e7, rfl, oe, hb⟩
  have OE := Lib.hid (oe.alloc (Obj.cells #[.bool g, .int .i64 p, .slice E n e7, .int .i64 f] 51))
  have Y7 := Lib.hid (Bx.below Y6.out hb)
  have OD7 := Lib.hid ((OD6.out.below hb).alloc (Obj.cells #[.bool g, .int .i64 p, .slice E n e7, .int .i64 f] 51))
  have B7 := Lib.hid (Bl.then B6.out hb)
  clear hb oe Y6 OD6 B6
  obtain ⟨⟨d0, d1, d2, d3⟩, _⟩ := Y7.out
  have d0' := up1 d0
  have d1' := up1 d1
  have d2' := up1 d2
  have d3' := up1 d3
  go_wp2_with fail
  with_reducible refine (same_view g p f (.slice E n e7) (.slice D n d) qs _ (RdR.own OE.out) (RdR.own OD7.out)).mono ?_
  rintro e w8 ⟨rfl, hb⟩
  have B8 := Lib.hid (Bl.then (Bl.alloc B7.out _) hb)
  clear hb B7 OE OD7 d0 d1 d2 d3 d0' d1' d2' d3'
  go_wp2_with fail
  with_reducible refine (awake20 _).mono ?_
  rintro e w9 ⟨rfl, hb⟩
  have B9 := Lib.hid (Bl.then B8.out hb)
  clear hb
  go_wp2_with fail
  go_ret
  exact ⟨rfl, B9.out⟩

theorem Scans_walk (w : World) (s : ByteArray) (hs : s.size ≤ 140737488351232) (va : Value) (rs : List RecV) (ha : RdR w va rs) (hz : ∀ r ∈ rs, r.key.size ≤ 9223372036854775807 ∧ r.val.size ≤ 9223372036854775807) (vd : Value) (ds : List Int) (hd : Rd w vd ds) (_ : ds.length * 8 ≤ 140737488351232) (_ : ∀ n ∈ ds, -9223372036854775808 ≤ n ∧ n ≤ 9223372036854775807) (own : Bool) (vv : Value) (vs : List ViewV) (hv : RdV w vv vs) :
    Calls Try.prog 8 #[.string s, va, vd, .bool own, vv] w fun e w' => e = .returned (.bool true) ∧ Below w.heap.size w w' := by
  cases own
  · exact Scans_any s hs va rs vd ds vv vs w ha hd hv hz
  · exact Scans_own s hs va rs vd ds vv vs w ha hd hv hz
end Go.Proofs.Ytgfldfkgialdlaa
