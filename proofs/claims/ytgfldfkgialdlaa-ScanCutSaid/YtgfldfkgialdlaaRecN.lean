/- The statement RecAny: the walk. -/
import Derived.Test.YtgfldfkgialdlaaRecM
namespace Go.Proofs.Ytgfldfkgialdlaa
set_option linter.unusedVariables false
set_option linter.unusedSimpArgs false
open Go.RowKit

theorem neq_rec (k e : Int) (key v : ByteArray) (k' e' : Int) (key' v' : ByteArray) (W : World) :
    (binOp .neq 23 (.agg #[.int .i64 k, .int .i64 e, .string key, .string v]) (.agg #[.int .i64 k', .int .i64 e', .string key', .string v'])).run Try.prog W = .ok (.bool (!(k == k' && e == e' && key.toList == key'.toList && v.toList == v'.toList))) W := by
  have h := eql_rec k e key v k' e' key' v' W
  rw [run_eql_struct] at h
  rw [run_neq_struct]
  generalize (Op.equalIn 10000 23 (.agg #[.int .i64 k, .int .i64 e, .string key, .string v]) (.agg #[.int .i64 k', .int .i64 e', .string key', .string v'])).run Try.prog W = r at *
  cases r with
  | ok b w2 =>
    simp only [Result.andThen_ok, Result.ok.injEq, Value.bool.injEq] at h ⊢
    exact ⟨by rw [h.1], h.2⟩
  | halt x w2 => simp [Result.andThen] at h
theorem neq_same (k e : Int) (key v : ByteArray) (W : World) : (binOp .neq 23 (.agg #[.int .i64 k, .int .i64 e, .string key, .string v]) (.agg #[.int .i64 k, .int .i64 e, .string key, .string v])).run Try.prog W = .ok (.bool false) W := by
  rw [neq_rec]; simp
theorem eql_same (k e : Int) (key v : ByteArray) (W : World) : (binOp .eql 23 (.agg #[.int .i64 k, .int .i64 e, .string key, .string v]) (.agg #[.int .i64 k, .int .i64 e, .string key, .string v])).run Try.prog W = .ok (.bool true) W := by
  rw [eql_rec]; simp
theorem put_hold {r : RecV} (h : mayP r) (out : ByteArray) (ho : putR r = out) (w : World) : Calls Try.prog 13 #[r.v] w fun e w' => e = .returned (.tuple #[.string out, .int .i64 0]) ∧ Below w.heap.size w w' := by
  have z := may_keys h
  have p := putr_any r w (by omega) (by omega)
  rw [show putRe r = 0 from if_pos h, ho] at p
  exact p
theorem get_hold {r : RecV} (h : mayP r) (out : ByteArray) (ho : putR r = out) (w : World) : Calls Try.prog 15 #[.string out] w fun e w' => e = .returned (.tuple #[r.v, .int .i64 0]) ∧ Below w.heap.size w w' := by
  rw [← ho]
  exact getr_any _ r 0 (ansR_put h) w
theorem put_not {r : RecV} (h : ¬ mayP r) (hk : r.key.size ≤ 9223372036854775807) (hv : r.val.size ≤ 9223372036854775807) (w : World) : Calls Try.prog 13 #[r.v] w fun e w' => e = .returned (.tuple #[.string ⟨#[]⟩, .int .i64 1900]) ∧ Below w.heap.size w w' := by
  have p := putr_any r w hk hv
  rw [show putRe r = 1900 from if_neg h, show putR r = str [] from if_neg h] at p
  exact p

set_option maxRecDepth 100000 in
set_option maxHeartbeats 4000000 in
theorem any_rec_may (key value : ByteArray) (x m : Int) (hx : bits .and .i64 x 1048575 + 1 = m) (m1 : 1 ≤ m) (m2 : m ≤ 1048576) (hm : 1 ≤ key.size ∧ key.size ≤ 6 ∧ value.size ≤ 20) (hk : key.size ≤ 9223372036854775807) (hv : value.size ≤ 9223372036854775807) (w : World) :
    Calls Try.prog 7 #[.string key, .string value, .bool false, .int .i64 x] w fun e w' => e = .returned (.bool true) ∧ Below w.heap.size w w' := by
  have mh : mayP ⟨0, m, nilB, nilB⟩ := .inl ⟨rfl, m1, m2, rfl, rfl⟩
  obtain ⟨t, ht⟩ : ∃ t, putR ⟨0, m, nilB, nilB⟩ = t := ⟨_, rfl⟩
  have PH := Lib.hid (put_hold mh t ht)
  have GH := Lib.hid (get_hold mh t ht)
  change Hid (∀ w : World, Calls Try.prog 13 #[.agg #[.int .i64 0, .int .i64 m, .string ⟨#[]⟩, .string ⟨#[]⟩]] w fun e w' => e = .returned (.tuple #[.string t, .int .i64 0]) ∧ Below w.heap.size w w') at PH
  change Hid (∀ w : World, Calls Try.prog 15 #[.string t] w fun e w' => e = .returned (.tuple #[.agg #[.int .i64 0, .int .i64 m, .string ⟨#[]⟩, .string ⟨#[]⟩], .int .i64 0]) ∧ Below w.heap.size w w') at GH
  have mr : mayP (⟨1, 0, key, value⟩ : RecV) := .inr (.inl ⟨rfl, rfl, ⟨hm.1, hm.2.1⟩, hm.2.2⟩)
  obtain ⟨s, hs⟩ : ∃ t, putR (⟨1, 0, key, value⟩ : RecV) = t := ⟨_, rfl⟩
  have PR := Lib.hid (put_hold mr s hs)
  have GR := Lib.hid (get_hold mr s hs)
  change Hid (∀ w : World, Calls Try.prog 13 #[.agg #[.int .i64 1, .int .i64 0, .string key, .string value]] w fun e w' => e = .returned (.tuple #[.string s, .int .i64 0]) ∧ Below w.heap.size w w') at PR
  change Hid (∀ w : World, Calls Try.prog 15 #[.string s] w fun e w' => e = .returned (.tuple #[.agg #[.int .i64 1, .int .i64 0, .string key, .string value], .int .i64 0]) ∧ Below w.heap.size w w') at GR
  have k1 : (1 : Int) ≤ (key.size : Int) := by omega
  have k2 : (key.size : Int) ≤ 6 := by omega
  have k3 : (value.size : Int) ≤ 20 := by omega
  have kr := eql_same 1 0 key value
  have kn := neq_same 0 m ⟨#[]⟩ ⟨#[]⟩
  have hx2 : 1 + bits .and .i64 x 1048575 = m := by omega
  have hx3 : IntKind.i64.wrap m = m := wrap_i64_small (by omega) (by omega)
  clear mh ht mr hs hx m1 m2
  go_enter Try.func7, Try.ntmps7
  go_wp2_with fail
  with_reducible refine (awake19 _).mono ?_
  rintro e w1 ⟨rfl, hb⟩
  have B1 := Lib.hid (Bl.then (Below.refl _ _) hb)
  clear hb
  go_wp2_with fail
  with_reducible refine (PR.out _).mono ?_
  rintro e w2 ⟨rfl, hb⟩
  have B2 := Lib.hid (Bl.then (Bl.alloc (B1.out) _) hb)
  have r2 := Lib.hid (Bx.below (Bx.new w1 (.int .i64 1) (.int .i64 0) (.string key) (.string value) 23) hb)
  clear hb B1
  go_wp2_with fail
  with_reducible refine (PH.out _).mono ?_
  rintro e w3 ⟨rfl, hb⟩
  have B3 := Lib.hid (Bl.then (Bl.alloc (B2.out) _) hb)
  have r3 := Lib.hid (Bx.below (Bx.below r2.out (Bl.alloc (Below.refl _ _) _)) hb)
  have h3 := Lib.hid (Bx.below (Bx.new w2 (.int .i64 0) (.int .i64 m) (.string ⟨#[]⟩) (.string ⟨#[]⟩) 23) hb)
  clear hb B2 r2
  go_wp2_with fail
  with_reducible refine (GH.out _).mono ?_
  rintro e w4 ⟨rfl, hb⟩
  have B4 := Lib.hid (Bl.then (B3.out) hb)
  have r4 := Lib.hid (Bx.below (r3.out) hb)
  have h4 := Lib.hid (Bx.below (h3.out) hb)
  clear hb B3 r3 h3
  obtain ⟨⟨hc0, hc1, hc2, hc3⟩, _⟩ := h4.out
  have hu1_0 := up1 hc0
  have hu1_1 := up1 hc1
  have hu1_2 := up1 hc2
  have hu1_3 := up1 hc3
  go_wp2_with (go_at_call 17; refine (num_any _ _).mono ?_; rintro e w' ⟨rfl, rfl⟩)
  with_reducible refine (GR.out _).mono ?_
  rintro e w5 ⟨rfl, hb⟩
  have B5 := Lib.hid (Bl.then (Bl.alloc (B4.out) _) hb)
  have r5 := Lib.hid (Bx.below (Bx.below r4.out (Bl.alloc (Below.refl _ _) _)) hb)
  have h5 := Lib.hid (Bx.below (Bx.below h4.out (Bl.alloc (Below.refl _ _) _)) hb)
  have b5 := Lib.hid (Bx.below (Bx.new w4 (.int .i64 0) (.int .i64 m) (.string ⟨#[]⟩) (.string ⟨#[]⟩) 23) hb)
  clear hb B4 r4 h4 hc0 hc1 hc2 hc3 hu1_0 hu1_1 hu1_2 hu1_3
  obtain ⟨⟨rc0, rc1, rc2, rc3⟩, _⟩ := r5.out
  have ru1_0 := up1 rc0
  have ru1_1 := up1 rc1
  have ru1_2 := up1 rc2
  have ru1_3 := up1 rc3
  go_wp2_with (go_at_call 17; refine (num_any _ _).mono ?_; rintro e w' ⟨rfl, rfl⟩)
  go_ret
  exact ⟨rfl, Bl.alloc (B5.out) _⟩

set_option maxRecDepth 100000 in
set_option maxHeartbeats 4000000 in
theorem any_rec_not (key value : ByteArray) (x m : Int) (hx : bits .and .i64 x 1048575 + 1 = m) (m1 : 1 ≤ m) (m2 : m ≤ 1048576) (hm : ¬ (1 ≤ key.size ∧ key.size ≤ 6 ∧ value.size ≤ 20)) (hk : key.size ≤ 9223372036854775807) (hv : value.size ≤ 9223372036854775807) (w : World) :
    Calls Try.prog 7 #[.string key, .string value, .bool false, .int .i64 x] w fun e w' => e = .returned (.bool true) ∧ Below w.heap.size w w' := by
  have mh : mayP ⟨0, m, nilB, nilB⟩ := .inl ⟨rfl, m1, m2, rfl, rfl⟩
  obtain ⟨t, ht⟩ : ∃ t, putR ⟨0, m, nilB, nilB⟩ = t := ⟨_, rfl⟩
  have PH := Lib.hid (put_hold mh t ht)
  have GH := Lib.hid (get_hold mh t ht)
  change Hid (∀ w : World, Calls Try.prog 13 #[.agg #[.int .i64 0, .int .i64 m, .string ⟨#[]⟩, .string ⟨#[]⟩]] w fun e w' => e = .returned (.tuple #[.string t, .int .i64 0]) ∧ Below w.heap.size w w') at PH
  change Hid (∀ w : World, Calls Try.prog 15 #[.string t] w fun e w' => e = .returned (.tuple #[.agg #[.int .i64 0, .int .i64 m, .string ⟨#[]⟩, .string ⟨#[]⟩], .int .i64 0]) ∧ Below w.heap.size w w') at GH
  have mr : ¬ mayP (⟨1, 0, key, value⟩ : RecV) := by
    rintro (⟨h, _⟩ | ⟨h, _, ⟨h1, h2⟩, h3⟩ | ⟨h, _, ⟨h1, h2⟩, h3⟩)
    · simp at h
    · exact hm ⟨h1, h2, h3⟩
    · simp at h
  have PR := Lib.hid (put_not mr hk hv)
  change Hid (∀ w : World, Calls Try.prog 13 #[.agg #[.int .i64 1, .int .i64 0, .string key, .string value]] w fun e w' => e = .returned (.tuple #[.string ⟨#[]⟩, .int .i64 1900]) ∧ Below w.heap.size w w') at PR
  have kn := neq_same 0 m ⟨#[]⟩ ⟨#[]⟩
  have hx2 : 1 + bits .and .i64 x 1048575 = m := by omega
  have hx3 : IntKind.i64.wrap m = m := wrap_i64_small (by omega) (by omega)
  clear mh ht mr hx m1 m2
  go_enter Try.func7, Try.ntmps7
  go_wp2_with fail
  with_reducible refine (awake19 _).mono ?_
  rintro e w1 ⟨rfl, hb⟩
  have B1 := Lib.hid (Bl.then (Below.refl _ _) hb)
  clear hb
  go_wp2_with fail
  with_reducible refine (PR.out _).mono ?_
  rintro e w2 ⟨rfl, hb⟩
  have B2 := Lib.hid (Bl.then (Bl.alloc (B1.out) _) hb)
  have r2 := Lib.hid (Bx.below (Bx.new w1 (.int .i64 1) (.int .i64 0) (.string key) (.string value) 23) hb)
  clear hb B1
  go_wp2_with fail
  with_reducible refine (PH.out _).mono ?_
  rintro e w3 ⟨rfl, hb⟩
  have B3 := Lib.hid (Bl.then (Bl.alloc (B2.out) _) hb)
  have r3 := Lib.hid (Bx.below (Bx.below r2.out (Bl.alloc (Below.refl _ _) _)) hb)
  have h3 := Lib.hid (Bx.below (Bx.new w2 (.int .i64 0) (.int .i64 m) (.string ⟨#[]⟩) (.string ⟨#[]⟩) 23) hb)
  clear hb B2 r2
  go_wp2_with fail
  with_reducible refine (GH.out _).mono ?_
  rintro e w4 ⟨rfl, hb⟩
  have B4 := Lib.hid (Bl.then (B3.out) hb)
  have r4 := Lib.hid (Bx.below (r3.out) hb)
  have h4 := Lib.hid (Bx.below (h3.out) hb)
  clear hb B3 r3 h3
  obtain ⟨⟨hc0, hc1, hc2, hc3⟩, _⟩ := h4.out
  have hu1_0 := up1 hc0
  have hu1_1 := up1 hc1
  have hu1_2 := up1 hc2
  have hu1_3 := up1 hc3
  go_wp2_with (go_at_call 17; refine (num_any _ _).mono ?_; rintro e w' ⟨rfl, rfl⟩)
  all_goals (go_ret; exact ⟨by simp, Bl.alloc (B4.out) _⟩)

set_option maxRecDepth 100000 in
set_option maxHeartbeats 4000000 in
theorem any_gone_may (key value : ByteArray) (x m : Int) (hx : bits .and .i64 x 1048575 + 1 = m) (m1 : 1 ≤ m) (m2 : m ≤ 1048576) (hm : 1 ≤ key.size ∧ key.size ≤ 6) (hk : key.size ≤ 9223372036854775807) (hv : value.size ≤ 9223372036854775807) (w : World) :
    Calls Try.prog 7 #[.string key, .string value, .bool true, .int .i64 x] w fun e w' => e = .returned (.bool true) ∧ Below w.heap.size w w' := by
  have mh : mayP ⟨0, m, nilB, nilB⟩ := .inl ⟨rfl, m1, m2, rfl, rfl⟩
  obtain ⟨t, ht⟩ : ∃ t, putR ⟨0, m, nilB, nilB⟩ = t := ⟨_, rfl⟩
  have PH := Lib.hid (put_hold mh t ht)
  have GH := Lib.hid (get_hold mh t ht)
  change Hid (∀ w : World, Calls Try.prog 13 #[.agg #[.int .i64 0, .int .i64 m, .string ⟨#[]⟩, .string ⟨#[]⟩]] w fun e w' => e = .returned (.tuple #[.string t, .int .i64 0]) ∧ Below w.heap.size w w') at PH
  change Hid (∀ w : World, Calls Try.prog 15 #[.string t] w fun e w' => e = .returned (.tuple #[.agg #[.int .i64 0, .int .i64 m, .string ⟨#[]⟩, .string ⟨#[]⟩], .int .i64 0]) ∧ Below w.heap.size w w') at GH
  have mr : mayP (⟨2, 0, key, nilB⟩ : RecV) := .inr (.inr ⟨rfl, rfl, hm, rfl⟩)
  obtain ⟨s, hs⟩ : ∃ t, putR (⟨2, 0, key, nilB⟩ : RecV) = t := ⟨_, rfl⟩
  have PR := Lib.hid (put_hold mr s hs)
  have GR := Lib.hid (get_hold mr s hs)
  change Hid (∀ w : World, Calls Try.prog 13 #[.agg #[.int .i64 2, .int .i64 0, .string key, .string ⟨#[]⟩]] w fun e w' => e = .returned (.tuple #[.string s, .int .i64 0]) ∧ Below w.heap.size w w') at PR
  change Hid (∀ w : World, Calls Try.prog 15 #[.string s] w fun e w' => e = .returned (.tuple #[.agg #[.int .i64 2, .int .i64 0, .string key, .string ⟨#[]⟩], .int .i64 0]) ∧ Below w.heap.size w w') at GR
  have k1 : (1 : Int) ≤ (key.size : Int) := by omega
  have k2 : (key.size : Int) ≤ 6 := by omega
  have kr := eql_same 2 0 key ⟨#[]⟩
  have kn := neq_same 0 m ⟨#[]⟩ ⟨#[]⟩
  have hx2 : 1 + bits .and .i64 x 1048575 = m := by omega
  have hx3 : IntKind.i64.wrap m = m := wrap_i64_small (by omega) (by omega)
  clear mh ht mr hs hx m1 m2
  go_enter Try.func7, Try.ntmps7
  go_wp2_with fail
  with_reducible refine (awake19 _).mono ?_
  rintro e w1 ⟨rfl, hb⟩
  have B1 := Lib.hid (Bl.then (Below.refl _ _) hb)
  clear hb
  go_wp2_with fail
  with_reducible refine (PR.out _).mono ?_
  rintro e w2 ⟨rfl, hb⟩
  have B2 := Lib.hid (Bl.then (Bl.alloc (B1.out) _) hb)
  have r2 := Lib.hid (Bx.below (Bx.new w1 (.int .i64 2) (.int .i64 0) (.string key) (.string ⟨#[]⟩) 23) hb)
  clear hb B1
  go_wp2_with fail
  with_reducible refine (PH.out _).mono ?_
  rintro e w3 ⟨rfl, hb⟩
  have B3 := Lib.hid (Bl.then (Bl.alloc (B2.out) _) hb)
  have r3 := Lib.hid (Bx.below (Bx.below r2.out (Bl.alloc (Below.refl _ _) _)) hb)
  have h3 := Lib.hid (Bx.below (Bx.new w2 (.int .i64 0) (.int .i64 m) (.string ⟨#[]⟩) (.string ⟨#[]⟩) 23) hb)
  clear hb B2 r2
  go_wp2_with fail
  with_reducible refine (GH.out _).mono ?_
  rintro e w4 ⟨rfl, hb⟩
  have B4 := Lib.hid (Bl.then (B3.out) hb)
  have r4 := Lib.hid (Bx.below (r3.out) hb)
  have h4 := Lib.hid (Bx.below (h3.out) hb)
  clear hb B3 r3 h3
  obtain ⟨⟨hc0, hc1, hc2, hc3⟩, _⟩ := h4.out
  have hu1_0 := up1 hc0
  have hu1_1 := up1 hc1
  have hu1_2 := up1 hc2
  have hu1_3 := up1 hc3
  go_wp2_with (go_at_call 17; refine (num_any _ _).mono ?_; rintro e w' ⟨rfl, rfl⟩)
  with_reducible refine (GR.out _).mono ?_
  rintro e w5 ⟨rfl, hb⟩
  have B5 := Lib.hid (Bl.then (Bl.alloc (B4.out) _) hb)
  have r5 := Lib.hid (Bx.below (Bx.below r4.out (Bl.alloc (Below.refl _ _) _)) hb)
  have h5 := Lib.hid (Bx.below (Bx.below h4.out (Bl.alloc (Below.refl _ _) _)) hb)
  have b5 := Lib.hid (Bx.below (Bx.new w4 (.int .i64 0) (.int .i64 m) (.string ⟨#[]⟩) (.string ⟨#[]⟩) 23) hb)
  clear hb B4 r4 h4 hc0 hc1 hc2 hc3 hu1_0 hu1_1 hu1_2 hu1_3
  obtain ⟨⟨rc0, rc1, rc2, rc3⟩, _⟩ := r5.out
  have ru1_0 := up1 rc0
  have ru1_1 := up1 rc1
  have ru1_2 := up1 rc2
  have ru1_3 := up1 rc3
  go_wp2_with (go_at_call 17; refine (num_any _ _).mono ?_; rintro e w' ⟨rfl, rfl⟩)
  go_ret
  exact ⟨rfl, Bl.alloc (B5.out) _⟩

set_option maxRecDepth 100000 in
set_option maxHeartbeats 4000000 in
theorem any_gone_not (key value : ByteArray) (x m : Int) (hx : bits .and .i64 x 1048575 + 1 = m) (m1 : 1 ≤ m) (m2 : m ≤ 1048576) (hm : ¬ (1 ≤ key.size ∧ key.size ≤ 6)) (hk : key.size ≤ 9223372036854775807) (hv : value.size ≤ 9223372036854775807) (w : World) :
    Calls Try.prog 7 #[.string key, .string value, .bool true, .int .i64 x] w fun e w' => e = .returned (.bool true) ∧ Below w.heap.size w w' := by
  have mh : mayP ⟨0, m, nilB, nilB⟩ := .inl ⟨rfl, m1, m2, rfl, rfl⟩
  obtain ⟨t, ht⟩ : ∃ t, putR ⟨0, m, nilB, nilB⟩ = t := ⟨_, rfl⟩
  have PH := Lib.hid (put_hold mh t ht)
  have GH := Lib.hid (get_hold mh t ht)
  change Hid (∀ w : World, Calls Try.prog 13 #[.agg #[.int .i64 0, .int .i64 m, .string ⟨#[]⟩, .string ⟨#[]⟩]] w fun e w' => e = .returned (.tuple #[.string t, .int .i64 0]) ∧ Below w.heap.size w w') at PH
  change Hid (∀ w : World, Calls Try.prog 15 #[.string t] w fun e w' => e = .returned (.tuple #[.agg #[.int .i64 0, .int .i64 m, .string ⟨#[]⟩, .string ⟨#[]⟩], .int .i64 0]) ∧ Below w.heap.size w w') at GH
  have mr : ¬ mayP (⟨2, 0, key, nilB⟩ : RecV) := by
    rintro (⟨h, _⟩ | ⟨h, _, ⟨h1, h2⟩, h3⟩ | ⟨h, _, ⟨h1, h2⟩, h3⟩)
    · simp at h
    · simp at h
    · exact hm ⟨h1, h2⟩
  have PR := Lib.hid (put_not mr hk (show nilB.size ≤ _ by decide))
  change Hid (∀ w : World, Calls Try.prog 13 #[.agg #[.int .i64 2, .int .i64 0, .string key, .string ⟨#[]⟩]] w fun e w' => e = .returned (.tuple #[.string ⟨#[]⟩, .int .i64 1900]) ∧ Below w.heap.size w w') at PR
  have kn := neq_same 0 m ⟨#[]⟩ ⟨#[]⟩
  have hx2 : 1 + bits .and .i64 x 1048575 = m := by omega
  have hx3 : IntKind.i64.wrap m = m := wrap_i64_small (by omega) (by omega)
  clear mh ht mr hx m1 m2
  go_enter Try.func7, Try.ntmps7
  go_wp2_with fail
  with_reducible refine (awake19 _).mono ?_
  rintro e w1 ⟨rfl, hb⟩
  have B1 := Lib.hid (Bl.then (Below.refl _ _) hb)
  clear hb
  go_wp2_with fail
  with_reducible refine (PR.out _).mono ?_
  rintro e w2 ⟨rfl, hb⟩
  have B2 := Lib.hid (Bl.then (Bl.alloc (B1.out) _) hb)
  have r2 := Lib.hid (Bx.below (Bx.new w1 (.int .i64 2) (.int .i64 0) (.string key) (.string ⟨#[]⟩) 23) hb)
  clear hb B1
  go_wp2_with fail
  with_reducible refine (PH.out _).mono ?_
  rintro e w3 ⟨rfl, hb⟩
  have B3 := Lib.hid (Bl.then (Bl.alloc (B2.out) _) hb)
  have r3 := Lib.hid (Bx.below (Bx.below r2.out (Bl.alloc (Below.refl _ _) _)) hb)
  have h3 := Lib.hid (Bx.below (Bx.new w2 (.int .i64 0) (.int .i64 m) (.string ⟨#[]⟩) (.string ⟨#[]⟩) 23) hb)
  clear hb B2 r2
  go_wp2_with fail
  with_reducible refine (GH.out _).mono ?_
  rintro e w4 ⟨rfl, hb⟩
  have B4 := Lib.hid (Bl.then (B3.out) hb)
  have r4 := Lib.hid (Bx.below (r3.out) hb)
  have h4 := Lib.hid (Bx.below (h3.out) hb)
  clear hb B3 r3 h3
  obtain ⟨⟨hc0, hc1, hc2, hc3⟩, _⟩ := h4.out
  have hu1_0 := up1 hc0
  have hu1_1 := up1 hc1
  have hu1_2 := up1 hc2
  have hu1_3 := up1 hc3
  go_wp2_with (go_at_call 17; refine (num_any _ _).mono ?_; rintro e w' ⟨rfl, rfl⟩)
  all_goals (go_ret; exact ⟨by simp, Bl.alloc (B4.out) _⟩)

theorem RecAny_walk (key : ByteArray) (hk : key.size ≤ 140737488351232) (value : ByteArray) (hv : value.size ≤ 140737488351232) (gone : Bool) (x : Int) (_ : -9223372036854775808 ≤ x ∧ x ≤ 9223372036854775807) (w : World) :
    Calls Try.prog 7 #[.string key, .string value, .bool gone, .int .i64 x] w fun e w' => e = .returned (.bool true) ∧ Below w.heap.size w w' := by
  have hx : bits .and .i64 x 1048575 = x % 1048576 := and_mask64 x 20 (by decide)
  have h1 := Int.emod_nonneg x (show (1048576 : Int) ≠ 0 by decide)
  have h2 := Int.emod_lt_of_pos x (show (0 : Int) < 1048576 by decide)
  cases gone
  · by_cases hm : 1 ≤ key.size ∧ key.size ≤ 6 ∧ value.size ≤ 20
    · exact any_rec_may key value x _ rfl (by omega) (by omega) hm (by omega) (by omega) w
    · exact any_rec_not key value x _ rfl (by omega) (by omega) hm (by omega) (by omega) w
  · by_cases hm : 1 ≤ key.size ∧ key.size ≤ 6
    · exact any_gone_may key value x _ rfl (by omega) (by omega) hm (by omega) (by omega) w
    · exact any_gone_not key value x _ rfl (by omega) (by omega) hm (by omega) (by omega) w
end Go.Proofs.Ytgfldfkgialdlaa
