/- The statement RecBack: the walk. -/
import Derived.Test.YtgfldfkgialdlaaRecN
namespace Go.Proofs.Ytgfldfkgialdlaa
set_option linter.unusedVariables false
set_option linter.unusedSimpArgs false
open Go.RowKit

theorem Bx.new1 (w : World) (o : Obj) (a b c d : Value) (t : TypeId) : Bx ((w.alloc o).alloc (Obj.cells #[a, b, c, d] t)) (w.heap.size + 1) a b c d := by
  have h := Bx.new (w.alloc o) a b c d t
  have e : (w.alloc o).heap.size = w.heap.size + 1 := by simp
  rwa [e] at h
theorem Bx.new2 (w : World) (o o' : Obj) (a b c d : Value) (t : TypeId) : Bx (((w.alloc o).alloc o').alloc (Obj.cells #[a, b, c, d] t)) (w.heap.size + 2) a b c d := by
  have h := Bx.new1 (w.alloc o) o' a b c d t
  have e : (w.alloc o).heap.size + 1 = w.heap.size + 2 := by simp
  rwa [e] at h
theorem put_two {a b : RecV} (ha : mayP a) (hb : mayP b) : ((putR a).toList == (putR b).toList) = (a.k == b.k && a.e == b.e && a.key.toList == b.key.toList && a.val.toList == b.val.toList) := by
  have e : ∀ x y : ByteArray, (x.toList == y.toList) = decide (x = y) := fun x y => by
    by_cases h : x = y
    · subst h; simp
    · rw [ne_tl h, decide_eq_false h]
  rw [e, e, e, Bool.eq_iff_iff]
  simp only [decide_eq_true_eq, Bool.and_eq_true, beq_iff_eq]
  constructor
  · intro h
    have := putR_inj ha hb h
    subst this
    exact ⟨⟨⟨rfl, rfl⟩, rfl⟩, rfl⟩
  · rintro ⟨⟨⟨h1, h2⟩, h3⟩, h4⟩
    have : a = b := by obtain ⟨k, e, key, v⟩ := a; obtain ⟨k', e', key', v'⟩ := b; simp only at h1 h2 h3 h4; subst h1 h2 h3 h4; rfl
    rw [this]
/-- What is told of a text, as a pair of ways. -/
theorem told (s : ByteArray) : ∃ (k e : Int) (key v : ByteArray) (e1 : Int), (∀ w : World, Calls Try.prog 15 #[.string s] w fun e' w' => e' = .returned (.tuple #[.agg #[.int .i64 k, .int .i64 e, .string key, .string v], .int .i64 e1]) ∧ Below w.heap.size w w') ∧
    ((e1 = 0 ∧ (∀ w : World, Calls Try.prog 13 #[.agg #[.int .i64 k, .int .i64 e, .string key, .string v]] w fun e' w' => e' = .returned (.tuple #[.string s, .int .i64 0]) ∧ Below w.heap.size w w') ∧ (∀ w : World, Calls Try.prog 18 #[.agg #[.int .i64 k, .int .i64 e, .string key, .string v]] w fun e' w' => e' = .returned (.bool true) ∧ Below w.heap.size w w')) ∨
     (e1 = 1900 ∧ k = 0 ∧ e = 0 ∧ key = ⟨#[]⟩ ∧ v = ⟨#[]⟩)) := by
  obtain ⟨q, e1, hq⟩ := ansR_ex s
  refine ⟨q.k, q.e, q.key, q.val, e1, fun w => getr_any s q e1 hq w, ?_⟩
  rcases hq with ⟨h1, h2, h3⟩ | ⟨h1, h2, h3⟩
  · refine .inl ⟨h3, fun w => put_hold h1 s h2 w, fun w => ?_⟩
    have z := may_keys h1
    have h := may_any q w (by omega) (by omega)
    rw [show mayB q = true from decide_eq_true h1] at h
    exact h
  · subst h2
    exact .inr ⟨h3, rfl, rfl, rfl, rfl⟩

set_option maxRecDepth 100000 in
set_option maxHeartbeats 4000000 in
theorem back_mm (k e0 : Int) (key v : ByteArray) (l e2 : Int) (key' v' s : ByteArray) (y0 y1 : Int) (y2 y3 : ByteArray) (g : Int) (ma : mayP ⟨k, e0, key, v⟩) (mb : mayP ⟨l, e2, key', v'⟩)
    (hg : ∀ w : World, Calls Try.prog 15 #[.string s] w fun e' w' => e' = .returned (.tuple #[.agg #[.int .i64 y0, .int .i64 y1, .string y2, .string y3], .int .i64 g]) ∧ Below w.heap.size w w')
    (ha : (g = 0 ∧ (∀ w : World, Calls Try.prog 13 #[.agg #[.int .i64 y0, .int .i64 y1, .string y2, .string y3]] w fun e' w' => e' = .returned (.tuple #[.string s, .int .i64 0]) ∧ Below w.heap.size w w') ∧ (∀ w : World, Calls Try.prog 18 #[.agg #[.int .i64 y0, .int .i64 y1, .string y2, .string y3]] w fun e' w' => e' = .returned (.bool true) ∧ Below w.heap.size w w')) ∨
     (g = 1900 ∧ y0 = 0 ∧ y1 = 0 ∧ y2 = ⟨#[]⟩ ∧ y3 = ⟨#[]⟩)) (w : World) : Calls Try.prog 6 #[.agg #[.int .i64 k, .int .i64 e0, .string key, .string v], .agg #[.int .i64 l, .int .i64 e2, .string key', .string v'], .string s] w fun e w' => e = .returned (.bool true) ∧ Below w.heap.size w w' := by
  obtain ⟨t, ht⟩ : ∃ t, putR ⟨k, e0, key, v⟩ = t := ⟨_, rfl⟩
  have zt : t.size = 64 := by rw [← ht]; exact putR_size ma
  have PA := Lib.hid (put_hold ma t ht)
  have GA := Lib.hid (get_hold ma t ht)
  change Hid (∀ w : World, Calls Try.prog 13 #[.agg #[.int .i64 k, .int .i64 e0, .string key, .string v]] w fun e w' => e = .returned (.tuple #[.string t, .int .i64 0]) ∧ Below w.heap.size w w') at PA
  change Hid (∀ w : World, Calls Try.prog 15 #[.string t] w fun e w' => e = .returned (.tuple #[.agg #[.int .i64 k, .int .i64 e0, .string key, .string v], .int .i64 0]) ∧ Below w.heap.size w w') at GA
  have kn := neq_same k e0 key v
  have two := put_two ma mb
  obtain ⟨u, hu⟩ : ∃ t, putR ⟨l, e2, key', v'⟩ = t := ⟨_, rfl⟩
  have PB := Lib.hid (put_hold mb u hu)
  change Hid (∀ w : World, Calls Try.prog 13 #[.agg #[.int .i64 l, .int .i64 e2, .string key', .string v']] w fun e w' => e = .returned (.tuple #[.string u, .int .i64 0]) ∧ Below w.heap.size w w') at PB
  rw [ht, hu] at two
  simp only at two
  obtain ⟨bb, hbb⟩ : ∃ bb, (k == l && e0 == e2 && key.toList == key'.toList && v.toList == v'.toList) = bb := ⟨_, rfl⟩
  rw [hbb] at two
  have ke := fun W => eql_rec k e0 key v l e2 key' v' W
  simp only [hbb] at ke
  have qb : (bb != bb) = false := by simp
  clear hbb hu
  clear ht
  have HG := Lib.hid hg
  have HA := Lib.hid ha
  have kz := eql_same 0 0 ⟨#[]⟩ ⟨#[]⟩
  have qs : (s.toList == s.toList) = true := by simp
  clear hg ha ma mb
  go_enter Try.func6, Try.ntmps6
  go_wp2_with fail
  with_reducible refine (awake19 _).mono ?_
  rintro e w1 ⟨rfl, hb⟩
  have B1 := Lib.hid (Bl.then (Bl.alloc (Bl.alloc (Below.refl _ _) _) _) hb)
  have a1 := Lib.hid (Bx.below (Bx.below (Bx.new w (.int .i64 k) (.int .i64 e0) (.string key) (.string v) 23) (Bl.alloc (Below.refl _ _) _)) hb)
  have b1 := Lib.hid (Bx.below (Bx.new1 w _ (.int .i64 l) (.int .i64 e2) (.string key') (.string v') 23) hb)
  clear hb
  obtain ⟨⟨ac0, ac1, ac2, ac3⟩, _⟩ := a1.out
  go_wp2_with fail
  with_reducible refine (PA.out _).mono ?_
  rintro e w2 ⟨rfl, hb⟩
  have B2 := Lib.hid (Bl.then (B1.out) hb)
  have a2 := Lib.hid (Bx.below (a1.out) hb)
  have b2 := Lib.hid (Bx.below (b1.out) hb)
  clear hb B1 a1 b1 ac0 ac1 ac2 ac3
  obtain ⟨⟨bc0, bc1, bc2, bc3⟩, _⟩ := b2.out
  go_wp2_with fail
  with_reducible refine (PB.out _).mono ?_
  rintro e w3 ⟨rfl, hb⟩
  have B3 := Lib.hid (Bl.then (B2.out) hb)
  have a3 := Lib.hid (Bx.below (a2.out) hb)
  have b3 := Lib.hid (Bx.below (b2.out) hb)
  clear hb B2 a2 b2 bc0 bc1 bc2 bc3
  go_wp2_with (go_at_call 17; refine (num_any _ _).mono ?_; rintro e w' ⟨rfl, rfl⟩)
  with_reducible refine (GA.out _).mono ?_
  rintro e w4 ⟨rfl, hb⟩
  have B4 := Lib.hid (Bl.then (B3.out) hb)
  have a4 := Lib.hid (Bx.below (a3.out) hb)
  have b4 := Lib.hid (Bx.below (b3.out) hb)
  clear hb B3 a3 b3
  obtain ⟨⟨ac0, ac1, ac2, ac3⟩, _⟩ := a4.out
  have au1_0 := up1 ac0
  have au1_1 := up1 ac1
  have au1_2 := up1 ac2
  have au1_3 := up1 ac3
  obtain ⟨⟨bc0, bc1, bc2, bc3⟩, _⟩ := b4.out
  have bu1_0 := up1 bc0
  have bu1_1 := up1 bc1
  have bu1_2 := up1 bc2
  have bu1_3 := up1 bc3
  go_wp2_with (go_at_call 17; refine (num_any _ _).mono ?_; rintro e w' ⟨rfl, rfl⟩)
  with_reducible refine (HG.out _).mono ?_
  rintro e w5 ⟨rfl, hb⟩
  have B5 := Lib.hid (Bl.then (Bl.alloc (B4.out) _) hb)
  have a5 := Lib.hid (Bx.below (Bx.below a4.out (Bl.alloc (Below.refl _ _) _)) hb)
  have b5 := Lib.hid (Bx.below (Bx.below b4.out (Bl.alloc (Below.refl _ _) _)) hb)
  have x5 := Lib.hid (Bx.below (Bx.new w4 (.int .i64 k) (.int .i64 e0) (.string key) (.string v) 23) hb)
  clear hb B4 a4 b4 ac0 ac1 ac2 ac3 au1_0 au1_1 au1_2 au1_3 bc0 bc1 bc2 bc3 bu1_0 bu1_1 bu1_2 bu1_3
  rcases HA.out with ⟨rfl, PY, MY⟩ | ⟨rfl, rfl, rfl, rfl, rfl⟩
  · have PYH := Lib.hid PY
    have MYH := Lib.hid MY
    clear PY MY
    go_wp2_with (go_at_call 17; refine (num_any _ _).mono ?_; rintro e w' ⟨rfl, rfl⟩)
    with_reducible refine (PYH.out _).mono ?_
    rintro e w6 ⟨rfl, hb⟩
    have B6 := Lib.hid (Bl.then (Bl.alloc (B5.out) _) hb)
    have a6 := Lib.hid (Bx.below (Bx.below a5.out (Bl.alloc (Below.refl _ _) _)) hb)
    have b6 := Lib.hid (Bx.below (Bx.below b5.out (Bl.alloc (Below.refl _ _) _)) hb)
    have x6 := Lib.hid (Bx.below (Bx.below x5.out (Bl.alloc (Below.refl _ _) _)) hb)
    have y6 := Lib.hid (Bx.below (Bx.new w5 (.int .i64 y0) (.int .i64 y1) (.string y2) (.string y3) 23) hb)
    clear hb B5 a5 b5 x5
    obtain ⟨⟨yc0, yc1, yc2, yc3⟩, _⟩ := y6.out
    go_wp2_with (go_at_call 17; refine (num_any _ _).mono ?_; rintro e w' ⟨rfl, rfl⟩)
    with_reducible refine (MYH.out _).mono ?_
    rintro e w7 ⟨rfl, hb⟩
    have B7 := Lib.hid (Bl.then (B6.out) hb)
    have a7 := Lib.hid (Bx.below (a6.out) hb)
    have b7 := Lib.hid (Bx.below (b6.out) hb)
    have x7 := Lib.hid (Bx.below (x6.out) hb)
    have y7 := Lib.hid (Bx.below (y6.out) hb)
    clear hb B6 a6 b6 x6 y6 yc0 yc1 yc2 yc3
    go_wp2_with fail
    go_ret
    exact ⟨rfl, B7.out⟩
  · go_wp2_with (go_at_call 17; refine (num_any _ _).mono ?_; rintro e w' ⟨rfl, rfl⟩)
    go_ret
    exact ⟨rfl, Bl.alloc (B5.out) _⟩

set_option maxRecDepth 100000 in
set_option maxHeartbeats 4000000 in
theorem back_mn (k e0 : Int) (key v : ByteArray) (l e2 : Int) (key' v' s : ByteArray) (y0 y1 : Int) (y2 y3 : ByteArray) (g : Int) (ma : mayP ⟨k, e0, key, v⟩) (mb : ¬ mayP ⟨l, e2, key', v'⟩) (z1 : key'.size ≤ 9223372036854775807) (z2 : v'.size ≤ 9223372036854775807)
    (hg : ∀ w : World, Calls Try.prog 15 #[.string s] w fun e' w' => e' = .returned (.tuple #[.agg #[.int .i64 y0, .int .i64 y1, .string y2, .string y3], .int .i64 g]) ∧ Below w.heap.size w w')
    (ha : (g = 0 ∧ (∀ w : World, Calls Try.prog 13 #[.agg #[.int .i64 y0, .int .i64 y1, .string y2, .string y3]] w fun e' w' => e' = .returned (.tuple #[.string s, .int .i64 0]) ∧ Below w.heap.size w w') ∧ (∀ w : World, Calls Try.prog 18 #[.agg #[.int .i64 y0, .int .i64 y1, .string y2, .string y3]] w fun e' w' => e' = .returned (.bool true) ∧ Below w.heap.size w w')) ∨
     (g = 1900 ∧ y0 = 0 ∧ y1 = 0 ∧ y2 = ⟨#[]⟩ ∧ y3 = ⟨#[]⟩)) (w : World) : Calls Try.prog 6 #[.agg #[.int .i64 k, .int .i64 e0, .string key, .string v], .agg #[.int .i64 l, .int .i64 e2, .string key', .string v'], .string s] w fun e w' => e = .returned (.bool true) ∧ Below w.heap.size w w' := by
  obtain ⟨t, ht⟩ : ∃ t, putR ⟨k, e0, key, v⟩ = t := ⟨_, rfl⟩
  have zt : t.size = 64 := by rw [← ht]; exact putR_size ma
  have PA := Lib.hid (put_hold ma t ht)
  have GA := Lib.hid (get_hold ma t ht)
  change Hid (∀ w : World, Calls Try.prog 13 #[.agg #[.int .i64 k, .int .i64 e0, .string key, .string v]] w fun e w' => e = .returned (.tuple #[.string t, .int .i64 0]) ∧ Below w.heap.size w w') at PA
  change Hid (∀ w : World, Calls Try.prog 15 #[.string t] w fun e w' => e = .returned (.tuple #[.agg #[.int .i64 k, .int .i64 e0, .string key, .string v], .int .i64 0]) ∧ Below w.heap.size w w') at GA
  have kn := neq_same k e0 key v
  have PB := Lib.hid (put_not mb z1 z2)
  change Hid (∀ w : World, Calls Try.prog 13 #[.agg #[.int .i64 l, .int .i64 e2, .string key', .string v']] w fun e w' => e = .returned (.tuple #[.string ⟨#[]⟩, .int .i64 1900]) ∧ Below w.heap.size w w') at PB
  clear ht
  have HG := Lib.hid hg
  have HA := Lib.hid ha
  have kz := eql_same 0 0 ⟨#[]⟩ ⟨#[]⟩
  have qs : (s.toList == s.toList) = true := by simp
  clear hg ha ma mb
  go_enter Try.func6, Try.ntmps6
  go_wp2_with fail
  with_reducible refine (awake19 _).mono ?_
  rintro e w1 ⟨rfl, hb⟩
  have B1 := Lib.hid (Bl.then (Bl.alloc (Bl.alloc (Below.refl _ _) _) _) hb)
  have a1 := Lib.hid (Bx.below (Bx.below (Bx.new w (.int .i64 k) (.int .i64 e0) (.string key) (.string v) 23) (Bl.alloc (Below.refl _ _) _)) hb)
  have b1 := Lib.hid (Bx.below (Bx.new1 w _ (.int .i64 l) (.int .i64 e2) (.string key') (.string v') 23) hb)
  clear hb
  obtain ⟨⟨ac0, ac1, ac2, ac3⟩, _⟩ := a1.out
  go_wp2_with fail
  with_reducible refine (PA.out _).mono ?_
  rintro e w2 ⟨rfl, hb⟩
  have B2 := Lib.hid (Bl.then (B1.out) hb)
  have a2 := Lib.hid (Bx.below (a1.out) hb)
  have b2 := Lib.hid (Bx.below (b1.out) hb)
  clear hb B1 a1 b1 ac0 ac1 ac2 ac3
  obtain ⟨⟨bc0, bc1, bc2, bc3⟩, _⟩ := b2.out
  go_wp2_with fail
  with_reducible refine (PB.out _).mono ?_
  rintro e w3 ⟨rfl, hb⟩
  have B3 := Lib.hid (Bl.then (B2.out) hb)
  have a3 := Lib.hid (Bx.below (a2.out) hb)
  have b3 := Lib.hid (Bx.below (b2.out) hb)
  clear hb B2 a2 b2 bc0 bc1 bc2 bc3
  go_wp2_with (go_at_call 17; refine (num_any _ _).mono ?_; rintro e w' ⟨rfl, rfl⟩)
  with_reducible refine (GA.out _).mono ?_
  rintro e w4 ⟨rfl, hb⟩
  have B4 := Lib.hid (Bl.then (B3.out) hb)
  have a4 := Lib.hid (Bx.below (a3.out) hb)
  have b4 := Lib.hid (Bx.below (b3.out) hb)
  clear hb B3 a3 b3
  obtain ⟨⟨ac0, ac1, ac2, ac3⟩, _⟩ := a4.out
  have au1_0 := up1 ac0
  have au1_1 := up1 ac1
  have au1_2 := up1 ac2
  have au1_3 := up1 ac3
  obtain ⟨⟨bc0, bc1, bc2, bc3⟩, _⟩ := b4.out
  have bu1_0 := up1 bc0
  have bu1_1 := up1 bc1
  have bu1_2 := up1 bc2
  have bu1_3 := up1 bc3
  go_wp2_with (go_at_call 17; refine (num_any _ _).mono ?_; rintro e w' ⟨rfl, rfl⟩)
  with_reducible refine (HG.out _).mono ?_
  rintro e w5 ⟨rfl, hb⟩
  have B5 := Lib.hid (Bl.then (Bl.alloc (B4.out) _) hb)
  have a5 := Lib.hid (Bx.below (Bx.below a4.out (Bl.alloc (Below.refl _ _) _)) hb)
  have b5 := Lib.hid (Bx.below (Bx.below b4.out (Bl.alloc (Below.refl _ _) _)) hb)
  have x5 := Lib.hid (Bx.below (Bx.new w4 (.int .i64 k) (.int .i64 e0) (.string key) (.string v) 23) hb)
  clear hb B4 a4 b4 ac0 ac1 ac2 ac3 au1_0 au1_1 au1_2 au1_3 bc0 bc1 bc2 bc3 bu1_0 bu1_1 bu1_2 bu1_3
  rcases HA.out with ⟨rfl, PY, MY⟩ | ⟨rfl, rfl, rfl, rfl, rfl⟩
  · have PYH := Lib.hid PY
    have MYH := Lib.hid MY
    clear PY MY
    go_wp2_with (go_at_call 17; refine (num_any _ _).mono ?_; rintro e w' ⟨rfl, rfl⟩)
    with_reducible refine (PYH.out _).mono ?_
    rintro e w6 ⟨rfl, hb⟩
    have B6 := Lib.hid (Bl.then (Bl.alloc (B5.out) _) hb)
    have a6 := Lib.hid (Bx.below (Bx.below a5.out (Bl.alloc (Below.refl _ _) _)) hb)
    have b6 := Lib.hid (Bx.below (Bx.below b5.out (Bl.alloc (Below.refl _ _) _)) hb)
    have x6 := Lib.hid (Bx.below (Bx.below x5.out (Bl.alloc (Below.refl _ _) _)) hb)
    have y6 := Lib.hid (Bx.below (Bx.new w5 (.int .i64 y0) (.int .i64 y1) (.string y2) (.string y3) 23) hb)
    clear hb B5 a5 b5 x5
    obtain ⟨⟨yc0, yc1, yc2, yc3⟩, _⟩ := y6.out
    go_wp2_with (go_at_call 17; refine (num_any _ _).mono ?_; rintro e w' ⟨rfl, rfl⟩)
    with_reducible refine (MYH.out _).mono ?_
    rintro e w7 ⟨rfl, hb⟩
    have B7 := Lib.hid (Bl.then (B6.out) hb)
    have a7 := Lib.hid (Bx.below (a6.out) hb)
    have b7 := Lib.hid (Bx.below (b6.out) hb)
    have x7 := Lib.hid (Bx.below (x6.out) hb)
    have y7 := Lib.hid (Bx.below (y6.out) hb)
    clear hb B6 a6 b6 x6 y6 yc0 yc1 yc2 yc3
    go_wp2_with fail
    go_ret
    exact ⟨rfl, B7.out⟩
  · go_wp2_with (go_at_call 17; refine (num_any _ _).mono ?_; rintro e w' ⟨rfl, rfl⟩)
    go_ret
    exact ⟨rfl, Bl.alloc (B5.out) _⟩

set_option maxRecDepth 100000 in
set_option maxHeartbeats 4000000 in
theorem back_n (k e0 : Int) (key v : ByteArray) (l e2 : Int) (key' v' s : ByteArray) (y0 y1 : Int) (y2 y3 : ByteArray) (g : Int) (ma : ¬ mayP ⟨k, e0, key, v⟩) (z1 : key.size ≤ 9223372036854775807) (z2 : v.size ≤ 9223372036854775807) (z3 : key'.size ≤ 9223372036854775807) (z4 : v'.size ≤ 9223372036854775807)
    (hg : ∀ w : World, Calls Try.prog 15 #[.string s] w fun e' w' => e' = .returned (.tuple #[.agg #[.int .i64 y0, .int .i64 y1, .string y2, .string y3], .int .i64 g]) ∧ Below w.heap.size w w')
    (ha : (g = 0 ∧ (∀ w : World, Calls Try.prog 13 #[.agg #[.int .i64 y0, .int .i64 y1, .string y2, .string y3]] w fun e' w' => e' = .returned (.tuple #[.string s, .int .i64 0]) ∧ Below w.heap.size w w') ∧ (∀ w : World, Calls Try.prog 18 #[.agg #[.int .i64 y0, .int .i64 y1, .string y2, .string y3]] w fun e' w' => e' = .returned (.bool true) ∧ Below w.heap.size w w')) ∨
     (g = 1900 ∧ y0 = 0 ∧ y1 = 0 ∧ y2 = ⟨#[]⟩ ∧ y3 = ⟨#[]⟩)) (w : World) : Calls Try.prog 6 #[.agg #[.int .i64 k, .int .i64 e0, .string key, .string v], .agg #[.int .i64 l, .int .i64 e2, .string key', .string v'], .string s] w fun e w' => e = .returned (.bool true) ∧ Below w.heap.size w w' := by
  have PA := Lib.hid (put_not ma z1 z2)
  change Hid (∀ w : World, Calls Try.prog 13 #[.agg #[.int .i64 k, .int .i64 e0, .string key, .string v]] w fun e w' => e = .returned (.tuple #[.string ⟨#[]⟩, .int .i64 1900]) ∧ Below w.heap.size w w') at PA
  obtain ⟨u, hu⟩ : ∃ t, putR ⟨l, e2, key', v'⟩ = t := ⟨_, rfl⟩
  obtain ⟨f, hf⟩ : ∃ t, putRe ⟨l, e2, key', v'⟩ = t := ⟨_, rfl⟩
  have pb := fun w => putr_any ⟨l, e2, key', v'⟩ w z3 z4
  rw [hu, hf] at pb
  have PB := Lib.hid pb
  change Hid (∀ w : World, Calls Try.prog 13 #[.agg #[.int .i64 l, .int .i64 e2, .string key', .string v']] w fun e w' => e = .returned (.tuple #[.string u, .int .i64 f]) ∧ Below w.heap.size w w') at PB
  clear pb hu hf
  have HG := Lib.hid hg
  have HA := Lib.hid ha
  have kz := eql_same 0 0 ⟨#[]⟩ ⟨#[]⟩
  have qs : (s.toList == s.toList) = true := by simp
  clear hg ha ma
  go_enter Try.func6, Try.ntmps6
  go_wp2_with fail
  with_reducible refine (awake19 _).mono ?_
  rintro e w1 ⟨rfl, hb⟩
  have B1 := Lib.hid (Bl.then (Bl.alloc (Bl.alloc (Below.refl _ _) _) _) hb)
  have a1 := Lib.hid (Bx.below (Bx.below (Bx.new w (.int .i64 k) (.int .i64 e0) (.string key) (.string v) 23) (Bl.alloc (Below.refl _ _) _)) hb)
  have b1 := Lib.hid (Bx.below (Bx.new1 w _ (.int .i64 l) (.int .i64 e2) (.string key') (.string v') 23) hb)
  clear hb
  obtain ⟨⟨ac0, ac1, ac2, ac3⟩, _⟩ := a1.out
  go_wp2_with fail
  with_reducible refine (PA.out _).mono ?_
  rintro e w2 ⟨rfl, hb⟩
  have B2 := Lib.hid (Bl.then (B1.out) hb)
  have a2 := Lib.hid (Bx.below (a1.out) hb)
  have b2 := Lib.hid (Bx.below (b1.out) hb)
  clear hb B1 a1 b1 ac0 ac1 ac2 ac3
  obtain ⟨⟨bc0, bc1, bc2, bc3⟩, _⟩ := b2.out
  go_wp2_with fail
  with_reducible refine (PB.out _).mono ?_
  rintro e w3 ⟨rfl, hb⟩
  have B3 := Lib.hid (Bl.then (B2.out) hb)
  have a3 := Lib.hid (Bx.below (a2.out) hb)
  have b3 := Lib.hid (Bx.below (b2.out) hb)
  clear hb B2 a2 b2 bc0 bc1 bc2 bc3
  go_wp2_with (go_at_call 17; refine (num_any _ _).mono ?_; rintro e w' ⟨rfl, rfl⟩)
  with_reducible refine (HG.out _).mono ?_
  rintro e w4 ⟨rfl, hb⟩
  have B4 := Lib.hid (Bl.then (B3.out) hb)
  have a4 := Lib.hid (Bx.below (a3.out) hb)
  have b4 := Lib.hid (Bx.below (b3.out) hb)
  clear hb B3 a3 b3
  rcases HA.out with ⟨rfl, PY, MY⟩ | ⟨rfl, rfl, rfl, rfl, rfl⟩
  · have PYH := Lib.hid PY
    have MYH := Lib.hid MY
    clear PY MY
    go_wp2_with (go_at_call 17; refine (num_any _ _).mono ?_; rintro e w' ⟨rfl, rfl⟩)
    with_reducible refine (PYH.out _).mono ?_
    rintro e w5 ⟨rfl, hb⟩
    have B5 := Lib.hid (Bl.then (Bl.alloc (B4.out) _) hb)
    have a5 := Lib.hid (Bx.below (Bx.below a4.out (Bl.alloc (Below.refl _ _) _)) hb)
    have b5 := Lib.hid (Bx.below (Bx.below b4.out (Bl.alloc (Below.refl _ _) _)) hb)
    have y5 := Lib.hid (Bx.below (Bx.new w4 (.int .i64 y0) (.int .i64 y1) (.string y2) (.string y3) 23) hb)
    clear hb B4 a4 b4
    obtain ⟨⟨yc0, yc1, yc2, yc3⟩, _⟩ := y5.out
    go_wp2_with (go_at_call 17; refine (num_any _ _).mono ?_; rintro e w' ⟨rfl, rfl⟩)
    with_reducible refine (MYH.out _).mono ?_
    rintro e w6 ⟨rfl, hb⟩
    have B6 := Lib.hid (Bl.then (B5.out) hb)
    have a6 := Lib.hid (Bx.below (a5.out) hb)
    have b6 := Lib.hid (Bx.below (b5.out) hb)
    have y6 := Lib.hid (Bx.below (y5.out) hb)
    clear hb B5 a5 b5 y5 yc0 yc1 yc2 yc3
    go_wp2_with fail
    go_ret
    exact ⟨rfl, B6.out⟩
  · go_wp2_with (go_at_call 17; refine (num_any _ _).mono ?_; rintro e w' ⟨rfl, rfl⟩)
    go_ret
    exact ⟨rfl, Bl.alloc (B4.out) _⟩

theorem RecBack_walk (a : RecV) (z1 : a.key.size ≤ 9223372036854775807) (z2 : a.val.size ≤ 9223372036854775807) (b : RecV) (z3 : b.key.size ≤ 9223372036854775807) (z4 : b.val.size ≤ 9223372036854775807) (s : ByteArray) (_ : s.size ≤ 140737488351232) (w : World) :
    Calls Try.prog 6 #[a.v, b.v, .string s] w fun e w' => e = .returned (.bool true) ∧ Below w.heap.size w w' := by
  obtain ⟨y0, y1, y2, y3, g, hg, ha⟩ := told s
  obtain ⟨k, e0, key, v⟩ := a
  obtain ⟨l, e2, key', v'⟩ := b
  by_cases ma : mayP ⟨k, e0, key, v⟩
  · by_cases mb : mayP ⟨l, e2, key', v'⟩
    · exact back_mm k e0 key v l e2 key' v' s y0 y1 y2 y3 g ma mb hg ha w
    · exact back_mn k e0 key v l e2 key' v' s y0 y1 y2 y3 g ma mb z3 z4 hg ha w
  · exact back_n k e0 key v l e2 key' v' s y0 y1 y2 y3 g ma z1 z2 z3 z4 hg ha w
end Go.Proofs.Ytgfldfkgialdlaa
