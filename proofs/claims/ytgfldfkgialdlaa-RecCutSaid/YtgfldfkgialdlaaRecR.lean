/- The statement RecCut: the walk. -/
import Derived.Test.YtgfldfkgialdlaaRecO
import Derived.Test.YtgfldfkgialdlaaPairK
namespace Go.Proofs.Ytgfldfkgialdlaa
set_option linter.unusedVariables false
set_option linter.unusedSimpArgs false
open Go.RowKit
theorem keepX {w0 w w' : World} {g : Nat} {a b c d : Value} (h : Bx w g a b c d ∧ Below w0.heap.size w0 w) (hb : Below w.heap.size w w') : Bx w' g a b c d ∧ Below w0.heap.size w0 w' := ⟨h.1.below hb, Bl.then h.2 hb⟩

set_option maxRecDepth 100000 in
set_option maxHeartbeats 4000000 in
theorem cut_not (k e0 : Int) (key v first second rise : ByteArray) (ma : ¬ mayP ⟨k, e0, key, v⟩) (z1 : key.size ≤ 9223372036854775807) (z2 : v.size ≤ 9223372036854775807) (w : World) :
    Calls Try.prog 4 #[.agg #[.int .i64 k, .int .i64 e0, .string key, .string v], .string first, .string second, .string rise] w fun e w' => e = .returned (.bool true) ∧ Below w.heap.size w w' := by
  have PA := Lib.hid (put_not ma z1 z2)
  change Hid (∀ w : World, Calls Try.prog 13 #[.agg #[.int .i64 k, .int .i64 e0, .string key, .string v]] w fun e w' => e = .returned (.tuple #[.string ⟨#[]⟩, .int .i64 1900]) ∧ Below w.heap.size w w') at PA
  clear ma z1 z2
  go_enter Try.func4, Try.ntmps4
  go_wp2_with fail
  with_reducible refine (awake19 _).mono ?_
  rintro e w1 ⟨rfl, hb⟩
  have B1 := Lib.hid (Bl.then (Bl.alloc (Below.refl _ _) _) hb)
  have a1 := Lib.hid (Bx.below (Bx.new w (.int .i64 k) (.int .i64 e0) (.string key) (.string v) 23) hb)
  clear hb
  obtain ⟨⟨ac0, ac1, ac2, ac3⟩, _⟩ := a1.out
  go_wp2_with fail
  with_reducible refine (PA.out _).mono ?_
  rintro e w2 ⟨rfl, hb⟩
  have B2 := Lib.hid (Bl.then (B1.out) hb)
  have a2 := Lib.hid (Bx.below (a1.out) hb)
  clear hb B1 a1 ac0 ac1 ac2 ac3
  go_wp2_with (go_at_call 17; refine (num_any _ _).mono ?_; rintro e w' ⟨rfl, rfl⟩)
  go_ret
  exact ⟨rfl, B2.out⟩

set_option maxRecDepth 100000 in
set_option maxHeartbeats 4000000 in
theorem cut_both (k e0 : Int) (key v first second rise t p a c u x : ByteArray) (pa : ∀ w : World, Calls Try.prog 13 #[.agg #[.int .i64 k, .int .i64 e0, .string key, .string v]] w fun e w' => e = .returned (.tuple #[.string t, .int .i64 0]) ∧ Below w.heap.size w w')
    (zt : t.size = 64) (zp : p.size = 4096) (za : a.size = 4096) (zc : c.size = 4096) (hu : a.extract 2560 2624 = u) (hx : c.extract 2560 2624 = x)
    (c1 : ∀ w : World, Calls Try.prog 21 #[.string (str blankL), .int .i64 2560, .string (t.extract 0 32), .string first] w fun e w' => e = .returned (.tuple #[.string p, .int .i64 0]) ∧ Below w.heap.size w w')
    (c2 : ∀ w : World, Calls Try.prog 21 #[.string p, .int .i64 2592, .string (t.extract 32 64), .string second] w fun e w' => e = .returned (.tuple #[.string a, .int .i64 0]) ∧ Below w.heap.size w w')
    (c3 : ∀ w : World, Calls Try.prog 23 #[.string a, .int .i64 5, .string rise] w fun e w' => e = .returned (.tuple #[.string c, .int .i64 0]) ∧ Below w.heap.size w w')
    (gu : ∀ w : World, Calls Try.prog 15 #[.string u] w fun e w' => e = .returned (.tuple #[.agg #[.int .i64 k, .int .i64 e0, .string key, .string v], .int .i64 0]) ∧ Below w.heap.size w w') (gv : ∀ w : World, Calls Try.prog 15 #[.string x] w fun e w' => e = .returned (.tuple #[.agg #[.int .i64 k, .int .i64 e0, .string key, .string v], .int .i64 0]) ∧ Below w.heap.size w w') (eu : (u.toList == t.toList) = true) (ev : (x.toList == t.toList) = true) (w : World) :
    Calls Try.prog 4 #[.agg #[.int .i64 k, .int .i64 e0, .string key, .string v], .string first, .string second, .string rise] w fun e w' => e = .returned (.bool true) ∧ Below w.heap.size w w' := by
  obtain ⟨bl, hbl⟩ : ∃ u, str blankL = u := ⟨_, rfl⟩
  rw [hbl] at c1
  obtain ⟨t1, ht1⟩ : ∃ u, t.extract 0 32 = u := ⟨_, rfl⟩
  obtain ⟨t2, ht2⟩ : ∃ u, t.extract 32 64 = u := ⟨_, rfl⟩
  rw [ht1] at c1
  rw [ht2] at c2
  have PA := Lib.hid pa
  have C1 := Lib.hid c1
  have C2 := Lib.hid c2
  have C3 := Lib.hid c3
  have GU := Lib.hid gu
  have GV := Lib.hid gv
  have HB := Lib.hid hbl
  have kr := eql_same k e0 key v
  clear pa c1 c2 c3 gu gv hbl
  go_enter Try.func4, Try.ntmps4
  go_wp2_with fail
  with_reducible refine (awake19 _).mono ?_
  rintro e w1 ⟨rfl, hb⟩
  have B1 := Lib.hid (Bl.then (Bl.alloc (Below.refl _ _) _) hb)
  have a1 := Lib.hid (Bx.below (Bx.new w (.int .i64 k) (.int .i64 e0) (.string key) (.string v) 23) hb)
  clear hb
  obtain ⟨⟨ac0, ac1, ac2, ac3⟩, _⟩ := a1.out
  go_wp2_with fail
  with_reducible refine (PA.out _).mono ?_
  rintro e w2 ⟨rfl, hb⟩
  have B2 := Lib.hid (Bl.then (B1.out) hb)
  have a2 := Lib.hid (Bx.below (a1.out) hb)
  clear hb B1 a1 ac0 ac1 ac2 ac3
  go_wp2_with (go_at_call 17; refine (num_any _ _).mono ?_; rintro e w' ⟨rfl, rfl⟩)
  have S0 : Bx w2.drew w.heap.size (.int .i64 k) (.int .i64 e0) (.string key) (.string v) ∧ Below w.heap.size w w2.drew := ⟨a2.out, Bl.drewN B2.out 1⟩
  have SH := Lib.hid S0
  clear S0 a2 B2
  go_region_held3 (fun w' => Bx w' w.heap.size (.int .i64 k) (.int .i64 e0) (.string key) (.string v) ∧ Below w.heap.size w w') (first | exact SH.out | assumption | exact hs2)
    (first | (go_at_call 22; with_reducible refine (rblank_any _).mono ?_; rw [HB.out]; rintro e w3 ⟨rfl, hb⟩; have hs2 : Bx w3 w.heap.size (.int .i64 k) (.int .i64 e0) (.string key) (.string v) ∧ Below w.heap.size w w3 := keepX (by assumption) hb) | (go_at_call 21; with_reducible refine (C1.out _).mono ?_; rintro e w3 ⟨rfl, hb⟩; have hs2 : Bx w3 w.heap.size (.int .i64 k) (.int .i64 e0) (.string key) (.string v) ∧ Below w.heap.size w w3 := keepX (by assumption) hb))
  go_wp2_with fail
  with_reducible refine (C2.out _).mono ?_
  rintro e w4 ⟨rfl, hb⟩
  have S4 : Bx w4 w.heap.size (.int .i64 k) (.int .i64 e0) (.string key) (.string v) ∧ Below w.heap.size w w4 := keepX (by assumption) hb
  have a4 := Lib.hid S4.1
  have B4 := Lib.hid S4.2
  clear hb S4 SH
  go_wp2_with fail
  with_reducible refine (GU.out _).mono ?_
  rintro e w5 ⟨rfl, hb⟩
  have B5 := Lib.hid (Bl.then (B4.out) hb)
  have a5 := Lib.hid (Bx.below (a4.out) hb)
  clear hb B4 a4
  go_wp2_with fail
  with_reducible refine (C3.out _).mono ?_
  rintro e w6 ⟨rfl, hb⟩
  have B6 := Lib.hid (Bl.then (Bl.alloc (B5.out) _) hb)
  have a6 := Lib.hid (Bx.below (Bx.below a5.out (Bl.alloc (Below.refl _ _) _)) hb)
  have b6 := Lib.hid (Bx.below (Bx.new w5 (.int .i64 k) (.int .i64 e0) (.string key) (.string v) 23) hb)
  clear hb B5 a5
  go_wp2_with fail
  with_reducible refine (GV.out _).mono ?_
  rintro e w7 ⟨rfl, hb⟩
  have B7 := Lib.hid (Bl.then (B6.out) hb)
  have a7 := Lib.hid (Bx.below (a6.out) hb)
  have b7 := Lib.hid (Bx.below (b6.out) hb)
  clear hb B6 a6 b6
  obtain ⟨⟨ac0, ac1, ac2, ac3⟩, _⟩ := a7.out
  have au1_0 := up1 ac0
  have au1_1 := up1 ac1
  have au1_2 := up1 ac2
  have au1_3 := up1 ac3
  obtain ⟨⟨bc0, bc1, bc2, bc3⟩, _⟩ := b7.out
  have bu1_0 := up1 bc0
  have bu1_1 := up1 bc1
  have bu1_2 := up1 bc2
  have bu1_3 := up1 bc3
  go_wp2_with (go_at_call 17; refine (num_any _ _).mono ?_; rintro e w' ⟨rfl, rfl⟩)
  go_ret
  exact ⟨rfl, Bl.alloc (B7.out) _⟩

set_option maxRecDepth 100000 in
set_option maxHeartbeats 4000000 in
theorem cut_one (k e0 : Int) (key v first second rise t p a c u x : ByteArray) (pa : ∀ w : World, Calls Try.prog 13 #[.agg #[.int .i64 k, .int .i64 e0, .string key, .string v]] w fun e w' => e = .returned (.tuple #[.string t, .int .i64 0]) ∧ Below w.heap.size w w')
    (zt : t.size = 64) (zp : p.size = 4096) (za : a.size = 4096) (zc : c.size = 4096) (hu : a.extract 2560 2624 = u) (hx : c.extract 2560 2624 = x)
    (c1 : ∀ w : World, Calls Try.prog 21 #[.string (str blankL), .int .i64 2560, .string (t.extract 0 32), .string first] w fun e w' => e = .returned (.tuple #[.string p, .int .i64 0]) ∧ Below w.heap.size w w')
    (c2 : ∀ w : World, Calls Try.prog 21 #[.string p, .int .i64 2592, .string (t.extract 32 64), .string second] w fun e w' => e = .returned (.tuple #[.string a, .int .i64 0]) ∧ Below w.heap.size w w')
    (c3 : ∀ w : World, Calls Try.prog 23 #[.string a, .int .i64 5, .string rise] w fun e w' => e = .returned (.tuple #[.string c, .int .i64 0]) ∧ Below w.heap.size w w')
    (gu : ∀ w : World, Calls Try.prog 15 #[.string u] w fun e w' => e = .returned (.tuple #[.agg #[.int .i64 k, .int .i64 e0, .string key, .string v], .int .i64 0]) ∧ Below w.heap.size w w') (gv : ∀ w : World, Calls Try.prog 15 #[.string x] w fun e w' => e = .returned (.tuple #[.agg #[.int .i64 0, .int .i64 0, .string ⟨#[]⟩, .string ⟨#[]⟩], .int .i64 1900]) ∧ Below w.heap.size w w') (eu : (u.toList == t.toList) = true) (ev : (x.toList == t.toList) = false) (w : World) :
    Calls Try.prog 4 #[.agg #[.int .i64 k, .int .i64 e0, .string key, .string v], .string first, .string second, .string rise] w fun e w' => e = .returned (.bool true) ∧ Below w.heap.size w w' := by
  obtain ⟨bl, hbl⟩ : ∃ u, str blankL = u := ⟨_, rfl⟩
  rw [hbl] at c1
  obtain ⟨t1, ht1⟩ : ∃ u, t.extract 0 32 = u := ⟨_, rfl⟩
  obtain ⟨t2, ht2⟩ : ∃ u, t.extract 32 64 = u := ⟨_, rfl⟩
  rw [ht1] at c1
  rw [ht2] at c2
  have PA := Lib.hid pa
  have C1 := Lib.hid c1
  have C2 := Lib.hid c2
  have C3 := Lib.hid c3
  have GU := Lib.hid gu
  have GV := Lib.hid gv
  have HB := Lib.hid hbl
  have kr := eql_same k e0 key v
  clear pa c1 c2 c3 gu gv hbl
  go_enter Try.func4, Try.ntmps4
  go_wp2_with fail
  with_reducible refine (awake19 _).mono ?_
  rintro e w1 ⟨rfl, hb⟩
  have B1 := Lib.hid (Bl.then (Bl.alloc (Below.refl _ _) _) hb)
  have a1 := Lib.hid (Bx.below (Bx.new w (.int .i64 k) (.int .i64 e0) (.string key) (.string v) 23) hb)
  clear hb
  obtain ⟨⟨ac0, ac1, ac2, ac3⟩, _⟩ := a1.out
  go_wp2_with fail
  with_reducible refine (PA.out _).mono ?_
  rintro e w2 ⟨rfl, hb⟩
  have B2 := Lib.hid (Bl.then (B1.out) hb)
  have a2 := Lib.hid (Bx.below (a1.out) hb)
  clear hb B1 a1 ac0 ac1 ac2 ac3
  go_wp2_with (go_at_call 17; refine (num_any _ _).mono ?_; rintro e w' ⟨rfl, rfl⟩)
  have S0 : Bx w2.drew w.heap.size (.int .i64 k) (.int .i64 e0) (.string key) (.string v) ∧ Below w.heap.size w w2.drew := ⟨a2.out, Bl.drewN B2.out 1⟩
  have SH := Lib.hid S0
  clear S0 a2 B2
  go_region_held3 (fun w' => Bx w' w.heap.size (.int .i64 k) (.int .i64 e0) (.string key) (.string v) ∧ Below w.heap.size w w') (first | exact SH.out | assumption | exact hs2)
    (first | (go_at_call 22; with_reducible refine (rblank_any _).mono ?_; rw [HB.out]; rintro e w3 ⟨rfl, hb⟩; have hs2 : Bx w3 w.heap.size (.int .i64 k) (.int .i64 e0) (.string key) (.string v) ∧ Below w.heap.size w w3 := keepX (by assumption) hb) | (go_at_call 21; with_reducible refine (C1.out _).mono ?_; rintro e w3 ⟨rfl, hb⟩; have hs2 : Bx w3 w.heap.size (.int .i64 k) (.int .i64 e0) (.string key) (.string v) ∧ Below w.heap.size w w3 := keepX (by assumption) hb))
  go_wp2_with fail
  with_reducible refine (C2.out _).mono ?_
  rintro e w4 ⟨rfl, hb⟩
  have S4 : Bx w4 w.heap.size (.int .i64 k) (.int .i64 e0) (.string key) (.string v) ∧ Below w.heap.size w w4 := keepX (by assumption) hb
  have a4 := Lib.hid S4.1
  have B4 := Lib.hid S4.2
  clear hb S4 SH
  go_wp2_with fail
  with_reducible refine (GU.out _).mono ?_
  rintro e w5 ⟨rfl, hb⟩
  have B5 := Lib.hid (Bl.then (B4.out) hb)
  have a5 := Lib.hid (Bx.below (a4.out) hb)
  clear hb B4 a4
  go_wp2_with fail
  with_reducible refine (C3.out _).mono ?_
  rintro e w6 ⟨rfl, hb⟩
  have B6 := Lib.hid (Bl.then (Bl.alloc (B5.out) _) hb)
  have a6 := Lib.hid (Bx.below (Bx.below a5.out (Bl.alloc (Below.refl _ _) _)) hb)
  have b6 := Lib.hid (Bx.below (Bx.new w5 (.int .i64 k) (.int .i64 e0) (.string key) (.string v) 23) hb)
  clear hb B5 a5
  go_wp2_with fail
  with_reducible refine (GV.out _).mono ?_
  rintro e w7 ⟨rfl, hb⟩
  have B7 := Lib.hid (Bl.then (B6.out) hb)
  have a7 := Lib.hid (Bx.below (a6.out) hb)
  have b7 := Lib.hid (Bx.below (b6.out) hb)
  clear hb B6 a6 b6
  obtain ⟨⟨ac0, ac1, ac2, ac3⟩, _⟩ := a7.out
  have au1_0 := up1 ac0
  have au1_1 := up1 ac1
  have au1_2 := up1 ac2
  have au1_3 := up1 ac3
  obtain ⟨⟨bc0, bc1, bc2, bc3⟩, _⟩ := b7.out
  have bu1_0 := up1 bc0
  have bu1_1 := up1 bc1
  have bu1_2 := up1 bc2
  have bu1_3 := up1 bc3
  go_wp2_with (go_at_call 17; refine (num_any _ _).mono ?_; rintro e w' ⟨rfl, rfl⟩)
  go_ret
  exact ⟨rfl, Bl.alloc (B7.out) _⟩

set_option maxRecDepth 100000 in
set_option maxHeartbeats 4000000 in
theorem cut_none (k e0 : Int) (key v first second rise t p a c u x : ByteArray) (pa : ∀ w : World, Calls Try.prog 13 #[.agg #[.int .i64 k, .int .i64 e0, .string key, .string v]] w fun e w' => e = .returned (.tuple #[.string t, .int .i64 0]) ∧ Below w.heap.size w w')
    (zt : t.size = 64) (zp : p.size = 4096) (za : a.size = 4096) (zc : c.size = 4096) (hu : a.extract 2560 2624 = u) (hx : c.extract 2560 2624 = x)
    (c1 : ∀ w : World, Calls Try.prog 21 #[.string (str blankL), .int .i64 2560, .string (t.extract 0 32), .string first] w fun e w' => e = .returned (.tuple #[.string p, .int .i64 0]) ∧ Below w.heap.size w w')
    (c2 : ∀ w : World, Calls Try.prog 21 #[.string p, .int .i64 2592, .string (t.extract 32 64), .string second] w fun e w' => e = .returned (.tuple #[.string a, .int .i64 0]) ∧ Below w.heap.size w w')
    (c3 : ∀ w : World, Calls Try.prog 23 #[.string a, .int .i64 5, .string rise] w fun e w' => e = .returned (.tuple #[.string c, .int .i64 0]) ∧ Below w.heap.size w w')
    (gu : ∀ w : World, Calls Try.prog 15 #[.string u] w fun e w' => e = .returned (.tuple #[.agg #[.int .i64 0, .int .i64 0, .string ⟨#[]⟩, .string ⟨#[]⟩], .int .i64 1900]) ∧ Below w.heap.size w w') (gv : ∀ w : World, Calls Try.prog 15 #[.string x] w fun e w' => e = .returned (.tuple #[.agg #[.int .i64 0, .int .i64 0, .string ⟨#[]⟩, .string ⟨#[]⟩], .int .i64 1900]) ∧ Below w.heap.size w w') (eu : (u.toList == t.toList) = false) (ev : (x.toList == t.toList) = false) (w : World) :
    Calls Try.prog 4 #[.agg #[.int .i64 k, .int .i64 e0, .string key, .string v], .string first, .string second, .string rise] w fun e w' => e = .returned (.bool true) ∧ Below w.heap.size w w' := by
  obtain ⟨bl, hbl⟩ : ∃ u, str blankL = u := ⟨_, rfl⟩
  rw [hbl] at c1
  obtain ⟨t1, ht1⟩ : ∃ u, t.extract 0 32 = u := ⟨_, rfl⟩
  obtain ⟨t2, ht2⟩ : ∃ u, t.extract 32 64 = u := ⟨_, rfl⟩
  rw [ht1] at c1
  rw [ht2] at c2
  have PA := Lib.hid pa
  have C1 := Lib.hid c1
  have C2 := Lib.hid c2
  have C3 := Lib.hid c3
  have GU := Lib.hid gu
  have GV := Lib.hid gv
  have HB := Lib.hid hbl
  have kr := eql_same k e0 key v
  clear pa c1 c2 c3 gu gv hbl
  go_enter Try.func4, Try.ntmps4
  go_wp2_with fail
  with_reducible refine (awake19 _).mono ?_
  rintro e w1 ⟨rfl, hb⟩
  have B1 := Lib.hid (Bl.then (Bl.alloc (Below.refl _ _) _) hb)
  have a1 := Lib.hid (Bx.below (Bx.new w (.int .i64 k) (.int .i64 e0) (.string key) (.string v) 23) hb)
  clear hb
  obtain ⟨⟨ac0, ac1, ac2, ac3⟩, _⟩ := a1.out
  go_wp2_with fail
  with_reducible refine (PA.out _).mono ?_
  rintro e w2 ⟨rfl, hb⟩
  have B2 := Lib.hid (Bl.then (B1.out) hb)
  have a2 := Lib.hid (Bx.below (a1.out) hb)
  clear hb B1 a1 ac0 ac1 ac2 ac3
  go_wp2_with (go_at_call 17; refine (num_any _ _).mono ?_; rintro e w' ⟨rfl, rfl⟩)
  have S0 : Bx w2.drew w.heap.size (.int .i64 k) (.int .i64 e0) (.string key) (.string v) ∧ Below w.heap.size w w2.drew := ⟨a2.out, Bl.drewN B2.out 1⟩
  have SH := Lib.hid S0
  clear S0 a2 B2
  go_region_held3 (fun w' => Bx w' w.heap.size (.int .i64 k) (.int .i64 e0) (.string key) (.string v) ∧ Below w.heap.size w w') (first | exact SH.out | assumption | exact hs2)
    (first | (go_at_call 22; with_reducible refine (rblank_any _).mono ?_; rw [HB.out]; rintro e w3 ⟨rfl, hb⟩; have hs2 : Bx w3 w.heap.size (.int .i64 k) (.int .i64 e0) (.string key) (.string v) ∧ Below w.heap.size w w3 := keepX (by assumption) hb) | (go_at_call 21; with_reducible refine (C1.out _).mono ?_; rintro e w3 ⟨rfl, hb⟩; have hs2 : Bx w3 w.heap.size (.int .i64 k) (.int .i64 e0) (.string key) (.string v) ∧ Below w.heap.size w w3 := keepX (by assumption) hb))
  go_wp2_with fail
  with_reducible refine (C2.out _).mono ?_
  rintro e w4 ⟨rfl, hb⟩
  have S4 : Bx w4 w.heap.size (.int .i64 k) (.int .i64 e0) (.string key) (.string v) ∧ Below w.heap.size w w4 := keepX (by assumption) hb
  have a4 := Lib.hid S4.1
  have B4 := Lib.hid S4.2
  clear hb S4 SH
  go_wp2_with fail
  with_reducible refine (GU.out _).mono ?_
  rintro e w5 ⟨rfl, hb⟩
  have B5 := Lib.hid (Bl.then (B4.out) hb)
  have a5 := Lib.hid (Bx.below (a4.out) hb)
  clear hb B4 a4
  go_wp2_with fail
  with_reducible refine (C3.out _).mono ?_
  rintro e w6 ⟨rfl, hb⟩
  have B6 := Lib.hid (Bl.then (Bl.alloc (B5.out) _) hb)
  have a6 := Lib.hid (Bx.below (Bx.below a5.out (Bl.alloc (Below.refl _ _) _)) hb)
  have b6 := Lib.hid (Bx.below (Bx.new w5 (.int .i64 0) (.int .i64 0) (.string ⟨#[]⟩) (.string ⟨#[]⟩) 23) hb)
  clear hb B5 a5
  go_wp2_with fail
  with_reducible refine (GV.out _).mono ?_
  rintro e w7 ⟨rfl, hb⟩
  have B7 := Lib.hid (Bl.then (B6.out) hb)
  have a7 := Lib.hid (Bx.below (a6.out) hb)
  have b7 := Lib.hid (Bx.below (b6.out) hb)
  clear hb B6 a6 b6
  obtain ⟨⟨ac0, ac1, ac2, ac3⟩, _⟩ := a7.out
  have au1_0 := up1 ac0
  have au1_1 := up1 ac1
  have au1_2 := up1 ac2
  have au1_3 := up1 ac3
  obtain ⟨⟨bc0, bc1, bc2, bc3⟩, _⟩ := b7.out
  have bu1_0 := up1 bc0
  have bu1_1 := up1 bc1
  have bu1_2 := up1 bc2
  have bu1_3 := up1 bc3
  go_wp2_with (go_at_call 17; refine (num_any _ _).mono ?_; rintro e w' ⟨rfl, rfl⟩)
  go_ret
  exact ⟨rfl, Bl.alloc (B7.out) _⟩

theorem RecCut_walk (r : RecV) (z1 : r.key.size ≤ 9223372036854775807) (z2 : r.val.size ≤ 9223372036854775807) (first : ByteArray) (_ : first.size ≤ 140737488351232) (second : ByteArray) (_ : second.size ≤ 140737488351232) (rise : ByteArray) (_ : rise.size ≤ 140737488351232) (w : World) :
    Calls Try.prog 4 #[r.v, .string first, .string second, .string rise] w fun e w' => e = .returned (.bool true) ∧ Below w.heap.size w w' := by
  by_cases ma : mayP r
  · obtain ⟨t, ht⟩ : ∃ t, putR r = t := ⟨_, rfl⟩
    have pa := put_hold ma t ht
    have zt : t.size = 64 := by rw [← ht]; exact putR_size ma
    have zh := half32_size ma
    have ht2 : (putP (half32 r)).1 = t := by rw [← ht, putR, if_pos ma]
    have s1 : (t.extract 0 32).size ≤ 140737488351232 := by rw [ByteArray.size_extract]; omega
    have s2 : (t.extract 32 64).size ≤ 140737488351232 := by rw [ByteArray.size_extract]; omega
    obtain ⟨p, hp⟩ : ∃ z, progL (str blankL) 2560 (t.extract 0 32) first = z := ⟨_, rfl⟩
    obtain ⟨a, ha⟩ : ∃ z, progL p 2592 (t.extract 32 64) second = z := ⟨_, rfl⟩
    obtain ⟨u, hu⟩ : ∃ z, a.extract 2560 2624 = z := ⟨_, rfl⟩
    obtain ⟨c, hc⟩ : ∃ z, erasL a 5 rise = z := ⟨_, rfl⟩
    obtain ⟨x, hx⟩ : ∃ z, c.extract 2560 2624 = z := ⟨_, rfl⟩
    have law := whole_slot (r := 40) zh (by decide) ht2 hp ha hu hc hx
    obtain ⟨l1, l2, l3, l4, l5, l6, law⟩ := law
    have c1 := fun w => rprog_any (str blankL) 2560 (t.extract 0 32) first w s1 (by decide) (by decide)
    have c2 := fun w => rprog_any p 2592 (t.extract 32 64) second w s2 (by decide) (by decide)
    have c3 := fun w => reras_any a 5 rise w (by decide) (by decide)
    rw [hp, show progE (str blankL) 2560 (t.extract 0 32) = 0 from l1] at c1
    rw [ha, show progE p 2592 (t.extract 32 64) = 0 from l2] at c2
    rw [hc, show erasE a 5 = 0 from l3] at c3
    have gr := get_hold ma t ht
    have bad : ∀ y : ByteArray, getP y = (str [], 200) → ∀ w : World, Calls Try.prog 15 #[.string y] w fun e w' => e = .returned (.tuple #[.agg #[.int .i64 0, .int .i64 0, .string ⟨#[]⟩, .string ⟨#[]⟩], .int .i64 1900]) ∧ Below w.heap.size w w' := fun y hy w => getr_any y zeroR 1900 (ansR_bad hy) w
    rcases law with ⟨g1, g2, g3, g4⟩ | ⟨g1, g2, g3, g4, g5⟩ | ⟨g1, g2, g3⟩
    · exact cut_both r.k r.e r.key r.val first second rise t p a c u x pa zt l4 l5 l6 hu hx c1 c2 c3 (by rw [g2]; exact gr) (by rw [g4]; exact gr) (eq_tl g2) (eq_tl g4) w
    · exact cut_one r.k r.e r.key r.val first second rise t p a c u x pa zt l4 l5 l6 hu hx c1 c2 c3 (by rw [g2]; exact gr) (bad x g3) (eq_tl g2) (ne_tl g4) w
    · have nx : x ≠ t := by
        intro e
        have := putR_get ma
        rw [ht, ← e, g3] at this
        exact absurd (Prod.mk.inj this).2 (by decide)
      exact cut_none r.k r.e r.key r.val first second rise t p a c u x pa zt l4 l5 l6 hu hx c1 c2 c3 (bad u g1) (bad x g3) (ne_tl g2) (ne_tl nx) w
  · exact cut_not r.k r.e r.key r.val first second rise ma z1 z2 w
end Go.Proofs.Ytgfldfkgialdlaa
