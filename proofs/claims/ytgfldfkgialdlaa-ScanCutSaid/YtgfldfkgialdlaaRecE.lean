/- rec: the document's Put. -/
import Derived.Test.YtgfldfkgialdlaaRecD
namespace Go.Proofs.Ytgfldfkgialdlaa
set_option linter.unusedVariables false
set_option linter.unusedSimpArgs false
open Go.RowKit
theorem conv3w (a b : Nat) (ha : a < 256) (hb : b < 256) (w : World) :
    (convert 43 9 (.slice (some ⟨w.heap.size, 0, none⟩) 3 3)).run Try.prog (w.alloc (Obj.cells #[.int .u8 (a : Int), .int .u8 (b : Int), .int .u8 0] 5)) = .ok (.string (str [UInt8.ofNat a, UInt8.ofNat b, 0])) (w.alloc (Obj.cells #[.int .u8 (a : Int), .int .u8 (b : Int), .int .u8 0] 5)) := by
  have h := (Own.made w 5 [UInt8.ofNat a, UInt8.ofNat b, 0] 3 rfl (by decide)).string (P := Try.prog) Try.underlying43 Try.underlying5 Try.underlying9
  have e : (byts [UInt8.ofNat a, UInt8.ofNat b, 0]).toArray = #[.int .u8 (a : Int), .int .u8 (b : Int), .int .u8 0] := by
    show #[Value.int .u8 ((UInt8.ofNat a).toNat : Int), Value.int .u8 ((UInt8.ofNat b).toNat : Int), Value.int .u8 0] = _
    rw [u8_of ha, u8_of hb]
  rwa [e] at h
theorem conv3z (a : Nat) (ha : a < 256) (w : World) :
    (convert 43 9 (.slice (some ⟨w.heap.size, 0, none⟩) 3 3)).run Try.prog (w.alloc (Obj.cells #[.int .u8 (a : Int), .int .u8 0, .int .u8 0] 5)) = .ok (.string (str [UInt8.ofNat a, 0, 0])) (w.alloc (Obj.cells #[.int .u8 (a : Int), .int .u8 0, .int .u8 0] 5)) := conv3w a 0 ha (by decide) w
theorem conv4w (x : Int) (w : World) :
    (convert 43 9 (.slice (some ⟨w.heap.size, 0, none⟩) 4 4)).run Try.prog (w.alloc (Obj.cells #[.int .u8 ((lowB x 0).toNat : Int), .int .u8 ((lowB x 1).toNat : Int), .int .u8 ((lowB x 2).toNat : Int), .int .u8 ((lowB x 3).toNat : Int)] 5)) = .ok (.string (str (lowL x))) (w.alloc (Obj.cells #[.int .u8 ((lowB x 0).toNat : Int), .int .u8 ((lowB x 1).toNat : Int), .int .u8 ((lowB x 2).toNat : Int), .int .u8 ((lowB x 3).toNat : Int)] 5)) :=
  (Own.made w 5 (lowL x) 4 rfl (by decide)).string (P := Try.prog) Try.underlying43 Try.underlying5 Try.underlying9
theorem conv4z (w : World) :
    (convert 43 9 (.slice (some ⟨w.heap.size, 0, none⟩) 4 4)).run Try.prog (w.alloc (Obj.cells #[.int .u8 0, .int .u8 0, .int .u8 0, .int .u8 0] 5)) = .ok (.string (str [0, 0, 0, 0])) (w.alloc (Obj.cells #[.int .u8 0, .int .u8 0, .int .u8 0, .int .u8 0] 5)) := conv4w 0 w
theorem keepA {w w' : World} {g : Nat} {a b : Value} (h : w'.cell? ⟨g, 2, none⟩ = some a ∧ w'.cell? ⟨g, 3, none⟩ = some b ∧ Below w.heap.size w w') (o : Obj) :
    (w'.alloc o).cell? ⟨g, 2, none⟩ = some a ∧ (w'.alloc o).cell? ⟨g, 3, none⟩ = some b ∧ Below w.heap.size w (w'.alloc o) := by
  refine ⟨?_, ?_, Bl.alloc h.2.2 o⟩
  · rw [World.cell?_alloc_lt _ _ _ (World.block_lt_of_cell? _ _ h.1)]; exact h.1
  · rw [World.cell?_alloc_lt _ _ _ (World.block_lt_of_cell? _ _ h.2.1)]; exact h.2.1
theorem keepD {w w' : World} {g : Nat} {a b : Value} (h : w'.drew.cell? ⟨g, 2, none⟩ = some a ∧ w'.drew.cell? ⟨g, 3, none⟩ = some b ∧ Below w.heap.size w w'.drew) (o : Obj) :
    (w'.alloc o).drew.cell? ⟨g, 2, none⟩ = some a ∧ (w'.alloc o).drew.cell? ⟨g, 3, none⟩ = some b ∧ Below w.heap.size w (w'.alloc o).drew := keepA h o
theorem keepB {w w1 w2 : World} {g : Nat} {a b : Value} (h : w1.cell? ⟨g, 2, none⟩ = some a ∧ w1.cell? ⟨g, 3, none⟩ = some b ∧ Below w.heap.size w w1) (hb : Below w1.heap.size w1 w2) :
    w2.cell? ⟨g, 2, none⟩ = some a ∧ w2.cell? ⟨g, 3, none⟩ = some b ∧ Below w.heap.size w w2 :=
  ⟨(hb.cell (World.block_lt_of_cell? _ _ h.1)).trans h.1, (hb.cell (World.block_lt_of_cell? _ _ h.2.1)).trans h.2.1, Bl.then h.2.2 hb⟩

theorem up1 {w : World} {g i : Nat} {u : Value} (h : w.cell? ⟨g, i, none⟩ = some u) (o : Obj) : (w.alloc o).cell? ⟨g, i, none⟩ = some u := by
  rw [World.cell?_alloc_lt _ _ _ (World.block_lt_of_cell? _ _ h)]
  exact h
theorem conv3y (a : Nat) (ha : a < 256) (w : World) (o : Obj) :
    (convert 43 9 (.slice (some ⟨w.heap.size + 1, 0, none⟩) 3 3)).run Try.prog ((w.alloc o).alloc (Obj.cells #[.int .u8 (a : Int), .int .u8 0, .int .u8 0] 5)) = .ok (.string (str [UInt8.ofNat a, 0, 0])) ((w.alloc o).alloc (Obj.cells #[.int .u8 (a : Int), .int .u8 0, .int .u8 0] 5)) := by
  have h := conv3z a ha (w.alloc o)
  have e : (w.alloc o).heap.size = w.heap.size + 1 := by simp
  rwa [e] at h

theorem rputr_no (r : RecV) (hm : ¬ mayP r) (w : World) (hk : r.key.size ≤ 9223372036854775807) (hv : r.val.size ≤ 9223372036854775807) : Calls Try.prog 14 #[r.v] w fun e w' => e = .returned (.tuple #[.string (putR r), .int .i64 (putRe r)]) ∧ Below w.heap.size w w' := by
  have hM := rmay_any r
  have hb : mayB r = false := decide_eq_false hm
  rw [hb] at hM
  rw [show putRe r = 1900 from if_neg hm, show putR r = str [] from if_neg hm]
  have HM := Lib.hid hM
  clear hM hm hb
  obtain ⟨k, e0, key, v⟩ := r
  simp only at hk hv
  change Calls Try.prog 14 #[.agg #[.int .i64 k, .int .i64 e0, .string key, .string v]] w _
  change Hid (∀ w : World, key.size ≤ 9223372036854775807 → v.size ≤ 9223372036854775807 → Calls Try.prog 19 #[.agg #[.int .i64 k, .int .i64 e0, .string key, .string v]] w fun e w' => e = .returned (.bool false) ∧ Below w.heap.size w w') at HM
  go_enter Try.func14, Try.ntmps14
  go_wp2_with fail
  with_reducible refine (HM.out _ hk hv).mono ?_
  rintro e w1 ⟨rfl, hb⟩
  have B1 := Lib.hid (Bl.then (Bl.alloc (Below.refl _ _) _) hb)
  clear hb
  go_wp2_with fail
  go_ret2
  exact ⟨rfl, B1.out⟩

/-- What the document puts for a record that may be. -/
theorem rputr_facts {r : RecV} (hm : mayP r) (hh x out : ByteArray) (h1 : str (halfL r) = hh) (h2 : padB hh 32 = x) (h5 : putR r = out) : hh.size ≤ 32 ∧ putP x = (out, 0) := by
  refine ⟨by rw [← h1, str_size]; have := halfL_len hm; omega, ?_⟩
  have e : x = half32 r := by rw [← h2, ← h1, padB, str_data]; rfl
  rw [e, ← h5, putR, if_pos hm, Prod.ext_iff]
  exact ⟨rfl, put_err (half32_size hm)⟩

set_option maxRecDepth 100000 in
set_option maxHeartbeats 4000000 in
theorem rputr_0 (e0 : Int) (hm : mayP ⟨0, e0, nilB, nilB⟩) (w : World) (out : ByteArray) (h5 : putR ⟨0, e0, nilB, nilB⟩ = out) : Calls Try.prog 14 #[.agg #[.int .i64 0, .int .i64 e0, .string nilB, .string nilB]] w fun e w' => e = .returned (.tuple #[.string out, .int .i64 0]) ∧ Below w.heap.size w w' := by
  have hM := fun w => rmay_any ⟨0, e0, nilB, nilB⟩ w (show nilB.size ≤ _ by decide) (show nilB.size ≤ _ by decide)
  rw [show mayB ⟨0, e0, nilB, nilB⟩ = true from decide_eq_true hm] at hM
  change ∀ w : World, Calls Try.prog 19 #[.agg #[.int .i64 0, .int .i64 e0, .string nilB, .string nilB]] w fun e w' => e = .returned (.bool true) ∧ Below w.heap.size w w' at hM
  obtain ⟨l, hl⟩ : ∃ z, str (lowL e0) = z := ⟨_, rfl⟩
  obtain ⟨hh, h1⟩ : ∃ z, (⟨#[72]⟩ : ByteArray) ++ l = z := ⟨_, rfl⟩
  obtain ⟨x, h2⟩ : ∃ z, padB hh 32 = z := ⟨_, rfl⟩
  obtain ⟨z1, h4⟩ := rputr_facts hm hh x out (by rw [← h1, cons_app, ← hl, str_data]; rfl) h2 h5
  have zl : l.size = 4 := by rw [← hl, str_size]; rfl
  have h0 : 0 ≤ e0 ∧ e0 ≤ 1048576 := by
    rcases hm with ⟨_, a, b, _⟩ | ⟨a, _⟩ | ⟨a, _⟩
    · simp only at a b; omega
    · simp only at a; omega
    · simp only at a; omega
  obtain ⟨h0, h9⟩ := h0
  replace h9 : e0 ≤ 9223372036854775807 := by omega
  have q0 : e0 % 256 = ((lowB e0 0).toNat : Int) := by have := lowB_mod e0 0 h0; simpa using this
  have q1 : e0 / 256 % 256 = ((lowB e0 1).toNat : Int) := by have := lowB_mod e0 1 h0; simpa using this
  have q2 : e0 / 65536 % 256 = ((lowB e0 2).toNat : Int) := by have := lowB_mod e0 2 h0; simpa using this
  have q3 : e0 / 16777216 % 256 = ((lowB e0 3).toNat : Int) := by have := lowB_mod e0 3 h0; simpa using this
  have kc := conv4w e0
  rw [hl] at kc
  generalize (lowB e0 0).toNat = y0 at *
  generalize (lowB e0 1).toNat = y1 at *
  generalize (lowB e0 2).toNat = y2 at *
  generalize (lowB e0 3).toNat = y3 at *
  have HM := Lib.hid hM
  have H2 := Lib.hid h2
  have H4 := Lib.hid h4
  have C0 := Lib.hid (cells_rec (W := w) (k := 0) (e0 := e0) (key := nilB) (v := nilB) rfl rfl)
  clear hM h2 h4 hm h5 hl
  generalize nilB = n at *
  go_enter Try.func14, Try.ntmps14
  go_wp2_with fail
  with_reducible refine (HM.out _).mono ?_
  rintro e w1 ⟨rfl, hb⟩
  have B1 := Lib.hid (Bl.then (Bl.alloc (Below.refl _ _) _) hb)
  have C1 := kept4 hb C0.out
  obtain ⟨c0, c1, c2, c3⟩ := C1
  have d0 := up1 c0
  have d1 := up1 c1
  have d2 := up1 c2
  have d3 := up1 c3
  clear hb C0
  go_wp2_with fail
  with_reducible refine (rpad32 hh z1 _).mono ?_
  rw [H2.out]
  rintro e w3 ⟨rfl, hb⟩
  have B3 := Lib.hid (Bl.then (Bl.alloc B1.out _) hb)
  clear hb
  go_wp2_with fail
  with_reducible refine (rput_any x _).mono ?_
  rw [H4.out]
  rintro e w4 ⟨rfl, hb⟩
  have B4 := Lib.hid (Bl.then B3.out hb)
  clear hb
  go_wp2_with fail
  go_ret2
  exact ⟨rfl, B4.out⟩

set_option maxRecDepth 100000 in
set_option maxHeartbeats 4000000 in
theorem rputr_2 (key : ByteArray) (hm : mayP ⟨2, 0, key, nilB⟩) (w : World) (out : ByteArray) (h5 : putR ⟨2, 0, key, nilB⟩ = out) : Calls Try.prog 14 #[.agg #[.int .i64 2, .int .i64 0, .string key, .string nilB]] w fun e w' => e = .returned (.tuple #[.string out, .int .i64 0]) ∧ Below w.heap.size w w' := by
  have s1 : key.size ≤ 6 := (may_keys hm).1
  have hM := fun w => rmay_any ⟨2, 0, key, nilB⟩ w (show key.size ≤ _ by omega) (show nilB.size ≤ _ by decide)
  rw [show mayB ⟨2, 0, key, nilB⟩ = true from decide_eq_true hm] at hM
  change ∀ w : World, Calls Try.prog 19 #[.agg #[.int .i64 2, .int .i64 0, .string key, .string nilB]] w fun e w' => e = .returned (.bool true) ∧ Below w.heap.size w w' at hM
  obtain ⟨l, hl⟩ : ∃ z, str [0, 0, 0, 0] = z := ⟨_, rfl⟩
  obtain ⟨hd, hhd⟩ : ∃ z, str [UInt8.ofNat key.size, 0, 0] = z := ⟨_, rfl⟩
  obtain ⟨u, hu⟩ : ∃ z, (⟨#[84]⟩ : ByteArray) ++ hd = z := ⟨_, rfl⟩
  obtain ⟨hh, h1⟩ : ∃ z, u ++ key = z := ⟨_, rfl⟩
  obtain ⟨x, h2⟩ : ∃ z, padB hh 32 = z := ⟨_, rfl⟩
  obtain ⟨z1, h4⟩ := rputr_facts hm hh x out (by
    rw [← h1, ← hu, ← hhd]
    refine ext_str ?_
    rw [str_data, app_data, app_data, str_data]
    rfl) h2 h5
  have zl : l.size = 4 := by rw [← hl, str_size]; rfl
  have zd : hd.size = 3 := by rw [← hhd, str_size]; rfl
  have zu : u.size = 4 := by rw [← hu, size_app, zd]; rfl
  have i0 : ¬ 9223372036854775807 < 4 + key.size := by omega
  have i1 : (key.size : Int) ≤ 6 := by omega
  have k4 := conv4z
  rw [hl] at k4
  have k3 := conv3y key.size (by omega)
  rw [hhd] at k3
  have HM := Lib.hid hM
  have H2 := Lib.hid h2
  have H4 := Lib.hid h4
  have C0 := Lib.hid (cells_rec (W := w) (k := 2) (e0 := 0) (key := key) (v := nilB) rfl rfl)
  clear hM h2 h4 hm h5 hl hhd
  generalize nilB = n at *
  go_enter Try.func14, Try.ntmps14
  go_wp2_with fail
  with_reducible refine (HM.out _).mono ?_
  rintro e w1 ⟨rfl, hb⟩
  have B1 := Lib.hid (Bl.then (Bl.alloc (Below.refl _ _) _) hb)
  have C1 := kept4 hb C0.out
  obtain ⟨c0, c1, c2, c3⟩ := C1
  have dd2 := fun o o' => up1 (up1 c2 o) o'
  have d0 := up1 c0
  have d1 := up1 c1
  have d2 := up1 c2
  have d3 := up1 c3
  clear hb C0
  go_wp2_with fail
  with_reducible refine (rpad32 hh z1 _).mono ?_
  rw [H2.out]
  rintro e w3 ⟨rfl, hb⟩
  have B3 := Lib.hid (Bl.then (Bl.alloc (Bl.alloc B1.out _) _) hb)
  clear hb
  go_wp2_with fail
  with_reducible refine (rput_any x _).mono ?_
  rw [H4.out]
  rintro e w4 ⟨rfl, hb⟩
  have B4 := Lib.hid (Bl.then B3.out hb)
  clear hb
  go_wp2_with fail
  go_ret2
  exact ⟨rfl, B4.out⟩
end Go.Proofs.Ytgfldfkgialdlaa
