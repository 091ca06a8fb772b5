/- rec: Put. -/
import Derived.Test.YtgfldfkgialdlaaRecC
namespace Go.Proofs.Ytgfldfkgialdlaa
set_option linter.unusedVariables false
set_option linter.unusedSimpArgs false
open Go.RowKit
theorem cells_rec {W : World} {o : Obj} {g : Nat} {k e0 : Int} {key v : ByteArray} (hg : W.heap.size = g) (ho : o = Obj.cells #[.int .i64 k, .int .i64 e0, .string key, .string v] 23) :
    (W.alloc o).cell? ⟨g, 0, none⟩ = some (.int .i64 k) ∧ (W.alloc o).cell? ⟨g, 1, none⟩ = some (.int .i64 e0) ∧ (W.alloc o).cell? ⟨g, 2, none⟩ = some (.string key) ∧ (W.alloc o).cell? ⟨g, 3, none⟩ = some (.string v) := by
  subst hg
  subst ho
  refine ⟨?_, ?_, ?_, ?_⟩ <;> rw [cell_of_row _ W.heap.size _ _ 23 (0, 0) (heap_alloc_new W _)] <;> rfl
theorem kept4 {w w' : World} {g : Nat} {a b c d : Value} (hb : Below w.heap.size w w') (h : w.cell? ⟨g, 0, none⟩ = some a ∧ w.cell? ⟨g, 1, none⟩ = some b ∧ w.cell? ⟨g, 2, none⟩ = some c ∧ w.cell? ⟨g, 3, none⟩ = some d) :
    w'.cell? ⟨g, 0, none⟩ = some a ∧ w'.cell? ⟨g, 1, none⟩ = some b ∧ w'.cell? ⟨g, 2, none⟩ = some c ∧ w'.cell? ⟨g, 3, none⟩ = some d := by
  have k := fun (q : Nat) (v : Value) (h : w.cell? ⟨g, q, none⟩ = some v) => (hb.cell (World.block_lt_of_cell? _ _ h)).trans h
  exact ⟨k _ _ h.1, k _ _ h.2.1, k _ _ h.2.2.1, k _ _ h.2.2.2⟩

set_option maxRecDepth 100000 in
set_option maxHeartbeats 4000000 in
theorem putr_any (r : RecV) (w : World) (hk : r.key.size ≤ 9223372036854775807) (hv : r.val.size ≤ 9223372036854775807) : Calls Try.prog 13 #[r.v] w fun e w' => e = .returned (.tuple #[.string (putR r), .int .i64 (putRe r)]) ∧ Below w.heap.size w w' := by
  have hM := may_any r
  by_cases hm : mayP r
  · have hb : mayB r = true := decide_eq_true hm
    rw [hb] at hM
    obtain ⟨hh, h1⟩ : ∃ z, str (halfL r) = z := ⟨_, rfl⟩
    obtain ⟨x, h2⟩ : ∃ z, half32 r = z := ⟨_, rfl⟩
    have h3 : padB hh 32 = x := by rw [← h2, ← h1, padB, str_data]; rfl
    have z1 : hh.size ≤ 32 := by rw [← h1, str_size]; have := halfL_len hm; omega
    have h4 : putP x = (putR r, 0) := by rw [putR, if_pos hm, ← h2, Prod.ext_iff]; exact ⟨rfl, put_err (half32_size hm)⟩
    rw [show putRe r = 0 from if_pos hm]
    obtain ⟨out, h5⟩ : ∃ z, putR r = z := ⟨_, rfl⟩
    rw [h5] at h4 ⊢
    have hH := fun (g : Nat) (w : World) => half_any r.k r.e r.key r.val g w hm
    rw [show (⟨r.k, r.e, r.key, r.val⟩ : RecV) = r from rfl, h1] at hH
    clear h1 h2 h5 hb hm
    have HM := Lib.hid hM
    have HH := Lib.hid hH
    have H3 := Lib.hid h3
    have H4 := Lib.hid h4
    clear hM hH h3 h4
    obtain ⟨k, e0, key, v⟩ := r
    simp only at hk hv
    change Calls Try.prog 13 #[.agg #[.int .i64 k, .int .i64 e0, .string key, .string v]] w _
    change Hid (∀ w : World, key.size ≤ 9223372036854775807 → v.size ≤ 9223372036854775807 → Calls Try.prog 18 #[.agg #[.int .i64 k, .int .i64 e0, .string key, .string v]] w fun e w' => e = .returned (.bool true) ∧ Below w.heap.size w w') at HM
    have C0 := Lib.hid (cells_rec (W := w) (k := k) (e0 := e0) (key := key) (v := v) rfl rfl)
    go_enter Try.func13, Try.ntmps13
    go_wp2_with fail
    with_reducible refine (HM.out _ hk hv).mono ?_
    rintro e w1 ⟨rfl, hb⟩
    have B1 := Lib.hid (Bl.then (Bl.alloc (Below.refl _ _) _) hb)
    have C1 := Lib.hid (kept4 hb C0.out)
    clear hb C0
    go_wp2_with fail
    with_reducible refine (HH.out _ _ C1.out.1 C1.out.2.1 C1.out.2.2.1 C1.out.2.2.2).mono ?_
    rintro e w2 ⟨rfl, hb⟩
    have B2 := Lib.hid (Bl.then B1.out hb)
    clear hb
    go_wp2_with fail
    with_reducible refine (pad32 hh z1 _).mono ?_
    rw [H3.out]
    rintro e w3 ⟨rfl, hb⟩
    have B3 := Lib.hid (Bl.then B2.out hb)
    clear hb
    go_wp2_with fail
    with_reducible refine (put_any x _).mono ?_
    rw [H4.out]
    rintro e w4 ⟨rfl, hb⟩
    have B4 := Lib.hid (Bl.then B3.out hb)
    clear hb
    go_wp2_with fail
    go_ret2
    exact ⟨rfl, B4.out⟩
  · have hb : mayB r = false := decide_eq_false hm
    rw [hb] at hM
    rw [show putRe r = 1900 from if_neg hm, show putR r = str [] from if_neg hm]
    have HM := Lib.hid hM
    clear hM hm hb
    obtain ⟨k, e0, key, v⟩ := r
    simp only at hk hv
    change Calls Try.prog 13 #[.agg #[.int .i64 k, .int .i64 e0, .string key, .string v]] w _
    change Hid (∀ w : World, key.size ≤ 9223372036854775807 → v.size ≤ 9223372036854775807 → Calls Try.prog 18 #[.agg #[.int .i64 k, .int .i64 e0, .string key, .string v]] w fun e w' => e = .returned (.bool false) ∧ Below w.heap.size w w') at HM
    go_enter Try.func13, Try.ntmps13
    go_wp2_with fail
    with_reducible refine (HM.out _ hk hv).mono ?_
    rintro e w1 ⟨rfl, hb⟩
    have B1 := Lib.hid (Bl.then (Bl.alloc (Below.refl _ _) _) hb)
    clear hb
    go_wp2_with fail
    go_ret2
    exact ⟨rfl, B1.out⟩
end Go.Proofs.Ytgfldfkgialdlaa
