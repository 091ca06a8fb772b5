/- The statement Recs: the walk. -/
import Derived.Test.YtgfldfkgialdlaaRecK
namespace Go.Proofs.Ytgfldfkgialdlaa
set_option linter.unusedVariables false
set_option linter.unusedSimpArgs false
open Go.RowKit

theorem keep12 {w0 w w' : World} {g g' g'' : Nat} {a b c d a' b' c' d' a'' b'' c'' d'' : Value}
    (h : ((w.cell? ⟨g, 0, none⟩ = some a ∧ w.cell? ⟨g, 1, none⟩ = some b ∧ w.cell? ⟨g, 2, none⟩ = some c ∧ w.cell? ⟨g, 3, none⟩ = some d) ∧
      (w.cell? ⟨g', 0, none⟩ = some a' ∧ w.cell? ⟨g', 1, none⟩ = some b' ∧ w.cell? ⟨g', 2, none⟩ = some c' ∧ w.cell? ⟨g', 3, none⟩ = some d') ∧
      (w.cell? ⟨g'', 0, none⟩ = some a'' ∧ w.cell? ⟨g'', 1, none⟩ = some b'' ∧ w.cell? ⟨g'', 2, none⟩ = some c'' ∧ w.cell? ⟨g'', 3, none⟩ = some d'')) ∧ Below w0.heap.size w0 w) (hb : Below w.heap.size w w') :
    ((w'.cell? ⟨g, 0, none⟩ = some a ∧ w'.cell? ⟨g, 1, none⟩ = some b ∧ w'.cell? ⟨g, 2, none⟩ = some c ∧ w'.cell? ⟨g, 3, none⟩ = some d) ∧
      (w'.cell? ⟨g', 0, none⟩ = some a' ∧ w'.cell? ⟨g', 1, none⟩ = some b' ∧ w'.cell? ⟨g', 2, none⟩ = some c' ∧ w'.cell? ⟨g', 3, none⟩ = some d') ∧
      (w'.cell? ⟨g'', 0, none⟩ = some a'' ∧ w'.cell? ⟨g'', 1, none⟩ = some b'' ∧ w'.cell? ⟨g'', 2, none⟩ = some c'' ∧ w'.cell? ⟨g'', 3, none⟩ = some d'')) ∧ Below w0.heap.size w0 w' :=
  ⟨⟨kept4 hb h.1.1, kept4 hb h.1.2.1, kept4 hb h.1.2.2⟩, Bl.then h.2 hb⟩

set_option maxRecDepth 100000 in
set_option maxHeartbeats 4000000 in
theorem Recs_walk (r : RecV) (hk : r.key.size ≤ 9223372036854775807) (hv : r.val.size ≤ 9223372036854775807) (s : ByteArray) (hs : s.size ≤ 140737488351232) (w : World) :
    Calls Try.prog 3 #[r.v, .string s] w fun e w' => e = .returned (.bool true) ∧ Below w.heap.size w w' := by
  obtain ⟨q, e1, hq⟩ := ansR_ex s
  have p1 := fun w => putr_any r w hk hv
  have p2 := fun w => rputr_any r w hk hv
  have m1 := fun w => may_any r w hk hv
  have m2 := fun w => rmay_any r w hk hv
  have a1 := fun w => getr_any s q e1 hq w
  have a2 := fun w => rgetr_any s q e1 hq w
  clear hk hv hq
  obtain ⟨out, h1⟩ : ∃ z, putR r = z := ⟨_, rfl⟩
  obtain ⟨f, h2⟩ : ∃ z, putRe r = z := ⟨_, rfl⟩
  obtain ⟨b, h3⟩ : ∃ z, mayB r = z := ⟨_, rfl⟩
  rw [h1, h2] at p1 p2
  rw [h3] at m1 m2
  clear h1 h2 h3
  obtain ⟨k, e0, key, v⟩ := r
  obtain ⟨k', e', key', v'⟩ := q
  have P1 := Lib.hid p1
  have P2 := Lib.hid p2
  have M1 := Lib.hid m1
  have M2 := Lib.hid m2
  have A1 := Lib.hid a1
  have A2 := Lib.hid a2
  change Hid (∀ w : World, Calls Try.prog 13 #[.agg #[.int .i64 k, .int .i64 e0, .string key, .string v]] w fun e w' => e = .returned (.tuple #[.string out, .int .i64 f]) ∧ Below w.heap.size w w') at P1
  change Hid (∀ w : World, Calls Try.prog 14 #[.agg #[.int .i64 k, .int .i64 e0, .string key, .string v]] w fun e w' => e = .returned (.tuple #[.string out, .int .i64 f]) ∧ Below w.heap.size w w') at P2
  change Hid (∀ w : World, Calls Try.prog 18 #[.agg #[.int .i64 k, .int .i64 e0, .string key, .string v]] w fun e w' => e = .returned (.bool b) ∧ Below w.heap.size w w') at M1
  change Hid (∀ w : World, Calls Try.prog 19 #[.agg #[.int .i64 k, .int .i64 e0, .string key, .string v]] w fun e w' => e = .returned (.bool b) ∧ Below w.heap.size w w') at M2
  change Hid (∀ w : World, Calls Try.prog 15 #[.string s] w fun e w' => e = .returned (.tuple #[.agg #[.int .i64 k', .int .i64 e', .string key', .string v'], .int .i64 e1]) ∧ Below w.heap.size w w') at A1
  change Hid (∀ w : World, Calls Try.prog 16 #[.string s] w fun e w' => e = .returned (.tuple #[.agg #[.int .i64 k', .int .i64 e', .string key', .string v'], .int .i64 e1]) ∧ Below w.heap.size w w') at A2
  change Calls Try.prog 3 #[.agg #[.int .i64 k, .int .i64 e0, .string key, .string v], .string s] w _
  have ke : ∀ W : World, (binOp .eql 23 (.agg #[.int .i64 k', .int .i64 e', .string key', .string v']) (.agg #[.int .i64 k', .int .i64 e', .string key', .string v'])).run Try.prog W = .ok (.bool true) W := fun W => by
    rw [eql_rec]; simp
  have q1 : (f == f) = true := by simp
  have q2 : (e1 == e1) = true := by simp
  have q3 : (b == b) = true := by simp
  clear p1 p2 m1 m2 a1 a2
  go_enter Try.func3, Try.ntmps3
  go_wp2_with fail
  with_reducible refine (P1.out _).mono ?_
  rintro e w1 ⟨rfl, hb⟩
  have B1 := Lib.hid (Bl.then (Bl.alloc (Below.refl _ _) _) hb)
  have X1 := Lib.hid (Bx.below (Bx.new w (.int .i64 k) (.int .i64 e0) (.string key) (.string v) 23) hb)
  obtain ⟨⟨c0, c1, c2, c3⟩, _⟩ := X1.out
  clear hb
  go_wp2_with fail
  with_reducible refine (P2.out _).mono ?_
  rintro e w2 ⟨rfl, hb⟩
  have B2 := Lib.hid (Bl.then B1.out hb)
  have X2 := Lib.hid (Bx.below X1.out hb)
  clear hb B1 X1 c0 c1 c2 c3
  go_wp2_with fail
  with_reducible refine (A1.out _).mono ?_
  rintro e w3 ⟨rfl, hb⟩
  have B3 := Lib.hid (Bl.then B2.out hb)
  have X3 := Lib.hid (Bx.below X2.out hb)
  clear hb B2 X2
  go_wp2_with fail
  with_reducible refine (A2.out _).mono ?_
  rintro e w4 ⟨rfl, hb⟩
  have B4 := Lib.hid (Bl.then (Bl.alloc B3.out _) hb)
  have X4 := Lib.hid (Bx.below (Bx.below X3.out (Bl.alloc (Below.refl _ _) _)) hb)
  have Y4 := Lib.hid (Bx.below (Bx.new w3 (.int .i64 k') (.int .i64 e') (.string key') (.string v') 23) hb)
  clear hb B3 X3
  go_wp2_with fail
  have Z : Obj := Obj.cells #[.int .i64 k', .int .i64 e', .string key', .string v'] 23
  have S5 := Lib.hid (And.intro (And.intro (Bx.below X4.out (Bl.alloc (Below.refl _ _) (Obj.cells #[.int .i64 k', .int .i64 e', .string key', .string v'] 23))).1 (And.intro (Bx.below Y4.out (Bl.alloc (Below.refl _ _) (Obj.cells #[.int .i64 k', .int .i64 e', .string key', .string v'] 23))).1 (Bx.new w4 (.int .i64 k') (.int .i64 e') (.string key') (.string v') 23).1)) (Bl.alloc B4.out (Obj.cells #[.int .i64 k', .int .i64 e', .string key', .string v'] 23)))
  clear Z
  clear X4 Y4 B4
  generalize w4.alloc (Obj.cells #[.int .i64 k', .int .i64 e', .string key', .string v'] 23) = W at *
  generalize w4.heap.size = g3 at *
  generalize w3.heap.size = g2 at *
  have S6 := Lib.hid (show ((W.drew.cell? ⟨w.heap.size, 0, none⟩ = some (.int .i64 k) ∧ W.drew.cell? ⟨w.heap.size, 1, none⟩ = some (.int .i64 e0) ∧ W.drew.cell? ⟨w.heap.size, 2, none⟩ = some (.string key) ∧ W.drew.cell? ⟨w.heap.size, 3, none⟩ = some (.string v)) ∧
      (W.drew.cell? ⟨g2, 0, none⟩ = some (.int .i64 k') ∧ W.drew.cell? ⟨g2, 1, none⟩ = some (.int .i64 e') ∧ W.drew.cell? ⟨g2, 2, none⟩ = some (.string key') ∧ W.drew.cell? ⟨g2, 3, none⟩ = some (.string v')) ∧
      (W.drew.cell? ⟨g3, 0, none⟩ = some (.int .i64 k') ∧ W.drew.cell? ⟨g3, 1, none⟩ = some (.int .i64 e') ∧ W.drew.cell? ⟨g3, 2, none⟩ = some (.string key') ∧ W.drew.cell? ⟨g3, 3, none⟩ = some (.string v'))) ∧ Below w.heap.size w W.drew from ⟨S5.out.1, Bl.drewN S5.out.2 1⟩)
  clear S5
  go_region_held3 (fun w' => ((w'.cell? ⟨w.heap.size, 0, none⟩ = some (.int .i64 k) ∧ w'.cell? ⟨w.heap.size, 1, none⟩ = some (.int .i64 e0) ∧ w'.cell? ⟨w.heap.size, 2, none⟩ = some (.string key) ∧ w'.cell? ⟨w.heap.size, 3, none⟩ = some (.string v)) ∧
      (w'.cell? ⟨g2, 0, none⟩ = some (.int .i64 k') ∧ w'.cell? ⟨g2, 1, none⟩ = some (.int .i64 e') ∧ w'.cell? ⟨g2, 2, none⟩ = some (.string key') ∧ w'.cell? ⟨g2, 3, none⟩ = some (.string v')) ∧
      (w'.cell? ⟨g3, 0, none⟩ = some (.int .i64 k') ∧ w'.cell? ⟨g3, 1, none⟩ = some (.int .i64 e') ∧ w'.cell? ⟨g3, 2, none⟩ = some (.string key') ∧ w'.cell? ⟨g3, 3, none⟩ = some (.string v'))) ∧ Below w.heap.size w w') (first | exact S6.out | assumption | exact hs2)
    (first | (go_at_call 17; with_reducible refine (num_any _ _).mono ?_; rintro e w' ⟨rfl, rfl⟩) | (go_at_call 18; with_reducible refine (M1.out _).mono ?_; rintro e w2 ⟨rfl, hb⟩; have hs2 := keep12 (by assumption) hb) | (go_at_call 19; with_reducible refine (M2.out _).mono ?_; rintro e w2 ⟨rfl, hb⟩; have hs2 := keep12 (by assumption) hb) | (go_at_call 20; with_reducible refine (awake19 _).mono ?_; rintro e w2 ⟨rfl, hb⟩; have hs2 := keep12 (by assumption) hb))
  go_wp2_with fail
  go_ret
  exact ⟨rfl, (keep12 (w0 := w) (by assumption) (Below.refl _ _)).2⟩
end Go.Proofs.Ytgfldfkgialdlaa
