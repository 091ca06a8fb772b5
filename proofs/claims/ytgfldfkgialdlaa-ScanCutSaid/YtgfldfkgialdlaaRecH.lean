/- rec: Get. -/
import Derived.Test.YtgfldfkgialdlaaRecG
namespace Go.Proofs.Ytgfldfkgialdlaa
set_option linter.unusedVariables false
set_option linter.unusedSimpArgs false
open Go.RowKit

/-- A box of four cells. -/
def Bx (W : World) (g : Nat) (a b c d : Value) : Prop :=
  (W.cell? ⟨g, 0, none⟩ = some a ∧ W.cell? ⟨g, 1, none⟩ = some b ∧ W.cell? ⟨g, 2, none⟩ = some c ∧ W.cell? ⟨g, 3, none⟩ = some d) ∧
  (W.frozen? ⟨g, 0, none⟩ = false ∧ W.frozen? ⟨g, 1, none⟩ = false ∧ W.frozen? ⟨g, 2, none⟩ = false ∧ W.frozen? ⟨g, 3, none⟩ = false)
theorem Bx.lt {W : World} {g : Nat} {a b c d : Value} (h : Bx W g a b c d) : g < W.heap.size := World.block_lt_of_cell? _ _ h.1.1
theorem Bx.new (w : World) (a b c d : Value) (t : TypeId) : Bx (w.alloc (Obj.cells #[a, b, c, d] t)) w.heap.size a b c d := by
  have h : (w.alloc (Obj.cells #[a, b, c, d] t)).heap = w.heap.push (Obj.cells #[a, b, c, d] t) := rfl
  unfold Bx
  simp only [World.cell?, World.frozen?, h]
  simp
theorem Bx.below {w w' : World} {g : Nat} {a b c d : Value} (h : Bx w g a b c d) (hb : Below w.heap.size w w') : Bx w' g a b c d := by
  have hl := h.lt
  exact ⟨⟨(hb.cell hl).trans h.1.1, (hb.cell hl).trans h.1.2.1, (hb.cell hl).trans h.1.2.2.1, (hb.cell hl).trans h.1.2.2.2⟩,
    ⟨(hb.frozen hl).trans h.2.1, (hb.frozen hl).trans h.2.2.1, (hb.frozen hl).trans h.2.2.2.1, (hb.frozen hl).trans h.2.2.2.2⟩⟩
theorem results_rec2 {fn : Func} {p q : Tmp} {tmps : Array Value} {W : World} {g : Nat} {a b c d : Value} (h : fn.results = #[.cell p 23, .tmp q]) (hp : tmps.getD p undef = .pointer (some ⟨g, 0, none⟩))
    (h0 : W.cell? ⟨g, 0, none⟩ = some a) (h1 : W.cell? ⟨g, 1, none⟩ = some b) (h2 : W.cell? ⟨g, 2, none⟩ = some c) (h3 : W.cell? ⟨g, 3, none⟩ = some d) :
    (results fn tmps).run Try.prog W = .ok (.tuple #[.agg #[a, b, c, d], tmps.getD q undef]) W := by
  rw [results_cell_tmp h, hp]
  simp [asAddr, Result.andThen, load_rec h0 h1 h2 h3]
theorem takenR_keys (t : ByteArray) (h : t.size = 32) : (takenR t).key.size ≤ 9223372036854775807 ∧ (takenR t).val.size ≤ 9223372036854775807 := by
  unfold takenR
  split
  · exact ⟨by show nilB.size ≤ _; decide, by show nilB.size ≤ _; decide⟩
  · split
    · exact ⟨by show (t.extract _ _).size ≤ _; rw [ByteArray.size_extract]; omega, by show (t.extract _ _).size ≤ _; rw [ByteArray.size_extract]; omega⟩
    · exact ⟨by show (t.extract _ _).size ≤ _; rw [ByteArray.size_extract]; omega, by show nilB.size ≤ _; decide⟩

set_option maxRecDepth 100000 in
set_option maxHeartbeats 4000000 in
theorem getr_none (s x : ByteArray) (hg : getP s = (x, 200)) (w : World) : Calls Try.prog 15 #[.string s] w fun e w' => e = .returned (.tuple #[zeroR.v, .int .i64 1900]) ∧ Below w.heap.size w w' := by
  have HG := Lib.hid hg
  clear hg
  go_enter Try.func15, Try.ntmps15
  go_wp2_with fail
  with_reducible refine (get_any s _).mono ?_
  rw [HG.out]
  rintro e w1 ⟨rfl, hb⟩
  have B1 := Lib.hid (Bl.then (Bl.alloc (Below.refl _ _) _) hb)
  obtain ⟨⟨c0, c1, c2, c3⟩, f0, f1, f2, f3⟩ := Bx.below (Bx.new w (.int .i64 0) (.int .i64 0) (.string ⟨#[]⟩) (.string ⟨#[]⟩) 23) hb
  clear hb
  go_wp2_with fail
  (try simp only [Exit.inBlock, Exit.then])
  refine bodyPost_ret (results_rec2 (a := .int .i64 0) (b := .int .i64 0) (c := .string ⟨#[]⟩) (d := .string ⟨#[]⟩) rfl rfl (by go_simp) (by go_simp) (by go_simp) (by go_simp)) rfl ?_
  exact ⟨rfl, Bl.set4 B1.out (Nat.le_refl _) _ _ _ _⟩

set_option maxRecDepth 100000 in
set_option maxHeartbeats 4000000 in
theorem getr_some (s t : ByteArray) (q : RecV) (out : ByteArray) (f : Int) (ans : RecV) (e1 : Int) (hg : getP s = (t, 0)) (ht : t.size = 32) (hq : takenR t = q) (hu : putR q = out) (hf : putRe q = f)
    (ha : (f = 0 ∧ out = s ∧ ans = q ∧ e1 = 0) ∨ (f = 0 ∧ out ≠ s ∧ ans = zeroR ∧ e1 = 1900) ∨ (f = 1900 ∧ ans = zeroR ∧ e1 = 1900)) (w : World) :
    Calls Try.prog 15 #[.string s] w fun e w' => e = .returned (.tuple #[ans.v, .int .i64 e1]) ∧ Below w.heap.size w w' := by
  have hz := takenR_keys t ht
  have hT := fun w => taken_any t w ht
  rw [hq] at hT hz
  have hP := fun w => putr_any q w hz.1 hz.2
  rw [hu, hf] at hP
  obtain ⟨k, e0, key, v⟩ := q
  change ∀ w : World, Calls Try.prog 39 #[.string t] w fun e w' => e = .returned (.agg #[.int .i64 k, .int .i64 e0, .string key, .string v]) ∧ Below w.heap.size w w' at hT
  change ∀ w : World, Calls Try.prog 13 #[.agg #[.int .i64 k, .int .i64 e0, .string key, .string v]] w fun e w' => e = .returned (.tuple #[.string out, .int .i64 f]) ∧ Below w.heap.size w w' at hP
  have HG := Lib.hid hg
  have HT := Lib.hid hT
  have HP := Lib.hid hP
  clear hg hT hP hq hu hf hz
  rcases ha with ⟨rfl, rfl, rfl, rfl⟩ | ⟨rfl, hne, rfl, rfl⟩ | ⟨rfl, rfl, rfl⟩
  · go_enter Try.func15, Try.ntmps15
    go_wp2_with fail
    with_reducible refine (get_any _ _).mono ?_
    rw [HG.out]
    rintro e w1 ⟨rfl, hb⟩
    have B1 := Lib.hid (Bl.then (Bl.alloc (Below.refl _ _) _) hb)
    have X1 := Lib.hid (Bx.below (Bx.new w (.int .i64 0) (.int .i64 0) (.string ⟨#[]⟩) (.string ⟨#[]⟩) 23) hb)
    clear hb
    go_wp2_with fail
    with_reducible refine (HT.out _).mono ?_
    rintro e w2 ⟨rfl, hb⟩
    have B2 := Lib.hid (Bl.then B1.out hb)
    have X2 := Lib.hid (Bx.below X1.out hb)
    clear hb B1 X1
    go_wp2_with fail
    with_reducible refine (HP.out _).mono ?_
    rintro e w3 ⟨rfl, hb⟩
    have B3 := Lib.hid (Bl.then (Bl.alloc B2.out _) hb)
    obtain ⟨⟨c0, c1, c2, c3⟩, f0, f1, f2, f3⟩ := Bx.below (Bx.below X2.out (Bl.alloc (Below.refl _ _) _)) hb
    obtain ⟨⟨d0, d1, d2, d3⟩, _⟩ := Bx.below (Bx.new w2 (.int .i64 k) (.int .i64 e0) (.string key) (.string v) 23) hb
    clear hb X2 B2
    go_wp2_with fail
    (try simp only [Exit.inBlock, Exit.then])
    refine bodyPost_ret (results_rec2 (a := .int .i64 k) (b := .int .i64 e0) (c := .string key) (d := .string v) rfl rfl (by go_simp) (by go_simp) (by go_simp) (by go_simp)) rfl ?_
    exact ⟨rfl, Bl.set4 B3.out (Nat.le_refl _) _ _ _ _⟩
  · have hn := ne_tl hne
    clear hne
    go_enter Try.func15, Try.ntmps15
    go_wp2_with fail
    with_reducible refine (get_any _ _).mono ?_
    rw [HG.out]
    rintro e w1 ⟨rfl, hb⟩
    have B1 := Lib.hid (Bl.then (Bl.alloc (Below.refl _ _) _) hb)
    have X1 := Lib.hid (Bx.below (Bx.new w (.int .i64 0) (.int .i64 0) (.string ⟨#[]⟩) (.string ⟨#[]⟩) 23) hb)
    clear hb
    go_wp2_with fail
    with_reducible refine (HT.out _).mono ?_
    rintro e w2 ⟨rfl, hb⟩
    have B2 := Lib.hid (Bl.then B1.out hb)
    have X2 := Lib.hid (Bx.below X1.out hb)
    clear hb B1 X1
    go_wp2_with fail
    with_reducible refine (HP.out _).mono ?_
    rintro e w3 ⟨rfl, hb⟩
    have B3 := Lib.hid (Bl.then (Bl.alloc B2.out _) hb)
    obtain ⟨⟨c0, c1, c2, c3⟩, f0, f1, f2, f3⟩ := Bx.below (Bx.below X2.out (Bl.alloc (Below.refl _ _) _)) hb
    clear hb X2 B2
    go_wp2_with fail
    (try simp only [Exit.inBlock, Exit.then])
    refine bodyPost_ret (results_rec2 (a := .int .i64 0) (b := .int .i64 0) (c := .string ⟨#[]⟩) (d := .string ⟨#[]⟩) rfl rfl (by go_simp) (by go_simp) (by go_simp) (by go_simp)) rfl ?_
    exact ⟨rfl, Bl.set4 B3.out (Nat.le_refl _) _ _ _ _⟩
  · go_enter Try.func15, Try.ntmps15
    go_wp2_with fail
    with_reducible refine (get_any _ _).mono ?_
    rw [HG.out]
    rintro e w1 ⟨rfl, hb⟩
    have B1 := Lib.hid (Bl.then (Bl.alloc (Below.refl _ _) _) hb)
    have X1 := Lib.hid (Bx.below (Bx.new w (.int .i64 0) (.int .i64 0) (.string ⟨#[]⟩) (.string ⟨#[]⟩) 23) hb)
    clear hb
    go_wp2_with fail
    with_reducible refine (HT.out _).mono ?_
    rintro e w2 ⟨rfl, hb⟩
    have B2 := Lib.hid (Bl.then B1.out hb)
    have X2 := Lib.hid (Bx.below X1.out hb)
    clear hb B1 X1
    go_wp2_with fail
    with_reducible refine (HP.out _).mono ?_
    rintro e w3 ⟨rfl, hb⟩
    have B3 := Lib.hid (Bl.then (Bl.alloc B2.out _) hb)
    obtain ⟨⟨c0, c1, c2, c3⟩, f0, f1, f2, f3⟩ := Bx.below (Bx.below X2.out (Bl.alloc (Below.refl _ _) _)) hb
    clear hb X2 B2
    go_wp2_with fail
    (try simp only [Exit.inBlock, Exit.then])
    refine bodyPost_ret (results_rec2 (a := .int .i64 0) (b := .int .i64 0) (c := .string ⟨#[]⟩) (d := .string ⟨#[]⟩) rfl rfl (by go_simp) (by go_simp) (by go_simp) (by go_simp)) rfl ?_
    exact ⟨rfl, Bl.set4 B3.out (Nat.le_refl _) _ _ _ _⟩
theorem getP_cases (s : ByteArray) : (∃ t, getP s = (t, 0) ∧ t.size = 32) ∨ ∃ x, getP s = (x, 200) := by
  unfold getP
  split
  · rename_i h
    exact .inl ⟨_, rfl, ext_size s h.1⟩
  · exact .inr ⟨_, rfl⟩
theorem getr_any (s : ByteArray) (r : RecV) (e1 : Int) (hA : ansR s r e1) (w : World) :
    Calls Try.prog 15 #[.string s] w fun e w' => e = .returned (.tuple #[r.v, .int .i64 e1]) ∧ Below w.heap.size w w' := by
  rcases hA with ⟨hm, hs, rfl⟩ | ⟨hn, rfl, rfl⟩
  · have hg := putR_get hm
    rw [hs] at hg
    exact getr_some s (half32 r) r s 0 r 0 hg (half32_size hm) (taken_half hm) hs (if_pos hm) (.inl ⟨rfl, rfl, rfl, rfl⟩) w
  · rcases getP_cases s with ⟨t, hg, ht⟩ | ⟨x, hg⟩
    · by_cases hm : mayP (takenR t)
      · exact getr_some s t _ _ 0 zeroR 1900 hg ht rfl rfl (if_pos hm) (.inr (.inl ⟨rfl, hn _ hm, rfl, rfl⟩)) w
      · exact getr_some s t _ _ 1900 zeroR 1900 hg ht rfl rfl (if_neg hm) (.inr (.inr ⟨rfl, rfl, rfl⟩)) w
    · exact getr_none s x hg w
end Go.Proofs.Ytgfldfkgialdlaa
