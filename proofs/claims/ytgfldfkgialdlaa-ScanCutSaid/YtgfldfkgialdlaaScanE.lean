/- scan: the plain law of Scan. · scan: Scan. · scan: the loop of Scan, in words. -/
import Derived.Test.YtgfldfkgialdlaaScanC
namespace Go.Proofs.Ytgfldfkgialdlaa
set_option linter.unusedVariables false
set_option linter.unusedSimpArgs false
open Go.RowKit

/-- What Get tells of a text. -/
noncomputable def tellR (u : ByteArray) : RecV := Classical.choose (ansR_ex u)
noncomputable def tellE (u : ByteArray) : Int := Classical.choose (Classical.choose_spec (ansR_ex u))
theorem tell_ans (u : ByteArray) : ansR u (tellR u) (tellE u) := Classical.choose_spec (Classical.choose_spec (ansR_ex u))
theorem tell_of {u : ByteArray} {r : RecV} {e : Int} (h : ansR u r e) : tellR u = r ∧ tellE u = e := by
  have t := tell_ans u
  rcases h with ⟨h1, h2, h3⟩ | ⟨h1, h2, h3⟩
  · have := ansR_of t r h1 h2
    exact ⟨this.1, this.2.trans h3.symm⟩
  · rcases t with ⟨t1, t2, t3⟩ | ⟨t1, t2, t3⟩
    · exact absurd t2 (h1 _ t1)
    · exact ⟨t2.trans h2.symm, t3.trans h3.symm⟩
theorem tell_put {r : RecV} (h : mayP r) : tellR (putR r) = r ∧ tellE (putR r) = 0 := tell_of (ansR_put h)
def slotB (s : ByteArray) (i : Nat) : ByteArray := s.extract (64 * i) (64 * i + 64)
theorem slotB_size {s : ByteArray} (hs : s.size = 512) {i : Nat} (hi : i < 8) : (slotB s i).size = 64 := by
  rw [slotB, ByteArray.size_extract]
  omega
/-- Does a slot hold a record? -/
noncomputable def isR (u : ByteArray) : Bool := decide (tellE u = 0) && decide (tellR u ≠ zeroR ∧ (tellR u).k ≠ 0)
theorem isR_iff (u : ByteArray) : isR u = true ↔ tellE u = 0 ∧ (tellR u).k ≠ 0 := by
  unfold isR
  simp only [Bool.and_eq_true, decide_eq_true_eq]
  constructor
  · rintro ⟨h1, h2, h3⟩
    exact ⟨h1, h3⟩
  · rintro ⟨h1, h3⟩
    exact ⟨h1, fun e => h3 (by rw [e]; rfl), h3⟩
/-- The records of slots 1 to k - 1. -/
noncomputable def recsN (s : ByteArray) : Nat → List RecV
  | 0 => []
  | k + 1 => if isR (slotB s (k + 1)) = true then recsN s k ++ [tellR (slotB s (k + 1))] else recsN s k
noncomputable def freeN (s : ByteArray) : Nat → Nat
  | 0 => 1
  | k + 1 => if blankB (slotB s (k + 1)) = true then freeN s k else k + 2
noncomputable def goodS (s : ByteArray) : Bool := decide (tellE (slotB s 0) = 0 ∧ (tellR (slotB s 0)).k = 0)
noncomputable def epochS (s : ByteArray) : Int := if goodS s = true then (tellR (slotB s 0)).e else 0
noncomputable def recsS (s : ByteArray) : List RecV := if s.size = 512 then recsN s 7 else []
noncomputable def freeS (s : ByteArray) : Int := if s.size = 512 then (freeN s 7 : Int) else 0
noncomputable def scanG (s : ByteArray) : Bool := if s.size = 512 then goodS s else false
noncomputable def scanP (s : ByteArray) : Int := if s.size = 512 then epochS s else 0
def scanE (s : ByteArray) : Int := if s.size = 512 then 0 else 2000
theorem recsN_len (s : ByteArray) : ∀ k, (recsN s k).length ≤ k
  | 0 => Nat.le_refl _
  | k + 1 => by
    have ih := recsN_len s k
    unfold recsN
    split
    · rw [List.length_append]; simp; omega
    · omega
theorem freeN_in (s : ByteArray) : ∀ k, 1 ≤ freeN s k ∧ freeN s k ≤ k + 1
  | 0 => ⟨Nat.le_refl _, Nat.le_refl _⟩
  | k + 1 => by
    have ih := freeN_in s k
    unfold freeN
    split <;> omega
theorem tell_keys (u : ByteArray) : (tellR u).key.size ≤ 20 ∧ (tellR u).val.size ≤ 20 := by
  rcases tell_ans u with ⟨h, _⟩ | ⟨_, h, _⟩
  · have := may_keys h; omega
  · rw [h]; exact ⟨by decide, by decide⟩
end Go.Proofs.Ytgfldfkgialdlaa
namespace Go.Proofs.Ytgfldfkgialdlaa
set_option linter.unusedVariables false
set_option linter.unusedSimpArgs false
open Go.RowKit

theorem infoRec : (Try.prog.info? 23).map (fun i => (i.zero, i.size, i.bytes)) = some (some (.agg #[.int .i64 0, .int .i64 0, .string ⟨#[]⟩, .string ⟨#[]⟩]), 4, 48) := by kernel_rfl
theorem load_view {W : World} {g : Nat} {a b c d : Value} (h0 : W.cell? ⟨g, 0, none⟩ = some a) (h1 : W.cell? ⟨g, 1, none⟩ = some b) (h2 : W.cell? ⟨g, 2, none⟩ = some c) (h3 : W.cell? ⟨g, 3, none⟩ = some d) :
    (loadVar 51 ⟨g, 0, none⟩).run Try.prog W = .ok (.agg #[a, b, c, d]) W := by
  go_simp
theorem results_view2 {fn : Func} {p q : Tmp} {tmps : Array Value} {W : World} {g : Nat} {a b c d : Value} (h : fn.results = #[.cell p 51, .tmp q]) (hp : tmps.getD p undef = .pointer (some ⟨g, 0, none⟩))
    (h0 : W.cell? ⟨g, 0, none⟩ = some a) (h1 : W.cell? ⟨g, 1, none⟩ = some b) (h2 : W.cell? ⟨g, 2, none⟩ = some c) (h3 : W.cell? ⟨g, 3, none⟩ = some d) :
    (results fn tmps).run Try.prog W = .ok (.tuple #[.agg #[a, b, c, d], tmps.getD q undef]) W := by
  rw [results_cell_tmp h, hp]
  simp [asAddr, Result.andThen, load_view h0 h1 h2 h3]

theorem Bx.grown {w w' : World} {g : Nat} {a b c d : Value} {row : Option Nat} (h : Bx w g a b c d) (hg : w.grownBy w' row) (hne : row ≠ some g) : Bx w' g a b c d := by
  have hl := h.lt
  have hb := hg.block g hl (fun e => hne e.symm)
  have hc : ∀ j, w'.cell? ⟨g, j, none⟩ = w.cell? ⟨g, j, none⟩ := fun j => World.cell?_of_block (w := w) (a := ⟨g, j, none⟩) hb
  have hf : ∀ j, w'.frozen? ⟨g, j, none⟩ = w.frozen? ⟨g, j, none⟩ := fun j => World.frozen?_of_block (w := w) (a := ⟨g, j, none⟩) hb
  exact ⟨⟨(hc _).trans h.1.1, (hc _).trans h.1.2.1, (hc _).trans h.1.2.2.1, (hc _).trans h.1.2.2.2⟩, ⟨(hf _).trans h.2.1, (hf _).trans h.2.2.1, (hf _).trans h.2.2.2.1, (hf _).trans h.2.2.2.2⟩⟩
theorem grown_set (w : World) (g j : Nat) (u : Value) : w.grownBy (w.setCell ⟨g, j, none⟩ u) (some g) :=
  ⟨rfl, rfl, rfl, by simp, fun k _ hk => heap_setCell_other w ⟨g, j, none⟩ k u (fun e => hk (by simp [e]))⟩
theorem Bx.far {w : World} {g g' j : Nat} {a b c d : Value} (h : Bx w g a b c d) (hne : g' ≠ g) (u : Value) : Bx (w.setCell ⟨g', j, none⟩ u) g a b c d :=
  h.grown (grown_set w g' j u) (fun e => hne (by simpa using e))
theorem frozen_set (w : World) (g j i : Nat) (u : Value) (h : w.frozen? ⟨g, i, none⟩ = false) : (w.setCell ⟨g, j, none⟩ u).frozen? ⟨g, i, none⟩ = false := by
  go_simp
theorem Bx.set0 {w : World} {g : Nat} {a b c d : Value} (h : Bx w g a b c d) (u : Value) : Bx (w.setCell ⟨g, 0, none⟩ u) g u b c d := by
  obtain ⟨⟨h0, h1, h2, h3⟩, f0, f1, f2, f3⟩ := h
  exact ⟨⟨by go_simp, by go_simp, by go_simp, by go_simp⟩, frozen_set _ _ _ _ _ f0, frozen_set _ _ _ _ _ f1, frozen_set _ _ _ _ _ f2, frozen_set _ _ _ _ _ f3⟩
theorem Bx.set1 {w : World} {g : Nat} {a b c d : Value} (h : Bx w g a b c d) (u : Value) : Bx (w.setCell ⟨g, 1, none⟩ u) g a u c d := by
  obtain ⟨⟨h0, h1, h2, h3⟩, f0, f1, f2, f3⟩ := h
  exact ⟨⟨by go_simp, by go_simp, by go_simp, by go_simp⟩, frozen_set _ _ _ _ _ f0, frozen_set _ _ _ _ _ f1, frozen_set _ _ _ _ _ f2, frozen_set _ _ _ _ _ f3⟩
theorem Bx.set2 {w : World} {g : Nat} {a b c d : Value} (h : Bx w g a b c d) (u : Value) : Bx (w.setCell ⟨g, 2, none⟩ u) g a b u d := by
  obtain ⟨⟨h0, h1, h2, h3⟩, f0, f1, f2, f3⟩ := h
  exact ⟨⟨by go_simp, by go_simp, by go_simp, by go_simp⟩, frozen_set _ _ _ _ _ f0, frozen_set _ _ _ _ _ f1, frozen_set _ _ _ _ _ f2, frozen_set _ _ _ _ _ f3⟩
theorem Bx.set3 {w : World} {g : Nat} {a b c d : Value} (h : Bx w g a b c d) (u : Value) : Bx (w.setCell ⟨g, 3, none⟩ u) g a b c u := by
  obtain ⟨⟨h0, h1, h2, h3⟩, f0, f1, f2, f3⟩ := h
  exact ⟨⟨by go_simp, by go_simp, by go_simp, by go_simp⟩, frozen_set _ _ _ _ _ f0, frozen_set _ _ _ _ _ f1, frozen_set _ _ _ _ _ f2, frozen_set _ _ _ _ _ f3⟩
theorem Own.set {w : World} {B n g j : Nat} {e : TypeId} {v : Value} {xs : List Value} {size : Nat} (h : Own w B e size v n xs) (hg : g < B) (u : Value) : Own (w.setCell ⟨g, j, none⟩ u) B e size v n xs :=
  h.kept (grown_set w g j u) (by
    cases hv : v.ownBlock with
    | none => exact .inl rfl
    | some k =>
      refine .inr fun e => ?_
      have := h.base k hv
      rw [Option.some.injEq] at e
      omega)
theorem Own.not_block {w : World} {B n g : Nat} {e : TypeId} {v : Value} {xs : List Value} {size : Nat} (h : Own w B e size v n xs) (hg : g < B) : v.ownBlock ≠ some g := fun e => by
  have := h.base g e
  omega

/-- What Scan hands back. -/
def ScanPost (w : World) (s : ByteArray) (e : Ending) (w' : World) : Prop :=
  ∃ v, e = .returned (.tuple #[.agg #[.bool (scanG s), .int .i64 (scanP s), v, .int .i64 (freeS s)], .int .i64 (scanE s)]) ∧ Own w' w.heap.size 23 4 v (recsS s).length (flat (recsS s)) ∧ Below w.heap.size w w'
/-- What holds at the head of the loop. -/
def ScanAt (w : World) (s : ByteArray) (B g2 g4 : Nat) (gd : Bool) (ep : Int) (k : Nat) (v : Value) (wr : World) : Prop :=
  Bx wr g2 (.bool false) (.int .i64 0) (.slice none 0 0) (.int .i64 0) ∧ Bx wr g4 (.bool gd) (.int .i64 ep) v (.int .i64 (freeN s k : Int)) ∧ Own wr B 23 4 v (recsN s k).length (flat (recsN s k)) ∧ Below w.heap.size w wr ∧ g2 < B ∧ g4 < B ∧ B ≤ wr.heap.size ∧ w.heap.size ≤ g2 ∧ g2 < g4

theorem scan_no (s : ByteArray) (h : s.size ≠ 512) (hs : s.size ≤ 140737488351232) (w : World) : Calls Try.prog 25 #[.string s] w (ScanPost w s) := by
  have hd : ((s.size : Int) != 512) = true := by rw [bne_iff_ne]; omega
  have H1 := Lib.hid (show scanG s = false ∧ scanP s = 0 ∧ freeS s = 0 ∧ scanE s = 2000 ∧ recsS s = [] from ⟨if_neg h, if_neg h, if_neg h, if_neg h, if_neg h⟩)
  clear h
  go_enter Try.func25, Try.ntmps25
  go_wp2_with fail
  (try simp only [Exit.inBlock, Exit.then])
  refine bodyPost_ret (results_view2 (a := .bool false) (b := .int .i64 0) (c := .slice none 0 0) (d := .int .i64 0) rfl rfl (by go_simp) (by go_simp) (by go_simp) (by go_simp)) rfl ?_
  obtain ⟨h1, h2, h3, h4, h5⟩ := H1.out
  refine ⟨.slice none 0 0, ?_, ?_, ?_⟩
  · rw [h1, h2, h3, h4]
    rfl
  · rw [h5]
    exact Own.nil _ _ _ _
  · first | exact Bl.alloc (Below.refl _ _) _ | exact Bl.set4 (Bl.alloc (Below.refl _ _) _) (Nat.le_refl _) _ _ _ _
end Go.Proofs.Ytgfldfkgialdlaa
namespace Go.Proofs.Ytgfldfkgialdlaa
set_option linter.unusedVariables false
set_option linter.unusedSimpArgs false
open Go.RowKit

/-- What holds at the head of the loop. -/
def SAt (w : World) (B g2 g4 : Nat) (gd : Bool) (ep fr : Int) (rs : List RecV) (v : Value) (wr : World) : Prop :=
  Bx wr g2 (.bool false) (.int .i64 0) (.slice none 0 0) (.int .i64 0) ∧ Bx wr g4 (.bool gd) (.int .i64 ep) v (.int .i64 fr) ∧ Own wr B 23 4 v rs.length (flat rs) ∧ Below w.heap.size w wr ∧ (g2 < B ∧ g4 < B ∧ B ≤ wr.heap.size ∧ w.heap.size ≤ g2 ∧ g2 < g4)
section
variable {w : World} {B g2 g4 : Nat} {gd : Bool} {ep fr : Int} {rs : List RecV} {v : Value} {wr : World}
theorem SAt.below {w' : World} (h : SAt w B g2 g4 gd ep fr rs v wr) (hb : Below wr.heap.size wr w') : SAt w B g2 g4 gd ep fr rs v w' := by
  obtain ⟨h1, h2, h3, h4, h5, h6, h7, h8, h9⟩ := h
  exact ⟨h1.below hb, h2.below hb, h3.below hb, Bl.then h4 hb, h5, h6, Nat.le_trans h7 hb.size, h8, h9⟩
theorem SAt.alloc (h : SAt w B g2 g4 gd ep fr rs v wr) (o : Obj) : SAt w B g2 g4 gd ep fr rs v (wr.alloc o) := h.below (Bl.alloc (Below.refl _ _) o)
theorem SAt.drew (h : SAt w B g2 g4 gd ep fr rs v wr) : SAt w B g2 g4 gd ep fr rs v wr.drew := h.below (Bl.drewN (Below.refl _ _) 1)
theorem SAt.appended {v1 : Value} {w2 : World} {r : RecV} (h : SAt w B g2 g4 gd ep fr rs v wr) (ho : Own w2 B 23 4 v1 (rs.length + 1) (flat rs ++ cellsR r)) (hg : wr.grownBy w2 v.ownBlock) :
    SAt w B g2 g4 gd ep fr (rs ++ [r]) v1 (w2.setCell ⟨g4, 2, none⟩ v1) := by
  obtain ⟨h1, h2, h3, h4, h5, h6, h7, h8, h9⟩ := h
  have n2 := h3.not_block (g := g2) h5
  have n4 := h3.not_block (g := g4) h6
  refine ⟨(h1.grown hg n2).far (by omega) _, (h2.grown hg n4).set2 _, ?_, ?_, h5, h6, ?_, h8, h9⟩
  · rw [flat_snoc, List.length_append, List.length_singleton]
    exact ho.set h6 _
  · exact (Below.grown h4 hg h4.size (fun k hk => by have := h3.base k hk; omega)).setCell (p := ⟨g4, 2, none⟩) (by show _ ≤ g4; omega) _
  · exact Nat.le_trans (Nat.le_trans h7 hg.size) (grown_set w2 g4 2 v1).size
theorem SAt.free (h : SAt w B g2 g4 gd ep fr rs v wr) (f : Int) : SAt w B g2 g4 gd ep f rs v (wr.setCell ⟨g4, 3, none⟩ (.int .i64 f)) := by
  obtain ⟨h1, h2, h3, h4, h5, h6, h7, h8, h9⟩ := h
  exact ⟨h1.far (by omega) _, h2.set3 _, h3.set h6 _, h4.setCell (p := ⟨g4, 3, none⟩) (by show _ ≤ g4; omega) _, h5, h6, Nat.le_trans h7 (grown_set wr g4 3 (.int .i64 f)).size, h8, h9⟩
end
theorem box4 {W : World} {g : Nat} {a b c d : Value} (h : Bx W g a b c d) : ∀ ad, some (⟨g, 0, none⟩ : Addr) = some ad → ∀ j u, [a, b, c, d][j]? = some u → W.cell? (ad.add j) = some u := by
  intro ad had j u hu
  obtain rfl := Option.some.inj had
  rw [Addr.add_lit, Nat.zero_add]
  obtain ⟨⟨h0, h1, h2, h3⟩, _⟩ := h
  match j, hu with
  | 0, hu => simp at hu; subst hu; exact h0
  | 1, hu => simp at hu; subst hu; exact h1
  | 2, hu => simp at hu; subst hu; exact h2
  | 3, hu => simp at hu; subst hu; exact h3
theorem slot_zero (s : ByteArray) (h : s.size = 512) (w : World) : Calls Try.prog 48 #[.string s, .int .i64 0] w fun e w' => e = .returned (.string (slotB s 0)) ∧ w = w' :=
  slot_any s 0 0 64 rfl rfl (by omega) (by omega) w
theorem Own.set4 {w : World} {B n g : Nat} {e : TypeId} {v : Value} {xs : List Value} {size : Nat} (h : Own w B e size v n xs) (hg : g < B) (a b c d : Value) :
    Own ((((w.setCell ⟨g, 0, none⟩ a).setCell ⟨g, 1, none⟩ b).setCell ⟨g, 2, none⟩ c).setCell ⟨g, 3, none⟩ d) B e size v n xs := (((h.set hg a).set hg b).set hg c).set hg d
theorem scan_good {s : ByteArray} {te k e0 : Int} (hs : s.size = 512) (hG : goodS s = decide (te = 0 ∧ k = 0)) (hE : epochS s = if goodS s = true then e0 else 0) (h : te = 0 ∧ k = 0) : scanG s = true ∧ scanP s = e0 := by
  rw [decide_eq_true h] at hG
  rw [scanG, scanP, if_pos hs, if_pos hs, hE, hG]
  exact ⟨rfl, rfl⟩
theorem scan_bad {s : ByteArray} {te k e0 : Int} (hs : s.size = 512) (hG : goodS s = decide (te = 0 ∧ k = 0)) (hE : epochS s = if goodS s = true then e0 else 0) (h : ¬ (te = 0 ∧ k = 0)) : scanG s = false ∧ scanP s = 0 := by
  rw [decide_eq_false h] at hG
  rw [scanG, scanP, if_pos hs, if_pos hs, hE, hG]
  exact ⟨rfl, rfl⟩
theorem scan_end {s : ByteArray} {w wr : World} {B : Nat} {A : Option Addr} {n c : Nat} {gd : Bool} {ep : Int} (hs : s.size = 512) (e1 : scanG s = gd) (e2 : scanP s = ep)
    (ho : Own wr B 23 4 (.slice A n c) (recsN s (8 - 1)).length (flat (recsN s (8 - 1)))) (hb : Below w.heap.size w wr) (hp : w.heap.size < B ∧ w.heap.size + 1 < B ∧ B ≤ wr.heap.size ∧ w.heap.size ≤ w.heap.size ∧ w.heap.size < w.heap.size + 1) (x y z u : Value) :
    ScanPost w s (.returned (.tuple #[.agg #[.bool gd, .int .i64 ep, .slice A n c, .int .i64 (freeN s (8 - 1) : Int)], .int .i64 0])) ((((wr.setCell ⟨w.heap.size, 0, none⟩ x).setCell ⟨w.heap.size, 1, none⟩ y).setCell ⟨w.heap.size, 2, none⟩ z).setCell ⟨w.heap.size, 3, none⟩ u) := by
  refine ⟨.slice A n c, ?_, ?_, Bl.set4 hb (Nat.le_refl _) _ _ _ _⟩
  · rw [e1, e2, show freeS s = (freeN s 7 : Int) from if_pos hs, show scanE s = 0 from if_pos hs]
  · rw [show recsS s = recsN s 7 from if_pos hs]
    exact (ho.set4 hp.1 _ _ _ _).lower (by omega)
theorem recsN_yes {s : ByteArray} {j : Nat} (hj : 1 ≤ j) (h : isR (slotB s j) = true) : recsN s j = recsN s (j - 1) ++ [tellR (slotB s j)] := by
  obtain ⟨k, rfl⟩ : ∃ k, j = k + 1 := ⟨j - 1, by omega⟩
  show (if isR (slotB s (k + 1)) = true then _ else _) = _
  rw [if_pos h]
  rfl
theorem recsN_no {s : ByteArray} {j : Nat} (hj : 1 ≤ j) (h : ¬ isR (slotB s j) = true) : recsN s j = recsN s (j - 1) := by
  obtain ⟨k, rfl⟩ : ∃ k, j = k + 1 := ⟨j - 1, by omega⟩
  show (if isR (slotB s (k + 1)) = true then _ else _) = _
  rw [if_neg h]
  rfl
theorem freeN_yes {s : ByteArray} {j : Nat} (hj : 1 ≤ j) (h : blankB (slotB s j) = true) : freeN s j = freeN s (j - 1) := by
  obtain ⟨k, rfl⟩ : ∃ k, j = k + 1 := ⟨j - 1, by omega⟩
  show (if blankB (slotB s (k + 1)) = true then _ else _) = _
  rw [if_pos h]
  rfl
theorem freeN_no {s : ByteArray} {j : Nat} (hj : 1 ≤ j) (h : blankB (slotB s j) = false) : freeN s j = j + 1 := by
  obtain ⟨k, rfl⟩ : ∃ k, j = k + 1 := ⟨j - 1, by omega⟩
  show (if blankB (slotB s (k + 1)) = true then _ else _) = _
  rw [h]
  rfl
end Go.Proofs.Ytgfldfkgialdlaa
