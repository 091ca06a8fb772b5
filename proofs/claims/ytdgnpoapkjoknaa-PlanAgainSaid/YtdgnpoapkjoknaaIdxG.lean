/- index.With: the law; the program's. -/
import Derived.Test.YtdgnpoapkjoknaaIdxF
namespace Go.Proofs.Ytdgnpoapkjoknaa
set_option linter.unusedVariables false
set_option linter.unusedSimpArgs false
open Go.RowKit

def Bx (W : World) (g : Nat) (a b c d : Value) : Prop :=
  (W.cell? ⟨g, 0, none⟩ = some a ∧ W.cell? ⟨g, 1, none⟩ = some b ∧ W.cell? ⟨g, 2, none⟩ = some c ∧ W.cell? ⟨g, 3, none⟩ = some d) ∧
  (W.frozen? ⟨g, 0, none⟩ = false ∧ W.frozen? ⟨g, 1, none⟩ = false ∧ W.frozen? ⟨g, 2, none⟩ = false ∧ W.frozen? ⟨g, 3, none⟩ = false)
theorem Bx.lt {W : World} {g : Nat} {a b c d : Value} (h : Bx W g a b c d) : g < W.heap.size := World.block_lt_of_cell? _ _ h.1.1
theorem Bx.new (w : World) (a b c d : Value) (t : TypeId) : Bx (w.alloc (Obj.cells #[a, b, c, d] t)) w.heap.size a b c d := by
  have h : (w.alloc (Obj.cells #[a, b, c, d] t)).heap = w.heap.push (Obj.cells #[a, b, c, d] t) := rfl
  unfold Bx
  simp only [World.cell?, World.frozen?, h]
  simp
theorem Bx.below {w w' : World} {g : Nat} {a b c d : Value} (h : Bx w g a b c d) (hb : Below w.heap.size w w') : Bx w' g a b c d := by
  have hl := h.lt
  exact ⟨⟨(hb.cell hl).trans h.1.1, (hb.cell hl).trans h.1.2.1, (hb.cell hl).trans h.1.2.2.1, (hb.cell hl).trans h.1.2.2.2⟩,
    ⟨(hb.frozen hl).trans h.2.1, (hb.frozen hl).trans h.2.2.1, (hb.frozen hl).trans h.2.2.2.1, (hb.frozen hl).trans h.2.2.2.2⟩⟩
theorem Bx.grown {w w' : World} {g : Nat} {a b c d : Value} {row : Option Nat} (h : Bx w g a b c d) (hg : w.grownBy w' row) (hne : row ≠ some g) : Bx w' g a b c d := by
  have hl := h.lt
  have hb := hg.block g hl (fun e => hne e.symm)
  have hc : ∀ j, w'.cell? ⟨g, j, none⟩ = w.cell? ⟨g, j, none⟩ := fun j => World.cell?_of_block (w := w) (a := ⟨g, j, none⟩) hb
  have hf : ∀ j, w'.frozen? ⟨g, j, none⟩ = w.frozen? ⟨g, j, none⟩ := fun j => World.frozen?_of_block (w := w) (a := ⟨g, j, none⟩) hb
  exact ⟨⟨(hc _).trans h.1.1, (hc _).trans h.1.2.1, (hc _).trans h.1.2.2.1, (hc _).trans h.1.2.2.2⟩, ⟨(hf _).trans h.2.1, (hf _).trans h.2.2.1, (hf _).trans h.2.2.2.1, (hf _).trans h.2.2.2.2⟩⟩

/-- May a record be indexed? -/
def liveP (r : RecV) : Prop := mayP r ∧ r.k ≠ 0
instance (r : RecV) : Decidable (liveP r) := by unfold liveP; infer_instance
theorem liveP_k {r : RecV} (h : liveP r) : r.k = 1 ∨ r.k = 2 := by
  rcases h.1 with ⟨h0, _⟩ | ⟨h1, _⟩ | ⟨h2, _⟩
  · exact absurd h0 h.2
  · exact .inl h1
  · exact .inr h2
/-- What lives behind one more. -/
def putL (ps : List PairV) (r : RecV) : List PairV :=
  if r.k = 1 then ps.take (posK ps r.key) ++ ⟨r.key, r.val⟩ :: ps.drop (if isK ps r.key = true then posK ps r.key + 1 else posK ps r.key)
  else if isK ps r.key = true then ps.eraseIdx (posK ps r.key) else ps
def withOk (ps : List PairV) (r : RecV) : Prop := SortedP ps ∧ liveP r
instance (ps : List PairV) (r : RecV) : Decidable (withOk ps r) := by unfold withOk; infer_instance
def withL (ps : List PairV) (r : RecV) : List PairV := if withOk ps r then putL ps r else []
def withE (ps : List PairV) (r : RecV) : Int := if withOk ps r then 0 else 2100

set_option maxRecDepth 100000 in
theorem imay_any (r : RecV) (w : World) (hk : r.key.size ≤ 9223372036854775807) (hv : r.val.size ≤ 9223372036854775807) : Calls Try.prog 38 #[r.v] w fun e w' => e = .returned (.bool (decide (liveP r))) ∧ Below w.heap.size w w' := by
  obtain ⟨k, e0, key, v⟩ := r
  have M := Lib.hid (fun w => may_any ⟨k, e0, key, v⟩ w hk hv)
  change Hid (∀ w : World, Calls Try.prog 53 #[.agg #[.int .i64 k, .int .i64 e0, .string key, .string v]] w _) at M
  show Calls Try.prog 38 #[.agg #[.int .i64 k, .int .i64 e0, .string key, .string v]] w _
  obtain ⟨b, hb⟩ : ∃ b, mayB ⟨k, e0, key, v⟩ = b := ⟨_, rfl⟩
  have hl : decide (liveP ⟨k, e0, key, v⟩) = (b && (k != 0)) := by
    rw [← hb, Bool.eq_iff_iff]
    simp only [Bool.and_eq_true, bne_iff_ne, mayB, decide_eq_true_eq]
    exact Iff.rfl
  rw [hl]
  rw [hb] at M
  clear hl hb hk hv
  have X := Lib.hid (Bx.new w (.int .i64 k) (.int .i64 e0) (.string key) (.string v) 25)
  obtain ⟨⟨x0, x1, x2, x3⟩, -⟩ := X.out
  go_enter Try.func38, Try.ntmps38
  go_wp2_with fail
  refine (M.out _).mono ?_
  rintro e w2 ⟨rfl, hb⟩
  have B2 := Lib.hid (Bl.then (Bl.alloc (Below.refl _ _) _) hb)
  have X2 := Lib.hid (Bx.below X.out hb)
  clear hb x0 x1 x2 x3 X
  obtain ⟨⟨x0, x1, x2, x3⟩, -⟩ := X2.out
  cases b
  · go_wp2_with fail
    go_ret
    exact ⟨rfl, B2.out⟩
  · go_wp2_with fail
    go_ret
    exact ⟨by simp, B2.out⟩
end Go.Proofs.Ytdgnpoapkjoknaa
