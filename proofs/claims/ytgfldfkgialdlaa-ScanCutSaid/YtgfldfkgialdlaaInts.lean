/- Slices of ints in memory: read, made anew; SameInts. -/
import Derived.Test.YtgfldfkgialdlaaProg
import Derived.Test.YtgfldfkgialdlaaWd
import Derived.Deep.QuietTactic
import Derived.BigQuiet
import Derived.Deep.Draws
namespace Go.Proofs.Ytgfldfkgialdlaa
set_option linter.unusedVariables false
set_option linter.unusedSimpArgs false
open Go.RowKit
theorem infoInt : (Try.prog.info? 3).map (fun i => (i.zero, i.size, i.bytes)) = some (some (.int .i64 0), 1, 8) := by kernel_rfl

/-- Whole numbers as values. -/
def nums (xs : List Int) : List Value := xs.map fun x => .int .i64 x
theorem nums_append (xs ys : List Int) : nums (xs ++ ys) = nums xs ++ nums ys := by simp [nums]
theorem nums_length (xs : List Int) : (nums xs).length = xs.length := by simp [nums]
theorem nums_at {xs : List Int} {j : Nat} (h : j < xs.length) : (nums xs)[j]? = some (.int .i64 (xs.getD j 0)) := by
  simp [nums, List.getD_eq_getElem?_getD, h]
theorem nums_one (xs : List Int) : ∀ u ∈ nums xs, u.oneCell' = true := by
  intro u hu
  obtain ⟨_, _, rfl⟩ := List.mem_map.1 hu
  rfl

/-- A slice of ints that is read. -/
def Rd (w : World) (v : Value) (xs : List Int) : Prop :=
  (xs = [] ∧ ∃ A c, v = .slice A 0 c ∧ (A = none → c = 0)) ∨
  ∃ b o c, v = .slice (some ⟨b, o, none⟩) xs.length c ∧ xs.length ≤ c ∧ c ≤ maxLen ∧ ∀ j, j < xs.length → w.cell? ⟨b, o + j, none⟩ = some (.int .i64 (xs.getD j 0))
theorem Rd.form {w : World} {v : Value} {xs : List Int} (h : Rd w v xs) : ∃ A c, v = .slice A xs.length c := by
  rcases h with ⟨rfl, A, c, rfl, _⟩ | ⟨b, o, c, rfl, _⟩
  · exact ⟨A, c, rfl⟩
  · exact ⟨_, _, rfl⟩
theorem Rd.pos {w : World} {v : Value} {xs : List Int} (h : Rd w v xs) (hp : 0 < xs.length) : ∃ b o c, v = .slice (some ⟨b, o, none⟩) xs.length c ∧ xs.length ≤ c ∧ c ≤ maxLen ∧ ∀ j, j < xs.length → w.cell? ⟨b, o + j, none⟩ = some (.int .i64 (xs.getD j 0)) := by
  rcases h with ⟨rfl, _⟩ | h
  · simp at hp
  · exact h
theorem Rd.len {w : World} {v : Value} {xs : List Int} (h : Rd w v xs) : xs.length ≤ maxLen := by
  rcases h with ⟨rfl, _⟩ | ⟨b, o, c, _, h1, h2, _⟩
  · simp
  · omega
theorem Rd.mono {w w' : World} {v : Value} {xs : List Int} (h : Rd w v xs) (hm : ∀ a u, w.cell? a = some u → w'.cell? a = some u) : Rd w' v xs := by
  rcases h with h | ⟨b, o, c, h1, h2, h3, h4⟩
  · exact .inl h
  · exact .inr ⟨b, o, c, h1, h2, h3, fun j hj => hm _ _ (h4 j hj)⟩
theorem Rd.below {w w' : World} {v : Value} {xs : List Int} (h : Rd w v xs) (hb : Below w.heap.size w w') : Rd w' v xs :=
  h.mono fun a u hc => (hb.cell (World.block_lt_of_cell? w a hc)).trans hc
theorem Rd.drewN {w : World} {v : Value} {xs : List Int} (h : Rd w v xs) (n : Nat) : Rd (w.drewN n) v xs := h
theorem Rd.alloc {w : World} {v : Value} {xs : List Int} (h : Rd w v xs) (o : Obj) : Rd (w.alloc o) v xs :=
  h.mono fun a u hc => by rw [World.cell?_alloc_lt _ _ _ (World.block_lt_of_cell? _ _ hc)]; exact hc
theorem Rd.lit (w : World) (xs : List Int) (n g : Nat) (hg : w.heap.size = g) (hn : xs.length = n) (hm : n ≤ maxLen) : Rd (w.alloc (.cells (nums xs).toArray 3)) (.slice (some ⟨g, 0, none⟩) n n) xs := by
  subst hn
  subst hg
  refine .inr ⟨w.heap.size, 0, xs.length, rfl, Nat.le_refl _, hm, fun j hj => ?_⟩
  have h := nums_at hj
  rw [Nat.zero_add, cell_of_row _ w.heap.size j (nums xs).toArray 3 (0, 0) (heap_alloc_new w _)]
  simpa using h
theorem Rd.own {w : World} {base : Nat} {v : Value} {n : Nat} {xs : List Int} (h : w.ownsRow base 3 1 v n (nums xs)) : Rd w v xs := by
  have hl : xs.length = n := by have := h.1; simp [nums] at this; exact this
  rcases h.2 with ⟨rfl, rfl⟩ | ⟨g, cap, cur, rfl, _, _, h1, h2, _⟩
  · exact .inl ⟨List.eq_nil_of_length_eq_zero hl, none, 0, rfl, fun _ => rfl⟩
  · subst hl
    refine .inr ⟨g, 0, cap, rfl, h1, h2, fun j hj => ?_⟩
    have := h.cells (g := g) rfl j _ (nums_at hj)
    rwa [Addr.add_lit] at this
/-- Cells one behind the other. -/
def CellsAt (w : World) (b : Nat) : Nat → List Int → Prop
  | _, [] => True
  | o, x :: xs => w.cell? ⟨b, o, none⟩ = some (.int .i64 x) ∧ CellsAt w b (o + 1) xs
theorem CellsAt.get {w : World} {b : Nat} : ∀ {xs : List Int} {o : Nat}, CellsAt w b o xs → ∀ j, j < xs.length → w.cell? ⟨b, o + j, none⟩ = some (.int .i64 (xs.getD j 0))
  | [], _, _, j, hj => by simp at hj
  | x :: xs, o, h, 0, _ => h.1
  | x :: xs, o, h, j + 1, hj => by
    have := CellsAt.get h.2 j (by simpa using hj)
    rw [show o + (j + 1) = o + 1 + j by omega, this]
    simp
theorem Rd.cells {w : World} {b n c : Nat} {xs : List Int} (h : CellsAt w b 0 xs) (hn : xs.length = n) (h1 : n ≤ c) (h2 : c ≤ maxLen) : Rd w (.slice (some ⟨b, 0, none⟩) n c) xs := by
  subst hn
  exact .inr ⟨b, 0, c, rfl, h1, h2, h.get⟩
theorem Rd.nil (w : World) : Rd w (.slice none 0 0) [] := .inl ⟨rfl, none, 0, rfl, fun _ => rfl⟩
/-- The cells of a slice that is read, for append and copy. -/
theorem Rd.news {w : World} {v : Value} {xs : List Int} (h : Rd w v xs) : ∃ A c, v = .slice A xs.length c ∧ (A = none → xs.length = 0 ∧ c = 0) ∧ ∀ ad, A = some ad → ∀ j u, (nums xs)[j]? = some u → w.cell? (ad.add j) = some u := by
  rcases h with ⟨rfl, A, c, rfl, hA⟩ | ⟨b, o, c, rfl, h1, h2, h3⟩
  · exact ⟨A, c, rfl, fun h => ⟨rfl, hA h⟩, fun ad _ j u hu => by simp [nums] at hu⟩
  · refine ⟨_, c, rfl, fun h => by simp at h, fun ad had j u hu => ?_⟩
    obtain rfl := Option.some.inj had
    rw [Addr.add_lit]
    rcases Nat.lt_or_ge j xs.length with hj | hj
    · rw [nums_at hj] at hu
      rw [h3 j hj, hu]
    · rw [List.getElem?_eq_none (by rw [nums_length]; exact hj)] at hu
      cases hu

/-- A fresh row of ints comes back, and nothing that was there has turned. -/
def Fresh (w w' : World) (v : Value) (xs : List Int) : Prop := w'.ownsRow w.heap.size 3 1 v xs.length (nums xs) ∧ Below w.heap.size w w'

/-- The first k are alike. -/
def Alike (xs ys : List Int) (k : Nat) : Prop := ∀ j, j < k → xs.getD j 0 = ys.getD j 0
theorem Alike.all {xs ys : List Int} (h : Alike xs ys xs.length) (hl : xs.length = ys.length) : (xs == ys) = true := by
  rw [beq_iff_eq]
  apply List.ext_getElem hl
  intro j h1 h2
  have := h j h1
  simpa [List.getD_eq_getElem?_getD, h1, h2] using this
theorem Alike.not {xs ys : List Int} {k : Nat} (h : xs.getD k 0 ≠ ys.getD k 0) : (xs == ys) = false := by
  rw [beq_eq_false_iff_ne]
  rintro rfl
  exact h rfl

end Go.Proofs.Ytgfldfkgialdlaa
