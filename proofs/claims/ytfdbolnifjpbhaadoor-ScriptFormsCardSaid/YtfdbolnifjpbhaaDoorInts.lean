/- Slices of ints in memory: read, made anew; SameInts. -/
import Derived.Test.YtfdbolnifjpbhaaDoorProg
import Derived.Test.YtfdbolnifjpbhaaDoorWd
import Derived.Deep.QuietTactic
import Derived.BigQuiet
import Derived.Deep.Draws
namespace Go.Proofs.YtfdbolnifjpbhaaDoor
set_option linter.unusedVariables false
set_option linter.unusedSimpArgs false
open Go.RowKit
theorem infoInt : (Tryd.prog.info? 3).map (fun i => (i.zero, i.size, i.bytes)) = some (some (.int .i64 0), 1, 8) := by kernel_rfl

/-- Whole numbers as values. -/
def nums (xs : List Int) : List Value := xs.map fun x => .int .i64 x
theorem nums_append (xs ys : List Int) : nums (xs ++ ys) = nums xs ++ nums ys := by simp [nums]
theorem nums_length (xs : List Int) : (nums xs).length = xs.length := by simp [nums]
theorem nums_at {xs : List Int} {j : Nat} (h : j < xs.length) : (nums xs)[j]? = some (.int .i64 (xs.getD j 0)) := by
  simp [nums, List.getD_eq_getElem?_getD, h]
theorem nums_one (xs : List Int) : ∀ u ∈ nums xs, u.oneCell' = true := by
  intro u hu
  obtain ⟨_, _, rfl⟩ := List.mem_map.1 hu
  rfl

/-- A slice of ints that is read. -/
def Rd (w : World) (v : Value) (xs : List Int) : Prop :=
  (xs = [] ∧ ∃ A c, v = .slice A 0 c ∧ (A = none → c = 0)) ∨
  ∃ b o c, v = .slice (some ⟨b, o, none⟩) xs.length c ∧ xs.length ≤ c ∧ c ≤ maxLen ∧ ∀ j, j < xs.length → w.cell? ⟨b, o + j, none⟩ = some (.int .i64 (xs.getD j 0))
theorem Rd.form {w : World} {v : Value} {xs : List Int} (h : Rd w v xs) : ∃ A c, v = .slice A xs.length c := by
  rcases h with ⟨rfl, A, c, rfl, _⟩ | ⟨b, o, c, rfl, _⟩
  · exact ⟨A, c, rfl⟩
  · exact ⟨_, _, rfl⟩
theorem Rd.pos {w : World} {v : Value} {xs : List Int} (h : Rd w v xs) (hp : 0 < xs.length) : ∃ b o c, v = .slice (some ⟨b, o, none⟩) xs.length c ∧ xs.length ≤ c ∧ c ≤ maxLen ∧ ∀ j, j < xs.length → w.cell? ⟨b, o + j, none⟩ = some (.int .i64 (xs.getD j 0)) := by
  rcases h with ⟨rfl, _⟩ | h
  · simp at hp
  · exact h
theorem Rd.len {w : World} {v : Value} {xs : List Int} (h : Rd w v xs) : xs.length ≤ maxLen := by
  rcases h with ⟨rfl, _⟩ | ⟨b, o, c, _, h1, h2, _⟩
  · simp
  · omega
theorem Rd.mono {w w' : World} {v : Value} {xs : List Int} (h : Rd w v xs) (hm : ∀ a u, w.cell? a = some u → w'.cell? a = some u) : Rd w' v xs := by
  rcases h with h | ⟨b, o, c, h1, h2, h3, h4⟩
  · exact .inl h
  · exact .inr ⟨b, o, c, h1, h2, h3, fun j hj => hm _ _ (h4 j hj)⟩
theorem Rd.below {w w' : World} {v : Value} {xs : List Int} (h : Rd w v xs) (hb : Below w.heap.size w w') : Rd w' v xs :=
  h.mono fun a u hc => (hb.cell (World.block_lt_of_cell? w a hc)).trans hc
theorem Rd.drewN {w : World} {v : Value} {xs : List Int} (h : Rd w v xs) (n : Nat) : Rd (w.drewN n) v xs := h
theorem Rd.alloc {w : World} {v : Value} {xs : List Int} (h : Rd w v xs) (o : Obj) : Rd (w.alloc o) v xs :=
  h.mono fun a u hc => by rw [World.cell?_alloc_lt _ _ _ (World.block_lt_of_cell? _ _ hc)]; exact hc
theorem Rd.lit (w : World) (xs : List Int) (n g : Nat) (hg : w.heap.size = g) (hn : xs.length = n) (hm : n ≤ maxLen) : Rd (w.alloc (.cells (nums xs).toArray 3)) (.slice (some ⟨g, 0, none⟩) n n) xs := by
  subst hn
  subst hg
  refine .inr ⟨w.heap.size, 0, xs.length, rfl, Nat.le_refl _, hm, fun j hj => ?_⟩
  have h := nums_at hj
  rw [Nat.zero_add, cell_of_row _ w.heap.size j (nums xs).toArray 3 (0, 0) (heap_alloc_new w _)]
  simpa using h
theorem Rd.own {w : World} {base : Nat} {v : Value} {n : Nat} {xs : List Int} (h : w.ownsRow base 3 1 v n (nums xs)) : Rd w v xs := by
  have hl : xs.length = n := by have := h.1; simp [nums] at this; exact this
  rcases h.2 with ⟨rfl, rfl⟩ | ⟨g, cap, cur, rfl, _, _, h1, h2, _⟩
  · exact .inl ⟨List.eq_nil_of_length_eq_zero hl, none, 0, rfl, fun _ => rfl⟩
  · subst hl
    refine .inr ⟨g, 0, cap, rfl, h1, h2, fun j hj => ?_⟩
    have := h.cells (g := g) rfl j _ (nums_at hj)
    rwa [Addr.add_lit] at this
/-- Cells one behind the other. -/
def CellsAt (w : World) (b : Nat) : Nat → List Int → Prop
  | _, [] => True
  | o, x :: xs => w.cell? ⟨b, o, none⟩ = some (.int .i64 x) ∧ CellsAt w b (o + 1) xs
theorem CellsAt.get {w : World} {b : Nat} : ∀ {xs : List Int} {o : Nat}, CellsAt w b o xs → ∀ j, j < xs.length → w.cell? ⟨b, o + j, none⟩ = some (.int .i64 (xs.getD j 0))
  | [], _, _, j, hj => by simp at hj
  | x :: xs, o, h, 0, _ => h.1
  | x :: xs, o, h, j + 1, hj => by
    have := CellsAt.get h.2 j (by simpa using hj)
    rw [show o + (j + 1) = o + 1 + j by omega, this]
    simp
theorem Rd.cells {w : World} {b n c : Nat} {xs : List Int} (h : CellsAt w b 0 xs) (hn : xs.length = n) (h1 : n ≤ c) (h2 : c ≤ maxLen) : Rd w (.slice (some ⟨b, 0, none⟩) n c) xs := by
  subst hn
  exact .inr ⟨b, 0, c, rfl, h1, h2, h.get⟩
theorem Rd.nil (w : World) : Rd w (.slice none 0 0) [] := .inl ⟨rfl, none, 0, rfl, fun _ => rfl⟩
/-- The cells of a slice that is read, for append and copy. -/
theorem Rd.news {w : World} {v : Value} {xs : List Int} (h : Rd w v xs) : ∃ A c, v = .slice A xs.length c ∧ (A = none → xs.length = 0 ∧ c = 0) ∧ ∀ ad, A = some ad → ∀ j u, (nums xs)[j]? = some u → w.cell? (ad.add j) = some u := by
  rcases h with ⟨rfl, A, c, rfl, hA⟩ | ⟨b, o, c, rfl, h1, h2, h3⟩
  · exact ⟨A, c, rfl, fun h => ⟨rfl, hA h⟩, fun ad _ j u hu => by simp [nums] at hu⟩
  · refine ⟨_, c, rfl, fun h => by simp at h, fun ad had j u hu => ?_⟩
    obtain rfl := Option.some.inj had
    rw [Addr.add_lit]
    rcases Nat.lt_or_ge j xs.length with hj | hj
    · rw [nums_at hj] at hu
      rw [h3 j hj, hu]
    · rw [List.getElem?_eq_none (by rw [nums_length]; exact hj)] at hu
      cases hu

/-- A fresh row of ints comes back, and nothing that was there has turned. -/
def Fresh (w w' : World) (v : Value) (xs : List Int) : Prop := w'.ownsRow w.heap.size 3 1 v xs.length (nums xs) ∧ Below w.heap.size w w'

/-- The first k are alike. -/
def Alike (xs ys : List Int) (k : Nat) : Prop := ∀ j, j < k → xs.getD j 0 = ys.getD j 0
theorem Alike.all {xs ys : List Int} (h : Alike xs ys xs.length) (hl : xs.length = ys.length) : (xs == ys) = true := by
  rw [beq_iff_eq]
  apply List.ext_getElem hl
  intro j h1 h2
  have := h j h1
  simpa [List.getD_eq_getElem?_getD, h1, h2] using this
theorem Alike.not {xs ys : List Int} {k : Nat} (h : xs.getD k 0 ≠ ys.getD k 0) : (xs == ys) = false := by
  rw [beq_eq_false_iff_ne]
  rintro rfl
  exact h rfl

theorem same_ints (va vb : Value) (xs ys : List Int) (w : World) (ha : Rd w va xs) (hb : Rd w vb ys) :
    Calls Tryd.prog 28 #[va, vb] w fun e w' => e = .returned (.bool (xs == ys)) ∧ ∃ q, w' = w.drewN q := by
  by_cases hl : xs.length = ys.length
  · by_cases hp : 0 < xs.length
    · obtain ⟨b, o, c, rfl, h1, h2, h3⟩ := ha.pos hp
      obtain ⟨b', o', c', rfl, h1', h2', h3'⟩ := hb.pos (by omega)
      clear ha hb
      have HL := Lib.hid hl
      rw [← hl] at h1' h3' ⊢
      clear hl
      have hn : xs.length ≤ 9223372036854775807 := by unfold maxLen at h2; omega
      clear h1 h2 h1' h2'
      have HC := Lib.hid h3
      have HC' := Lib.hid h3'
      clear h3 h3'
      generalize hnn : xs.length = n at *
      have HN := Lib.hid hnn
      clear hnn
      go_enter Tryd.func28, Tryd.ntmps28
      go_wp2_with fail
      go_loopw [5] (fun i wr => ∃ (k q : Nat), k ≤ n ∧ i = .int .i64 k ∧ Alike xs ys k ∧ wr = w.drewN q) (fun i _ => (n - intOf i).toNat)
      case atStart => exact ⟨0, 0, by omega, rfl, fun j hj => absurd hj (by omega), rfl⟩
      case round =>
        obtain ⟨k, q, hk, rfl, hal, rfl⟩ := hrel
        have HA := Lib.hid hal
        clear hal
        by_cases hlt : k < n
        · have g := HC.out k hlt
          have g' := HC'.out k hlt
          generalize hx : xs.getD k 0 = x at g
          generalize hy : ys.getD k 0 = y at g'
          have HX := Lib.hid hx
          have HY := Lib.hid hy
          clear hx hy
          have hlt2 : (k : Int) < (n : Int) := by omega
          by_cases hxy : x = y
          · have hd : (x != y) = false := by simp [hxy]
            have HXY := Lib.hid hxy
            clear hxy
            go_wp2_with fail
            go_quiet (fail)
            go_wp2
            go_roundw
            case rel =>
              refine ⟨k + 1, _, by omega, by go_num, fun j hj => ?_, by first | rfl | exact World.drewN_drewN ..⟩
              rcases Nat.lt_or_ge j k with h | h
              · exact HA.out j h
              · obtain rfl : j = k := by omega
                rw [HX.out, HY.out, HXY.out]
            case measure => simp [intOf]; omega
          · have hd : (x != y) = true := by simp [hxy]
            have HXY := Lib.hid hxy
            clear hxy
            go_wp2_with fail
            go_quiet (fail)
            go_wp2
            go_ret
            refine ⟨by rw [Alike.not (k := k) (by rw [HX.out, HY.out]; exact HXY.out)]; rfl, _, by first | rfl | exact World.drewN_drewN ..⟩
        · go_wp2
          go_ret
          obtain rfl : k = n := by omega
          refine ⟨?_, _, rfl⟩
          rw [Alike.all (by rw [HN.out]; exact HA.out) (by rw [HN.out]; exact HL.out)]
          rfl
    · obtain ⟨A, c, rfl⟩ := ha.form
      obtain ⟨B, d, rfl⟩ := hb.form
      obtain rfl : xs = [] := List.eq_nil_of_length_eq_zero (by omega)
      obtain rfl : ys = [] := List.eq_nil_of_length_eq_zero (by simp at hl; omega)
      clear ha hb hl hp
      go_enter Tryd.func28, Tryd.ntmps28
      go_wp2_with fail
      go_loopw [5] (fun i wr => i = .int .i64 0 ∧ wr = w) (fun _ _ => 0)
      case atStart => exact ⟨rfl, rfl⟩
      case round =>
        obtain ⟨rfl, rfl⟩ := hrel
        go_wp2
        go_ret
        exact ⟨rfl, 0, rfl⟩
  · obtain ⟨A, c, rfl⟩ := ha.form
    obtain ⟨B, d, rfl⟩ := hb.form
    have hd : ((xs.length : Int) != (ys.length : Int)) = true := by simp; omega
    have hne : (xs == ys) = false := by
      rw [beq_eq_false_iff_ne]
      rintro rfl
      exact hl rfl
    rw [hne]
    clear ha hb hl hne
    go_enter Tryd.func28, Tryd.ntmps28
    go_wp2
    go_ret
    exact ⟨rfl, 0, rfl⟩
end Go.Proofs.YtfdbolnifjpbhaaDoor
