/- lane.In and the document's InLanes: the byte of clocks. -/
import Derived.Test.YtgkgfeggpoimjaaLaneC
import Derived.Test.YtgkgfeggpoimjaaInts
namespace Go.Proofs.Ytgkgfeggpoimjaa
set_option linter.unusedVariables false
set_option linter.unusedSimpArgs false
open Go.RowKit

/-- May so many clocks be? -/
def InOk (xs : List Int) (lanes : Int) : Prop := (lanes = 1 ∧ xs.length = 8) ∨ (lanes = 4 ∧ xs.length = 2)
instance (xs : List Int) (lanes : Int) : Decidable (InOk xs lanes) := by unfold InOk; infer_instance
/-- What clocks come to, from a number on. -/
def inFold (p : Int) : List Int → Int → Option Int
  | [], b => some b
  | x :: xs, b => if x < 0 ∨ p ≤ x then none else inFold p xs (bits .or .i64 (wrap64 (b * p)) x)
def inP (xs : List Int) (lanes : Int) : Int × Int :=
  if InOk xs lanes then (match inFold (if lanes = 1 then 2 else 16) xs 0 with | some b => (b, 0) | none => (0, 300)) else (0, 300)


theorem drop_get (xs : List Int) (k : Nat) (h : k < xs.length) : xs.drop k = xs.getD k 0 :: xs.drop (k + 1) := by
  rw [List.drop_eq_getElem_cons h]
  simp [List.getD_eq_getElem?_getD, h]

/-- The fold's relation, behind a name. -/
def InAt (p : Int) (xs : List Int) (k : Nat) (B : Int) : Prop := inFold p (xs.drop k) B = inFold p xs 0
theorem InAt.step {p : Int} {xs : List Int} {k : Nat} {B : Int} (h : InAt p xs k B) (hk : k < xs.length) (h0 : ¬ xs.getD k 0 < 0) (h1 : ¬ p ≤ xs.getD k 0) :
    InAt p xs (k + 1) (bits .or .i64 (wrap64 (B * p)) (xs.getD k 0)) := by
  unfold InAt at *
  rw [← h, drop_get xs k hk, inFold, if_neg (by simp only [not_or]; exact ⟨h0, h1⟩)]
theorem InAt.bad {p : Int} {xs : List Int} {k : Nat} {B : Int} (h : InAt p xs k B) (hk : k < xs.length) (h0 : xs.getD k 0 < 0 ∨ p ≤ xs.getD k 0) : inFold p xs 0 = none := by
  unfold InAt at h
  rw [← h, drop_get xs k hk, inFold, if_pos h0]
theorem InAt.all {p : Int} {xs : List Int} {k : Nat} {B : Int} (h : InAt p xs k B) (hk : k = xs.length) : inFold p xs 0 = some B := by
  unfold InAt at h
  rw [← h, hk, List.drop_length, inFold]
theorem inP_some {xs : List Int} {lanes p b : Int} (hl : InOk xs lanes) (hp : p = if lanes = 1 then 2 else 16) (h : inFold p xs 0 = some b) : inP xs lanes = (b, 0) := by subst hp; simp only [inP, if_pos hl, h]
theorem inP_none {xs : List Int} {lanes p : Int} (hl : InOk xs lanes) (hp : p = if lanes = 1 then 2 else 16) (h : inFold p xs 0 = none) : inP xs lanes = (0, 300) := by subst hp; simp only [inP, if_pos hl, h]
theorem inP_bad {xs : List Int} {lanes : Int} (hl : ¬ InOk xs lanes) : inP xs lanes = (0, 300) := by simp only [inP, if_neg hl]

theorem in_one (v : Value) (xs : List Int) (w : World) (hr : Rd w v xs) (hl : xs.length = 8) :
    Calls Try.prog 15 #[v, .int .i64 1] w fun e w' => e = .returned (.tuple #[.int .i64 (inP xs 1).1, .int .i64 (inP xs 1).2]) ∧ w = w' := by
  rcases hr with ⟨rfl, _⟩ | ⟨b, o, c, rfl, hlc, hc, hcell⟩
  · simp at hl
  have HV := Lib.hid (show InOk xs 1 by unfold InOk; omega)
  rw [hl]
  have HL := Lib.hid hl
  rw [hl] at hcell hlc
  clear hl
  have HC := Lib.hid hcell
  clear hcell
  unfold maxLen at hc
  go_enter Try.func15, Try.ntmps15
  go_wp2_with (first | (go_at_call 28; refine (lanes_any _ _).mono ?_; rintro e w' ⟨rfl, rfl⟩) | (go_at_call 30; refine (many_one _).mono ?_; rintro e w' ⟨rfl, rfl⟩))
  go_loop [6, 21] (fun acc i => ∃ (k : Nat) (B : Int), k ≤ 8 ∧ i = .int .i64 k ∧ acc = .int .i64 B ∧ InAt 2 xs k B) (fun _ i => (8 - intOf i).toNat)
  case atStart => exact ⟨0, 0, by omega, rfl, rfl, rfl⟩
  case round =>
    obtain ⟨k, B, hk, rfl, rfl, hin⟩ := hrel
    have HI := Lib.hid hin
    clear hin
    by_cases hlt : k < 8
    · have hw2 : IntKind.i64.wrap 2 = 2 := by decide
      have g := HC.out k hlt
      have HX := Lib.hid (show k < xs.length by rw [HL.out]; exact hlt)
      generalize hx : xs.getD k 0 = x at g
      have HX2 := Lib.hid hx
      clear hx
      by_cases h0 : x < 0
      · go_wp2
        go_ret2
        rw [inP_none HV.out rfl (HI.out.bad HX.out (.inl (by rw [HX2.out]; exact h0)))]
        exact ⟨rfl, rfl⟩
      · by_cases h1 : 2 ≤ x
        · go_wp2
          go_ret2
          rw [inP_none HV.out rfl (HI.out.bad HX.out (.inr (by rw [HX2.out]; exact h1)))]
          exact ⟨rfl, rfl⟩
        · go_wp2
          go_round
          case rel => exact ⟨k + 1, _, by omega, by go_num, rfl, by have h := HI.out.step HX.out (by rw [HX2.out]; exact h0) (by rw [HX2.out]; exact h1); rw [HX2.out] at h; exact h⟩
          case measure => simp [intOf]; omega
    · go_wp2
      go_ret2
      rw [inP_some HV.out rfl (HI.out.all (by rw [HL.out]; omega))]
      exact ⟨rfl, rfl⟩

theorem in_four (v : Value) (xs : List Int) (w : World) (hr : Rd w v xs) (hl : xs.length = 2) :
    Calls Try.prog 15 #[v, .int .i64 4] w fun e w' => e = .returned (.tuple #[.int .i64 (inP xs 4).1, .int .i64 (inP xs 4).2]) ∧ w = w' := by
  rcases hr with ⟨rfl, _⟩ | ⟨b, o, c, rfl, hlc, hc, hcell⟩
  · simp at hl
  have HV := Lib.hid (show InOk xs 4 by unfold InOk; omega)
  rw [hl]
  have HL := Lib.hid hl
  rw [hl] at hcell hlc
  clear hl
  have HC := Lib.hid hcell
  clear hcell
  unfold maxLen at hc
  go_enter Try.func15, Try.ntmps15
  go_wp2_with (first | (go_at_call 28; refine (lanes_any _ _).mono ?_; rintro e w' ⟨rfl, rfl⟩) | (go_at_call 30; refine (many_four _).mono ?_; rintro e w' ⟨rfl, rfl⟩))
  go_loop [6, 21] (fun acc i => ∃ (k : Nat) (B : Int), k ≤ 2 ∧ i = .int .i64 k ∧ acc = .int .i64 B ∧ InAt 16 xs k B) (fun _ i => (2 - intOf i).toNat)
  case atStart => exact ⟨0, 0, by omega, rfl, rfl, rfl⟩
  case round =>
    obtain ⟨k, B, hk, rfl, rfl, hin⟩ := hrel
    have HI := Lib.hid hin
    clear hin
    by_cases hlt : k < 2
    · have hw2 : IntKind.i64.wrap 16 = 16 := by decide
      have g := HC.out k hlt
      have HX := Lib.hid (show k < xs.length by rw [HL.out]; exact hlt)
      generalize hx : xs.getD k 0 = x at g
      have HX2 := Lib.hid hx
      clear hx
      by_cases h0 : x < 0
      · go_wp2
        go_ret2
        rw [inP_none HV.out rfl (HI.out.bad HX.out (.inl (by rw [HX2.out]; exact h0)))]
        exact ⟨rfl, rfl⟩
      · by_cases h1 : 16 ≤ x
        · go_wp2
          go_ret2
          rw [inP_none HV.out rfl (HI.out.bad HX.out (.inr (by rw [HX2.out]; exact h1)))]
          exact ⟨rfl, rfl⟩
        · go_wp2
          go_round
          case rel => exact ⟨k + 1, _, by omega, by go_num, rfl, by have h := HI.out.step HX.out (by rw [HX2.out]; exact h0) (by rw [HX2.out]; exact h1); rw [HX2.out] at h; exact h⟩
          case measure => simp [intOf]; omega
    · go_wp2
      go_ret2
      rw [inP_some HV.out rfl (HI.out.all (by rw [HL.out]; omega))]
      exact ⟨rfl, rfl⟩

theorem in_bad (v : Value) (xs : List Int) (n : Int) (w : World) (hr : Rd w v xs) (hl : ¬ InOk xs n) :
    Calls Try.prog 15 #[v, .int .i64 n] w fun e w' => e = .returned (.tuple #[.int .i64 0, .int .i64 300]) ∧ w = w' := by
  obtain ⟨A, c, rfl⟩ := hr.form
  clear hr
  unfold InOk at hl
  by_cases h1 : n = 1
  · subst h1
    have g : ((xs.length : Int) != 8) = true := by simp; omega
    clear hl
    go_enter Try.func15, Try.ntmps15
    go_wp2_with (first | (go_at_call 28; refine (lanes_any _ _).mono ?_; rintro e w' ⟨rfl, rfl⟩) | (go_at_call 30; refine (many_one _).mono ?_; rintro e w' ⟨rfl, rfl⟩))
    go_ret2
    exact ⟨rfl, rfl⟩
  by_cases h4 : n = 4
  · subst h4
    have g : ((xs.length : Int) != 2) = true := by simp; omega
    clear hl
    go_enter Try.func15, Try.ntmps15
    go_wp2_with (first | (go_at_call 28; refine (lanes_any _ _).mono ?_; rintro e w' ⟨rfl, rfl⟩) | (go_at_call 30; refine (many_four _).mono ?_; rintro e w' ⟨rfl, rfl⟩))
    go_ret2
    exact ⟨rfl, rfl⟩
  have g : (n == 1 || n == 4) = false := by simp [h1, h4]
  clear hl h1 h4
  go_enter Try.func15, Try.ntmps15
  go_wp2_with (first | (go_at_call 28; refine (lanes_any _ _).mono ?_; rintro e w' ⟨rfl, rfl⟩))
  go_ret2
  exact ⟨rfl, rfl⟩

/-- lane.In, whatever comes in. -/
theorem in_any (v : Value) (xs : List Int) (n : Int) (w : World) (hr : Rd w v xs) :
    Calls Try.prog 15 #[v, .int .i64 n] w fun e w' => e = .returned (.tuple #[.int .i64 (inP xs n).1, .int .i64 (inP xs n).2]) ∧ w = w' := by
  by_cases h : InOk xs n
  · rcases h with ⟨rfl, h⟩ | ⟨rfl, h⟩
    · exact in_one v xs w hr h
    · exact in_four v xs w hr h
  · rw [inP_bad h]
    exact in_bad v xs n w hr h
end Go.Proofs.Ytgkgfeggpoimjaa
