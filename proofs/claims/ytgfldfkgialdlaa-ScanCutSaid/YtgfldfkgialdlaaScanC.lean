/- scan: Best. · scan: Best, the program's. -/
import Derived.Test.YtgfldfkgialdlaaScanA
namespace Go.Proofs.Ytgfldfkgialdlaa
set_option linter.unusedVariables false
set_option linter.unusedSimpArgs false
open Go.RowKit

/-- A view, its records as they stand in memory. -/
structure ViewV where
  good : Bool
  e : Int
  ra : Option Addr
  rn : Nat
  rc : Nat
  free : Int
def zeroV : ViewV := ⟨false, 0, none, 0, 0, 0⟩
def cellsV (r : ViewV) : List Value := [.bool r.good, .int .i64 r.e, .slice r.ra r.rn r.rc, .int .i64 r.free]
def flatV (rs : List ViewV) : List Value := rs.flatMap cellsV
theorem flatV_cons (r : ViewV) (rs : List ViewV) : flatV (r :: rs) = cellsV r ++ flatV rs := rfl
theorem flatV_snoc (rs : List ViewV) (r : ViewV) : flatV (rs ++ [r]) = flatV rs ++ cellsV r := by simp [flatV]
theorem flatV_len (rs : List ViewV) : (flatV rs).length = rs.length * 4 := by
  induction rs with
  | nil => rfl
  | cons r rs ih => rw [flatV_cons, List.length_append, ih, List.length_cons]; show 4 + _ = _; omega
theorem flatV_at : ∀ (rs : List ViewV) (j : Nat), j < rs.length → ∀ i, i < 4 → (flatV rs)[j * 4 + i]? = (cellsV (rs.getD j zeroV))[i]?
  | [], j, h, _, _ => by simp at h
  | r :: rs, 0, _, i, hi => by
    rw [flatV_cons, Nat.zero_mul, Nat.zero_add, List.getElem?_append_left (by show i < 4; exact hi)]
    rfl
  | r :: rs, j + 1, h, i, hi => by
    have ih := flatV_at rs j (by simpa using h) i hi
    rw [flatV_cons, List.getElem?_append_right (by show 4 ≤ _; omega)]
    show (flatV rs)[(j + 1) * 4 + i - 4]? = _
    rw [show (j + 1) * 4 + i - 4 = j * 4 + i by omega, ih]
    simp
/-- A slice of views that is read. -/
def RdV (w : World) (v : Value) (rs : List ViewV) : Prop :=
  (rs = [] ∧ ∃ A c, v = .slice A 0 c ∧ (A = none → c = 0)) ∨
  ∃ b o c, v = .slice (some ⟨b, o, none⟩) rs.length c ∧ rs.length ≤ c ∧ c ≤ maxLen ∧ ∀ j u, (flatV rs)[j]? = some u → w.cell? ⟨b, o + j, none⟩ = some u
theorem RdV.form {w : World} {v : Value} {rs : List ViewV} (h : RdV w v rs) : ∃ A c, v = .slice A rs.length c := by
  rcases h with ⟨rfl, A, c, rfl, _⟩ | ⟨b, o, c, rfl, _⟩
  · exact ⟨A, c, rfl⟩
  · exact ⟨_, _, rfl⟩
theorem RdV.pos {w : World} {v : Value} {rs : List ViewV} (h : RdV w v rs) (hp : 0 < rs.length) : ∃ b o c, v = .slice (some ⟨b, o, none⟩) rs.length c ∧ rs.length ≤ c ∧ c ≤ maxLen ∧
    ∀ j, j < rs.length → w.cell? ⟨b, o + j * 4, none⟩ = some (.bool (rs.getD j zeroV).good) ∧ w.cell? ⟨b, o + j * 4 + 1, none⟩ = some (.int .i64 (rs.getD j zeroV).e) ∧ w.cell? ⟨b, o + j * 4 + 2, none⟩ = some (.slice (rs.getD j zeroV).ra (rs.getD j zeroV).rn (rs.getD j zeroV).rc) ∧ w.cell? ⟨b, o + j * 4 + 3, none⟩ = some (.int .i64 (rs.getD j zeroV).free) := by
  rcases h with ⟨rfl, _⟩ | ⟨b, o, c, h1, h2, h3, h4⟩
  · simp at hp
  · refine ⟨b, o, c, h1, h2, h3, fun j hj => ?_⟩
    exact ⟨h4 _ _ (flatV_at rs j hj 0 (by decide)), h4 _ _ (flatV_at rs j hj 1 (by decide)), h4 _ _ (flatV_at rs j hj 2 (by decide)), h4 _ _ (flatV_at rs j hj 3 (by decide))⟩
theorem RdV.mono {w w' : World} {v : Value} {rs : List ViewV} (h : RdV w v rs) (hm : ∀ a u, w.cell? a = some u → w'.cell? a = some u) : RdV w' v rs := by
  rcases h with h | ⟨b, o, c, h1, h2, h3, h4⟩
  · exact .inl h
  · exact .inr ⟨b, o, c, h1, h2, h3, fun j u hu => hm _ _ (h4 j u hu)⟩
theorem RdV.below {w w' : World} {v : Value} {rs : List ViewV} (h : RdV w v rs) (hb : Below w.heap.size w w') : RdV w' v rs :=
  h.mono fun a u hc => (hb.cell (World.block_lt_of_cell? w a hc)).trans hc
theorem RdV.nil (w : World) : RdV w (.slice none 0 0) [] := .inl ⟨rfl, none, 0, rfl, fun _ => rfl⟩
theorem RdV.news {w : World} {v : Value} {rs : List ViewV} (h : RdV w v rs) : ∃ A c, v = .slice A rs.length c ∧ (A = none → rs.length = 0 ∧ c = 0) ∧ ∀ ad, A = some ad → ∀ j u, (flatV rs)[j]? = some u → w.cell? (ad.add j) = some u := by
  rcases h with ⟨rfl, A, c, rfl, hA⟩ | ⟨b, o, c, rfl, h1, h2, h3⟩
  · exact ⟨A, c, rfl, fun h => ⟨rfl, hA h⟩, fun ad _ j u hu => by simp [flatV] at hu⟩
  · refine ⟨_, c, rfl, fun h => by simp at h, fun ad had j u hu => ?_⟩
    obtain rfl := Option.some.inj had
    rw [Addr.add_lit]
    exact h3 j u hu


/-- The best of the first k. -/
def bestN (vs : List ViewV) : Nat → Int
  | 0 => -1
  | k + 1 => if (vs.getD k zeroV).good = true ∧ (bestN vs k < 0 ∨ (vs.getD (bestN vs k).toNat zeroV).e < (vs.getD k zeroV).e) then (k : Int) else bestN vs k
theorem bestN_in (vs : List ViewV) : ∀ k, -1 ≤ bestN vs k ∧ bestN vs k < k
  | 0 => ⟨by unfold bestN; decide, by unfold bestN; decide⟩
  | k + 1 => by
    have ih := bestN_in vs k
    unfold bestN
    split
    · omega
    · omega
def bestV (vs : List ViewV) : Int := if bestN vs vs.length < 0 then 0 else bestN vs vs.length
def bestE (vs : List ViewV) : Int := if bestN vs vs.length < 0 then 2001 else 0

set_option maxRecDepth 100000 in
set_option maxHeartbeats 4000000 in
theorem rbest_any (va : Value) (vs : List ViewV) (w : World) (ha : RdV w va vs) :
    Calls Try.prog 28 #[va] w fun e w' => e = .returned (.tuple #[.int .i64 (bestV vs), .int .i64 (bestE vs)]) ∧ Below w.heap.size w w' := by
  by_cases hp : 0 < vs.length
  · obtain ⟨b, o, c, rfl, h1, h2, h3⟩ := ha.pos hp
    clear ha
    have hn : vs.length ≤ 9223372036854775807 := by unfold maxLen at h2; omega
    clear h1 h2
    have HC := Lib.hid h3
    clear h3
    generalize hnn : vs.length = n at *
    have HN := Lib.hid hnn
    clear hnn
    go_enter Try.func28, Try.ntmps28
    go_wp2_with fail
    go_loopw [4, 5] (fun x i wr => ∃ k : Nat, k ≤ n ∧ i = .int .i64 k ∧ x = .int .i64 (bestN vs k) ∧ Below w.heap.size w wr) (fun _ i _ => (n - intOf i).toNat)
    case atStart => exact ⟨0, by omega, rfl, rfl, Below.refl _ _⟩
    case round =>
      obtain ⟨k, hk, rfl, rfl, hb⟩ := hrel
      have HB := Lib.hid hb
      by_cases hlt : k < n
      · have hlt2 : (k : Int) < (n : Int) := by omega
        have kb := fun (q : Nat) (v : Value) (h : w.cell? ⟨b, q, none⟩ = some v) => (hb.cell (World.block_lt_of_cell? _ _ h)).trans h
        obtain ⟨g0, g1, g2, g3⟩ := HC.out k hlt
        have g0 := kb _ _ g0
        have g1 := kb _ _ g1
        have g2 := kb _ _ g2
        have g3 := kb _ _ g3
        obtain ⟨m, hm⟩ : ∃ m, bestN vs k = m := ⟨_, rfl⟩
        have hin := bestN_in vs k
        have hs : bestN vs (k + 1) = if (vs.getD k zeroV).good = true ∧ (bestN vs k < 0 ∨ (vs.getD (bestN vs k).toNat zeroV).e < (vs.getD k zeroV).e) then (k : Int) else bestN vs k := rfl
        rw [hm] at hin hs ⊢
        obtain ⟨m1, m2⟩ := hin
        generalize hv : vs.getD k zeroV = x at g0 g1 g2 g3 hs
        obtain ⟨good, ep, ra, rn, rc, fr⟩ := x
        simp only at g0 g1 g2 g3 hs
        clear hv hm
        cases good
        · simp only [Bool.false_eq_true, false_and, if_false] at hs
          have HS := Lib.hid hs
          clear hb kb hs m1 m2
          go_wp2_with fail
          go_quiet (fail)
          go_wp2
          go_roundw
          case rel => exact ⟨k + 1, by omega, by go_num, by rw [HS.out], Bl.drewN HB.out _⟩
          case measure => simp [intOf]; omega
        · simp only [true_and] at hs
          by_cases hm0 : m < 0
          · rw [if_pos (.inl hm0)] at hs
            have HS := Lib.hid hs
            have d0 : decide (m < 0) = true := decide_eq_true hm0
            clear hb kb hs m1 m2
            go_wp2_with fail
            go_quiet (fail)
            go_wp2
            go_roundw
            case rel => exact ⟨k + 1, by omega, by go_num, by rw [HS.out], Bl.drewN HB.out _⟩
            case measure => simp [intOf]; omega
          · obtain ⟨j, rfl⟩ := Int.eq_ofNat_of_zero_le (show 0 ≤ m by omega)
            have hj : j < n := by omega
            obtain ⟨_, f1, _, _⟩ := HC.out j hj
            have f1 := kb _ _ f1
            rw [Int.toNat_natCast] at hs
            generalize hu : (vs.getD j zeroV).e = y at f1 hs
            have d0 : decide ((j : Int) < 0) = false := decide_eq_false (by omega)
            have hj2 : (j : Int) < (n : Int) := by omega
            by_cases hgt : y < ep
            · rw [if_pos (.inr hgt)] at hs
              have HS := Lib.hid hs
              have d1 : decide (y < ep) = true := decide_eq_true hgt
              clear hb kb hs m1 m2 hm0
              go_wp2_with fail
              go_quiet (fail)
              go_wp2
              go_roundw
              case rel => exact ⟨k + 1, by omega, by go_num, by rw [HS.out], Bl.drewN HB.out _⟩
              case measure => simp [intOf]; omega
            · rw [if_neg (by omega)] at hs
              have HS := Lib.hid hs
              have d1 : decide (y < ep) = false := decide_eq_false hgt
              clear hb kb hs m1 m2 hm0
              go_wp2_with fail
              go_quiet (fail)
              go_wp2
              go_roundw
              case rel => exact ⟨k + 1, by omega, by go_num, by rw [HS.out], Bl.drewN HB.out _⟩
              case measure => simp [intOf]; omega
      · obtain rfl : k = n := by omega
        obtain ⟨m, hmm⟩ : ∃ m, bestN vs k = m := ⟨_, rfl⟩
        rw [hmm]
        by_cases hm : m < 0
        · have d0 : decide (m < 0) = true := decide_eq_true hm
          have H1 := Lib.hid (show bestV vs = 0 by rw [bestV, HN.out, hmm, if_pos hm])
          have H2 := Lib.hid (show bestE vs = 2001 by rw [bestE, HN.out, hmm, if_pos hm])
          clear hb hmm
          go_wp2
          go_ret2
          exact ⟨by rw [H1.out, H2.out]; rfl, HB.out⟩
        · have d0 : decide (m < 0) = false := decide_eq_false hm
          have H1 := Lib.hid (show bestV vs = m by rw [bestV, HN.out, hmm, if_neg hm])
          have H2 := Lib.hid (show bestE vs = 0 by rw [bestE, HN.out, hmm, if_neg hm])
          clear hb hmm
          go_wp2
          go_ret2
          exact ⟨by rw [H1.out, H2.out]; rfl, HB.out⟩
  · obtain ⟨A, c, rfl⟩ := ha.form
    obtain rfl : vs = [] := List.eq_nil_of_length_eq_zero (by omega)
    rw [show bestV [] = 0 from rfl, show bestE [] = 2001 from rfl]
    clear ha hp
    go_enter Try.func28, Try.ntmps28
    go_wp2_with fail
    go_loopw [4, 5] (fun x i wr => i = .int .i64 0 ∧ x = .int .i64 (-1) ∧ wr = w) (fun _ _ _ => 0)
    case atStart => exact ⟨rfl, rfl, rfl⟩
    case round =>
      obtain ⟨rfl, rfl, rfl⟩ := hrel
      go_wp2
      go_ret2
      exact ⟨rfl, Below.refl _ _⟩
end Go.Proofs.Ytgfldfkgialdlaa
namespace Go.Proofs.Ytgfldfkgialdlaa
set_option linter.unusedVariables false
set_option linter.unusedSimpArgs false
open Go.RowKit
set_option maxRecDepth 100000 in
set_option maxHeartbeats 4000000 in
theorem best_any (va : Value) (vs : List ViewV) (w : World) (ha : RdV w va vs) :
    Calls Try.prog 27 #[va] w fun e w' => e = .returned (.tuple #[.int .i64 (bestV vs), .int .i64 (bestE vs)]) ∧ Below w.heap.size w w' := by
  by_cases hp : 0 < vs.length
  · obtain ⟨b, o, c, rfl, h1, h2, h3⟩ := ha.pos hp
    clear ha
    have hn : vs.length ≤ 9223372036854775807 := by unfold maxLen at h2; omega
    clear h1 h2
    have HC := Lib.hid h3
    clear h3
    generalize hnn : vs.length = n at *
    have HN := Lib.hid hnn
    clear hnn
    go_enter Try.func27, Try.ntmps27
    go_wp2_with fail
    go_loopw [4, 9] (fun x i wr => ∃ k : Nat, k ≤ n ∧ i = .int .i64 k ∧ x = .int .i64 (bestN vs k) ∧ Below w.heap.size w wr) (fun _ i _ => (n - intOf i).toNat)
    case atStart => exact ⟨0, by omega, rfl, rfl, Below.refl _ _⟩
    case round =>
      obtain ⟨k, hk, rfl, rfl, hb⟩ := hrel
      have HB := Lib.hid hb
      by_cases hlt : k < n
      · have hlt2 : (k : Int) < (n : Int) := by omega
        have kb := fun (q : Nat) (v : Value) (h : w.cell? ⟨b, q, none⟩ = some v) => (hb.cell (World.block_lt_of_cell? _ _ h)).trans h
        obtain ⟨g0, g1, g2, g3⟩ := HC.out k hlt
        have g0 := kb _ _ g0
        have g1 := kb _ _ g1
        have g2 := kb _ _ g2
        have g3 := kb _ _ g3
        obtain ⟨m, hm⟩ : ∃ m, bestN vs k = m := ⟨_, rfl⟩
        have hin := bestN_in vs k
        have hs : bestN vs (k + 1) = if (vs.getD k zeroV).good = true ∧ (bestN vs k < 0 ∨ (vs.getD (bestN vs k).toNat zeroV).e < (vs.getD k zeroV).e) then (k : Int) else bestN vs k := rfl
        rw [hm] at hin hs ⊢
        obtain ⟨m1, m2⟩ := hin
        generalize hv : vs.getD k zeroV = x at g0 g1 g2 g3 hs
        obtain ⟨good, ep, ra, rn, rc, fr⟩ := x
        simp only at g0 g1 g2 g3 hs
        clear hv hm
        cases good
        · simp only [Bool.false_eq_true, false_and, if_false] at hs
          have HS := Lib.hid hs
          clear hb kb hs m1 m2
          go_wp2_with fail
          go_quiet (fail)
          go_wp2
          go_roundw
          case rel => exact ⟨k + 1, by omega, by go_num, by rw [HS.out], Bl.drewN (Bl.alloc HB.out _) _⟩
          case measure => simp [intOf]; omega
        · simp only [true_and] at hs
          by_cases hm0 : m < 0
          · rw [if_pos (.inl hm0)] at hs
            have HS := Lib.hid hs
            have d0 : decide (m < 0) = true := decide_eq_true hm0
            clear hb kb hs m1 m2
            go_wp2_with fail
            go_quiet (fail)
            go_wp2
            go_roundw
            case rel => exact ⟨k + 1, by omega, by go_num, by rw [HS.out], Bl.drewN (Bl.alloc HB.out _) _⟩
            case measure => simp [intOf]; omega
          · obtain ⟨j, rfl⟩ := Int.eq_ofNat_of_zero_le (show 0 ≤ m by omega)
            have hj : j < n := by omega
            obtain ⟨_, f1, _, _⟩ := HC.out j hj
            have f1 := kb _ _ f1
            rw [Int.toNat_natCast] at hs
            generalize hu : (vs.getD j zeroV).e = y at f1 hs
            have d0 : decide ((j : Int) < 0) = false := decide_eq_false (by omega)
            have hj2 : (j : Int) < (n : Int) := by omega
            have f1' := up1 f1
            by_cases hgt : y < ep
            · rw [if_pos (.inr hgt)] at hs
              have HS := Lib.hid hs
              have d1 : decide (y < ep) = true := decide_eq_true hgt
              clear hb kb hs m1 m2 hm0
              go_wp2_with fail
              go_quiet (fail)
              go_wp2
              go_roundw
              case rel => exact ⟨k + 1, by omega, by go_num, by rw [HS.out], Bl.drewN (Bl.alloc HB.out _) _⟩
              case measure => simp [intOf]; omega
            · rw [if_neg (by omega)] at hs
              have HS := Lib.hid hs
              have d1 : decide (y < ep) = false := decide_eq_false hgt
              clear hb kb hs m1 m2 hm0
              go_wp2_with fail
              go_quiet (fail)
              go_wp2
              go_roundw
              case rel => exact ⟨k + 1, by omega, by go_num, by rw [HS.out], Bl.drewN (Bl.alloc HB.out _) _⟩
              case measure => simp [intOf]; omega
      · obtain rfl : k = n := by omega
        obtain ⟨m, hmm⟩ : ∃ m, bestN vs k = m := ⟨_, rfl⟩
        rw [hmm]
        by_cases hm : m < 0
        · have d0 : decide (m < 0) = true := decide_eq_true hm
          have H1 := Lib.hid (show bestV vs = 0 by rw [bestV, HN.out, hmm, if_pos hm])
          have H2 := Lib.hid (show bestE vs = 2001 by rw [bestE, HN.out, hmm, if_pos hm])
          clear hb hmm
          go_wp2
          go_ret2
          exact ⟨by rw [H1.out, H2.out]; rfl, HB.out⟩
        · have d0 : decide (m < 0) = false := decide_eq_false hm
          have H1 := Lib.hid (show bestV vs = m by rw [bestV, HN.out, hmm, if_neg hm])
          have H2 := Lib.hid (show bestE vs = 0 by rw [bestE, HN.out, hmm, if_neg hm])
          clear hb hmm
          go_wp2
          go_ret2
          exact ⟨by rw [H1.out, H2.out]; rfl, HB.out⟩
  · obtain ⟨A, c, rfl⟩ := ha.form
    obtain rfl : vs = [] := List.eq_nil_of_length_eq_zero (by omega)
    rw [show bestV [] = 0 from rfl, show bestE [] = 2001 from rfl]
    clear ha hp
    go_enter Try.func27, Try.ntmps27
    go_wp2_with fail
    go_loopw [4, 9] (fun x i wr => i = .int .i64 0 ∧ x = .int .i64 (-1) ∧ wr = w) (fun _ _ _ => 0)
    case atStart => exact ⟨rfl, rfl, rfl⟩
    case round =>
      obtain ⟨rfl, rfl, rfl⟩ := hrel
      go_wp2
      go_ret2
      exact ⟨rfl, Below.refl _ _⟩
end Go.Proofs.Ytgfldfkgialdlaa
