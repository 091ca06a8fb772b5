/- script: between, short, named; the document's rowMay. -/
import Derived.Test.YtfdbolnifjpbhaaDoorScA
namespace Go.Proofs.YtfdbolnifjpbhaaDoor
set_option linter.unusedVariables false
set_option linter.unusedSimpArgs false
open Go.RowKit

theorem ret_bool {a b : Bool} (h : a = b) : Ending.returned (.bool a) = Ending.returned (.bool b) := by rw [h]
/-- Numbers from a least to a most, few of them. -/
def betB (lo hi : Int) (xs : List Int) : Bool := decide ((∀ x ∈ xs, lo ≤ x ∧ x ≤ hi) ∧ xs.length ≤ 16)
theorem betB_not {lo hi : Int} {xs : List Int} {k : Nat} (hk : k < xs.length) (h : xs.getD k 0 < lo ∨ hi < xs.getD k 0) : betB lo hi xs = false := by
  refine decide_eq_false fun h' => ?_
  have hm : xs.getD k 0 ∈ xs := by
    rw [List.getD_eq_getElem?_getD, List.getElem?_eq_getElem hk, Option.getD_some]
    exact List.getElem_mem hk
  have := h'.1 _ hm
  omega
theorem betB_all {lo hi : Int} {xs : List Int} (h : ∀ j, j < xs.length → lo ≤ xs.getD j 0 ∧ xs.getD j 0 ≤ hi) : betB lo hi xs = decide (xs.length ≤ 16) := by
  unfold betB
  refine decide_eq_decide.2 ⟨fun h' => h'.2, fun h' => ⟨fun x hx => ?_, h'⟩⟩
  obtain ⟨j, hj, rfl⟩ := List.getElem_of_mem hx
  have := h j hj
  rwa [List.getD_eq_getElem?_getD, List.getElem?_eq_getElem hj, Option.getD_some] at this

set_option maxRecDepth 100000 in
set_option maxHeartbeats 4000000 in
theorem between_any (lo hi : Int) (v : Value) (xs : List Int) (w : World) (ha : Rd w v xs) :
    Calls Tryd.prog 29 #[.int .i64 lo, .int .i64 hi, v] w fun e w' => e = .returned (.bool (betB lo hi xs)) ∧ w' = w := by
  by_cases hp : 0 < xs.length
  · obtain ⟨b, o, c, rfl, h1, h2, h3⟩ := ha.pos hp
    clear ha
    have hn : xs.length ≤ 9223372036854775807 := by unfold maxLen at h2; omega
    clear h1 h2
    have NO := Lib.hid (fun (k : Nat) (hk : k < xs.length) (h : xs.getD k 0 < lo ∨ hi < xs.getD k 0) => betB_not hk h)
    have YES := Lib.hid (fun (h : ∀ j, j < xs.length → lo ≤ xs.getD j 0 ∧ xs.getD j 0 ≤ hi) => betB_all h)
    have HC := Lib.hid h3
    clear h3
    generalize hnn : xs.length = n at *
    have HN := Lib.hid hnn
    clear hnn
    go_enter Tryd.func29, Tryd.ntmps29
    go_wp2_with fail
    go_loopw [11] (fun i wr => ∃ k : Nat, k ≤ n ∧ i = .int .i64 k ∧ (∀ j, j < k → lo ≤ xs.getD j 0 ∧ xs.getD j 0 ≤ hi) ∧ wr = w) (fun i _ => (n - intOf i).toNat)
    case atStart => exact ⟨0, by omega, rfl, fun j hj => absurd hj (by omega), rfl⟩
    case round =>
      obtain ⟨k, hk, rfl, hal, rfl⟩ := hrel
      have HA := Lib.hid hal
      clear hal
      by_cases hlt : k < n
      · have g := HC.out k hlt
        obtain ⟨x, hx⟩ : ∃ x, xs.getD k 0 = x := ⟨_, rfl⟩
        rw [hx] at g
        have HX := Lib.hid hx
        clear hx
        have hlt2 : (k : Int) < (n : Int) := by omega
        by_cases h1 : x < lo
        · have hd : decide (x < lo) = true := decide_eq_true h1
          have H1 := Lib.hid h1
          clear h1
          go_wp2
          go_ret
          exact ⟨by rw [NO.out k hlt (.inl (by rw [HX.out]; exact H1.out))]; rfl, rfl⟩
        · have hd : decide (x < lo) = false := decide_eq_false h1
          by_cases h2 : hi < x
          · have hd2 : decide (hi < x) = true := decide_eq_true h2
            have H1 := Lib.hid h2
            clear h1 h2
            go_wp2
            go_ret
            exact ⟨by rw [NO.out k hlt (.inr (by rw [HX.out]; exact H1.out))]; rfl, rfl⟩
          · have hd2 : decide (hi < x) = false := decide_eq_false h2
            have H1 := Lib.hid h1
            have H2 := Lib.hid h2
            clear h1 h2
            go_wp2
            go_roundw
            case rel =>
              refine ⟨k + 1, by omega, by go_num, fun j hj => ?_, by first | exact trivial | rfl⟩
              rcases Nat.lt_or_ge j k with h | h
              · exact HA.out j h
              · obtain rfl : j = k := by omega
                have h1 := H1.out
                have h2 := H2.out
                rw [HX.out]
                omega
            case measure => clear hd hd2; simp [intOf]; omega
      · have hd : decide ((k : Int) < (n : Int)) = false := decide_eq_false (by omega)
        go_wp2
        go_ret
        obtain rfl : k = n := by omega
        refine ⟨?_, rfl⟩
        rw [YES.out HA.out]
        exact ret_bool (decide_eq_decide.2 (by omega))
  · obtain ⟨A, c, rfl⟩ := ha.form
    obtain rfl : xs = [] := List.eq_nil_of_length_eq_zero (by omega)
    clear ha hp
    have hb : betB lo hi [] = true := decide_eq_true ⟨fun x hx => by simp at hx, by decide⟩
    rw [hb]
    clear hb
    go_enter Tryd.func29, Tryd.ntmps29
    go_wp2_with fail
    go_loopw [11] (fun i wr => i = .int .i64 0 ∧ wr = w) (fun _ _ => 0)
    case atStart => exact ⟨rfl, rfl⟩
    case round =>
      obtain ⟨rfl, rfl⟩ := hrel
      go_wp2
      go_ret
      exact ⟨rfl, rfl⟩

set_option maxRecDepth 100000 in
set_option maxHeartbeats 4000000 in
theorem rowmay_any (lo hi : Int) (v : Value) (xs : List Int) (w : World) (ha : Rd w v xs) :
    Calls Tryd.prog 32 #[v, .int .i64 lo, .int .i64 hi] w fun e w' => e = .returned (.bool (betB lo hi xs)) ∧ w' = w := by
  by_cases hp : 0 < xs.length
  · obtain ⟨b, o, c, rfl, h1, h2, h3⟩ := ha.pos hp
    clear ha
    have hn : xs.length ≤ 9223372036854775807 := by unfold maxLen at h2; omega
    clear h1 h2
    have NO := Lib.hid (fun (k : Nat) (hk : k < xs.length) (h : xs.getD k 0 < lo ∨ hi < xs.getD k 0) => betB_not hk h)
    have YES := Lib.hid (fun (h : ∀ j, j < xs.length → lo ≤ xs.getD j 0 ∧ xs.getD j 0 ≤ hi) => betB_all h)
    have HC := Lib.hid h3
    clear h3
    generalize hnn : xs.length = n at *
    have HN := Lib.hid hnn
    clear hnn
    go_enter Tryd.func32, Tryd.ntmps32
    go_wp2_with fail
    go_loopw [7] (fun i wr => ∃ k : Nat, k ≤ n ∧ i = .int .i64 k ∧ (∀ j, j < k → lo ≤ xs.getD j 0 ∧ xs.getD j 0 ≤ hi) ∧ wr = w) (fun i _ => (n - intOf i).toNat)
    case atStart => exact ⟨0, by omega, rfl, fun j hj => absurd hj (by omega), rfl⟩
    case round =>
      obtain ⟨k, hk, rfl, hal, rfl⟩ := hrel
      have HA := Lib.hid hal
      clear hal
      by_cases hlt : k < n
      · have g := HC.out k hlt
        obtain ⟨x, hx⟩ : ∃ x, xs.getD k 0 = x := ⟨_, rfl⟩
        rw [hx] at g
        have HX := Lib.hid hx
        clear hx
        have hlt2 : (k : Int) < (n : Int) := by omega
        by_cases h1 : x < lo
        · have hd : decide (x < lo) = true := decide_eq_true h1
          have H1 := Lib.hid h1
          clear h1
          go_wp2
          go_ret
          exact ⟨by rw [NO.out k hlt (.inl (by rw [HX.out]; exact H1.out))]; rfl, rfl⟩
        · have hd : decide (x < lo) = false := decide_eq_false h1
          by_cases h2 : hi < x
          · have hd2 : decide (hi < x) = true := decide_eq_true h2
            have H1 := Lib.hid h2
            clear h1 h2
            go_wp2
            go_ret
            exact ⟨by rw [NO.out k hlt (.inr (by rw [HX.out]; exact H1.out))]; rfl, rfl⟩
          · have hd2 : decide (hi < x) = false := decide_eq_false h2
            have H1 := Lib.hid h1
            have H2 := Lib.hid h2
            clear h1 h2
            go_wp2
            go_roundw
            case rel =>
              refine ⟨k + 1, by omega, by go_num, fun j hj => ?_, by first | exact trivial | rfl⟩
              rcases Nat.lt_or_ge j k with h | h
              · exact HA.out j h
              · obtain rfl : j = k := by omega
                have h1 := H1.out
                have h2 := H2.out
                rw [HX.out]
                omega
            case measure => clear hd hd2; simp [intOf]; omega
      · have hd : decide ((k : Int) < (n : Int)) = false := decide_eq_false (by omega)
        go_wp2
        go_ret
        obtain rfl : k = n := by omega
        refine ⟨?_, rfl⟩
        rw [YES.out HA.out]
        exact ret_bool (decide_eq_decide.2 (by omega))
  · obtain ⟨A, c, rfl⟩ := ha.form
    obtain rfl : xs = [] := List.eq_nil_of_length_eq_zero (by omega)
    clear ha hp
    have hb : betB lo hi [] = true := decide_eq_true ⟨fun x hx => by simp at hx, by decide⟩
    rw [hb]
    clear hb
    go_enter Tryd.func32, Tryd.ntmps32
    go_wp2_with fail
    go_loopw [7] (fun i wr => i = .int .i64 0 ∧ wr = w) (fun _ _ => 0)
    case atStart => exact ⟨rfl, rfl⟩
    case round =>
      obtain ⟨rfl, rfl⟩ := hrel
      go_wp2
      go_ret
      exact ⟨rfl, rfl⟩

/-- The letters of what a kind names. -/
def namedL (k : Int) : List UInt8 := if k = 0 then [114, 108] else if k = 2 then [107, 118, 114, 108] else if k = 3 then [107, 108] else if k = 4 then [107, 114, 108] else if k = 6 then [98, 108] else if k = 7 then [] else [108]
set_option maxRecDepth 100000 in
set_option maxHeartbeats 4000000 in
theorem named_any (k : Int) (w : World) :
    Calls Tryd.prog 40 #[.int .i64 k] w fun e w' => e = .returned (.string ⟨(namedL k).toArray⟩) ∧ w' = w := by
  have dd : ∀ c : Int, (k == c) = true ∨ (k == c) = false := fun c => by cases (k == c) <;> simp
  rcases dd 0 with h | h0
  · obtain rfl := beq_iff_eq.1 h; clear dd
    go_enter Tryd.func40, Tryd.ntmps40
    go_wp2
    go_ret
    exact ⟨rfl, rfl⟩
  rcases dd 2 with h | h2
  · obtain rfl := beq_iff_eq.1 h; clear dd h0
    go_enter Tryd.func40, Tryd.ntmps40
    go_wp2
    go_ret
    exact ⟨rfl, rfl⟩
  rcases dd 3 with h | h3
  · obtain rfl := beq_iff_eq.1 h; clear dd h0 h2
    go_enter Tryd.func40, Tryd.ntmps40
    go_wp2
    go_ret
    exact ⟨rfl, rfl⟩
  rcases dd 4 with h | h4
  · obtain rfl := beq_iff_eq.1 h; clear dd h0 h2 h3
    go_enter Tryd.func40, Tryd.ntmps40
    go_wp2
    go_ret
    exact ⟨rfl, rfl⟩
  rcases dd 6 with h | h6
  · obtain rfl := beq_iff_eq.1 h; clear dd h0 h2 h3 h4
    go_enter Tryd.func40, Tryd.ntmps40
    go_wp2
    go_ret
    exact ⟨rfl, rfl⟩
  rcases dd 7 with h | h7
  · obtain rfl := beq_iff_eq.1 h; clear dd h0 h2 h3 h4 h6
    go_enter Tryd.func40, Tryd.ntmps40
    go_wp2
    go_ret
    exact ⟨rfl, rfl⟩
  have e : namedL k = [108] := by
    rw [beq_eq_false_iff_ne] at h0 h2 h3 h4 h6 h7
    unfold namedL
    rw [if_neg h0, if_neg h2, if_neg h3, if_neg h4, if_neg h6, if_neg h7]
  rw [e]
  clear dd e
  go_enter Tryd.func40, Tryd.ntmps40
  go_wp2
  go_ret
  exact ⟨rfl, rfl⟩
/-- Are an act's texts short enough? -/
def shortB (a : ActV) : Bool := decide (a.key.size ≤ 12 ∧ a.val.size ≤ 40 ∧ a.mask.size ≤ 16)
set_option maxRecDepth 100000 in
set_option maxHeartbeats 4000000 in
theorem short_any (g : Nat) (m : ActM) (w : World) (h : At9 w g 0 m) (hz : SzA m.a) :
    Calls Tryd.prog 30 #[.pointer (some ⟨g, 0, none⟩)] w fun e w' => e = .returned (.bool (shortB m.a)) ∧ w' = w := by
  obtain ⟨⟨k, key, val, pl, wd, ls, mask, busy, reads⟩, bv, rv⟩ := m
  obtain ⟨z1, z2, z3⟩ := hz
  obtain ⟨g0, g1, g2, g3, g4, g5, g6, g7, g8⟩ := h
  simp only at g0 g1 g2 g3 g4 g5 g6 z1 z2 z3
  obtain ⟨n1, hn1⟩ : ∃ n, key.size = n := ⟨_, rfl⟩
  obtain ⟨n2, hn2⟩ : ∃ n, val.size = n := ⟨_, rfl⟩
  obtain ⟨n3, hn3⟩ : ∃ n, mask.size = n := ⟨_, rfl⟩
  have hsh : shortB ⟨k, key, val, pl, wd, ls, mask, busy, reads⟩ = decide (n1 ≤ 12 ∧ n2 ≤ 40 ∧ n3 ≤ 16) := by rw [← hn1, ← hn2, ← hn3]; rfl
  simp only [hsh]
  rw [hn1] at z1
  rw [hn2] at z2
  rw [hn3] at z3
  clear hsh g0 g3 g4 g5 g7 g8
  by_cases h1 : n1 ≤ 12
  · have d1 : decide ((n1 : Int) ≤ 12) = true := decide_eq_true (by omega)
    by_cases h2 : n2 ≤ 40
    · have d2 : decide ((n2 : Int) ≤ 40) = true := decide_eq_true (by omega)
      go_enter Tryd.func30, Tryd.ntmps30
      go_wp2
      go_ret
      exact ⟨ret_bool (decide_eq_decide.2 (by omega)), rfl⟩
    · have d2 : decide ((n2 : Int) ≤ 40) = false := decide_eq_false (by omega)
      rw [decide_eq_false (p := n1 ≤ 12 ∧ n2 ≤ 40 ∧ n3 ≤ 16) (by omega)]
      go_enter Tryd.func30, Tryd.ntmps30
      go_wp2
      go_ret
      exact ⟨rfl, rfl⟩
  · have d1 : decide ((n1 : Int) ≤ 12) = false := decide_eq_false (by omega)
    rw [decide_eq_false (p := n1 ≤ 12 ∧ n2 ≤ 40 ∧ n3 ≤ 16) (by omega)]
    go_enter Tryd.func30, Tryd.ntmps30
    go_wp2
    go_ret
    exact ⟨rfl, rfl⟩
end Go.Proofs.YtfdbolnifjpbhaaDoor
