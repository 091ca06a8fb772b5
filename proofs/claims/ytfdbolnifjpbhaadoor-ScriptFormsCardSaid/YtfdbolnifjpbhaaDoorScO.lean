/- Numbers in a text: what is told, plainly. -/
import Derived.Test.YtfdbolnifjpbhaaDoorScI
namespace Go.Proofs.YtfdbolnifjpbhaaDoor
set_option linter.unusedVariables false
set_option linter.unusedSimpArgs false
open Go.RowKit

/-- Is it a digit? -/
def isDig (c : UInt8) : Bool := decide (48 ≤ c.toNat ∧ c.toNat ≤ 57)
/-- How many digits stand there, so many at most. -/
def cntD : List UInt8 → Nat → Nat
  | _, 0 => 0
  | [], _ + 1 => 0
  | c :: r, k + 1 => if isDig c then cntD r k + 1 else 0
/-- The value of digits. -/
def valD : List UInt8 → Nat → Nat
  | [], x => x
  | c :: r, x => valD r (10 * x + (c.toNat - 48))
theorem cntD_le : ∀ (l : List UInt8) (k : Nat), cntD l k ≤ k ∧ cntD l k ≤ l.length
  | _, 0 => by simp [cntD]
  | [], _ + 1 => by simp [cntD]
  | c :: r, k + 1 => by
    have := cntD_le r k
    rw [cntD]
    split
    · simp only [List.length_cons]; omega
    · simp
theorem valD_app : ∀ (a b : List UInt8) (x : Nat), valD (a ++ b) x = valD b (valD a x)
  | [], _, _ => rfl
  | c :: r, b, x => by rw [List.cons_append, valD, valD, valD_app r b]
theorem isDig_dec (d : Nat) (h : d < 10) : isDig (UInt8.ofNat (48 + d)) = true ∧ (UInt8.ofNat (48 + d)).toNat - 48 = d := by
  have h1 : (UInt8.ofNat (48 + d)).toNat = 48 + d := UInt8.toNat_ofNat_of_lt' (by show _ < 256; omega)
  exact ⟨decide_eq_true (by rw [h1]; omega), by rw [h1]; omega⟩
theorem dec_dig : ∀ (n : Nat), ∀ c ∈ Lib.decDigits n, isDig c = true := by
  intro n
  induction n using Nat.strongRecOn with
  | _ n ih =>
    intro c hc
    rw [Lib.decDigits] at hc
    split at hc
    · simp only [List.mem_singleton] at hc
      subst hc
      exact (isDig_dec n (by omega)).1
    · rcases List.mem_append.1 hc with hc | hc
      · exact ih (n / 10) (by omega) c hc
      · simp only [List.mem_singleton] at hc
        subst hc
        exact (isDig_dec (n % 10) (Nat.mod_lt _ (by decide))).1
theorem dec_val (n : Nat) : valD (Lib.decDigits n) 0 = n := by
  induction n using Nat.strongRecOn with
  | _ n ih =>
    rw [Lib.decDigits]
    split
    · rename_i h
      rw [valD, valD, (isDig_dec n h).2]; omega
    · rw [valD_app, ih (n / 10) (by omega), valD, valD, (isDig_dec (n % 10) (Nat.mod_lt _ (by decide))).2]
      omega
theorem dec_small (n k : Nat) (h : n < 10 ^ k) (hk : 0 < k) : (Lib.decDigits n).length ≤ k := by
  induction k generalizing n with
  | zero => omega
  | succ k ih =>
    rw [Lib.decDigits]
    split
    · simp
    · rename_i h10
      have hk0 : 0 < k := by
        rcases Nat.eq_zero_or_pos k with rfl | h0
        · simp at h; omega
        · exact h0
      have := ih (n / 10) (by rw [Nat.pow_succ] at h; omega) hk0
      rw [List.length_append]
      simp only [List.length_cons, List.length_nil]
      omega
theorem dec_pos (n : Nat) : 0 < (Lib.decDigits n).length := by
  rw [Lib.decDigits]
  split <;> simp
/-- Digits, and then none: just these are counted. -/
theorem cntD_dec : ∀ (l : List UInt8) (c : UInt8) (r : List UInt8) (k : Nat), (∀ x ∈ l, isDig x = true) → isDig c = false → l.length ≤ k → cntD (l ++ c :: r) k = l.length
  | [], c, r, 0, _, _, _ => by simp [cntD]
  | [], c, r, k + 1, _, hc, _ => by simp [cntD, hc]
  | x :: l, c, r, 0, _, _, hl => by simp at hl
  | x :: l, c, r, k + 1, h, hc, hl => by
    rw [List.cons_append, cntD, if_pos (h x (by simp)), cntD_dec l c r k (fun y hy => h y (by simp [hy])) hc (by simpa using hl)]
    rfl

theorem ret_byte {a b : UInt8} (h : a = b) : Ending.returned (.int .u8 (a.toNat : Int)) = Ending.returned (.int .u8 (b.toNat : Int)) := by rw [h]
theorem getD_byte (s : ByteArray) (i : Nat) (h : i < s.size) : s.data.toList.getD i 0 = s[i] := by
  have h' : i < s.data.toList.length := by rw [Array.length_toList]; exact h
  rw [List.getD_eq_getElem?_getD, List.getElem?_eq_getElem h', Option.getD_some, Array.getElem_toList]
  rfl
/-- The byte at a place; 0 behind the end. -/
def nextB (s : ByteArray) (i : Nat) : UInt8 := if i < s.size then s.data.toList.getD i 0 else 0
set_option maxRecDepth 100000 in
set_option maxHeartbeats 4000000 in
theorem next_any (g : Nat) (s : ByteArray) (i : Nat) (w : World) (h0 : w.cell? ⟨g, 0, none⟩ = some (.string s)) (h1 : w.cell? ⟨g, 1, none⟩ = some (.int .i64 (i : Int))) (hs : s.size ≤ 9223372036854775807) :
    Calls Tryd.prog 36 #[.pointer (some ⟨g, 0, none⟩)] w fun e w' => e = .returned (.int .u8 ((nextB s i).toNat : Int)) ∧ ∃ q, w' = w.drewN q := by
  by_cases hi : i < s.size
  · have hd : decide ((s.size : Int) ≤ (i : Int)) = false := decide_eq_false (by omega)
    have hd2 : (s.size ≤ i) = False := eq_false (by omega)
    have hi2 : (i : Int) < (s.size : Int) := by omega
    have hn : nextB s i = s.data.toList.getD i 0 := if_pos hi
    rw [hn]
    clear hn
    go_enter Tryd.func36, Tryd.ntmps36
    go_wp2_with fail
    go_quiet (fail)
    go_wp2_with fail
    go_quiet (fail)
    go_wp2_with fail
    go_ret
    exact ⟨ret_byte (getD_byte s i hi).symm, _, by first | rfl | exact World.drewN_drewN ..⟩
  · have hd : decide ((s.size : Int) ≤ (i : Int)) = true := decide_eq_true (by omega)
    have hd2 : (s.size ≤ i) = True := eq_true (by omega)
    have hn : nextB s i = 0 := if_neg hi
    rw [hn]
    clear hn
    go_enter Tryd.func36, Tryd.ntmps36
    go_wp2_with fail
    go_quiet (fail)
    go_wp2_with fail
    go_ret
    exact ⟨rfl, _, rfl⟩
/-- What is left of a text. -/
def rest (s : ByteArray) (i : Nat) : List UInt8 := s.data.toList.drop i
theorem rest_getD (s : ByteArray) (i k : Nat) (h : k < (rest s i).length) : nextB s (i + k) = (rest s i).getD k 0 := by
  have hl : (rest s i).length = s.size - i := by rw [rest, List.length_drop, Array.length_toList]; rfl
  rw [nextB, if_pos (by omega), rest, List.getD_eq_getElem?_getD, List.getD_eq_getElem?_getD, List.getElem?_drop]
theorem rest_end (s : ByteArray) (i k : Nat) (h : (rest s i).length ≤ k) : nextB s (i + k) = 0 := by
  have hl : (rest s i).length = s.size - i := by rw [rest, List.length_drop, Array.length_toList]; rfl
  rw [nextB, if_neg (by omega)]
/-- So long as fewer have been counted, the next is a digit. -/
theorem cntD_in : ∀ (l : List UInt8) (n k : Nat), k < cntD l n → k < l.length ∧ k < n ∧ isDig (l.getD k 0) = true
  | _, 0, k, h => by simp [cntD] at h
  | [], _ + 1, k, h => by simp [cntD] at h
  | c :: r, n + 1, k, h => by
    rw [cntD] at h
    split at h
    · rename_i hc
      match k with
      | 0 => exact ⟨by simp, by omega, hc⟩
      | k + 1 =>
        obtain ⟨h1, h2, h3⟩ := cntD_in r n k (by omega)
        exact ⟨by simp only [List.length_cons]; omega, by omega, h3⟩
    · omega
/-- Behind all that are counted: so many, or the end, or no digit. -/
theorem cntD_out : ∀ (l : List UInt8) (n : Nat), cntD l n = n ∨ cntD l n = l.length ∨ isDig (l.getD (cntD l n) 0) = false
  | _, 0 => .inl (by simp [cntD])
  | [], _ + 1 => .inr (.inl (by simp [cntD]))
  | c :: r, n + 1 => by
    by_cases hc : isDig c = true
    · have e : cntD (c :: r) (n + 1) = cntD r n + 1 := by rw [cntD, if_pos hc]
      rw [e]
      rcases cntD_out r n with h | h | h
      · exact .inl (by rw [h])
      · exact .inr (.inl (by rw [h]; rfl))
      · exact .inr (.inr h)
    · have e : cntD (c :: r) (n + 1) = 0 := by rw [cntD, if_neg hc]
      rw [e]
      exact .inr (.inr (by simpa using hc))
theorem valD_lt : ∀ (l : List UInt8) (x : Nat), (∀ c ∈ l, isDig c = true) → valD l x < (x + 1) * 10 ^ l.length
  | [], x, _ => by simp [valD]
  | c :: r, x, h => by
    have hc := of_decide_eq_true (h c (by simp))
    have ih := valD_lt r (10 * x + (c.toNat - 48)) (fun d hd => h d (by simp [hd]))
    rw [valD, List.length_cons, Nat.pow_succ]
    refine Nat.lt_of_lt_of_le ih ?_
    have : 10 * x + (c.toNat - 48) + 1 ≤ (x + 1) * 10 := by omega
    calc (10 * x + (c.toNat - 48) + 1) * 10 ^ r.length ≤ ((x + 1) * 10) * 10 ^ r.length := Nat.mul_le_mul_right _ this
      _ = (x + 1) * (10 ^ r.length * 10) := by rw [Nat.mul_assoc, Nat.mul_comm 10]
end Go.Proofs.YtfdbolnifjpbhaaDoor
