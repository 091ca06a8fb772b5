/- The document's With: the law. -/
import Derived.Test.YtdgnpoapkjoknaaIdxG
namespace Go.Proofs.Ytdgnpoapkjoknaa
set_option linter.unusedVariables false
set_option linter.unusedSimpArgs false
open Go.RowKit

/-- The document's loop. -/
def docS (r : RecV) (x : PairV) (s : List PairV × Bool) : List PairV × Bool :=
  let t := if s.2 = false ∧ ltK x.key r.key = false then (s.1 ++ [⟨r.key, r.val⟩], true) else s
  if x.key = r.key then t else (t.1 ++ [x], t.2)
def docN (ps : List PairV) (r : RecV) : Nat → List PairV × Bool
  | 0 => ([], decide (r.k = 2))
  | a + 1 => docS r (ps.getD a zeroP) (docN ps r a)
def docL (ps : List PairV) (r : RecV) : List PairV :=
  if (docN ps r ps.length).2 = true then (docN ps r ps.length).1 else (docN ps r ps.length).1 ++ [⟨r.key, r.val⟩]
theorem take_snoc {ps : List PairV} {a : Nat} (h : a < ps.length) : ps.take (a + 1) = ps.take a ++ [ps.getD a zeroP] := by
  rw [List.take_add_one, List.getD_eq_getElem?_getD, List.getElem?_eq_getElem h]
  rfl
theorem docS_t1 {r : RecV} {x : PairV} {l : List PairV} (h : x.key ≠ r.key) : docS r x (l, true) = (l ++ [x], true) := by simp [docS, h]
theorem docS_t0 {r : RecV} {x : PairV} {l : List PairV} (h : x.key = r.key) : docS r x (l, true) = (l, true) := by simp [docS, h]
theorem docS_f1 {r : RecV} {x : PairV} {l : List PairV} (h : ltK x.key r.key = true) (hne : x.key ≠ r.key) : docS r x (l, false) = (l ++ [x], false) := by simp [docS, h, hne]
theorem docS_fe {r : RecV} {x : PairV} {l : List PairV} (h : ltK x.key r.key = false) (he : x.key = r.key) : docS r x (l, false) = (l ++ [⟨r.key, r.val⟩], true) := by
  rw [he] at h
  simp [docS, he, h]
theorem docS_fn {r : RecV} {x : PairV} {l : List PairV} (h : ltK x.key r.key = false) (hne : x.key ≠ r.key) : docS r x (l, false) = (l ++ [⟨r.key, r.val⟩] ++ [x], true) := by simp [docS, h, hne]
theorem key_lo {ps : List PairV} {t : ByteArray} {a : Nat} (h : a < posK ps t) : (ps.getD a zeroP).key ≠ t := fun e => by
  have := posK_lo ps t a h
  rw [e, ltK_irr] at this; cases this
theorem key_hi {ps : List PairV} {t : ByteArray} {a : Nat} (hs : SortedP ps) (h : posK ps t < a) (ha : a < ps.length) : (ps.getD a zeroP).key ≠ t := fun e => by
  have h1 := hs.lt h ha
  have h2 := posK_hi ps t (by omega)
  rw [e, h2] at h1
  cases h1
theorem key_at {ps : List PairV} {t : ByteArray} (h : isK ps t = true) : posK ps t < ps.length ∧ (ps.getD (posK ps t) zeroP).key = t := by
  rw [isK, Bool.and_eq_true, decide_eq_true_eq, decide_eq_true_eq] at h
  exact h
theorem key_not {ps : List PairV} {t : ByteArray} (h : ¬ isK ps t = true) (hl : posK ps t < ps.length) : (ps.getD (posK ps t) zeroP).key ≠ t := fun e => h (by
  rw [isK, decide_eq_true hl, Bool.true_and, decide_eq_true e])
theorem docN_two {ps : List PairV} {r : RecV} (hk : r.k = 2) (hs : SortedP ps) : ∀ a, a ≤ ps.length → docN ps r a = (if isK ps r.key = true ∧ posK ps r.key < a then (ps.take a).eraseIdx (posK ps r.key) else ps.take a, true)
  | 0, _ => by
    rw [docN, decide_eq_true hk, if_neg (fun h => by omega)]
    rfl
  | a + 1, h => by
    have ih := docN_two hk hs a (by omega)
    have hle := posK_le ps r.key
    have hlen : (ps.take a).length = a := by rw [List.length_take]; omega
    rw [docN]
    rcases Nat.lt_trichotomy a (posK ps r.key) with hl | hl | hl
    · rw [if_neg (fun h => by omega)] at ih
      rw [ih, docS_t1 (key_lo hl), if_neg (fun h => by omega), take_snoc (by omega)]
    · rw [if_neg (fun h => by omega)] at ih
      by_cases hi : isK ps r.key = true
      · rw [ih, docS_t0 (by rw [hl]; exact (key_at hi).2), if_pos ⟨hi, by omega⟩, ← hl, take_snoc (by omega), List.eraseIdx_append_of_length_le (by omega), hlen, Nat.sub_self]
        simp
      · rw [ih, docS_t1 (by rw [hl]; exact key_not hi (by omega)), if_neg (fun h => hi h.1), take_snoc (by omega)]
    · by_cases hi : isK ps r.key = true
      · rw [if_pos ⟨hi, hl⟩] at ih
        rw [ih, docS_t1 (key_hi hs hl (by omega)), if_pos ⟨hi, by omega⟩, take_snoc (by omega), List.eraseIdx_append_of_lt_length (by omega)]
      · rw [if_neg (fun h => hi h.1)] at ih
        rw [ih, docS_t1 (key_hi hs hl (by omega)), if_neg (fun h => hi h.1), take_snoc (by omega)]
theorem docN_one {ps : List PairV} {r : RecV} (hk : r.k = 1) (hs : SortedP ps) : ∀ a, a ≤ ps.length → docN ps r a = if a ≤ posK ps r.key then (ps.take a, false) else (ps.take (posK ps r.key) ++ ⟨r.key, r.val⟩ :: (ps.take a).drop (if isK ps r.key = true then posK ps r.key + 1 else posK ps r.key), true)
  | 0, _ => by
    rw [docN, decide_eq_false (by omega), if_pos (by omega)]
    rfl
  | a + 1, h => by
    have ih := docN_one hk hs a (by omega)
    have hle := posK_le ps r.key
    have hlen : (ps.take a).length = a := by rw [List.length_take]; omega
    rw [docN]
    rcases Nat.lt_trichotomy a (posK ps r.key) with hl | hl | hl
    · rw [if_pos (by omega)] at ih
      rw [ih, docS_f1 (posK_lo ps r.key a hl) (key_lo hl), if_pos (by omega), take_snoc (by omega)]
    · rw [if_pos (by omega)] at ih
      have h2 : ltK (ps.getD a zeroP).key r.key = false := by rw [hl]; exact posK_hi ps r.key (by omega)
      by_cases hi : isK ps r.key = true
      · rw [ih, docS_fe h2 (by rw [hl]; exact (key_at hi).2), if_neg (show ¬ a + 1 ≤ posK ps r.key by omega), if_pos hi, ← hl, List.drop_eq_nil_of_le (by rw [List.length_take]; omega)]
      · rw [ih, docS_fn h2 (by rw [hl]; exact key_not hi (by omega)), if_neg (show ¬ a + 1 ≤ posK ps r.key by omega), if_neg hi, ← hl, take_snoc (by omega), List.drop_append_of_le_length (by omega), List.drop_eq_nil_of_le (by omega), List.append_assoc]
        rfl
    · rw [if_neg (show ¬ a ≤ posK ps r.key by omega)] at ih
      rw [ih, docS_t1 (key_hi hs hl (by omega)), if_neg (show ¬ a + 1 ≤ posK ps r.key by omega), take_snoc (by omega), List.drop_append_of_le_length (by rw [hlen]; split <;> omega), List.append_assoc]
      rfl
theorem docL_put {ps : List PairV} {r : RecV} (hok : withOk ps r) : docL ps r = putL ps r := by
  obtain ⟨hs, hl⟩ := hok
  have hle := posK_le ps r.key
  rcases liveP_k hl with hk | hk
  · have d := docN_one hk hs ps.length (Nat.le_refl _)
    rw [docL, d, putL, if_pos hk, List.take_length]
    by_cases h : ps.length ≤ posK ps r.key
    · have e : posK ps r.key = ps.length := by omega
      have hi : ¬ isK ps r.key = true := fun hi => by have := (key_at hi).1; omega
      rw [if_pos h, if_neg hi, e]
      simp
    · rw [if_neg h]
      simp
  · have d := docN_two hk hs ps.length (Nat.le_refl _)
    rw [docL, d, putL, if_neg (show ¬ r.k = 1 by omega), List.take_length]
    by_cases hi : isK ps r.key = true
    · simp [hi, (key_at hi).1]
    · simp [hi]
end Go.Proofs.Ytdgnpoapkjoknaa
