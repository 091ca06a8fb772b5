/- Records: the plain law. -/
import Derived.Test.YtgfldfkgialdlaaPairK
import Derived.Test.YtgfldfkgialdlaaSfB
namespace Go.Proofs.Ytgfldfkgialdlaa
set_option linter.unusedVariables false
set_option linter.unusedSimpArgs false
open Go.RowKit

/-- A record. -/
structure RecV where
  k : Int
  e : Int
  key : ByteArray
  val : ByteArray
deriving DecidableEq
def RecV.v (r : RecV) : Value := .agg #[.int .i64 r.k, .int .i64 r.e, .string r.key, .string r.val]
def nilB : ByteArray := ⟨#[]⟩
def zeroR : RecV := ⟨0, 0, nilB, nilB⟩
def keyP (s : ByteArray) : Prop := 1 ≤ s.size ∧ s.size ≤ 6
instance (s : ByteArray) : Decidable (keyP s) := by unfold keyP; infer_instance
/-- May a record be? -/
def mayP (r : RecV) : Prop :=
  (r.k = 0 ∧ 1 ≤ r.e ∧ r.e ≤ 1048576 ∧ r.key = nilB ∧ r.val = nilB) ∨ (r.k = 1 ∧ r.e = 0 ∧ keyP r.key ∧ r.val.size ≤ 20) ∨ (r.k = 2 ∧ r.e = 0 ∧ keyP r.key ∧ r.val = nilB)
instance (r : RecV) : Decidable (mayP r) := by unfold mayP; infer_instance
def mayB (r : RecV) : Bool := decide (mayP r)
def padL (l : List UInt8) (n : Nat) : List UInt8 := l ++ List.replicate (n - l.length) 0
theorem padL_len (l : List UInt8) (n : Nat) (h : l.length ≤ n) : (padL l n).length = n := by
  unfold padL
  rw [List.length_append, List.length_replicate]
  omega
def headR (r : RecV) : List UInt8 := [UInt8.ofNat r.key.size, UInt8.ofNat r.val.size, 0] ++ r.key.data.toList
def halfL (r : RecV) : List UInt8 :=
  if r.k = 0 then 72 :: lowL r.e else if r.k = 1 then padL (82 :: headR r) 10 ++ r.val.data.toList else 84 :: headR r
theorem headR_len (r : RecV) : (headR r).length = 3 + r.key.size := by
  unfold headR
  rw [List.length_append, data_len]
  rfl
theorem halfL_len {r : RecV} (h : mayP r) : (halfL r).length ≤ 30 := by
  unfold halfL
  rcases h with ⟨h0, _⟩ | ⟨h0, _, ⟨h1, h2⟩, h3⟩ | ⟨h0, _, ⟨h1, h2⟩, h3⟩
  · rw [if_pos h0]
    simp [lowL]
  · rw [if_neg (by omega), if_pos h0, List.length_append, padL_len _ _ (by rw [List.length_cons, headR_len]; omega), data_len]
    omega
  · rw [if_neg (by omega), if_neg (by omega), List.length_cons, headR_len]
    omega
def half32 (r : RecV) : ByteArray := str (padL (halfL r) 32)
theorem half32_size {r : RecV} (h : mayP r) : (half32 r).size = 32 := by
  unfold half32
  rw [str_size, padL_len _ _ (by have := halfL_len h; omega)]
def putR (r : RecV) : ByteArray := if mayP r then (putP (half32 r)).1 else str []
def putRe (r : RecV) : Int := if mayP r then 0 else 1900
theorem putR_size {r : RecV} (h : mayP r) : (putR r).size = 64 := by rw [putR, if_pos h]; exact put_size (half32_size h)
theorem putR_get {r : RecV} (h : mayP r) : getP (putR r) = (half32 r, 0) := by
  rw [putR, if_pos h]
  have z := half32_size h
  have g : ∀ j, j < 32 → gB (putP (half32 r)).1 j = gB (half32 r) j := fun j hj => put_lo z j hj
  rw [get_ok (put_size z) fun j hj => by rw [put_hi z j hj, g j hj], slot_x (put_size z) z g]

theorem ext_list (t : ByteArray) (a b : Nat) : t.extract a b = str ((t.data.toList.drop a).take (b - a)) := by
  refine ext_str ?_
  rw [str_data, ByteArray.data_extract, Array.toList_extract]

theorem numL_low (x : Int) (h0 : 0 ≤ x) (h1 : x < 4294967296) (l : List UInt8) : numL (lowL x ++ l) = x := by
  have e0 : (lowB x 0).toNat = (x % 256).toNat := by have := lowB_mod x 0 h0; simp at this; omega
  have e1 : (lowB x 1).toNat = (x / 256 % 256).toNat := by have := lowB_mod x 1 h0; simp at this; omega
  have e2 : (lowB x 2).toNat = (x / 65536 % 256).toNat := by have := lowB_mod x 2 h0; simp at this; omega
  have e3 : (lowB x 3).toNat = (x / 16777216 % 256).toNat := by have := lowB_mod x 3 h0; simp at this; omega
  show numB (lowB x 0).toNat (lowB x 1).toNat (lowB x 2).toNat (lowB x 3).toNat = x
  rw [e0, e1, e2, e3]
  unfold numB
  omega

def gH (t : ByteArray) (j : Nat) : UInt8 := t.data.toList.getD j 0
/-- What a first half may be, as the program takes it. -/
def takenR (t : ByteArray) : RecV :=
  if gH t 0 = 72 then ⟨0, numL (t.data.toList.drop 1), nilB, nilB⟩
  else if gH t 0 = 82 then ⟨1, 0, t.extract 4 (4 + min (gH t 1).toNat 6), t.extract 10 (10 + min (gH t 2).toNat 20)⟩
  else ⟨2, 0, t.extract 4 (4 + min (gH t 1).toNat 6), nilB⟩
/-- As the document does. -/
def takenD (t : ByteArray) : RecV :=
  if gH t 0 = 72 then ⟨0, numL (t.data.toList.drop 1), nilB, nilB⟩
  else if gH t 0 = 82 then (if (gH t 1).toNat ≤ 6 ∧ (gH t 2).toNat ≤ 20 then ⟨1, 0, t.extract 4 (4 + (gH t 1).toNat), t.extract 10 (10 + (gH t 2).toNat)⟩ else zeroR)
  else if gH t 0 = 84 then (if (gH t 1).toNat ≤ 6 then ⟨2, 0, t.extract 4 (4 + (gH t 1).toNat), nilB⟩ else zeroR)
  else zeroR

theorem u8_of {n : Nat} (h : n < 256) : (UInt8.ofNat n).toNat = n := by
  rw [UInt8.toNat_ofNat', Nat.mod_eq_of_lt (by simpa using h)]
theorem take_left' {α : Type} (a b : List α) (n : Nat) (h : a.length = n) : (a ++ b).take n = a := by
  rw [← h, List.take_left]
theorem half_facts {r : RecV} (h : mayP r) :
    (r.k = 0 ∧ r.e = numL ((half32 r).data.toList.drop 1) ∧ r = ⟨0, r.e, nilB, nilB⟩ ∧ gH (half32 r) 0 = 72) ∨
    (r.k = 1 ∧ gH (half32 r) 0 = 82 ∧ (gH (half32 r) 1).toNat = r.key.size ∧ (gH (half32 r) 2).toNat = r.val.size ∧ r.key.size ≤ 6 ∧ r.val.size ≤ 20 ∧ r.e = 0 ∧ (half32 r).extract 4 (4 + r.key.size) = r.key ∧ (half32 r).extract 10 (10 + r.val.size) = r.val) ∨
    (r.k = 2 ∧ gH (half32 r) 0 = 84 ∧ (gH (half32 r) 1).toNat = r.key.size ∧ r.key.size ≤ 6 ∧ r.e = 0 ∧ r.val = nilB ∧ (half32 r).extract 4 (4 + r.key.size) = r.key) := by
  obtain ⟨k, e, key, val⟩ := r
  unfold half32 gH
  simp only [ext_list, str_data]
  have zk := data_len key
  have zv := data_len val
  rcases h with ⟨h0, h1, h2, h3, h4⟩ | ⟨h0, h1, ⟨h2, h3⟩, h4⟩ | ⟨h0, h1, ⟨h2, h3⟩, h4⟩
  · simp only at h0 h1 h2 h3 h4
    subst h0 h3 h4
    refine .inl ⟨rfl, ?_, rfl, rfl⟩
    exact (numL_low e (by omega) (by omega) _).symm
  · simp only at h0 h1 h2 h3 h4
    subst h0 h1
    have hh : padL (halfL ⟨1, 0, key, val⟩) 32 = 82 :: UInt8.ofNat key.size :: UInt8.ofNat val.size :: 0 :: (key.data.toList ++ (List.replicate (6 - key.size) 0 ++ (val.data.toList ++ List.replicate (22 - val.size) 0))) := by
      have e1 : padL (82 :: headR ⟨1, 0, key, val⟩) 10 = 82 :: UInt8.ofNat key.size :: UInt8.ofNat val.size :: 0 :: (key.data.toList ++ List.replicate (6 - key.size) 0) := by
        unfold padL
        rw [List.length_cons, headR_len]
        simp only [headR, List.cons_append, List.nil_append]
        rw [show 10 - (3 + key.size + 1) = 6 - key.size by omega]
      have e2 : halfL ⟨1, 0, key, val⟩ = 82 :: UInt8.ofNat key.size :: UInt8.ofNat val.size :: 0 :: (key.data.toList ++ (List.replicate (6 - key.size) 0 ++ val.data.toList)) := by
        show padL (82 :: headR ⟨1, 0, key, val⟩) 10 ++ val.data.toList = _
        rw [e1]
        simp only [List.cons_append, List.append_assoc]
      rw [e2]
      unfold padL
      simp only [List.cons_append, List.append_assoc, List.length_cons, List.length_append, List.length_replicate, zk, zv]
      rw [show 32 - (key.size + (6 - key.size + val.size) + 1 + 1 + 1 + 1) = 22 - val.size by omega]
    rw [hh]
    refine .inr (.inl ⟨rfl, rfl, u8_of (by omega), u8_of (by omega), h3, h4, rfl, ?_, ?_⟩)
    · rw [show 4 + key.size - 4 = key.size by omega]
      show str (List.take key.size (key.data.toList ++ _)) = key
      rw [take_left' _ _ _ zk, str_of]
    · rw [show 10 + val.size - 10 = val.size by omega]
      show str (List.take val.size (List.drop 6 (key.data.toList ++ _))) = val
      rw [← List.append_assoc, ← List.append_assoc, List.append_assoc _ val.data.toList, List.drop_left' (by rw [List.length_append, List.length_replicate, zk]; omega), take_left' _ _ _ zv, str_of]
  · simp only at h0 h1 h2 h3 h4
    subst h0 h1 h4
    have hh : padL (halfL ⟨2, 0, key, nilB⟩) 32 = 84 :: UInt8.ofNat key.size :: UInt8.ofNat nilB.size :: 0 :: (key.data.toList ++ List.replicate (28 - key.size) 0) := by
      have e2 : halfL ⟨2, 0, key, nilB⟩ = 84 :: UInt8.ofNat key.size :: UInt8.ofNat nilB.size :: 0 :: key.data.toList := rfl
      rw [e2]
      unfold padL
      simp only [List.cons_append, List.length_cons, zk]
      rw [show 32 - (key.size + 1 + 1 + 1 + 1) = 28 - key.size by omega]
    rw [hh]
    refine .inr (.inr ⟨rfl, rfl, u8_of (by omega), h3, rfl, rfl, ?_⟩)
    rw [show 4 + key.size - 4 = key.size by omega]
    show str (List.take key.size (key.data.toList ++ _)) = key
    rw [take_left' _ _ _ zk, str_of]

theorem taken_half {r : RecV} (h : mayP r) : takenR (half32 r) = r := by
  unfold takenR
  rcases half_facts h with ⟨h0, h1, h2, h3⟩ | ⟨h0, h1, h2, h3, h4, h5, h6, h7, h8⟩ | ⟨h0, h1, h2, h3, h4, h5, h6⟩
  · rw [if_pos h3, ← h1, ← h2]
  · rw [if_neg (by rw [h1]; decide), if_pos h1, h2, h3, Nat.min_eq_left h4, Nat.min_eq_left h5, h7, h8, ← h0, ← h6]
  · rw [if_neg (by rw [h1]; decide), if_neg (by rw [h1]; decide), h2, Nat.min_eq_left h3, h6, ← h5, ← h0, ← h4]
theorem takenD_half {r : RecV} (h : mayP r) : takenD (half32 r) = r := by
  unfold takenD
  rcases half_facts h with ⟨h0, h1, h2, h3⟩ | ⟨h0, h1, h2, h3, h4, h5, h6, h7, h8⟩ | ⟨h0, h1, h2, h3, h4, h5, h6⟩
  · rw [if_pos h3, ← h1, ← h2]
  · rw [if_neg (by rw [h1]; decide), if_pos h1, h2, h3, if_pos ⟨h4, h5⟩, h7, h8, ← h0, ← h6]
  · rw [if_neg (by rw [h1]; decide), if_neg (by rw [h1]; decide), if_pos h1, h2, if_pos h3, h6, ← h5, ← h0, ← h4]

/-- What Get tells of a text. -/
def ansR (s : ByteArray) (r : RecV) (e : Int) : Prop := (mayP r ∧ putR r = s ∧ e = 0) ∨ ((∀ q, mayP q → putR q ≠ s) ∧ r = zeroR ∧ e = 1900)
theorem ansR_ex (s : ByteArray) : ∃ r e, ansR s r e := by
  by_cases h : ∃ q, mayP q ∧ putR q = s
  · obtain ⟨q, h1, h2⟩ := h
    exact ⟨q, 0, .inl ⟨h1, h2, rfl⟩⟩
  · exact ⟨zeroR, 1900, .inr ⟨fun q h1 h2 => h ⟨q, h1, h2⟩, rfl, rfl⟩⟩
theorem putR_inj {a b : RecV} (ha : mayP a) (hb : mayP b) (h : putR a = putR b) : a = b := by
  have h1 := putR_get ha
  rw [h, putR_get hb] at h1
  have h2 := (Prod.mk.inj h1).1
  rw [← taken_half ha, ← h2, taken_half hb]
theorem ansR_put {r : RecV} (h : mayP r) : ansR (putR r) r 0 := .inl ⟨h, rfl, rfl⟩
theorem ansR_of {s : ByteArray} {r : RecV} {e : Int} (h : ansR s r e) (q : RecV) (hq : mayP q) (hs : putR q = s) : r = q ∧ e = 0 := by
  rcases h with ⟨h1, h2, h3⟩ | ⟨h1, _⟩
  · exact ⟨putR_inj h1 hq (h2.trans hs.symm), h3⟩
  · exact absurd hs (h1 q hq)
end Go.Proofs.Ytgfldfkgialdlaa
