/- Keys in order; the search for one. -/
import Derived.Test.YtdgnpoapkjoknaaIdxE
import Derived.Laws.Cover1
namespace Go.Proofs.Ytdgnpoapkjoknaa
set_option linter.unusedVariables false
set_option linter.unusedSimpArgs false
open Go.RowKit

theorem u8_lt_irr (a : UInt8) : (a < a) = False := by simp
theorem bl_irr : ∀ x : List UInt8, Op.bytesLess x x = false
  | [] => rfl
  | a :: x => by simp [Op.bytesLess, bl_irr x]
theorem bl_trans : ∀ x y z : List UInt8, Op.bytesLess x y = true → Op.bytesLess y z = true → Op.bytesLess x z = true
  | _, [], _, h, _ => by simp [Op.bytesLess] at h
  | _, _ :: _, [], _, h => by simp [Op.bytesLess] at h
  | [], _ :: _, _ :: _, _, _ => rfl
  | a :: x, b :: y, c :: z, h1, h2 => by
    simp only [Op.bytesLess, Bool.or_eq_true, decide_eq_true_eq, Bool.and_eq_true, beq_iff_eq] at h1 h2 ⊢
    rcases h1 with h1 | ⟨rfl, h1⟩
    · rcases h2 with h2 | ⟨rfl, h2⟩
      · exact .inl (UInt8.lt_trans h1 h2)
      · exact .inl h1
    · rcases h2 with h2 | ⟨rfl, h2⟩
      · exact .inl h2
      · exact .inr ⟨rfl, bl_trans x y z h1 h2⟩
theorem bl_tri : ∀ x y : List UInt8, Op.bytesLess x y = false → Op.bytesLess y x = false → x = y
  | [], [], _, _ => rfl
  | [], _ :: _, h, _ => by simp [Op.bytesLess] at h
  | _ :: _, [], _, h => by simp [Op.bytesLess] at h
  | a :: x, b :: y, h1, h2 => by
    simp only [Op.bytesLess, Bool.or_eq_false_iff, decide_eq_false_iff_not, Bool.and_eq_false_iff, beq_eq_false_iff_ne] at h1 h2
    have e : a = b := by
      have n1 := UInt8.not_lt.1 h1.1
      have n2 := UInt8.not_lt.1 h2.1
      exact UInt8.le_antisymm n2 n1
    subst e
    have h3 : Op.bytesLess x y = false := by rcases h1.2 with h | h; exact absurd rfl h; exact h
    have h4 : Op.bytesLess y x = false := by rcases h2.2 with h | h; exact absurd rfl h; exact h
    rw [bl_tri x y h3 h4]
def ltK (a b : ByteArray) : Bool := Op.bytesLess a.toList b.toList
theorem ltK_irr (a : ByteArray) : ltK a a = false := bl_irr _
theorem ltK_trans {a b c : ByteArray} (h1 : ltK a b = true) (h2 : ltK b c = true) : ltK a c = true := bl_trans _ _ _ h1 h2
theorem ltK_tri {a b : ByteArray} (h1 : ltK a b = false) (h2 : ltK b a = false) : a = b := by
  have := bl_tri _ _ h1 h2
  rw [ByteArray.toList_eq, ByteArray.toList_eq] at this
  exact ext_str this
theorem ltK_asym {a b : ByteArray} (h : ltK a b = true) : ltK b a = false := by
  cases e : ltK b a with
  | false => rfl
  | true => have := ltK_trans h e; rw [ltK_irr] at this; cases this
theorem eqK (a b : ByteArray) : (a.toList == b.toList) = decide (a = b) := by
  by_cases h : a = b
  · subst h; simp
  · rw [ne_tl h, decide_eq_false h]
/-- What cmp.Compare answers. -/
def cmpK (a b : ByteArray) : Int := if ltK a b = true then -1 else if a = b then 0 else 1

/-- Keys that ascend. -/
def SortedP (ps : List PairV) : Prop := ∀ k, k + 1 < ps.length → ltK (ps.getD k zeroP).key (ps.getD (k + 1) zeroP).key = true
instance (ps : List PairV) : Decidable (SortedP ps) := decidable_of_iff (∀ k, k < ps.length - 1 → ltK (ps.getD k zeroP).key (ps.getD (k + 1) zeroP).key = true) ⟨fun h k hk => h k (by omega), fun h k hk => h k (by omega)⟩
theorem SortedP.lt {ps : List PairV} (h : SortedP ps) {i j : Nat} (hij : i < j) (hj : j < ps.length) : ltK (ps.getD i zeroP).key (ps.getD j zeroP).key = true := by
  obtain ⟨d, rfl⟩ : ∃ d, j = i + 1 + d := ⟨j - (i + 1), by omega⟩
  clear hij
  induction d with
  | zero => exact h i hj
  | succ d ih => exact ltK_trans (ih (by omega)) (h (i + 1 + d) hj)
/-- How many keys are less. -/
def posK : List PairV → ByteArray → Nat
  | [], _ => 0
  | p :: ps, t => if ltK p.key t = true then posK ps t + 1 else 0
theorem posK_le : ∀ (ps : List PairV) (t : ByteArray), posK ps t ≤ ps.length
  | [], _ => Nat.le_refl _
  | p :: ps, t => by
    have := posK_le ps t
    unfold posK
    split <;> simp <;> omega
theorem posK_lo : ∀ (ps : List PairV) (t : ByteArray) (k : Nat), k < posK ps t → ltK (ps.getD k zeroP).key t = true
  | [], t, k, h => by simp [posK] at h
  | p :: ps, t, k, h => by
    unfold posK at h
    split at h
    · rename_i hp
      cases k with
      | zero => exact hp
      | succ k => exact posK_lo ps t k (by omega)
    · omega
theorem posK_hi : ∀ (ps : List PairV) (t : ByteArray), posK ps t < ps.length → ltK (ps.getD (posK ps t) zeroP).key t = false
  | [], t, h => by simp at h
  | p :: ps, t, h => by
    unfold posK at h ⊢
    split at h
    · rename_i hp
      rw [if_pos hp]
      exact posK_hi ps t (by simpa using h)
    · rename_i hp
      rw [if_neg hp]
      simpa using hp
theorem posK_of {ps : List PairV} {t : ByteArray} {i : Nat} (hi : i ≤ ps.length) (h1 : ∀ k, k < i → ltK (ps.getD k zeroP).key t = true) (h2 : ∀ k, i ≤ k → k < ps.length → ltK (ps.getD k zeroP).key t = false) : i = posK ps t := by
  have l := posK_le ps t
  rcases Nat.lt_trichotomy i (posK ps t) with h | h | h
  · have a := posK_lo ps t i h
    rw [h2 i (Nat.le_refl _) (by omega)] at a
    cases a
  · exact h
  · have a := posK_hi ps t (by omega)
    rw [h1 _ h] at a
    cases a
/-- Does a key lie there? -/
def isK (ps : List PairV) (t : ByteArray) : Bool := decide (posK ps t < ps.length) && decide ((ps.getD (posK ps t) zeroP).key = t)

set_option maxRecDepth 100000 in
theorem cmp_any (a b : ByteArray) (w : World) : Calls Try.prog 56 #[.string a, .string b] w fun e w' => e = .returned (.int .i64 (cmpK a b)) ∧ w = w' := by
  have nan : ∀ (x : ByteArray) (w : World), Calls Try.prog 61 #[.string x] w fun e w' => e = .returned (.bool false) ∧ w = w' := fun x w => by
    go_enter Try.func61, Try.ntmps61
    go_wp2
    go_ret
    simp
  have NN := Lib.hid nan
  clear nan
  unfold cmpK
  have e1 := eqK a b
  cases h : ltK a b with
  | true =>
    have h1 : Op.bytesLess a.toList b.toList = true := h
    rw [if_pos rfl]
    clear h
    go_enter Try.func56, Try.ntmps56
    go_wp2_with (go_at_call 61; refine (NN.out _ _).mono ?_; rintro e w' ⟨rfl, rfl⟩)
    go_ret
    exact ⟨rfl, rfl⟩
  | false =>
    have h1 : Op.bytesLess a.toList b.toList = false := h
    rw [if_neg (by decide)]
    clear h
    by_cases hab : a = b
    · rw [if_pos hab]
      rw [decide_eq_true hab] at e1
      clear hab
      go_enter Try.func56, Try.ntmps56
      go_wp2_with (go_at_call 61; refine (NN.out _ _).mono ?_; rintro e w' ⟨rfl, rfl⟩)
      go_ret
      exact ⟨rfl, rfl⟩
    · rw [if_neg hab]
      rw [decide_eq_false hab] at e1
      clear hab
      go_enter Try.func56, Try.ntmps56
      go_wp2_with (go_at_call 61; refine (NN.out _ _).mono ?_; rintro e w' ⟨rfl, rfl⟩)
      go_ret
      exact ⟨rfl, rfl⟩
theorem at1_any (key val t : ByteArray) (w : World) : Calls Try.prog 55 #[.agg #[.string key, .string val], .string t] w fun e w' => e = .returned (.int .i64 (cmpK key t)) ∧ Below w.heap.size w w' := by
  have b0 : Below w.heap.size w (w.alloc (Obj.cells #[.string key, .string val] 48)) := Bl.alloc (Below.refl _ _) _
  have hc : (w.alloc (Obj.cells #[.string key, .string val] 48)).cell? ⟨w.heap.size, 0, none⟩ = some (.string key) := (OneP.new w ⟨key, val⟩).cells 0 _ rfl
  have B0 := Lib.hid b0
  clear b0
  go_enter Try.func55, Try.ntmps55
  go_wp2_with (go_at_call 56; refine (cmp_any _ _ _).mono ?_; rintro e w' ⟨rfl, rfl⟩)
  go_ret
  exact ⟨rfl, B0.out⟩
theorem cmpK_neg (a b : ByteArray) : (cmpK a b < 0) ↔ ltK a b = true := by
  unfold cmpK
  split
  · simp [*]
  · split <;> simp [*, ltK_irr]
theorem cmpK_zero (a b : ByteArray) : (cmpK a b == 0) = decide (a = b) := by
  unfold cmpK
  split
  · rename_i h
    have : a ≠ b := by rintro rfl; rw [ltK_irr] at h; cases h
    rw [decide_eq_false this]; rfl
  · split
    · rename_i h; rw [decide_eq_true h]; rfl
    · rename_i h; rw [decide_eq_false h]; rfl

set_option maxRecDepth 100000 in
set_option maxHeartbeats 4000000 in
theorem search_any (w : World) (v : Value) (ps : List PairV) (t : ByteArray) (h : RdP w v ps) (hs : SortedP ps) (hb : ps.length * 32 ≤ 140737488355328) :
    Calls Try.prog 54 #[v, .string t, .func (.func 55) #[] #[]] w fun e w' =>
      e = .returned (.tuple #[.int .i64 (posK ps t : Int), .bool (isK ps t)]) ∧ Below w.heap.size w w' := by
  obtain ⟨n, hn⟩ : ∃ n, ps.length = n := ⟨_, rfl⟩
  have HP := Lib.hid h
  have HS := Lib.hid hs
  have hmax : n ≤ 4398046511104 := by omega
  obtain ⟨A, c, rfl⟩ := h.form
  rw [hn]
  obtain ⟨pz, hpz⟩ : ∃ z, posK ps t = z := ⟨_, rfl⟩
  obtain ⟨iz, hiz⟩ : ∃ z, isK ps t = z := ⟨_, rfl⟩
  rw [hpz, hiz]
  have HPZ := Lib.hid hpz
  have HIZ := Lib.hid hiz
  have HN := Lib.hid hn
  clear h hs hn hb hpz hiz
  go_enter Try.func54, Try.ntmps54
  go_wp2_with fail
  go_loopw [9, 10] (fun i j wr => ∃ a b : Nat, a ≤ b ∧ b ≤ n ∧ i = .int .i64 (a : Int) ∧ j = .int .i64 (b : Int) ∧ (∀ k, k < a → ltK (ps.getD k zeroP).key t = true) ∧ (∀ k, b ≤ k → k < n → ltK (ps.getD k zeroP).key t = false) ∧ Below w.heap.size w wr) (fun i j _ => (intOf j - intOf i).toNat)
  case atStart => exact ⟨0, n, by omega, Nat.le_refl _, rfl, rfl, fun k hk => absurd hk (by omega), fun k h1 h2 => absurd h1 (by omega), Below.refl _ _⟩
  case round =>
    obtain ⟨a, b, hab, hbn, rfl, rfl, hlo, hhi, hbl⟩ := hrel
    have HL := Lib.hid hlo
    have HH := Lib.hid hhi
    have HB := Lib.hid hbl
    clear hlo hhi hbl
    by_cases hlt : a < b
    · have hlt2 : (a : Int) < (b : Int) := by omega
      obtain ⟨B, o, c', hv, _, _, hcc⟩ := (HP.out.below HB.out).pos (by rw [HN.out]; omega)
      rw [HN.out] at hv hcc
      obtain ⟨h1, _, h2⟩ := Value.slice.inj hv
      subst h1 h2
      obtain ⟨m, hm⟩ : ∃ m : Nat, (a + b) / 2 = m := ⟨_, rfl⟩
      have hmn : m < n := by omega
      obtain ⟨g0, g1⟩ := hcc m hmn
      obtain ⟨key, hkey⟩ : ∃ z, (ps.getD m zeroP).key = z := ⟨_, rfl⟩
      obtain ⟨val, hval⟩ : ∃ z, (ps.getD m zeroP).val = z := ⟨_, rfl⟩
      rw [hkey] at g0
      rw [hval] at g1
      have HK := Lib.hid hkey
      have HM := Lib.hid hm
      clear hcc hv hkey hval
      go_wp2_with fail
      refine (at1_any key val t _).mono ?_
      rintro e w4 ⟨rfl, hb⟩
      have HB4 := Lib.hid (Bl.then HB.out hb)
      have hmm := HM.out
      clear hb
      by_cases hc : ltK key t = true
      · have hneg := (cmpK_neg key t).2 hc
        have hd : decide (cmpK key t < 0) = true := decide_eq_true hneg
        obtain ⟨cv, hcv⟩ : ∃ z, cmpK key t = z := ⟨_, rfl⟩
        rw [hcv] at hneg hd ⊢
        have HC := Lib.hid hc
        clear hcv hc
        go_wp2_with fail
        go_roundw
        case rel =>
          refine ⟨m + 1, b, by omega, hbn, by first | go_num | (congr 1; omega), rfl, fun k hk => ?_, HH.out, HB4.out⟩
          by_cases hkm : k = m
          · subst hkm; rw [HK.out]; exact HC.out
          · have h1 := HS.out.lt (show k < m by omega) (by rw [HN.out]; exact hmn)
            rw [HK.out] at h1
            exact ltK_trans h1 HC.out
        case measure => simp [intOf]; omega
      · have hneg : ¬ cmpK key t < 0 := fun h => hc ((cmpK_neg key t).1 h)
        have hd : decide (cmpK key t < 0) = false := decide_eq_false hneg
        obtain ⟨cv, hcv⟩ : ∃ z, cmpK key t = z := ⟨_, rfl⟩
        rw [hcv] at hneg hd ⊢
        have HC := Lib.hid hc
        clear hcv hc
        go_wp2_with fail
        go_roundw
        case rel =>
          refine ⟨a, m, by omega, by omega, rfl, by first | go_num | (congr 1; omega), HL.out, fun k hk hkn => ?_, HB4.out⟩
          have hc : ltK key t = false := by simpa using HC.out
          by_cases hkm : k = m
          · subst hkm; rw [HK.out]; exact hc
          · have h1 := HS.out.lt (show m < k by omega) (by rw [HN.out]; exact hkn)
            rw [HK.out] at h1
            cases e : ltK (ps.getD k zeroP).key t with
            | false => rfl
            | true => rw [ltK_trans h1 e] at hc; cases hc
        case measure => simp [intOf]; omega
    · obtain rfl : a = b := by omega
      have hpos : a = posK ps t := posK_of (by rw [HN.out]; exact hbn) HL.out (by rw [HN.out]; exact HH.out)
      by_cases hlast : a < n
      · have hlt2 : (a : Int) < (n : Int) := by omega
        obtain ⟨B, o, c', hv, _, _, hcc⟩ := (HP.out.below HB.out).pos (by rw [HN.out]; omega)
        rw [HN.out] at hv hcc
        obtain ⟨h1, _, h2⟩ := Value.slice.inj hv
        subst h1 h2
        obtain ⟨g0, g1⟩ := hcc a hlast
        obtain ⟨key, hkey⟩ : ∃ z, (ps.getD a zeroP).key = z := ⟨_, rfl⟩
        obtain ⟨val, hval⟩ : ∃ z, (ps.getD a zeroP).val = z := ⟨_, rfl⟩
        rw [hkey] at g0
        rw [hval] at g1
        have his : isK ps t = decide (key = t) := by rw [isK, ← hpos, HN.out, decide_eq_true hlast, hkey, Bool.true_and]
        rw [HIZ.out] at his
        rw [HPZ.out] at hpos
        subst hpos his
        have hz := cmpK_zero key t
        clear hcc hv hkey hval HPZ HIZ HL HH
        go_wp2_with fail
        refine (at1_any key val t _).mono ?_
        rintro e w4 ⟨rfl, hb⟩
        have HB4 := Lib.hid (Bl.then HB.out hb)
        clear hb
        go_wp2_with fail
        go_ret2
        exact ⟨rfl, HB4.out⟩
      · have his : isK ps t = false := by rw [isK, ← hpos, HN.out, decide_eq_false hlast, Bool.false_and]
        rw [HIZ.out] at his
        rw [HPZ.out] at hpos
        subst hpos his
        have hd : decide ((a : Int) < (n : Int)) = false := decide_eq_false (by omega)
        go_wp2_with fail
        go_ret2
        exact ⟨rfl, HB.out⟩
theorem at_any (w : World) (v : Value) (ps : List PairV) (t : ByteArray) (h : RdP w v ps) (hs : SortedP ps) (hb : ps.length * 32 ≤ 140737488355328) :
    Calls Try.prog 40 #[v, .string t] w fun e w' => e = .returned (.tuple #[.int .i64 (posK ps t : Int), .bool (isK ps t)]) ∧ Below w.heap.size w w' := by
  have S := Lib.hid (search_any w v ps t h hs hb)
  clear h hs hb
  go_enter Try.func40, Try.ntmps40
  go_wp2_with fail
  refine S.out.mono ?_
  rintro e w' ⟨rfl, hb⟩
  have HB := Lib.hid hb
  clear hb
  go_wp2_with fail
  go_ret2
  exact ⟨rfl, HB.out⟩
end Go.Proofs.Ytdgnpoapkjoknaa
