/- Find, the program's and the document's. -/
import Derived.Test.YtdgnpoapkjoknaaIdxG
namespace Go.Proofs.Ytdgnpoapkjoknaa
set_option linter.unusedVariables false
set_option linter.unusedSimpArgs false
open Go.RowKit

/-- How many keys are passed before one is met. -/
def findK : List PairV → ByteArray → Nat
  | [], _ => 0
  | p :: ps, t => if p.key = t then 0 else findK ps t + 1
theorem findK_le : ∀ (ps : List PairV) (t : ByteArray), findK ps t ≤ ps.length
  | [], _ => Nat.le_refl _
  | p :: ps, t => by
    have := findK_le ps t
    unfold findK
    split <;> simp <;> omega
theorem findK_of : ∀ {ps : List PairV} {t : ByteArray} {a : Nat}, a ≤ ps.length → (∀ j, j < a → (ps.getD j zeroP).key ≠ t) → (a < ps.length → (ps.getD a zeroP).key = t) → findK ps t = a
  | [], t, a, h, _, _ => by simp at h; subst h; rfl
  | p :: ps, t, 0, _, _, h2 => by
    have : p.key = t := h2 (by simp)
    rw [findK, if_pos this]
  | p :: ps, t, a + 1, h, h1, h2 => by
    have hp : p.key ≠ t := h1 0 (by omega)
    rw [findK, if_neg hp, findK_of (ps := ps) (t := t) (a := a) (by simpa using h) (fun j hj => h1 (j + 1) (by omega)) (fun hl => h2 (by simp; omega))]
def findV (ps : List PairV) (t : ByteArray) : ByteArray := if findK ps t < ps.length then (ps.getD (findK ps t) zeroP).val else nilB
def findB (ps : List PairV) (t : ByteArray) : Bool := decide (findK ps t < ps.length)
theorem find1_any (key val t : ByteArray) (g : Nat) (w : World) (hc : w.cell? ⟨g, 0, none⟩ = some (.string t)) : Calls Try.prog 44 #[.agg #[.string key, .string val], .pointer (some ⟨g, 0, none⟩)] w fun e w' => e = .returned (.bool (key.toList == t.toList)) ∧ Below w.heap.size w w' := by
  have b0 : Below w.heap.size w (w.alloc (Obj.cells #[.string key, .string val] 48)) := Bl.alloc (Below.refl _ _) _
  have hc1 : (w.alloc (Obj.cells #[.string key, .string val] 48)).cell? ⟨w.heap.size, 0, none⟩ = some (.string key) := (OneP.new w ⟨key, val⟩).cells 0 _ rfl
  have hc2 : (w.alloc (Obj.cells #[.string key, .string val] 48)).cell? ⟨g, 0, none⟩ = some (.string t) := (b0.cell (World.block_lt_of_cell? _ _ hc)).trans hc
  have B0 := Lib.hid b0
  clear b0 hc
  go_enter Try.func44, Try.ntmps44
  go_wp2_with fail
  go_ret
  exact ⟨rfl, B0.out⟩
set_option maxRecDepth 100000 in
set_option maxHeartbeats 4000000 in
theorem indexfunc_any (w : World) (v : Value) (ps : List PairV) (t : ByteArray) (g : Nat) (h : RdP w v ps) (hb : ps.length * 32 ≤ 140737488355328) (hc : w.cell? ⟨g, 0, none⟩ = some (.string t)) :
    Calls Try.prog 43 #[v, .func (.func 44) #[] #[.pointer (some ⟨g, 0, none⟩)]] w fun e w' =>
      e = .returned (.int .i64 (if findK ps t < ps.length then (findK ps t : Int) else -1)) ∧ Below w.heap.size w w' := by
  obtain ⟨n, hn⟩ : ∃ n, ps.length = n := ⟨_, rfl⟩
  obtain ⟨A, c, rfl⟩ := h.form
  have HP := Lib.hid (show RdP w (.slice A n c) ps by rw [← hn]; exact h)
  rw [hn]
  obtain ⟨z, hz⟩ : ∃ z : Int, (if findK ps t < n then (findK ps t : Int) else -1) = z := ⟨_, rfl⟩
  rw [hz]
  have hmax : n ≤ 4398046511104 := by omega
  have HN := Lib.hid hn
  have HZ := Lib.hid hz
  have HC := Lib.hid hc
  clear h hb hn hz hc
  go_enter Try.func43, Try.ntmps43
  go_wp2_with fail
  go_loopw [8] (fun i wr => ∃ a : Nat, a ≤ n ∧ i = .int .i64 (a : Int) ∧ (∀ j, j < a → (ps.getD j zeroP).key ≠ t) ∧ Below w.heap.size w wr) (fun i _ => (n - intOf i).toNat)
  case atStart => exact ⟨0, by omega, rfl, fun j hj => absurd hj (by omega), Below.refl _ _⟩
  case round =>
    obtain ⟨a, han, rfl, hlo, hbl⟩ := hrel
    have HL := Lib.hid hlo
    have HQ := Lib.hid hbl
    clear hlo hbl
    by_cases hlt : a < n
    · have hlt2 : (a : Int) < (n : Int) := by omega
      obtain ⟨B, o, c', hv, _, _, hcc⟩ := (HP.out.below HQ.out).pos (by rw [HN.out]; omega)
      rw [HN.out] at hv hcc
      obtain ⟨h1, _, h2⟩ := Value.slice.inj hv
      subst h1 h2
      obtain ⟨g0, g1⟩ := hcc a hlt
      obtain ⟨p, hp⟩ : ∃ z, ps.getD a zeroP = z := ⟨_, rfl⟩
      rw [hp] at g0 g1
      obtain ⟨pk, pv⟩ := p
      simp only at g0 g1
      have HPP := Lib.hid hp
      have hc2 : wr.cell? ⟨g, 0, none⟩ = some (.string t) := (HQ.out.cell (World.block_lt_of_cell? _ _ HC.out)).trans HC.out
      have F := Lib.hid (find1_any pk pv t g wr hc2)
      clear hcc hv hp hc2
      go_wp2_with fail
      refine F.out.mono ?_
      rintro e w1 ⟨rfl, hb⟩
      have B1 := Lib.hid (Bl.then HQ.out hb)
      clear hb
      by_cases he : pk = t
      · have hk : findK ps t = a := findK_of (by rw [HN.out]; exact han) HL.out (fun _ => by rw [HPP.out]; exact he)
        have hz := HZ.out
        rw [hk, if_pos hlt] at hz
        subst hz
        rw [eq_tl he]
        clear he hk
        go_wp2_with fail
        go_ret
        exact ⟨rfl, B1.out⟩
      · rw [ne_tl he]
        have HE := Lib.hid he
        clear he
        go_wp2_with fail
        go_roundw
        case rel =>
          refine ⟨a + 1, by omega, by first | go_num | (congr 1; omega), fun j hj => ?_, B1.out⟩
          by_cases hja : j = a
          · subst hja; rw [HPP.out]; exact HE.out
          · exact HL.out j (by omega)
        case measure => simp [intOf]; omega
    · obtain rfl : a = n := by omega
      have hk : findK ps t = a := findK_of (by rw [HN.out]; exact han) HL.out (fun h => by rw [HN.out] at h; omega)
      have hz := HZ.out
      rw [hk, if_neg hlt] at hz
      subst hz
      have hd : decide ((a : Int) < (a : Int)) = false := decide_eq_false (by omega)
      clear hk
      go_wp2_with fail
      go_ret
      exact ⟨rfl, HQ.out⟩
set_option maxRecDepth 100000 in
theorem find_any (w : World) (v : Value) (ps : List PairV) (t : ByteArray) (h : RdP w v ps) (hb : ps.length * 32 ≤ 140737488355328) :
    Calls Try.prog 19 #[v, .string t] w fun e w' => e = .returned (.tuple #[.string (findV ps t), .bool (findB ps t)]) ∧ Below w.heap.size w w' := by
  obtain ⟨n, hn⟩ : ∃ n, ps.length = n := ⟨_, rfl⟩
  obtain ⟨A, c, rfl⟩ := h.form
  have HP := Lib.hid (show RdP w (.slice A n c) ps by rw [← hn]; exact h)
  have hmax : n ≤ 4398046511104 := by omega
  have BB := Lib.hid (Bl.alloc (Below.refl w.heap.size w) (Obj.cells #[.string t] 9))
  have HC := Lib.hid (show (w.alloc (Obj.cells #[.string t] 9)).cell? ⟨w.heap.size, 0, none⟩ = some (.string t) by rw [cell_of_row _ _ _ _ _ _ (heap_alloc_new w _)]; rfl)
  have F := Lib.hid (indexfunc_any _ _ ps t w.heap.size (HP.out.below BB.out) hb HC.out)
  rw [hn] at F ⊢
  have HN := Lib.hid hn
  clear h hb hn
  by_cases hk : findK ps t < n
  · have fv : findV ps t = (ps.getD (findK ps t) zeroP).val := if_pos (by rw [HN.out]; exact hk)
    have fb : findB ps t = true := decide_eq_true (by rw [HN.out]; exact hk)
    rw [fv, fb]
    rw [if_pos hk] at F
    obtain ⟨a, ha⟩ : ∃ a, findK ps t = a := ⟨_, rfl⟩
    rw [ha] at F hk ⊢
    clear fv fb ha
    go_enter Try.func19, Try.ntmps19
    go_wp2_with fail
    refine F.out.mono ?_
    rintro e w1 ⟨rfl, hb⟩
    have B1 := Lib.hid (Bl.then BB.out hb)
    clear hb
    obtain ⟨B, o, c', hv, _, _, hcc⟩ := (HP.out.below B1.out).pos (by rw [HN.out]; omega)
    rw [HN.out] at hv hcc
    obtain ⟨h1, _, h2⟩ := Value.slice.inj hv
    subst h1 h2
    obtain ⟨g0, g1⟩ := hcc a hk
    obtain ⟨p, hp⟩ : ∃ z, (ps.getD a zeroP).val = z := ⟨_, rfl⟩
    rw [hp] at g1
    have HPP := Lib.hid hp
    have hd : decide ((a : Int) < 0) = false := decide_eq_false (by omega)
    have hk2 : (a : Int) < (n : Int) := by omega
    clear hcc hv g0 hp
    go_wp2_with fail
    go_ret2
    exact ⟨by rw [HPP.out]; rfl, B1.out⟩
  · have fv : findV ps t = nilB := if_neg (by rw [HN.out]; exact hk)
    have fb : findB ps t = false := decide_eq_false (by rw [HN.out]; exact hk)
    rw [fv, fb]
    rw [if_neg hk] at F
    clear fv fb hk
    go_enter Try.func19, Try.ntmps19
    go_wp2_with fail
    refine F.out.mono ?_
    rintro e w1 ⟨rfl, hb⟩
    have B1 := Lib.hid (Bl.then BB.out hb)
    clear hb
    go_wp2_with fail
    go_ret2
    exact ⟨rfl, B1.out⟩
set_option maxRecDepth 100000 in
set_option maxHeartbeats 4000000 in
theorem rfind_any (w : World) (v : Value) (ps : List PairV) (t : ByteArray) (h : RdP w v ps) (hb : ps.length * 32 ≤ 140737488355328) :
    Calls Try.prog 20 #[v, .string t] w fun e w' => e = .returned (.tuple #[.string (findV ps t), .bool (findB ps t)]) ∧ w' = w := by
  obtain ⟨n, hn⟩ : ∃ n, ps.length = n := ⟨_, rfl⟩
  obtain ⟨A, c, rfl⟩ := h.form
  have HP := Lib.hid (show RdP w (.slice A n c) ps by rw [← hn]; exact h)
  have hmax : n ≤ 4398046511104 := by omega
  obtain ⟨fv, hfv⟩ : ∃ z, findV ps t = z := ⟨_, rfl⟩
  obtain ⟨fb, hfb⟩ : ∃ z, findB ps t = z := ⟨_, rfl⟩
  rw [hn, hfv, hfb]
  have HN := Lib.hid hn
  have HV := Lib.hid hfv
  have HB := Lib.hid hfb
  clear h hb hn hfv hfb
  go_enter Try.func20, Try.ntmps20
  go_wp2_with fail
  go_loopw [6] (fun i wr => ∃ a : Nat, a ≤ n ∧ i = .int .i64 (a : Int) ∧ (∀ j, j < a → (ps.getD j zeroP).key ≠ t) ∧ wr = w) (fun i _ => (n - intOf i).toNat)
  case atStart => exact ⟨0, by omega, rfl, fun j hj => absurd hj (by omega), rfl⟩
  case round =>
    obtain ⟨a, han, rfl, hlo, rfl⟩ := hrel
    have HL := Lib.hid hlo
    clear hlo
    by_cases hlt : a < n
    · have hlt2 : (a : Int) < (n : Int) := by omega
      obtain ⟨B, o, c', hv, _, _, hcc⟩ := HP.out.pos (by rw [HN.out]; omega)
      rw [HN.out] at hv hcc
      obtain ⟨h1, _, h2⟩ := Value.slice.inj hv
      subst h1 h2
      obtain ⟨g0, g1⟩ := hcc a hlt
      obtain ⟨p, hp⟩ : ∃ z, ps.getD a zeroP = z := ⟨_, rfl⟩
      rw [hp] at g0 g1
      obtain ⟨pk, pv⟩ := p
      simp only at g0 g1
      have HPP := Lib.hid hp
      clear hcc hv hp
      by_cases he : pk = t
      · have hk : findK ps t = a := findK_of (by rw [HN.out]; exact han) HL.out (fun _ => by rw [HPP.out]; exact he)
        have h1 := HV.out
        have h2 := HB.out
        rw [findV, hk, HN.out, if_pos hlt, HPP.out] at h1
        rw [findB, hk, HN.out, decide_eq_true hlt] at h2
        subst h1 h2
        have e1 := eq_tl he
        clear he hk
        go_wp2_with fail
        go_ret2
        exact ⟨rfl, rfl⟩
      · have e1 := ne_tl he
        have HE := Lib.hid he
        clear he
        go_wp2_with fail
        go_roundw
        case rel =>
          refine ⟨a + 1, by omega, by first | go_num | (congr 1; omega), fun j hj => ?_, trivial⟩
          by_cases hja : j = a
          · subst hja; rw [HPP.out]; exact HE.out
          · exact HL.out j (by omega)
        case measure => simp [intOf]; omega
    · obtain rfl : a = n := by omega
      have hk : findK ps t = a := findK_of (by rw [HN.out]; exact han) HL.out (fun h => by rw [HN.out] at h; omega)
      have h1 := HV.out
      have h2 := HB.out
      rw [findV, hk, HN.out, if_neg hlt] at h1
      rw [findB, hk, HN.out, decide_eq_false hlt] at h2
      subst h1 h2
      have hd : decide ((a : Int) < (a : Int)) = false := decide_eq_false (by omega)
      clear hk
      go_wp2_with fail
      go_ret2
      exact ⟨rfl, rfl⟩
end Go.Proofs.Ytdgnpoapkjoknaa
