/- Acts are written over. -/
import Derived.Test.YtfdbolnifjpbhaaDoorScZA
namespace Go.Proofs.YtfdbolnifjpbhaaDoor
set_option linter.unusedVariables false
set_option linter.unusedSimpArgs false
open Go.RowKit

/-- A row of numbers that a call has made: whatever they are. -/
def IRow (W : World) (B : Nat) (v : Value) (n : Nat) : Prop :=
  (v = .slice none 0 0 ∧ n = 0) ∨ ∃ g cap cur fz, v = .slice (some ⟨g, 0, none⟩) n cap ∧ B ≤ g ∧ W.heap[g]? = some (.cells cur 3 fz) ∧ (cur.size ≤ fz.1 ∨ fz.2 = 0) ∧ n ≤ cap ∧ cap ≤ maxLen ∧ cur.size = cap ∧ ∀ j, j < n → ∃ z : Int, cur[j]? = some (.int .i64 z)
theorem IRow.own {W : World} {B : Nat} {v : Value} {n : Nat} {xs : List Int} (h : Own W B 3 1 v n (nums xs)) : IRow W B v n := by
  rcases h.2 with h0 | ⟨g, cap, cur, fz, rfl, hb, hg, hf, h1, h2, h3, h4⟩
  · exact .inl h0
  · refine .inr ⟨g, cap, cur, fz, rfl, hb, hg, hf, h1, h2, by omega, fun j hj => ?_⟩
    have hl : xs.length = n := by have := h.1; simp [nums] at this; exact this
    have h5 : (cur.toList.take (n * 1))[j]? = some (.int .i64 (xs.getD j 0)) := by rw [h4]; exact nums_at (by omega)
    rw [List.getElem?_take, if_pos (by omega), Array.getElem?_toList] at h5
    exact ⟨_, h5⟩
/-- Numbers have been written into rows of numbers, at B or behind it. -/
structure IntSt (B : Nat) (W W' : World) : Prop where
  bl : Below B W W'
  sz : W'.heap.size = W.heap.size
  rows : ∀ v n, IRow W B v n → IRow W' B v n
  others : ∀ (g : Nat) (c : Array Value) (t : TypeId) (f : Nat × Nat), W.heap[g]? = some (.cells c t f) → t ≠ 3 → W'.heap[g]? = some (.cells c t f)
theorem IntSt.refl (B : Nat) (W : World) : IntSt B W W := ⟨Below.refl _ _, rfl, fun _ _ h => h, fun _ _ _ _ h _ => h⟩
theorem IntSt.trans {B : Nat} {W W1 W2 : World} (h : IntSt B W W1) (k : IntSt B W1 W2) : IntSt B W W2 :=
  ⟨h.bl.trans k.bl, k.sz.trans h.sz, fun v n hv => k.rows v n (h.rows v n hv), fun g c t f hg ht => k.others g c t f (h.others g c t f hg ht) ht⟩
theorem IRow.set {W : World} {B : Nat} {v : Value} {n : Nat} (h : IRow W B v n) (q j : Nat) (z : Int) : IRow (W.setCell ⟨q, j, none⟩ (.int .i64 z)) B v n := by
  rcases h with h0 | ⟨g, cap, cur, fz, rfl, hb, hg, hf, h1, h2, h3, h4⟩
  · exact .inl h0
  · by_cases hq : g = q
    · subst hq
      refine .inr ⟨g, cap, cur.setIfInBounds j (.int .i64 z), fz, rfl, hb, ?_, by simpa using hf, h1, h2, by simpa using h3, fun i hi => ?_⟩
      · rw [setCell_eq_setRow W g j cur 3 fz _ hg]
        exact setRow_heap W g cur _ 3 fz hg
      · obtain ⟨y, hy⟩ := h4 i hi
        rw [Array.getElem?_setIfInBounds]
        split
        · exact ⟨z, by rw [if_pos (by omega)]⟩
        · exact ⟨y, hy⟩
    · exact .inr ⟨g, cap, cur, fz, rfl, hb, by rw [heap_setCell_other W ⟨q, j, none⟩ g _ hq]; exact hg, hf, h1, h2, h3, h4⟩
theorem IntSt.set {B : Nat} {W : World} {g j : Nat} {c : Array Value} {f : Nat × Nat} (z : Int) (hg : W.heap[g]? = some (.cells c 3 f)) (hb : B ≤ g) : IntSt B W (W.setCell ⟨g, j, none⟩ (.int .i64 z)) :=
  ⟨⟨rfl, rfl, rfl, by simp, fun i hi => heap_setCell_other W ⟨g, j, none⟩ i _ (by show i ≠ g; omega)⟩, by simp, fun v n hv => hv.set g j z, fun q c' t f' hq ht => by
    rw [heap_setCell_other W ⟨g, j, none⟩ q _ (by
      show q ≠ g
      rintro rfl
      rw [hq] at hg
      simp only [Option.some.injEq, Obj.cells.injEq] at hg
      exact ht hg.2.1)]
    exact hq⟩
theorem Own.intst {B B' : Nat} {W W' : World} {e : TypeId} {size n : Nat} {v : Value} {xs : List Value} (h : Own W B' e size v n xs) (k : IntSt B W W') (he : e ≠ 3) : Own W' B' e size v n xs := by
  refine ⟨h.1, ?_⟩
  rcases h.2 with h0 | ⟨g, cap, cur, fz, rfl, hb, hg, rest⟩
  · exact .inl h0
  · exact .inr ⟨g, cap, cur, fz, rfl, hb, k.others g cur e fz hg he, rest⟩
theorem IRow.kept {W W' : World} {B : Nat} {v : Value} {n : Nat} (h : IRow W B v n) {r : Option Nat} (hg : W.grownBy W' r) {B' n' size' : Nat} {e' : TypeId} {v' : Value} {xs' : List Value} (ho : Own W B' e' size' v' n' xs') (hr : r = v'.ownBlock) (he : e' ≠ 3) : IRow W' B v n := by
  rcases h with h0 | ⟨g, cap, cur, fz, rfl, hb, hgg, rest⟩
  · exact .inl h0
  · refine .inr ⟨g, cap, cur, fz, rfl, hb, ?_, rest⟩
    rw [hg.block g (Array.getElem?_eq_some_iff.1 hgg).1 (fun e => ?_)]
    · exact hgg
    · rw [hr] at e
      rcases ho.2 with ⟨rfl, _⟩ | ⟨g', cap', cur', fz', rfl, _, hg', _⟩
      · simp [Value.ownBlock] at e
      · simp only [Value.ownBlock, Option.some.injEq] at e
        subst e
        rw [hgg] at hg'
        simp only [Option.some.injEq, Obj.cells.injEq] at hg'
        exact he hg'.2.1.symm
theorem IRow.form {W : World} {B : Nat} {v : Value} {n : Nat} (h : IRow W B v n) : ∃ A c, v = .slice A n c := by
  rcases h with ⟨rfl, rfl⟩ | ⟨g, cap, cur, fz, rfl, _⟩
  · exact ⟨_, _, rfl⟩
  · exact ⟨_, _, rfl⟩
set_option maxRecDepth 100000 in
set_option maxHeartbeats 4000000 in
theorem spoil_row (B : Nat) (v : Value) (n : Nat) (w : World) (h : IRow w B v n) :
    Calls Tryd.prog 33 #[v] w fun e w' => e = .returned (.tuple #[]) ∧ IntSt B w w' := by
  rcases h with ⟨rfl, rfl⟩ | ⟨g, cap, cur, fz, rfl, hb, hg, hf, h1, h2, h3, h4⟩
  · go_enter Tryd.func33, Tryd.ntmps33
    go_wp2_with fail
    go_loopw [2] (fun i wr => i = .int .i64 0 ∧ wr = w) (fun _ _ => 0)
    case atStart => exact ⟨rfl, rfl⟩
    case round =>
      obtain ⟨rfl, rfl⟩ := hrel
      go_wp2
      go_end0
      exact ⟨rfl, IntSt.refl _ _⟩
  · have HI := Lib.hid (show IRow w B (.slice (some ⟨g, 0, none⟩) n cap) n from .inr ⟨g, cap, cur, fz, rfl, hb, hg, hf, h1, h2, h3, h4⟩)
    have HB := Lib.hid hb
    have hn2 : n ≤ 9223372036854775807 := by unfold maxLen at h2; omega
    clear hb hg hf h1 h2 h3 h4
    go_enter Tryd.func33, Tryd.ntmps33
    go_wp2_with fail
    go_loopw [2] (fun i wr => ∃ (k : Nat), k ≤ n ∧ i = .int .i64 k ∧ IntSt B w wr) (fun i _ => (n - intOf i).toNat)
    case atStart => exact ⟨0, by omega, rfl, IntSt.refl _ _⟩
    case round =>
      obtain ⟨k, hk, rfl, hs⟩ := hrel
      have HS := Lib.hid hs
      have hI := hs.rows _ _ HI.out
      clear hs
      by_cases hlt : k < n
      · have hlt2 : (k : Int) < (n : Int) := by omega
        rcases hI with ⟨h0, _⟩ | ⟨g', cap', cur', fz', hv, hb', hg', hf', h1', h2', h3', h4'⟩
        · cases h0
        · simp only [Value.slice.injEq, Option.some.injEq, Addr.mk.injEq, and_true, true_and] at hv
          obtain ⟨rfl, rfl⟩ := hv
          obtain ⟨x, hx⟩ := h4' k hlt
          have g1 : wr.cell? ⟨g, k, none⟩ = some (.int .i64 x) := by rw [cell_of_row wr g k cur' _ fz' hg']; exact hx
          have g2 : wr.frozen? ⟨g, k, none⟩ = false := by
            obtain ⟨lo, hi⟩ := fz'
            simp only [World.frozen?, hg', Bool.and_eq_false_iff, decide_eq_false_iff_not]
            simp only at hf'
            omega
          have HN := Lib.hid (HS.out.trans (IntSt.set (j := k) (wrap64 (-9 - x)) hg' hb'))
          clear hg' hf' h1' h2' h3' h4' hx hb'
          go_wp2
          go_roundw
          case rel => exact ⟨k + 1, by omega, by go_num, HN.out⟩
          case measure => simp [intOf]; omega
      · clear hI
        go_wp2
        go_end0
        exact ⟨rfl, HS.out⟩
theorem flatA_set (rs : List ActM) (j : Nat) (hj : j < rs.length) (key : ByteArray) (m' : ActM) (hm : cellsA m' = (cellsA (rs.getD j zeroM)).set 1 (.string key)) : (flatA rs).set (j * 9 + 1) (.string key) = flatA (rs.set j m') := by
  induction rs generalizing j with
  | nil => simp at hj
  | cons r rs ih =>
    cases j with
    | zero =>
      rw [List.set_cons_zero, flatA_cons, flatA_cons, hm]
      rw [List.set_append_left _ _ (by show 0 * 9 + 1 < 9; decide)]
      rfl
    | succ j =>
      have h := ih j (by simpa using hj) (by simpa using hm)
      rw [List.set_cons_succ, flatA_cons, flatA_cons, List.set_append_right _ _ (by show 9 ≤ _; omega)]
      show cellsA r ++ (flatA rs).set ((j + 1) * 9 + 1 - 9) _ = _
      rw [show (j + 1) * 9 + 1 - 9 = j * 9 + 1 by omega, h]
/-- What stands as acts are written over. -/
structure SpA (w : World) (B : Nat) (v : Value) (n k : Nat) (ms : List ActM) (W : World) : Prop where
  own : Own W B 38 9 v n (flatA ms)
  rows : ∀ m ∈ ms, IRow W B m.bv m.a.busy.length ∧ IRow W B m.rv m.a.reads.length
  keys : ∀ j, k ≤ j → j < n → (ms.getD j zeroM).a.key.size ≤ 140737488351232
  bl : Below B w W
  sz : w.heap.size ≤ W.heap.size
  len : ms.length = n
theorem SpA.ints {w : World} {B : Nat} {v : Value} {n k : Nat} {ms : List ActM} {W W' : World} (h : SpA w B v n k ms W) (hi : IntSt B W W') : SpA w B v n k ms W' :=
  ⟨h.own.intst hi (by decide), fun m hm => ⟨hi.rows _ _ (h.rows m hm).1, hi.rows _ _ (h.rows m hm).2⟩, h.keys, h.bl.trans hi.bl, by rw [hi.sz]; exact h.sz, h.len⟩
theorem SpA.key {w : World} {B : Nat} {g n cap k : Nat} {ms : List ActM} {W : World} (h : SpA w B (.slice (some ⟨g, 0, none⟩) n cap) n k ms W) (hk : k < n) (key : ByteArray) (m' : ActM) (hm : cellsA m' = (cellsA (ms.getD k zeroM)).set 1 (.string key)) (hb : IRow W B m'.bv m'.a.busy.length) (hr : IRow W B m'.rv m'.a.reads.length) :
    SpA w B (.slice (some ⟨g, 0, none⟩) n cap) n (k + 1) (ms.set k m') (W.setCell ⟨g, k * 9 + 1, none⟩ (.string key)) := by
  obtain ⟨k1, k2⟩ := h.own.stored (k * 9 + 1) (.string key)
  rw [flatA_set ms k (by rw [h.len]; exact hk) key m' hm] at k1
  have hbg := h.own.base g rfl
  refine ⟨k1, fun m hmm => ?_, fun j h1 h2 => ?_, h.bl.trans ⟨k2.os, k2.tape, k2.output, k2.size, fun i hi => k2.block i (Nat.lt_of_lt_of_le hi (Nat.le_of_lt (Nat.lt_of_le_of_lt hbg (h.own.lt g rfl).2))) (by simp; omega)⟩, Nat.le_trans h.sz k2.size, by rw [List.length_set]; exact h.len⟩
  · rcases List.mem_or_eq_of_mem_set hmm with hmm | rfl
    · exact ⟨(h.rows m hmm).1.kept k2 h.own rfl (by decide), (h.rows m hmm).2.kept k2 h.own rfl (by decide)⟩
    · exact ⟨hb.kept k2 h.own rfl (by decide), hr.kept k2 h.own rfl (by decide)⟩
  · rw [List.getD_eq_getElem?_getD, List.getElem?_set_ne (by omega), ← List.getD_eq_getElem?_getD]
    exact h.keys j (by omega) h2
set_option maxRecDepth 100000 in
set_option maxHeartbeats 4000000 in
theorem spoil_acts (B : Nat) (v : Value) (ms : List ActM) (w : World) (h : OwnA w B v ms) (hz : ∀ m ∈ ms, m.a.key.size ≤ 140737488351232) :
    Calls Tryd.prog 16 #[v] w fun e w' => e = .returned (.tuple #[]) ∧ Below B w w' ∧ w.heap.size ≤ w'.heap.size := by
  have h0 : SpA w B v ms.length 0 ms w := ⟨h.1, fun m hm => ⟨IRow.own (h.2 m hm).1, IRow.own (h.2 m hm).2⟩, fun j _ hj => hz _ (getD_memM hj), Below.refl _ _, Nat.le_refl _, rfl⟩
  by_cases hp : 0 < ms.length
  · obtain ⟨g, cap, rfl, hg, hgl, h1, h2⟩ := h.1.form hp
    obtain ⟨n, hn⟩ : ∃ n, ms.length = n := ⟨_, rfl⟩
    rw [hn] at h0 h1 ⊢
    have H0 := Lib.hid h0
    have hn2 : n ≤ 9223372036854775807 := by omega
    clear h h0 hn hp hg hgl hz
    go_enter Tryd.func16, Tryd.ntmps16
    go_wp2_with fail
    go_loopw [2] (fun i wr => ∃ (k : Nat) (xs : List ActM), k ≤ n ∧ i = .int .i64 k ∧ SpA w B (.slice (some ⟨g, 0, none⟩) n cap) n k xs wr) (fun i _ => (n - intOf i).toNat)
    case atStart => exact ⟨0, ms, by omega, rfl, H0.out⟩
    case round =>
      obtain ⟨k, xs, hk, rfl, hs⟩ := hrel
      have HS := Lib.hid hs
      clear hs H0
      by_cases hlt : k < n
      · have hlt2 : (k : Int) < (n : Int) := by omega
        have hrow := HS.out.rows _ (getD_memM (j := k) (by rw [HS.out.len]; exact hlt))
        have hkey := HS.out.keys k (Nat.le_refl _) hlt
        have hat : ∀ (W : World) (_ : SpA w B (.slice (some ⟨g, 0, none⟩) n cap) n k xs W) (i : Nat) (_ : i < 9) (u : Value) (_ : (cellsA (xs.getD k zeroM))[i]? = some u), W.cell? ⟨g, k * 9 + i, none⟩ = some u := fun W hW i hi u hu => hW.own.at' (by rw [flatA_at xs k (by rw [hW.len]; exact hlt) i hi]; exact hu)
        have hput : ∀ (W : World) (_ : SpA w B (.slice (some ⟨g, 0, none⟩) n cap) n k xs W) (key : ByteArray) (m' : ActM) (hm : cellsA m' = (cellsA (xs.getD k zeroM)).set 1 (.string key)) (hb : IRow W B m'.bv m'.a.busy.length) (hr : IRow W B m'.rv m'.a.reads.length), SpA w B (.slice (some ⟨g, 0, none⟩) n cap) n (k + 1) (xs.set k m') (W.setCell ⟨g, k * 9 + 1, none⟩ (.string key)) := fun W hW key m' hm hb hr => hW.key hlt key m' hm hb hr
        have hrows : ∀ (W : World) (hW : SpA w B (.slice (some ⟨g, 0, none⟩) n cap) n k xs W), IRow W B (xs.getD k zeroM).bv (xs.getD k zeroM).a.busy.length ∧ IRow W B (xs.getD k zeroM).rv (xs.getD k zeroM).a.reads.length := fun W hW => hW.rows _ (getD_memM (j := k) (by rw [hW.len]; exact hlt))
        obtain ⟨m, hm⟩ : ∃ m, xs.getD k zeroM = m := ⟨_, rfl⟩
        rw [hm] at hrow hkey hat hput hrows
        obtain ⟨⟨kd, key, val, pl, wd, ls, mask, busy, reads⟩, bv, rv⟩ := m
        obtain ⟨A1, c1, rfl⟩ : ∃ A c, bv = .slice A busy.length c := hrow.1.form
        obtain ⟨A2, c2, rfl⟩ : ∃ A c, rv = .slice A reads.length c := hrow.2.form
        simp only at hkey hrows
        have HAT := Lib.hid hat
        have HPUT := Lib.hid hput
        have HROWS := Lib.hid hrows
        have S1 := Lib.hid (fun (W : World) (hW : SpA w B (.slice (some ⟨g, 0, none⟩) n cap) n k xs W) => spoil_row B _ _ W (hrows W hW).1)
        have S2 := Lib.hid (fun (W : World) (hW : SpA w B (.slice (some ⟨g, 0, none⟩) n cap) n k xs W) => spoil_row B _ _ W (hrows W hW).2)
        have z1 : ¬ 9223372036854775807 < key.size + 1 := by omega
        have g7 : wr.cell? ⟨g, k * 9 + 7, none⟩ = some (.slice A1 busy.length c1) := HAT.out wr HS.out 7 (by decide) _ rfl
        have HLT := Lib.hid hlt
        clear hrow hkey hat hput hrows hm
        go_wp2_with (first
          | (go_at_call 33; with_reducible refine (S2.out _ K1.out).mono ?_; rintro e w2 ⟨rfl, hi⟩; have K2 := Lib.hid (K1.out.ints hi); clear hi; have g1 := HAT.out w2 K2.out 1 (by decide) _ rfl; have f1 : w2.frozen? ⟨g, k * 9 + 1, none⟩ = false := K2.out.own.free (by have := HLT.out; have := K2.out.own.caps.1; omega))
          | (go_at_call 33; with_reducible refine (S1.out _ HS.out).mono ?_; rintro e w1 ⟨rfl, hi⟩; have K1 := Lib.hid (HS.out.ints hi); clear hi; have g8 := HAT.out w1 K1.out 8 (by decide) _ rfl))
        go_roundw
        case rel => exact ⟨k + 1, _, HLT.out, by go_num, HPUT.out w2 K2.out _ ⟨⟨kd, key ++ ⟨#[33]⟩, val, pl, wd, ls, mask, busy, reads⟩, .slice A1 busy.length c1, .slice A2 reads.length c2⟩ rfl (HROWS.out w2 K2.out).1 (HROWS.out w2 K2.out).2⟩
        case measure => have := HLT.out; simp [intOf]; omega
      · go_wp2
        go_end0
        exact ⟨rfl, HS.out.bl, HS.out.sz⟩
  · obtain ⟨A, c, rfl⟩ := h.1.slice
    obtain rfl : ms = [] := List.eq_nil_of_length_eq_zero (by omega)
    clear h h0 hp hz
    go_enter Tryd.func16, Tryd.ntmps16
    go_wp2_with fail
    go_loopw [2] (fun i wr => i = .int .i64 0 ∧ wr = w) (fun _ _ => 0)
    case atStart => exact ⟨rfl, rfl⟩
    case round =>
      obtain ⟨rfl, rfl⟩ := hrel
      go_wp2
      go_end0
      exact ⟨rfl, Below.refl _ _, Nat.le_refl _⟩
end Go.Proofs.YtfdbolnifjpbhaaDoor
