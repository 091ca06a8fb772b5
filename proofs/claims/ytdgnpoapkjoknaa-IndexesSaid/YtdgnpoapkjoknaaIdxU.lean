/- Pairs spoilt. -/
import Derived.Test.YtdgnpoapkjoknaaIdxS
namespace Go.Proofs.Ytdgnpoapkjoknaa
set_option linter.unusedVariables false
set_option linter.unusedSimpArgs false
open Go.RowKit

theorem flatP_setk (ps : List PairV) (j : Nat) (hj : j < ps.length) (x : ByteArray) : (flatP ps).set (j * 2) (.string x) = flatP (ps.set j ⟨x, (ps.getD j zeroP).val⟩) := by
  induction ps generalizing j with
  | nil => simp at hj
  | cons p ps ih =>
    cases j with
    | zero => rfl
    | succ j =>
      have h := ih j (by simpa using hj)
      rw [List.set_cons_succ, flatP_cons, flatP_cons, List.set_append_right _ _ (by show 2 ≤ _; omega)]
      show cellsP2 p ++ (flatP ps).set ((j + 1) * 2 - 2) _ = _
      rw [show (j + 1) * 2 - 2 = j * 2 by omega, h]
      simp
def KeysUp (ps : List PairV) : Prop := ∀ p ∈ ps, p.key.size ≤ 9223372036854775806
theorem KeysUp.at {ps : List PairV} (h : KeysUp ps) {k : Nat} (hk : k < ps.length) : (ps.getD k zeroP).key.size ≤ 9223372036854775806 := by
  rw [List.getD_eq_getElem?_getD, List.getElem?_eq_getElem hk]
  exact h _ (List.getElem_mem hk)
set_option maxRecDepth 100000 in
set_option maxHeartbeats 4000000 in
theorem spoil_pairs (B : Nat) (v : Value) (ps : List PairV) (w : World) (h : OwnP w B v ps) (hk : KeysUp ps) :
    Calls Try.prog 23 #[v] w fun e w' => e = .returned (.tuple #[]) ∧ w.grownBy w' v.ownBlock := by
  unfold OwnP at h
  by_cases hp : 0 < ps.length
  · obtain ⟨g, cap, rfl, hg, hgl, h1, h2⟩ := h.form hp
    obtain ⟨n, hn⟩ : ∃ n, ps.length = n := ⟨_, rfl⟩
    rw [hn] at h h1 ⊢
    have HO := Lib.hid h
    have HN := Lib.hid hn
    have HK := Lib.hid hk
    have hn2 : n ≤ 9223372036854775807 := by omega
    clear h hn hp hg hgl hk
    go_enter Try.func23, Try.ntmps23
    go_wp2_with fail
    go_loopw [2] (fun i wr => ∃ (k : Nat) (xs : List PairV), k ≤ n ∧ i = .int .i64 k ∧ xs.length = n ∧ (∀ j, k ≤ j → j < n → xs.getD j zeroP = ps.getD j zeroP) ∧ Own wr B 48 2 (.slice (some ⟨g, 0, none⟩) n cap) n (flatP xs) ∧ w.grownBy wr (some g)) (fun i _ => (n - intOf i).toNat)
    case atStart => exact ⟨0, ps, by omega, rfl, HN.out, fun j _ _ => rfl, HO.out, World.grownBy.refl _ _⟩
    case round =>
      obtain ⟨k, xs, hk, rfl, hx, hsame, ho, hb⟩ := hrel
      have HR := Lib.hid ho
      have HB := Lib.hid hb
      have HSM := Lib.hid hsame
      clear ho hb HO hsame
      by_cases hlt : k < n
      · have hlt2 : (k : Int) < (n : Int) := by omega
        have g1 : wr.cell? ⟨g, k * 2, none⟩ = some (.string (xs.getD k zeroP).key) := HR.out.at' (flatP_at xs k (by omega) 0 (by decide))
        have g2 : wr.frozen? ⟨g, k * 2, none⟩ = false := HR.out.free (by omega)
        have hs : (xs.getD k zeroP).key.size ≤ 9223372036854775806 := by rw [HSM.out k (Nat.le_refl _) hlt]; exact HK.out.at (by rw [HN.out]; exact hlt)
        obtain ⟨y, hy⟩ : ∃ y, (xs.getD k zeroP).key = y := ⟨_, rfl⟩
        rw [hy] at g1 hs
        have hst := HR.out.stored (k * 2) (.string (y ++ ⟨#[33]⟩))
        rw [flatP_setk xs k (by omega)] at hst
        have HS := Lib.hid hst
        have HX := Lib.hid hx
        have hno : ¬ 9223372036854775807 < y.size + 1 := by omega
        clear hst hx hy
        go_wp2
        go_roundw
        case rel =>
          refine ⟨k + 1, _, by omega, by go_num, by rw [List.length_set]; exact HX.out, fun j h1 h2 => ?_, HS.out.1, HB.out.trans HS.out.2⟩
          rw [List.getD_eq_getElem?_getD, List.getElem?_set_ne (by omega), ← List.getD_eq_getElem?_getD]
          exact HSM.out j (by omega) h2
        case measure => simp [intOf]; omega
      · go_wp2
        go_end0
        exact ⟨rfl, HB.out⟩
  · obtain ⟨A, c, rfl⟩ := h.slice
    obtain rfl : ps = [] := List.eq_nil_of_length_eq_zero (by omega)
    clear h hp
    go_enter Try.func23, Try.ntmps23
    go_wp2_with fail
    go_loopw [2] (fun i wr => i = .int .i64 0 ∧ wr = w) (fun _ _ => 0)
    case atStart => exact ⟨rfl, rfl⟩
    case round =>
      obtain ⟨rfl, rfl⟩ := hrel
      go_wp2
      go_end0
      exact ⟨rfl, World.grownBy.refl _ _⟩
end Go.Proofs.Ytdgnpoapkjoknaa
