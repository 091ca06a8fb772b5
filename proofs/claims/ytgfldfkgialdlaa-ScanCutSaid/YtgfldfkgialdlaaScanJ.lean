/- scan: views alike; records written over. -/
import Derived.Test.YtgfldfkgialdlaaScanH
import Derived.Test.YtgfldfkgialdlaaScanI
namespace Go.Proofs.Ytgfldfkgialdlaa
set_option linter.unusedVariables false
set_option linter.unusedSimpArgs false
open Go.RowKit
theorem scan_any (s : ByteArray) (hs : s.size ≤ 140737488351232) (w : World) : Calls Try.prog 25 #[.string s] w (ScanPost w s) := by
  by_cases h : s.size = 512
  · exact scan_yes s h w
  · exact scan_no s h hs w
theorem rscan_any (s : ByteArray) (hs : s.size ≤ 140737488351232) (w : World) : Calls Try.prog 26 #[.string s] w (ScanPost w s) := by
  by_cases h : s.size = 512
  · exact rscan_yes s h w
  · exact rscan_no s h hs w

set_option maxRecDepth 100000 in
set_option maxHeartbeats 4000000 in
theorem same_view (g : Bool) (ep f : Int) (va vb : Value) (rs : List RecV) (w : World) (ha : RdR w va rs) (hb : RdR w vb rs) :
    Calls Try.prog 29 #[.agg #[.bool g, .int .i64 ep, va, .int .i64 f], .agg #[.bool g, .int .i64 ep, vb, .int .i64 f]] w fun e w' => e = .returned (.bool true) ∧ Below w.heap.size w w' := by
  have HA := Lib.hid ha
  have HB := Lib.hid hb
  obtain ⟨A, c, rfl⟩ := ha.form
  obtain ⟨B, d, rfl⟩ := hb.form
  clear ha hb
  go_enter Try.func29, Try.ntmps29
  go_wp2_with fail
  with_reducible refine (same_recs _ _ rs rs _ (HA.out.below (Bl.alloc (Bl.alloc (Below.refl _ _) _) _)) (HB.out.below (Bl.alloc (Bl.alloc (Below.refl _ _) _) _))).mono ?_
  rw [decide_eq_true (rfl : rs = rs)]
  rintro e w1 ⟨rfl, q, rfl⟩
  go_wp2_with fail
  go_ret
  exact ⟨rfl, Bl.drewN (Bl.alloc (Bl.alloc (Below.refl _ _) _) _) _⟩

theorem flat_set (rs : List RecV) (j : Nat) (hj : j < rs.length) (x : Int) : (flat rs).set (j * 4 + 1) (.int .i64 x) = flat (rs.set j ⟨(rs.getD j zeroR).k, x, (rs.getD j zeroR).key, (rs.getD j zeroR).val⟩) := by
  induction rs generalizing j with
  | nil => simp at hj
  | cons r rs ih =>
    cases j with
    | zero => rfl
    | succ j =>
      have h := ih j (by simpa using hj)
      rw [List.set_cons_succ, flat_cons, flat_cons, List.set_append_right _ _ (by show 4 ≤ _; omega)]
      show cellsR r ++ (flat rs).set ((j + 1) * 4 + 1 - 4) _ = _
      rw [show (j + 1) * 4 + 1 - 4 = j * 4 + 1 by omega, h]
      simp

set_option maxRecDepth 100000 in
set_option maxHeartbeats 4000000 in
theorem spoil_any (B : Nat) (v : Value) (rs : List RecV) (w : World) (h : Own w B 23 4 v rs.length (flat rs)) :
    Calls Try.prog 30 #[v] w fun e w' => e = .returned (.tuple #[]) ∧ w.grownBy w' v.ownBlock := by
  by_cases hp : 0 < rs.length
  · obtain ⟨g, cap, rfl, hg, hgl, h1, h2⟩ := h.form hp
    obtain ⟨n, hn⟩ : ∃ n, rs.length = n := ⟨_, rfl⟩
    rw [hn] at h h1 ⊢
    have HO := Lib.hid h
    have HN := Lib.hid hn
    have hn2 : n ≤ 9223372036854775807 := by omega
    clear h hn hp hg hgl
    go_enter Try.func30, Try.ntmps30
    go_wp2_with fail
    go_loopw [2] (fun i wr => ∃ (k : Nat) (xs : List RecV), k ≤ n ∧ i = .int .i64 k ∧ xs.length = n ∧ Own wr B 23 4 (.slice (some ⟨g, 0, none⟩) n cap) n (flat xs) ∧ w.grownBy wr (some g)) (fun i _ => (n - intOf i).toNat)
    case atStart => exact ⟨0, rs, by omega, rfl, HN.out, HO.out, World.grownBy.refl _ _⟩
    case round =>
      obtain ⟨k, xs, hk, rfl, hx, ho, hb⟩ := hrel
      have HR := Lib.hid ho
      have HB := Lib.hid hb
      clear ho hb HO
      by_cases hlt : k < n
      · have hlt2 : (k : Int) < (n : Int) := by omega
        have g1 : wr.cell? ⟨g, k * 4 + 1, none⟩ = some (.int .i64 (xs.getD k zeroR).e) := HR.out.at' (flat_at xs k (by omega) 1 (by decide))
        have g2 : wr.frozen? ⟨g, k * 4 + 1, none⟩ = false := HR.out.free (by omega)
        have hst := HR.out.stored (k * 4 + 1) (.int .i64 (bits .xor .i64 (xs.getD k zeroR).e 90))
        rw [flat_set xs k (by omega)] at hst
        have HS := Lib.hid hst
        have HX := Lib.hid hx
        clear hst hx
        go_wp2
        go_roundw
        case rel => exact ⟨k + 1, _, by omega, by go_num, by rw [List.length_set]; exact HX.out, HS.out.1, HB.out.trans HS.out.2⟩
        case measure => simp [intOf]; omega
      · go_wp2
        go_end0
        exact ⟨rfl, HB.out⟩
  · obtain ⟨A, c, rfl⟩ := h.slice
    obtain rfl : rs = [] := List.eq_nil_of_length_eq_zero (by omega)
    clear h hp
    go_enter Try.func30, Try.ntmps30
    go_wp2_with fail
    go_loopw [2] (fun i wr => i = .int .i64 0 ∧ wr = w) (fun _ _ => 0)
    case atStart => exact ⟨rfl, rfl⟩
    case round =>
      obtain ⟨rfl, rfl⟩ := hrel
      go_wp2
      go_end0
      exact ⟨rfl, World.grownBy.refl _ _⟩
end Go.Proofs.Ytgfldfkgialdlaa
