/- rec: what a first half may be. -/
import Derived.Test.YtgfldfkgialdlaaRecF
import Derived.Deep.QuietTactic
import Derived.BigQuiet
namespace Go.Proofs.Ytgfldfkgialdlaa
set_option linter.unusedVariables false
set_option linter.unusedSimpArgs false
open Go.RowKit

theorem first_byte (t : ByteArray) (h : 1 ≤ t.size) : t.extract 0 1 = str [gH t 0] := by
  rw [ext_list]
  unfold gH
  cases hl : t.data.toList with
  | nil => have := data_len t; rw [hl] at this; simp at this; omega
  | cons a l => rfl
theorem one_eq (y x : UInt8) : ((str [y]).toList == (⟨#[x]⟩ : ByteArray).toList) = decide (y = x) := by
  rw [ByteArray.toList_eq, ByteArray.toList_eq, str_data]
  show ([y] == [x]) = _
  by_cases h : y = x
  · subst h; simp
  · rw [decide_eq_false h]; simp [h]

theorem wrap64_u8 (y : UInt8) : wrap64 (y.toNat : Int) = (y.toNat : Int) := by
  have := y.toNat_lt
  unfold wrap64
  omega
theorem load_rec {W : World} {g : Nat} {a b c d : Value} (h0 : W.cell? ⟨g, 0, none⟩ = some a) (h1 : W.cell? ⟨g, 1, none⟩ = some b) (h2 : W.cell? ⟨g, 2, none⟩ = some c) (h3 : W.cell? ⟨g, 3, none⟩ = some d) :
    (loadVar 23 ⟨g, 0, none⟩).run Try.prog W = .ok (.agg #[a, b, c, d]) W := by
  go_simp
theorem results_rec {fn : Func} {p : Tmp} {tmps : Array Value} {W : World} {g : Nat} {a b c d : Value} (h : fn.results = #[.cell p 23]) (hp : tmps.getD p undef = .pointer (some ⟨g, 0, none⟩))
    (h0 : W.cell? ⟨g, 0, none⟩ = some a) (h1 : W.cell? ⟨g, 1, none⟩ = some b) (h2 : W.cell? ⟨g, 2, none⟩ = some c) (h3 : W.cell? ⟨g, 3, none⟩ = some d) :
    (results fn tmps).run Try.prog W = .ok (.agg #[a, b, c, d]) W := by
  have hp' : tmps[p]?.getD undef = .pointer (some ⟨g, 0, none⟩) := by simpa using hp
  simp [results, h, hp', asAddr, load_rec h0 h1 h2 h3]

theorem Bl.set4 {w W : World} {g : Nat} (h : Below w.heap.size w W) (hg : w.heap.size ≤ g) (a b c d : Value) :
    Below w.heap.size w ((((W.setCell ⟨g, 0, none⟩ a).setCell ⟨g, 1, none⟩ b).setCell ⟨g, 2, none⟩ c).setCell ⟨g, 3, none⟩ d) :=
  ((((h.setCell hg a (p := ⟨g, 0, none⟩)).setCell hg b (p := ⟨g, 1, none⟩)).setCell hg c (p := ⟨g, 2, none⟩)).setCell hg d (p := ⟨g, 3, none⟩))
set_option maxRecDepth 100000 in
set_option maxHeartbeats 4000000 in
theorem taken_any (s : ByteArray) (w : World) (h : s.size = 32) : Calls Try.prog 39 #[.string s] w fun e w' => e = .returned (takenR s).v ∧ Below w.heap.size w w' := by
  have g1 := get_data s 1 (by omega)
  have g2 := get_data s 2 (by omega)
  have e0 := first_byte s (by omega)
  have hg1 : s.data.toList.getD 1 0 = gH s 1 := rfl
  have hg2 : s.data.toList.getD 2 0 = gH s 2 := rfl
  rw [hg1] at g1
  rw [hg2] at g2
  clear hg1 hg2
  obtain ⟨c, hc⟩ : ∃ c, str [gH s 0] = c := ⟨_, rfl⟩
  rw [hc] at e0
  obtain ⟨n1, hn1⟩ : ∃ n, min (gH s 1).toNat 6 = n := ⟨_, rfl⟩
  obtain ⟨n2, hn2⟩ : ∃ n, min (gH s 2).toNat 20 = n := ⟨_, rfl⟩
  obtain ⟨r, hr⟩ : ∃ r, takenR s = r := ⟨_, rfl⟩
  have q0 : (c.toList == [72]) = decide (gH s 0 = 72) := by rw [← hc, ← one_eq, ByteArray.toList_eq ⟨#[72]⟩]
  have q1 : (c.toList == [82]) = decide (gH s 0 = 82) := by rw [← hc, ← one_eq, ByteArray.toList_eq ⟨#[82]⟩]
  have w1 : min (wrap64 ((gH s 1).toNat : Int)) 6 = (n1 : Int) := by rw [wrap64_u8, ← hn1]; omega
  have w2 : min (wrap64 ((gH s 2).toNat : Int)) 20 = (n2 : Int) := by rw [wrap64_u8, ← hn2]; omega
  have b1 : (n1 : Int) ≤ 6 := by omega
  have b2 : (n2 : Int) ≤ 20 := by omega
  rw [hr]
  unfold takenR at hr
  rw [hn1, hn2] at hr
  obtain ⟨m1, hm1⟩ : ∃ m, 4 + n1 = m := ⟨_, rfl⟩
  obtain ⟨m2, hm2⟩ : ∃ m, 10 + n2 = m := ⟨_, rfl⟩
  obtain ⟨x1, hx1⟩ : ∃ x, s.extract 4 m1 = x := ⟨_, rfl⟩
  obtain ⟨x2, hx2⟩ : ∃ x, s.extract 10 m2 = x := ⟨_, rfl⟩
  rw [hm1, hm2, hx1, hx2] at hr
  have i1 : (4 : Int) + (n1 : Int) = (m1 : Int) := by omega
  have i2 : (10 : Int) + (n2 : Int) = (m2 : Int) := by omega
  have j1 : (m1 : Int) ≤ 32 := by omega
  have j2 : (m2 : Int) ≤ 32 := by omega
  have j5 : IntKind.i64.wrap (m1 : Int) = (m1 : Int) := wrap_i64_small (by omega) (by omega)
  have j6 : IntKind.i64.wrap (m2 : Int) = (m2 : Int) := wrap_i64_small (by omega) (by omega)
  have j7 : m1 ≤ 32 := by omega
  have j8 : m2 ≤ 32 := by omega
  have j3 : (4 : Int) ≤ (m1 : Int) := by omega
  have j4 : (10 : Int) ≤ (m2 : Int) := by omega
  clear hn1 hn2 hm1 hm2 hc
  by_cases c0 : gH s 0 = 72
  · rw [if_pos c0] at hr
    rw [decide_eq_true c0] at q0
    obtain ⟨y, hy⟩ : ∃ y, s.extract 1 32 = y := ⟨_, rfl⟩
    have zy : y.size = 31 := by rw [← hy, ByteArray.size_extract]; omega
    have dy : y.data.toList = s.data.toList.drop 1 := by
      rw [← hy, ext_list, str_data, List.take_of_length_le (by rw [List.length_drop, data_len]; omega)]
    obtain ⟨m, hm⟩ : ∃ m, numL y.data.toList = m := ⟨_, rfl⟩
    rw [← dy, hm] at hr
    have HN := Lib.hid (fun w => numb_walk y w (by omega) (by omega))
    rw [hm] at HN
    rw [← hr]
    clear hr q1 hm dy c0
    go_enter Try.func39, Try.ntmps39
    go_wp2_with fail
    go_quiet (fail)
    go_wp2_with fail
    with_reducible refine (HN.out _).mono ?_
    rintro e w3 ⟨rfl, rfl⟩
    go_wp2_with fail
    (try simp only [Exit.inBlock, Exit.then])
    refine bodyPost_ret (results_rec (a := .int .i64 0) (b := .int .i64 m) (c := .string ⟨#[]⟩) (d := .string ⟨#[]⟩) rfl rfl (by go_simp) (by go_simp) (by go_simp) (by go_simp)) rfl ?_
    exact ⟨rfl, Bl.set4 (Bl.drewN (Bl.alloc (Below.refl _ _) _) _) (Nat.le_refl _) _ _ _ _⟩
  · rw [decide_eq_false c0] at q0
    rw [if_neg c0] at hr
    by_cases c1 : gH s 0 = 82
    · rw [decide_eq_true c1] at q1
      rw [if_pos c1] at hr
      rw [← hr]
      clear hr c0 c1
      go_enter Try.func39, Try.ntmps39
      go_wp2_with fail
      go_quiet (fail)
      go_wp2_with fail
      go_region
      go_wp2_with fail
      (try simp only [Exit.inBlock, Exit.then])
      refine bodyPost_ret (results_rec (a := .int .i64 1) (b := .int .i64 0) (c := .string x1) (d := .string x2) rfl rfl (by go_simp) (by go_simp) (by go_simp) (by go_simp)) rfl ?_
      exact ⟨rfl, Bl.set4 (Bl.drewN (Bl.alloc (Below.refl _ _) _) _) (Nat.le_refl _) _ _ _ _⟩
    · rw [decide_eq_false c1] at q1
      rw [if_neg c1] at hr
      rw [← hr]
      clear hr c0 c1
      go_enter Try.func39, Try.ntmps39
      go_wp2_with fail
      go_quiet (fail)
      go_wp2_with fail
      (try simp only [Exit.inBlock, Exit.then])
      refine bodyPost_ret (results_rec (a := .int .i64 2) (b := .int .i64 0) (c := .string x1) (d := .string ⟨#[]⟩) rfl rfl (by go_simp) (by go_simp) (by go_simp) (by go_simp)) rfl ?_
      exact ⟨rfl, Bl.set4 (Bl.drewN (Bl.alloc (Below.refl _ _) _) _) (Nat.le_refl _) _ _ _ _⟩
end Go.Proofs.Ytgfldfkgialdlaa
