/- The statement IndexForms: the law, the walk. -/
import Derived.Test.YtdgnpoapkjoknaaIdxN
import Derived.BigRegion
import Derived.Deep.RegionHeld3
namespace Go.Proofs.Ytdgnpoapkjoknaa
set_option linter.unusedVariables false
set_option linter.unusedSimpArgs false
open Go.RowKit

def goodF : RecV := ⟨1, 0, ⟨#[97]⟩, ⟨#[98]⟩⟩
def badsF : List RecV := [⟨0, 0, nilB, nilB⟩, ⟨0, 1, nilB, nilB⟩, ⟨1, 0, nilB, nilB⟩, ⟨2, 0, ⟨#[116, 111, 111, 108, 111, 110, 103]⟩, nilB⟩, ⟨3, 0, ⟨#[97]⟩, nilB⟩]
def rowF (j : Nat) : List PairV := if j = 0 then [⟨⟨#[98]⟩, nilB⟩, ⟨⟨#[97]⟩, nilB⟩] else if j = 1 then [⟨⟨#[97]⟩, nilB⟩, ⟨⟨#[97]⟩, nilB⟩] else [⟨⟨#[97]⟩, nilB⟩, ⟨⟨#[99]⟩, nilB⟩, ⟨⟨#[98]⟩, nilB⟩]
theorem badsF_no : ∀ i : Fin 5, buildE [goodF, badsF.getD i.1 zeroR] = 2100 ∧ withE [] (badsF.getD i.1 zeroR) = 2100 ∧ (badsF.getD i.1 zeroR).key.size ≤ 7 ∧ (badsF.getD i.1 zeroR).val.size ≤ 7 := by decide +kernel
theorem rowF_no : ∀ j : Fin 3, withE (rowF j.1) goodF = 2100 := by decide +kernel
theorem nilF : buildE [] = 0 ∧ buildL [] = [] := by decide +kernel
theorem findF : findB [] nilB = false ∧ findB [⟨⟨#[97]⟩, ⟨#[49]⟩⟩, ⟨⟨#[97]⟩, ⟨#[50]⟩⟩] ⟨#[97]⟩ = true ∧ findV [⟨⟨#[97]⟩, ⟨#[49]⟩⟩, ⟨⟨#[97]⟩, ⟨#[50]⟩⟩] ⟨#[97]⟩ = ⟨#[49]⟩ ∧ findV [] nilB = nilB := by decide +kernel
theorem rowF_len (j : Nat) : (rowF j).length ≤ 3 := by unfold rowF; split; · decide
                                                       · split <;> decide
theorem rem_fin (x n : Int) (h0 : 0 < n) (h1 : n < 9223372036854775808) : ∃ r : Int, wrap64 ((IntKind.u64.wrap x).tmod n) = r ∧ 0 ≤ r ∧ r < n := by
  have hu : 0 ≤ IntKind.u64.wrap x := by
    simp only [IntKind.wrap, IntKind.signed, IntKind.bits]
    exact Int.emod_nonneg _ (by decide)
  rw [Int.tmod_eq_emod_of_nonneg hu]
  have a := Int.emod_nonneg (IntKind.u64.wrap x) (show n ≠ 0 by omega)
  have b := Int.emod_lt_of_pos (IntKind.u64.wrap x) h0
  exact ⟨IntKind.u64.wrap x % n, IntWalk.wrap64_in _ ⟨by omega, by omega⟩, a, b⟩
theorem keep9 {W0 w w' : World} {g j g2 : Nat} {V a b c d : Value} (h : w.cell? ⟨g, j, none⟩ = some V ∧ (w.cell? ⟨g2, 0, none⟩ = some a ∧ w.cell? ⟨g2, 1, none⟩ = some b ∧ w.cell? ⟨g2, 2, none⟩ = some c ∧ w.cell? ⟨g2, 3, none⟩ = some d) ∧ Below W0.heap.size W0 w) (hb : Below w.heap.size w w') :
    w'.cell? ⟨g, j, none⟩ = some V ∧ (w'.cell? ⟨g2, 0, none⟩ = some a ∧ w'.cell? ⟨g2, 1, none⟩ = some b ∧ w'.cell? ⟨g2, 2, none⟩ = some c ∧ w'.cell? ⟨g2, 3, none⟩ = some d) ∧ Below W0.heap.size W0 w' := by
  have k : ∀ (ad : Addr) (v : Value), w.cell? ad = some v → w'.cell? ad = some v := fun ad v h => (hb.cell (World.block_lt_of_cell? _ _ h)).trans h
  exact ⟨k _ _ h.1, ⟨k _ _ h.2.1.1, k _ _ h.2.1.2.1, k _ _ h.2.1.2.2.1, k _ _ h.2.1.2.2.2⟩, Bl.then h.2.2 hb⟩
theorem rows9 (w4 : World) (j : Nat) (hj : j < 3) : ∃ A n, ((((w4.alloc (Obj.cells #[.string ⟨#[98]⟩, .string ⟨#[]⟩, .string ⟨#[97]⟩, .string ⟨#[]⟩] 48)).alloc (Obj.cells #[.string ⟨#[97]⟩, .string ⟨#[]⟩, .string ⟨#[97]⟩, .string ⟨#[]⟩] 48)).alloc (Obj.cells #[.string ⟨#[97]⟩, .string ⟨#[]⟩, .string ⟨#[99]⟩, .string ⟨#[]⟩, .string ⟨#[98]⟩, .string ⟨#[]⟩] 48)).alloc (Obj.cells #[.slice (some ⟨w4.heap.size, 0, none⟩) 2 2, .slice (some ⟨w4.heap.size + 1, 0, none⟩) 2 2, .slice (some ⟨w4.heap.size + 1 + 1, 0, none⟩) 3 3] 23)).cell? ⟨w4.heap.size + 1 + 1 + 1, j, none⟩ = some (.slice A n n) ∧ RdP ((((w4.alloc (Obj.cells #[.string ⟨#[98]⟩, .string ⟨#[]⟩, .string ⟨#[97]⟩, .string ⟨#[]⟩] 48)).alloc (Obj.cells #[.string ⟨#[97]⟩, .string ⟨#[]⟩, .string ⟨#[97]⟩, .string ⟨#[]⟩] 48)).alloc (Obj.cells #[.string ⟨#[97]⟩, .string ⟨#[]⟩, .string ⟨#[99]⟩, .string ⟨#[]⟩, .string ⟨#[98]⟩, .string ⟨#[]⟩] 48)).alloc (Obj.cells #[.slice (some ⟨w4.heap.size, 0, none⟩) 2 2, .slice (some ⟨w4.heap.size + 1, 0, none⟩) 2 2, .slice (some ⟨w4.heap.size + 1 + 1, 0, none⟩) 3 3] 23)) (.slice A n n) (rowF j) := by
  have c : ∀ i : Nat, ((((w4.alloc (Obj.cells #[.string ⟨#[98]⟩, .string ⟨#[]⟩, .string ⟨#[97]⟩, .string ⟨#[]⟩] 48)).alloc (Obj.cells #[.string ⟨#[97]⟩, .string ⟨#[]⟩, .string ⟨#[97]⟩, .string ⟨#[]⟩] 48)).alloc (Obj.cells #[.string ⟨#[97]⟩, .string ⟨#[]⟩, .string ⟨#[99]⟩, .string ⟨#[]⟩, .string ⟨#[98]⟩, .string ⟨#[]⟩] 48)).alloc (Obj.cells #[.slice (some ⟨w4.heap.size, 0, none⟩) 2 2, .slice (some ⟨w4.heap.size + 1, 0, none⟩) 2 2, .slice (some ⟨w4.heap.size + 1 + 1, 0, none⟩) 3 3] 23)).cell? ⟨w4.heap.size + 1 + 1 + 1, i, none⟩ = #[.slice (some ⟨w4.heap.size, 0, none⟩) 2 2, .slice (some ⟨w4.heap.size + 1, 0, none⟩) 2 2, .slice (some ⟨w4.heap.size + 1 + 1, 0, none⟩) 3 3][i]? := fun i => by
    have h := cell_of_row _ _ i _ _ _ (heap_alloc_new (((w4.alloc (Obj.cells #[.string ⟨#[98]⟩, .string ⟨#[]⟩, .string ⟨#[97]⟩, .string ⟨#[]⟩] 48)).alloc (Obj.cells #[.string ⟨#[97]⟩, .string ⟨#[]⟩, .string ⟨#[97]⟩, .string ⟨#[]⟩] 48)).alloc (Obj.cells #[.string ⟨#[97]⟩, .string ⟨#[]⟩, .string ⟨#[99]⟩, .string ⟨#[]⟩, .string ⟨#[98]⟩, .string ⟨#[]⟩] 48)) (Obj.cells #[.slice (some ⟨w4.heap.size, 0, none⟩) 2 2, .slice (some ⟨w4.heap.size + 1, 0, none⟩) 2 2, .slice (some ⟨w4.heap.size + 1 + 1, 0, none⟩) 3 3] 23))
    simpa using h
  match j, hj with
  | 0, _ => exact ⟨_, 2, c 0, (RdP.lit w4 (rowF 0) 2 w4.heap.size rfl rfl (by decide) 48).below (Bl.alloc (Bl.alloc (Bl.alloc (Below.refl _ _) _) _) _)⟩
  | 1, _ => exact ⟨_, 2, c 1, (RdP.lit (w4.alloc (Obj.cells #[.string ⟨#[98]⟩, .string ⟨#[]⟩, .string ⟨#[97]⟩, .string ⟨#[]⟩] 48)) (rowF 1) 2 (w4.heap.size + 1) (by simp) rfl (by decide) 48).below (Bl.alloc (Bl.alloc (Below.refl _ _) _) _)⟩
  | 2, _ => exact ⟨_, 3, c 2, (RdP.lit ((w4.alloc (Obj.cells #[.string ⟨#[98]⟩, .string ⟨#[]⟩, .string ⟨#[97]⟩, .string ⟨#[]⟩] 48)).alloc (Obj.cells #[.string ⟨#[97]⟩, .string ⟨#[]⟩, .string ⟨#[97]⟩, .string ⟨#[]⟩] 48)) (rowF 2) 3 (w4.heap.size + 1 + 1) (by simp) rfl (by decide) 48).below (Bl.alloc (Below.refl _ _) _)⟩
set_option maxRecDepth 100000 in
set_option maxHeartbeats 4000000 in
theorem IndexForms_walk (w : World) (which : Int) (_ : -9223372036854775808 ≤ which ∧ which ≤ 9223372036854775807) :
    Calls Try.prog 5 #[.int .i64 which] w fun e w' => e = .returned (.bool true) ∧ Below w.heap.size w w' := by
  obtain ⟨i, hq, i0, i1⟩ := rem_fin which 5 (by decide) (by decide)
  obtain ⟨i, rfl⟩ := Int.eq_ofNat_of_zero_le i0
  obtain ⟨j, hq2, j0, j1⟩ := rem_fin which 3 (by decide) (by decide)
  obtain ⟨j, rfl⟩ := Int.eq_ofNat_of_zero_le j0
  have hi : i < 5 := by omega
  have hj : j < 3 := by omega
  have HNO := Lib.hid (badsF_no ⟨i, hi⟩)
  have HRO := Lib.hid (rowF_no ⟨j, hj⟩)
  go_enter Try.func5, Try.ntmps5
  go_wp2_with fail
  refine (awake21 _).mono ?_
  rintro e w1 ⟨rfl, hb⟩
  have B1 := Lib.hid hb
  clear hb
  have RB := RdR.lit (w1.alloc (Obj.cells #[.int .i64 1, .int .i64 0, .string ⟨#[97]⟩, .string ⟨#[98]⟩] 25)) badsF 5 (w1.heap.size + 1) (by simp) rfl (by decide) 25
  obtain ⟨b, o, c', hv, _, _, hcc⟩ := RB.pos (by show 0 < 5; decide)
  obtain ⟨h1, -, -⟩ := Value.slice.inj hv
  obtain ⟨rfl, rfl⟩ := Addr.mk.inj (Option.some.inj h1) |> fun h => And.intro h.1 h.2.1
  obtain ⟨g0, g1, g2, g3⟩ := hcc i hi
  obtain ⟨r, hr⟩ : ∃ r, badsF.getD i zeroR = r := ⟨_, rfl⟩
  rw [hr] at g0 g1 g2 g3 HNO
  obtain ⟨k, e0, key, val⟩ := r
  rw [Nat.zero_add] at g0 g1 g2 g3
  have g0 : ((w1.alloc (Obj.cells #[.int .i64 1, .int .i64 0, .string ⟨#[97]⟩, .string ⟨#[98]⟩] 25)).alloc (Obj.cells #[.int .i64 0, .int .i64 0, .string ⟨#[]⟩, .string ⟨#[]⟩, .int .i64 0, .int .i64 1, .string ⟨#[]⟩, .string ⟨#[]⟩, .int .i64 1, .int .i64 0, .string ⟨#[]⟩, .string ⟨#[]⟩, .int .i64 2, .int .i64 0, .string ⟨#[116, 111, 111, 108, 111, 110, 103]⟩, .string ⟨#[]⟩, .int .i64 3, .int .i64 0, .string ⟨#[97]⟩, .string ⟨#[]⟩] 25)).cell? ⟨w1.heap.size + 1, i * 4, none⟩ = some (.int .i64 k) := g0
  have g1 : ((w1.alloc (Obj.cells #[.int .i64 1, .int .i64 0, .string ⟨#[97]⟩, .string ⟨#[98]⟩] 25)).alloc (Obj.cells #[.int .i64 0, .int .i64 0, .string ⟨#[]⟩, .string ⟨#[]⟩, .int .i64 0, .int .i64 1, .string ⟨#[]⟩, .string ⟨#[]⟩, .int .i64 1, .int .i64 0, .string ⟨#[]⟩, .string ⟨#[]⟩, .int .i64 2, .int .i64 0, .string ⟨#[116, 111, 111, 108, 111, 110, 103]⟩, .string ⟨#[]⟩, .int .i64 3, .int .i64 0, .string ⟨#[97]⟩, .string ⟨#[]⟩] 25)).cell? ⟨w1.heap.size + 1, i * 4 + 1, none⟩ = some (.int .i64 e0) := g1
  have g2 : ((w1.alloc (Obj.cells #[.int .i64 1, .int .i64 0, .string ⟨#[97]⟩, .string ⟨#[98]⟩] 25)).alloc (Obj.cells #[.int .i64 0, .int .i64 0, .string ⟨#[]⟩, .string ⟨#[]⟩, .int .i64 0, .int .i64 1, .string ⟨#[]⟩, .string ⟨#[]⟩, .int .i64 1, .int .i64 0, .string ⟨#[]⟩, .string ⟨#[]⟩, .int .i64 2, .int .i64 0, .string ⟨#[116, 111, 111, 108, 111, 110, 103]⟩, .string ⟨#[]⟩, .int .i64 3, .int .i64 0, .string ⟨#[97]⟩, .string ⟨#[]⟩] 25)).cell? ⟨w1.heap.size + 1, i * 4 + 2, none⟩ = some (.string key) := g2
  have g3 : ((w1.alloc (Obj.cells #[.int .i64 1, .int .i64 0, .string ⟨#[97]⟩, .string ⟨#[98]⟩] 25)).alloc (Obj.cells #[.int .i64 0, .int .i64 0, .string ⟨#[]⟩, .string ⟨#[]⟩, .int .i64 0, .int .i64 1, .string ⟨#[]⟩, .string ⟨#[]⟩, .int .i64 1, .int .i64 0, .string ⟨#[]⟩, .string ⟨#[]⟩, .int .i64 2, .int .i64 0, .string ⟨#[116, 111, 111, 108, 111, 110, 103]⟩, .string ⟨#[]⟩, .int .i64 3, .int .i64 0, .string ⟨#[97]⟩, .string ⟨#[]⟩] 25)).cell? ⟨w1.heap.size + 1, i * 4 + 3, none⟩ = some (.string val) := g3
  have X1 := Lib.hid (Bx.below (Bx.new w1 (.int .i64 1) (.int .i64 0) (.string ⟨#[97]⟩) (.string ⟨#[98]⟩) 25) (Bl.alloc (Below.refl _ _) (Obj.cells #[.int .i64 0, .int .i64 0, .string ⟨#[]⟩, .string ⟨#[]⟩, .int .i64 0, .int .i64 1, .string ⟨#[]⟩, .string ⟨#[]⟩, .int .i64 1, .int .i64 0, .string ⟨#[]⟩, .string ⟨#[]⟩, .int .i64 2, .int .i64 0, .string ⟨#[116, 111, 111, 108, 111, 110, 103]⟩, .string ⟨#[]⟩, .int .i64 3, .int .i64 0, .string ⟨#[97]⟩, .string ⟨#[]⟩] 25)))
  have B2 := Lib.hid (Bl.alloc (Bl.alloc B1.out (Obj.cells #[.int .i64 1, .int .i64 0, .string ⟨#[97]⟩, .string ⟨#[98]⟩] 25)) (Obj.cells #[.int .i64 0, .int .i64 0, .string ⟨#[]⟩, .string ⟨#[]⟩, .int .i64 0, .int .i64 1, .string ⟨#[]⟩, .string ⟨#[]⟩, .int .i64 1, .int .i64 0, .string ⟨#[]⟩, .string ⟨#[]⟩, .int .i64 2, .int .i64 0, .string ⟨#[116, 111, 111, 108, 111, 110, 103]⟩, .string ⟨#[]⟩, .int .i64 3, .int .i64 0, .string ⟨#[97]⟩, .string ⟨#[]⟩] 25))
  clear hcc hv h1 RB B1
  have hi2 : (i : Int) < 5 := by omega
  obtain ⟨w2, hw2⟩ : ∃ z, ((w1.alloc (Obj.cells #[.int .i64 1, .int .i64 0, .string ⟨#[97]⟩, .string ⟨#[98]⟩] 25)).alloc (Obj.cells #[.int .i64 0, .int .i64 0, .string ⟨#[]⟩, .string ⟨#[]⟩, .int .i64 0, .int .i64 1, .string ⟨#[]⟩, .string ⟨#[]⟩, .int .i64 1, .int .i64 0, .string ⟨#[]⟩, .string ⟨#[]⟩, .int .i64 2, .int .i64 0, .string ⟨#[116, 111, 111, 108, 111, 110, 103]⟩, .string ⟨#[]⟩, .int .i64 3, .int .i64 0, .string ⟨#[97]⟩, .string ⟨#[]⟩] 25)) = z := ⟨_, rfl⟩
  rw [hw2] at g0 g1 g2 g3
  have X1 := Lib.hid (show Bx w2 w1.heap.size (.int .i64 1) (.int .i64 0) (.string ⟨#[97]⟩) (.string ⟨#[98]⟩) by rw [← hw2]; exact X1.out)
  have B2 := Lib.hid (show Below w.heap.size w w2 by rw [← hw2]; exact B2.out)
  obtain ⟨⟨x0, x1, x2, x3⟩, -⟩ := Bx.below X1.out (Bl.alloc (Below.refl _ _) (Obj.cells #[.int .i64 k, .int .i64 e0, .string key, .string val] 25))
  obtain ⟨⟨y0, y1, y2, y3⟩, -⟩ := Bx.new w2 (.int .i64 k) (.int .i64 e0) (.string key) (.string val) 25
  have hsz : key.size ≤ 7 ∧ val.size ≤ 7 := HNO.out.2.2
  have bn := fun (w : World) (v : Value) (h : RdR w v [goodF, ⟨k, e0, key, val⟩]) => build_any w v [goodF, ⟨k, e0, key, val⟩] h (by show (2 + 1) * 32 ≤ 140737488355328; decide) (fun r hr => by
    simp only [List.mem_cons, List.not_mem_nil, or_false] at hr
    rcases hr with rfl | rfl
    · exact ⟨by decide, by decide⟩
    · exact ⟨by show key.size ≤ _; omega, by show val.size ≤ _; omega⟩)
  rw [HNO.out.1] at bn
  have wn := fun (w : World) (v : Value) (h : RdP w v []) => with_any w v [] ⟨k, e0, key, val⟩ h (by decide) (by show key.size ≤ _; omega) (by show val.size ≤ _; omega)
  rw [HNO.out.2.1] at wn
  have wr := fun (w : World) (v : Value) (h : RdP w v (rowF j)) => with_any w v (rowF j) goodF h (by have := rowF_len j; omega) (by decide) (by decide)
  rw [HRO.out] at wr
  have BN := Lib.hid bn
  have WN := Lib.hid wn
  have WR := Lib.hid wr
  change Hid (∀ (w : World) (v : Value), RdP w v [] → Calls Try.prog 17 #[v, .agg #[.int .i64 k, .int .i64 e0, .string key, .string val]] w _) at WN
  change Hid (∀ (w : World) (v : Value), RdP w v (rowF j) → Calls Try.prog 17 #[v, .agg #[.int .i64 1, .int .i64 0, .string ⟨#[97]⟩, .string ⟨#[98]⟩]] w _) at WR
  clear bn wn wr hsz HNO HRO
  go_wp2_with fail
  refine (BN.out _ _ (RdR.lit (w2.alloc (Obj.cells #[.int .i64 k, .int .i64 e0, .string key, .string val] 25)) [goodF, ⟨k, e0, key, val⟩] 2 (w2.heap.size + 1) (by simp) rfl (by decide) 25)).mono ?_
  rintro e w3 ⟨v3, rfl, o3, hb⟩
  have B3 := Lib.hid (Bl.then (Bl.alloc (Bl.alloc B2.out (Obj.cells #[.int .i64 k, .int .i64 e0, .string key, .string val] 25)) _) hb)
  have X3 := Lib.hid (Bx.below X1.out (Bl.then (Bl.alloc (Bl.alloc (Below.refl _ _) (Obj.cells #[.int .i64 k, .int .i64 e0, .string key, .string val] 25)) _) hb))
  have Y3 := Lib.hid (Bx.below (Bx.new w2 (.int .i64 k) (.int .i64 e0) (.string key) (.string val) 25) (Bl.then (Bl.alloc (Below.refl _ _) _) hb))
  obtain ⟨A3, c3, rfl⟩ := Own.slice o3
  clear o3 hb x0 x1 x2 x3 y0 y1 y2 y3 g0 g1 g2 g3 hw2 X1 B2 BN
  obtain ⟨⟨y0, y1, y2, y3⟩, -⟩ := Y3.out
  go_wp2_with fail
  refine (WN.out _ _ (RdP.nil _)).mono ?_
  rintro e w4 ⟨v4, rfl, o4, hb⟩
  have B4 := Lib.hid (Bl.then B3.out hb)
  have X4 := Lib.hid (Bx.below X3.out hb)
  obtain ⟨A4, c4, rfl⟩ := Own.slice o4
  clear o4 hb y0 y1 y2 y3 Y3 X3 B3 WN
  go_wp2_with fail
  obtain ⟨A9, n9, gp, rp⟩ := rows9 w4 j hj
  have B9 := Lib.hid (Bl.alloc (Bl.alloc (Bl.alloc (Bl.alloc B4.out (Obj.cells #[.string ⟨#[98]⟩, .string ⟨#[]⟩, .string ⟨#[97]⟩, .string ⟨#[]⟩] 48)) (Obj.cells #[.string ⟨#[97]⟩, .string ⟨#[]⟩, .string ⟨#[97]⟩, .string ⟨#[]⟩] 48)) (Obj.cells #[.string ⟨#[97]⟩, .string ⟨#[]⟩, .string ⟨#[99]⟩, .string ⟨#[]⟩, .string ⟨#[98]⟩, .string ⟨#[]⟩] 48)) (Obj.cells #[.slice (some ⟨w4.heap.size, 0, none⟩) 2 2, .slice (some ⟨w4.heap.size + 1, 0, none⟩) 2 2, .slice (some ⟨w4.heap.size + 1 + 1, 0, none⟩) 3 3] 23))
  have X9 := Lib.hid (Bx.below X4.out (Bl.alloc (Bl.alloc (Bl.alloc (Bl.alloc (Below.refl _ _) (Obj.cells #[.string ⟨#[98]⟩, .string ⟨#[]⟩, .string ⟨#[97]⟩, .string ⟨#[]⟩] 48)) (Obj.cells #[.string ⟨#[97]⟩, .string ⟨#[]⟩, .string ⟨#[97]⟩, .string ⟨#[]⟩] 48)) (Obj.cells #[.string ⟨#[97]⟩, .string ⟨#[]⟩, .string ⟨#[99]⟩, .string ⟨#[]⟩, .string ⟨#[98]⟩, .string ⟨#[]⟩] 48)) (Obj.cells #[.slice (some ⟨w4.heap.size, 0, none⟩) 2 2, .slice (some ⟨w4.heap.size + 1, 0, none⟩) 2 2, .slice (some ⟨w4.heap.size + 1 + 1, 0, none⟩) 3 3] 23)))
  generalize ((((w4.alloc (Obj.cells #[.string ⟨#[98]⟩, .string ⟨#[]⟩, .string ⟨#[97]⟩, .string ⟨#[]⟩] 48)).alloc (Obj.cells #[.string ⟨#[97]⟩, .string ⟨#[]⟩, .string ⟨#[97]⟩, .string ⟨#[]⟩] 48)).alloc (Obj.cells #[.string ⟨#[97]⟩, .string ⟨#[]⟩, .string ⟨#[99]⟩, .string ⟨#[]⟩, .string ⟨#[98]⟩, .string ⟨#[]⟩] 48)).alloc (Obj.cells #[.slice (some ⟨w4.heap.size, 0, none⟩) 2 2, .slice (some ⟨w4.heap.size + 1, 0, none⟩) 2 2, .slice (some ⟨w4.heap.size + 1 + 1, 0, none⟩) 3 3] 23)) = W9 at *
  generalize w4.heap.size + 1 + 1 + 1 = g9 at *
  have RP := Lib.hid rp
  have SH := Lib.hid (show W9.drew.cell? ⟨g9, j, none⟩ = some (.slice A9 n9 n9) ∧ (W9.drew.cell? ⟨w1.heap.size, 0, none⟩ = some (.int .i64 1) ∧ W9.drew.cell? ⟨w1.heap.size, 1, none⟩ = some (.int .i64 0) ∧ W9.drew.cell? ⟨w1.heap.size, 2, none⟩ = some (.string ⟨#[97]⟩) ∧ W9.drew.cell? ⟨w1.heap.size, 3, none⟩ = some (.string ⟨#[98]⟩)) ∧ Below W9.heap.size W9 W9.drew from ⟨gp, X9.out.1, Bl.drewN (Below.refl _ _) 1⟩)
  clear rp gp X4 B4
  have q1 : 0 ≤ wrap64 ((IntKind.u64.wrap which).tmod 3) := by rw [hq2]; omega
  have q2 : wrap64 ((IntKind.u64.wrap which).tmod 3) < 3 := by rw [hq2]; omega
  have q3 : (wrap64 ((IntKind.u64.wrap which).tmod 3)).toNat = j := by rw [hq2]; rfl
  have r1 : (0 : Int) ≤ IntKind.i64.wrap ((IntKind.u64.wrap which).tmod 3) := by rw [IntWalk.i64_left]; exact q1
  have r2 : IntKind.i64.wrap ((IntKind.u64.wrap which).tmod 3) < 3 := by rw [IntWalk.i64_left]; exact q2
  have r3 : (IntKind.i64.wrap ((IntKind.u64.wrap which).tmod 3)).toNat = j := by rw [IntWalk.i64_left]; exact q3
  have r4 : IntKind.i64.wrap ((IntKind.u64.wrap which).tmod 3) ≤ 3 := by rw [IntWalk.i64_left]; exact Int.le_of_lt q2
  clear hq2 hq
  go_region_held3 (fun w' => w'.cell? ⟨g9, j, none⟩ = some (.slice A9 n9 n9) ∧ (w'.cell? ⟨w1.heap.size, 0, none⟩ = some (.int .i64 1) ∧ w'.cell? ⟨w1.heap.size, 1, none⟩ = some (.int .i64 0) ∧ w'.cell? ⟨w1.heap.size, 2, none⟩ = some (.string ⟨#[97]⟩) ∧ w'.cell? ⟨w1.heap.size, 3, none⟩ = some (.string ⟨#[98]⟩)) ∧ Below W9.heap.size W9 w') (first | exact SH.out | assumption | exact hs2)
    ((go_at_call 17; refine (WR.out _ _ (RP.out.below SH.out.2.2)).mono ?_; rintro e w10 ⟨v10, rfl, o10, hb⟩; have hs2 := keep9 SH.out hb; obtain ⟨A10, c10, rfl⟩ := Own.slice o10; clear o10 hb))
  have bz := fun (w : World) => build_any w (.slice none 0 0) [] (RdR.nil w) (by decide) (fun r hr => by simp at hr)
  rw [nilF.1, nilF.2] at bz
  have f1 := fun (w : World) => find_any w (.slice none 0 0) [] nilB (RdP.nil w) (by decide)
  rw [findF.1, findF.2.2.2] at f1
  have f2 := fun (w : World) (v : Value) (h : RdP w v [⟨⟨#[97]⟩, ⟨#[49]⟩⟩, ⟨⟨#[97]⟩, ⟨#[50]⟩⟩]) => find_any w v [⟨⟨#[97]⟩, ⟨#[49]⟩⟩, ⟨⟨#[97]⟩, ⟨#[50]⟩⟩] ⟨#[97]⟩ h (by decide)
  rw [findF.2.1, findF.2.2.1] at f2
  have BZ := Lib.hid bz
  have F1 := Lib.hid f1
  have F2 := Lib.hid f2
  have B10 := Lib.hid (Bl.then B9.out (show Below W9.heap.size W9 w10 from hs2.2.2))
  clear bz f1 f2 hs2 SH RP WR B9 X9 q1 q2 q3 r1 r2 r3 r4
  go_wp2_with fail
  refine (BZ.out _).mono ?_
  rintro e w11 ⟨v11, rfl, o11, hb⟩
  have B11 := Lib.hid (Bl.then B10.out hb)
  obtain ⟨A11, c11, rfl⟩ := Own.slice o11
  clear o11 hb B10 BZ
  go_wp2_with fail
  refine (F1.out _).mono ?_
  rintro e w12 ⟨rfl, hb⟩
  have B12 := Lib.hid (Bl.then B11.out hb)
  clear hb B11 F1
  go_wp2_with fail
  refine (F2.out _ _ (RdP.lit w12 [⟨⟨#[97]⟩, ⟨#[49]⟩⟩, ⟨⟨#[97]⟩, ⟨#[50]⟩⟩] 2 w12.heap.size rfl rfl (by decide) 48)).mono ?_
  rintro e w13 ⟨rfl, hb⟩
  have B13 := Lib.hid (Bl.then (Bl.alloc B12.out _) hb)
  clear hb B12 F2
  go_wp2_with (go_at_call 22; refine (num_any _ _).mono ?_; rintro e w' ⟨rfl, rfl⟩)
  go_ret
  exact ⟨rfl, B13.out⟩
end Go.Proofs.Ytdgnpoapkjoknaa
