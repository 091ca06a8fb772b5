/- rec: the document's Get. -/
import Derived.Test.YtgfldfkgialdlaaRecI
namespace Go.Proofs.Ytgfldfkgialdlaa
set_option linter.unusedVariables false
set_option linter.unusedSimpArgs false
open Go.RowKit
set_option maxRecDepth 100000 in
set_option maxHeartbeats 4000000 in
theorem rgetr_Ra (s t : ByteArray) (out : ByteArray) (f : Int) (ans : RecV) (e1 : Int) (hg : getP s = (t, 0)) (h : t.size = 32) 
    (hP : ∀ w : World, Calls Try.prog 14 #[.agg #[.int .i64 0, .int .i64 0, .string ⟨#[]⟩, .string ⟨#[]⟩]] w fun e w' => e = .returned (.tuple #[.string out, .int .i64 f]) ∧ Below w.heap.size w w')
    (ha : (f = 0 ∧ out = s ∧ ans = ⟨0, 0, ⟨#[]⟩, ⟨#[]⟩⟩ ∧ e1 = 0) ∨ (f = 0 ∧ out ≠ s ∧ ans = zeroR ∧ e1 = 1900) ∨ (f = 1900 ∧ ans = zeroR ∧ e1 = 1900)) (c0 : ¬ gH t 0 = 72) (c1 : gH t 0 = 82) (l1 : ¬ (gH t 1).toNat ≤ 6) (w : World) :
    Calls Try.prog 16 #[.string s] w fun e w' => e = .returned (.tuple #[ans.v, .int .i64 e1]) ∧ Below w.heap.size w w' := by
  have g0 := get_data t 0 (by omega)
  have g1 := get_data t 1 (by omega)
  have g2 := get_data t 2 (by omega)
  have hg0 : t.data.toList.getD 0 0 = gH t 0 := rfl
  have hg1 : t.data.toList.getD 1 0 = gH t 1 := rfl
  have hg2 : t.data.toList.getD 2 0 = gH t 2 := rfl
  rw [hg0] at g0
  rw [hg1] at g1
  rw [hg2] at g2
  clear hg0 hg1 hg2
  have b1 : ((gH t 1).toNat : Int) < 256 := by have := (gH t 1).toNat_lt; omega
  have b2 : ((gH t 2).toNat : Int) < 256 := by have := (gH t 2).toNat_lt; omega
  have v0 : (gH t 0).toNat = 82 := by rw [c1]; rfl
  obtain ⟨n1, en1⟩ : ∃ n, (gH t 1).toNat = n := ⟨_, rfl⟩
  obtain ⟨n2, en2⟩ : ∃ n, (gH t 2).toNat = n := ⟨_, rfl⟩
  rw [en1] at b1
  rw [en2] at b2
  have HG := Lib.hid hg
  have HP := Lib.hid hP
  have HA := Lib.hid ha
  clear hg hP ha
  have a1 : ¬ (n1 : Int) ≤ 6 := by omega
  clear c0 c1 l1
  go_enter Try.func16, Try.ntmps16
  go_wp2_with fail
  with_reducible refine (rget_any _ _).mono ?_
  rw [HG.out]
  rintro e w1 ⟨rfl, hb⟩
  have B1 := Lib.hid (Bl.then (Bl.alloc (Below.refl _ _) _) hb)
  have X1 := Lib.hid (Bx.below (Bx.new w (.int .i64 0) (.int .i64 0) (.string ⟨#[]⟩) (.string ⟨#[]⟩) 23) hb)
  clear hb
  go_wp2_with fail
  go_quiet (fail)
  go_wp2_with fail
  with_reducible refine (HP.out _).mono ?_
  rintro e w3 ⟨rfl, hb⟩
  have B3 := Lib.hid (Bl.then (Bl.then B1.out (Bl.drewN (Bl.alloc (Below.refl _ _) _) _)) hb)
  obtain ⟨⟨c0, c1, c2, c3⟩, f0, f1, f2, f3⟩ := Bx.below (Bx.below X1.out (Bl.drewN (Bl.alloc (Below.refl _ _) _) _)) hb
  obtain ⟨d0, d1, d2, d3⟩ : w3.cell? ⟨w1.heap.size, 0, none⟩ = some (.int .i64 0) ∧ w3.cell? ⟨w1.heap.size, 1, none⟩ = some (.int .i64 0) ∧ w3.cell? ⟨w1.heap.size, 2, none⟩ = some (.string ⟨#[]⟩) ∧ w3.cell? ⟨w1.heap.size, 3, none⟩ = some (.string ⟨#[]⟩) := kept4 hb (by refine ⟨?_, ?_, ?_, ?_⟩ <;> go_simp)
  clear hb X1 B1
  rcases HA.out with ⟨rfl, rfl, rfl, rfl⟩ | ⟨rfl, hne, rfl, rfl⟩ | ⟨rfl, rfl, rfl⟩
  · go_wp2_with fail
    (try simp only [Exit.inBlock, Exit.then])
    refine bodyPost_ret (results_rec2 (a := .int .i64 0) (b := .int .i64 0) (c := .string ⟨#[]⟩) (d := .string ⟨#[]⟩) rfl rfl (by go_simp) (by go_simp) (by go_simp) (by go_simp)) rfl ?_
    exact ⟨rfl, Bl.set4 B3.out (Nat.le_refl _) _ _ _ _⟩
  · have hn := ne_tl hne
    clear hne
    go_wp2_with fail
    (try simp only [Exit.inBlock, Exit.then])
    refine bodyPost_ret (results_rec2 (a := .int .i64 0) (b := .int .i64 0) (c := .string ⟨#[]⟩) (d := .string ⟨#[]⟩) rfl rfl (by go_simp) (by go_simp) (by go_simp) (by go_simp)) rfl ?_
    exact ⟨rfl, Bl.set4 B3.out (Nat.le_refl _) _ _ _ _⟩
  · go_wp2_with fail
    (try simp only [Exit.inBlock, Exit.then])
    refine bodyPost_ret (results_rec2 (a := .int .i64 0) (b := .int .i64 0) (c := .string ⟨#[]⟩) (d := .string ⟨#[]⟩) rfl rfl (by go_simp) (by go_simp) (by go_simp) (by go_simp)) rfl ?_
    exact ⟨rfl, Bl.set4 B3.out (Nat.le_refl _) _ _ _ _⟩
end Go.Proofs.Ytgfldfkgialdlaa
