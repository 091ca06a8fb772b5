/- rec: the document's Get. -/
import Derived.Test.YtgfldfkgialdlaaRecH
namespace Go.Proofs.Ytgfldfkgialdlaa
set_option linter.unusedVariables false
set_option linter.unusedSimpArgs false
open Go.RowKit
theorem takenD_keys (t : ByteArray) (h : t.size = 32) : (takenD t).key.size ≤ 9223372036854775807 ∧ (takenD t).val.size ≤ 9223372036854775807 := by
  have z : nilB.size ≤ 9223372036854775807 := by decide
  have x : ∀ a b, (t.extract a b).size ≤ 9223372036854775807 := fun a b => by rw [ByteArray.size_extract]; omega
  unfold takenD
  split
  · exact ⟨z, z⟩
  · split
    · split
      · exact ⟨x _ _, x _ _⟩
      · exact ⟨z, z⟩
    · split
      · split
        · exact ⟨x _ _, z⟩
        · exact ⟨z, z⟩
      · exact ⟨z, z⟩
theorem numL_take (l : List UInt8) : numL (l.take 4) = numL l := by
  unfold numL
  have h : ∀ i, i < 4 → (l.take 4).getD i 0 = l.getD i 0 := fun i hi => by
    rw [List.getD_eq_getElem?_getD, List.getD_eq_getElem?_getD, List.getElem?_take, if_pos hi]
  rw [h 0 (by decide), h 1 (by decide), h 2 (by decide), h 3 (by decide)]
theorem u8n {y n : UInt8} (h : ¬ y = n) : ¬ y.toNat = n.toNat := fun e => h (UInt8.toNat_inj.1 e)

set_option maxRecDepth 100000 in
set_option maxHeartbeats 4000000 in
theorem rgetr_none (s x : ByteArray) (hg : getP s = (x, 200)) (w : World) : Calls Try.prog 16 #[.string s] w fun e w' => e = .returned (.tuple #[zeroR.v, .int .i64 1900]) ∧ Below w.heap.size w w' := by
  have HG := Lib.hid hg
  clear hg
  go_enter Try.func16, Try.ntmps16
  go_wp2_with fail
  with_reducible refine (rget_any s _).mono ?_
  rw [HG.out]
  rintro e w1 ⟨rfl, hb⟩
  have B1 := Lib.hid (Bl.then (Bl.alloc (Below.refl _ _) _) hb)
  obtain ⟨⟨c0, c1, c2, c3⟩, f0, f1, f2, f3⟩ := Bx.below (Bx.new w (.int .i64 0) (.int .i64 0) (.string ⟨#[]⟩) (.string ⟨#[]⟩) 23) hb
  clear hb
  go_wp2_with fail
  (try simp only [Exit.inBlock, Exit.then])
  refine bodyPost_ret (results_rec2 (a := .int .i64 0) (b := .int .i64 0) (c := .string ⟨#[]⟩) (d := .string ⟨#[]⟩) rfl rfl (by go_simp) (by go_simp) (by go_simp) (by go_simp)) rfl ?_
  exact ⟨rfl, Bl.set4 B1.out (Nat.le_refl _) _ _ _ _⟩

end Go.Proofs.Ytgfldfkgialdlaa
