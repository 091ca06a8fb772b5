/- The plain law of cells: twice, over, parts. -/
import Derived.Test.YtgfldfkgialdlaaCellE
namespace Go.Proofs.Ytgfldfkgialdlaa
set_option linter.unusedVariables false
set_option linter.unusedSimpArgs false
open Go.RowKit

theorem u8_over (b d m : UInt8) : (b &&& ~~~(m &&& ~~~d)) &&& d = b &&& d := by
  refine u8_eq fun i hi => ?_
  simp only [UInt8.toBitVec_and, UInt8.toBitVec_not, BitVec.getLsbD_and, BitVec.getLsbD_not, hi, decide_true, Bool.true_and]
  generalize b.toBitVec.getLsbD i = p
  generalize d.toBitVec.getLsbD i = q
  generalize m.toBitVec.getLsbD i = r
  revert p q r; decide
theorem u8_twice (b d : UInt8) : (b &&& d) &&& d = b &&& d := by rw [UInt8.and_assoc, UInt8.and_self]
theorem u8_swap (b x y : UInt8) : (b &&& x) &&& y = (b &&& y) &&& x := by rw [UInt8.and_assoc, UInt8.and_comm x, ← UInt8.and_assoc]

theorem prog_over {a : ByteArray} {k : Int} {d : ByteArray} (h : progOk a k d = true) (m : ByteArray) : progL (progL a k d m) k d allB = progL a k d allB := by
  obtain ⟨h1, h2, h3, h4⟩ := progOk_of h
  have o : progOk (progL a k d m) k d = true := progOk_in (progL_size h) h2 (by omega)
  refine ext_gB (by rw [progL_size o, progL_size h]) fun j hj => ?_
  rw [progL_get o, progL_get h, progL_get h]
  split
  · rw [progF_all, progF_all, progF, u8_over]
  · rfl
theorem prog_comm {a : ByteArray} {k : Int} {x y : ByteArray} (h : progOk a k x = true) (g : progOk a k y = true) : progL (progL a k x allB) k y allB = progL (progL a k y allB) k x allB := by
  obtain ⟨h1, h2, h3, h4⟩ := progOk_of h
  obtain ⟨g1, g2, g3, g4⟩ := progOk_of g
  have o : progOk (progL a k x allB) k y = true := progOk_in (progL_size h) h2 (by omega)
  have p : progOk (progL a k y allB) k x = true := progOk_in (progL_size g) h2 (by omega)
  refine ext_gB (by rw [progL_size o, progL_size p]) fun j hj => ?_
  rw [progL_get o, progL_get p, progL_get h, progL_get g]
  simp only [progF_all]
  split <;> split
  · rw [u8_swap]
  · rfl
  · rfl
  · rfl
theorem eras_over {a : ByteArray} {k : Int} (h : erasOk a k = true) (m : ByteArray) : erasL (erasL a k m) k allB = erasL a k allB := by
  obtain ⟨h1, h2, h3⟩ := erasOk_of h
  have o : erasOk (erasL a k m) k = true := erasOk_in (erasL_size h) h2 h3
  refine ext_gB (by rw [erasL_size o, erasL_size h]) fun j hj => ?_
  rw [erasL_get o, erasL_get h, erasL_get h]
  split
  · rw [erasF_all, erasF_all]
  · rfl
theorem eras_comm {a : ByteArray} {k i : Int} (h : erasOk a k = true) (g : erasOk a i = true) : erasL (erasL a k allB) i allB = erasL (erasL a i allB) k allB := by
  obtain ⟨h1, h2, h3⟩ := erasOk_of h
  obtain ⟨g1, g2, g3⟩ := erasOk_of g
  have o : erasOk (erasL a k allB) i = true := erasOk_in (erasL_size h) g2 g3
  have p : erasOk (erasL a i allB) k = true := erasOk_in (erasL_size g) h2 h3
  refine ext_gB (by rw [erasL_size o, erasL_size p]) fun j hj => ?_
  rw [erasL_get o, erasL_get p, erasL_get h, erasL_get g]
  simp only [erasF_all]
  split <;> split <;> rfl
theorem ext_data (d : ByteArray) (i j : Nat) (h : j ≤ d.size) : (d.extract i j).size = j - i := by
  rw [ByteArray.size_extract, Nat.min_eq_left h]
theorem ext_gBx (d : ByteArray) (i j n : Nat) (h : j ≤ d.size) (hn : n < j - i) : gB (d.extract i j) n = gB d (i + n) := by
  rw [gB, gB, ByteArray.data_extract, Array.toList_extract, List.getD_eq_getElem?_getD, List.getD_eq_getElem?_getD]
  simp [List.getElem?_take, hn]
theorem prog_parts {a : ByteArray} {k c : Int} {d : ByteArray} (h : progOk a k d = true) (c0 : 0 ≤ c) (c1 : c ≤ d.size) :
    progL (progL a k (d.extract 0 c.toNat) allB) (k + c) (d.extract c.toNat d.size) allB = progL a k d allB := by
  obtain ⟨h1, h2, h3, h4⟩ := progOk_of h
  have s1 := ext_data d 0 c.toNat (by omega)
  have s2 := ext_data d c.toNat d.size (by omega)
  have g : progOk a k (d.extract 0 c.toNat) = true := progOk_in h1 h2 (by omega)
  have o : progOk (progL a k (d.extract 0 c.toNat) allB) (k + c) (d.extract c.toNat d.size) = true := progOk_in (progL_size g) (by omega) (by omega)
  refine ext_gB (by rw [progL_size o, progL_size h]) fun j hj => ?_
  rw [progL_get o, progL_get h, progL_get g, s1, s2]
  simp only [progF_all]
  have e : (k + c).toNat = k.toNat + c.toNat := by omega
  rw [e]
  by_cases c2 : k.toNat ≤ j ∧ j < k.toNat + d.size
  · rw [if_pos c2]
    by_cases c3 : j < k.toNat + c.toNat
    · rw [if_neg (by omega), if_pos (by omega)]
      have := ext_gBx d 0 c.toNat (j - k.toNat) (by omega) (by omega)
      rw [Nat.zero_add] at this
      exact congrArg (fun z => gB a j &&& z) this
    · rw [if_pos (by omega), if_neg (by omega)]
      have := ext_gBx d c.toNat d.size (j - (k.toNat + c.toNat)) (by omega) (by omega)
      rw [show c.toNat + (j - (k.toNat + c.toNat)) = j - k.toNat by omega] at this
      exact congrArg (fun z => gB a j &&& z) this
  · rw [if_neg c2, if_neg (by omega), if_neg (by omega)]
end Go.Proofs.Ytgfldfkgialdlaa
