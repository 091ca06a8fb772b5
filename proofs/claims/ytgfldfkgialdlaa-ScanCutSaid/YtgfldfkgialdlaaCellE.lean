/- The plain law of cells; awake. -/
import Derived.Test.YtgfldfkgialdlaaCellD
import Derived.Test.YtgfldfkgialdlaaPairC
namespace Go.Proofs.Ytgfldfkgialdlaa
set_option linter.unusedVariables false
set_option linter.unusedSimpArgs false
open Go.RowKit

theorem u8_eq {a b : UInt8} (h : ∀ i : Nat, i < 8 → a.toBitVec.getLsbD i = b.toBitVec.getLsbD i) : a = b :=
  UInt8.toBitVec_inj.1 (BitVec.eq_of_getLsbD_eq fun i hi => h i hi)
theorem maskB_all (i : Nat) : maskB allB.data.toList i = 255 := by
  rw [allB, str_data, maskB]
  simp [Nat.mod_one]
theorem u8_nand (d : UInt8) : ~~~(255 &&& ~~~d) = d := by
  have h : ∀ d : BitVec 8, ~~~((255 : BitVec 8) &&& ~~~d) = d := by decide
  exact UInt8.toBitVec_inj.1 (h d.toBitVec)
theorem u8_or255 (d : UInt8) : d ||| 255 = 255 := by
  have h : ∀ d : BitVec 8, d ||| (255 : BitVec 8) = 255 := by decide
  exact UInt8.toBitVec_inj.1 (h d.toBitVec)

def gB (a : ByteArray) (j : Nat) : UInt8 := a.data.toList.getD j 0
theorem ext_gB {a b : ByteArray} (h : a.size = b.size) (k : ∀ j, j < a.size → gB a j = gB b j) : a = b := by
  refine ext_str (List.ext_getElem (by rw [data_len, data_len, h]) fun i h1 h2 => ?_)
  have := k i (by rw [← data_len]; exact h1)
  simpa [gB, List.getD_eq_getElem?_getD, List.getElem?_eq_getElem h1, List.getElem?_eq_getElem h2] using this

theorem progL_of {a : ByteArray} {at_ : Int} {d m : ByteArray} (h : progOk a at_ d = true) : progL a at_ d m = str (turnN a.data.toList at_.toNat (progF d.data.toList m.data.toList) d.size) := by rw [progL, h]; rfl
theorem progE_of {a : ByteArray} {at_ : Int} {d : ByteArray} (h : progOk a at_ d = true) : progE a at_ d = 0 := by rw [progE, h]; rfl
theorem erasL_of {a : ByteArray} {x : Int} {m : ByteArray} (h : erasOk a x = true) : erasL a x m = str (turnN a.data.toList (512 * x.toNat) (erasF m.data.toList) 512) := by rw [erasL, h]; rfl
theorem erasE_of {a : ByteArray} {x : Int} (h : erasOk a x = true) : erasE a x = 0 := by rw [erasE, h]; rfl
theorem progE_no {a : ByteArray} {at_ : Int} {d : ByteArray} (h : progOk a at_ d = false) : progE a at_ d = 100 := by rw [progE, h]; rfl
theorem erasE_no {a : ByteArray} {x : Int} (h : erasOk a x = false) : erasE a x = 100 := by rw [erasE, h]; rfl

theorem progL_size {a : ByteArray} {at_ : Int} {d m : ByteArray} (h : progOk a at_ d = true) : (progL a at_ d m).size = 4096 := by
  rw [progL_of h, str_size, turnN_len, data_len]
  exact (progOk_of h).1
theorem erasL_size {a : ByteArray} {x : Int} {m : ByteArray} (h : erasOk a x = true) : (erasL a x m).size = 4096 := by
  rw [erasL_of h, str_size, turnN_len, data_len]
  exact (erasOk_of h).1

theorem progL_get {a : ByteArray} {at_ : Int} {d m : ByteArray} (h : progOk a at_ d = true) (j : Nat) :
    gB (progL a at_ d m) j = if at_.toNat ≤ j ∧ j < at_.toNat + d.size then progF d.data.toList m.data.toList (j - at_.toNat) (gB a j) else gB a j := by
  obtain ⟨h1, h2, h3, h4⟩ := progOk_of h
  rw [gB, progL_of h, str_data, turnN_get _ _ _ _ (by rw [data_len]; omega)]
  rfl
theorem erasL_get {a : ByteArray} {x : Int} {m : ByteArray} (h : erasOk a x = true) (j : Nat) :
    gB (erasL a x m) j = if 512 * x.toNat ≤ j ∧ j < 512 * x.toNat + 512 then erasF m.data.toList (j - 512 * x.toNat) (gB a j) else gB a j := by
  obtain ⟨h1, h2, h3⟩ := erasOk_of h
  rw [gB, erasL_of h, str_data, turnN_get _ _ _ _ (by rw [data_len]; omega)]
  rfl
theorem progF_all (d : List UInt8) (i : Nat) (b : UInt8) : progF d allB.data.toList i b = b &&& d.getD i 0 := by
  rw [progF, maskB_all]
  rw [u8_nand]
theorem erasF_all (i : Nat) (b : UInt8) : erasF allB.data.toList i b = 255 := by
  rw [erasF, maskB_all, u8_or255]

theorem progOk_in {a : ByteArray} {k : Int} {d : ByteArray} (h : a.size = 4096) (h1 : 0 ≤ k) (h2 : k + d.size ≤ 4096) : progOk a k d = true := by
  unfold progOk
  rw [h, decide_eq_true h1, decide_eq_true (by omega : k ≤ 4096), decide_eq_true (by omega : (d.size : Int) ≤ 4096 - k)]
  rfl
theorem erasOk_in {a : ByteArray} {k : Int} (h : a.size = 4096) (h1 : 0 ≤ k) (h2 : k < 8) : erasOk a k = true := by
  unfold erasOk
  rw [h, decide_eq_true h1, decide_eq_true h2]
  rfl
theorem blank_size : (str blankL).size = 4096 := by rw [str_size, blankL_len]
theorem blank_get (j : Nat) (h : j < 4096) : gB (str blankL) j = 255 := by
  rw [gB, str_data, blankL, List.getD_eq_getElem?_getD, List.getElem?_replicate, if_pos h]
  rfl
theorem get_gB (a : ByteArray) (j : Nat) (h : j < a.size) : a[j] = gB a j := by rw [get_data a j h]; rfl

end Go.Proofs.Ytgfldfkgialdlaa
