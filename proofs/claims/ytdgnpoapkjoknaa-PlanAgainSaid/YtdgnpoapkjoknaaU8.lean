/- Bytes under Go's bit operations. -/
import Derived.Laws.Entries
import Derived.WalkKit
namespace Go.Proofs.Ytdgnpoapkjoknaa
set_option linter.unusedVariables false
set_option linter.unusedSimpArgs false
open Go.RowKit
theorem u8_wrap (n : Nat) (h : n < 256) : IntKind.u8.wrap (n : Int) = (n : Int) := by
  simp [IntKind.wrap, IntKind.bits, IntKind.signed]
  omega
theorem u8_bv (b : UInt8) : BitVec.ofInt IntKind.u8.bits (b.toNat : Int) = b.toBitVec := by
  rw [BitVec.ofInt_natCast]
  exact BitVec.ofNat_toNat ..
theorem u8_and (a b : UInt8) : bits .and .u8 (a.toNat : Int) (b.toNat : Int) = ((a &&& b).toNat : Int) := by
  unfold bits
  simp only [u8_bv]
  exact u8_wrap _ (a &&& b).toNat_lt
theorem u8_or (a b : UInt8) : bits .or .u8 (a.toNat : Int) (b.toNat : Int) = ((a ||| b).toNat : Int) := by
  unfold bits
  simp only [u8_bv]
  exact u8_wrap _ (a ||| b).toNat_lt
theorem u8_xor (a b : UInt8) : bits .xor .u8 (a.toNat : Int) (b.toNat : Int) = ((a ^^^ b).toNat : Int) := by
  unfold bits
  simp only [u8_bv]
  exact u8_wrap _ (a ^^^ b).toNat_lt
theorem u8_andNot (a b : UInt8) : bits .andNot .u8 (a.toNat : Int) (b.toNat : Int) = ((a &&& ~~~b).toNat : Int) := by
  unfold bits
  simp only [u8_bv]
  exact u8_wrap _ (a &&& ~~~b).toNat_lt
theorem u8_not (b : UInt8) : bits .xor .u8 (if IntKind.u8.signed = true then -1 else IntKind.u8.max) (b.toNat : Int) = ((~~~b).toNat : Int) := by
  have h : ((if IntKind.u8.signed = true then -1 else IntKind.u8.max) : Int) = ((255 : UInt8).toNat : Int) := by decide
  rw [h, u8_xor]
  have h2 : ∀ b : BitVec 8, (255 : BitVec 8) ^^^ b = ~~~b := by decide
  have h3 : (255 : UInt8) ^^^ b = ~~~b := UInt8.toBitVec_inj.1 (h2 b.toBitVec)
  rw [h3]
/-- A byte of a text. -/
theorem get_data (s : ByteArray) (k : Nat) (h : k < s.size) : s[k] = s.data.toList.getD k 0 := by
  have h2 : k < s.data.size := h
  simp only [List.getD_eq_getElem?_getD, Array.getElem?_toList, Array.getElem?_eq_getElem h2, Option.getD_some]
  rfl
end Go.Proofs.Ytdgnpoapkjoknaa
