/- The statement RecForms: the law. -/
import Derived.Test.YtgfldfkgialdlaaRecO
import Derived.Test.YtgfldfkgialdlaaPairE
namespace Go.Proofs.Ytgfldfkgialdlaa
set_option linter.unusedVariables false
set_option linter.unusedSimpArgs false
open Go.RowKit

theorem ansR_size {u : ByteArray} (h : u.size ≠ 64) : ansR u zeroR 1900 :=
  .inr ⟨fun q hq he => h (by rw [← he]; exact putR_size hq), rfl, rfl⟩
def rD : RecV := ⟨1, 0, ⟨#[97, 98]⟩, ⟨#[99, 100]⟩⟩
theorem rD_may : mayP rD := by decide
theorem rD_flip (p : Nat) (hp : p < 64) (m : UInt8) (hm : m ≠ 0) : getP (str ((putR rD).data.toList.set p ((putR rD).data.toList.getD p 0 ^^^ m))) = (str [], 200) := by
  have z := half32_size rD_may
  have e : (putR rD).data.toList = (half32 rD).data.toList ++ compl (half32 rD).data.toList := by
    rw [putR, if_pos rD_may, putP, if_pos z, str_data]
  rw [e]
  exact flip_get _ (by rw [data_len, z]) p hp m hm
def maskI (d : Int) : Int := bits .or .i64 (bits .and .i64 d 127) 1
theorem mask_fin : ∀ d : Fin 1025, 0 ≤ maskI d.val ∧ maskI d.val < 256 ∧ maskI d.val ≠ 0 := by decide +kernel
theorem mask_u8 (d : Int) (h1 : 1 ≤ d) (h2 : d ≤ 1024) : ∃ m : UInt8, bits .or .i64 (bits .and .i64 d 127) 1 = (m.toNat : Int) ∧ m ≠ 0 := by
  obtain ⟨n, rfl⟩ := Int.eq_ofNat_of_zero_le (show 0 ≤ d by omega)
  have h := mask_fin ⟨n, by omega⟩
  simp only at h
  have hm : (UInt8.ofNat (maskI (n : Int)).toNat).toNat = (maskI (n : Int)).toNat := by
    rw [UInt8.toNat_ofNat', Nat.mod_eq_of_lt (by simp; omega)]
  refine ⟨UInt8.ofNat (maskI (n : Int)).toNat, ?_, ?_⟩
  · rw [hm]
    show maskI (n : Int) = _
    omega
  · intro e
    rw [e] at hm
    simp at hm
    omega
end Go.Proofs.Ytgfldfkgialdlaa
