/- Small facts on Go's bit operations, as plain integers. -/
import Derived.Laws.BitsLemmas
namespace Go.Proofs.YtfdbolnifjpbhaaDoor

theorem wrap_i64_small {n : Int} (h0 : 0 ≤ n) (h1 : n < 9223372036854775808) : IntKind.i64.wrap n = n := by
  rw [IntKind.wrap_i64]; omega

/-- x & (2^i - 1), whatever x is. -/
theorem and_mask64 (x : Int) (i : Nat) (hi : i ≤ 62) : bits .and .i64 x (2 ^ i - 1) = x % 2 ^ i := by
  have hpos : 0 < 2 ^ i := Nat.two_pow_pos i
  have hle : 2 ^ i ≤ 4611686018427387904 := Nat.pow_le_pow_right (n := 2) (by decide) hi
  have e : (2 : Int) ^ i = ((2 ^ i : Nat) : Int) := (Int.natCast_pow 2 i).symm
  have hc : ((2 : Int) ^ i - 1) = ((2 ^ i - 1 : Nat) : Int) := by
    rw [Int.natCast_sub hpos]; simp
  have hb : (BitVec.ofInt 64 ((2 ^ i - 1 : Nat) : Int)).toNat = 2 ^ i - 1 := by
    rw [BitVec.ofInt_natCast, BitVec.toNat_ofNat]
    exact Nat.mod_eq_of_lt (by omega)
  have hx : (BitVec.ofInt 64 x).toNat = (x % 18446744073709551616).toNat := by
    simp [BitVec.toNat_ofInt]
  have hd : (2 : Int) ^ i ∣ 18446744073709551616 := by
    refine ⟨2 ^ (64 - i), ?_⟩
    rw [← Int.pow_add]
    rw [show i + (64 - i) = 64 by omega]
    rfl
  have key : (((x % 18446744073709551616).toNat % 2 ^ i : Nat) : Int) = x % 2 ^ i := by
    rw [Int.natCast_emod, Int.toNat_of_nonneg (Int.emod_nonneg _ (by decide))]
    rw [show (((2 ^ i : Nat)) : Int) = (2 : Int) ^ i from Int.natCast_pow 2 i]
    exact Int.emod_emod_of_dvd _ hd
  have hp : (0 : Int) < 2 ^ i := by rw [e]; omega
  have hq : (2 : Int) ^ i ≤ 4611686018427387904 := by rw [e]; omega
  rw [hc]
  show IntKind.i64.wrap (((BitVec.ofInt 64 x &&& BitVec.ofInt 64 ((2 ^ i - 1 : Nat) : Int)).toNat : Nat) : Int) = _
  rw [BitVec.toNat_and, hb, hx, Nat.and_two_pow_sub_one_eq_mod, key]
  have h1 := Int.emod_nonneg x (show (2 : Int) ^ i ≠ 0 by omega)
  have h2 := Int.emod_lt_of_pos x hp
  exact wrap_i64_small h1 (by omega)

theorem and255 (x : Int) : bits .and .i64 x 255 = x % 256 := and_mask64 x 8 (by decide)
theorem and15 (x : Int) : bits .and .i64 x 15 = x % 16 := and_mask64 x 4 (by decide)
theorem and1 (x : Int) : bits .and .i64 x 1 = x % 2 := and_mask64 x 1 (by decide)
theorem and1023 (x : Int) : bits .and .i64 x 1023 = x % 1024 := and_mask64 x 10 (by decide)

/-- x & 255 is one of 256 numbers. -/
theorem and255_fin (x : Int) : ∃ n : Fin 256, bits .and .i64 x 255 = ((n.val : Nat) : Int) := by
  have h1 := Int.emod_nonneg x (show (256 : Int) ≠ 0 by decide)
  have h2 := Int.emod_lt_of_pos x (show (0 : Int) < 256 by decide)
  refine ⟨⟨(x % 256).toNat, by omega⟩, ?_⟩
  rw [and255]
  show x % 256 = (((x % 256).toNat : Nat) : Int)
  omega
end Go.Proofs.YtfdbolnifjpbhaaDoor
