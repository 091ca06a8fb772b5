/- sfdp and its document: a number's four bytes. -/
import Derived.Test.YtgfldfkgialdlaaProg
import Derived.Test.YtgfldfkgialdlaaOwn
import Derived.Test.YtgfldfkgialdlaaU8
import Derived.Test.YtgfldfkgialdlaaLBits
namespace Go.Proofs.Ytgfldfkgialdlaa
set_option linter.unusedVariables false
set_option linter.unusedSimpArgs false
open Go.RowKit
theorem infoByteS : (Try.prog.info? 5).map (fun i => (i.zero, i.size, i.bytes)) = some (some (.int .u8 0), 1, 1) := by kernel_rfl

theorem or_nat (a b i : Nat) (hb : b < 2 ^ i) (h : a * 2 ^ i + b < 9223372036854775808) : bits .or .i64 ((a * 2 ^ i : Nat) : Int) (b : Int) = ((a * 2 ^ i + b : Nat) : Int) := by
  have e : (BitVec.ofInt 64 ((a * 2 ^ i : Nat) : Int) ||| BitVec.ofInt 64 (b : Int)).toNat = a * 2 ^ i + b := by
    rw [BitVec.toNat_or, BitVec.ofInt_natCast, BitVec.ofInt_natCast, BitVec.toNat_ofNat, BitVec.toNat_ofNat, Nat.mod_eq_of_lt (by omega), Nat.mod_eq_of_lt (by omega), ← Nat.shiftLeft_eq, Nat.shiftLeft_add_eq_or_of_lt hb]
  show IntKind.i64.wrap (((BitVec.ofInt 64 ((a * 2 ^ i : Nat) : Int) ||| BitVec.ofInt 64 (b : Int)).toNat : Nat) : Int) = _
  rw [e]
  exact wrap_i64_small (by omega) (by omega)
theorem or_tan (a b i : Nat) (hb : b < 2 ^ i) (h : a * 2 ^ i + b < 9223372036854775808) : bits .or .i64 (b : Int) ((a * 2 ^ i : Nat) : Int) = ((a * 2 ^ i + b : Nat) : Int) := by
  rw [← or_nat a b i hb h]
  show IntKind.i64.wrap (((BitVec.ofInt 64 (b : Int) ||| BitVec.ofInt 64 ((a * 2 ^ i : Nat) : Int)).toNat : Nat) : Int) = IntKind.i64.wrap (((BitVec.ofInt 64 ((a * 2 ^ i : Nat) : Int) ||| BitVec.ofInt 64 (b : Int)).toNat : Nat) : Int)
  rw [BitVec.or_comm]

theorem byts_madeS (k : Nat) : byts (List.replicate k 0) = (madeCells (Value.cells (.int .u8 0)) (k * 1)).toList := by
  apply List.ext_getElem
  · simp [byts, madeCells]
  · intro i h1 h2
    simp [byts, madeCells, Value.cells, Nat.mod_one]

/-- May a number be told? -/
def powB (x : Int) : Bool := decide (1 ≤ x) && decide (x ≤ 65536) && (bits .and .i64 x (x - 1) == 0)
theorem powB_in {x : Int} (h : powB x = true) : 1 ≤ x ∧ x ≤ 65536 := by
  unfold powB at h
  simp only [Bool.and_eq_true, decide_eq_true_eq] at h
  exact h.1

/-- The k-th byte of a number. -/
def lowB (x : Int) (k : Nat) : UInt8 := UInt8.ofNat ((x / 256 ^ k).toNat % 256)
theorem lowB_wrap (x : Int) (k : Nat) (h : 0 ≤ x) : IntKind.u8.wrap (x / 256 ^ k) = ((lowB x k).toNat : Int) := by
  have h1 : 0 ≤ x / 256 ^ k := Int.ediv_nonneg h (by exact Int.pow_nonneg (by decide))
  rw [lowB, UInt8.toNat_ofNat', Nat.mod_eq_of_lt (by have := Nat.mod_lt (x / 256 ^ k).toNat (show 0 < 256 by decide); simpa using this)]
  simp [IntKind.wrap, IntKind.bits, IntKind.signed]
  omega
theorem lowB_mod (x : Int) (k : Nat) (h : 0 ≤ x) : x / 256 ^ k % 256 = ((lowB x k).toNat : Int) := by
  rw [← lowB_wrap x k h]
  simp [IntKind.wrap, IntKind.bits, IntKind.signed]
def lowL (x : Int) : List UInt8 := [lowB x 0, lowB x 1, lowB x 2, lowB x 3]
def lowN (x : Int) (k : Nat) : List UInt8 := (lowL x).take k ++ List.replicate (4 - k) 0

theorem low_any (x : Int) (w : World) (h0 : 0 ≤ x) (h2 : x ≤ 9223372036854775807) :
    Calls Try.prog 52 #[.int .i64 x] w fun e w' => e = .returned (.string (str (lowL x))) ∧ Below w.heap.size w w' := by
  obtain ⟨i0, hi, hz0, hz1, hz2⟩ := info_parts infoByteS
  have I1 := Lib.hid hi
  have I2 := Lib.hid hz0
  have I3 := Lib.hid hz1
  have I4 := Lib.hid hz2
  clear hi hz0 hz1 hz2
  go_enter Try.func52, Try.ntmps52
  go_wp2_with (at_make; refine wpList_make_full _ rfl _ _ 43 rfl w.heap.size 5 i0 (.int .u8 0) 1 Try.underlying43 I1.out I2.out I3.out .i64 .i64 4 4 4 rfl rfl rfl rfl (by rw [I4.out]; omega) (by simp only [maxLen]; omega) (Nat.le_refl _) ?_; intro w1 ho hg; have HO := Lib.hid (Own.of ho); have HG := Lib.hid hg; clear ho hg)
  go_loopw [8] (fun i wr => ∃ k : Nat, k ≤ 4 ∧ i = .int .i64 k ∧ Own wr w.heap.size 5 1 (.slice (some ⟨w.heap.size, 0, none⟩) 4 4) 4 (byts (lowN x k)) ∧ Below w.heap.size w wr) (fun i _ => (4 - intOf i).toNat)
  case atStart =>
    refine ⟨0, by omega, rfl, ?_, ⟨HG.out.os, HG.out.tape, HG.out.output, HG.out.size, fun i hi => HG.out.block i hi (by simp)⟩⟩
    have h := HO.out
    rw [show (madeCells (Value.int IntKind.u8 0).cells (4 * 1)).toList = byts (lowN x 0) from (byts_madeS 4).symm] at h
    exact h
  case round =>
    obtain ⟨k, hk, rfl, ho, hb⟩ := hrel
    have HR := Lib.hid ho
    have HB := Lib.hid hb
    clear ho hb
    have hk5 : k = 4 ∨ k = 0 ∨ k = 1 ∨ k = 2 ∨ k = 3 := by omega
    rcases hk5 with rfl | rfl | rfl | rfl | rfl
    · have kc := HR.out.string (P := Try.prog) Try.underlying43 Try.underlying5 Try.underlying9
      go_wp2
      go_ret
      exact ⟨rfl, HB.out⟩
    · have g1 : wr.cell? ⟨w.heap.size, 0, none⟩ = some (.int .u8 (((lowN x 0).getD 0 0).toNat : Int)) := HR.out.at' (byts_at (show 0 < (lowN x 0).length by simp [lowN, lowL]))
      have g2 : wr.frozen? ⟨w.heap.size, 0, none⟩ = false := HR.out.free (by omega)
      generalize (lowN x 0).getD 0 0 = y at g1
      go_wp2
      refine ⟨⟨1, by omega, rfl, ?_, HB.out.setCell (Nat.le_refl _) _⟩, by decide⟩
      have e : x % 256 = ((lowB x 0).toNat : Int) := by have := lowB_mod x 0 h0; simpa using this
      have e2 : lowN x 1 = (lowN x 0).set 0 (lowB x 0) := rfl
      rw [e2, byts_set]
      have e3 := (HR.out.stored 0 (.int .u8 ((lowB x 0).toNat : Int))).1
      rw [e]
      exact e3
    · have g1 : wr.cell? ⟨w.heap.size, 1, none⟩ = some (.int .u8 (((lowN x 1).getD 1 0).toNat : Int)) := HR.out.at' (byts_at (show 1 < (lowN x 1).length by simp [lowN, lowL]))
      have g2 : wr.frozen? ⟨w.heap.size, 1, none⟩ = false := HR.out.free (by omega)
      generalize (lowN x 1).getD 1 0 = y at g1
      go_wp2
      refine ⟨⟨2, by omega, rfl, ?_, HB.out.setCell (Nat.le_refl _) _⟩, by decide⟩
      have e : x / 256 % 256 = ((lowB x 1).toNat : Int) := by have := lowB_mod x 1 h0; simpa using this
      have e2 : lowN x 2 = (lowN x 1).set 1 (lowB x 1) := rfl
      rw [e2, byts_set]
      have e3 := (HR.out.stored 1 (.int .u8 ((lowB x 1).toNat : Int))).1
      rw [e]
      exact e3
    · have g1 : wr.cell? ⟨w.heap.size, 2, none⟩ = some (.int .u8 (((lowN x 2).getD 2 0).toNat : Int)) := HR.out.at' (byts_at (show 2 < (lowN x 2).length by simp [lowN, lowL]))
      have g2 : wr.frozen? ⟨w.heap.size, 2, none⟩ = false := HR.out.free (by omega)
      generalize (lowN x 2).getD 2 0 = y at g1
      go_wp2
      refine ⟨⟨3, by omega, rfl, ?_, HB.out.setCell (Nat.le_refl _) _⟩, by decide⟩
      have e : x / 65536 % 256 = ((lowB x 2).toNat : Int) := by have := lowB_mod x 2 h0; simpa using this
      have e2 : lowN x 3 = (lowN x 2).set 2 (lowB x 2) := rfl
      rw [e2, byts_set]
      have e3 := (HR.out.stored 2 (.int .u8 ((lowB x 2).toNat : Int))).1
      rw [e]
      exact e3
    · have g1 : wr.cell? ⟨w.heap.size, 3, none⟩ = some (.int .u8 (((lowN x 3).getD 3 0).toNat : Int)) := HR.out.at' (byts_at (show 3 < (lowN x 3).length by simp [lowN, lowL]))
      have g2 : wr.frozen? ⟨w.heap.size, 3, none⟩ = false := HR.out.free (by omega)
      generalize (lowN x 3).getD 3 0 = y at g1
      go_wp2
      refine ⟨⟨4, by omega, rfl, ?_, HB.out.setCell (Nat.le_refl _) _⟩, by decide⟩
      have e : x / 16777216 % 256 = ((lowB x 3).toNat : Int) := by have := lowB_mod x 3 h0; simpa using this
      have e2 : lowN x 4 = (lowN x 3).set 3 (lowB x 3) := rfl
      rw [e2, byts_set]
      have e3 := (HR.out.stored 3 (.int .u8 ((lowB x 3).toNat : Int))).1
      rw [e]
      exact e3
end Go.Proofs.Ytgfldfkgialdlaa
