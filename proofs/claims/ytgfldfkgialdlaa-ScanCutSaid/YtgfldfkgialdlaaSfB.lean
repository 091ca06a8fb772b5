/- sfdp and its document: numbers out of four bytes. -/
import Derived.Test.YtgfldfkgialdlaaSfA
namespace Go.Proofs.Ytgfldfkgialdlaa
set_option linter.unusedVariables false
set_option linter.unusedSimpArgs false
open Go.RowKit

theorem Own.made (w : World) (e : TypeId) (l : List UInt8) (n : Nat) (hl : l.length = n) (hn : n ≤ maxLen) :
    Own (w.alloc (Obj.cells (byts l).toArray e)) w.heap.size e 1 (.slice (some ⟨w.heap.size, 0, none⟩) n n) n (byts l) := by
  have h : (w.alloc (Obj.cells (byts l).toArray e)).heap = w.heap.push (Obj.cells (byts l).toArray e) := rfl
  refine ⟨by rw [byts_length, hl, Nat.mul_one], .inr ⟨w.heap.size, n, (byts l).toArray, _, rfl, Nat.le_refl _, by rw [h]; simp; rfl, .inr rfl, Nat.le_refl _, hn, by simp [byts_length, hl], ?_⟩⟩
  rw [List.take_of_length_le (by simp [byts_length, hl])]

/-- The number of four bytes. -/
def numB (a b c d : Nat) : Int := ((((d * 256 + c) * 256 + b) * 256 + a : Nat) : Int)
def numL (s : List UInt8) : Int := numB (s.getD 0 0).toNat (s.getD 1 0).toNat (s.getD 2 0).toNat (s.getD 3 0).toNat

theorem or0 (b : Nat) (hb : b < 256) : bits .or .i64 0 (b : Int) = (b : Int) := by
  have := or_nat 0 b 8 hb (by omega)
  simpa using this
set_option maxRecDepth 100000 in
theorem numb_walk (s : ByteArray) (w : World) (h : 4 ≤ s.size) (hs : s.size ≤ 1000) :
    Calls Try.prog 53 #[.string s] w fun e w' => e = .returned (.int .i64 (numL s.data.toList)) ∧ w = w' := by
  have g0 := get_data s 0 (by omega)
  have g1 := get_data s 1 (by omega)
  have g2 := get_data s 2 (by omega)
  have g3 := get_data s 3 (by omega)
  unfold numL
  have b0 := (s.data.toList.getD 0 0).toNat_lt
  have b1 := (s.data.toList.getD 1 0).toNat_lt
  have b2 := (s.data.toList.getD 2 0).toNat_lt
  have b3 := (s.data.toList.getD 3 0).toNat_lt
  generalize s.data.toList.getD 0 0 = y0 at *
  generalize s.data.toList.getD 1 0 = y1 at *
  generalize s.data.toList.getD 2 0 = y2 at *
  generalize s.data.toList.getD 3 0 = y3 at *
  obtain ⟨A1, h1⟩ : ∃ z, y1.toNat * 2 ^ 8 + y0.toNat = z := ⟨_, rfl⟩
  obtain ⟨A2, h2⟩ : ∃ z, y2.toNat * 2 ^ 16 + A1 = z := ⟨_, rfl⟩
  obtain ⟨A3, h3⟩ : ∃ z, y3.toNat * 2 ^ 24 + A2 = z := ⟨_, rfl⟩
  have r0 := or0 y0.toNat (by omega)
  have r1 : bits .or .i64 (y0.toNat : Int) ((y1.toNat : Int) * 256) = (A1 : Int) := by rw [← h1]; exact or_tan y1.toNat y0.toNat 8 (by omega) (by omega)
  have r2 : bits .or .i64 (A1 : Int) ((y2.toNat : Int) * 65536) = (A2 : Int) := by rw [← h2]; exact or_tan y2.toNat A1 16 (by omega) (by omega)
  have r3 : bits .or .i64 (A2 : Int) ((y3.toNat : Int) * 16777216) = (A3 : Int) := by rw [← h3]; exact or_tan y3.toNat A2 24 (by omega) (by omega)
  have HB := Lib.hid (show numB y0.toNat y1.toNat y2.toNat y3.toNat = (A3 : Int) by unfold numB; omega)
  rw [HB.out]
  clear h1 h2 h3
  have d0 : (y0.toNat : Int) < 256 := by omega
  have d1 : (y1.toNat : Int) < 256 := by omega
  have d2 : (y2.toNat : Int) < 256 := by omega
  have d3 : (y3.toNat : Int) < 256 := by omega
  have R0 := Lib.hid r0
  have R1 := Lib.hid r1
  have R2 := Lib.hid r2
  have R3 := Lib.hid r3
  have G0 := Lib.hid g0
  have G1 := Lib.hid g1
  have G2 := Lib.hid g2
  have G3 := Lib.hid g3
  clear r0 r1 r2 r3 g0 g1 g2 g3 HB b0 b1 b2 b3
  go_enter Try.func53, Try.ntmps53
  go_wp2_with fail
  go_loopw [3, 5] (fun x y wr => wr = w ∧ ((y = .int .i64 0 ∧ x = .int .i64 0) ∨ (y = .int .i64 1 ∧ x = .int .i64 (y0.toNat : Int)) ∨ (y = .int .i64 2 ∧ x = .int .i64 (A1 : Int)) ∨ (y = .int .i64 3 ∧ x = .int .i64 (A2 : Int)) ∨ (y = .int .i64 4 ∧ x = .int .i64 (A3 : Int)))) (fun _ y _ => (4 - intOf y).toNat)
  case atStart => exact ⟨rfl, .inl ⟨rfl, rfl⟩⟩
  case round =>
    obtain ⟨rfl, ⟨rfl, rfl⟩ | ⟨rfl, rfl⟩ | ⟨rfl, rfl⟩ | ⟨rfl, rfl⟩ | ⟨rfl, rfl⟩⟩ := hrel
    · have g := G0.out
      have r := R0.out
      go_wp2
      exact ⟨⟨trivial, .inr (.inl ⟨rfl, rfl⟩)⟩, by decide⟩
    · have g := G1.out
      have r := R1.out
      go_wp2
      exact ⟨⟨trivial, .inr (.inr (.inl ⟨rfl, rfl⟩))⟩, by decide⟩
    · have g := G2.out
      have r := R2.out
      go_wp2
      exact ⟨⟨trivial, .inr (.inr (.inr (.inl ⟨rfl, rfl⟩)))⟩, by decide⟩
    · have g := G3.out
      have r := R3.out
      go_wp2
      exact ⟨⟨trivial, .inr (.inr (.inr (.inr ⟨rfl, rfl⟩)))⟩, by decide⟩
    · go_wp2
      go_ret
      exact ⟨rfl, rfl⟩

set_option maxRecDepth 100000 in
theorem rnumb_walk (s : ByteArray) (w : World) (h : s.size = 4) :
    Calls Try.prog 41 #[.string s] w fun e w' => e = .returned (.int .i64 (numL s.data.toList)) ∧ w = w' := by
  have g0 := get_data s 0 (by omega)
  have g1 := get_data s 1 (by omega)
  have g2 := get_data s 2 (by omega)
  have g3 := get_data s 3 (by omega)
  unfold numL
  have b0 := (s.data.toList.getD 0 0).toNat_lt
  have b1 := (s.data.toList.getD 1 0).toNat_lt
  have b2 := (s.data.toList.getD 2 0).toNat_lt
  have b3 := (s.data.toList.getD 3 0).toNat_lt
  generalize s.data.toList.getD 0 0 = y0 at *
  generalize s.data.toList.getD 1 0 = y1 at *
  generalize s.data.toList.getD 2 0 = y2 at *
  generalize s.data.toList.getD 3 0 = y3 at *
  obtain ⟨A1, h1⟩ : ∃ z, y3.toNat * 2 ^ 8 + y2.toNat = z := ⟨_, rfl⟩
  obtain ⟨A2, h2⟩ : ∃ z, A1 * 2 ^ 8 + y1.toNat = z := ⟨_, rfl⟩
  obtain ⟨A3, h3⟩ : ∃ z, A2 * 2 ^ 8 + y0.toNat = z := ⟨_, rfl⟩
  have r0 := or0 y3.toNat (by omega)
  have r1 : bits .or .i64 ((y3.toNat : Int) * 256) (y2.toNat : Int) = (A1 : Int) := by rw [← h1]; exact or_nat y3.toNat y2.toNat 8 (by omega) (by omega)
  have r2 : bits .or .i64 ((A1 : Int) * 256) (y1.toNat : Int) = (A2 : Int) := by rw [← h2]; exact or_nat A1 y1.toNat 8 (by omega) (by omega)
  have r3 : bits .or .i64 ((A2 : Int) * 256) (y0.toNat : Int) = (A3 : Int) := by rw [← h3]; exact or_nat A2 y0.toNat 8 (by omega) (by omega)
  have c1 : (A1 : Int) < 65536 := by omega
  have c2 : (A2 : Int) < 16777216 := by omega
  have HB := Lib.hid (show numB y0.toNat y1.toNat y2.toNat y3.toNat = (A3 : Int) by unfold numB; omega)
  rw [HB.out]
  clear h1 h2 h3
  have d0 : (y0.toNat : Int) < 256 := by omega
  have d1 : (y1.toNat : Int) < 256 := by omega
  have d2 : (y2.toNat : Int) < 256 := by omega
  have d3 : (y3.toNat : Int) < 256 := by omega
  have R0 := Lib.hid r0
  have R1 := Lib.hid r1
  have R2 := Lib.hid r2
  have R3 := Lib.hid r3
  have G0 := Lib.hid g0
  have G1 := Lib.hid g1
  have G2 := Lib.hid g2
  have G3 := Lib.hid g3
  clear r0 r1 r2 r3 g0 g1 g2 g3 HB b0 b1 b2 b3
  go_enter Try.func41, Try.ntmps41
  go_wp2_with fail
  go_loopw [3, 4] (fun x y wr => wr = w ∧ ((y = .int .i64 3 ∧ x = .int .i64 0) ∨ (y = .int .i64 2 ∧ x = .int .i64 (y3.toNat : Int)) ∨ (y = .int .i64 1 ∧ x = .int .i64 (A1 : Int)) ∨ (y = .int .i64 0 ∧ x = .int .i64 (A2 : Int)) ∨ (y = .int .i64 (-1) ∧ x = .int .i64 (A3 : Int)))) (fun _ y _ => (1 + intOf y).toNat)
  case atStart => exact ⟨rfl, .inl ⟨rfl, rfl⟩⟩
  case round =>
    obtain ⟨rfl, ⟨rfl, rfl⟩ | ⟨rfl, rfl⟩ | ⟨rfl, rfl⟩ | ⟨rfl, rfl⟩ | ⟨rfl, rfl⟩⟩ := hrel
    · have g := G3.out
      have r := R0.out
      go_wp2
      exact ⟨⟨trivial, .inr (.inl ⟨rfl, rfl⟩)⟩, by decide⟩
    · have g := G2.out
      have r := R1.out
      go_wp2
      exact ⟨⟨trivial, .inr (.inr (.inl ⟨rfl, rfl⟩))⟩, by decide⟩
    · have g := G1.out
      have r := R2.out
      go_wp2
      exact ⟨⟨trivial, .inr (.inr (.inr (.inl ⟨rfl, rfl⟩)))⟩, by decide⟩
    · have g := G0.out
      have r := R3.out
      go_wp2
      exact ⟨⟨trivial, .inr (.inr (.inr (.inr ⟨rfl, rfl⟩)))⟩, by decide⟩
    · go_wp2
      go_ret
      exact ⟨rfl, rfl⟩

/-- A fresh row of bytes 0. -/
theorem fills (k j : Nat) (x : UInt8) (h : j < k) : List.replicate (j + 1) x ++ List.replicate (k - (j + 1)) (0 : UInt8) = (List.replicate j x ++ List.replicate (k - j) 0).set j x := by
  rw [List.set_append_right _ _ (by simp), List.length_replicate, Nat.sub_self]
  have e : List.replicate (k - j) (0 : UInt8) = 0 :: List.replicate (k - (j + 1)) 0 := by
    rw [← List.replicate_succ]
    congr 1
    omega
  rw [e, List.set_cons_zero, List.replicate_succ', List.append_assoc]
  rfl

theorem full_b (k : Nat) (w : World) (hk : k ≤ 1000000) :
    Calls Try.prog 47 #[.int .i64 k] w fun e w' => e = .returned (.string (str (List.replicate k 255))) ∧ Below w.heap.size w w' := by
  obtain ⟨i0, hi, hz0, hz1, hz2⟩ := info_parts infoByteS
  have I1 := Lib.hid hi
  have I2 := Lib.hid hz0
  have I3 := Lib.hid hz1
  have I4 := Lib.hid hz2
  clear hi hz0 hz1 hz2
  go_enter Try.func47, Try.ntmps47
  go_wp2_with (at_make; refine wpList_make_full _ rfl _ _ 43 rfl w.heap.size 5 i0 (.int .u8 0) 1 Try.underlying43 I1.out I2.out I3.out .i64 .i64 (k : Int) (k : Int) k rfl rfl rfl rfl (by rw [I4.out]; omega) (by simp only [maxLen]; omega) (Nat.le_refl _) ?_; intro w1 ho hg; have HO := Lib.hid (Own.of ho); have HG := Lib.hid hg; clear ho hg)
  go_loopw [4] (fun i wr => ∃ j : Nat, j ≤ k ∧ i = .int .i64 j ∧ Own wr w.heap.size 5 1 (.slice (some ⟨w.heap.size, 0, none⟩) k k) k (byts (List.replicate j 255 ++ List.replicate (k - j) 0)) ∧ Below w.heap.size w wr) (fun i _ => (k - intOf i).toNat)
  case atStart =>
    refine ⟨0, by omega, rfl, ?_, ⟨HG.out.os, HG.out.tape, HG.out.output, HG.out.size, fun i hi => HG.out.block i hi (by simp)⟩⟩
    have h := HO.out
    rw [← byts_madeS] at h
    exact h
  case round =>
    obtain ⟨j, hj, rfl, ho, hb⟩ := hrel
    have HR := Lib.hid ho
    have HB := Lib.hid hb
    clear ho hb
    by_cases hlt : j < k
    · have g1 : wr.cell? ⟨w.heap.size, j, none⟩ = some (.int .u8 (((List.replicate j 255 ++ List.replicate (k - j) (0 : UInt8)).getD j 0).toNat : Int)) := HR.out.at' (byts_at (by simp; omega))
      have g2 : wr.frozen? ⟨w.heap.size, j, none⟩ = false := HR.out.free (by omega)
      generalize (List.replicate j 255 ++ List.replicate (k - j) (0 : UInt8)).getD j 0 = x at g1
      go_wp2
      go_roundw
      case rel =>
        refine ⟨j + 1, by omega, by go_num, ?_, HB.out.setCell (Nat.le_refl _) _⟩
        rw [fills k j 255 hlt, byts_set]
        exact (HR.out.stored j (.int .u8 ((255 : UInt8).toNat : Int))).1
      case measure => simp [intOf]; omega
    · obtain rfl : j = k := by omega
      have kc := HR.out.string (P := Try.prog) Try.underlying43 Try.underlying5 Try.underlying9
      rw [Nat.sub_self, List.replicate_zero, List.append_nil] at kc
      go_wp2
      go_ret
      exact ⟨rfl, HB.out⟩

end Go.Proofs.Ytgfldfkgialdlaa
