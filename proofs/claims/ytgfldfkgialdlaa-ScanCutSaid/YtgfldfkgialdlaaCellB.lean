/- The document's cells: full, Blank, bit, ProgramCut, EraseCut. -/
import Derived.Test.YtgfldfkgialdlaaCellA
import Derived.RegionCalls
import Derived.StillTailTactics
namespace Go.Proofs.Ytgfldfkgialdlaa
set_option linter.unusedVariables false
set_option linter.unusedSimpArgs false
open Go.RowKit
theorem infoByteB : (Try.prog.info? 5).map (fun i => (i.zero, i.size, i.bytes)) = some (some (.int .u8 0), 1, 1) := by kernel_rfl

theorem byts_made (k : Nat) : byts (List.replicate k 0) = (madeCells (Value.cells (.int .u8 0)) (k * 1)).toList := by
  apply List.ext_getElem
  · simp [byts, madeCells]
  · intro i h1 h2
    simp [byts, madeCells, Value.cells, Nat.mod_one]

/-- A fresh row of bytes 0. -/
theorem fills (k j : Nat) (x : UInt8) (h : j < k) : List.replicate (j + 1) x ++ List.replicate (k - (j + 1)) (0 : UInt8) = (List.replicate j x ++ List.replicate (k - j) 0).set j x := by
  rw [List.set_append_right _ _ (by simp), List.length_replicate, Nat.sub_self]
  have e : List.replicate (k - j) (0 : UInt8) = 0 :: List.replicate (k - (j + 1)) 0 := by
    rw [← List.replicate_succ]
    congr 1
    omega
  rw [e, List.set_cons_zero, List.replicate_succ', List.append_assoc]
  rfl

theorem full_any (k : Nat) (w : World) (hk : k ≤ 1000000) :
    Calls Try.prog 47 #[.int .i64 k] w fun e w' => e = .returned (.string (str (List.replicate k 255))) ∧ Below w.heap.size w w' := by
  obtain ⟨i0, hi, hz0, hz1, hz2⟩ := info_parts infoByteB
  have I1 := Lib.hid hi
  have I2 := Lib.hid hz0
  have I3 := Lib.hid hz1
  have I4 := Lib.hid hz2
  clear hi hz0 hz1 hz2
  go_enter Try.func47, Try.ntmps47
  go_wp2_with (at_make; refine wpList_make_full _ rfl _ _ 43 rfl w.heap.size 5 i0 (.int .u8 0) 1 Try.underlying43 I1.out I2.out I3.out .i64 .i64 (k : Int) (k : Int) k rfl rfl rfl rfl (by rw [I4.out]; omega) (by simp only [maxLen]; omega) (Nat.le_refl _) ?_; intro w1 ho hg; have HO := Lib.hid (Own.of ho); have HG := Lib.hid hg; clear ho hg)
  go_loopw [4] (fun i wr => ∃ j : Nat, j ≤ k ∧ i = .int .i64 j ∧ Own wr w.heap.size 5 1 (.slice (some ⟨w.heap.size, 0, none⟩) k k) k (byts (List.replicate j 255 ++ List.replicate (k - j) 0)) ∧ Below w.heap.size w wr) (fun i _ => (k - intOf i).toNat)
  case atStart =>
    refine ⟨0, by omega, rfl, ?_, ⟨HG.out.os, HG.out.tape, HG.out.output, HG.out.size, fun i hi => HG.out.block i hi (by simp)⟩⟩
    have h := HO.out
    rw [← byts_made] at h
    exact h
  case round =>
    obtain ⟨j, hj, rfl, ho, hb⟩ := hrel
    have HR := Lib.hid ho
    have HB := Lib.hid hb
    clear ho hb
    by_cases hlt : j < k
    · have g1 : wr.cell? ⟨w.heap.size, j, none⟩ = some (.int .u8 (((List.replicate j 255 ++ List.replicate (k - j) (0 : UInt8)).getD j 0).toNat : Int)) := HR.out.at' (byts_at (by simp; omega))
      have g2 : wr.frozen? ⟨w.heap.size, j, none⟩ = false := HR.out.free (by omega)
      generalize (List.replicate j 255 ++ List.replicate (k - j) (0 : UInt8)).getD j 0 = x at g1
      go_wp2
      go_roundw
      case rel =>
        refine ⟨j + 1, by omega, by go_num, ?_, HB.out.setCell (Nat.le_refl _) _⟩
        rw [fills k j 255 hlt, byts_set]
        exact (HR.out.stored j (.int .u8 ((255 : UInt8).toNat : Int))).1
      case measure => simp [intOf]; omega
    · obtain rfl : j = k := by omega
      have kc := HR.out.string (P := Try.prog) Try.underlying43 Try.underlying5 Try.underlying9
      rw [Nat.sub_self, List.replicate_zero, List.append_nil] at kc
      go_wp2
      go_ret
      exact ⟨rfl, HB.out⟩

/-- Cells that have all bits. -/
def blankL : List UInt8 := List.replicate 4096 255
theorem blankL_len : blankL.length = 4096 := List.length_replicate
theorem rblank_any (w : World) : Calls Try.prog 22 #[] w fun e w' => e = .returned (.string (str blankL)) ∧ Below w.heap.size w w' := by
  have HK := Lib.hid (show ∀ w : World, Calls Try.prog 47 #[.int .i64 4096] w fun e w' => e = .returned (.string (str blankL)) ∧ Below w.heap.size w w' from fun w => full_any 4096 w (by decide))
  go_enter Try.func22, Try.ntmps22
  go_wp2_with (go_at_call 47; refine (HK.out _).mono ?_; rintro e w' ⟨rfl, hb⟩; have HB := Lib.hid hb; clear hb)
  go_ret
  exact ⟨rfl, HB.out⟩

theorem rbit_any (m : ByteArray) (i : Nat) (w : World) (hi : i ≤ 1000000) :
    Calls Try.prog 46 #[.string m, .int .i64 i] w fun e w' => e = .returned (.int .u8 ((maskB m.data.toList i).toNat : Int)) ∧ w = w' := by
  by_cases h0 : m.size = 0
  · have e2 : maskB m.data.toList i = 0 := by
      have e : m.data.toList = [] := List.eq_nil_of_length_eq_zero (by rw [data_len]; exact h0)
      rw [e]
      simp [maskB]
    rw [e2]
    clear e2
    go_enter Try.func46, Try.ntmps46
    go_wp2
    go_ret
    exact ⟨rfl, rfl⟩
  · have hm : i % m.size < m.size := Nat.mod_lt _ (by omega)
    have hg := get_data m (i % m.size) hm
    have e2 : maskB m.data.toList i = m[i % m.size] := by rw [hg, maskB, data_len]
    have hd : ((m.size : Int) == 0) = false := by rw [beq_eq_false_iff_ne]; omega
    rw [e2]
    clear hg e2
    go_enter Try.func46, Try.ntmps46
    go_wp2
    go_ret
    exact ⟨rfl, rfl⟩

theorem cellsmay_any (a : ByteArray) (w : World) : Calls Try.prog 45 #[.string a] w fun e w' => e = .returned (.bool ((a.size : Int) == 4096)) ∧ w = w' := by
  go_enter Try.func45, Try.ntmps45
  go_wp2
  go_ret
  exact ⟨rfl, rfl⟩

set_option maxRecDepth 100000 in
theorem rprog_ok (a : ByteArray) (at_ : Nat) (d m : ByteArray) (w : World) (ha : a.size = 4096) (hn : at_ + d.size ≤ 4096) :
    Calls Try.prog 21 #[.string a, .int .i64 at_, .string d, .string m] w fun e w' => e = .returned (.tuple #[.string (str (turnN a.data.toList at_ (progF d.data.toList m.data.toList) d.size)), .int .i64 0]) ∧ Below w.heap.size w w' := by
  have kb := fun W => Lib.run_convert_string_bytes (P := Try.prog) W 9 43 5 a Try.underlying9 Try.underlying43 Try.underlying5
  go_enter Try.func21, Try.ntmps21
  go_wp2_with (go_at_call 45; refine (cellsmay_any _ _).mono ?_; rintro e w' ⟨rfl, rfl⟩)
  have hO := Own.bytes w a 5 (by omega)
  rw [ha] at hO
  have HL := Lib.hid (show a.data.toList.length = 4096 by rw [data_len, ha])
  obtain ⟨hc1, hc2⟩ := hO.caps
  generalize grownCap w 4096 0 5 = cap at *
  have HO := Lib.hid hO
  clear hO
  go_loopw [11] (fun i wr => ∃ k : Nat, k ≤ d.size ∧ i = .int .i64 k ∧ Own wr w.heap.size 5 1 (.slice (some ⟨w.heap.size, 0, none⟩) 4096 cap) 4096 (byts (turnN a.data.toList at_ (progF d.data.toList m.data.toList) k)) ∧ Below w.heap.size w wr) (fun i _ => (d.size - intOf i).toNat)
  case atStart => exact ⟨0, by omega, rfl, HO.out, Bl.bytes (Below.refl _ _) _ _⟩
  case round =>
    obtain ⟨k, hk, rfl, ho, hb⟩ := hrel
    have HR := Lib.hid ho
    have HB := Lib.hid hb
    clear ho hb
    by_cases hlt : k < d.size
    · have hT := turnN_len a.data.toList at_ (progF d.data.toList m.data.toList) k
      have g1 : wr.cell? ⟨w.heap.size, at_ + k, none⟩ = some (.int .u8 (((turnN a.data.toList at_ (progF d.data.toList m.data.toList) k).getD (at_ + k) 0).toNat : Int)) := HR.out.at' (byts_at (by rw [hT, HL.out]; omega))
      have g2 : wr.frozen? ⟨w.heap.size, at_ + k, none⟩ = false := HR.out.free (by omega)
      have hk1 : (k : Int) < (d.size : Int) := by omega
      have hk2 : (at_ : Int) + (k : Int) < 4096 := by omega
      have hk3 : at_ + k < 4096 := by omega
      have hk5 : 0 ≤ (at_ : Int) + (k : Int) := by omega
      have hk4 : IntKind.i64.wrap ((at_ : Int) + (k : Int)) = (at_ : Int) + (k : Int) := IntWalk.i64_in _ (by omega)
      have hk6 : ((at_ : Int) + (k : Int)).toNat = at_ + k := by omega
      have HG := Lib.hid (get_data d k hlt)
      have HK := Lib.hid (show ∀ w : World, Calls Try.prog 46 #[.string m, .int .i64 k] w fun e w' => e = .returned (.int .u8 ((maskB m.data.toList k).toNat : Int)) ∧ w' = w from fun w => (rbit_any m k w (by omega)).mono fun e w' h => ⟨h.1, h.2.symm⟩)
      clear hT
      generalize hx : (turnN a.data.toList at_ (progF d.data.toList m.data.toList) k).getD (at_ + k) 0 = x at g1
      generalize hy : maskB m.data.toList k = y at HK
      have HX := Lib.hid hx
      have HY := Lib.hid hy
      clear hx hy
      go_wp2_with fail
      go_still_tail 20, (by kernel_rfl)
      still_call (HK.out _)
      repeat still_step
      refine wpStill_nil ?_
      change wpList _ _ _ _ _ wr.drew
      generalize hw2 : wr.drew = w2
      have HW2 := Lib.hid hw2
      have g3 : w2.frozen? ⟨w.heap.size, at_ + k, none⟩ = false := by rw [← hw2]; exact g2
      have g4 : w2.cell? ⟨w.heap.size, at_ + k, none⟩ = some (.int .u8 (x.toNat : Int)) := by rw [← hw2]; exact g1
      clear hw2 g1 g2
      go_wp2
      go_roundw
      case rel =>
        refine ⟨k + 1, by omega, by go_num, ?_, ?_⟩
        · have e1 : progF d.data.toList m.data.toList k x = x &&& ~~~(~~~d[k] &&& y) := by rw [progF, HY.out, ← HG.out, UInt8.and_comm y]
          rw [turnN, HX.out, e1, byts_set, u8_not, u8_and, u8_andNot, ← HW2.out]
          exact ((HR.out.drewN 1).stored (at_ + k) _).1
        · rw [← HW2.out]
          exact (Bl.drewN HB.out 1).setCell (Nat.le_refl _) _
      case measure => simp [intOf]; omega
    · obtain rfl : k = d.size := by omega
      have kc := HR.out.string (P := Try.prog) Try.underlying43 Try.underlying5 Try.underlying9
      go_wp2
      go_ret2
      exact ⟨rfl, HB.out⟩

set_option maxRecDepth 100000 in
theorem reras_ok (a : ByteArray) (x t : Nat) (m : ByteArray) (w : World) (ha : a.size = 4096) (hn : x < 8) (ht : t = 512 * x) :
    Calls Try.prog 23 #[.string a, .int .i64 x, .string m] w fun e w' => e = .returned (.tuple #[.string (str (turnN a.data.toList t (erasF m.data.toList) 512)), .int .i64 0]) ∧ Below w.heap.size w w' := by
  have kb := fun W => Lib.run_convert_string_bytes (P := Try.prog) W 9 43 5 a Try.underlying9 Try.underlying43 Try.underlying5
  have hx0 : (x : Int) < 8 := by omega
  have hx1 : (x : Int) * 512 = (t : Int) := by omega
  have hx2 : IntKind.i64.wrap (t : Int) = (t : Int) := IntWalk.i64_in _ (by omega)
  have hx3 : t + 512 ≤ 4096 := by omega
  clear ht
  go_enter Try.func23, Try.ntmps23
  go_wp2_with (go_at_call 45; refine (cellsmay_any _ _).mono ?_; rintro e w' ⟨rfl, rfl⟩)
  have hO := Own.bytes w a 5 (by omega)
  rw [ha] at hO
  have HL := Lib.hid (show a.data.toList.length = 4096 by rw [data_len, ha])
  obtain ⟨hc1, hc2⟩ := hO.caps
  generalize grownCap w 4096 0 5 = cap at *
  have HO := Lib.hid hO
  clear hO
  go_loopw [10] (fun i wr => ∃ k : Nat, k ≤ 512 ∧ i = .int .i64 k ∧ Own wr w.heap.size 5 1 (.slice (some ⟨w.heap.size, 0, none⟩) 4096 cap) 4096 (byts (turnN a.data.toList t (erasF m.data.toList) k)) ∧ Below w.heap.size w wr) (fun i _ => (512 - intOf i).toNat)
  case atStart => exact ⟨0, by omega, rfl, HO.out, Bl.bytes (Below.refl _ _) _ _⟩
  case round =>
    obtain ⟨k, hk, rfl, ho, hb⟩ := hrel
    have HR := Lib.hid ho
    have HB := Lib.hid hb
    clear ho hb
    by_cases hlt : k < 512
    · have hT := turnN_len a.data.toList t (erasF m.data.toList) k
      have g1 : wr.cell? ⟨w.heap.size, t + k, none⟩ = some (.int .u8 (((turnN a.data.toList t (erasF m.data.toList) k).getD (t + k) 0).toNat : Int)) := HR.out.at' (byts_at (by rw [hT, HL.out]; omega))
      have g2 : wr.frozen? ⟨w.heap.size, t + k, none⟩ = false := HR.out.free (by omega)
      have hk1 : (k : Int) < (512 : Int) := by omega
      have hk2 : (t : Int) + (k : Int) < 4096 := by omega
      have hk3 : t + k < 4096 := by omega
      have hk5 : 0 ≤ (t : Int) + (k : Int) := by omega
      have hk4 : IntKind.i64.wrap ((t : Int) + (k : Int)) = (t : Int) + (k : Int) := IntWalk.i64_in _ (by omega)
      have hk6 : ((t : Int) + (k : Int)).toNat = t + k := by omega
      have HK := Lib.hid (show ∀ w : World, Calls Try.prog 46 #[.string m, .int .i64 k] w fun e w' => e = .returned (.int .u8 ((maskB m.data.toList k).toNat : Int)) ∧ w' = w from fun w => (rbit_any m k w (by omega)).mono fun e w' h => ⟨h.1, h.2.symm⟩)
      clear hT
      generalize hx : (turnN a.data.toList t (erasF m.data.toList) k).getD (t + k) 0 = x' at g1
      generalize hy : maskB m.data.toList k = y at HK
      have HX := Lib.hid hx
      have HY := Lib.hid hy
      clear hx hy
      go_wp2_with fail
      go_still_tail 15, (by kernel_rfl)
      still_call (HK.out _)
      repeat still_step
      refine wpStill_nil ?_
      change wpList _ _ _ _ _ wr.drew
      generalize hw2 : wr.drew = w2
      have HW2 := Lib.hid hw2
      have g3 : w2.frozen? ⟨w.heap.size, t + k, none⟩ = false := by rw [← hw2]; exact g2
      have g4 : w2.cell? ⟨w.heap.size, t + k, none⟩ = some (.int .u8 (x'.toNat : Int)) := by rw [← hw2]; exact g1
      clear hw2 g1 g2
      go_wp2
      go_roundw
      case rel =>
        refine ⟨k + 1, by omega, by go_num, ?_, ?_⟩
        · have e1 : erasF m.data.toList k x' = x' ||| y := by rw [erasF, HY.out]
          rw [turnN, HX.out, e1, byts_set, u8_or, ← HW2.out]
          exact ((HR.out.drewN 1).stored (t + k) _).1
        · rw [← HW2.out]
          exact (Bl.drewN HB.out 1).setCell (Nat.le_refl _) _
      case measure => simp [intOf]; omega
    · obtain rfl : k = 512 := by omega
      have kc := HR.out.string (P := Try.prog) Try.underlying43 Try.underlying5 Try.underlying9
      go_wp2
      go_ret2
      exact ⟨rfl, HB.out⟩

/-- May a program go there? -/
def progOk (a : ByteArray) (at_ : Int) (d : ByteArray) : Bool := ((a.size : Int) == 4096) && decide (0 ≤ at_) && decide (at_ ≤ 4096) && decide ((d.size : Int) ≤ 4096 - at_)
def erasOk (a : ByteArray) (x : Int) : Bool := ((a.size : Int) == 4096) && decide (0 ≤ x) && decide (x < 8)
def progL (a : ByteArray) (at_ : Int) (d m : ByteArray) : ByteArray := bif progOk a at_ d then str (turnN a.data.toList at_.toNat (progF d.data.toList m.data.toList) d.size) else str []
def progE (a : ByteArray) (at_ : Int) (d : ByteArray) : Int := bif progOk a at_ d then 0 else 100
def erasL (a : ByteArray) (x : Int) (m : ByteArray) : ByteArray := bif erasOk a x then str (turnN a.data.toList (512 * x.toNat) (erasF m.data.toList) 512) else str []
def erasE (a : ByteArray) (x : Int) : Int := bif erasOk a x then 0 else 100

theorem rprog_no (a : ByteArray) (at_ : Int) (d m : ByteArray) (w : World) (hd : d.size ≤ 140737488351232) (h1 : -9223372036854775808 ≤ at_) (h2 : at_ ≤ 9223372036854775807) (h : progOk a at_ d = false) :
    Calls Try.prog 21 #[.string a, .int .i64 at_, .string d, .string m] w fun e w' => e = .returned (.tuple #[.string (str []), .int .i64 100]) ∧ Below w.heap.size w w' := by
  unfold progOk at h
  cases ca : ((a.size : Int) == 4096)
  · clear h
    go_enter Try.func21, Try.ntmps21
    go_wp2_with (go_at_call 45; refine (cellsmay_any _ _).mono ?_; rw [ca]; rintro e w' ⟨rfl, rfl⟩)
    go_ret2
    exact ⟨rfl, Below.refl _ _⟩
  · by_cases c1 : at_ < 0
    · clear h
      go_enter Try.func21, Try.ntmps21
      go_wp2_with (go_at_call 45; refine (cellsmay_any _ _).mono ?_; rw [ca]; rintro e w' ⟨rfl, rfl⟩)
      go_ret2
      exact ⟨rfl, Below.refl _ _⟩
    · by_cases c2 : 4096 < at_
      · clear h
        go_enter Try.func21, Try.ntmps21
        go_wp2_with (go_at_call 45; refine (cellsmay_any _ _).mono ?_; rw [ca]; rintro e w' ⟨rfl, rfl⟩)
        go_ret2
        exact ⟨rfl, Below.refl _ _⟩
      · have c3 : 4096 - at_ < (d.size : Int) := by
          rw [ca, decide_eq_true (by omega : 0 ≤ at_), decide_eq_true (by omega : at_ ≤ 4096)] at h
          simp at h
          omega
        clear h
        go_enter Try.func21, Try.ntmps21
        go_wp2_with (go_at_call 45; refine (cellsmay_any _ _).mono ?_; rw [ca]; rintro e w' ⟨rfl, rfl⟩)
        go_ret2
        exact ⟨rfl, Below.refl _ _⟩

theorem reras_no (a : ByteArray) (x : Int) (m : ByteArray) (w : World) (h1 : -9223372036854775808 ≤ x) (h2 : x ≤ 9223372036854775807) (h : erasOk a x = false) :
    Calls Try.prog 23 #[.string a, .int .i64 x, .string m] w fun e w' => e = .returned (.tuple #[.string (str []), .int .i64 100]) ∧ Below w.heap.size w w' := by
  unfold erasOk at h
  cases ca : ((a.size : Int) == 4096)
  · clear h
    go_enter Try.func23, Try.ntmps23
    go_wp2_with (go_at_call 45; refine (cellsmay_any _ _).mono ?_; rw [ca]; rintro e w' ⟨rfl, rfl⟩)
    go_ret2
    exact ⟨rfl, Below.refl _ _⟩
  · by_cases c1 : x < 0
    · clear h
      go_enter Try.func23, Try.ntmps23
      go_wp2_with (go_at_call 45; refine (cellsmay_any _ _).mono ?_; rw [ca]; rintro e w' ⟨rfl, rfl⟩)
      go_ret2
      exact ⟨rfl, Below.refl _ _⟩
    · have c3 : 8 ≤ x := by
        rw [ca, decide_eq_true (by omega : 0 ≤ x)] at h
        simp at h
        omega
      clear h
      go_enter Try.func23, Try.ntmps23
      go_wp2_with (go_at_call 45; refine (cellsmay_any _ _).mono ?_; rw [ca]; rintro e w' ⟨rfl, rfl⟩)
      go_ret2
      exact ⟨rfl, Below.refl _ _⟩

theorem progOk_of {a : ByteArray} {at_ : Int} {d : ByteArray} (h : progOk a at_ d = true) : a.size = 4096 ∧ 0 ≤ at_ ∧ at_ ≤ 4096 ∧ (d.size : Int) ≤ 4096 - at_ := by
  unfold progOk at h
  simp only [Bool.and_eq_true, beq_iff_eq, decide_eq_true_eq] at h
  omega
theorem erasOk_of {a : ByteArray} {x : Int} (h : erasOk a x = true) : a.size = 4096 ∧ 0 ≤ x ∧ x < 8 := by
  unfold erasOk at h
  simp only [Bool.and_eq_true, beq_iff_eq, decide_eq_true_eq] at h
  omega

theorem rprog_any (a : ByteArray) (at_ : Int) (d m : ByteArray) (w : World) (hd : d.size ≤ 140737488351232) (h1 : -9223372036854775808 ≤ at_) (h2 : at_ ≤ 9223372036854775807) :
    Calls Try.prog 21 #[.string a, .int .i64 at_, .string d, .string m] w fun e w' => e = .returned (.tuple #[.string (progL a at_ d m), .int .i64 (progE a at_ d)]) ∧ Below w.heap.size w w' := by
  cases h : progOk a at_ d
  · rw [show progL a at_ d m = str [] by rw [progL, h]; rfl, show progE a at_ d = 100 by rw [progE, h]; rfl]
    exact rprog_no a at_ d m w hd h1 h2 h
  · obtain ⟨g1, g2, g3, g4⟩ := progOk_of h
    rw [show progL a at_ d m = str (turnN a.data.toList at_.toNat (progF d.data.toList m.data.toList) d.size) by rw [progL, h]; rfl, show progE a at_ d = 0 by rw [progE, h]; rfl]
    obtain ⟨t, rfl⟩ := Int.eq_ofNat_of_zero_le g2
    exact rprog_ok a t d m w g1 (by omega)

theorem reras_any (a : ByteArray) (x : Int) (m : ByteArray) (w : World) (h1 : -9223372036854775808 ≤ x) (h2 : x ≤ 9223372036854775807) :
    Calls Try.prog 23 #[.string a, .int .i64 x, .string m] w fun e w' => e = .returned (.tuple #[.string (erasL a x m), .int .i64 (erasE a x)]) ∧ Below w.heap.size w w' := by
  cases h : erasOk a x
  · rw [show erasL a x m = str [] by rw [erasL, h]; rfl, show erasE a x = 100 by rw [erasE, h]; rfl]
    exact reras_no a x m w h1 h2 h
  · obtain ⟨g1, g2, g3⟩ := erasOk_of h
    rw [show erasL a x m = str (turnN a.data.toList (512 * x.toNat) (erasF m.data.toList) 512) by rw [erasL, h]; rfl, show erasE a x = 0 by rw [erasE, h]; rfl]
    obtain ⟨t, rfl⟩ := Int.eq_ofNat_of_zero_le g2
    exact reras_ok a t _ m w g1 (by omega) rfl
end Go.Proofs.Ytgfldfkgialdlaa
