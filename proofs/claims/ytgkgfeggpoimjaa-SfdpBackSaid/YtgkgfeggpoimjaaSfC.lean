/- sfdp and its document: Put. -/
import Derived.Test.YtgkgfeggpoimjaaSfB
import Derived.Test.YtgkgfeggpoimjaaShelf
namespace Go.Proofs.Ytgkgfeggpoimjaa
set_option linter.unusedVariables false
set_option linter.unusedSimpArgs false
open Go.RowKit

def headL : List UInt8 := [83, 70, 68, 80, 6, 1, 0, 255]
def sfL (a b c : Int) : List UInt8 := headL ++ lowL a ++ lowL b ++ lowL c ++ List.replicate 12 255
def sfOk (a b c : Int) : Bool := powB a && powB b && powB c
def sfP (a b c : Int) : ByteArray := bif sfOk a b c then str (sfL a b c) else str []
def sfE (a b c : Int) : Int := bif sfOk a b c then 0 else 700
theorem str_app (a b : List UInt8) : str a ++ str b = str (a ++ b) := by
  refine ext_str ?_
  rw [ByteArray.data_append, Array.toList_append, str_data, str_data, str_data]
theorem lowL_len (x : Int) : (lowL x).length = 4 := rfl
theorem repeat_oneS (x : UInt8) (n : Nat) : Lib.repeatL [x] n = List.replicate n x := by
  induction n with
  | zero => rfl
  | succ n ih => rw [Lib.repeatL, ih, List.replicate_succ]; rfl

theorem rep12 (w : World) : Calls Try.prog 33 #[.string ⟨#[255]⟩, .int .i64 12] w fun e w' => e = .returned (.string (str (List.replicate 12 255))) ∧ Below w.heap.size w w' := by
  have h := Try.strings_Repeat ⟨#[255]⟩ 12 w (by decide) (by decide)
  have e : (⟨(Lib.repeatL [(255 : UInt8)] 12).toArray⟩ : ByteArray) = str (List.replicate 12 255) := by rw [repeat_oneS]; rfl
  rw [← e]
  exact h

set_option maxRecDepth 100000 in
set_option maxHeartbeats 2000000 in
theorem rput_s (a b c : Int) (w : World) (_ : -9223372036854775808 ≤ a) (_ : a ≤ 9223372036854775807) (_ : -9223372036854775808 ≤ b) (_ : b ≤ 9223372036854775807) (_ : -9223372036854775808 ≤ c) (_ : c ≤ 9223372036854775807) :
    Calls Try.prog 23 #[.int .i64 a, .int .i64 b, .int .i64 c] w fun e w' => e = .returned (.tuple #[.string (sfP a b c), .int .i64 (sfE a b c)]) ∧ Below w.heap.size w w' := by
  have a0 : powB a = true → 0 ≤ a := fun h => by have := powB_in h; omega
  have b0 : powB b = true → 0 ≤ b := fun h => by have := powB_in h; omega
  have c0 : powB c = true → 0 ≤ c := fun h => by have := powB_in h; omega
  have A0 := Lib.hid a0
  have B0 := Lib.hid b0
  have C0 := Lib.hid c0
  clear a0 b0 c0
  obtain ⟨la, hla⟩ : ∃ z, str (lowL a) = z := ⟨_, rfl⟩
  obtain ⟨lb, hlb⟩ : ∃ z, str (lowL b) = z := ⟨_, rfl⟩
  obtain ⟨lc, hlc⟩ : ∃ z, str (lowL c) = z := ⟨_, rfl⟩
  obtain ⟨rp, hrp⟩ : ∃ z, str (List.replicate 12 255) = z := ⟨_, rfl⟩
  obtain ⟨o1, h1⟩ : ∃ z, (⟨#[83, 70, 68, 80, 6, 1, 0, 255]⟩ : ByteArray) ++ la = z := ⟨_, rfl⟩
  obtain ⟨o2, h2⟩ : ∃ z, o1 ++ lb = z := ⟨_, rfl⟩
  obtain ⟨o3, h3⟩ : ∃ z, o2 ++ lc = z := ⟨_, rfl⟩
  obtain ⟨o4, h4⟩ : ∃ z, o3 ++ rp = z := ⟨_, rfl⟩
  have za : la.size = 4 := by rw [← hla, str_size]; rfl
  have zb : lb.size = 4 := by rw [← hlb, str_size]; rfl
  have zc : lc.size = 4 := by rw [← hlc, str_size]; rfl
  have zr : rp.size = 12 := by rw [← hrp, str_size]; rfl
  have z1 : o1.size = 12 := by rw [← h1, ByteArray.size_append, za]; rfl
  have z2 : o2.size = 16 := by rw [← h2, ByteArray.size_append, z1, zb]
  have z3 : o3.size = 20 := by rw [← h3, ByteArray.size_append, z2, zc]
  have ho : o4 = str (sfL a b c) := by
    rw [← h4, ← h3, ← h2, ← h1, ← hla, ← hlb, ← hlc, ← hrp, show (⟨#[83, 70, 68, 80, 6, 1, 0, 255]⟩ : ByteArray) = str headL from rfl, str_app, str_app, str_app, str_app]
    rfl
  have HO := Lib.hid ho
  have LA := Lib.hid hla
  have LB := Lib.hid hlb
  have LC := Lib.hid hlc
  have RP := Lib.hid hrp
  clear ho hla hlb hlc hrp
  cases pa : powB a
  · rw [show sfP a b c = str [] by rw [sfP, sfOk, pa]; rfl, show sfE a b c = 700 by rw [sfE, sfOk, pa]; rfl]
    go_enter Try.func23, Try.ntmps23
    go_wp2_with first | (go_at_call 34; with_reducible refine (power_b a _ (by omega) (by omega)).mono ?_; rw [pa]; rintro e w' ⟨rfl, rfl⟩)
    go_ret2
    exact ⟨rfl, Below.refl _ _⟩
  · cases pb : powB b
    · rw [show sfP a b c = str [] by rw [sfP, sfOk, pa, pb]; rfl, show sfE a b c = 700 by rw [sfE, sfOk, pa, pb]; rfl]
      go_enter Try.func23, Try.ntmps23
      go_wp2_with first | (go_at_call 34; with_reducible refine (power_b a _ (by omega) (by omega)).mono ?_; rw [pa]; rintro e w' ⟨rfl, rfl⟩) | (go_at_call 34; with_reducible refine (power_b b _ (by omega) (by omega)).mono ?_; rw [pb]; rintro e w' ⟨rfl, rfl⟩)
      go_ret2
      exact ⟨rfl, Below.refl _ _⟩
    · cases pc : powB c
      · rw [show sfP a b c = str [] by rw [sfP, sfOk, pa, pb, pc]; rfl, show sfE a b c = 700 by rw [sfE, sfOk, pa, pb, pc]; rfl]
        go_enter Try.func23, Try.ntmps23
        go_wp2_with first | (go_at_call 34; with_reducible refine (power_b a _ (by omega) (by omega)).mono ?_; rw [pa]; rintro e w' ⟨rfl, rfl⟩) | (go_at_call 34; with_reducible refine (power_b b _ (by omega) (by omega)).mono ?_; rw [pb]; rintro e w' ⟨rfl, rfl⟩) | (go_at_call 34; with_reducible refine (power_b c _ (by omega) (by omega)).mono ?_; rw [pc]; rintro e w' ⟨rfl, rfl⟩)
        go_ret2
        exact ⟨rfl, Below.refl _ _⟩
      · have HF := Lib.hid (show ∀ w : World, Calls Try.prog 36 #[.int .i64 12] w fun e w' => e = .returned (.string rp) ∧ Below w.heap.size w w' from fun w => by rw [← RP.out]; exact full_b 12 w (by decide))
        rw [show sfP a b c = str (sfL a b c) by rw [sfP, sfOk, pa, pb, pc]; rfl, show sfE a b c = 0 by rw [sfE, sfOk, pa, pb, pc]; rfl, ← HO.out]
        go_enter Try.func23, Try.ntmps23
        go_wp2_with first | (go_at_call 34; with_reducible refine (power_b a _ (by omega) (by omega)).mono ?_; rw [pa]; rintro e w' ⟨rfl, rfl⟩) | (go_at_call 34; with_reducible refine (power_b b _ (by omega) (by omega)).mono ?_; rw [pb]; rintro e w' ⟨rfl, rfl⟩) | (go_at_call 34; with_reducible refine (power_b c _ (by omega) (by omega)).mono ?_; rw [pc]; rintro e w' ⟨rfl, rfl⟩)
        with_reducible refine (four_any a _ (A0.out pa) (by omega)).mono ?_
        rw [LA.out]
        rintro e w1 ⟨rfl, hb⟩
        have B1 := Lib.hid (hb)
        clear hb
        go_wp2_with fail
        with_reducible refine (four_any b _ (B0.out pb) (by omega)).mono ?_
        rw [LB.out]
        rintro e w2 ⟨rfl, hb⟩
        have B2 := Lib.hid (Bl.then B1.out hb)
        clear hb
        go_wp2_with fail
        with_reducible refine (four_any c _ (C0.out pc) (by omega)).mono ?_
        rw [LC.out]
        rintro e w3 ⟨rfl, hb⟩
        have B3 := Lib.hid (Bl.then B2.out hb)
        clear hb
        go_wp2_with fail
        with_reducible refine (HF.out _).mono ?_
        rintro e w4 ⟨rfl, hb⟩
        have B4 := Lib.hid (Bl.then B3.out hb)
        clear hb
        go_wp2_with fail
        go_ret2
        exact ⟨rfl, B4.out⟩

set_option maxRecDepth 100000 in
set_option maxHeartbeats 2000000 in
theorem put_s (a b c : Int) (w : World) (_ : -9223372036854775808 ≤ a) (_ : a ≤ 9223372036854775807) (_ : -9223372036854775808 ≤ b) (_ : b ≤ 9223372036854775807) (_ : -9223372036854775808 ≤ c) (_ : c ≤ 9223372036854775807) :
    Calls Try.prog 22 #[.int .i64 a, .int .i64 b, .int .i64 c] w fun e w' => e = .returned (.tuple #[.string (sfP a b c), .int .i64 (sfE a b c)]) ∧ Below w.heap.size w w' := by
  have a0 : powB a = true → 0 ≤ a := fun h => by have := powB_in h; omega
  have b0 : powB b = true → 0 ≤ b := fun h => by have := powB_in h; omega
  have c0 : powB c = true → 0 ≤ c := fun h => by have := powB_in h; omega
  have A0 := Lib.hid a0
  have B0 := Lib.hid b0
  have C0 := Lib.hid c0
  clear a0 b0 c0
  obtain ⟨la, hla⟩ : ∃ z, str (lowL a) = z := ⟨_, rfl⟩
  obtain ⟨lb, hlb⟩ : ∃ z, str (lowL b) = z := ⟨_, rfl⟩
  obtain ⟨lc, hlc⟩ : ∃ z, str (lowL c) = z := ⟨_, rfl⟩
  obtain ⟨rp, hrp⟩ : ∃ z, str (List.replicate 12 255) = z := ⟨_, rfl⟩
  obtain ⟨o1, h1⟩ : ∃ z, (⟨#[83, 70, 68, 80, 6, 1, 0, 255]⟩ : ByteArray) ++ la = z := ⟨_, rfl⟩
  obtain ⟨o2, h2⟩ : ∃ z, o1 ++ lb = z := ⟨_, rfl⟩
  obtain ⟨o3, h3⟩ : ∃ z, o2 ++ lc = z := ⟨_, rfl⟩
  obtain ⟨o4, h4⟩ : ∃ z, o3 ++ rp = z := ⟨_, rfl⟩
  have za : la.size = 4 := by rw [← hla, str_size]; rfl
  have zb : lb.size = 4 := by rw [← hlb, str_size]; rfl
  have zc : lc.size = 4 := by rw [← hlc, str_size]; rfl
  have zr : rp.size = 12 := by rw [← hrp, str_size]; rfl
  have z1 : o1.size = 12 := by rw [← h1, ByteArray.size_append, za]; rfl
  have z2 : o2.size = 16 := by rw [← h2, ByteArray.size_append, z1, zb]
  have z3 : o3.size = 20 := by rw [← h3, ByteArray.size_append, z2, zc]
  have ho : o4 = str (sfL a b c) := by
    rw [← h4, ← h3, ← h2, ← h1, ← hla, ← hlb, ← hlc, ← hrp, show (⟨#[83, 70, 68, 80, 6, 1, 0, 255]⟩ : ByteArray) = str headL from rfl, str_app, str_app, str_app, str_app]
    rfl
  have HO := Lib.hid ho
  have LA := Lib.hid hla
  have LB := Lib.hid hlb
  have LC := Lib.hid hlc
  have RP := Lib.hid hrp
  clear ho hla hlb hlc hrp
  have HF := Lib.hid (show ∀ w : World, Calls Try.prog 33 #[.string ⟨#[255]⟩, .int .i64 12] w fun e w' => e = .returned (.string rp) ∧ Below w.heap.size w w' from fun w => by rw [← RP.out]; exact rep12 w)
  have M : ∀ (W W' : World) (q : Nat) (v : Value), q < w.heap.size + 1 → W.cell? ⟨w.heap.size, q, none⟩ = some v → True := fun _ _ _ _ _ _ => trivial
  clear M
  go_enter Try.func22, Try.ntmps22
  go_wp2_with fail
  go_loopw [8, 16] (fun x y wr => Below w.heap.size w wr ∧ wr.cell? ⟨w.heap.size, 0, none⟩ = some (.int .i64 a) ∧ wr.cell? ⟨w.heap.size, 1, none⟩ = some (.int .i64 b) ∧ wr.cell? ⟨w.heap.size, 2, none⟩ = some (.int .i64 c) ∧
    ((y = .int .i64 0 ∧ x = .string ⟨#[83, 70, 68, 80, 6, 1, 0, 255]⟩) ∨ (y = .int .i64 1 ∧ x = .string o1 ∧ powB a = true) ∨ (y = .int .i64 2 ∧ x = .string o2 ∧ powB a = true ∧ powB b = true) ∨ (y = .int .i64 3 ∧ x = .string o3 ∧ powB a = true ∧ powB b = true ∧ powB c = true))) (fun _ y _ => (3 - intOf y).toNat)
  case atStart => exact ⟨Bl.alloc (Below.refl _ _) _, by simp, by simp, by simp, .inl ⟨rfl, rfl⟩⟩
  case round =>
    obtain ⟨hb0, q0, q1, q2, ⟨rfl, rfl⟩ | ⟨rfl, rfl, pa⟩ | ⟨rfl, rfl, pa, pb⟩ | ⟨rfl, rfl, pa, pb, pc⟩⟩ := hrel
    · have HB := Lib.hid hb0
      clear hb0
      cases pa : powB a
      · have ZP := Lib.hid (show sfP a b c = str [] by rw [sfP, sfOk, pa]; simp)
        have ZE := Lib.hid (show sfE a b c = 700 by rw [sfE, sfOk, pa]; simp)
        go_wp2_with (go_at_call 31; refine (may_b a _ (by omega) (by omega)).mono ?_; rw [pa]; rintro e w' ⟨rfl, rfl⟩)
        go_ret2
        exact ⟨by rw [ZP.out, ZE.out]; rfl, HB.out⟩
      · have PA := Lib.hid pa
        go_wp2_with first | (go_at_call 31; refine (may_b a _ (by omega) (by omega)).mono ?_; rw [pa]; rintro e w' ⟨rfl, rfl⟩) | (go_at_call 32; refine (low_any a _ (A0.out PA.out) (by omega)).mono ?_; rw [LA.out]; rintro e w2 ⟨rfl, hb⟩; have HC := Lib.hid hb; clear hb)
        have k := fun (q : Nat) (v : Value) (h : wr.cell? ⟨w.heap.size, q, none⟩ = some v) => (HC.out.cell (World.block_lt_of_cell? _ _ h)).trans h
        refine ⟨⟨Bl.then HB.out HC.out, k _ _ q0, k _ _ q1, k _ _ q2, .inr (.inl ⟨rfl, rfl, (by first | exact PA.out | trivial)⟩)⟩, by decide⟩
    · have HB := Lib.hid hb0
      clear hb0
      cases pb : powB b
      · have ZP := Lib.hid (show sfP a b c = str [] by rw [sfP, sfOk, pa, pb]; simp)
        have ZE := Lib.hid (show sfE a b c = 700 by rw [sfE, sfOk, pa, pb]; simp)
        go_wp2_with (go_at_call 31; refine (may_b b _ (by omega) (by omega)).mono ?_; rw [pb]; rintro e w' ⟨rfl, rfl⟩)
        go_ret2
        exact ⟨by rw [ZP.out, ZE.out]; rfl, HB.out⟩
      · have PB := Lib.hid pb
        have PA := Lib.hid pa
        go_wp2_with first | (go_at_call 31; refine (may_b b _ (by omega) (by omega)).mono ?_; rw [pb]; rintro e w' ⟨rfl, rfl⟩) | (go_at_call 32; refine (low_any b _ (B0.out PB.out) (by omega)).mono ?_; rw [LB.out]; rintro e w2 ⟨rfl, hb⟩; have HC := Lib.hid hb; clear hb)
        have k := fun (q : Nat) (v : Value) (h : wr.cell? ⟨w.heap.size, q, none⟩ = some v) => (HC.out.cell (World.block_lt_of_cell? _ _ h)).trans h
        refine ⟨⟨Bl.then HB.out HC.out, k _ _ q0, k _ _ q1, k _ _ q2, .inr (.inr (.inl ⟨rfl, rfl, (by first | exact PA.out | trivial), (by first | exact PB.out | trivial)⟩))⟩, by decide⟩
    · have HB := Lib.hid hb0
      clear hb0
      cases pc : powB c
      · have ZP := Lib.hid (show sfP a b c = str [] by rw [sfP, sfOk, pa, pb, pc]; simp)
        have ZE := Lib.hid (show sfE a b c = 700 by rw [sfE, sfOk, pa, pb, pc]; simp)
        go_wp2_with (go_at_call 31; refine (may_b c _ (by omega) (by omega)).mono ?_; rw [pc]; rintro e w' ⟨rfl, rfl⟩)
        go_ret2
        exact ⟨by rw [ZP.out, ZE.out]; rfl, HB.out⟩
      · have PC := Lib.hid pc
        have PA := Lib.hid pa
        have PB := Lib.hid pb
        go_wp2_with first | (go_at_call 31; refine (may_b c _ (by omega) (by omega)).mono ?_; rw [pc]; rintro e w' ⟨rfl, rfl⟩) | (go_at_call 32; refine (low_any c _ (C0.out PC.out) (by omega)).mono ?_; rw [LC.out]; rintro e w2 ⟨rfl, hb⟩; have HC := Lib.hid hb; clear hb)
        have k := fun (q : Nat) (v : Value) (h : wr.cell? ⟨w.heap.size, q, none⟩ = some v) => (HC.out.cell (World.block_lt_of_cell? _ _ h)).trans h
        refine ⟨⟨Bl.then HB.out HC.out, k _ _ q0, k _ _ q1, k _ _ q2, .inr (.inr (.inr ⟨rfl, rfl, (by first | exact PA.out | trivial), (by first | exact PB.out | trivial), (by first | exact PC.out | trivial)⟩))⟩, by decide⟩
    · have HB := Lib.hid hb0
      clear hb0
      have ZP := Lib.hid (show sfP a b c = o4 by rw [sfP, sfOk, pa, pb, pc, HO.out]; rfl)
      have ZE := Lib.hid (show sfE a b c = 0 by rw [sfE, sfOk, pa, pb, pc]; rfl)
      go_wp2_with (go_at_call 33; refine (HF.out _).mono ?_; rintro e w2 ⟨rfl, hb⟩; have HC := Lib.hid hb; clear hb)
      go_ret2
      exact ⟨by rw [ZP.out, ZE.out]; rfl, Bl.then HB.out HC.out⟩
end Go.Proofs.Ytgkgfeggpoimjaa
