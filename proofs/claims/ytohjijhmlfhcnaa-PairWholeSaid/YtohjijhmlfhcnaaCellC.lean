/- The program's cells. -/
import Derived.Test.YtohjijhmlfhcnaaCellB
import Derived.Test.YtohjijhmlfhcnaaShelf
import Derived.Lib.SliceRun
namespace Go.Proofs.Ytohjijhmlfhcnaa
set_option linter.unusedVariables false
set_option linter.unusedSimpArgs false
open Go.RowKit

theorem may_any (a : ByteArray) (w : World) : Calls Try.prog 31 #[.string a] w fun e w' => e = .returned (.bool ((a.size : Int) == 4096)) ∧ w = w' := by
  go_enter Try.func31, Try.ntmps31
  go_wp2
  go_ret
  exact ⟨rfl, rfl⟩

theorem fits_any (a : ByteArray) (at_ : Int) (d : ByteArray) (w : World) (hd : d.size ≤ 140737488351232) (h1 : -9223372036854775808 ≤ at_) (h2 : at_ ≤ 9223372036854775807) :
    Calls Try.prog 36 #[.string a, .int .i64 at_, .int .i64 (d.size : Int)] w fun e w' => e = .returned (.bool (progOk a at_ d)) ∧ w = w' := by
  unfold progOk
  cases ca : ((a.size : Int) == 4096)
  · go_enter Try.func36, Try.ntmps36
    go_wp2_with (go_at_call 31; refine (may_any _ _).mono ?_; rw [ca]; rintro e w' ⟨rfl, rfl⟩)
    go_ret
    exact ⟨rfl, rfl⟩
  · by_cases c1 : at_ < 0
    · rw [decide_eq_false (by omega : ¬ 0 ≤ at_)]
      go_enter Try.func36, Try.ntmps36
      go_wp2_with (go_at_call 31; refine (may_any _ _).mono ?_; rw [ca]; rintro e w' ⟨rfl, rfl⟩)
      go_ret
      exact ⟨rfl, rfl⟩
    · by_cases c2 : 4096 < at_
      · rw [decide_eq_true (by omega : 0 ≤ at_), decide_eq_false (by omega : ¬ at_ ≤ 4096)]
        go_enter Try.func36, Try.ntmps36
        go_wp2_with (go_at_call 31; refine (may_any _ _).mono ?_; rw [ca]; rintro e w' ⟨rfl, rfl⟩)
        go_ret
        exact ⟨rfl, rfl⟩
      · rw [decide_eq_true (by omega : 0 ≤ at_), decide_eq_true (by omega : at_ ≤ 4096)]
        go_enter Try.func36, Try.ntmps36
        go_wp2_with (go_at_call 31; refine (may_any _ _).mono ?_; rw [ca]; rintro e w' ⟨rfl, rfl⟩)
        go_ret
        refine ⟨?_, rfl⟩
        simp

theorem repeat_one (x : UInt8) (n : Nat) : Lib.repeatL [x] n = List.replicate n x := by
  induction n with
  | zero => rfl
  | succ n ih => rw [Lib.repeatL, ih, List.replicate_succ]; rfl

theorem cell_new (w : World) (v : Value) (t : TypeId) : (w.alloc (Obj.cells #[v] t)).cell? ⟨w.heap.size, 0, none⟩ = some v := by
  have h : (w.alloc (Obj.cells #[v] t)).heap = w.heap.push (Obj.cells #[v] t) := rfl
  simp only [World.cell?, h]
  simp

theorem blank_any (w : World) : Calls Try.prog 34 #[] w fun e w' => e = .returned (.string (str blankL)) ∧ Below w.heap.size w w' := by
  have HK := Lib.hid (show ∀ w : World, Calls Try.prog 42 #[.string ⟨#[255]⟩, .int .i64 4096] w fun e w' => e = .returned (.string (str blankL)) ∧ Below w.heap.size w w' from fun w => by
    have h := Try.strings_Repeat ⟨#[255]⟩ 4096 w (by decide) (by decide)
    have e : (⟨(Lib.repeatL [(255 : UInt8)] 4096).toArray⟩ : ByteArray) = str blankL := by rw [repeat_one]; rfl
    rw [← e]
    exact h)
  go_enter Try.func34, Try.ntmps34
  go_wp2_with (go_at_call 42; refine (HK.out _).mono ?_; rintro e w' ⟨rfl, hb⟩; have HB := Lib.hid hb; clear hb)
  go_ret
  exact ⟨rfl, HB.out⟩

theorem cell_kept {W : World} {a : Addr} {v : Value} (o : Obj) (h : W.cell? a = some v) : (W.alloc o).cell? a = some v := by
  exact Lib.cell?_alloc_some o h

theorem eras_ok (a : ByteArray) (x t : Nat) (m : ByteArray) (w : World) (ha : a.size = 4096) (hn : x < 8) (ht : t = 512 * x) :
    Calls Try.prog 29 #[.string a, .int .i64 x, .string m] w fun e w' => e = .returned (.tuple #[.string (str (turnN a.data.toList t (erasF m.data.toList) 512)), .int .i64 0]) ∧ Below w.heap.size w w' := by
  have hx0 : (x : Int) < 8 := by omega
  have hx1 : (x : Int) * 512 = (t : Int) := by omega
  have hx2 : IntKind.i64.wrap (t : Int) = (t : Int) := IntWalk.i64_in _ (by omega)
  have hx3 : t + 512 ≤ 4096 := by omega
  have ca : ((a.size : Int) == 4096) = true := by rw [ha]; rfl
  have HK := Lib.hid ha
  clear ht ha
  go_enter Try.func29, Try.ntmps29
  go_wp2_with (go_at_call 31; refine (may_any _ _).mono ?_; rw [ca]; rintro e w' ⟨rfl, rfl⟩)
  refine (turned_eras a t 512 w.heap.size m _ (cell_new w _ _) (by rw [HK.out]; omega) (by rw [HK.out]; omega)).mono ?_
  rintro e w' ⟨rfl, hb⟩
  have HB := Lib.hid (Bl.then (Bl.alloc (Below.refl _ _) _) hb)
  clear hb
  go_wp2
  go_ret2
  exact ⟨rfl, HB.out⟩

theorem eras_no (a : ByteArray) (x : Int) (m : ByteArray) (w : World) (h1 : -9223372036854775808 ≤ x) (h2 : x ≤ 9223372036854775807) (h : erasOk a x = false) :
    Calls Try.prog 29 #[.string a, .int .i64 x, .string m] w fun e w' => e = .returned (.tuple #[.string (str []), .int .i64 100]) ∧ Below w.heap.size w w' := by
  unfold erasOk at h
  cases ca : ((a.size : Int) == 4096)
  · clear h
    go_enter Try.func29, Try.ntmps29
    go_wp2_with (go_at_call 31; refine (may_any _ _).mono ?_; rw [ca]; rintro e w' ⟨rfl, rfl⟩)
    go_ret2
    exact ⟨rfl, Bl.alloc (Below.refl _ _) _⟩
  · by_cases c1 : x < 0
    · clear h
      go_enter Try.func29, Try.ntmps29
      go_wp2_with (go_at_call 31; refine (may_any _ _).mono ?_; rw [ca]; rintro e w' ⟨rfl, rfl⟩)
      go_ret2
      exact ⟨rfl, Bl.alloc (Below.refl _ _) _⟩
    · have c3 : 8 ≤ x := by
        rw [ca, decide_eq_true (by omega : 0 ≤ x)] at h
        simp at h
        omega
      clear h
      go_enter Try.func29, Try.ntmps29
      go_wp2_with (go_at_call 31; refine (may_any _ _).mono ?_; rw [ca]; rintro e w' ⟨rfl, rfl⟩)
      go_ret2
      exact ⟨rfl, Bl.alloc (Below.refl _ _) _⟩

theorem prog_ok (a : ByteArray) (at_ : Nat) (d m : ByteArray) (w : World) (ha : a.size = 4096) (hn : at_ + d.size ≤ 4096) :
    Calls Try.prog 25 #[.string a, .int .i64 at_, .string d, .string m] w fun e w' => e = .returned (.tuple #[.string (str (turnN a.data.toList at_ (progF d.data.toList m.data.toList) d.size)), .int .i64 0]) ∧ Below w.heap.size w w' := by
  have HF := Lib.hid (show ∀ w : World, Calls Try.prog 36 #[.string a, .int .i64 at_, .int .i64 (d.size : Int)] w fun e w' => e = .returned (.bool true) ∧ w' = w from fun w => by
    have h := fits_any a at_ d w (by omega) (by omega) (by omega)
    rw [show progOk a at_ d = true by unfold progOk; rw [ha, decide_eq_true (by omega : 0 ≤ (at_ : Int)), decide_eq_true (by omega : (at_ : Int) ≤ 4096), decide_eq_true (by omega : (d.size : Int) ≤ 4096 - (at_ : Int))]; rfl] at h
    exact h.mono fun e w' h => ⟨h.1, h.2.symm⟩)
  have HK := Lib.hid ha
  have HN := Lib.hid hn
  clear ha hn
  go_enter Try.func25, Try.ntmps25
  have g1 : ((w.alloc (Obj.cells #[.string d] 9)).alloc (Obj.cells #[.string m] 9)).cell? ⟨w.heap.size, 0, none⟩ = some (.string d) := cell_kept _ (cell_new w _ _)
  have g2 : ((w.alloc (Obj.cells #[.string d] 9)).alloc (Obj.cells #[.string m] 9)).cell? ⟨(w.alloc (Obj.cells #[.string d] 9)).heap.size, 0, none⟩ = some (.string m) := cell_new _ _ _
  go_wp2_with (go_at_call 36; refine (HF.out _).mono ?_; rintro e w' ⟨rfl, rfl⟩)
  refine (turned_prog a at_ d.size (w.heap.size + 1) w.heap.size m d _ ?_ g1 (Nat.le_refl _) (by rw [HK.out]; omega) (by rw [HK.out]; exact HN.out)).mono ?_
  · have h := g2
    rwa [show (w.alloc (Obj.cells #[.string d] 9)).heap.size = w.heap.size + 1 by simp] at h
  rintro e w' ⟨rfl, hb⟩
  have HB := Lib.hid (Bl.then (Bl.alloc (Bl.alloc (Below.refl _ _) _) _) hb)
  clear hb
  go_wp2
  go_ret2
  exact ⟨rfl, HB.out⟩

theorem prog_no (a : ByteArray) (at_ : Int) (d m : ByteArray) (w : World) (hd : d.size ≤ 140737488351232) (h1 : -9223372036854775808 ≤ at_) (h2 : at_ ≤ 9223372036854775807) (h : progOk a at_ d = false) :
    Calls Try.prog 25 #[.string a, .int .i64 at_, .string d, .string m] w fun e w' => e = .returned (.tuple #[.string (str []), .int .i64 100]) ∧ Below w.heap.size w w' := by
  have HF := Lib.hid (show ∀ w : World, Calls Try.prog 36 #[.string a, .int .i64 at_, .int .i64 (d.size : Int)] w fun e w' => e = .returned (.bool false) ∧ w' = w from fun w => by
    have hh := fits_any a at_ d w hd h1 h2
    rw [h] at hh
    exact hh.mono fun e w' h => ⟨h.1, h.2.symm⟩)
  clear h
  go_enter Try.func25, Try.ntmps25
  have g1 : ((w.alloc (Obj.cells #[.string d] 9)).alloc (Obj.cells #[.string m] 9)).cell? ⟨w.heap.size, 0, none⟩ = some (.string d) := cell_kept _ (cell_new w _ _)
  go_wp2_with (go_at_call 36; refine (HF.out _).mono ?_; rintro e w' ⟨rfl, rfl⟩)
  go_ret2
  exact ⟨rfl, Bl.alloc (Bl.alloc (Below.refl _ _) _) _⟩

theorem prog_any (a : ByteArray) (at_ : Int) (d m : ByteArray) (w : World) (hd : d.size ≤ 140737488351232) (h1 : -9223372036854775808 ≤ at_) (h2 : at_ ≤ 9223372036854775807) :
    Calls Try.prog 25 #[.string a, .int .i64 at_, .string d, .string m] w fun e w' => e = .returned (.tuple #[.string (progL a at_ d m), .int .i64 (progE a at_ d)]) ∧ Below w.heap.size w w' := by
  cases h : progOk a at_ d
  · rw [show progL a at_ d m = str [] by rw [progL, h]; rfl, show progE a at_ d = 100 by rw [progE, h]; rfl]
    exact prog_no a at_ d m w hd h1 h2 h
  · obtain ⟨g1, g2, g3, g4⟩ := progOk_of h
    rw [show progL a at_ d m = str (turnN a.data.toList at_.toNat (progF d.data.toList m.data.toList) d.size) by rw [progL, h]; rfl, show progE a at_ d = 0 by rw [progE, h]; rfl]
    obtain ⟨t, rfl⟩ := Int.eq_ofNat_of_zero_le g2
    exact prog_ok a t d m w g1 (by omega)

theorem eras_any (a : ByteArray) (x : Int) (m : ByteArray) (w : World) (h1 : -9223372036854775808 ≤ x) (h2 : x ≤ 9223372036854775807) :
    Calls Try.prog 29 #[.string a, .int .i64 x, .string m] w fun e w' => e = .returned (.tuple #[.string (erasL a x m), .int .i64 (erasE a x)]) ∧ Below w.heap.size w w' := by
  cases h : erasOk a x
  · rw [show erasL a x m = str [] by rw [erasL, h]; rfl, show erasE a x = 100 by rw [erasE, h]; rfl]
    exact eras_no a x m w h1 h2 h
  · obtain ⟨g1, g2, g3⟩ := erasOk_of h
    rw [show erasL a x m = str (turnN a.data.toList (512 * x.toNat) (erasF m.data.toList) 512) by rw [erasL, h]; rfl, show erasE a x = 0 by rw [erasE, h]; rfl]
    obtain ⟨t, rfl⟩ := Int.eq_ofNat_of_zero_le g2
    exact eras_ok a t _ m w g1 (by omega) rfl

/-- All bits. -/
def allB : ByteArray := str [255]

theorem program_any (a : ByteArray) (at_ : Int) (d : ByteArray) (w : World) (hd : d.size ≤ 140737488351232) (h1 : -9223372036854775808 ≤ at_) (h2 : at_ ≤ 9223372036854775807) :
    Calls Try.prog 23 #[.string a, .int .i64 at_, .string d] w fun e w' => e = .returned (.tuple #[.string (progL a at_ d allB), .int .i64 (progE a at_ d)]) ∧ Below w.heap.size w w' := by
  have HK := Lib.hid (show ∀ w : World, Calls Try.prog 25 #[.string a, .int .i64 at_, .string d, .string ⟨#[255]⟩] w fun e w' => e = .returned (.tuple #[.string (progL a at_ d allB), .int .i64 (progE a at_ d)]) ∧ Below w.heap.size w w' from fun w => prog_any a at_ d allB w hd h1 h2)
  go_enter Try.func23, Try.ntmps23
  go_wp2_with (go_at_call 25; refine (HK.out _).mono ?_; rintro e w' ⟨rfl, hb⟩; have HB := Lib.hid hb; clear hb)
  go_ret2
  exact ⟨rfl, HB.out⟩

theorem rprogram_any (a : ByteArray) (at_ : Int) (d : ByteArray) (w : World) (hd : d.size ≤ 140737488351232) (h1 : -9223372036854775808 ≤ at_) (h2 : at_ ≤ 9223372036854775807) :
    Calls Try.prog 24 #[.string a, .int .i64 at_, .string d] w fun e w' => e = .returned (.tuple #[.string (progL a at_ d allB), .int .i64 (progE a at_ d)]) ∧ Below w.heap.size w w' := by
  have HK := Lib.hid (show ∀ w : World, Calls Try.prog 26 #[.string a, .int .i64 at_, .string d, .string ⟨#[255]⟩] w fun e w' => e = .returned (.tuple #[.string (progL a at_ d allB), .int .i64 (progE a at_ d)]) ∧ Below w.heap.size w w' from fun w => rprog_any a at_ d allB w hd h1 h2)
  go_enter Try.func24, Try.ntmps24
  go_wp2_with (go_at_call 26; refine (HK.out _).mono ?_; rintro e w' ⟨rfl, hb⟩; have HB := Lib.hid hb; clear hb)
  go_ret2
  exact ⟨rfl, HB.out⟩

theorem erase_any (a : ByteArray) (x : Int) (w : World) (h1 : -9223372036854775808 ≤ x) (h2 : x ≤ 9223372036854775807) :
    Calls Try.prog 27 #[.string a, .int .i64 x] w fun e w' => e = .returned (.tuple #[.string (erasL a x allB), .int .i64 (erasE a x)]) ∧ Below w.heap.size w w' := by
  have HK := Lib.hid (show ∀ w : World, Calls Try.prog 29 #[.string a, .int .i64 x, .string ⟨#[255]⟩] w fun e w' => e = .returned (.tuple #[.string (erasL a x allB), .int .i64 (erasE a x)]) ∧ Below w.heap.size w w' from fun w => eras_any a x allB w h1 h2)
  go_enter Try.func27, Try.ntmps27
  go_wp2_with (go_at_call 29; refine (HK.out _).mono ?_; rintro e w' ⟨rfl, hb⟩; have HB := Lib.hid hb; clear hb)
  go_ret2
  exact ⟨rfl, HB.out⟩

theorem rerase_any (a : ByteArray) (x : Int) (w : World) (h1 : -9223372036854775808 ≤ x) (h2 : x ≤ 9223372036854775807) :
    Calls Try.prog 28 #[.string a, .int .i64 x] w fun e w' => e = .returned (.tuple #[.string (erasL a x allB), .int .i64 (erasE a x)]) ∧ Below w.heap.size w w' := by
  have HK := Lib.hid (show ∀ w : World, Calls Try.prog 30 #[.string a, .int .i64 x, .string ⟨#[255]⟩] w fun e w' => e = .returned (.tuple #[.string (erasL a x allB), .int .i64 (erasE a x)]) ∧ Below w.heap.size w w' from fun w => reras_any a x allB w h1 h2)
  go_enter Try.func28, Try.ntmps28
  go_wp2_with (go_at_call 30; refine (HK.out _).mono ?_; rintro e w' ⟨rfl, hb⟩; have HB := Lib.hid hb; clear hb)
  go_ret2
  exact ⟨rfl, HB.out⟩

end Go.Proofs.Ytohjijhmlfhcnaa
