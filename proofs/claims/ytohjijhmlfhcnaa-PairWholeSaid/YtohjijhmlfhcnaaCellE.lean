/- The plain law of cells; awake. -/
import Derived.Test.YtohjijhmlfhcnaaCellD
import Derived.Test.YtohjijhmlfhcnaaPairC
namespace Go.Proofs.Ytohjijhmlfhcnaa
set_option linter.unusedVariables false
set_option linter.unusedSimpArgs false
open Go.RowKit

theorem u8_eq {a b : UInt8} (h : ∀ i : Nat, i < 8 → a.toBitVec.getLsbD i = b.toBitVec.getLsbD i) : a = b :=
  UInt8.toBitVec_inj.1 (BitVec.eq_of_getLsbD_eq fun i hi => h i hi)
theorem maskB_all (i : Nat) : maskB allB.data.toList i = 255 := by
  rw [allB, str_data, maskB]
  simp [Nat.mod_one]
theorem u8_nand (d : UInt8) : ~~~(255 &&& ~~~d) = d := by
  have h : ∀ d : BitVec 8, ~~~((255 : BitVec 8) &&& ~~~d) = d := by decide
  exact UInt8.toBitVec_inj.1 (h d.toBitVec)
theorem u8_or255 (d : UInt8) : d ||| 255 = 255 := by
  have h : ∀ d : BitVec 8, d ||| (255 : BitVec 8) = 255 := by decide
  exact UInt8.toBitVec_inj.1 (h d.toBitVec)

def gB (a : ByteArray) (j : Nat) : UInt8 := a.data.toList.getD j 0
theorem ext_gB {a b : ByteArray} (h : a.size = b.size) (k : ∀ j, j < a.size → gB a j = gB b j) : a = b := by
  refine ext_str (List.ext_getElem (by rw [data_len, data_len, h]) fun i h1 h2 => ?_)
  have := k i (by rw [← data_len]; exact h1)
  simpa [gB, List.getD_eq_getElem?_getD, List.getElem?_eq_getElem h1, List.getElem?_eq_getElem h2] using this

theorem progL_of {a : ByteArray} {at_ : Int} {d m : ByteArray} (h : progOk a at_ d = true) : progL a at_ d m = str (turnN a.data.toList at_.toNat (progF d.data.toList m.data.toList) d.size) := by rw [progL, h]; rfl
theorem progE_of {a : ByteArray} {at_ : Int} {d : ByteArray} (h : progOk a at_ d = true) : progE a at_ d = 0 := by rw [progE, h]; rfl
theorem erasL_of {a : ByteArray} {x : Int} {m : ByteArray} (h : erasOk a x = true) : erasL a x m = str (turnN a.data.toList (512 * x.toNat) (erasF m.data.toList) 512) := by rw [erasL, h]; rfl
theorem erasE_of {a : ByteArray} {x : Int} (h : erasOk a x = true) : erasE a x = 0 := by rw [erasE, h]; rfl
theorem progE_no {a : ByteArray} {at_ : Int} {d : ByteArray} (h : progOk a at_ d = false) : progE a at_ d = 100 := by rw [progE, h]; rfl
theorem erasE_no {a : ByteArray} {x : Int} (h : erasOk a x = false) : erasE a x = 100 := by rw [erasE, h]; rfl

theorem progL_size {a : ByteArray} {at_ : Int} {d m : ByteArray} (h : progOk a at_ d = true) : (progL a at_ d m).size = 4096 := by
  rw [progL_of h, str_size, turnN_len, data_len]
  exact (progOk_of h).1
theorem erasL_size {a : ByteArray} {x : Int} {m : ByteArray} (h : erasOk a x = true) : (erasL a x m).size = 4096 := by
  rw [erasL_of h, str_size, turnN_len, data_len]
  exact (erasOk_of h).1

theorem progL_get {a : ByteArray} {at_ : Int} {d m : ByteArray} (h : progOk a at_ d = true) (j : Nat) :
    gB (progL a at_ d m) j = if at_.toNat ≤ j ∧ j < at_.toNat + d.size then progF d.data.toList m.data.toList (j - at_.toNat) (gB a j) else gB a j := by
  obtain ⟨h1, h2, h3, h4⟩ := progOk_of h
  rw [gB, progL_of h, str_data, turnN_get _ _ _ _ (by rw [data_len]; omega)]
  rfl
theorem erasL_get {a : ByteArray} {x : Int} {m : ByteArray} (h : erasOk a x = true) (j : Nat) :
    gB (erasL a x m) j = if 512 * x.toNat ≤ j ∧ j < 512 * x.toNat + 512 then erasF m.data.toList (j - 512 * x.toNat) (gB a j) else gB a j := by
  obtain ⟨h1, h2, h3⟩ := erasOk_of h
  rw [gB, erasL_of h, str_data, turnN_get _ _ _ _ (by rw [data_len]; omega)]
  rfl
theorem progF_all (d : List UInt8) (i : Nat) (b : UInt8) : progF d allB.data.toList i b = b &&& d.getD i 0 := by
  rw [progF, maskB_all]
  rw [u8_nand]
theorem erasF_all (i : Nat) (b : UInt8) : erasF allB.data.toList i b = 255 := by
  rw [erasF, maskB_all, u8_or255]

theorem progOk_in {a : ByteArray} {k : Int} {d : ByteArray} (h : a.size = 4096) (h1 : 0 ≤ k) (h2 : k + d.size ≤ 4096) : progOk a k d = true := by
  unfold progOk
  rw [h, decide_eq_true h1, decide_eq_true (by omega : k ≤ 4096), decide_eq_true (by omega : (d.size : Int) ≤ 4096 - k)]
  rfl
theorem erasOk_in {a : ByteArray} {k : Int} (h : a.size = 4096) (h1 : 0 ≤ k) (h2 : k < 8) : erasOk a k = true := by
  unfold erasOk
  rw [h, decide_eq_true h1, decide_eq_true h2]
  rfl
theorem blank_size : (str blankL).size = 4096 := by rw [str_size, blankL_len]
theorem blank_get (j : Nat) (h : j < 4096) : gB (str blankL) j = 255 := by
  rw [gB, str_data, blankL, List.getD_eq_getElem?_getD, List.getElem?_replicate, if_pos h]
  rfl
theorem get_gB (a : ByteArray) (j : Nat) (h : j < a.size) : a[j] = gB a j := by rw [get_data a j h]; rfl

theorem awake1 (w : World) : Calls Try.prog 33 #[] w fun e w' => e = .returned (.bool true) ∧ Below w.heap.size w w' := by
  obtain ⟨a, ha⟩ : ∃ a, str blankL = a := ⟨_, rfl⟩
  have za : a.size = 4096 := by rw [← ha]; exact blank_size
  have ga : ∀ j, j < 4096 → gB a j = 255 := fun j hj => by rw [← ha]; exact blank_get j hj
  have o1 : progOk a 512 ⟨#[15]⟩ = true := progOk_in za (by decide) (by decide)
  obtain ⟨b, hb⟩ : ∃ b, progL a 512 ⟨#[15]⟩ allB = b := ⟨_, rfl⟩
  have zb : b.size = 4096 := by rw [← hb]; exact progL_size o1
  have gb : ∀ j, j < 4096 → gB b j = if 512 ≤ j ∧ j < 512 + 1 then 15 else 255 := fun j hj => by
    rw [← hb, progL_get o1, ga j hj]
    change (if 512 ≤ j ∧ j < 512 + 1 then _ else _) = _
    split
    · rename_i hx
      obtain rfl : j = 512 := by omega
      rw [progF_all]
      rfl
    · rfl
  have o2 : progOk b 512 ⟨#[0]⟩ = true := progOk_in zb (by decide) (by decide)
  obtain ⟨c, hc⟩ : ∃ c, progL b 512 ⟨#[0]⟩ ⟨#[3]⟩ = c := ⟨_, rfl⟩
  have zc : c.size = 4096 := by rw [← hc]; exact progL_size o2
  have gc : ∀ j, j < 4096 → gB c j = if 512 ≤ j ∧ j < 512 + 1 then 12 else 255 := fun j hj => by
    rw [← hc, progL_get o2, gb j hj]
    change (if 512 ≤ j ∧ j < 512 + 1 then _ else _) = _
    split
    · rename_i hx
      obtain rfl : j = 512 := by omega
      decide
    · rfl
  have o3 : erasOk c 1 = true := erasOk_in zc (by decide) (by decide)
  obtain ⟨d, hd⟩ : ∃ d, erasL c 1 ⟨#[129]⟩ = d := ⟨_, rfl⟩
  have zd : d.size = 4096 := by rw [← hd]; exact erasL_size o3
  have gd : ∀ j, j < 4096 → (j = 512 → gB d j = 141) ∧ (¬ (512 ≤ j ∧ j < 1024) → gB d j = 255) := fun j hj => by
    rw [← hd, erasL_get o3, gc j hj]
    change (_ → (if 512 ≤ j ∧ j < 512 + 512 then _ else _) = _) ∧ (_ → (if 512 ≤ j ∧ j < 512 + 512 then _ else _) = _)
    constructor
    · rintro rfl
      decide
    · intro h
      rw [if_neg (by omega), if_neg (by omega)]
  have o4 : erasOk d 1 = true := erasOk_in zd (by decide) (by decide)
  have h4 : erasL d 1 allB = a := by
    refine ext_gB (by rw [erasL_size o4, za]) fun j hj => ?_
    rw [erasL_size o4] at hj
    rw [erasL_get o4, ga j hj]
    change (if 512 ≤ j ∧ j < 512 + 512 then _ else _) = _
    split
    · exact erasF_all _ _
    · exact (gd j hj).2 (by omega)
  have e1 := progE_of o1
  have e2 := progE_of o2
  have e3 := erasE_of o3
  have e4 := erasE_of o4
  have e5 : erasE a 8 = 100 := erasE_no (by unfold erasOk; rw [za]; rfl)
  have e6 : progE a 4096 ⟨#[120]⟩ = 100 := progE_no (by unfold progOk; rw [za]; rfl)
  have q1 : b[512] = 15 := by rw [get_gB b 512 (by omega), gb 512 (by omega)]; rfl
  have q2 : c[512] = 12 := by rw [get_gB c 512 (by omega), gc 512 (by omega)]; rfl
  have q3 : d[512] = 141 := by rw [get_gB d 512 (by omega)]; exact (gd 512 (by omega)).1 rfl
  have ca : ((a.size : Int) == 4096) = true := by rw [za]; rfl
  have HA := Lib.hid ha
  have HB := Lib.hid hb
  have HC := Lib.hid hc
  have HD := Lib.hid hd
  have H4 := Lib.hid h4
  have E1 := Lib.hid e1
  have E2 := Lib.hid e2
  have E3 := Lib.hid e3
  have E4 := Lib.hid e4
  have E5 := Lib.hid e5
  have E6 := Lib.hid e6
  clear ha hb hc hd ga gb gc gd o1 o2 o3 o4 h4 e1 e2 e3 e4 e5 e6
  go_enter Try.func33, Try.ntmps33
  go_wp2_with fail
  with_reducible refine (blank_any _).mono ?_
  rw [HA.out]
  rintro e w1 ⟨rfl, hb⟩
  have B1 := Lib.hid (hb)
  clear hb
  go_wp2_with fail
  with_reducible refine (program_any a 512 ⟨#[15]⟩ _ (by decide) (by decide) (by decide)).mono ?_
  rw [HB.out]
  rw [E1.out]
  rintro e w2 ⟨rfl, hb⟩
  have B2 := Lib.hid (Bl.then B1.out hb)
  clear hb B1
  go_wp2_with fail
  with_reducible refine (prog_any b 512 ⟨#[0]⟩ ⟨#[3]⟩ _ (by decide) (by decide) (by decide)).mono ?_
  rw [HC.out]
  rw [E2.out]
  rintro e w3 ⟨rfl, hb⟩
  have B3 := Lib.hid (Bl.then B2.out hb)
  clear hb B2
  go_wp2_with fail
  with_reducible refine (eras_any c 1 ⟨#[129]⟩ _ (by decide) (by decide)).mono ?_
  rw [HD.out]
  rw [E3.out]
  rintro e w4 ⟨rfl, hb⟩
  have B4 := Lib.hid (Bl.then B3.out hb)
  clear hb B3
  go_wp2_with fail
  with_reducible refine (erase_any d 1 _ (by decide) (by decide)).mono ?_
  rw [H4.out]
  rw [E4.out]
  rintro e w5 ⟨rfl, hb⟩
  have B5 := Lib.hid (Bl.then B4.out hb)
  clear hb B4
  go_wp2_with fail
  with_reducible refine (erase_any a 8 _ (by decide) (by decide)).mono ?_
  rw [E5.out]
  rintro e w6 ⟨rfl, hb⟩
  have B6 := Lib.hid (Bl.then B5.out hb)
  clear hb B5
  go_wp2_with fail
  with_reducible refine (program_any a 4096 ⟨#[120]⟩ _ (by decide) (by decide) (by decide)).mono ?_
  rw [E6.out]
  rintro e w7 ⟨rfl, hb⟩
  have B7 := Lib.hid (Bl.then B6.out hb)
  clear hb B6
  go_wp2_with first | (go_at_call 19; refine (num_any _ _).mono ?_; rintro e w' ⟨rfl, rfl⟩) | (go_at_call 31; refine (may_any a _).mono ?_; rw [ca]; rintro e w' ⟨rfl, rfl⟩) | (go_at_call 31; refine (may_any _ _).mono ?_; rintro e w' ⟨rfl, rfl⟩)
  go_ret
  exact ⟨rfl, B7.out⟩
end Go.Proofs.Ytohjijhmlfhcnaa
