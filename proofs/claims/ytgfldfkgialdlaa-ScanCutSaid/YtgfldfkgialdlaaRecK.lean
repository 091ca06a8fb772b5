/- The statements over rec: awake. -/
import Derived.Test.YtgfldfkgialdlaaRecJ
import Derived.Laws.StructEq
namespace Go.Proofs.Ytgfldfkgialdlaa
set_option linter.unusedVariables false
set_option linter.unusedSimpArgs false
open Go.RowKit

def eqR (a b : RecV) : Bool := decide (a = b)
set_option maxRecDepth 100000 in
theorem eql_rec (k e : Int) (key v : ByteArray) (k' e' : Int) (key' v' : ByteArray) (W : World) :
    (binOp .eql 23 (.agg #[.int .i64 k, .int .i64 e, .string key, .string v]) (.agg #[.int .i64 k', .int .i64 e', .string key', .string v'])).run Try.prog W = .ok (.bool (k == k' && e == e' && key.toList == key'.toList && v.toList == v'.toList)) W := by
  have hS : Try.prog.underlying 23 = some (.struct (Try.prog.fieldsOf 23)) := by kernel_rfl
  have hp : Try.prog.stoodInHeld 23 = false := by kernel_rfl
  rw [run_eql_struct, show (10000 : Nat) = 9999 + 1 from rfl, run_equalIn_agg W 9999 23 _ _ hS hp]
  simp only [Program.fieldsOf, Try.underlying23]
  go_simp
  by_cases h1 : k = k' <;> by_cases h2 : e = e' <;> by_cases h3 : key.toList = key'.toList <;> by_cases h4 : v.toList = v'.toList <;> simp [h1, h2, h3, h4]
theorem ansR_bad {u x : ByteArray} (hg : getP u = (x, 200)) : ansR u zeroR 1900 := by
  refine .inr ⟨fun q hq he => ?_, rfl, rfl⟩
  have h := putR_get hq
  rw [he, hg] at h
  exact absurd (Prod.mk.inj h).2 (by decide)
theorem blank_bad : getP ((str blankL).extract 0 64) = (str [], 200) := by
  have z : ((str blankL).extract 0 64).size = 64 := by rw [ByteArray.size_extract, blank_size]; rfl
  refine get_no z (j := 0) (by decide) ?_
  rw [ext_gBx _ _ _ _ (by rw [blank_size]; decide) (by decide), ext_gBx _ _ _ _ (by rw [blank_size]; decide) (by decide), blank_get _ (by decide), blank_get _ (by decide)]
  decide

def rA : RecV := ⟨1, 0, ⟨#[97, 98]⟩, ⟨#[120, 121, 122]⟩⟩
def rB : RecV := ⟨1, 0, nilB, nilB⟩
def rC : RecV := ⟨0, 258, nilB, nilB⟩
theorem rA_may : mayP rA := by decide
theorem rB_may : ¬ mayP rB := by decide
theorem rC_may : mayP rC := by decide
set_option maxRecDepth 100000 in
set_option maxHeartbeats 4000000 in
theorem awake19 (w : World) : Calls Try.prog 20 #[] w fun e w' => e = .returned (.bool true) ∧ Below w.heap.size w w' := by
  have pA := fun w => putr_any rA w (by decide) (by decide)
  have pB := fun w => putr_any rB w (by decide) (by decide)
  have pC := fun w => putr_any rC w (by decide) (by decide)
  have mA := fun w => may_any rA w (by decide) (by decide)
  have gA := fun w => getr_any (putR rA) rA 0 (ansR_put rA_may) w
  rw [show putRe rA = 0 from if_pos rA_may] at pA
  rw [show putRe rB = 1900 from if_neg rB_may, show putR rB = str [] from if_neg rB_may] at pB
  rw [show putRe rC = 0 from if_pos rC_may] at pC
  rw [show mayB rA = true from decide_eq_true rA_may] at mA
  obtain ⟨t, ht⟩ : ∃ t, putR rA = t := ⟨_, rfl⟩
  obtain ⟨x, hx⟩ : ∃ t, putR rC = t := ⟨_, rfl⟩
  have zt : t.size = 64 := by rw [← ht]; exact putR_size rA_may
  have zx : x.size = 64 := by rw [← hx]; exact putR_size rC_may
  have et : (t.extract 0 13).toList = [82, 2, 3, 0, 97, 98, 0, 0, 0, 0, 120, 121, 122] := by rw [ByteArray.toList_eq, ← ht]; decide +kernel
  have ex : (x.extract 0 5).toList = [72, 2, 1, 0, 0] := by rw [ByteArray.toList_eq, ← hx]; decide +kernel
  rw [ht] at pA gA
  rw [hx] at pC
  obtain ⟨u, hu⟩ : ∃ u, (str blankL).extract 0 64 = u := ⟨_, rfl⟩
  have gU := fun w => getr_any u zeroR 1900 (ansR_bad (by rw [← hu]; exact blank_bad)) w
  obtain ⟨bl, hbl⟩ : ∃ u, str blankL = u := ⟨_, rfl⟩
  rw [hbl] at hu
  have zb : bl.size = 4096 := by rw [← hbl]; exact blank_size
  have PA := Lib.hid pA
  have PB := Lib.hid pB
  have PC := Lib.hid pC
  have MA := Lib.hid mA
  have GA := Lib.hid gA
  have GU := Lib.hid gU
  have HB := Lib.hid hbl
  change Hid (∀ w : World, Calls Try.prog 13 #[.agg #[.int .i64 1, .int .i64 0, .string ⟨#[97, 98]⟩, .string ⟨#[120, 121, 122]⟩]] w fun e w' => e = .returned (.tuple #[.string t, .int .i64 0]) ∧ Below w.heap.size w w') at PA
  change Hid (∀ w : World, Calls Try.prog 13 #[.agg #[.int .i64 1, .int .i64 0, .string ⟨#[]⟩, .string ⟨#[]⟩]] w fun e w' => e = .returned (.tuple #[.string (str []), .int .i64 1900]) ∧ Below w.heap.size w w') at PB
  change Hid (∀ w : World, Calls Try.prog 13 #[.agg #[.int .i64 0, .int .i64 258, .string ⟨#[]⟩, .string ⟨#[]⟩]] w fun e w' => e = .returned (.tuple #[.string x, .int .i64 0]) ∧ Below w.heap.size w w') at PC
  change Hid (∀ w : World, Calls Try.prog 18 #[.agg #[.int .i64 1, .int .i64 0, .string ⟨#[97, 98]⟩, .string ⟨#[120, 121, 122]⟩]] w fun e w' => e = .returned (.bool true) ∧ Below w.heap.size w w') at MA
  change Hid (∀ w : World, Calls Try.prog 15 #[.string t] w fun e w' => e = .returned (.tuple #[.agg #[.int .i64 1, .int .i64 0, .string ⟨#[97, 98]⟩, .string ⟨#[120, 121, 122]⟩], .int .i64 0]) ∧ Below w.heap.size w w') at GA
  change Hid (∀ w : World, Calls Try.prog 15 #[.string u] w fun e w' => e = .returned (.tuple #[.agg #[.int .i64 0, .int .i64 0, .string ⟨#[]⟩, .string ⟨#[]⟩], .int .i64 1900]) ∧ Below w.heap.size w w') at GU
  have ke := eql_rec 1 0 ⟨#[97, 98]⟩ ⟨#[120, 121, 122]⟩ 1 0 ⟨#[97, 98]⟩ ⟨#[120, 121, 122]⟩
  clear pA pB pC mA gA gU hbl ht hx
  go_enter Try.func20, Try.ntmps20
  go_wp2_with fail
  with_reducible refine (PA.out _).mono ?_
  rintro e w1 ⟨rfl, hb⟩
  have B1 := Lib.hid (Bl.then (Bl.alloc (Below.refl _ _) _) hb)
  have X1 := Lib.hid (Bx.below (Bx.new w (.int .i64 1) (.int .i64 0) (.string ⟨#[97, 98]⟩) (.string ⟨#[120, 121, 122]⟩) 23) hb)
  clear hb
  go_wp2_with fail
  with_reducible refine (GA.out _).mono ?_
  rintro e w2 ⟨rfl, hb⟩
  have B2 := Lib.hid (Bl.then B1.out hb)
  have X2 := Lib.hid (Bx.below X1.out hb)
  clear hb B1 X1
  go_wp2_with fail
  with_reducible refine (PB.out _).mono ?_
  rintro e w3 ⟨rfl, hb⟩
  have B3 := Lib.hid (Bl.then (Bl.alloc B2.out _) hb)
  have X3 := Lib.hid (Bx.below (Bx.below X2.out (Bl.alloc (Below.refl _ _) _)) hb)
  have Y3 := Lib.hid (Bx.below (Bx.new w2 (.int .i64 1) (.int .i64 0) (.string ⟨#[97, 98]⟩) (.string ⟨#[120, 121, 122]⟩) 23) hb)
  clear hb B2 X2
  go_wp2_with fail
  with_reducible refine (rblank_any _).mono ?_
  rw [HB.out]
  rintro e w4 ⟨rfl, hb⟩
  have B4 := Lib.hid (Bl.then B3.out hb)
  have X4 := Lib.hid (Bx.below X3.out hb)
  have Y4 := Lib.hid (Bx.below Y3.out hb)
  clear hb B3 X3 Y3
  go_wp2_with fail
  with_reducible refine (GU.out _).mono ?_
  rintro e w5 ⟨rfl, hb⟩
  have B5 := Lib.hid (Bl.then B4.out hb)
  have X5 := Lib.hid (Bx.below X4.out hb)
  have Y5 := Lib.hid (Bx.below Y4.out hb)
  clear hb B4 X4 Y4
  go_wp2_with fail
  with_reducible refine (PC.out _).mono ?_
  rintro e w6 ⟨rfl, hb⟩
  have B6 := Lib.hid (Bl.then (Bl.alloc B5.out _) hb)
  obtain ⟨⟨c0, c1, c2, c3⟩, _⟩ := Bx.below (Bx.below X5.out (Bl.alloc (Below.refl _ _) _)) hb
  obtain ⟨⟨d0, d1, d2, d3⟩, _⟩ := Bx.below (Bx.below Y5.out (Bl.alloc (Below.refl _ _) _)) hb
  clear hb B5 X5 Y5
  go_wp2_with (go_at_call 17; refine (num_any _ _).mono ?_; rintro e w' ⟨rfl, rfl⟩)
  with_reducible refine (MA.out _).mono ?_
  rintro e w7 ⟨rfl, hb⟩
  have B7 := Lib.hid (Bl.then B6.out hb)
  clear hb
  go_wp2_with fail
  go_ret
  exact ⟨rfl, B7.out⟩
end Go.Proofs.Ytgfldfkgialdlaa
