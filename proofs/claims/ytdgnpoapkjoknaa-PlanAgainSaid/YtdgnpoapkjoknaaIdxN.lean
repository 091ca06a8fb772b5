/- The statements over index: awake. -/
import Derived.Test.YtdgnpoapkjoknaaIdxL
import Derived.Test.YtdgnpoapkjoknaaIdxM
namespace Go.Proofs.Ytdgnpoapkjoknaa
set_option linter.unusedVariables false
set_option linter.unusedSimpArgs false
open Go.RowKit

theorem RdR.lit (w : World) (rs : List RecV) (n g : Nat) (hg : w.heap.size = g) (hn : rs.length = n) (hm : n ≤ maxLen) (t : TypeId) : RdR (w.alloc (.cells (flat rs).toArray t)) (.slice (some ⟨g, 0, none⟩) n n) rs := by
  subst hg hn
  refine .inr ⟨w.heap.size, 0, rs.length, rfl, Nat.le_refl _, hm, fun j u hu => ?_⟩
  rw [Nat.zero_add, cell_of_row _ _ _ _ _ _ (heap_alloc_new w _)]
  simpa using hu
theorem RdP.lit (w : World) (ps : List PairV) (n g : Nat) (hg : w.heap.size = g) (hn : ps.length = n) (hm : n ≤ maxLen) (t : TypeId) : RdP (w.alloc (.cells (flatP ps).toArray t)) (.slice (some ⟨g, 0, none⟩) n n) ps := by
  subst hg hn
  refine .inr ⟨w.heap.size, 0, ps.length, rfl, Nat.le_refl _, hm, fun j u hu => ?_⟩
  rw [Nat.zero_add, cell_of_row _ _ _ _ _ _ (heap_alloc_new w _)]
  simpa using hu
theorem num_any (n : Int) (w : World) : Calls Try.prog 22 #[.int .i64 n] w fun e w' => e = .returned (.int .i64 n) ∧ w = w' := by
  go_enter Try.func22, Try.ntmps22
  go_wp2
  go_ret
  exact ⟨rfl, rfl⟩
def aw5 : List RecV := [⟨1, 0, ⟨#[98]⟩, ⟨#[49]⟩⟩, ⟨1, 0, ⟨#[97]⟩, ⟨#[50]⟩⟩, ⟨1, 0, ⟨#[98]⟩, ⟨#[51]⟩⟩, ⟨2, 0, ⟨#[97]⟩, nilB⟩, ⟨1, 0, ⟨#[99]⟩, nilB⟩]
def aw5p : List PairV := [⟨⟨#[98]⟩, ⟨#[51]⟩⟩, ⟨⟨#[99]⟩, nilB⟩]
theorem aw5_build : buildE aw5 = 0 ∧ buildL aw5 = aw5p := by decide +kernel
theorem aw5_findb : findV aw5p ⟨#[98]⟩ = ⟨#[51]⟩ ∧ findB aw5p ⟨#[98]⟩ = true ∧ findB aw5p ⟨#[97]⟩ = false ∧ findV aw5p ⟨#[97]⟩ = nilB := by decide +kernel
theorem aw1_build : buildE [⟨0, 1, nilB, nilB⟩] = 2100 ∧ buildL [⟨0, 1, nilB, nilB⟩] = [] := by decide +kernel
theorem aw2_with : withE [⟨⟨#[98]⟩, nilB⟩, ⟨⟨#[97]⟩, nilB⟩] ⟨2, 0, ⟨#[97]⟩, nilB⟩ = 2100 ∧ withL [⟨⟨#[98]⟩, nilB⟩, ⟨⟨#[97]⟩, nilB⟩] ⟨2, 0, ⟨#[97]⟩, nilB⟩ = [] := by decide +kernel
set_option maxRecDepth 100000 in
set_option maxHeartbeats 4000000 in
theorem awake21 (w : World) : Calls Try.prog 26 #[] w fun e w' => e = .returned (.bool true) ∧ Below w.heap.size w w' := by
  have b1 := fun (w : World) (v : Value) (h : RdR w v aw5) => build_any w v aw5 h (by decide) (by decide)
  rw [aw5_build.1, aw5_build.2] at b1
  have b2 := fun (w : World) (v : Value) (h : RdR w v [⟨0, 1, nilB, nilB⟩]) => build_any w v [⟨0, 1, nilB, nilB⟩] h (by decide) (by decide)
  rw [aw1_build.1, aw1_build.2] at b2
  have f1 := fun (w : World) (v : Value) (h : RdP w v aw5p) => find_any w v aw5p ⟨#[98]⟩ h (by decide)
  rw [aw5_findb.1, aw5_findb.2.1] at f1
  have f2 := fun (w : World) (v : Value) (h : RdP w v aw5p) => find_any w v aw5p ⟨#[97]⟩ h (by decide)
  rw [aw5_findb.2.2.1, aw5_findb.2.2.2] at f2
  have wi := fun (w : World) (v : Value) (h : RdP w v [⟨⟨#[98]⟩, nilB⟩, ⟨⟨#[97]⟩, nilB⟩]) => with_any w v [⟨⟨#[98]⟩, nilB⟩, ⟨⟨#[97]⟩, nilB⟩] ⟨2, 0, ⟨#[97]⟩, nilB⟩ h (by decide) (by decide) (by decide)
  rw [aw2_with.1, aw2_with.2] at wi
  have BA := Lib.hid b1
  have BB := Lib.hid b2
  have FA := Lib.hid f1
  have FB := Lib.hid f2
  have WI := Lib.hid wi
  clear b1 b2 f1 f2 wi
  go_enter Try.func26, Try.ntmps26
  go_wp2_with fail
  refine (BA.out _ _ (RdR.lit w aw5 5 w.heap.size rfl rfl (by decide) 25)).mono ?_
  rintro e w1 ⟨v1, rfl, o1, hb⟩
  have O1 := Lib.hid (OwnP.rd o1)
  have B1 := Lib.hid (Bl.then (Bl.alloc (Below.refl _ _) _) hb)
  clear o1 hb BA
  go_wp2_with fail
  refine (FA.out _ _ O1.out).mono ?_
  rintro e w2 ⟨rfl, hb⟩
  have O2 := Lib.hid (O1.out.below hb)
  have B2 := Lib.hid (Bl.then B1.out hb)
  clear hb O1 B1 FA
  go_wp2_with fail
  refine (FB.out _ _ O2.out).mono ?_
  rintro e w3 ⟨rfl, hb⟩
  have O3 := Lib.hid (O2.out.below hb)
  have B3 := Lib.hid (Bl.then B2.out hb)
  clear hb O2 B2 FB
  go_wp2_with fail
  refine (BB.out _ _ (RdR.lit w3 [⟨0, 1, nilB, nilB⟩] 1 w3.heap.size rfl rfl (by decide) 25)).mono ?_
  rintro e w4 ⟨v4, rfl, o4, hb⟩
  have O4 := Lib.hid (O3.out.below (Bl.then (Bl.alloc (Below.refl _ _) _) hb))
  have B4 := Lib.hid (Bl.then (Bl.alloc B3.out _) hb)
  clear hb O3 B3 BB o4
  go_wp2_with fail
  refine (WI.out _ _ (RdP.lit w4 [⟨⟨#[98]⟩, nilB⟩, ⟨⟨#[97]⟩, nilB⟩] 2 w4.heap.size rfl rfl (by decide) 48)).mono ?_
  rintro e w5 ⟨v5, rfl, o5, hb⟩
  have O5 := Lib.hid (O4.out.below (Bl.then (Bl.alloc (Below.refl _ _) _) hb))
  have B5 := Lib.hid (Bl.then (Bl.alloc B4.out _) hb)
  clear hb O4 B4 WI o5
  go_wp2_with fail
  refine (same_pairs _ _ aw5p aw5p _ (O5.out.below (Bl.alloc (Below.refl _ _) _)) (RdP.lit w5 aw5p 2 w5.heap.size rfl rfl (by decide) 48)).mono ?_
  rw [decide_eq_true (rfl : aw5p = aw5p)]
  rintro e w6 ⟨rfl, q, rfl⟩
  have B6 := Lib.hid (Bl.drewN (Bl.alloc B5.out (Obj.cells (flatP aw5p).toArray 48)) q)
  go_wp2_with (go_at_call 22; refine (num_any _ _).mono ?_; rintro e w' ⟨rfl, rfl⟩)
  go_ret
  exact ⟨rfl, B6.out⟩
end Go.Proofs.Ytdgnpoapkjoknaa
