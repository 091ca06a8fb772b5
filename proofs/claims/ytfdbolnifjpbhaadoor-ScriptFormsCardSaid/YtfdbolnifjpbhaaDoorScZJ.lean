/- ScriptForms: acts that may not be, texts that are none: the walk. -/
import Derived.Test.YtfdbolnifjpbhaaDoorScZI
import Derived.Test.YtfdbolnifjpbhaaDoorQs
import Derived.Test.YtfdbolnifjpbhaaDoorQf
namespace Go.Proofs.YtfdbolnifjpbhaaDoor
set_option linter.unusedVariables false
set_option linter.unusedSimpArgs false
open Go.RowKit

theorem byts_zero (k : Nat) : byts (List.replicate k 0) = (madeCells (Value.cells (.int .u8 0)) (k * 1)).toList := by
  apply List.ext_getElem
  · simp [byts, madeCells]
  · intro i h1 h2
    simp [byts, madeCells, Value.cells, Nat.mod_one]
theorem nums_zero (k : Nat) : nums (List.replicate k 0) = (madeCells (Value.cells (.int .i64 0)) (k * 1)).toList := by
  apply List.ext_getElem
  · simp [nums, madeCells]
  · intro i h1 h2
    simp [nums, madeCells, Value.cells, Nat.mod_one]
theorem and1023_d (x : Int) : ∃ d : Nat, wrap64 (1 + bits .and .i64 x 1023) = (d : Int) ∧ 1 ≤ d ∧ d ≤ 1024 := by
  have h1 := Int.emod_nonneg x (show (1024 : Int) ≠ 0 by decide)
  have h2 := Int.emod_lt_of_pos x (show (0 : Int) < 1024 by decide)
  have e : bits .and .i64 x 1023 = x % 1024 := and_mask64 x 10 (by decide)
  refine ⟨(1 + x % 1024).toNat, ?_, by omega, by omega⟩
  rw [e, IntWalk.wrap64_in _ ⟨by omega, by omega⟩]
  omega
theorem grown_bl {w W W' : World} (h : Below w.heap.size w W) (hg : W.grownBy W' none) : Below w.heap.size w W' := Bl.grown h hg (fun k hk => by cases hk)
theorem bl_of {W W' : World} (hg : W.grownBy W' none) : Below W.heap.size W W' := ⟨hg.os, hg.tape, hg.output, hg.size, fun i hi => hg.block i hi (by simp)⟩
/-- What a slot of the list's region holds. -/
inductive Kd where
  | num (z : Int)
  | bytes (n : Nat)
  | text (n : Nat)
  | ints (xs : List Int)
  | act (a : ActV)
  | acts (xs : List ActV)
def Kd.holds : Kd → Value → World → Prop
  | .num z, v, _ => v = .int .i64 z
  | .bytes n, v, w => Own w 0 5 1 v n (byts (List.replicate n 0))
  | .text n, v, _ => v = .string (zerosT n)
  | .ints xs, v, w => Rd w v xs
  | .act a, v, w => ∃ m : ActM, v = m.v ∧ m.a = a ∧ OkM w m
  | .acts xs, v, w => ∃ ms, RdA w v ms ∧ ms.map (·.a) = xs
theorem Kd.mono (k : Kd) (v : Value) (w w' : World) (h : k.holds v w) (hb : Below w.heap.size w w') : k.holds v w' := by
  cases k with
  | num z => exact h
  | bytes n => exact Own.below h hb
  | text n => exact h
  | ints xs => exact Rd.below h hb
  | act a => obtain ⟨m, h1, h2, h3⟩ := h; exact ⟨m, h1, h2, h3.below hb⟩
  | acts xs => obtain ⟨ms, h1, h2⟩ := h; exact ⟨ms, h1.below hb, h2⟩
def kdL (d : Nat) : List Kd := [.num (d : Int), .num (-(d : Int)), .act ((badL d).getD 0 zeroA), .num (d : Int), .num (7 + (d : Int)), .act ((badL d).getD 1 zeroA), .act ((badL d).getD 2 zeroA), .num (d : Int), .num (40 + (d : Int)), .bytes (40 + d), .text (40 + d), .act ((badL d).getD 3 zeroA), .num (d : Int), .num (-(d : Int)), .act ((badL d).getD 4 zeroA), .num (d : Int), .num (4095 + (d : Int)), .act ((badL d).getD 5 zeroA), .num (d : Int), .num (8 + (d : Int)), .act ((badL d).getD 6 zeroA), .num (d : Int), .num (-(d : Int)), .act ((badL d).getD 7 zeroA), .num (d : Int), .num (-(d : Int)), .act ((badL d).getD 8 zeroA), .num (d : Int), .num (65535 + (d : Int)), .act ((badL d).getD 9 zeroA), .num (d : Int), .num (16 + (d : Int)), .bytes (16 + d), .text (16 + d), .act ((badL d).getD 10 zeroA), .ints [0], .act ((badL d).getD 11 zeroA), .num (d : Int), .num (400 + (d : Int)), .ints [400 + (d : Int)], .act ((badL d).getD 12 zeroA), .num (d : Int), .num (16 + (d : Int)), .ints (List.replicate (16 + d) 0), .act ((badL d).getD 13 zeroA), .num (d : Int), .num (-(d : Int)), .ints [-(d : Int)], .act ((badL d).getD 14 zeroA), .num (d : Int), .num (4095 + (d : Int)), .ints [4095 + (d : Int)], .act ((badL d).getD 15 zeroA), .num (d : Int), .num (16 + (d : Int)), .ints (List.replicate (16 + d) 0), .act ((badL d).getD 16 zeroA), .act ((badL d).getD 17 zeroA), .act ((badL d).getD 18 zeroA), .act ((badL d).getD 19 zeroA), .act ((badL d).getD 20 zeroA), .ints [1], .act ((badL d).getD 21 zeroA), .ints [1], .act ((badL d).getD 22 zeroA), .act ((badL d).getD 23 zeroA), .act ((badL d).getD 24 zeroA), .act ((badL d).getD 25 zeroA), .num (d : Int), .act ((badL d).getD 26 zeroA), .ints [1], .act ((badL d).getD 27 zeroA), .acts (badL d), .acts (badL d)]
def dstF (i : Nat) : Nat := if i = 73 then 6 else 20 + i
theorem dstF_ne {t : Nat} (h : t < 20 ∧ t ≠ 6) : ∀ i, i < 74 → dstF i ≠ t := fun i hi => by unfold dstF; split <;> omega
theorem dstF_dist (k i : Nat) (hk : k < 74) (hi : i < 74) (h : k ≠ i) : dstF k ≠ dstF i := by unfold dstF; split <;> split <;> omega
def RF (d : Nat) (i : Nat) (v : Value) (w : World) : Prop := ((kdL d).getD i (.num 0)).holds v w
/-- What an operation of the list's region does. -/
def StF (d : Nat) (a0 : Act) (w0 : World) (i : Nat) (o : Oper) : Prop := StepS Tryd.prog 74 dstF (RF d) a0 w0 i o
theorem wrapI {z : Int} (h : -9223372036854775808 ≤ z ∧ z ≤ 9223372036854775807) : IntKind.i64.wrap z = z := by
  have h1 := IntWalk.wrap64_in z h
  first
    | exact h1
    | (simp only [IntKind.wrap, IntKind.signed, IntKind.bits]; simp; omega)
theorem OkM.alloc {w : World} {m : ActM} (h : OkM w m) (o : Obj) : OkM (w.alloc o) m := h.below ((Below.refl _ _).alloc (Nat.le_refl _) o)
theorem build28 (w : World) (m0 m1 m2 m3 m4 m5 m6 m7 m8 m9 m10 m11 m12 m13 m14 m15 m16 m17 m18 m19 m20 m21 m22 m23 m24 m25 m26 m27 : ActM) : (Instr.buildSlice 22 28 #[(0, m0.v), (1, m1.v), (2, m2.v), (3, m3.v), (4, m4.v), (5, m5.v), (6, m6.v), (7, m7.v), (8, m8.v), (9, m9.v), (10, m10.v), (11, m11.v), (12, m12.v), (13, m13.v), (14, m14.v), (15, m15.v), (16, m16.v), (17, m17.v), (18, m18.v), (19, m19.v), (20, m20.v), (21, m21.v), (22, m22.v), (23, m23.v), (24, m24.v), (25, m25.v), (26, m26.v), (27, m27.v)]).run Tryd.prog w = .ok (.slice (some ⟨w.heap.size, 0, none⟩) 28 28) (w.alloc (.cells (flatA [m0, m1, m2, m3, m4, m5, m6, m7, m8, m9, m10, m11, m12, m13, m14, m15, m16, m17, m18, m19, m20, m21, m22, m23, m24, m25, m26, m27]).toArray 38)) := by kernel_rfl
theorem frame_put (vs : Nat → Value) (z0 z1 z5 z17 z18 z19 : Value) : putL dstF vs 74 #[z0, z1, undef, undef, .bool false, z5, undef, undef, undef, undef, undef, undef, undef, undef, undef, .bool true, .bool false, z17, z18, z19, undef, undef, undef, undef, undef, undef, undef, undef, undef, undef, undef, undef, undef, undef, undef, undef, undef, undef, undef, undef, undef, undef, undef, undef, undef, undef, undef, undef, undef, undef, undef, undef, undef, undef, undef, undef, undef, undef, undef, undef, undef, undef, undef, undef, undef, undef, undef, undef, undef, undef, undef, undef, undef, undef, undef, undef, undef, undef, undef, undef, undef, undef, undef, undef, undef, undef, undef, undef, undef, undef, undef, undef, undef, undef, undef, undef, undef, undef, undef, undef, undef, undef, undef, undef, undef, undef, undef, undef, undef, undef, undef, undef, undef, undef, undef, undef, undef, undef, undef, undef, undef, undef, undef, undef, undef, undef, undef, undef, undef, undef, undef, undef, undef, undef, undef, undef, undef, undef, undef, undef, undef, undef, undef, undef, undef, undef, undef, undef, undef, undef, undef] = #[z0, z1, undef, undef, .bool false, z5, vs 73, undef, undef, undef, undef, undef, undef, undef, undef, .bool true, .bool false, z17, z18, z19, vs 0, vs 1, vs 2, vs 3, vs 4, vs 5, vs 6, vs 7, vs 8, vs 9, vs 10, vs 11, vs 12, vs 13, vs 14, vs 15, vs 16, vs 17, vs 18, vs 19, vs 20, vs 21, vs 22, vs 23, vs 24, vs 25, vs 26, vs 27, vs 28, vs 29, vs 30, vs 31, vs 32, vs 33, vs 34, vs 35, vs 36, vs 37, vs 38, vs 39, vs 40, vs 41, vs 42, vs 43, vs 44, vs 45, vs 46, vs 47, vs 48, vs 49, vs 50, vs 51, vs 52, vs 53, vs 54, vs 55, vs 56, vs 57, vs 58, vs 59, vs 60, vs 61, vs 62, vs 63, vs 64, vs 65, vs 66, vs 67, vs 68, vs 69, vs 70, vs 71, vs 72, undef, undef, undef, undef, undef, undef, undef, undef, undef, undef, undef, undef, undef, undef, undef, undef, undef, undef, undef, undef, undef, undef, undef, undef, undef, undef, undef, undef, undef, undef, undef, undef, undef, undef, undef, undef, undef, undef, undef, undef, undef, undef, undef, undef, undef, undef, undef, undef, undef, undef, undef, undef, undef, undef, undef, undef, undef, undef] := by kernel_rfl
theorem badL_sz (d : Nat) (h : d ≤ 1024) : ∀ a ∈ badL d, SzA a := by
  intro a ha
  simp only [badL, List.mem_cons, List.not_mem_nil, or_false] at ha
  rcases ha with rfl | rfl | rfl | rfl | rfl | rfl | rfl | rfl | rfl | rfl | rfl | rfl | rfl | rfl | rfl | rfl | rfl | rfl | rfl | rfl | rfl | rfl | rfl | rfl | rfl | rfl | rfl | rfl
  all_goals
    refine ⟨?_, ?_, ?_⟩
    all_goals
      first
        | exact (show (0 : Nat) ≤ _ from Nat.zero_le _)
        | exact (show (1 : Nat) ≤ 140737488351232 by decide)
        | exact (show (13 : Nat) ≤ 140737488351232 by decide)
        | (simp only [zerosT_size]; omega)
theorem noneL_size : ∀ s ∈ noneL, s.size ≤ 140737488351232 := by
  intro s hs
  simp only [noneL, List.mem_cons, List.not_mem_nil, or_false] at hs
  rcases hs with rfl | rfl | rfl | rfl | rfl | rfl | rfl | rfl | rfl | rfl | rfl <;> decide
theorem make_bytes (n : Nat) (w : World) (hn : n ≤ 100000) : ∃ w', (Instr.makeSlice 42 (.int .i64 (n : Int)) (.int .i64 (n : Int))).run Tryd.prog w = .ok (.slice (some ⟨w.heap.size, 0, none⟩) n n) w' ∧ Below w.heap.size w w' ∧ Own w' 0 5 1 (.slice (some ⟨w.heap.size, 0, none⟩) n n) n (byts (List.replicate n 0)) := by
  obtain ⟨i0, hi, hz0, hz1, hz2⟩ := info_parts infoByte
  obtain ⟨w', h1, h2, h3⟩ := run_make_full (P := Tryd.prog) (w := w) 0 42 5 i0 (.int .u8 0) 1 Tryd.underlying42 hi hz0 hz1 .i64 .i64 n (by rw [hz2]; omega) (by simp only [maxLen]; omega) (Nat.zero_le _)
  exact ⟨w', h1, bl_of h3, by rw [byts_zero]; exact Own.of h2⟩
theorem make_ints (n : Nat) (w : World) (hn : n ≤ 100000) : ∃ w', (Instr.makeSlice 36 (.int .i64 (n : Int)) (.int .i64 (n : Int))).run Tryd.prog w = .ok (.slice (some ⟨w.heap.size, 0, none⟩) n n) w' ∧ Below w.heap.size w w' ∧ Rd w' (.slice (some ⟨w.heap.size, 0, none⟩) n n) (List.replicate n 0) := by
  obtain ⟨i0, hi, hz0, hz1, hz2⟩ := info_parts infoInt
  obtain ⟨w', h1, h2, h3⟩ := run_make_full (P := Tryd.prog) (w := w) 0 36 3 i0 (.int .i64 0) 1 Tryd.underlying36 hi hz0 hz1 .i64 .i64 n (by rw [hz2]; omega) (by simp only [maxLen]; omega) (Nat.zero_le _)
  exact ⟨w', h1, bl_of h3, Rd.ownI (by rw [nums_zero]; exact Own.of h2)⟩
section
variable {d : Nat} {a0 : Act} {w0 : World}
end
set_option maxRecDepth 100000 in
set_option maxHeartbeats 16000000 in
theorem ScriptForms_walk (which x : Int) (w : World) (hw1 : -9223372036854775808 ≤ which ∧ which ≤ 9223372036854775807) (hx1 : -9223372036854775808 ≤ x ∧ x ≤ 9223372036854775807) (htab : Tab w) :
    Calls Tryd.prog 5 #[.int .i64 which, .int .i64 x] w fun e w' => e = .returned (.bool true) ∧ Below w.heap.size w w' := by
  have HTAB := Lib.hid (fun (W : World) (hb : Below w.heap.size w W) => show Tab W from fun w' h' => htab w' (Bl.then hb h'))
  have AW := Lib.hid (awake24 w htab)
  obtain ⟨d, hd, d1, d2⟩ := and1023_d x
  obtain ⟨r, hr, r0, r1⟩ := rem_fin which 28 (by decide) (by decide)
  obtain ⟨k, rfl⟩ : ∃ k : Nat, r = (k : Int) := ⟨r.toNat, by omega⟩
  obtain ⟨q, hq, q0, q1⟩ := rem_fin which 11 (by decide) (by decide)
  obtain ⟨j, rfl⟩ : ∃ k : Nat, q = (k : Int) := ⟨q.toNat, by omega⟩
  clear htab hw1 hx1
  have wneg : wrap64 (-(d : Int)) = -(d : Int) := IntWalk.wrap64_in _ ⟨by omega, by omega⟩
  have wneg2 : IntKind.i64.wrap (-(d : Int)) = -(d : Int) := wrapI ⟨by omega, by omega⟩
  have wadd2 : ∀ c : Int, 0 ≤ c ∧ c ≤ 70000 → IntKind.i64.wrap (c + (d : Int)) = c + (d : Int) := fun c hc => wrapI ⟨by omega, by omega⟩
  have wadd : ∀ c : Int, 0 ≤ c ∧ c ≤ 70000 → wrap64 (c + (d : Int)) = c + (d : Int) := fun c hc => IntWalk.wrap64_in _ ⟨by omega, by omega⟩
  go_enter Tryd.func5, Tryd.ntmps5
  go_wp2_with fail
  refine AW.out.mono ?_
  rintro e w1 ⟨rfl, hb1⟩
  have B1 := Lib.hid hb1
  clear hb1 AW
  go_wp2_with fail
  apply region_flat
  · repeat with_reducible apply flat_cons'
    with_reducible exact flat_nil'
  refine wp_region_slots dstF (RF d) (by kernel_rfl) (by kernel_rfl) dstF_dist (fun i v w w' => Kd.mono _ v w w') ?_ ?_
  · refine And.intro (fun a w hb hf hdep => ?_) ?_
    · exact ⟨_, w, BigFrame.run_move (.tmp 5) rfl w, Below.refl _ _, (hf 5 (dstF_ne (by decide))).trans (congrArg (Value.int .i64) hd)⟩
    refine And.intro (fun a w hb hf hdep => ?_) ?_
    · have e20 := hdep ⟨0, .data⟩ (by simp) rfl
      change a.tmps.getD 20 undef = .int .i64 (d : Int) at e20
      rw [Array.getD_eq_getD_getElem?] at e20
      exact ⟨.int .i64 (-(d : Int)), w, by simp [go_sem, BigFrame.eval_const, e20, wneg, wneg2], Below.refl _ _, rfl⟩
    refine And.intro (fun a w hb hf hdep => ?_) ?_
    · have e21 := hdep ⟨1, .data⟩ (by simp) rfl
      change a.tmps.getD 21 undef = .int .i64 (-(d : Int)) at e21
      rw [Array.getD_eq_getD_getElem?] at e21
      refine ⟨_, w, ?_, Below.refl _ _, ⟨(badL d).getD 0 zeroA, .slice none 0 0, .slice none 0 0⟩, rfl, rfl, ⟨Rd.nil _, Rd.nil _⟩⟩
      simp [go_sem, BigFrame.eval_const, e21, ActM.v, badL, nilB', tA]
    refine And.intro (fun a w hb hf hdep => ?_) ?_
    · exact ⟨_, w, BigFrame.run_move (.tmp 5) rfl w, Below.refl _ _, (hf 5 (dstF_ne (by decide))).trans (congrArg (Value.int .i64) hd)⟩
    refine And.intro (fun a w hb hf hdep => ?_) ?_
    · have e23 := hdep ⟨3, .data⟩ (by simp) rfl
      change a.tmps.getD 23 undef = .int .i64 (d : Int) at e23
      rw [Array.getD_eq_getD_getElem?] at e23
      exact ⟨.int .i64 (7 + (d : Int)), w, by simp [go_sem, BigFrame.eval_const, e23, wadd 7 (by decide), wadd2 7 (by decide)], Below.refl _ _, rfl⟩
    refine And.intro (fun a w hb hf hdep => ?_) ?_
    · have e24 := hdep ⟨4, .data⟩ (by simp) rfl
      change a.tmps.getD 24 undef = .int .i64 (7 + (d : Int)) at e24
      rw [Array.getD_eq_getD_getElem?] at e24
      refine ⟨_, w, ?_, Below.refl _ _, ⟨(badL d).getD 1 zeroA, .slice none 0 0, .slice none 0 0⟩, rfl, rfl, ⟨Rd.nil _, Rd.nil _⟩⟩
      simp [go_sem, BigFrame.eval_const, e24, ActM.v, badL, nilB', tA]
    refine And.intro (fun a w hb hf hdep => ?_) ?_
    · refine ⟨_, w, ?_, Below.refl _ _, ⟨(badL d).getD 2 zeroA, .slice none 0 0, .slice none 0 0⟩, rfl, rfl, ⟨Rd.nil _, Rd.nil _⟩⟩
      simp [go_sem, BigFrame.eval_const, ActM.v, badL, nilB', tA]
    refine And.intro (fun a w hb hf hdep => ?_) ?_
    · exact ⟨_, w, BigFrame.run_move (.tmp 5) rfl w, Below.refl _ _, (hf 5 (dstF_ne (by decide))).trans (congrArg (Value.int .i64) hd)⟩
    refine And.intro (fun a w hb hf hdep => ?_) ?_
    · have e27 := hdep ⟨7, .data⟩ (by simp) rfl
      change a.tmps.getD 27 undef = .int .i64 (d : Int) at e27
      rw [Array.getD_eq_getD_getElem?] at e27
      exact ⟨.int .i64 (40 + (d : Int)), w, by simp [go_sem, BigFrame.eval_const, e27, wadd 40 (by decide), wadd2 40 (by decide)], Below.refl _ _, rfl⟩
    refine And.intro (fun a w hb hf hdep => ?_) ?_
    · have e28 := hdep ⟨8, .data⟩ (by simp) rfl
      change a.tmps.getD 28 undef = .int .i64 (40 + (d : Int)) at e28
      rw [Array.getD_eq_getD_getElem?] at e28
      obtain ⟨w', h1, h2, h3⟩ := make_bytes (40 + d) w (by omega)
      have h1' : (Instr.makeSlice 42 (.int .i64 (40 + (d : Int))) (.int .i64 (40 + (d : Int)))).run Tryd.prog w = .ok (.slice (some ⟨w.heap.size, 0, none⟩) (40 + d) (40 + d)) w' := h1
      exact ⟨_, w', by simp [go_sem, BigFrame.eval_const, e28]; rw [h1']; rfl, h2, h3⟩
    refine And.intro (fun a w hb hf hdep => ?_) ?_
    · have e29 := hdep ⟨9, .data⟩ (by simp) rfl
      change Kd.holds (.bytes (40 + d)) (a.tmps.getD 29 undef) w at e29
      obtain ⟨uA, uc, hu⟩ := Own.slice e29
      rw [hu] at e29
      rw [Array.getD_eq_getD_getElem?] at hu
      have h1 := Own.string (P := Tryd.prog) Tryd.underlying42 Tryd.underlying5 Tryd.underlying9 e29
      exact ⟨.string (zerosT (40 + d)), w, by simp [go_sem, hu]; rw [h1]; rfl, Below.refl _ _, rfl⟩
    refine And.intro (fun a w hb hf hdep => ?_) ?_
    · have e30 := hdep ⟨10, .data⟩ (by simp) rfl
      change a.tmps.getD 30 undef = .string (zerosT (40 + d)) at e30
      rw [Array.getD_eq_getD_getElem?] at e30
      refine ⟨_, w, ?_, Below.refl _ _, ⟨(badL d).getD 3 zeroA, .slice none 0 0, .slice none 0 0⟩, rfl, rfl, ⟨Rd.nil _, Rd.nil _⟩⟩
      simp [go_sem, BigFrame.eval_const, e30, ActM.v, badL, nilB', tA]
    refine And.intro (fun a w hb hf hdep => ?_) ?_
    · exact ⟨_, w, BigFrame.run_move (.tmp 5) rfl w, Below.refl _ _, (hf 5 (dstF_ne (by decide))).trans (congrArg (Value.int .i64) hd)⟩
    refine And.intro (fun a w hb hf hdep => ?_) ?_
    · have e32 := hdep ⟨12, .data⟩ (by simp) rfl
      change a.tmps.getD 32 undef = .int .i64 (d : Int) at e32
      rw [Array.getD_eq_getD_getElem?] at e32
      exact ⟨.int .i64 (-(d : Int)), w, by simp [go_sem, BigFrame.eval_const, e32, wneg, wneg2], Below.refl _ _, rfl⟩
    refine And.intro (fun a w hb hf hdep => ?_) ?_
    · have e33 := hdep ⟨13, .data⟩ (by simp) rfl
      change a.tmps.getD 33 undef = .int .i64 (-(d : Int)) at e33
      rw [Array.getD_eq_getD_getElem?] at e33
      refine ⟨_, w, ?_, Below.refl _ _, ⟨(badL d).getD 4 zeroA, .slice none 0 0, .slice none 0 0⟩, rfl, rfl, ⟨Rd.nil _, Rd.nil _⟩⟩
      simp [go_sem, BigFrame.eval_const, e33, ActM.v, badL, nilB', tA]
    refine And.intro (fun a w hb hf hdep => ?_) ?_
    · exact ⟨_, w, BigFrame.run_move (.tmp 5) rfl w, Below.refl _ _, (hf 5 (dstF_ne (by decide))).trans (congrArg (Value.int .i64) hd)⟩
    refine And.intro (fun a w hb hf hdep => ?_) ?_
    · have e35 := hdep ⟨15, .data⟩ (by simp) rfl
      change a.tmps.getD 35 undef = .int .i64 (d : Int) at e35
      rw [Array.getD_eq_getD_getElem?] at e35
      exact ⟨.int .i64 (4095 + (d : Int)), w, by simp [go_sem, BigFrame.eval_const, e35, wadd 4095 (by decide), wadd2 4095 (by decide)], Below.refl _ _, rfl⟩
    refine And.intro (fun a w hb hf hdep => ?_) ?_
    · have e36 := hdep ⟨16, .data⟩ (by simp) rfl
      change a.tmps.getD 36 undef = .int .i64 (4095 + (d : Int)) at e36
      rw [Array.getD_eq_getD_getElem?] at e36
      refine ⟨_, w, ?_, Below.refl _ _, ⟨(badL d).getD 5 zeroA, .slice none 0 0, .slice none 0 0⟩, rfl, rfl, ⟨Rd.nil _, Rd.nil _⟩⟩
      simp [go_sem, BigFrame.eval_const, e36, ActM.v, badL, nilB', tA]
    refine And.intro (fun a w hb hf hdep => ?_) ?_
    · exact ⟨_, w, BigFrame.run_move (.tmp 5) rfl w, Below.refl _ _, (hf 5 (dstF_ne (by decide))).trans (congrArg (Value.int .i64) hd)⟩
    refine And.intro (fun a w hb hf hdep => ?_) ?_
    · have e38 := hdep ⟨18, .data⟩ (by simp) rfl
      change a.tmps.getD 38 undef = .int .i64 (d : Int) at e38
      rw [Array.getD_eq_getD_getElem?] at e38
      exact ⟨.int .i64 (8 + (d : Int)), w, by simp [go_sem, BigFrame.eval_const, e38, wadd 8 (by decide), wadd2 8 (by decide)], Below.refl _ _, rfl⟩
    refine And.intro (fun a w hb hf hdep => ?_) ?_
    · have e39 := hdep ⟨19, .data⟩ (by simp) rfl
      change a.tmps.getD 39 undef = .int .i64 (8 + (d : Int)) at e39
      rw [Array.getD_eq_getD_getElem?] at e39
      refine ⟨_, w, ?_, Below.refl _ _, ⟨(badL d).getD 6 zeroA, .slice none 0 0, .slice none 0 0⟩, rfl, rfl, ⟨Rd.nil _, Rd.nil _⟩⟩
      simp [go_sem, BigFrame.eval_const, e39, ActM.v, badL, nilB', tA]
    refine And.intro (fun a w hb hf hdep => ?_) ?_
    · exact ⟨_, w, BigFrame.run_move (.tmp 5) rfl w, Below.refl _ _, (hf 5 (dstF_ne (by decide))).trans (congrArg (Value.int .i64) hd)⟩
    refine And.intro (fun a w hb hf hdep => ?_) ?_
    · have e41 := hdep ⟨21, .data⟩ (by simp) rfl
      change a.tmps.getD 41 undef = .int .i64 (d : Int) at e41
      rw [Array.getD_eq_getD_getElem?] at e41
      exact ⟨.int .i64 (-(d : Int)), w, by simp [go_sem, BigFrame.eval_const, e41, wneg, wneg2], Below.refl _ _, rfl⟩
    refine And.intro (fun a w hb hf hdep => ?_) ?_
    · have e42 := hdep ⟨22, .data⟩ (by simp) rfl
      change a.tmps.getD 42 undef = .int .i64 (-(d : Int)) at e42
      rw [Array.getD_eq_getD_getElem?] at e42
      refine ⟨_, w, ?_, Below.refl _ _, ⟨(badL d).getD 7 zeroA, .slice none 0 0, .slice none 0 0⟩, rfl, rfl, ⟨Rd.nil _, Rd.nil _⟩⟩
      simp [go_sem, BigFrame.eval_const, e42, ActM.v, badL, nilB', tA]
    refine And.intro (fun a w hb hf hdep => ?_) ?_
    · exact ⟨_, w, BigFrame.run_move (.tmp 5) rfl w, Below.refl _ _, (hf 5 (dstF_ne (by decide))).trans (congrArg (Value.int .i64) hd)⟩
    refine And.intro (fun a w hb hf hdep => ?_) ?_
    · have e44 := hdep ⟨24, .data⟩ (by simp) rfl
      change a.tmps.getD 44 undef = .int .i64 (d : Int) at e44
      rw [Array.getD_eq_getD_getElem?] at e44
      exact ⟨.int .i64 (-(d : Int)), w, by simp [go_sem, BigFrame.eval_const, e44, wneg, wneg2], Below.refl _ _, rfl⟩
    refine And.intro (fun a w hb hf hdep => ?_) ?_
    · have e45 := hdep ⟨25, .data⟩ (by simp) rfl
      change a.tmps.getD 45 undef = .int .i64 (-(d : Int)) at e45
      rw [Array.getD_eq_getD_getElem?] at e45
      refine ⟨_, w, ?_, Below.refl _ _, ⟨(badL d).getD 8 zeroA, .slice none 0 0, .slice none 0 0⟩, rfl, rfl, ⟨Rd.nil _, Rd.nil _⟩⟩
      simp [go_sem, BigFrame.eval_const, e45, ActM.v, badL, nilB', tA]
    refine And.intro (fun a w hb hf hdep => ?_) ?_
    · exact ⟨_, w, BigFrame.run_move (.tmp 5) rfl w, Below.refl _ _, (hf 5 (dstF_ne (by decide))).trans (congrArg (Value.int .i64) hd)⟩
    refine And.intro (fun a w hb hf hdep => ?_) ?_
    · have e47 := hdep ⟨27, .data⟩ (by simp) rfl
      change a.tmps.getD 47 undef = .int .i64 (d : Int) at e47
      rw [Array.getD_eq_getD_getElem?] at e47
      exact ⟨.int .i64 (65535 + (d : Int)), w, by simp [go_sem, BigFrame.eval_const, e47, wadd 65535 (by decide), wadd2 65535 (by decide)], Below.refl _ _, rfl⟩
    refine And.intro (fun a w hb hf hdep => ?_) ?_
    · have e48 := hdep ⟨28, .data⟩ (by simp) rfl
      change a.tmps.getD 48 undef = .int .i64 (65535 + (d : Int)) at e48
      rw [Array.getD_eq_getD_getElem?] at e48
      refine ⟨_, w, ?_, Below.refl _ _, ⟨(badL d).getD 9 zeroA, .slice none 0 0, .slice none 0 0⟩, rfl, rfl, ⟨Rd.nil _, Rd.nil _⟩⟩
      simp [go_sem, BigFrame.eval_const, e48, ActM.v, badL, nilB', tA]
    refine And.intro (fun a w hb hf hdep => ?_) ?_
    · exact ⟨_, w, BigFrame.run_move (.tmp 5) rfl w, Below.refl _ _, (hf 5 (dstF_ne (by decide))).trans (congrArg (Value.int .i64) hd)⟩
    refine And.intro (fun a w hb hf hdep => ?_) ?_
    · have e50 := hdep ⟨30, .data⟩ (by simp) rfl
      change a.tmps.getD 50 undef = .int .i64 (d : Int) at e50
      rw [Array.getD_eq_getD_getElem?] at e50
      exact ⟨.int .i64 (16 + (d : Int)), w, by simp [go_sem, BigFrame.eval_const, e50, wadd 16 (by decide), wadd2 16 (by decide)], Below.refl _ _, rfl⟩
    refine And.intro (fun a w hb hf hdep => ?_) ?_
    · have e51 := hdep ⟨31, .data⟩ (by simp) rfl
      change a.tmps.getD 51 undef = .int .i64 (16 + (d : Int)) at e51
      rw [Array.getD_eq_getD_getElem?] at e51
      obtain ⟨w', h1, h2, h3⟩ := make_bytes (16 + d) w (by omega)
      have h1' : (Instr.makeSlice 42 (.int .i64 (16 + (d : Int))) (.int .i64 (16 + (d : Int)))).run Tryd.prog w = .ok (.slice (some ⟨w.heap.size, 0, none⟩) (16 + d) (16 + d)) w' := h1
      exact ⟨_, w', by simp [go_sem, BigFrame.eval_const, e51]; rw [h1']; rfl, h2, h3⟩
    refine And.intro (fun a w hb hf hdep => ?_) ?_
    · have e52 := hdep ⟨32, .data⟩ (by simp) rfl
      change Kd.holds (.bytes (16 + d)) (a.tmps.getD 52 undef) w at e52
      obtain ⟨uA, uc, hu⟩ := Own.slice e52
      rw [hu] at e52
      rw [Array.getD_eq_getD_getElem?] at hu
      have h1 := Own.string (P := Tryd.prog) Tryd.underlying42 Tryd.underlying5 Tryd.underlying9 e52
      exact ⟨.string (zerosT (16 + d)), w, by simp [go_sem, hu]; rw [h1]; rfl, Below.refl _ _, rfl⟩
    refine And.intro (fun a w hb hf hdep => ?_) ?_
    · have e53 := hdep ⟨33, .data⟩ (by simp) rfl
      change a.tmps.getD 53 undef = .string (zerosT (16 + d)) at e53
      rw [Array.getD_eq_getD_getElem?] at e53
      refine ⟨_, w, ?_, Below.refl _ _, ⟨(badL d).getD 10 zeroA, .slice none 0 0, .slice none 0 0⟩, rfl, rfl, ⟨Rd.nil _, Rd.nil _⟩⟩
      simp [go_sem, BigFrame.eval_const, e53, ActM.v, badL, nilB', tA]
    refine And.intro (fun a w hb hf hdep => ?_) ?_
    · exact ⟨.slice (some ⟨w.heap.size, 0, none⟩) 1 1, w.alloc (.cells #[.int .i64 (0)] 3), by simp [go_sem, BigFrame.eval_const], (Below.refl _ _).alloc (Nat.le_refl _) _, Rd.lit w [0] 1 _ rfl rfl (by decide)⟩
    refine And.intro (fun a w hb hf hdep => ?_) ?_
    · have e55 := hdep ⟨35, .data⟩ (by simp) rfl
      change Rd w (a.tmps.getD 55 undef) ([0]) at e55
      obtain ⟨uA, uc, hu⟩ := e55.form
      rw [hu] at e55
      rw [Array.getD_eq_getD_getElem?] at hu
      refine ⟨_, w, ?_, Below.refl _ _, ⟨(badL d).getD 11 zeroA, .slice uA (List.length (α := Int) ([0])) uc, .slice none 0 0⟩, rfl, rfl, ⟨e55, Rd.nil _⟩⟩
      simp [go_sem, BigFrame.eval_const, hu, ActM.v, badL, nilB', tA]
    refine And.intro (fun a w hb hf hdep => ?_) ?_
    · exact ⟨_, w, BigFrame.run_move (.tmp 5) rfl w, Below.refl _ _, (hf 5 (dstF_ne (by decide))).trans (congrArg (Value.int .i64) hd)⟩
    refine And.intro (fun a w hb hf hdep => ?_) ?_
    · have e57 := hdep ⟨37, .data⟩ (by simp) rfl
      change a.tmps.getD 57 undef = .int .i64 (d : Int) at e57
      rw [Array.getD_eq_getD_getElem?] at e57
      exact ⟨.int .i64 (400 + (d : Int)), w, by simp [go_sem, BigFrame.eval_const, e57, wadd 400 (by decide), wadd2 400 (by decide)], Below.refl _ _, rfl⟩
    refine And.intro (fun a w hb hf hdep => ?_) ?_
    · have e58 := hdep ⟨38, .data⟩ (by simp) rfl
      change a.tmps.getD 58 undef = .int .i64 (400 + (d : Int)) at e58
      rw [Array.getD_eq_getD_getElem?] at e58
      exact ⟨.slice (some ⟨w.heap.size, 0, none⟩) 1 1, w.alloc (.cells #[.int .i64 (400 + (d : Int))] 3), by simp [go_sem, BigFrame.eval_const, e58], (Below.refl _ _).alloc (Nat.le_refl _) _, Rd.lit w [400 + (d : Int)] 1 _ rfl rfl (by decide)⟩
    refine And.intro (fun a w hb hf hdep => ?_) ?_
    · have e59 := hdep ⟨39, .data⟩ (by simp) rfl
      change Rd w (a.tmps.getD 59 undef) ([400 + (d : Int)]) at e59
      obtain ⟨uA, uc, hu⟩ := e59.form
      rw [hu] at e59
      rw [Array.getD_eq_getD_getElem?] at hu
      refine ⟨_, w, ?_, Below.refl _ _, ⟨(badL d).getD 12 zeroA, .slice uA (List.length (α := Int) ([400 + (d : Int)])) uc, .slice none 0 0⟩, rfl, rfl, ⟨e59, Rd.nil _⟩⟩
      simp [go_sem, BigFrame.eval_const, hu, ActM.v, badL, nilB', tA]
    refine And.intro (fun a w hb hf hdep => ?_) ?_
    · exact ⟨_, w, BigFrame.run_move (.tmp 5) rfl w, Below.refl _ _, (hf 5 (dstF_ne (by decide))).trans (congrArg (Value.int .i64) hd)⟩
    refine And.intro (fun a w hb hf hdep => ?_) ?_
    · have e61 := hdep ⟨41, .data⟩ (by simp) rfl
      change a.tmps.getD 61 undef = .int .i64 (d : Int) at e61
      rw [Array.getD_eq_getD_getElem?] at e61
      exact ⟨.int .i64 (16 + (d : Int)), w, by simp [go_sem, BigFrame.eval_const, e61, wadd 16 (by decide), wadd2 16 (by decide)], Below.refl _ _, rfl⟩
    refine And.intro (fun a w hb hf hdep => ?_) ?_
    · have e62 := hdep ⟨42, .data⟩ (by simp) rfl
      change a.tmps.getD 62 undef = .int .i64 (16 + (d : Int)) at e62
      rw [Array.getD_eq_getD_getElem?] at e62
      obtain ⟨w', h1, h2, h3⟩ := make_ints (16 + d) w (by omega)
      have h1' : (Instr.makeSlice 36 (.int .i64 (16 + (d : Int))) (.int .i64 (16 + (d : Int)))).run Tryd.prog w = .ok (.slice (some ⟨w.heap.size, 0, none⟩) (16 + d) (16 + d)) w' := h1
      exact ⟨_, w', by simp [go_sem, BigFrame.eval_const, e62]; rw [h1']; rfl, h2, h3⟩
    refine And.intro (fun a w hb hf hdep => ?_) ?_
    · have e63 := hdep ⟨43, .data⟩ (by simp) rfl
      change Rd w (a.tmps.getD 63 undef) (List.replicate (16 + d) 0) at e63
      obtain ⟨uA, uc, hu⟩ := e63.form
      rw [hu] at e63
      rw [Array.getD_eq_getD_getElem?] at hu
      refine ⟨_, w, ?_, Below.refl _ _, ⟨(badL d).getD 13 zeroA, .slice uA (List.length (α := Int) (List.replicate (16 + d) 0)) uc, .slice none 0 0⟩, rfl, rfl, ⟨e63, Rd.nil _⟩⟩
      simp [go_sem, BigFrame.eval_const, hu, ActM.v, badL, nilB', tA]
    refine And.intro (fun a w hb hf hdep => ?_) ?_
    · exact ⟨_, w, BigFrame.run_move (.tmp 5) rfl w, Below.refl _ _, (hf 5 (dstF_ne (by decide))).trans (congrArg (Value.int .i64) hd)⟩
    refine And.intro (fun a w hb hf hdep => ?_) ?_
    · have e65 := hdep ⟨45, .data⟩ (by simp) rfl
      change a.tmps.getD 65 undef = .int .i64 (d : Int) at e65
      rw [Array.getD_eq_getD_getElem?] at e65
      exact ⟨.int .i64 (-(d : Int)), w, by simp [go_sem, BigFrame.eval_const, e65, wneg, wneg2], Below.refl _ _, rfl⟩
    refine And.intro (fun a w hb hf hdep => ?_) ?_
    · have e66 := hdep ⟨46, .data⟩ (by simp) rfl
      change a.tmps.getD 66 undef = .int .i64 (-(d : Int)) at e66
      rw [Array.getD_eq_getD_getElem?] at e66
      exact ⟨.slice (some ⟨w.heap.size, 0, none⟩) 1 1, w.alloc (.cells #[.int .i64 (-(d : Int))] 3), by simp [go_sem, BigFrame.eval_const, e66], (Below.refl _ _).alloc (Nat.le_refl _) _, Rd.lit w [-(d : Int)] 1 _ rfl rfl (by decide)⟩
    refine And.intro (fun a w hb hf hdep => ?_) ?_
    · have e67 := hdep ⟨47, .data⟩ (by simp) rfl
      change Rd w (a.tmps.getD 67 undef) ([-(d : Int)]) at e67
      obtain ⟨uA, uc, hu⟩ := e67.form
      rw [hu] at e67
      rw [Array.getD_eq_getD_getElem?] at hu
      refine ⟨_, w, ?_, Below.refl _ _, ⟨(badL d).getD 14 zeroA, .slice none 0 0, .slice uA (List.length (α := Int) ([-(d : Int)])) uc⟩, rfl, rfl, ⟨Rd.nil _, e67⟩⟩
      simp [go_sem, BigFrame.eval_const, hu, ActM.v, badL, nilB', tA]
    refine And.intro (fun a w hb hf hdep => ?_) ?_
    · exact ⟨_, w, BigFrame.run_move (.tmp 5) rfl w, Below.refl _ _, (hf 5 (dstF_ne (by decide))).trans (congrArg (Value.int .i64) hd)⟩
    refine And.intro (fun a w hb hf hdep => ?_) ?_
    · have e69 := hdep ⟨49, .data⟩ (by simp) rfl
      change a.tmps.getD 69 undef = .int .i64 (d : Int) at e69
      rw [Array.getD_eq_getD_getElem?] at e69
      exact ⟨.int .i64 (4095 + (d : Int)), w, by simp [go_sem, BigFrame.eval_const, e69, wadd 4095 (by decide), wadd2 4095 (by decide)], Below.refl _ _, rfl⟩
    refine And.intro (fun a w hb hf hdep => ?_) ?_
    · have e70 := hdep ⟨50, .data⟩ (by simp) rfl
      change a.tmps.getD 70 undef = .int .i64 (4095 + (d : Int)) at e70
      rw [Array.getD_eq_getD_getElem?] at e70
      exact ⟨.slice (some ⟨w.heap.size, 0, none⟩) 1 1, w.alloc (.cells #[.int .i64 (4095 + (d : Int))] 3), by simp [go_sem, BigFrame.eval_const, e70], (Below.refl _ _).alloc (Nat.le_refl _) _, Rd.lit w [4095 + (d : Int)] 1 _ rfl rfl (by decide)⟩
    refine And.intro (fun a w hb hf hdep => ?_) ?_
    · have e71 := hdep ⟨51, .data⟩ (by simp) rfl
      change Rd w (a.tmps.getD 71 undef) ([4095 + (d : Int)]) at e71
      obtain ⟨uA, uc, hu⟩ := e71.form
      rw [hu] at e71
      rw [Array.getD_eq_getD_getElem?] at hu
      refine ⟨_, w, ?_, Below.refl _ _, ⟨(badL d).getD 15 zeroA, .slice none 0 0, .slice uA (List.length (α := Int) ([4095 + (d : Int)])) uc⟩, rfl, rfl, ⟨Rd.nil _, e71⟩⟩
      simp [go_sem, BigFrame.eval_const, hu, ActM.v, badL, nilB', tA]
    refine And.intro (fun a w hb hf hdep => ?_) ?_
    · exact ⟨_, w, BigFrame.run_move (.tmp 5) rfl w, Below.refl _ _, (hf 5 (dstF_ne (by decide))).trans (congrArg (Value.int .i64) hd)⟩
    refine And.intro (fun a w hb hf hdep => ?_) ?_
    · have e73 := hdep ⟨53, .data⟩ (by simp) rfl
      change a.tmps.getD 73 undef = .int .i64 (d : Int) at e73
      rw [Array.getD_eq_getD_getElem?] at e73
      exact ⟨.int .i64 (16 + (d : Int)), w, by simp [go_sem, BigFrame.eval_const, e73, wadd 16 (by decide), wadd2 16 (by decide)], Below.refl _ _, rfl⟩
    refine And.intro (fun a w hb hf hdep => ?_) ?_
    · have e74 := hdep ⟨54, .data⟩ (by simp) rfl
      change a.tmps.getD 74 undef = .int .i64 (16 + (d : Int)) at e74
      rw [Array.getD_eq_getD_getElem?] at e74
      obtain ⟨w', h1, h2, h3⟩ := make_ints (16 + d) w (by omega)
      have h1' : (Instr.makeSlice 36 (.int .i64 (16 + (d : Int))) (.int .i64 (16 + (d : Int)))).run Tryd.prog w = .ok (.slice (some ⟨w.heap.size, 0, none⟩) (16 + d) (16 + d)) w' := h1
      exact ⟨_, w', by simp [go_sem, BigFrame.eval_const, e74]; rw [h1']; rfl, h2, h3⟩
    refine And.intro (fun a w hb hf hdep => ?_) ?_
    · have e75 := hdep ⟨55, .data⟩ (by simp) rfl
      change Rd w (a.tmps.getD 75 undef) (List.replicate (16 + d) 0) at e75
      obtain ⟨uA, uc, hu⟩ := e75.form
      rw [hu] at e75
      rw [Array.getD_eq_getD_getElem?] at hu
      refine ⟨_, w, ?_, Below.refl _ _, ⟨(badL d).getD 16 zeroA, .slice none 0 0, .slice uA (List.length (α := Int) (List.replicate (16 + d) 0)) uc⟩, rfl, rfl, ⟨Rd.nil _, e75⟩⟩
      simp [go_sem, BigFrame.eval_const, hu, ActM.v, badL, nilB', tA]
    refine And.intro (fun a w hb hf hdep => ?_) ?_
    · refine ⟨_, w, ?_, Below.refl _ _, ⟨(badL d).getD 17 zeroA, .slice none 0 0, .slice none 0 0⟩, rfl, rfl, ⟨Rd.nil _, Rd.nil _⟩⟩
      simp [go_sem, BigFrame.eval_const, ActM.v, badL, nilB', tA]
    refine And.intro (fun a w hb hf hdep => ?_) ?_
    · refine ⟨_, w, ?_, Below.refl _ _, ⟨(badL d).getD 18 zeroA, .slice none 0 0, .slice none 0 0⟩, rfl, rfl, ⟨Rd.nil _, Rd.nil _⟩⟩
      simp [go_sem, BigFrame.eval_const, ActM.v, badL, nilB', tA]
    refine And.intro (fun a w hb hf hdep => ?_) ?_
    · refine ⟨_, w, ?_, Below.refl _ _, ⟨(badL d).getD 19 zeroA, .slice none 0 0, .slice none 0 0⟩, rfl, rfl, ⟨Rd.nil _, Rd.nil _⟩⟩
      simp [go_sem, BigFrame.eval_const, ActM.v, badL, nilB', tA]
    refine And.intro (fun a w hb hf hdep => ?_) ?_
    · refine ⟨_, w, ?_, Below.refl _ _, ⟨(badL d).getD 20 zeroA, .slice none 0 0, .slice none 0 0⟩, rfl, rfl, ⟨Rd.nil _, Rd.nil _⟩⟩
      simp [go_sem, BigFrame.eval_const, ActM.v, badL, nilB', tA]
    refine And.intro (fun a w hb hf hdep => ?_) ?_
    · exact ⟨.slice (some ⟨w.heap.size, 0, none⟩) 1 1, w.alloc (.cells #[.int .i64 (1)] 3), by simp [go_sem, BigFrame.eval_const], (Below.refl _ _).alloc (Nat.le_refl _) _, Rd.lit w [1] 1 _ rfl rfl (by decide)⟩
    refine And.intro (fun a w hb hf hdep => ?_) ?_
    · have e81 := hdep ⟨61, .data⟩ (by simp) rfl
      change Rd w (a.tmps.getD 81 undef) ([1]) at e81
      obtain ⟨uA, uc, hu⟩ := e81.form
      rw [hu] at e81
      rw [Array.getD_eq_getD_getElem?] at hu
      refine ⟨_, w, ?_, Below.refl _ _, ⟨(badL d).getD 21 zeroA, .slice none 0 0, .slice uA (List.length (α := Int) ([1])) uc⟩, rfl, rfl, ⟨Rd.nil _, e81⟩⟩
      simp [go_sem, BigFrame.eval_const, hu, ActM.v, badL, nilB', tA]
    refine And.intro (fun a w hb hf hdep => ?_) ?_
    · exact ⟨.slice (some ⟨w.heap.size, 0, none⟩) 1 1, w.alloc (.cells #[.int .i64 (1)] 3), by simp [go_sem, BigFrame.eval_const], (Below.refl _ _).alloc (Nat.le_refl _) _, Rd.lit w [1] 1 _ rfl rfl (by decide)⟩
    refine And.intro (fun a w hb hf hdep => ?_) ?_
    · have e83 := hdep ⟨63, .data⟩ (by simp) rfl
      change Rd w (a.tmps.getD 83 undef) ([1]) at e83
      obtain ⟨uA, uc, hu⟩ := e83.form
      rw [hu] at e83
      rw [Array.getD_eq_getD_getElem?] at hu
      refine ⟨_, w, ?_, Below.refl _ _, ⟨(badL d).getD 22 zeroA, .slice none 0 0, .slice uA (List.length (α := Int) ([1])) uc⟩, rfl, rfl, ⟨Rd.nil _, e83⟩⟩
      simp [go_sem, BigFrame.eval_const, hu, ActM.v, badL, nilB', tA]
    refine And.intro (fun a w hb hf hdep => ?_) ?_
    · refine ⟨_, w, ?_, Below.refl _ _, ⟨(badL d).getD 23 zeroA, .slice none 0 0, .slice none 0 0⟩, rfl, rfl, ⟨Rd.nil _, Rd.nil _⟩⟩
      simp [go_sem, BigFrame.eval_const, ActM.v, badL, nilB', tA]
    refine And.intro (fun a w hb hf hdep => ?_) ?_
    · refine ⟨_, w, ?_, Below.refl _ _, ⟨(badL d).getD 24 zeroA, .slice none 0 0, .slice none 0 0⟩, rfl, rfl, ⟨Rd.nil _, Rd.nil _⟩⟩
      simp [go_sem, BigFrame.eval_const, ActM.v, badL, nilB', tA]
    refine And.intro (fun a w hb hf hdep => ?_) ?_
    · refine ⟨_, w, ?_, Below.refl _ _, ⟨(badL d).getD 25 zeroA, .slice none 0 0, .slice none 0 0⟩, rfl, rfl, ⟨Rd.nil _, Rd.nil _⟩⟩
      simp [go_sem, BigFrame.eval_const, ActM.v, badL, nilB', tA]
    refine And.intro (fun a w hb hf hdep => ?_) ?_
    · exact ⟨_, w, BigFrame.run_move (.tmp 5) rfl w, Below.refl _ _, (hf 5 (dstF_ne (by decide))).trans (congrArg (Value.int .i64) hd)⟩
    refine And.intro (fun a w hb hf hdep => ?_) ?_
    · have e88 := hdep ⟨68, .data⟩ (by simp) rfl
      change a.tmps.getD 88 undef = .int .i64 (d : Int) at e88
      rw [Array.getD_eq_getD_getElem?] at e88
      refine ⟨_, w, ?_, Below.refl _ _, ⟨(badL d).getD 26 zeroA, .slice none 0 0, .slice none 0 0⟩, rfl, rfl, ⟨Rd.nil _, Rd.nil _⟩⟩
      simp [go_sem, BigFrame.eval_const, e88, ActM.v, badL, nilB', tA]
    refine And.intro (fun a w hb hf hdep => ?_) ?_
    · exact ⟨.slice (some ⟨w.heap.size, 0, none⟩) 1 1, w.alloc (.cells #[.int .i64 (1)] 3), by simp [go_sem, BigFrame.eval_const], (Below.refl _ _).alloc (Nat.le_refl _) _, Rd.lit w [1] 1 _ rfl rfl (by decide)⟩
    refine And.intro (fun a w hb hf hdep => ?_) ?_
    · have e90 := hdep ⟨70, .data⟩ (by simp) rfl
      change Rd w (a.tmps.getD 90 undef) ([1]) at e90
      obtain ⟨uA, uc, hu⟩ := e90.form
      rw [hu] at e90
      rw [Array.getD_eq_getD_getElem?] at hu
      refine ⟨_, w, ?_, Below.refl _ _, ⟨(badL d).getD 27 zeroA, .slice uA (List.length (α := Int) ([1])) uc, .slice none 0 0⟩, rfl, rfl, ⟨e90, Rd.nil _⟩⟩
      simp [go_sem, BigFrame.eval_const, hu, ActM.v, badL, nilB', tA]
    refine And.intro (fun a w hb hf hdep => ?_) ?_
    · obtain ⟨m0, h0, q0, k0⟩ := hdep ⟨2, .data⟩ (by simp) rfl
      change a.eval (.tmp 22) = m0.v at h0
      change m0.a = (badL d).getD 0 zeroA at q0
      obtain ⟨m1, h1, q1, k1⟩ := hdep ⟨5, .data⟩ (by simp) rfl
      change a.eval (.tmp 25) = m1.v at h1
      change m1.a = (badL d).getD 1 zeroA at q1
      obtain ⟨m2, h2, q2, k2⟩ := hdep ⟨6, .data⟩ (by simp) rfl
      change a.eval (.tmp 26) = m2.v at h2
      change m2.a = (badL d).getD 2 zeroA at q2
      obtain ⟨m3, h3, q3, k3⟩ := hdep ⟨11, .data⟩ (by simp) rfl
      change a.eval (.tmp 31) = m3.v at h3
      change m3.a = (badL d).getD 3 zeroA at q3
      obtain ⟨m4, h4, q4, k4⟩ := hdep ⟨14, .data⟩ (by simp) rfl
      change a.eval (.tmp 34) = m4.v at h4
      change m4.a = (badL d).getD 4 zeroA at q4
      obtain ⟨m5, h5, q5, k5⟩ := hdep ⟨17, .data⟩ (by simp) rfl
      change a.eval (.tmp 37) = m5.v at h5
      change m5.a = (badL d).getD 5 zeroA at q5
      obtain ⟨m6, h6, q6, k6⟩ := hdep ⟨20, .data⟩ (by simp) rfl
      change a.eval (.tmp 40) = m6.v at h6
      change m6.a = (badL d).getD 6 zeroA at q6
      obtain ⟨m7, h7, q7, k7⟩ := hdep ⟨23, .data⟩ (by simp) rfl
      change a.eval (.tmp 43) = m7.v at h7
      change m7.a = (badL d).getD 7 zeroA at q7
      obtain ⟨m8, h8, q8, k8⟩ := hdep ⟨26, .data⟩ (by simp) rfl
      change a.eval (.tmp 46) = m8.v at h8
      change m8.a = (badL d).getD 8 zeroA at q8
      obtain ⟨m9, h9, q9, k9⟩ := hdep ⟨29, .data⟩ (by simp) rfl
      change a.eval (.tmp 49) = m9.v at h9
      change m9.a = (badL d).getD 9 zeroA at q9
      obtain ⟨m10, h10, q10, k10⟩ := hdep ⟨34, .data⟩ (by simp) rfl
      change a.eval (.tmp 54) = m10.v at h10
      change m10.a = (badL d).getD 10 zeroA at q10
      obtain ⟨m11, h11, q11, k11⟩ := hdep ⟨36, .data⟩ (by simp) rfl
      change a.eval (.tmp 56) = m11.v at h11
      change m11.a = (badL d).getD 11 zeroA at q11
      obtain ⟨m12, h12, q12, k12⟩ := hdep ⟨40, .data⟩ (by simp) rfl
      change a.eval (.tmp 60) = m12.v at h12
      change m12.a = (badL d).getD 12 zeroA at q12
      obtain ⟨m13, h13, q13, k13⟩ := hdep ⟨44, .data⟩ (by simp) rfl
      change a.eval (.tmp 64) = m13.v at h13
      change m13.a = (badL d).getD 13 zeroA at q13
      obtain ⟨m14, h14, q14, k14⟩ := hdep ⟨48, .data⟩ (by simp) rfl
      change a.eval (.tmp 68) = m14.v at h14
      change m14.a = (badL d).getD 14 zeroA at q14
      obtain ⟨m15, h15, q15, k15⟩ := hdep ⟨52, .data⟩ (by simp) rfl
      change a.eval (.tmp 72) = m15.v at h15
      change m15.a = (badL d).getD 15 zeroA at q15
      obtain ⟨m16, h16, q16, k16⟩ := hdep ⟨56, .data⟩ (by simp) rfl
      change a.eval (.tmp 76) = m16.v at h16
      change m16.a = (badL d).getD 16 zeroA at q16
      obtain ⟨m17, h17, q17, k17⟩ := hdep ⟨57, .data⟩ (by simp) rfl
      change a.eval (.tmp 77) = m17.v at h17
      change m17.a = (badL d).getD 17 zeroA at q17
      obtain ⟨m18, h18, q18, k18⟩ := hdep ⟨58, .data⟩ (by simp) rfl
      change a.eval (.tmp 78) = m18.v at h18
      change m18.a = (badL d).getD 18 zeroA at q18
      obtain ⟨m19, h19, q19, k19⟩ := hdep ⟨59, .data⟩ (by simp) rfl
      change a.eval (.tmp 79) = m19.v at h19
      change m19.a = (badL d).getD 19 zeroA at q19
      obtain ⟨m20, h20, q20, k20⟩ := hdep ⟨60, .data⟩ (by simp) rfl
      change a.eval (.tmp 80) = m20.v at h20
      change m20.a = (badL d).getD 20 zeroA at q20
      obtain ⟨m21, h21, q21, k21⟩ := hdep ⟨62, .data⟩ (by simp) rfl
      change a.eval (.tmp 82) = m21.v at h21
      change m21.a = (badL d).getD 21 zeroA at q21
      obtain ⟨m22, h22, q22, k22⟩ := hdep ⟨64, .data⟩ (by simp) rfl
      change a.eval (.tmp 84) = m22.v at h22
      change m22.a = (badL d).getD 22 zeroA at q22
      obtain ⟨m23, h23, q23, k23⟩ := hdep ⟨65, .data⟩ (by simp) rfl
      change a.eval (.tmp 85) = m23.v at h23
      change m23.a = (badL d).getD 23 zeroA at q23
      obtain ⟨m24, h24, q24, k24⟩ := hdep ⟨66, .data⟩ (by simp) rfl
      change a.eval (.tmp 86) = m24.v at h24
      change m24.a = (badL d).getD 24 zeroA at q24
      obtain ⟨m25, h25, q25, k25⟩ := hdep ⟨67, .data⟩ (by simp) rfl
      change a.eval (.tmp 87) = m25.v at h25
      change m25.a = (badL d).getD 25 zeroA at q25
      obtain ⟨m26, h26, q26, k26⟩ := hdep ⟨69, .data⟩ (by simp) rfl
      change a.eval (.tmp 89) = m26.v at h26
      change m26.a = (badL d).getD 26 zeroA at q26
      obtain ⟨m27, h27, q27, k27⟩ := hdep ⟨71, .data⟩ (by simp) rfl
      change a.eval (.tmp 91) = m27.v at h27
      change m27.a = (badL d).getD 27 zeroA at q27
      have hl : ([m0, m1, m2, m3, m4, m5, m6, m7, m8, m9, m10, m11, m12, m13, m14, m15, m16, m17, m18, m19, m20, m21, m22, m23, m24, m25, m26, m27] : List ActM).length = 28 := rfl
      refine ⟨.slice (some ⟨w.heap.size, 0, none⟩) 28 28, w.alloc (.cells (flatA [m0, m1, m2, m3, m4, m5, m6, m7, m8, m9, m10, m11, m12, m13, m14, m15, m16, m17, m18, m19, m20, m21, m22, m23, m24, m25, m26, m27]).toArray 38), ?_, (Below.refl _ _).alloc (Nat.le_refl _) _, [m0, m1, m2, m3, m4, m5, m6, m7, m8, m9, m10, m11, m12, m13, m14, m15, m16, m17, m18, m19, m20, m21, m22, m23, m24, m25, m26, m27], ⟨RdM.new w _ 28 rfl (by decide), fun m hm => OkM.alloc ?_ _⟩, ?_⟩
      · have hrun := build28 w m0 m1 m2 m3 m4 m5 m6 m7 m8 m9 m10 m11 m12 m13 m14 m15 m16 m17 m18 m19 m20 m21 m22 m23 m24 m25 m26 m27
        unfold execOp
        simp only [List.map_toArray, List.map_cons, List.map_nil, Sem.run_bind, Sem.run_pure, Result.andThen_ok, h0, h1, h2, h3, h4, h5, h6, h7, h8, h9, h10, h11, h12, h13, h14, h15, h16, h17, h18, h19, h20, h21, h22, h23, h24, h25, h26, h27]
        rw [hrun]
        rfl
      · simp only [List.mem_cons, List.not_mem_nil, or_false] at hm
        rcases hm with rfl | rfl | rfl | rfl | rfl | rfl | rfl | rfl | rfl | rfl | rfl | rfl | rfl | rfl | rfl | rfl | rfl | rfl | rfl | rfl | rfl | rfl | rfl | rfl | rfl | rfl | rfl | rfl
        · exact k0
        · exact k1
        · exact k2
        · exact k3
        · exact k4
        · exact k5
        · exact k6
        · exact k7
        · exact k8
        · exact k9
        · exact k10
        · exact k11
        · exact k12
        · exact k13
        · exact k14
        · exact k15
        · exact k16
        · exact k17
        · exact k18
        · exact k19
        · exact k20
        · exact k21
        · exact k22
        · exact k23
        · exact k24
        · exact k25
        · exact k26
        · exact k27
      · show [m0.a, m1.a, m2.a, m3.a, m4.a, m5.a, m6.a, m7.a, m8.a, m9.a, m10.a, m11.a, m12.a, m13.a, m14.a, m15.a, m16.a, m17.a, m18.a, m19.a, m20.a, m21.a, m22.a, m23.a, m24.a, m25.a, m26.a, m27.a] = badL d
        rw [q0, q1, q2, q3, q4, q5, q6, q7, q8, q9, q10, q11, q12, q13, q14, q15, q16, q17, q18, q19, q20, q21, q22, q23, q24, q25, q26, q27]
        rfl
    refine And.intro (fun a w hb hf hdep => ?_) ?_
    · have e92 := hdep ⟨72, .data⟩ (by simp) rfl
      change Kd.holds (.acts (badL d)) (a.tmps.getD 92 undef) w at e92
      exact ⟨_, w, BigFrame.run_assign (.tmp 92) rfl w, Below.refl _ _, e92⟩
    trivial
  · intro vs w2 hb2 hR
    obtain ⟨ms, hrd, hma⟩ : ∃ ms, RdA w2 (vs 73) ms ∧ ms.map (·.a) = badL d := hR 73 (by decide)
    have B2 := Lib.hid (show Below w.heap.size w w2 from Bl.then (Bl.drewN B1.out 1) hb2)
    clear hR hb2 wneg wneg2 wadd wadd2
    change Exit.then _ _ .normal { tmps := putL dstF vs 74 _, defers := _ } w2
    rw [frame_put]
    have hl28 : ms.length = 28 := by
      have := congrArg List.length hma
      rw [List.length_map] at this
      exact this
    obtain ⟨A6, c6, h6⟩ := hrd.1.form
    rw [hl28] at h6
    rw [h6] at hrd ⊢
    have RD := Lib.hid hrd
    have HMA := Lib.hid hma
    have HL := Lib.hid hl28
    clear hrd hma h6
    obtain ⟨b, o, c', hv, _, _, hcc⟩ := RD.out.1.pos (by rw [HL.out]; decide)
    rw [HL.out] at hv hcc
    obtain ⟨rfl, rfl⟩ := Value.slice.inj hv |> fun h => And.intro h.1 h.2.2
    have hk28 : k < 28 := by omega
    obtain ⟨g0, g1, g2, g3, g4, g5, g6, g7, g8⟩ := hcc k hk28
    have hmem : ms.getD k zeroM ∈ ms := getD_memM (by rw [HL.out]; exact hk28)
    have hok := RD.out.2 _ hmem
    have hno : mayR (ms.getD k zeroM).a = false := badL_no d d1 _ (by rw [← HMA.out]; exact List.mem_map.2 ⟨_, hmem, rfl⟩)
    have hsz9 : SzA (ms.getD k zeroM).a := badL_sz d d2 _ (by rw [← HMA.out]; exact List.mem_map.2 ⟨_, hmem, rfl⟩)
    obtain ⟨m, hm⟩ : ∃ m, ms.getD k zeroM = m := ⟨_, rfl⟩
    rw [hm] at g0 g1 g2 g3 g4 g5 g6 g7 g8 hok hno hsz9
    have hf1 := hok.1.form
    have hf2 := hok.2.form
    have HOK := Lib.hid hok
    have HNO := Lib.hid hno
    have HSZ := Lib.hid hsz9
    obtain ⟨⟨kd, key, val, pl, wd, ls, mask, busy, reads⟩, bv, rv⟩ := m
    obtain ⟨A1, c1, rfl⟩ : ∃ A c, bv = .slice A busy.length c := hf1
    obtain ⟨A2, c2, rfl⟩ : ∃ A c, rv = .slice A reads.length c := hf2
    simp only at g0 g1 g2 g3 g4 g5 g6 g7 g8
    clear hv hcc hmem hok hno hm hsz9
    have k0 : (0 : Int) ≤ (k : Int) := by omega
    have k1 : (k : Int) < 28 := by omega
    have b3 := Bl.alloc (Below.refl w2.heap.size w2) (Obj.cells #[.int .i64 kd, .string key, .string val, .int .i64 pl, .int .i64 wd, .int .i64 ls, .string mask, .slice A1 busy.length c1, .slice A2 reads.length c2] 38)
    have b4 := Bl.alloc b3 (Obj.cells #[.int .i64 0, .string ⟨#[]⟩, .string ⟨#[]⟩, .int .i64 0, .int .i64 0, .int .i64 0, .string ⟨#[]⟩, .slice none 0 0, .slice none 0 0, .int .i64 kd, .string key, .string val, .int .i64 pl, .int .i64 wd, .int .i64 ls, .string mask, .slice A1 busy.length c1, .slice A2 reads.length c2] 38)
    have r3 := RdM.new (w2.alloc (Obj.cells #[.int .i64 kd, .string key, .string val, .int .i64 pl, .int .i64 wd, .int .i64 ls, .string mask, .slice A1 busy.length c1, .slice A2 reads.length c2] 38)) [zeroM, ⟨⟨kd, key, val, pl, wd, ls, mask, busy, reads⟩, .slice A1 busy.length c1, .slice A2 reads.length c2⟩] 2 rfl (by decide)
    rw [show (w2.alloc (Obj.cells #[.int .i64 kd, .string key, .string val, .int .i64 pl, .int .i64 wd, .int .i64 ls, .string mask, .slice A1 busy.length c1, .slice A2 reads.length c2] 38)).heap.size = w2.heap.size + 1 by simp] at r3
    change RdM ((w2.alloc (Obj.cells #[.int .i64 kd, .string key, .string val, .int .i64 pl, .int .i64 wd, .int .i64 ls, .string mask, .slice A1 busy.length c1, .slice A2 reads.length c2] 38)).alloc (Obj.cells #[.int .i64 0, .string ⟨#[]⟩, .string ⟨#[]⟩, .int .i64 0, .int .i64 0, .int .i64 0, .string ⟨#[]⟩, .slice none 0 0, .slice none 0 0, .int .i64 kd, .string key, .string val, .int .i64 pl, .int .i64 wd, .int .i64 ls, .string mask, .slice A1 busy.length c1, .slice A2 reads.length c2] 38)) _ _ at r3
    have rA : RdA _ (.slice (some ⟨w2.heap.size + 1, 0, none⟩) 2 2) [zeroM, ⟨⟨kd, key, val, pl, wd, ls, mask, busy, reads⟩, .slice A1 busy.length c1, .slice A2 reads.length c2⟩] := ⟨r3, fun m' hm' => by
      simp only [List.mem_cons, List.not_mem_nil, or_false] at hm'
      rcases hm' with rfl | rfl
      · exact ⟨Rd.nil _, Rd.nil _⟩
      · exact (HOK.out.alloc _).alloc _⟩
    have szm : SzA (⟨kd, key, val, pl, wd, ls, mask, busy, reads⟩ : ActV) := HSZ.out
    have S1 := show_any _ _ _ rA (fun m' hm' => by
      simp only [List.mem_cons, List.not_mem_nil, or_false] at hm'
      rcases hm' with rfl | rfl
      · exact ⟨by decide, by decide, by decide⟩
      · exact szm) (HTAB.out _ (Bl.then B2.out b4))
    have hno2 : ¬ showOk ([zeroM, (⟨⟨kd, key, val, pl, wd, ls, mask, busy, reads⟩, .slice A1 busy.length c1, .slice A2 reads.length c2⟩ : ActM)].map (·.a)) := fun h => by
      have h1 := h.2 ⟨kd, key, val, pl, wd, ls, mask, busy, reads⟩ (by simp)
      rw [HNO.out] at h1
      cases h1
    rw [(show_no hno2).1, (show_no hno2).2] at S1
    have BX := Lib.hid ((Box9.new w2 ⟨⟨kd, key, val, pl, wd, ls, mask, busy, reads⟩, .slice A1 busy.length c1, .slice A2 reads.length c2⟩).alloc (Obj.cells #[.int .i64 0, .string ⟨#[]⟩, .string ⟨#[]⟩, .int .i64 0, .int .i64 0, .int .i64 0, .string ⟨#[]⟩, .slice none 0 0, .slice none 0 0, .int .i64 kd, .string key, .string val, .int .i64 pl, .int .i64 wd, .int .i64 ls, .string mask, .slice A1 busy.length c1, .slice A2 reads.length c2] 38))
    have SS1 := Lib.hid S1
    have B4 := Lib.hid (Bl.then B2.out b4)
    have K4 := Lib.hid b4
    have MAY := Lib.hid (fun (W : World) (hb : Below w2.heap.size w2 W) => may_any ⟨⟨kd, key, val, pl, wd, ls, mask, busy, reads⟩, .slice A1 busy.length c1, .slice A2 reads.length c2⟩ W (HOK.out.below hb) szm)
    rw [show mayA ((⟨⟨kd, key, val, pl, wd, ls, mask, busy, reads⟩, .slice A1 busy.length c1, .slice A2 reads.length c2⟩ : ActM).a) = false by rw [may_eq]; exact HNO.out] at MAY
    have hj11 : j < 11 := by omega
    have hmt : noneL.getD j nilB' ∈ noneL := by
      rw [List.getD_eq_getElem?_getD, List.getElem?_eq_getElem (show j < noneL.length from hj11), Option.getD_some]
      exact List.getElem_mem _
    obtain ⟨tj, htj⟩ : ∃ t, noneL.getD j nilB' = t := ⟨_, rfl⟩
    have HTJ := Lib.hid htj
    rw [htj] at hmt
    have PN := Lib.hid (fun (W : World) (hW : Tab W) => parse_any tj (noneL_size tj hmt) W hW)
    rw [(noneL_no tj hmt).1, (noneL_no tj hmt).2] at PN
    obtain ⟨i0, hi, hz0, hz1, hz2⟩ := info_parts infoAct
    have I1 := Lib.hid hi
    have I2 := Lib.hid hz0
    have I3 := Lib.hid hz1
    have I4 := Lib.hid hz2
    have j0 : (0 : Int) ≤ (j : Int) := by omega
    have j1 : (j : Int) < 11 := by omega
    have hq0 : ((⟨#[]⟩ : ByteArray).toList == (⟨#[]⟩ : ByteArray).toList) = true := beq_self_eq_true _
    simp only [ActM.v] at MAY
    clear b3 b4 r3 rA S1 hno2 szm hmt htj hi hz0 hz1 hz2
    go_wp2_with fail
    refine SS1.out.mono ?_
    rintro e w5 ⟨rfl, hb5⟩
    have BX5 := Lib.hid (Own.below BX.out hb5)
    have K5 := Lib.hid (Bl.then K4.out hb5)
    have B5 := Lib.hid (Bl.then B4.out hb5)
    clear hb5 SS1 BX K4 B4 g0 g1 g2 g3 g4 g5 g6 g7 g8
    have OS := Lib.hid (own_strs w5 noneL 11 rfl (by decide))
    have ct : (w5.alloc (Obj.cells (strv noneL).toArray 9)).cell? ⟨w5.heap.size, j, none⟩ = some (.string tj) := OS.out.at' (by
      rw [strv, List.getElem?_map, List.getElem?_eq_getElem (show j < noneL.length from (by show j < 11; omega)), Option.map_some]
      have := HTJ.out
      rw [List.getD_eq_getElem?_getD, List.getElem?_eq_getElem (show j < noneL.length from (by show j < 11; omega)), Option.getD_some] at this
      rw [this])
    change (w5.alloc (Obj.cells #[.string ⟨#[109]⟩, .string ⟨#[109, 48, 44, 48, 44, 48, 44, 48, 44, 48, 44, 48, 58, 48, 58]⟩, .string ⟨#[109, 48, 48, 44, 48, 44, 48, 44, 48, 44, 48, 44, 48, 58, 48, 58, 48, 58]⟩, .string ⟨#[122, 48, 44, 48, 44, 48, 44, 48, 44, 48, 44, 48, 58, 48, 58, 48, 58]⟩, .string ⟨#[109, 48, 44, 48, 44, 48, 44, 48, 44, 48, 44, 49, 58, 48, 58, 48, 58]⟩, .string ⟨#[109, 48, 44, 48, 44, 48, 44, 49, 44, 48, 44, 48, 58, 48, 58, 48, 58]⟩, .string ⟨#[109, 48, 44, 48, 44, 48, 44, 48, 44, 48, 44, 48, 58, 48, 58, 48, 58, 32]⟩, .string ⟨#[32, 109, 48, 44, 48, 44, 48, 44, 48, 44, 48, 44, 48, 58, 48, 58, 48, 58]⟩, .string ⟨#[109, 48, 59, 48, 44, 48, 44, 48, 44, 48, 44, 48, 58, 48, 58, 48, 58]⟩, .string ⟨#[103, 48, 44, 48, 44, 48, 44, 48, 44, 48, 44, 51, 58, 97, 48, 58, 48, 58]⟩, .string ⟨#[109, 48, 44, 48, 44, 48, 44, 48, 44, 48, 44, 48, 58, 48, 58, 48, 58, 109]⟩] 9)).cell? _ = _ at ct
    clear OS
    go_wp2_with fail
    refine (PN.out _ (HTAB.out _ (Bl.alloc B5.out _))).mono ?_
    rintro e w6 ⟨v6, ms6, rfl, ho6, hm6, hb6⟩
    obtain ⟨X6, x6, rfl⟩ := ho6.1.slice
    have hl6 : ms6.length = 0 := by have := congrArg List.length hm6; simpa using this
    rw [hl6]
    have hb56 := Bl.then (Bl.alloc (Below.refl w5.heap.size w5) (Obj.cells #[.string ⟨#[109]⟩, .string ⟨#[109, 48, 44, 48, 44, 48, 44, 48, 44, 48, 44, 48, 58, 48, 58]⟩, .string ⟨#[109, 48, 48, 44, 48, 44, 48, 44, 48, 44, 48, 44, 48, 58, 48, 58, 48, 58]⟩, .string ⟨#[122, 48, 44, 48, 44, 48, 44, 48, 44, 48, 44, 48, 58, 48, 58, 48, 58]⟩, .string ⟨#[109, 48, 44, 48, 44, 48, 44, 48, 44, 48, 44, 49, 58, 48, 58, 48, 58]⟩, .string ⟨#[109, 48, 44, 48, 44, 48, 44, 49, 44, 48, 44, 48, 58, 48, 58, 48, 58]⟩, .string ⟨#[109, 48, 44, 48, 44, 48, 44, 48, 44, 48, 44, 48, 58, 48, 58, 48, 58, 32]⟩, .string ⟨#[32, 109, 48, 44, 48, 44, 48, 44, 48, 44, 48, 44, 48, 58, 48, 58, 48, 58]⟩, .string ⟨#[109, 48, 59, 48, 44, 48, 44, 48, 44, 48, 44, 48, 58, 48, 58, 48, 58]⟩, .string ⟨#[103, 48, 44, 48, 44, 48, 44, 48, 44, 48, 44, 51, 58, 97, 48, 58, 48, 58]⟩, .string ⟨#[109, 48, 44, 48, 44, 48, 44, 48, 44, 48, 44, 48, 58, 48, 58, 48, 58, 109]⟩] 9)) hb6
    have BX6 := Lib.hid (Own.below BX5.out hb56)
    have K6 := Lib.hid (Bl.then K5.out hb56)
    have B6 := Lib.hid (Bl.then B5.out hb56)
    clear ho6 hm6 hb6 hb56 hl6 PN BX5 K5 B5 ct
    go_wp2_with (at_make; refine wpList_make_full _ rfl _ _ 22 rfl w.heap.size 38 i0 _ 9 Tryd.underlying22 I1.out I2.out I3.out .i64 .i64 ((257 : Nat) : Int) ((257 : Nat) : Int) 257 rfl rfl rfl rfl (by rw [I4.out]; decide) (by simp only [maxLen]; omega) B6.out.size ?_; intro w7 ho hg; have O7 := Lib.hid (Own.of ho); have G7 := Lib.hid (bl_of hg); clear ho hg)
    have o7 := O7.out
    rw [show (257 : Nat) * 9 = 257 * 9 from rfl, made_acts] at o7
    have r7 : RdA w7 (.slice (some ⟨w6.heap.size, 0, none⟩) 257 257) (List.replicate 257 zeroM) := OwnA.rd (B := w.heap.size) ⟨by rw [List.length_replicate]; exact o7, fun m' hm' => by
      obtain rfl := (List.mem_replicate.1 hm').2
      exact ⟨Own.nil _ _ _ _, Own.nil _ _ _ _⟩⟩
    have B7 := Lib.hid (Bl.then B6.out G7.out)
    have S7 := show_any _ _ w7 r7 (fun m' hm' => by
      obtain rfl := (List.mem_replicate.1 hm').2
      exact ⟨by decide, by decide, by decide⟩) (HTAB.out _ B7.out)
    rw [many_no.1, many_no.2] at S7
    have BX7 := Lib.hid (Own.below BX6.out G7.out)
    have K7 := Lib.hid (Bl.then K6.out G7.out)
    have SS7 := Lib.hid S7
    clear o7 r7 S7 O7 G7 BX6 K6 B6
    go_wp2_with fail
    refine SS7.out.mono ?_
    rintro e w8 ⟨rfl, hb8⟩
    have bx8 := Own.below BX7.out hb8
    have K8 := Lib.hid (Bl.then K7.out hb8)
    have B8 := Lib.hid (Bl.then B7.out hb8)
    obtain ⟨g0, g1, g2, g3, g4, g5, g6, g7, g8⟩ := Box9.at9 (m := ⟨⟨kd, key, val, pl, wd, ls, mask, busy, reads⟩, .slice A1 busy.length c1, .slice A2 reads.length c2⟩) bx8
    simp only at g0 g1 g2 g3 g4 g5 g6 g7 g8
    clear hb8 bx8 SS7 BX7 K7 B7
    go_wp2_with (first
      | (go_at_call 12; with_reducible refine (num_s _ _).mono ?_; rintro e wn ⟨rfl, rfl⟩)
      | (go_at_call 14; with_reducible refine (MAY.out _ K8.out).mono ?_; rintro e w9 ⟨rfl, hb9⟩; have B9 := Lib.hid (Bl.then B8.out hb9); clear hb9))
    go_ret
    exact ⟨rfl, B9.out⟩
end Go.Proofs.YtfdbolnifjpbhaaDoor
