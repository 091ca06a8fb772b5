/- The statement PlanRooms: the walk. -/
import Derived.Test.YtdgnpoapkjoknaaPlG
import Derived.Deep.RegionLaw
namespace Go.Proofs.Ytdgnpoapkjoknaa
set_option linter.unusedVariables false
set_option linter.unusedSimpArgs false
open Go.RowKit

def rmV : ByteArray := ⟨#[118]⟩
def rmR (i : Nat) : RecV := ⟨1, 0, keyM i, rmV⟩
def rmL (k : Nat) : List RecV := (List.range k).map rmR
def rmZ : RecV := ⟨1, 0, ⟨#[122]⟩, ⟨#[119]⟩⟩
theorem rmL_snoc (k : Nat) : rmL (k + 1) = rmL k ++ [rmR k] := by rw [rmL, rmL, List.range_succ, List.map_append]; rfl
theorem rmL_len (k : Nat) : (rmL k).length = k := by simp [rmL]
theorem rmL_sizes (k : Nat) : ∀ r ∈ rmL k, r.key.size ≤ 9223372036854775807 ∧ r.val.size ≤ 9223372036854775807 := by
  intro r hr
  obtain ⟨i, _, rfl⟩ := List.mem_map.1 hr
  exact ⟨by show (keyM i).size ≤ _; rw [keyM_size]; decide, by show rmV.size ≤ _; decide⟩
theorem rm_facts : ∀ k : Fin 8, bldOk (rmL k.1) ∧ withOk (buildL (rmL k.1)) rmZ ∧ (putL (buildL (rmL k.1)) rmZ).length = k.1 + 1 := by decide +kernel
theorem rm_ok (k : Nat) (hk : k < 8) (ep fr s : Int) (he : epochB ep = true) (h1 : 1 ≤ fr) (h2 : fr ≤ 8) (h3 : 4 ≤ s) (h4 : s < 8) : chOk ⟨true, ep, rmL k, fr⟩ s rmZ :=
  ⟨⟨rfl, he, h1, h2, (rm_facts ⟨k, hk⟩).1, (rm_facts ⟨k, hk⟩).2.1⟩, h3, h4⟩
theorem rm_no (L : List PairV) : ¬ (findB L rmZ.key = false ∧ rmZ.k = 2) := fun h => absurd h.2 (by decide)
def rmKeys : List Value := [.string ⟨#[97]⟩, .string ⟨#[98]⟩, .string ⟨#[99]⟩, .string ⟨#[100]⟩, .string ⟨#[101]⟩, .string ⟨#[102]⟩, .string ⟨#[103]⟩]
theorem rmKeys_at (j : Nat) (h : j < 7) : rmKeys[j]? = some (.string (keyM j)) := by
  match j, h with
  | 0, _ => rfl
  | 1, _ => rfl
  | 2, _ => rfl
  | 3, _ => rfl
  | 4, _ => rfl
  | 5, _ => rfl
  | 6, _ => rfl
theorem rm_w (j : Nat) (s : Int) (hj : j ≤ 7) (h0 : 0 ≤ s) (h4 : s < 4) : wrap64 ((j : Int) + 1) = (j : Int) + 1 ∧ wrap64 ((j : Int) + 2) = (j : Int) + 2 ∧ wrap64 (4 + s + 1) = 4 + s + 1 :=
  ⟨IntWalk.wrap64_in _ ⟨by omega, by omega⟩, IntWalk.wrap64_in _ ⟨by omega, by omega⟩, IntWalk.wrap64_in _ ⟨by omega, by omega⟩⟩
theorem ones_last (n : Nat) : (nums (onesN n ++ [0]))[n]? = some (.int .i64 0) := by
  rw [nums_append, List.getElem?_append_right (by rw [nums_length, onesN_len]; exact Nat.le_refl _), nums_length, onesN_len, Nat.sub_self]; rfl
/-- What is known as a view's row is made. -/
def VIn (w : World) (g : Nat) (good : Bool) (ep fr : Int) (R : Value) (j : Nat) (W : World) : Prop :=
  Own W w.heap.size 57 1 (.slice (some ⟨g, 0, none⟩) 4 4) 4 [.bool good, .int .i64 ep, R, .int .i64 fr] ∧ Own W w.heap.size 25 4 R j (flat (rmL j)) ∧ Own W w.heap.size 9 1 (.slice (some ⟨g + 1, 0, none⟩) 7 7) 7 rmKeys ∧ Below w.heap.size w W ∧ w.heap.size ≤ W.heap.size
theorem VIn.alloc {w W : World} {g : Nat} {good : Bool} {ep fr : Int} {R : Value} {j : Nat} (h : VIn w g good ep fr R j W) (o : Obj) : VIn w g good ep fr R j (W.alloc o) :=
  ⟨h.1.alloc o, h.2.1.alloc o, h.2.2.1.alloc o, Bl.alloc h.2.2.2.1 o, Nat.le_trans h.2.2.2.2 (Bl.alloc (Below.refl _ _) o).size⟩
theorem VIn.drew {w W : World} {g : Nat} {good : Bool} {ep fr : Int} {R : Value} {j : Nat} (h : VIn w g good ep fr R j W) : VIn w g good ep fr R j W.drew :=
  ⟨h.1.drewN 1, h.2.1.drewN 1, h.2.2.1.drewN 1, Bl.drewN h.2.2.2.1 1, h.2.2.2.2⟩
theorem VIn.step {w W w2 : World} {g : Nat} {good : Bool} {ep fr : Int} {R R' : Value} {j : Nat} (h : VIn w g good ep fr R j W) (hg : W.grownBy w2 R.ownBlock) (ho : Own w2 w.heap.size 25 4 R' (j + 1) (flat (rmL (j + 1)))) :
    VIn w g good ep fr R' (j + 1) (w2.setCell ⟨g, 2, none⟩ R') ∧ w2.frozen? ⟨g, 2, none⟩ = false ∧ w2.cell? ⟨g, 2, none⟩ = some R := by
  have v := h.1.kept hg (Own.ne (by decide) h.1 h.2.1)
  have k := h.2.2.1.kept hg (Own.ne (by decide) h.2.2.1 h.2.1)
  have st := v.stored 2 R'
  refine ⟨⟨st.1, ho.kept st.2 (Own.ne (by decide) ho v), k.kept st.2 (Own.ne (by decide) k v), (Below.grown h.2.2.2.1 hg h.2.2.2.1.size (fun q hq => h.2.1.base q hq)).setCell (p := ⟨g, 2, none⟩) (h.1.base g rfl) R', by rw [setCell_size]; exact Nat.le_trans h.2.2.2.2 hg.size⟩, v.free (by decide), v.at' rfl⟩
theorem rem_8 (x : Int) : ∃ k : Nat, wrap64 ((IntKind.u64.wrap x).tmod 8) = (k : Int) ∧ k < 8 := by
  have hu : 0 ≤ IntKind.u64.wrap x := by
    simp only [IntKind.wrap, IntKind.signed, IntKind.bits]
    exact Int.emod_nonneg _ (by decide)
  rw [Int.tmod_eq_emod_of_nonneg hu, IntWalk.wrap64_in _ ⟨by omega, by omega⟩]
  exact ⟨((IntKind.u64.wrap x) % 8).toNat, by omega, by omega⟩
theorem rem_4 (x : Int) : ∃ k : Int, wrap64 ((IntKind.u64.wrap x).tmod 4) = k ∧ 0 ≤ k ∧ k < 4 := by
  have hu : 0 ≤ IntKind.u64.wrap x := by
    simp only [IntKind.wrap, IntKind.signed, IntKind.bits]
    exact Int.emod_nonneg _ (by decide)
  rw [Int.tmod_eq_emod_of_nonneg hu, IntWalk.wrap64_in _ ⟨by omega, by omega⟩]
  exact ⟨(IntKind.u64.wrap x) % 4, rfl, by omega, by omega⟩

set_option maxRecDepth 100000 in
set_option maxHeartbeats 16000000 in
theorem PlanRooms_walk (w : World) (many : Int) (_ : -9223372036854775808 ≤ many ∧ many ≤ 9223372036854775807) (sector : Int) (_ : -9223372036854775808 ≤ sector ∧ sector ≤ 9223372036854775807) (full last : Bool) :
    Calls Try.prog 11 #[.int .i64 many, .int .i64 sector, .bool full, .bool last] w fun e w' => e = .returned (.bool true) ∧ Below w.heap.size w w' := by
  obtain ⟨k, hk, hk8⟩ := rem_8 many
  obtain ⟨s, hs, hs0, hs4⟩ := rem_4 sector
  have HK8 := Lib.hid hk8
  have CH := Lib.hid (fun (ep fr : Int) (W : World) (F : Value) (h : RdR W F (rmL k)) => change_any W ⟨true, ep, rmL k, fr⟩ F (4 + s) rmZ h (by show ((rmL k).length + 1) * 48 ≤ _; rw [rmL_len]; omega) (rmL_sizes k) (by decide) (by decide))
  change Hid (∀ (ep fr : Int) (W : World) (F : Value), RdR W F (rmL k) → Calls Try.prog 28 #[.agg #[.bool true, .int .i64 ep, F, .int .i64 fr], .int .i64 (4 + s), .agg #[.int .i64 1, .int .i64 0, .string ⟨#[122]⟩, .string ⟨#[119]⟩]] W _) at CH
  have OK := Lib.hid (fun (ep fr : Int) (he : epochB ep = true) (h1 : 1 ≤ fr) (h2 : fr ≤ 8) => rm_ok k hk8 ep fr (4 + s) he h1 h2 (by omega) (by omega))
  have LEN := Lib.hid (rm_facts ⟨k, hk8⟩).2.2
  have hws : wrap64 (4 + s) = 4 + s := IntWalk.wrap64_in _ ⟨by omega, by omega⟩
  go_enter Try.func11, Try.ntmps11
  go_wp2_with fail
  with_reducible refine (awake22 _).mono ?_
  rintro e w0 ⟨rfl, hb⟩
  have HB0 := Lib.hid hb
  clear hb
  cases full with
  | true =>
    cases last with
    | true =>
      go_wp2_with fail
      (try simp only [hk, hs, hws])
      clear hk hs hws
      have b2 := Bl.alloc (Bl.alloc (Below.refl w0.heap.size w0) (Obj.cells #[.bool true, .int .i64 1048576, .slice none 0 0, .int .i64 8] 57)) (Obj.cells #[.string ⟨#[97]⟩, .string ⟨#[98]⟩, .string ⟨#[99]⟩, .string ⟨#[100]⟩, .string ⟨#[101]⟩, .string ⟨#[102]⟩, .string ⟨#[103]⟩] 9)
      have kb := Own.arr (w0.alloc (Obj.cells #[.bool true, .int .i64 1048576, .slice none 0 0, .int .i64 8] 57)) #[.string ⟨#[97]⟩, .string ⟨#[98]⟩, .string ⟨#[99]⟩, .string ⟨#[100]⟩, .string ⟨#[101]⟩, .string ⟨#[102]⟩, .string ⟨#[103]⟩] 9 7 rfl (by decide)
      rw [show (w0.alloc (Obj.cells #[.bool true, .int .i64 1048576, .slice none 0 0, .int .i64 8] 57)).heap.size = w0.heap.size + 1 by simp] at kb
      have I0 := Lib.hid (show VIn w0 w0.heap.size true 1048576 8 (.slice none 0 0) 0 ((w0.alloc (Obj.cells #[.bool true, .int .i64 1048576, .slice none 0 0, .int .i64 8] 57)).alloc (Obj.cells #[.string ⟨#[97]⟩, .string ⟨#[98]⟩, .string ⟨#[99]⟩, .string ⟨#[100]⟩, .string ⟨#[101]⟩, .string ⟨#[102]⟩, .string ⟨#[103]⟩] 9)) from ⟨(Own.arr w0 #[.bool true, .int .i64 1048576, .slice none 0 0, .int .i64 8] 57 4 rfl (by decide)).alloc _, Own.nil _ _ _ _, kb.lower (Nat.le_succ _), b2, b2.size⟩)
      clear b2 kb
      generalize ((w0.alloc (Obj.cells #[.bool true, .int .i64 1048576, .slice none 0 0, .int .i64 8] 57)).alloc (Obj.cells #[.string ⟨#[97]⟩, .string ⟨#[98]⟩, .string ⟨#[99]⟩, .string ⟨#[100]⟩, .string ⟨#[101]⟩, .string ⟨#[102]⟩, .string ⟨#[103]⟩] 9)) = wl at *
      have HWG := Lib.hid (rfl : w0.heap.size = w0.heap.size)
      go_loopw [13] (fun i wr => ∃ (j : Nat) (R : Value), j ≤ k ∧ j ≤ 7 ∧ i = .int .i64 (j : Int) ∧ VIn w0 w0.heap.size true 1048576 8 R j wr) (fun i _ => (k - intOf i).toNat)
      case atStart => exact ⟨0, _, Nat.zero_le _, Nat.zero_le _, rfl, I0.out⟩
      case round =>
        obtain ⟨j, R, hjk, hj7, rfl, hi⟩ := hrel
        obtain ⟨R1, R2, R3⟩ : ∃ A c, R = .slice A j c := hi.2.1.slice
        subst R3
        have HI := Lib.hid hi
        clear hi I0
        by_cases hlt : j < k
        · have hlt2 : (j : Int) < (k : Int) := Int.ofNat_lt.2 hlt
          have hj : j < 7 := Nat.lt_of_lt_of_le hlt (Nat.le_of_lt_succ HK8.out)
          have hj2 : (j : Int) < 7 := Int.ofNat_lt.2 hj
          have hd1 : decide ((j : Int) < (k : Int)) = true := decide_eq_true hlt2
          have hd2 : decide ((j : Int) < 7) = true := decide_eq_true hj2
          have hbytes : (j + 1) * 48 ≤ 140737488355328 := by omega
          have c2 := HI.out.1.at' (j := 2) rfl
          have kc := HI.out.2.2.1.at' (rmKeys_at j hj)
          obtain ⟨t, ht⟩ : ∃ t, keyM j = t := ⟨_, rfl⟩
          rw [ht] at kc
          have HS := Lib.hid (show rmL (j + 1) = rmL j ++ [⟨1, 0, t, rmV⟩] by rw [rmL_snoc, rmR, ht])
          clear ht
          have c2a := (HI.out.alloc (Obj.cells #[.int .i64 1, .int .i64 0, .string t, .string ⟨#[118]⟩] 25)).1.at' (j := 2) rfl
          have kca : (wr.alloc (Obj.cells #[.int .i64 1, .int .i64 0, .string t, .string ⟨#[118]⟩] 25)).cell? ⟨w0.heap.size + 1, j, none⟩ = some (.string t) := (((Bl.alloc (Below.refl wr.heap.size wr) (Obj.cells #[.int .i64 1, .int .i64 0, .string t, .string ⟨#[118]⟩] 25)).cell (World.block_lt_of_cell? _ _ kc)).trans kc)
          have BN := Lib.hid (fun (a1 a2 a3 a4 : Value) (ty : TypeId) => show Bx (wr.alloc (Obj.cells #[a1, a2, a3, a4] ty)).drew wr.heap.size a1 a2 a3 a4 from (Bx.new wr a1 a2 a3 a4 ty).below (Bl.self _ 1))
          go_wp2_with fail
          go_region_law (refine stepO w0.heap.size rfl (.tmp 44) (.tmp 50) 22 25 (.agg #[.int .i64 0, .int .i64 0, .string ⟨#[]⟩, .string ⟨#[]⟩]) 4 48 rfl Try.underlying22 infoRecX rfl (by decide) (by decide) (.slice R1 j R2) j (flat (rmL j)) (by simp [Act.eval, Act.put]) (some ⟨wr.heap.size, 0, none⟩) 1 1 [.int .i64 1, .int .i64 0, .string t, .string ⟨#[118]⟩] (by simp [Act.eval, Act.put]) rfl (cellsR_one ⟨1, 0, t, ⟨#[118]⟩⟩) (fun h => by cases h) (box4 (BN.out _ _ _ _ _)) (HI.out.alloc (Obj.cells #[.int .i64 1, .int .i64 0, .string t, .string ⟨#[118]⟩] 25)).drew.2.1 (HI.out.alloc (Obj.cells #[.int .i64 1, .int .i64 0, .string t, .string ⟨#[118]⟩] 25)).drew.2.2.2.2 hbytes ?_; intro v3 w4 ho hgw ha; have ST := (HI.out.alloc (Obj.cells #[.int .i64 1, .int .i64 0, .string t, .string ⟨#[118]⟩] 25)).drew.step (R' := v3) hgw (by rw [HS.out, flat_snoc]; exact ho); have J2 := Lib.hid ST.1; have z3' := ST.2.1; have y3' := ST.2.2; obtain ⟨D3, c3, hv3⟩ := ho.slice; subst hv3; clear ho hgw ha ST)
          all_goals
            go_wp2_with fail
            go_roundw
            case rel => exact ⟨j + 1, .slice D3 (j + 1) c3, hlt, hj, by first | go_num | rfl, J2.out⟩
            case measure => clear hd1 hd2; simp [intOf]; omega
        · obtain rfl : j = k := Nat.le_antisymm hjk (Nat.not_lt.1 hlt)
          have hd1 : decide ((j : Int) < (j : Int)) = false := decide_eq_false (Int.lt_irrefl _)
          have a0 := HI.out.1.at' (j := 0) rfl
          have a1 := HI.out.1.at' (j := 1) rfl
          have a2 := HI.out.1.at' (j := 2) rfl
          have a3 := HI.out.1.at' (j := 3) rfl
          have ROW := Lib.hid (RdR.own HI.out.2.1)
          have BW := Lib.hid (Bl.then HB0.out HI.out.2.2.2.1)
          have C := Lib.hid (CH.out 1048576 8 wr (.slice R1 j R2) ROW.out)
          have V2 := Lib.hid HI.out.1
          clear CH HI
          go_wp2_with fail
          with_reducible refine C.out.mono ?_
          rintro e w5 ⟨q5, rfl, oq, hb⟩
          have hok := OK.out 1048576 8 (by decide) (by decide) (by decide)
          have B5 := Lib.hid (Bl.then BW.out hb)
          have V5 := Lib.hid (V2.out.below hb)
          clear hb C a0 a1 a2 a3 ROW BW V2
          by_cases h7 : j = 7
          · have hch := chL_full hok (rm_no _) (by show 7 < (putL (buildL (rmL j)) rmZ).length; rw [LEN.out]; show 7 < j + 1; omega)
            have d7 : ((j : Int) == 7) = true := by rw [h7]; rfl
            clear h7 hjk hj7 hlt
            rw [hch] at oq ⊢
            obtain ⟨S, sc, R, rc, rfl⟩ := zeroPl_form oq
            have X5 := Lib.hid (Own.arr w5 #[.int .i64 0, .int .i64 0, .slice S 0 sc, .slice R 0 rc, .int .i64 0, .int .i64 0] 60 6 rfl (by decide))
            have B6 := Lib.hid (Bl.alloc B5.out (Obj.cells #[.int .i64 0, .int .i64 0, .slice S 0 sc, .slice R 0 rc, .int .i64 0, .int .i64 0] 60))
            have y0 := X5.out.at' (j := 0) rfl
            have y1 := X5.out.at' (j := 1) rfl
            have y2 := X5.out.at' (j := 2) rfl
            have y3 := X5.out.at' (j := 3) rfl
            have y4 := X5.out.at' (j := 4) rfl
            have y5 := X5.out.at' (j := 5) rfl
            clear oq hok OK LEN hch
            go_wp2_with (go_at_call 22; refine (num_any _ _).mono ?_; rintro e w' ⟨rfl, rfl⟩)
            go_ret
            exact ⟨rfl, B6.out⟩
          · have hnl : ¬ 7 < (putL (buildL (rmL j)) rmZ).length := by rw [LEN.out]; show ¬ 7 < j + 1; omega
            have d7 : ((j : Int) == 7) = false := by rw [beq_eq_false_iff_ne]; omega
            have hch := chL_end hok (rm_no _) hnl (by show ¬ (8 : Int) < 8; decide) rfl
            clear h7 hjk hj7 hlt hnl
            rw [hch] at oq ⊢
            obtain ⟨S, sc, R, rc, rfl⟩ := zeroPl_form oq
            have X5 := Lib.hid (Own.arr w5 #[.int .i64 0, .int .i64 0, .slice S 0 sc, .slice R 0 rc, .int .i64 0, .int .i64 0] 60 6 rfl (by decide))
            have B6 := Lib.hid (Bl.alloc B5.out (Obj.cells #[.int .i64 0, .int .i64 0, .slice S 0 sc, .slice R 0 rc, .int .i64 0, .int .i64 0] 60))
            have y0 := X5.out.at' (j := 0) rfl
            have y1 := X5.out.at' (j := 1) rfl
            have y2 := X5.out.at' (j := 2) rfl
            have y3 := X5.out.at' (j := 3) rfl
            have y4 := X5.out.at' (j := 4) rfl
            have y5 := X5.out.at' (j := 5) rfl
            clear oq hok OK LEN hch
            go_wp2_with (go_at_call 22; refine (num_any _ _).mono ?_; rintro e w' ⟨rfl, rfl⟩)
            go_ret
            exact ⟨rfl, B6.out⟩
    | false =>
      go_wp2_with fail
      (try simp only [hk, hs, hws])
      clear hk hs hws
      have b2 := Bl.alloc (Bl.alloc (Below.refl w0.heap.size w0) (Obj.cells #[.bool true, .int .i64 5, .slice none 0 0, .int .i64 8] 57)) (Obj.cells #[.string ⟨#[97]⟩, .string ⟨#[98]⟩, .string ⟨#[99]⟩, .string ⟨#[100]⟩, .string ⟨#[101]⟩, .string ⟨#[102]⟩, .string ⟨#[103]⟩] 9)
      have kb := Own.arr (w0.alloc (Obj.cells #[.bool true, .int .i64 5, .slice none 0 0, .int .i64 8] 57)) #[.string ⟨#[97]⟩, .string ⟨#[98]⟩, .string ⟨#[99]⟩, .string ⟨#[100]⟩, .string ⟨#[101]⟩, .string ⟨#[102]⟩, .string ⟨#[103]⟩] 9 7 rfl (by decide)
      rw [show (w0.alloc (Obj.cells #[.bool true, .int .i64 5, .slice none 0 0, .int .i64 8] 57)).heap.size = w0.heap.size + 1 by simp] at kb
      have I0 := Lib.hid (show VIn w0 w0.heap.size true 5 8 (.slice none 0 0) 0 ((w0.alloc (Obj.cells #[.bool true, .int .i64 5, .slice none 0 0, .int .i64 8] 57)).alloc (Obj.cells #[.string ⟨#[97]⟩, .string ⟨#[98]⟩, .string ⟨#[99]⟩, .string ⟨#[100]⟩, .string ⟨#[101]⟩, .string ⟨#[102]⟩, .string ⟨#[103]⟩] 9)) from ⟨(Own.arr w0 #[.bool true, .int .i64 5, .slice none 0 0, .int .i64 8] 57 4 rfl (by decide)).alloc _, Own.nil _ _ _ _, kb.lower (Nat.le_succ _), b2, b2.size⟩)
      clear b2 kb
      generalize ((w0.alloc (Obj.cells #[.bool true, .int .i64 5, .slice none 0 0, .int .i64 8] 57)).alloc (Obj.cells #[.string ⟨#[97]⟩, .string ⟨#[98]⟩, .string ⟨#[99]⟩, .string ⟨#[100]⟩, .string ⟨#[101]⟩, .string ⟨#[102]⟩, .string ⟨#[103]⟩] 9)) = wl at *
      have HWG := Lib.hid (rfl : w0.heap.size = w0.heap.size)
      go_loopw [13] (fun i wr => ∃ (j : Nat) (R : Value), j ≤ k ∧ j ≤ 7 ∧ i = .int .i64 (j : Int) ∧ VIn w0 w0.heap.size true 5 8 R j wr) (fun i _ => (k - intOf i).toNat)
      case atStart => exact ⟨0, _, Nat.zero_le _, Nat.zero_le _, rfl, I0.out⟩
      case round =>
        obtain ⟨j, R, hjk, hj7, rfl, hi⟩ := hrel
        obtain ⟨R1, R2, R3⟩ : ∃ A c, R = .slice A j c := hi.2.1.slice
        subst R3
        have HI := Lib.hid hi
        clear hi I0
        by_cases hlt : j < k
        · have hlt2 : (j : Int) < (k : Int) := Int.ofNat_lt.2 hlt
          have hj : j < 7 := Nat.lt_of_lt_of_le hlt (Nat.le_of_lt_succ HK8.out)
          have hj2 : (j : Int) < 7 := Int.ofNat_lt.2 hj
          have hd1 : decide ((j : Int) < (k : Int)) = true := decide_eq_true hlt2
          have hd2 : decide ((j : Int) < 7) = true := decide_eq_true hj2
          have hbytes : (j + 1) * 48 ≤ 140737488355328 := by omega
          have c2 := HI.out.1.at' (j := 2) rfl
          have kc := HI.out.2.2.1.at' (rmKeys_at j hj)
          obtain ⟨t, ht⟩ : ∃ t, keyM j = t := ⟨_, rfl⟩
          rw [ht] at kc
          have HS := Lib.hid (show rmL (j + 1) = rmL j ++ [⟨1, 0, t, rmV⟩] by rw [rmL_snoc, rmR, ht])
          clear ht
          have c2a := (HI.out.alloc (Obj.cells #[.int .i64 1, .int .i64 0, .string t, .string ⟨#[118]⟩] 25)).1.at' (j := 2) rfl
          have kca : (wr.alloc (Obj.cells #[.int .i64 1, .int .i64 0, .string t, .string ⟨#[118]⟩] 25)).cell? ⟨w0.heap.size + 1, j, none⟩ = some (.string t) := (((Bl.alloc (Below.refl wr.heap.size wr) (Obj.cells #[.int .i64 1, .int .i64 0, .string t, .string ⟨#[118]⟩] 25)).cell (World.block_lt_of_cell? _ _ kc)).trans kc)
          have BN := Lib.hid (fun (a1 a2 a3 a4 : Value) (ty : TypeId) => show Bx (wr.alloc (Obj.cells #[a1, a2, a3, a4] ty)).drew wr.heap.size a1 a2 a3 a4 from (Bx.new wr a1 a2 a3 a4 ty).below (Bl.self _ 1))
          go_wp2_with fail
          go_region_law (refine stepO w0.heap.size rfl (.tmp 44) (.tmp 50) 22 25 (.agg #[.int .i64 0, .int .i64 0, .string ⟨#[]⟩, .string ⟨#[]⟩]) 4 48 rfl Try.underlying22 infoRecX rfl (by decide) (by decide) (.slice R1 j R2) j (flat (rmL j)) (by simp [Act.eval, Act.put]) (some ⟨wr.heap.size, 0, none⟩) 1 1 [.int .i64 1, .int .i64 0, .string t, .string ⟨#[118]⟩] (by simp [Act.eval, Act.put]) rfl (cellsR_one ⟨1, 0, t, ⟨#[118]⟩⟩) (fun h => by cases h) (box4 (BN.out _ _ _ _ _)) (HI.out.alloc (Obj.cells #[.int .i64 1, .int .i64 0, .string t, .string ⟨#[118]⟩] 25)).drew.2.1 (HI.out.alloc (Obj.cells #[.int .i64 1, .int .i64 0, .string t, .string ⟨#[118]⟩] 25)).drew.2.2.2.2 hbytes ?_; intro v3 w4 ho hgw ha; have ST := (HI.out.alloc (Obj.cells #[.int .i64 1, .int .i64 0, .string t, .string ⟨#[118]⟩] 25)).drew.step (R' := v3) hgw (by rw [HS.out, flat_snoc]; exact ho); have J2 := Lib.hid ST.1; have z3' := ST.2.1; have y3' := ST.2.2; obtain ⟨D3, c3, hv3⟩ := ho.slice; subst hv3; clear ho hgw ha ST)
          all_goals
            go_wp2_with fail
            go_roundw
            case rel => exact ⟨j + 1, .slice D3 (j + 1) c3, hlt, hj, by first | go_num | rfl, J2.out⟩
            case measure => clear hd1 hd2; simp [intOf]; omega
        · obtain rfl : j = k := Nat.le_antisymm hjk (Nat.not_lt.1 hlt)
          have hd1 : decide ((j : Int) < (j : Int)) = false := decide_eq_false (Int.lt_irrefl _)
          have a0 := HI.out.1.at' (j := 0) rfl
          have a1 := HI.out.1.at' (j := 1) rfl
          have a2 := HI.out.1.at' (j := 2) rfl
          have a3 := HI.out.1.at' (j := 3) rfl
          have ROW := Lib.hid (RdR.own HI.out.2.1)
          have BW := Lib.hid (Bl.then HB0.out HI.out.2.2.2.1)
          have C := Lib.hid (CH.out 5 8 wr (.slice R1 j R2) ROW.out)
          have V2 := Lib.hid HI.out.1
          clear CH HI
          go_wp2_with fail
          with_reducible refine C.out.mono ?_
          rintro e w5 ⟨q5, rfl, oq, hb⟩
          have hok := OK.out 5 8 (by decide) (by decide) (by decide)
          have B5 := Lib.hid (Bl.then BW.out hb)
          have V5 := Lib.hid (V2.out.below hb)
          clear hb C a0 a1 a2 a3 ROW BW V2
          by_cases h7 : j = 7
          · have hch := chL_full hok (rm_no _) (by show 7 < (putL (buildL (rmL j)) rmZ).length; rw [LEN.out]; show 7 < j + 1; omega)
            have d7 : ((j : Int) == 7) = true := by rw [h7]; rfl
            clear h7 hjk hj7 hlt
            rw [hch] at oq ⊢
            obtain ⟨S, sc, R, rc, rfl⟩ := zeroPl_form oq
            have X5 := Lib.hid (Own.arr w5 #[.int .i64 0, .int .i64 0, .slice S 0 sc, .slice R 0 rc, .int .i64 0, .int .i64 0] 60 6 rfl (by decide))
            have B6 := Lib.hid (Bl.alloc B5.out (Obj.cells #[.int .i64 0, .int .i64 0, .slice S 0 sc, .slice R 0 rc, .int .i64 0, .int .i64 0] 60))
            have y0 := X5.out.at' (j := 0) rfl
            have y1 := X5.out.at' (j := 1) rfl
            have y2 := X5.out.at' (j := 2) rfl
            have y3 := X5.out.at' (j := 3) rfl
            have y4 := X5.out.at' (j := 4) rfl
            have y5 := X5.out.at' (j := 5) rfl
            clear oq hok OK LEN hch
            go_wp2_with (go_at_call 22; refine (num_any _ _).mono ?_; rintro e w' ⟨rfl, rfl⟩)
            go_ret
            exact ⟨rfl, B6.out⟩
          · have hnl : ¬ 7 < (putL (buildL (rmL j)) rmZ).length := by rw [LEN.out]; show ¬ 7 < j + 1; omega
            have d7 : ((j : Int) == 7) = false := by rw [beq_eq_false_iff_ne]; omega
            have hch := chL_moved hok (rm_no _) hnl (by show ¬ (8 : Int) < 8; decide) (by show ¬ (5 : Int) = 1048576; decide)
            obtain ⟨T, hT⟩ : ∃ T, putL (buildL (rmL j)) rmZ = T := ⟨_, rfl⟩
            have hTl : T.length = j + 1 := by rw [← hT]; exact LEN.out
            simp only at hch
            rw [hT] at hch
            rw [hch] at oq ⊢
            have hmv : movedP (nextS (4 + s)) (5 + 1) T = ⟨nextS (4 + s), nextS (4 + s), onesN (j + 1) ++ [0], T.map recP ++ [⟨0, 6, nilB, nilB⟩], (j : Int) + 2, 6⟩ := by rw [movedP, hTl, show (1 + ((j + 1 : Nat) : Int)) = (j : Int) + 2 by omega]; rfl
            rw [hmv] at oq
            have hl1 : (onesN (j + 1) ++ [0]).length = j + 2 := by rw [List.length_append, onesN_len]; rfl
            have hl2 : (T.map recP ++ [(⟨0, 6, nilB, nilB⟩ : RecV)]).length = j + 2 := by rw [List.length_append, List.length_map, hTl]; rfl
            obtain ⟨S, R, rfl, os, orr⟩ := oq
            simp only at os orr ⊢
            rw [hl1] at os
            rw [hl2] at orr
            obtain ⟨gs, s1, rfl, hgs, _, _, _⟩ := os.form (by omega)
            obtain ⟨R3, r3, rfl⟩ := orr.slice
            have sc := os.at' (ones_last (j + 1))
            obtain ⟨nx, hnx⟩ : ∃ nx, nextS (4 + s) = nx := ⟨_, rfl⟩
            rw [hnx]
            have X6 := Lib.hid (Own.arr w5 #[.int .i64 nx, .int .i64 nx, .slice (some ⟨gs, 0, none⟩) (j + 2) s1, .slice R3 (j + 2) r3, .int .i64 ((j : Int) + 2), .int .i64 6] 60 6 rfl (by decide))
            have sc6 : (w5.alloc (Obj.cells #[.int .i64 nx, .int .i64 nx, .slice (some ⟨gs, 0, none⟩) (j + 2) s1, .slice R3 (j + 2) r3, .int .i64 ((j : Int) + 2), .int .i64 6] 60)).cell? ⟨gs, j + 1, none⟩ = some (.int .i64 0) := ((Bl.alloc (Below.refl w5.heap.size w5) (Obj.cells #[.int .i64 nx, .int .i64 nx, .slice (some ⟨gs, 0, none⟩) (j + 2) s1, .slice R3 (j + 2) r3, .int .i64 ((j : Int) + 2), .int .i64 6] 60)).cell (World.block_lt_of_cell? _ _ sc)).trans sc
            have B6 := Lib.hid (Bl.alloc B5.out (Obj.cells #[.int .i64 nx, .int .i64 nx, .slice (some ⟨gs, 0, none⟩) (j + 2) s1, .slice R3 (j + 2) r3, .int .i64 ((j : Int) + 2), .int .i64 6] 60))
            have y0 := X6.out.at' (j := 0) rfl
            have y1 := X6.out.at' (j := 1) rfl
            have y2 := X6.out.at' (j := 2) rfl
            have y3 := X6.out.at' (j := 3) rfl
            have y4 := X6.out.at' (j := 4) rfl
            have y5 := X6.out.at' (j := 5) rfl
            have hs9 : s = 3 ∨ s ≠ 3 := by omega
            have hjj : (j : Int) + 1 < (j : Int) + 2 := by omega
            have HWW := Lib.hid (rm_w j s hj7 hs0 hs4)
            rcases hs9 with h9 | h9
            · have d9 : ((4 + s + 1) == (8 : Int)) = true := by rw [h9]; rfl
              obtain rfl : nx = 4 := by rw [← hnx, nextS, if_pos (by omega)]
              clear os orr hok OK LEN hch h7 hjk hlt hnl hT hTl hmv hl1 hl2 sc hnx h9 hgs
              obtain ⟨hw1, hw2, hw3⟩ := HWW.out
              clear HWW
              go_wp2_with (go_at_call 22; refine (num_any _ _).mono ?_; rintro e w' ⟨rfl, rfl⟩)
              go_ret
              exact ⟨rfl, B6.out⟩
            · have d9 : ((4 + s + 1) == (8 : Int)) = false := by rw [beq_eq_false_iff_ne]; omega
              obtain rfl : nx = 4 + s + 1 := by rw [← hnx, nextS, if_neg (by omega)]
              clear os orr hok OK LEN hch h7 hjk hlt hnl hT hTl hmv hl1 hl2 sc hnx h9 hgs
              obtain ⟨hw1, hw2, hw3⟩ := HWW.out
              clear HWW
              go_wp2_with (go_at_call 22; refine (num_any _ _).mono ?_; rintro e w' ⟨rfl, rfl⟩)
              go_ret
              exact ⟨rfl, B6.out⟩
  | false =>
    cases last with
    | true =>
      go_wp2_with fail
      (try simp only [hk, hs, hws])
      clear hk hs hws
      have b2 := Bl.alloc (Bl.alloc (Below.refl w0.heap.size w0) (Obj.cells #[.bool true, .int .i64 1048576, .slice none 0 0, .int .i64 7] 57)) (Obj.cells #[.string ⟨#[97]⟩, .string ⟨#[98]⟩, .string ⟨#[99]⟩, .string ⟨#[100]⟩, .string ⟨#[101]⟩, .string ⟨#[102]⟩, .string ⟨#[103]⟩] 9)
      have kb := Own.arr (w0.alloc (Obj.cells #[.bool true, .int .i64 1048576, .slice none 0 0, .int .i64 7] 57)) #[.string ⟨#[97]⟩, .string ⟨#[98]⟩, .string ⟨#[99]⟩, .string ⟨#[100]⟩, .string ⟨#[101]⟩, .string ⟨#[102]⟩, .string ⟨#[103]⟩] 9 7 rfl (by decide)
      rw [show (w0.alloc (Obj.cells #[.bool true, .int .i64 1048576, .slice none 0 0, .int .i64 7] 57)).heap.size = w0.heap.size + 1 by simp] at kb
      have I0 := Lib.hid (show VIn w0 w0.heap.size true 1048576 7 (.slice none 0 0) 0 ((w0.alloc (Obj.cells #[.bool true, .int .i64 1048576, .slice none 0 0, .int .i64 7] 57)).alloc (Obj.cells #[.string ⟨#[97]⟩, .string ⟨#[98]⟩, .string ⟨#[99]⟩, .string ⟨#[100]⟩, .string ⟨#[101]⟩, .string ⟨#[102]⟩, .string ⟨#[103]⟩] 9)) from ⟨(Own.arr w0 #[.bool true, .int .i64 1048576, .slice none 0 0, .int .i64 7] 57 4 rfl (by decide)).alloc _, Own.nil _ _ _ _, kb.lower (Nat.le_succ _), b2, b2.size⟩)
      clear b2 kb
      generalize ((w0.alloc (Obj.cells #[.bool true, .int .i64 1048576, .slice none 0 0, .int .i64 7] 57)).alloc (Obj.cells #[.string ⟨#[97]⟩, .string ⟨#[98]⟩, .string ⟨#[99]⟩, .string ⟨#[100]⟩, .string ⟨#[101]⟩, .string ⟨#[102]⟩, .string ⟨#[103]⟩] 9)) = wl at *
      have HWG := Lib.hid (rfl : w0.heap.size = w0.heap.size)
      go_loopw [13] (fun i wr => ∃ (j : Nat) (R : Value), j ≤ k ∧ j ≤ 7 ∧ i = .int .i64 (j : Int) ∧ VIn w0 w0.heap.size true 1048576 7 R j wr) (fun i _ => (k - intOf i).toNat)
      case atStart => exact ⟨0, _, Nat.zero_le _, Nat.zero_le _, rfl, I0.out⟩
      case round =>
        obtain ⟨j, R, hjk, hj7, rfl, hi⟩ := hrel
        obtain ⟨R1, R2, R3⟩ : ∃ A c, R = .slice A j c := hi.2.1.slice
        subst R3
        have HI := Lib.hid hi
        clear hi I0
        by_cases hlt : j < k
        · have hlt2 : (j : Int) < (k : Int) := Int.ofNat_lt.2 hlt
          have hj : j < 7 := Nat.lt_of_lt_of_le hlt (Nat.le_of_lt_succ HK8.out)
          have hj2 : (j : Int) < 7 := Int.ofNat_lt.2 hj
          have hd1 : decide ((j : Int) < (k : Int)) = true := decide_eq_true hlt2
          have hd2 : decide ((j : Int) < 7) = true := decide_eq_true hj2
          have hbytes : (j + 1) * 48 ≤ 140737488355328 := by omega
          have c2 := HI.out.1.at' (j := 2) rfl
          have kc := HI.out.2.2.1.at' (rmKeys_at j hj)
          obtain ⟨t, ht⟩ : ∃ t, keyM j = t := ⟨_, rfl⟩
          rw [ht] at kc
          have HS := Lib.hid (show rmL (j + 1) = rmL j ++ [⟨1, 0, t, rmV⟩] by rw [rmL_snoc, rmR, ht])
          clear ht
          have c2a := (HI.out.alloc (Obj.cells #[.int .i64 1, .int .i64 0, .string t, .string ⟨#[118]⟩] 25)).1.at' (j := 2) rfl
          have kca : (wr.alloc (Obj.cells #[.int .i64 1, .int .i64 0, .string t, .string ⟨#[118]⟩] 25)).cell? ⟨w0.heap.size + 1, j, none⟩ = some (.string t) := (((Bl.alloc (Below.refl wr.heap.size wr) (Obj.cells #[.int .i64 1, .int .i64 0, .string t, .string ⟨#[118]⟩] 25)).cell (World.block_lt_of_cell? _ _ kc)).trans kc)
          have BN := Lib.hid (fun (a1 a2 a3 a4 : Value) (ty : TypeId) => show Bx (wr.alloc (Obj.cells #[a1, a2, a3, a4] ty)).drew wr.heap.size a1 a2 a3 a4 from (Bx.new wr a1 a2 a3 a4 ty).below (Bl.self _ 1))
          go_wp2_with fail
          go_region_law (refine stepO w0.heap.size rfl (.tmp 44) (.tmp 50) 22 25 (.agg #[.int .i64 0, .int .i64 0, .string ⟨#[]⟩, .string ⟨#[]⟩]) 4 48 rfl Try.underlying22 infoRecX rfl (by decide) (by decide) (.slice R1 j R2) j (flat (rmL j)) (by simp [Act.eval, Act.put]) (some ⟨wr.heap.size, 0, none⟩) 1 1 [.int .i64 1, .int .i64 0, .string t, .string ⟨#[118]⟩] (by simp [Act.eval, Act.put]) rfl (cellsR_one ⟨1, 0, t, ⟨#[118]⟩⟩) (fun h => by cases h) (box4 (BN.out _ _ _ _ _)) (HI.out.alloc (Obj.cells #[.int .i64 1, .int .i64 0, .string t, .string ⟨#[118]⟩] 25)).drew.2.1 (HI.out.alloc (Obj.cells #[.int .i64 1, .int .i64 0, .string t, .string ⟨#[118]⟩] 25)).drew.2.2.2.2 hbytes ?_; intro v3 w4 ho hgw ha; have ST := (HI.out.alloc (Obj.cells #[.int .i64 1, .int .i64 0, .string t, .string ⟨#[118]⟩] 25)).drew.step (R' := v3) hgw (by rw [HS.out, flat_snoc]; exact ho); have J2 := Lib.hid ST.1; have z3' := ST.2.1; have y3' := ST.2.2; obtain ⟨D3, c3, hv3⟩ := ho.slice; subst hv3; clear ho hgw ha ST)
          all_goals
            go_wp2_with fail
            go_roundw
            case rel => exact ⟨j + 1, .slice D3 (j + 1) c3, hlt, hj, by first | go_num | rfl, J2.out⟩
            case measure => clear hd1 hd2; simp [intOf]; omega
        · obtain rfl : j = k := Nat.le_antisymm hjk (Nat.not_lt.1 hlt)
          have hd1 : decide ((j : Int) < (j : Int)) = false := decide_eq_false (Int.lt_irrefl _)
          have a0 := HI.out.1.at' (j := 0) rfl
          have a1 := HI.out.1.at' (j := 1) rfl
          have a2 := HI.out.1.at' (j := 2) rfl
          have a3 := HI.out.1.at' (j := 3) rfl
          have ROW := Lib.hid (RdR.own HI.out.2.1)
          have BW := Lib.hid (Bl.then HB0.out HI.out.2.2.2.1)
          have C := Lib.hid (CH.out 1048576 7 wr (.slice R1 j R2) ROW.out)
          have V2 := Lib.hid HI.out.1
          clear CH HI
          go_wp2_with fail
          with_reducible refine C.out.mono ?_
          rintro e w5 ⟨q5, rfl, oq, hb⟩
          have hok := OK.out 1048576 7 (by decide) (by decide) (by decide)
          have B5 := Lib.hid (Bl.then BW.out hb)
          have V5 := Lib.hid (V2.out.below hb)
          clear hb C a0 a1 a2 a3 ROW BW V2
          by_cases h7 : j = 7
          · have hch := chL_full hok (rm_no _) (by show 7 < (putL (buildL (rmL j)) rmZ).length; rw [LEN.out]; show 7 < j + 1; omega)
            have d7 : ((j : Int) == 7) = true := by rw [h7]; rfl
            clear h7 hjk hj7 hlt
            rw [hch] at oq ⊢
            obtain ⟨S, sc, R, rc, rfl⟩ := zeroPl_form oq
            have X5 := Lib.hid (Own.arr w5 #[.int .i64 0, .int .i64 0, .slice S 0 sc, .slice R 0 rc, .int .i64 0, .int .i64 0] 60 6 rfl (by decide))
            have B6 := Lib.hid (Bl.alloc B5.out (Obj.cells #[.int .i64 0, .int .i64 0, .slice S 0 sc, .slice R 0 rc, .int .i64 0, .int .i64 0] 60))
            have y0 := X5.out.at' (j := 0) rfl
            have y1 := X5.out.at' (j := 1) rfl
            have y2 := X5.out.at' (j := 2) rfl
            have y3 := X5.out.at' (j := 3) rfl
            have y4 := X5.out.at' (j := 4) rfl
            have y5 := X5.out.at' (j := 5) rfl
            clear oq hok OK LEN hch
            go_wp2_with (go_at_call 22; refine (num_any _ _).mono ?_; rintro e w' ⟨rfl, rfl⟩)
            go_ret
            exact ⟨rfl, B6.out⟩
          · have hnl : ¬ 7 < (putL (buildL (rmL j)) rmZ).length := by rw [LEN.out]; show ¬ 7 < j + 1; omega
            have d7 : ((j : Int) == 7) = false := by rw [beq_eq_false_iff_ne]; omega
            have hch := chL_slot hok (rm_no _) hnl (by show (7 : Int) < 8; decide)
            simp only at hch
            rw [hch] at oq ⊢
            obtain ⟨S, R, rfl, os, orr⟩ := oq
            obtain ⟨S1, s1, rfl⟩ := (show ∃ A c, S = .slice A 1 c from os.slice)
            obtain ⟨R3, r3, rfl⟩ := (show ∃ A c, R = .slice A 1 c from orr.slice)
            have SR := Rd.ownP (show Own w5 wr.heap.size 3 1 (.slice S1 1 s1) 1 (nums [7]) from os)
            have X6 := Lib.hid (Own.arr w5 #[.int .i64 (-1), .int .i64 (4 + s), .slice S1 1 s1, .slice R3 1 r3, .int .i64 8, .int .i64 1048576] 60 6 rfl (by decide))
            have S6 := Lib.hid ((SR.below (Bl.alloc (Below.refl _ _) (Obj.cells #[.int .i64 (-1), .int .i64 (4 + s), .slice S1 1 s1, .slice R3 1 r3, .int .i64 8, .int .i64 1048576] 60))).below (Bl.alloc (Below.refl _ _) (Obj.cells #[.int .i64 7] 3)))
            have t6 := Own.int1 (w5.alloc (Obj.cells #[.int .i64 (-1), .int .i64 (4 + s), .slice S1 1 s1, .slice R3 1 r3, .int .i64 8, .int .i64 1048576] 60)) 7
            rw [show (w5.alloc (Obj.cells #[.int .i64 (-1), .int .i64 (4 + s), .slice S1 1 s1, .slice R3 1 r3, .int .i64 8, .int .i64 1048576] 60)).heap.size = w5.heap.size + 1 by simp] at t6
            have T6 := Lib.hid (show Rd ((w5.alloc (Obj.cells #[.int .i64 (-1), .int .i64 (4 + s), .slice S1 1 s1, .slice R3 1 r3, .int .i64 8, .int .i64 1048576] 60)).alloc (Obj.cells #[.int .i64 7] 3)) (.slice (some ⟨w5.heap.size + 1, 0, none⟩) 1 1) [7] from Rd.ownP t6)
            have B6 := Lib.hid (Bl.alloc (Bl.alloc B5.out (Obj.cells #[.int .i64 (-1), .int .i64 (4 + s), .slice S1 1 s1, .slice R3 1 r3, .int .i64 8, .int .i64 1048576] 60)) (Obj.cells #[.int .i64 7] 3))
            have V6 := Lib.hid ((V5.out.alloc (Obj.cells #[.int .i64 (-1), .int .i64 (4 + s), .slice S1 1 s1, .slice R3 1 r3, .int .i64 8, .int .i64 1048576] 60)).alloc (Obj.cells #[.int .i64 7] 3))
            have X7 := Lib.hid (X6.out.alloc (Obj.cells #[.int .i64 7] 3))
            have SI := Lib.hid (same_ints _ _ [7] [7] _ S6.out T6.out)
            rw [show (([7] : List Int) == [7]) = true from rfl] at SI
            have y0 := X6.out.at' (j := 0) rfl
            have y1 := X6.out.at' (j := 1) rfl
            have y2 := X6.out.at' (j := 2) rfl
            have y4 := X7.out.at' (j := 4) rfl
            have y5 := X7.out.at' (j := 5) rfl
            have a1 := V6.out.at' (j := 1) rfl
            clear os orr SR t6 hok OK LEN hch h7 hjk hj7 hlt hnl
            skip
            go_wp2_with (first | (go_at_call 22; refine (num_any _ _).mono ?_; rintro e w' ⟨rfl, rfl⟩) | (go_at_call 34; refine SI.out.mono ?_; rintro e w' ⟨rfl, z8, rfl⟩))
            go_ret
            exact ⟨rfl, Bl.drewN B6.out _⟩
    | false =>
      go_wp2_with fail
      (try simp only [hk, hs, hws])
      clear hk hs hws
      have b2 := Bl.alloc (Bl.alloc (Below.refl w0.heap.size w0) (Obj.cells #[.bool true, .int .i64 5, .slice none 0 0, .int .i64 7] 57)) (Obj.cells #[.string ⟨#[97]⟩, .string ⟨#[98]⟩, .string ⟨#[99]⟩, .string ⟨#[100]⟩, .string ⟨#[101]⟩, .string ⟨#[102]⟩, .string ⟨#[103]⟩] 9)
      have kb := Own.arr (w0.alloc (Obj.cells #[.bool true, .int .i64 5, .slice none 0 0, .int .i64 7] 57)) #[.string ⟨#[97]⟩, .string ⟨#[98]⟩, .string ⟨#[99]⟩, .string ⟨#[100]⟩, .string ⟨#[101]⟩, .string ⟨#[102]⟩, .string ⟨#[103]⟩] 9 7 rfl (by decide)
      rw [show (w0.alloc (Obj.cells #[.bool true, .int .i64 5, .slice none 0 0, .int .i64 7] 57)).heap.size = w0.heap.size + 1 by simp] at kb
      have I0 := Lib.hid (show VIn w0 w0.heap.size true 5 7 (.slice none 0 0) 0 ((w0.alloc (Obj.cells #[.bool true, .int .i64 5, .slice none 0 0, .int .i64 7] 57)).alloc (Obj.cells #[.string ⟨#[97]⟩, .string ⟨#[98]⟩, .string ⟨#[99]⟩, .string ⟨#[100]⟩, .string ⟨#[101]⟩, .string ⟨#[102]⟩, .string ⟨#[103]⟩] 9)) from ⟨(Own.arr w0 #[.bool true, .int .i64 5, .slice none 0 0, .int .i64 7] 57 4 rfl (by decide)).alloc _, Own.nil _ _ _ _, kb.lower (Nat.le_succ _), b2, b2.size⟩)
      clear b2 kb
      generalize ((w0.alloc (Obj.cells #[.bool true, .int .i64 5, .slice none 0 0, .int .i64 7] 57)).alloc (Obj.cells #[.string ⟨#[97]⟩, .string ⟨#[98]⟩, .string ⟨#[99]⟩, .string ⟨#[100]⟩, .string ⟨#[101]⟩, .string ⟨#[102]⟩, .string ⟨#[103]⟩] 9)) = wl at *
      have HWG := Lib.hid (rfl : w0.heap.size = w0.heap.size)
      go_loopw [13] (fun i wr => ∃ (j : Nat) (R : Value), j ≤ k ∧ j ≤ 7 ∧ i = .int .i64 (j : Int) ∧ VIn w0 w0.heap.size true 5 7 R j wr) (fun i _ => (k - intOf i).toNat)
      case atStart => exact ⟨0, _, Nat.zero_le _, Nat.zero_le _, rfl, I0.out⟩
      case round =>
        obtain ⟨j, R, hjk, hj7, rfl, hi⟩ := hrel
        obtain ⟨R1, R2, R3⟩ : ∃ A c, R = .slice A j c := hi.2.1.slice
        subst R3
        have HI := Lib.hid hi
        clear hi I0
        by_cases hlt : j < k
        · have hlt2 : (j : Int) < (k : Int) := Int.ofNat_lt.2 hlt
          have hj : j < 7 := Nat.lt_of_lt_of_le hlt (Nat.le_of_lt_succ HK8.out)
          have hj2 : (j : Int) < 7 := Int.ofNat_lt.2 hj
          have hd1 : decide ((j : Int) < (k : Int)) = true := decide_eq_true hlt2
          have hd2 : decide ((j : Int) < 7) = true := decide_eq_true hj2
          have hbytes : (j + 1) * 48 ≤ 140737488355328 := by omega
          have c2 := HI.out.1.at' (j := 2) rfl
          have kc := HI.out.2.2.1.at' (rmKeys_at j hj)
          obtain ⟨t, ht⟩ : ∃ t, keyM j = t := ⟨_, rfl⟩
          rw [ht] at kc
          have HS := Lib.hid (show rmL (j + 1) = rmL j ++ [⟨1, 0, t, rmV⟩] by rw [rmL_snoc, rmR, ht])
          clear ht
          have c2a := (HI.out.alloc (Obj.cells #[.int .i64 1, .int .i64 0, .string t, .string ⟨#[118]⟩] 25)).1.at' (j := 2) rfl
          have kca : (wr.alloc (Obj.cells #[.int .i64 1, .int .i64 0, .string t, .string ⟨#[118]⟩] 25)).cell? ⟨w0.heap.size + 1, j, none⟩ = some (.string t) := (((Bl.alloc (Below.refl wr.heap.size wr) (Obj.cells #[.int .i64 1, .int .i64 0, .string t, .string ⟨#[118]⟩] 25)).cell (World.block_lt_of_cell? _ _ kc)).trans kc)
          have BN := Lib.hid (fun (a1 a2 a3 a4 : Value) (ty : TypeId) => show Bx (wr.alloc (Obj.cells #[a1, a2, a3, a4] ty)).drew wr.heap.size a1 a2 a3 a4 from (Bx.new wr a1 a2 a3 a4 ty).below (Bl.self _ 1))
          go_wp2_with fail
          go_region_law (refine stepO w0.heap.size rfl (.tmp 44) (.tmp 50) 22 25 (.agg #[.int .i64 0, .int .i64 0, .string ⟨#[]⟩, .string ⟨#[]⟩]) 4 48 rfl Try.underlying22 infoRecX rfl (by decide) (by decide) (.slice R1 j R2) j (flat (rmL j)) (by simp [Act.eval, Act.put]) (some ⟨wr.heap.size, 0, none⟩) 1 1 [.int .i64 1, .int .i64 0, .string t, .string ⟨#[118]⟩] (by simp [Act.eval, Act.put]) rfl (cellsR_one ⟨1, 0, t, ⟨#[118]⟩⟩) (fun h => by cases h) (box4 (BN.out _ _ _ _ _)) (HI.out.alloc (Obj.cells #[.int .i64 1, .int .i64 0, .string t, .string ⟨#[118]⟩] 25)).drew.2.1 (HI.out.alloc (Obj.cells #[.int .i64 1, .int .i64 0, .string t, .string ⟨#[118]⟩] 25)).drew.2.2.2.2 hbytes ?_; intro v3 w4 ho hgw ha; have ST := (HI.out.alloc (Obj.cells #[.int .i64 1, .int .i64 0, .string t, .string ⟨#[118]⟩] 25)).drew.step (R' := v3) hgw (by rw [HS.out, flat_snoc]; exact ho); have J2 := Lib.hid ST.1; have z3' := ST.2.1; have y3' := ST.2.2; obtain ⟨D3, c3, hv3⟩ := ho.slice; subst hv3; clear ho hgw ha ST)
          all_goals
            go_wp2_with fail
            go_roundw
            case rel => exact ⟨j + 1, .slice D3 (j + 1) c3, hlt, hj, by first | go_num | rfl, J2.out⟩
            case measure => clear hd1 hd2; simp [intOf]; omega
        · obtain rfl : j = k := Nat.le_antisymm hjk (Nat.not_lt.1 hlt)
          have hd1 : decide ((j : Int) < (j : Int)) = false := decide_eq_false (Int.lt_irrefl _)
          have a0 := HI.out.1.at' (j := 0) rfl
          have a1 := HI.out.1.at' (j := 1) rfl
          have a2 := HI.out.1.at' (j := 2) rfl
          have a3 := HI.out.1.at' (j := 3) rfl
          have ROW := Lib.hid (RdR.own HI.out.2.1)
          have BW := Lib.hid (Bl.then HB0.out HI.out.2.2.2.1)
          have C := Lib.hid (CH.out 5 7 wr (.slice R1 j R2) ROW.out)
          have V2 := Lib.hid HI.out.1
          clear CH HI
          go_wp2_with fail
          with_reducible refine C.out.mono ?_
          rintro e w5 ⟨q5, rfl, oq, hb⟩
          have hok := OK.out 5 7 (by decide) (by decide) (by decide)
          have B5 := Lib.hid (Bl.then BW.out hb)
          have V5 := Lib.hid (V2.out.below hb)
          clear hb C a0 a1 a2 a3 ROW BW V2
          by_cases h7 : j = 7
          · have hch := chL_full hok (rm_no _) (by show 7 < (putL (buildL (rmL j)) rmZ).length; rw [LEN.out]; show 7 < j + 1; omega)
            have d7 : ((j : Int) == 7) = true := by rw [h7]; rfl
            clear h7 hjk hj7 hlt
            rw [hch] at oq ⊢
            obtain ⟨S, sc, R, rc, rfl⟩ := zeroPl_form oq
            have X5 := Lib.hid (Own.arr w5 #[.int .i64 0, .int .i64 0, .slice S 0 sc, .slice R 0 rc, .int .i64 0, .int .i64 0] 60 6 rfl (by decide))
            have B6 := Lib.hid (Bl.alloc B5.out (Obj.cells #[.int .i64 0, .int .i64 0, .slice S 0 sc, .slice R 0 rc, .int .i64 0, .int .i64 0] 60))
            have y0 := X5.out.at' (j := 0) rfl
            have y1 := X5.out.at' (j := 1) rfl
            have y2 := X5.out.at' (j := 2) rfl
            have y3 := X5.out.at' (j := 3) rfl
            have y4 := X5.out.at' (j := 4) rfl
            have y5 := X5.out.at' (j := 5) rfl
            clear oq hok OK LEN hch
            go_wp2_with (go_at_call 22; refine (num_any _ _).mono ?_; rintro e w' ⟨rfl, rfl⟩)
            go_ret
            exact ⟨rfl, B6.out⟩
          · have hnl : ¬ 7 < (putL (buildL (rmL j)) rmZ).length := by rw [LEN.out]; show ¬ 7 < j + 1; omega
            have d7 : ((j : Int) == 7) = false := by rw [beq_eq_false_iff_ne]; omega
            have hch := chL_slot hok (rm_no _) hnl (by show (7 : Int) < 8; decide)
            simp only at hch
            rw [hch] at oq ⊢
            obtain ⟨S, R, rfl, os, orr⟩ := oq
            obtain ⟨S1, s1, rfl⟩ := (show ∃ A c, S = .slice A 1 c from os.slice)
            obtain ⟨R3, r3, rfl⟩ := (show ∃ A c, R = .slice A 1 c from orr.slice)
            have SR := Rd.ownP (show Own w5 wr.heap.size 3 1 (.slice S1 1 s1) 1 (nums [7]) from os)
            have X6 := Lib.hid (Own.arr w5 #[.int .i64 (-1), .int .i64 (4 + s), .slice S1 1 s1, .slice R3 1 r3, .int .i64 8, .int .i64 5] 60 6 rfl (by decide))
            have S6 := Lib.hid ((SR.below (Bl.alloc (Below.refl _ _) (Obj.cells #[.int .i64 (-1), .int .i64 (4 + s), .slice S1 1 s1, .slice R3 1 r3, .int .i64 8, .int .i64 5] 60))).below (Bl.alloc (Below.refl _ _) (Obj.cells #[.int .i64 7] 3)))
            have t6 := Own.int1 (w5.alloc (Obj.cells #[.int .i64 (-1), .int .i64 (4 + s), .slice S1 1 s1, .slice R3 1 r3, .int .i64 8, .int .i64 5] 60)) 7
            rw [show (w5.alloc (Obj.cells #[.int .i64 (-1), .int .i64 (4 + s), .slice S1 1 s1, .slice R3 1 r3, .int .i64 8, .int .i64 5] 60)).heap.size = w5.heap.size + 1 by simp] at t6
            have T6 := Lib.hid (show Rd ((w5.alloc (Obj.cells #[.int .i64 (-1), .int .i64 (4 + s), .slice S1 1 s1, .slice R3 1 r3, .int .i64 8, .int .i64 5] 60)).alloc (Obj.cells #[.int .i64 7] 3)) (.slice (some ⟨w5.heap.size + 1, 0, none⟩) 1 1) [7] from Rd.ownP t6)
            have B6 := Lib.hid (Bl.alloc (Bl.alloc B5.out (Obj.cells #[.int .i64 (-1), .int .i64 (4 + s), .slice S1 1 s1, .slice R3 1 r3, .int .i64 8, .int .i64 5] 60)) (Obj.cells #[.int .i64 7] 3))
            have V6 := Lib.hid ((V5.out.alloc (Obj.cells #[.int .i64 (-1), .int .i64 (4 + s), .slice S1 1 s1, .slice R3 1 r3, .int .i64 8, .int .i64 5] 60)).alloc (Obj.cells #[.int .i64 7] 3))
            have X7 := Lib.hid (X6.out.alloc (Obj.cells #[.int .i64 7] 3))
            have SI := Lib.hid (same_ints _ _ [7] [7] _ S6.out T6.out)
            rw [show (([7] : List Int) == [7]) = true from rfl] at SI
            have y0 := X6.out.at' (j := 0) rfl
            have y1 := X6.out.at' (j := 1) rfl
            have y2 := X6.out.at' (j := 2) rfl
            have y4 := X7.out.at' (j := 4) rfl
            have y5 := X7.out.at' (j := 5) rfl
            have a1 := V6.out.at' (j := 1) rfl
            clear os orr SR t6 hok OK LEN hch h7 hjk hj7 hlt hnl
            skip
            go_wp2_with (first | (go_at_call 22; refine (num_any _ _).mono ?_; rintro e w' ⟨rfl, rfl⟩) | (go_at_call 34; refine SI.out.mono ?_; rintro e w' ⟨rfl, z8, rfl⟩))
            go_ret
            exact ⟨rfl, Bl.drewN B6.out _⟩
end Go.Proofs.Ytdgnpoapkjoknaa
