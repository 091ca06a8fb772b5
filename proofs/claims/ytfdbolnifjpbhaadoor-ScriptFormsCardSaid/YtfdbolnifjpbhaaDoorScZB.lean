/- Acts that are alike are told alike. -/
import Derived.Test.YtfdbolnifjpbhaaDoorScZA
import Derived.Test.YtfdbolnifjpbhaaDoorQf
import Derived.BigQuiet
namespace Go.Proofs.YtfdbolnifjpbhaaDoor
set_option linter.unusedVariables false
set_option linter.unusedSimpArgs false
open Go.RowKit Go.BigFrame

theorem map_getD {ms : List ActM} {xs : List ActV} (h : ms.map (·.a) = xs) {k : Nat} (hk : k < ms.length) : (ms.getD k zeroM).a = xs.getD k zeroA := by
  rw [← h, List.getD_eq_getElem?_getD, List.getElem?_eq_getElem hk, Option.getD_some, List.getD_eq_getElem?_getD, List.getElem?_map, List.getElem?_eq_getElem hk]
  rfl
set_option maxRecDepth 100000 in
set_option maxHeartbeats 8000000 in
theorem same_acts (va vb : Value) (ms ns : List ActM) (xs : List ActV) (w : World) (ha : RdA w va ms) (hb : RdA w vb ns) (h1 : ms.map (·.a) = xs) (h2 : ns.map (·.a) = xs) :
    Calls Tryd.prog 13 #[va, vb] w fun e w' => e = .returned (.bool true) ∧ ∃ q, w' = w.drewN q := by
  obtain ⟨A, c, rfl⟩ := ha.1.form
  obtain ⟨B, d, rfl⟩ := hb.1.form
  have HA := Lib.hid ha
  have HB := Lib.hid hb
  have hl1 : ms.length = xs.length := by rw [← h1, List.length_map]
  have hl2 : ns.length = xs.length := by rw [← h2, List.length_map]
  have H1 := Lib.hid h1
  have H2 := Lib.hid h2
  obtain ⟨n, hn⟩ : ∃ n, xs.length = n := ⟨_, rfl⟩
  rw [hn] at hl1 hl2
  have HL1 := Lib.hid hl1
  have HL2 := Lib.hid hl2
  have HN9 : n ≤ 9223372036854775807 := by
    rcases ha.1 with ⟨h0, _⟩ | ⟨b, o, c, _, h1, h2, _⟩
    · rw [h0] at hl1; simp at hl1; omega
    · unfold maxLen at h2; omega
  rw [hl1, hl2]
  rw [hl1] at HA
  rw [hl2] at HB
  clear ha hb h1 h2 hl1 hl2 hn
  go_enter Tryd.func13, Tryd.ntmps13
  go_wp2_with fail
  go_loopw [5] (fun i wr => ∃ (k q : Nat), k ≤ n ∧ i = .int .i64 k ∧ wr = w.drewN q) (fun i _ => (n - intOf i).toNat)
  case atStart => exact ⟨0, 0, by omega, rfl, rfl⟩
  case round =>
    obtain ⟨k, q, hk, rfl, hw⟩ := hrel
    have HAW := Lib.hid (show RdA wr (.slice A n c) ms from by rw [hw]; exact HA.out.drewN q)
    have HBW := Lib.hid (show RdA wr (.slice B n d) ns from by rw [hw]; exact HB.out.drewN q)
    have HW := Lib.hid hw
    clear hw
    by_cases hlt : k < n
    · have hlt2 : (k : Int) < (n : Int) := by omega
      obtain ⟨b, o, c', hv, _, _, hcc⟩ := HAW.out.1.pos (by rw [HL1.out]; omega)
      rw [HL1.out] at hv hcc
      obtain ⟨rfl, rfl⟩ := Value.slice.inj hv |> fun h => And.intro h.1 h.2.2
      obtain ⟨b2, o2, d', hv2, _, _, hcc2⟩ := HBW.out.1.pos (by rw [HL2.out]; omega)
      rw [HL2.out] at hv2 hcc2
      obtain ⟨rfl, rfl⟩ := Value.slice.inj hv2 |> fun h => And.intro h.1 h.2.2
      obtain ⟨g0, g1, g2, g3, g4, g5, g6, g7, g8⟩ := hcc k hlt
      obtain ⟨y0, y1, y2, y3, y4, y5, y6, y7, y8⟩ := hcc2 k hlt
      have hok1 := HAW.out.2 _ (getD_memM (j := k) (by rw [HL1.out]; exact hlt))
      have hok2 := HBW.out.2 _ (getD_memM (j := k) (by rw [HL2.out]; exact hlt))
      have e1 := map_getD H1.out (k := k) (by rw [HL1.out]; exact hlt)
      have e2 := map_getD H2.out (k := k) (by rw [HL2.out]; exact hlt)
      obtain ⟨m1, hm1⟩ : ∃ m, ms.getD k zeroM = m := ⟨_, rfl⟩
      obtain ⟨m2, hm2⟩ : ∃ m, ns.getD k zeroM = m := ⟨_, rfl⟩
      rw [hm1] at g0 g1 g2 g3 g4 g5 g6 g7 g8 hok1 e1
      rw [hm2] at y0 y1 y2 y3 y4 y5 y6 y7 y8 hok2 e2
      obtain ⟨a1, bv1, rv1⟩ := m1
      obtain ⟨a2, bv2, rv2⟩ := m2
      simp only at e1 e2 g0 g1 g2 g3 g4 g5 g6 g7 g8 y0 y1 y2 y3 y4 y5 y6 y7 y8
      obtain ⟨aa, haa⟩ : ∃ aa, xs.getD k zeroA = aa := ⟨_, rfl⟩
      rw [haa] at e1 e2
      clear haa
      obtain ⟨kd, key, val, pl, wd, ls, mask, busy, reads⟩ := aa
      subst e1 e2
      simp only at g0 g1 g2 g3 g4 g5 g6 g7 g8 y0 y1 y2 y3 y4 y5 y6 y7 y8
      have hf1 := hok1.1.form
      have hf2 := hok1.2.form
      have hf3 := hok2.1.form
      have hf4 := hok2.2.form
      have C1 := Lib.hid (fun (p : Nat) => show Calls Tryd.prog 28 #[bv1, bv2] (wr.drewN p) fun e w' => e = .returned (.bool true) ∧ ∃ r, w' = (wr.drewN p).drewN r from by
        have h := same_ints bv1 bv2 busy busy (wr.drewN p) (Rd.drewN hok1.1 p) (Rd.drewN hok2.1 p)
        rwa [show (busy == busy) = true from beq_self_eq_true _] at h)
      have C2 := Lib.hid (fun (p : Nat) => show Calls Tryd.prog 28 #[rv1, rv2] (wr.drewN p) fun e w' => e = .returned (.bool true) ∧ ∃ r, w' = (wr.drewN p).drewN r from by
        have h := same_ints rv1 rv2 reads reads (wr.drewN p) (Rd.drewN hok1.2 p) (Rd.drewN hok2.2 p)
        rwa [show (reads == reads) = true from beq_self_eq_true _] at h)
      obtain ⟨p1, p2, rfl⟩ : ∃ A c, bv1 = .slice A busy.length c := hf1
      obtain ⟨p3, p4, rfl⟩ : ∃ A c, rv1 = .slice A reads.length c := hf2
      obtain ⟨p5, p6, rfl⟩ : ∃ A c, bv2 = .slice A busy.length c := hf3
      obtain ⟨p7, p8, rfl⟩ : ∃ A c, rv2 = .slice A reads.length c := hf4
      have d0 : (kd != kd) = false := by simp
      have d3 : (pl != pl) = false := by simp
      have d4 : (wd != wd) = false := by simp
      have d5 : (ls != ls) = false := by simp
      have d1 : (key.toList == key.toList) = true := by simp
      have d2 : (val.toList == val.toList) = true := by simp
      have d6 : (mask.toList == mask.toList) = true := by simp
      have HLT := Lib.hid (show k + 1 ≤ n from hlt)
      have w6 : wrap64 ((k : Int) + 1) = (k : Int) + 1 := IntWalk.wrap64_in _ ⟨by omega, by have := HN9; omega⟩
      have HM := Lib.hid (show ((n : Int) - intOf (Value.int IntKind.i64 (wrap64 ((k : Int) + 1)))).toNat < ((n : Int) - intOf (Value.int IntKind.i64 (k : Int))).toNat from by
        rw [w6]
        show ((n : Int) - ((k : Int) + 1)).toNat < ((n : Int) - (k : Int)).toNat
        omega)
      have HV := Lib.hid (show Value.int IntKind.i64 (wrap64 ((k : Int) + 1)) = Value.int IntKind.i64 ((k + 1 : Nat) : Int) from by rw [w6]; rfl)
      have HM2 := Lib.hid (show ((n : Int) - intOf (Value.int IntKind.i64 ((k : Int) + 1))).toNat < ((n : Int) - intOf (Value.int IntKind.i64 (k : Int))).toNat from by
        show ((n : Int) - ((k : Int) + 1)).toNat < ((n : Int) - (k : Int)).toNat
        clear w6
        omega)
      clear w6
      clear hv hv2 hcc hcc2 hok1 hok2 hm1 hm2 hlt
      go_wp2_with fail
      apply region_flat
      · repeat with_reducible apply flat_cons'
        with_reducible exact flat_nil'
      refine wp_region_quiet_fast (by kernel_rfl) (by kernel_rfl) (by kernel_rfl) ?_
      repeat (go_big_quiet_step ((go_at_call 28; first | (with_reducible exact Calls.quiet_of (C1.out _)) | (with_reducible exact Calls.quiet_of (C2.out _)))))
      refine wpQuiet_nil ?_
      intro _ hw'
      obtain ⟨nq, hw''⟩ := hw'
      subst hw''
      clear d0 d1 d2 d3 d4 d5 d6
      repeat go_step
      go_roundw
      case rel => exact ⟨k + 1, q + nq, HLT.out, rfl, by rw [HW.out, World.drewN_drewN]⟩
      case measure => exact HM2.out
    · have hd : decide ((k : Int) < (n : Int)) = false := decide_eq_false (by omega)
      go_wp2_with fail
      go_ret
      exact ⟨rfl, q, HW.out⟩
end Go.Proofs.YtfdbolnifjpbhaaDoor
