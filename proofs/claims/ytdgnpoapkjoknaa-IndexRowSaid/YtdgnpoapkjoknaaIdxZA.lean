/- The statement IndexRow: the walk. -/
import Derived.Test.YtdgnpoapkjoknaaIdxZ
import Derived.BigQuiet
namespace Go.Proofs.Ytdgnpoapkjoknaa
set_option linter.unusedVariables false
set_option linter.unusedSimpArgs false
open Go.RowKit

def flagsL (h : Nat → Bool) : List Value := (List.range 256).map fun k => .bool (h k)
theorem flagsL_at (h : Nat → Bool) {k : Nat} (hk : k < 256) : (flagsL h)[k]? = some (.bool (h k)) := by
  rw [flagsL, List.getElem?_map, List.getElem?_range hk]; rfl
theorem flagsL_set (h : Nat → Bool) (k : Nat) (b : Bool) : (flagsL h).set k (.bool b) = flagsL (upd h k b) := by
  apply List.ext_getElem
  · simp [flagsL]
  · intro i h1 h2
    simp only [flagsL, List.length_map, List.length_range] at h2
    rw [List.getElem_set]
    simp only [flagsL, List.getElem_map, List.getElem_range, upd]
    by_cases e : k = i
    · subst e; simp
    · rw [if_neg e, if_neg (fun h => e h.symm)]
theorem flags_zero : Try.zeroCells54.toList = flagsL fun _ => false := by kernel_rfl
theorem flags_size : Try.zeroCells54.size = 256 := by kernel_rfl
theorem rem_nat (x : Int) (n : Nat) (h0 : 0 < n) (h1 : n < 1000) : ∃ r : Nat, wrap64 ((IntKind.u64.wrap x).tmod (n : Int)) = (r : Int) ∧ r < n := by
  obtain ⟨r, h, h2, h3⟩ := (show ∃ r : Int, wrap64 ((IntKind.u64.wrap x).tmod (n : Int)) = r ∧ 0 ≤ r ∧ r < (n : Int) from by
    have hx0 : 0 ≤ IntKind.u64.wrap x := by simp only [IntKind.wrap, IntKind.signed, IntKind.bits]; exact Int.emod_nonneg _ (by decide)
    have e : (IntKind.u64.wrap x).tmod (n : Int) = (IntKind.u64.wrap x) % (n : Int) := Int.tmod_eq_emod_of_nonneg hx0
    have e1 := Int.emod_nonneg (IntKind.u64.wrap x) (show (n : Int) ≠ 0 by omega)
    have e2 := Int.emod_lt_of_pos (IntKind.u64.wrap x) (show (0 : Int) < (n : Int) by omega)
    refine ⟨(IntKind.u64.wrap x) % (n : Int), ?_, e1, e2⟩
    rw [e]
    exact IntWalk.wrap64_in _ ⟨by omega, by omega⟩)
  exact ⟨r.toNat, by omega, by omega⟩

theorem rot_idx (q s m z : Nat) (h1 : q < m) (h2 : s < m) (h3 : m ≤ 20) (hz : (q + s) % m = z) : (wrap64 ((q : Int) + (s : Int))).tmod (m : Int) = (z : Int) := by
  rw [IntWalk.wrap64_in _ ⟨by omega, by omega⟩, Int.tmod_eq_emod_of_nonneg (by omega), ← hz]
  exact (Int.natCast_emod (q + s) m).symm

set_option maxRecDepth 100000 in
set_option maxHeartbeats 4000000 in
theorem IndexRow_walk (w : World) (vr : Value) (xs : List Int) (hr : Rd w vr xs) (_ : xs.length * 8 ≤ 140737488351232) (_ : ∀ x ∈ xs, -9223372036854775808 ≤ x ∧ x ≤ 9223372036854775807) (turn : Int) (_ : -9223372036854775808 ≤ turn ∧ turn ≤ 9223372036854775807) :
    Calls Try.prog 7 #[vr, .int .i64 turn] w fun e w' => e = .returned (.bool true) ∧ Below w.heap.size w w' := by
  obtain ⟨n, hn⟩ : ∃ n, xs.length = n := ⟨_, rfl⟩
  obtain ⟨A, c, rfl⟩ := hr.form
  have HP := Lib.hid (show Rd w (.slice A n c) xs by rw [← hn]; exact hr)
  have hmax : n ≤ 4398046511104 * 4 := by omega
  rw [hn]
  have HN := Lib.hid hn
  clear hr hn
  obtain ⟨ks, hks⟩ : ∃ ks : Nat → Nat, ks = fun i => ((xs.getD i 0) % 256).toNat := ⟨_, rfl⟩
  have KS := Lib.hid (fun i => show bits .and .i64 (xs.getD i 0) 255 = (ks i : Int) ∧ ks i < 256 from by
    have h1 : bits .and .i64 (xs.getD i 0) 255 = (xs.getD i 0) % 256 := and255 _
    have h2 := Int.emod_nonneg (xs.getD i 0) (show (256 : Int) ≠ 0 by decide)
    have h3 := Int.emod_lt_of_pos (xs.getD i 0) (show (0 : Int) < 256 by decide)
    subst hks
    exact ⟨by rw [h1]; show _ = (((xs.getD i 0) % 256).toNat : Int); omega, by show ((xs.getD i 0) % 256).toNat < 256; omega⟩)
  clear hks
  go_enter Try.func7, Try.ntmps7
  go_wp2_with fail
  refine (awake21 _).mono ?_
  rintro e w1 ⟨rfl, hb⟩
  go_wp2_with fail
  have F1 := (Own.arr w1 Try.zeroCells54 54 256 flags_size (by decide)).lower hb.size
  rw [flags_zero] at F1
  have B2 := Lib.hid (Bl.alloc hb (Obj.cells Try.zeroCells54 54))
  have e2 : (w1.alloc (Obj.cells Try.zeroCells54 54)).heap.size = w1.heap.size + 1 := by simp
  generalize w1.alloc (Obj.cells Try.zeroCells54 54) = wl at *
  have F4 := Lib.hid (show Own wl w.heap.size 54 1 (.slice (some ⟨w1.heap.size, 0, none⟩) 256 256) 256 (flagsL (seenN ks 0).1) from F1)
  have HW := Lib.hid (B2.out.size)
  have HG := Lib.hid (show w1.heap.size < wl.heap.size by omega)
  clear F1 e2 hb
  generalize w1.heap.size = g at *
  go_loopw [5, 8] (fun v3 i wr => ∃ a m : Nat, a ≤ n ∧ a ≤ 20 ∧ i = .int .i64 (a : Int) ∧ (seenN ks a).2.length = m ∧ Own wr wl.heap.size 25 4 v3 m (flat (seenN ks a).2) ∧ Own wr w.heap.size 54 1 (.slice (some ⟨g, 0, none⟩) 256 256) 256 (flagsL (seenN ks a).1) ∧ Below w.heap.size w wr ∧ wl.heap.size ≤ wr.heap.size) (fun _ i _ => (20 - intOf i).toNat)
  case atStart => exact ⟨0, 0, by omega, by omega, rfl, rfl, Own.nil _ _ _ _, F4.out, B2.out, Nat.le_refl _⟩
  case round =>
    obtain ⟨a, m, han, ha30, rfl, hm, o3, f4, hb, hsz⟩ := hrel
    obtain ⟨D, dc, rfl⟩ := o3.slice
    have O3 := Lib.hid o3
    have HF := Lib.hid f4
    have HB := Lib.hid hb
    have HS := Lib.hid hsz
    have HM := Lib.hid hm
    have hml : m ≤ 20 := by have := (seenN_in ks (fun i => (KS.out i).2) a).2.2; omega
    clear o3 f4 hb hsz hm B2 F4
    have hcase : (a < n ∧ a < 20) ∨ (decide ((a : Int) < (n : Int)) = false ∧ (a < n) = False) ∨ (decide ((a : Int) < (n : Int)) = true ∧ (a < n) = True ∧ decide ((a : Int) < 20) = false) := by
      by_cases h1 : a < n
      · by_cases h2 : a < 20
        · exact .inl ⟨h1, h2⟩
        · exact .inr (.inr ⟨decide_eq_true (by omega), eq_true h1, decide_eq_false (by omega)⟩)
      · exact .inr (.inl ⟨decide_eq_false (by omega), eq_false h1⟩)
    rcases hcase with ⟨h1, h2⟩ | hex
    · have hd1 : decide ((a : Int) < (n : Int)) = true := decide_eq_true (by omega)
      have hd2 : decide ((a : Int) < 20) = true := decide_eq_true (by omega)
      obtain ⟨b, o, c', hv, _, _, hcc⟩ := (HP.out.below HB.out).pos (by rw [HN.out]; omega)
      rw [HN.out] at hv hcc
      obtain ⟨rfl, rfl⟩ := Value.slice.inj hv |> fun h => And.intro h.1 h.2.2
      have gx := hcc a h1
      have h12 : (a : Int) < (n : Int) := by omega
      obtain ⟨k1, k2⟩ := KS.out a
      obtain ⟨x, hx⟩ : ∃ x, xs.getD a 0 = x := ⟨_, rfl⟩
      rw [hx] at k1 gx
      obtain ⟨k, hk⟩ : ∃ k, ks a = k := ⟨_, rfl⟩
      rw [hk] at k1 k2
      have HK := Lib.hid hk
      clear hx hcc hv hk
      have hk8 : (k : Int) < 256 := by omega
      have gc := HF.out.at' (flagsL_at (seenN ks a).1 k2)
      cases hg : (seenN ks a).1 k with
      | true =>
        rw [hg] at gc
        have HGS := Lib.hid hg
        clear hg
        go_wp2_with fail
        go_roundw
        case rel =>
          have e1 : seenN ks (a + 1) = seenN ks a := by rw [seenN, if_pos (by rw [HK.out]; exact HGS.out)]
          refine ⟨a + 1, m, by omega, by omega, by first | go_num | (congr 1; omega), by rw [e1]; exact HM.out, by rw [e1]; exact O3.out, by rw [e1]; exact HF.out, HB.out, HS.out⟩
        case measure => simp [intOf]; omega
      | false =>
        rw [hg] at gc
        have HGS := Lib.hid hg
        clear hg
        have hfz : wr.frozen? ⟨g, k, none⟩ = false := HF.out.free (by omega)
        have hu1 : IntKind.u8.wrap (k : Int) = (k : Int) := wrap_u8 _ (by omega) (by omega)
        have hu2 : IntKind.u8.wrap (a : Int) = (a : Int) := wrap_u8 _ (by omega) (by omega)
        have QF := Lib.hid (HF.out.stored k (.bool true)).1
        have hvo : (Value.slice D m dc).ownBlock ≠ some g := fun e => by have h1 := O3.out.base g e; have h2 := HG.out; omega
        have Q3 := Lib.hid (O3.out.off (j := k) (u := .bool true) HF.out hvo)
        have QB := Lib.hid (HB.out.setCell (p := ⟨g, k, none⟩) (HF.out.base g rfl) (.bool true))
        have QS : (wr.setCell ⟨g, k, none⟩ (.bool true)).heap.size = wr.heap.size := by simp
        have kc := text_one (wr.setCell ⟨g, k, none⟩ (.bool true)) (k : Int) (UInt8.ofNat k) (byte_of _ (by omega)) _ rfl
        have kd := text_one ((wr.setCell ⟨g, k, none⟩ (.bool true)).alloc (Obj.cells #[.int .u8 (k : Int)] 5)) (a : Int) (UInt8.ofNat a) (byte_of _ (by omega)) (wr.heap.size + 1) (by simp)
        rw [QS] at kc
        have HS2 := Lib.hid (show wl.heap.size ≤ (wr.setCell ⟨g, k, none⟩ (.bool true)).heap.size by rw [QS]; exact HS.out)
        have BN := fun (o1 o2 : Obj) (c1 c2 c3 c4 : Value) (ty : TypeId) => Bx.new2 (wr.setCell ⟨g, k, none⟩ (.bool true)) o1 o2 c1 c2 c3 c4 ty
        rw [QS] at BN
        have BN := Lib.hid BN
        clear QS hvo
        change (convert 46 9 (.slice (some ⟨wr.heap.size, 0, none⟩) 1 1)).run Try.prog _ = .ok (.string (keyR k)) _ at kc
        change (convert 46 9 (.slice (some ⟨wr.heap.size + 1, 0, none⟩) 1 1)).run Try.prog _ = .ok (.string (keyR a)) _ at kd
        obtain ⟨t, ht⟩ : ∃ t, keyR k = t := ⟨_, rfl⟩
        obtain ⟨u, hu⟩ : ∃ u, keyR a = u := ⟨_, rfl⟩
        rw [ht] at kc
        rw [hu] at kd
        have HT := Lib.hid ht
        have HU := Lib.hid hu
        clear ht hu
        go_wp2_with (at_builtin; refine appO wl.heap.size rfl (.tmp 37) (.tmp 47) 22 25 (.agg #[.int .i64 0, .int .i64 0, .string ⟨#[]⟩, .string ⟨#[]⟩]) 4 48 rfl Try.underlying22 infoRecX rfl (by decide) (by decide) _ m (flat (seenN ks a).2) rfl (some ⟨wr.heap.size + 2, 0, none⟩) 1 1 [.int .i64 1, .int .i64 0, .string t, .string u] rfl rfl (cellsR_one ⟨1, 0, t, u⟩) (fun h => by cases h) (box4 (BN.out _ _ _ _ _ _ _)) (((Q3.out.alloc _).alloc _).alloc _) (Nat.le_trans HS2.out (Bl.alloc (Bl.alloc (Bl.alloc (Below.refl _ _) _) _) _).size) (by omega) ?_; intro v1 w2 ho hgr ha; obtain ⟨D', d', rfl⟩ := ho.slice; have P3 := Lib.hid ho; have PF := Lib.hid (Own.kept (row := (Value.slice D m dc).ownBlock) (((QF.out.alloc _).alloc _).alloc _) hgr (.inr (fun e => by have h1 := O3.out.base g e.symm; have h2 := HG.out; omega))); have PB := Lib.hid (Below.grown (Bl.alloc (Bl.alloc (Bl.alloc QB.out (Obj.cells #[.int .u8 (k : Int)] 5)) (Obj.cells #[.int .u8 (a : Int)] 5)) (Obj.cells #[.int .i64 1, .int .i64 0, .string t, .string u] 25)) hgr (Bl.alloc (Bl.alloc (Bl.alloc QB.out (Obj.cells #[.int .u8 (k : Int)] 5)) (Obj.cells #[.int .u8 (a : Int)] 5)) (Obj.cells #[.int .i64 1, .int .i64 0, .string t, .string u] 25)).size (fun q hq => Nat.le_trans HW.out (O3.out.base q hq))); have PS := Lib.hid (Nat.le_trans (Nat.le_trans HS2.out (Bl.alloc (Bl.alloc (Bl.alloc (Below.refl _ _) _) _) _).size) hgr.size); clear ho hgr ha)
        go_roundw
        case rel =>
          have e1 : seenN ks (a + 1) = (upd (seenN ks a).1 k true, (seenN ks a).2 ++ [⟨1, 0, t, u⟩]) := by rw [seenN, if_neg (by rw [HK.out, HGS.out]; exact Bool.noConfusion), HK.out, HT.out, HU.out]
          refine ⟨a + 1, m + 1, by omega, by omega, by first | go_num | (congr 1; omega), by rw [e1, List.length_append, HM.out]; rfl, ?_, ?_, PB.out, PS.out⟩
          · rw [e1, flat_snoc]
            exact P3.out
          · rw [e1, ← flagsL_set]
            exact PF.out
        case measure => simp [intOf]; omega
    · have QL := (seenN_live ks (fun i => (KS.out i).2) a)
      have QZ := (seenN_sizes ks (fun i => (KS.out i).2) a)
      have QD := (seenN_in ks (fun i => (KS.out i).2) a).2.1
      have R1 := RdR.own O3.out
      have hm := HM.out
      generalize (seenN ks a).2 = rs at *
      have HQL := Lib.hid QL
      have HQZ := Lib.hid QZ
      have HQD := Lib.hid QD
      have R1H := Lib.hid R1
      clear QL QZ QD R1 hm HF O3
      obtain ⟨s, hs⟩ : ∃ s : Nat, (m = 0 ∨ s < m) ∧ (0 < m → wrap64 ((IntKind.u64.wrap turn).tmod (m : Int)) = (s : Int)) := by
        by_cases h0 : 0 < m
        · obtain ⟨r, h1, h2⟩ := rem_nat turn m h0 (by omega)
          exact ⟨r, .inr h2, fun _ => h1⟩
        · exact ⟨0, .inl (by omega), fun h => absurd h h0⟩
      have HSS := Lib.hid hs
      clear hs
      rcases hex with ⟨hd, hd2⟩ | ⟨hd, hd2, hd3⟩
      all_goals
        go_wp2_with fail
        generalize wr = wm at *
        go_loopw [6, 10] (fun v6 i wz => ∃ q : Nat, q ≤ m ∧ i = .int .i64 (q : Int) ∧ Own wz wm.heap.size 25 4 v6 q (flat (rotN rs s q)) ∧ Below wm.heap.size wm wz) (fun _ i _ => (m - intOf i).toNat)
        case atStart => exact ⟨0, by omega, rfl, Own.nil _ _ _ _, Below.refl _ _⟩
        case round =>
          obtain ⟨q, hqm, rfl, o6, hb⟩ := hrel
          obtain ⟨E, ec, rfl⟩ := o6.slice
          have O6 := Lib.hid o6
          have HQ := Lib.hid hb
          clear o6 hb
          by_cases hlt : q < m
          · have hlt2 : (q : Int) < (m : Int) := by omega
            have hmm : IntKind.u64.wrap (m : Int) = (m : Int) := by simp only [IntKind.wrap, IntKind.signed, IntKind.bits]; exact Int.emod_eq_of_lt (by omega) (by omega)
            have hmpos : 0 < m := Nat.lt_of_le_of_lt (Nat.zero_le _) hlt
            have hbytes : (q + 1) * 48 ≤ 140737488355328 := by omega
            have hq1m : q + 1 ≤ m := hlt
            obtain ⟨z, hz⟩ : ∃ z, (q + s) % m = z := ⟨_, rfl⟩
            have hzm : z < m := hz ▸ Nat.mod_lt _ (Nat.lt_of_le_of_lt (Nat.zero_le _) hlt)
            have hzm2 : (z : Int) < (m : Int) := Int.ofNat_lt.2 hzm
            have HID := Lib.hid (rot_idx q s m z hlt (HSS.out.1.resolve_left (Nat.ne_of_gt hmpos)) hml hz)
            obtain ⟨b, o, c', hv, _, _, hcc⟩ := (R1H.out.below HQ.out).pos (by rw [HM.out]; omega)
            rw [HM.out] at hv hcc
            obtain ⟨rfl, rfl⟩ := Value.slice.inj hv |> fun h => And.intro h.1 h.2.2
            obtain ⟨g0, g1, g2, g3⟩ := hcc z hzm
            obtain ⟨r, hr⟩ : ∃ r, rs.getD z zeroR = r := ⟨_, rfl⟩
            rw [hr] at g0 g1 g2 g3
            have HR := Lib.hid (show rotN rs s (q + 1) = rotN rs s q ++ [r] by rw [rotN_snoc, HM.out, hz, hr])
            obtain ⟨rk, re, rkey, rval⟩ := r
            simp only at g0 g1 g2 g3
            have hs := HSS.out.2 hmpos
            have hidx := HID.out
            clear hcc hv hr hz HID
            go_wp2_with (at_builtin; refine appO wm.heap.size rfl (.tmp 55) (.tmp 71) 22 25 (.agg #[.int .i64 0, .int .i64 0, .string ⟨#[]⟩, .string ⟨#[]⟩]) 4 48 rfl Try.underlying22 infoRecX rfl (by decide) (by decide) _ q (flat (rotN rs s q)) rfl (some ⟨wr.heap.size, 0, none⟩) 1 1 [.int .i64 rk, .int .i64 re, .string rkey, .string rval] rfl rfl (cellsR_one ⟨rk, re, rkey, rval⟩) (fun h => by cases h) (box4 (Bx.new wr _ _ _ _ _)) (O6.out.alloc _) (Nat.le_trans HQ.out.size (Bl.alloc (Below.refl _ _) _).size) hbytes ?_; intro v1 w2 ho hgr ha; obtain ⟨E', e', rfl⟩ := ho.slice; have P6 := Lib.hid ho; have PB := Lib.hid (Below.grown (Bl.alloc HQ.out (Obj.cells #[.int .i64 rk, .int .i64 re, .string rkey, .string rval] 25)) hgr (Bl.alloc HQ.out (Obj.cells #[.int .i64 rk, .int .i64 re, .string rkey, .string rval] 25)).size (fun q hq => O6.out.base q hq)); clear ho hgr ha)
            go_roundw
            case rel =>
              refine ⟨q + 1, hq1m, by first | go_num | rfl, ?_, PB.out⟩
              rw [HR.out, flat_snoc]
              exact P6.out
            case measure => clear hs hidx; simp [intOf]; omega
          · obtain rfl : q = m := by omega
            have hd9 : decide ((q : Int) < (q : Int)) = false := decide_eq_false (by omega)
            have hpm := rotN_perm rs s (by rcases HSS.out.1 with h | h; · right; exact List.eq_nil_of_length_eq_zero (by rw [HM.out]; exact h)
                                           · left; rw [HM.out]; exact h)
            rw [HM.out] at hpm
            obtain ⟨t1, t2, t3, t4⟩ := bldU_turn HQL.out HQD.out hpm
            have C1 := fun (W : World) (h : RdR W (.slice D q dc) rs) => build_any W _ rs h (by rw [HM.out]; omega) HQZ.out
            have C2 := fun (W : World) (h : RdR W (.slice E q ec) (rotN rs s q)) => build_any W _ (rotN rs s q) h (by rw [rotN_len]; omega) (fun r hr => HQZ.out r (hpm.mem_iff.1 hr))
            rw [t1] at C1
            rw [t2, t3] at C2
            rw [HM.out] at t4
            generalize buildL rs = L at *
            have C1H := Lib.hid C1
            have C2H := Lib.hid C2
            have LH := Lib.hid t4
            have R2 := Lib.hid (R1H.out.below HQ.out)
            have R6 := Lib.hid (RdR.own O6.out)
            have B3 := Lib.hid (Bl.then HB.out HQ.out)
            clear hpm t1 t2 t3 t4 C1 C2 O6 HQ HB
            go_wp2_with fail
            with_reducible refine (C1H.out _ R2.out).mono ?_
            rintro e w5 ⟨va, rfl, oa, hb⟩
            obtain ⟨Aa, ca, rfl⟩ := Own.slice oa
            rw [LH.out]
            have PA := Lib.hid (show RdP w5 (.slice Aa q ca) L by have h := OwnP.rd oa; rwa [LH.out] at h)
            have R7 := Lib.hid (R6.out.below hb)
            have B5 := Lib.hid (Bl.then B3.out hb)
            clear oa hb
            go_wp2_with fail
            with_reducible refine (C2H.out _ R7.out).mono ?_
            rintro e w6 ⟨vb, rfl, ob, hb⟩
            obtain ⟨Ab, cb, rfl⟩ := Own.slice ob
            rw [LH.out]
            have PA2 := Lib.hid (PA.out.below hb)
            have PB2 := Lib.hid (show RdP w6 (.slice Ab q cb) L by have h := OwnP.rd ob; rwa [LH.out] at h)
            have B6 := Lib.hid (Bl.then B5.out hb)
            clear ob hb
            go_wp2_with (first | (go_at_call 22; refine (num_any _ _).mono ?_; rintro e w' ⟨rfl, rfl⟩) | (go_at_call 21; refine (same_pairs _ _ L L _ PA2.out PB2.out).mono ?_; rw [decide_eq_true (rfl : L = L)]; rintro e w' ⟨rfl, q8, rfl⟩))
            go_ret
            exact ⟨rfl, Bl.drewN B6.out _⟩
end Go.Proofs.Ytdgnpoapkjoknaa
