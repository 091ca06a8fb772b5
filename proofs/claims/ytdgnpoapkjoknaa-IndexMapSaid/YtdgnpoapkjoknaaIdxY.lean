/- The statement IndexMap: the walk. -/
import Derived.Test.YtdgnpoapkjoknaaIdxX
import Derived.BigQuiet
import Derived.Laws.Cover1
namespace Go.Proofs.Ytdgnpoapkjoknaa
set_option linter.unusedVariables false
set_option linter.unusedSimpArgs false
open Go.RowKit

set_option maxRecDepth 100000 in
set_option maxHeartbeats 4000000 in
theorem IndexMap_walk (w : World) (vr : Value) (xs : List Int) (hr : Rd w vr xs) (_ : xs.length * 8 ≤ 140737488351232) (_ : ∀ x ∈ xs, -9223372036854775808 ≤ x ∧ x ≤ 9223372036854775807) :
    Calls Try.prog 4 #[vr] w fun e w' => e = .returned (.bool true) ∧ Below w.heap.size w w' := by
  obtain ⟨n, hn⟩ : ∃ n, xs.length = n := ⟨_, rfl⟩
  obtain ⟨A, c, rfl⟩ := hr.form
  have HP := Lib.hid (show Rd w (.slice A n c) xs by rw [← hn]; exact hr)
  have hmax : n ≤ 4398046511104 * 4 := by omega
  rw [hn]
  have HN := Lib.hid hn
  clear hr hn
  obtain ⟨ks, hks⟩ : ∃ ks : Nat → Nat, ks = fun i => ((xs.getD i 0) % 8).toNat := ⟨_, rfl⟩
  obtain ⟨gs, hgs⟩ : ∃ gs : Nat → Bool, gs = fun i => bits .and .i64 (xs.getD i 0) 24 == 24 := ⟨_, rfl⟩
  obtain ⟨vs, hvs⟩ : ∃ vs : Nat → ByteArray, vs = fun i => str [UInt8.ofNat (48 + i)] := ⟨_, rfl⟩
  have KS := Lib.hid (fun i => show bits .and .i64 (xs.getD i 0) 7 = (ks i : Int) ∧ ks i < 8 from by
    have h1 : bits .and .i64 (xs.getD i 0) 7 = (xs.getD i 0) % 8 := and_mask64 _ 3 (by decide)
    have h2 := Int.emod_nonneg (xs.getD i 0) (show (8 : Int) ≠ 0 by decide)
    have h3 := Int.emod_lt_of_pos (xs.getD i 0) (show (0 : Int) < 8 by decide)
    subst hks
    exact ⟨by rw [h1]; show _ = (((xs.getD i 0) % 8).toNat : Int); omega, by show ((xs.getD i 0) % 8).toNat < 8; omega⟩)
  have GS := Lib.hid (fun i => show (bits .and .i64 (xs.getD i 0) 24 == 24) = gs i by subst hgs; rfl)
  have VS := Lib.hid (fun i => show vs i = str [UInt8.ofNat (48 + i)] by subst hvs; rfl)
  have VZ := Lib.hid (fun i => show (vs i).size ≤ 20 by rw [VS.out, str_size]; show 1 ≤ 20; decide)
  clear hks hgs hvs
  go_enter Try.func4, Try.ntmps4
  go_wp2_with fail
  refine (awake21 _).mono ?_
  rintro e w1 ⟨rfl, hb⟩
  go_wp2_with fail
  have F1 := Own.arr w1 #[.bool false, .bool false, .bool false, .bool false, .bool false, .bool false, .bool false, .bool false] 44 8 rfl (by decide)
  have F2 := (F1.alloc (Obj.cells #[.string ⟨#[]⟩, .string ⟨#[]⟩, .string ⟨#[]⟩, .string ⟨#[]⟩, .string ⟨#[]⟩, .string ⟨#[]⟩, .string ⟨#[]⟩, .string ⟨#[]⟩] 45)).lower hb.size
  have T2 := Own.arr (w1.alloc (Obj.cells #[.bool false, .bool false, .bool false, .bool false, .bool false, .bool false, .bool false, .bool false] 44)) #[.string ⟨#[]⟩, .string ⟨#[]⟩, .string ⟨#[]⟩, .string ⟨#[]⟩, .string ⟨#[]⟩, .string ⟨#[]⟩, .string ⟨#[]⟩, .string ⟨#[]⟩] 45 8 rfl (by decide)
  have e1 : (w1.alloc (Obj.cells #[.bool false, .bool false, .bool false, .bool false, .bool false, .bool false, .bool false, .bool false] 44)).heap.size = w1.heap.size + 1 := by simp
  rw [e1] at T2
  have T3 := T2.lower (Nat.le_trans hb.size (Nat.le_succ _))
  have B2 := Lib.hid (Bl.alloc (Bl.alloc hb (Obj.cells #[.bool false, .bool false, .bool false, .bool false, .bool false, .bool false, .bool false, .bool false] 44)) (Obj.cells #[.string ⟨#[]⟩, .string ⟨#[]⟩, .string ⟨#[]⟩, .string ⟨#[]⟩, .string ⟨#[]⟩, .string ⟨#[]⟩, .string ⟨#[]⟩, .string ⟨#[]⟩] 45))
  have e2 : ((w1.alloc (Obj.cells #[.bool false, .bool false, .bool false, .bool false, .bool false, .bool false, .bool false, .bool false] 44)).alloc (Obj.cells #[.string ⟨#[]⟩, .string ⟨#[]⟩, .string ⟨#[]⟩, .string ⟨#[]⟩, .string ⟨#[]⟩, .string ⟨#[]⟩, .string ⟨#[]⟩, .string ⟨#[]⟩] 45)).heap.size = w1.heap.size + 2 := by simp
  generalize (w1.alloc (Obj.cells #[.bool false, .bool false, .bool false, .bool false, .bool false, .bool false, .bool false, .bool false] 44)).alloc (Obj.cells #[.string ⟨#[]⟩, .string ⟨#[]⟩, .string ⟨#[]⟩, .string ⟨#[]⟩, .string ⟨#[]⟩, .string ⟨#[]⟩, .string ⟨#[]⟩, .string ⟨#[]⟩] 45) = wl at *
  have F4 := Lib.hid (show Own wl w.heap.size 44 1 (.slice (some ⟨w1.heap.size, 0, none⟩) 8 8) 8 (boolL (mapM ks gs vs 0).1) from F2)
  have T4 := Lib.hid (show Own wl w.heap.size 45 1 (.slice (some ⟨w1.heap.size + 1, 0, none⟩) 8 8) 8 (textsL (mapM ks gs vs 0).2) from T3)
  have HW := Lib.hid (B2.out.size)
  have HG := Lib.hid (show w1.heap.size + 1 < wl.heap.size by omega)
  clear F1 F2 T2 T3 e1 e2 hb
  generalize w1.heap.size = g at *
  go_loopw [3, 6] (fun v3 i wr => ∃ a : Nat, a ≤ n ∧ a ≤ 30 ∧ i = .int .i64 (a : Int) ∧ Own wr wl.heap.size 25 4 v3 a (flat (rsM ks gs vs a)) ∧ Own wr w.heap.size 44 1 (.slice (some ⟨g, 0, none⟩) 8 8) 8 (boolL (mapM ks gs vs a).1) ∧ Own wr w.heap.size 45 1 (.slice (some ⟨g + 1, 0, none⟩) 8 8) 8 (textsL (mapM ks gs vs a).2) ∧ Below w.heap.size w wr ∧ wl.heap.size ≤ wr.heap.size) (fun _ i _ => (30 - intOf i).toNat)
  case atStart => exact ⟨0, by omega, by omega, rfl, Own.nil _ _ _ _, F4.out, T4.out, B2.out, Nat.le_refl _⟩
  case round =>
    obtain ⟨a, han, ha30, rfl, o3, f4, t4, hb, hsz⟩ := hrel
    obtain ⟨D, dc, rfl⟩ := o3.slice
    have O3 := Lib.hid o3
    have HF := Lib.hid f4
    have HT := Lib.hid t4
    have HB := Lib.hid hb
    have HS := Lib.hid hsz
    clear o3 f4 t4 hb hsz B2 F4 T4
    have hcase : (a < n ∧ a < 30) ∨ (decide ((a : Int) < (n : Int)) = false ∧ (a < n) = False) ∨ (decide ((a : Int) < (n : Int)) = true ∧ (a < n) = True ∧ decide ((a : Int) < 30) = false) := by
      by_cases h1 : a < n
      · by_cases h2 : a < 30
        · exact .inl ⟨h1, h2⟩
        · exact .inr (.inr ⟨decide_eq_true (by omega), eq_true h1, decide_eq_false (by omega)⟩)
      · exact .inr (.inl ⟨decide_eq_false (by omega), eq_false h1⟩)
    rcases hcase with ⟨h1, h2⟩ | hex
    · have hd1 : decide ((a : Int) < (n : Int)) = true := decide_eq_true (by omega)
      have hd2 : decide ((a : Int) < 30) = true := decide_eq_true (by omega)
      obtain ⟨b, o, c', hv, _, _, hcc⟩   := (HP.out.below HB.out).pos (by rw [HN.out]; omega)
      rw [HN.out] at hv hcc
      obtain ⟨rfl, rfl⟩ := Value.slice.inj hv |> fun h => And.intro h.1 h.2.2
      have gx := hcc a h1
      have h12 : (a : Int) < (n : Int) := by omega
      obtain ⟨k1, k2⟩ := KS.out a
      have g1 := GS.out a
      obtain ⟨x, hx⟩ : ∃ x, xs.getD a 0 = x := ⟨_, rfl⟩
      rw [hx] at k1 g1 gx
      obtain ⟨k, hk⟩ : ∃ k, ks a = k := ⟨_, rfl⟩
      rw [hk] at k1 k2
      have HK := Lib.hid hk
      have hu : IntKind.u8.wrap (97 + (k : Int)) = 97 + (k : Int) := wrap_u8 _ (by omega) (by omega)
      have kc := text_one wr (97 + (k : Int)) (UInt8.ofNat (97 + k)) (by rw [← byte_of _ (by omega)]; omega) _ rfl
      obtain ⟨t, ht⟩ : ∃ t, str [UInt8.ofNat (97 + k)] = t := ⟨_, rfl⟩
      rw [ht] at kc
      have HKT := Lib.hid (show keyM k = t from ht)
      clear hx hcc hv hk ht
      have hk8 : (k : Int) < 8 := by omega
      have gx2 := ((Bl.alloc (Below.refl _ wr) (Obj.cells #[.int .u8 (97 + (k : Int))] 5)).cell (World.block_lt_of_cell? _ _ gx)).trans gx
      cases hg : gs a with
      | true =>
        rw [hg] at g1
        have HGS := Lib.hid hg
        clear hg
        go_wp2_with (at_builtin; refine appO wl.heap.size rfl (.tmp 45) (.tmp 48) 22 25 (.agg #[.int .i64 0, .int .i64 0, .string ⟨#[]⟩, .string ⟨#[]⟩]) 4 48 rfl Try.underlying22 infoRecX rfl (by decide) (by decide) _ a (flat (rsM ks gs vs a)) rfl (some ⟨wr.heap.size + 1, 0, none⟩) 1 1 [.int .i64 2, .int .i64 0, .string t, .string ⟨#[]⟩] rfl rfl (cellsR_one ⟨2, 0, t, ⟨#[]⟩⟩) (fun h => by cases h) (box4 (Bx.new1 wr _ _ _ _ _ _)) ((O3.out.alloc _).alloc _) (Nat.le_trans HS.out (Bl.alloc (Bl.alloc (Below.refl _ _) _) _).size) (by omega) ?_; intro v1 w2 ho hgr ha; obtain ⟨D', d', rfl⟩ := ho.slice; have Q3 := Lib.hid ho; have QF := Lib.hid (Own.kept (row := (Value.slice D a dc).ownBlock) ((HF.out.alloc _).alloc _) hgr (.inr (fun e => by have h1 := O3.out.base g e.symm; have h2 := HG.out; omega))); have QT := Lib.hid (Own.kept (row := (Value.slice D a dc).ownBlock) ((HT.out.alloc _).alloc _) hgr (.inr (fun e => by have h1 := O3.out.base (g + 1) e.symm; have h2 := HG.out; omega))); have QB := Lib.hid (Below.grown (Bl.alloc (Bl.alloc HB.out (Obj.cells #[.int .u8 (97 + (k : Int))] 5)) (Obj.cells #[.int .i64 2, .int .i64 0, .string t, .string ⟨#[]⟩] 25)) hgr (Bl.alloc (Bl.alloc HB.out (Obj.cells #[.int .u8 (97 + (k : Int))] 5)) (Obj.cells #[.int .i64 2, .int .i64 0, .string t, .string ⟨#[]⟩] 25)).size (fun q hq => Nat.le_trans HW.out (O3.out.base q hq))); have QS := Lib.hid (Nat.le_trans (Nat.le_trans HS.out (Bl.alloc (Bl.alloc (Below.refl _ _) _) _).size) hgr.size); have QV := Lib.hid (fun e => by have h1 := ho.base _ e; have h2 := HG.out; omega : (Value.slice D' (a + 1) d').ownBlock ≠ some g); have QU := Lib.hid (fun e => by have h1 := ho.base _ e; have h2 := HG.out; omega : (Value.slice D' (a + 1) d').ownBlock ≠ some (g + 1)); have fz1 : w2.frozen? ⟨g, k, none⟩ = false := QF.out.free (by omega); have fz2 : w2.frozen? ⟨g + 1, k, none⟩ = false := QT.out.free (by omega); have gc1 : w2.cell? ⟨g, k, none⟩ = some (.bool ((mapM ks gs vs a).1 k)) := QF.out.at' (boolL_at _ k2); have gc2 : w2.cell? ⟨g + 1, k, none⟩ = some (.string ((mapM ks gs vs a).2 k)) := QT.out.at' (textsL_at _ k2); clear ho hgr ha)
        go_roundw
        case rel =>
          have e1 : mapM ks gs vs (a + 1) = (upd (mapM ks gs vs a).1 k false, (mapM ks gs vs a).2) := by rw [mapM, if_pos HGS.out, HK.out]
          have e2 : rsM ks gs vs (a + 1) = rsM ks gs vs a ++ [⟨2, 0, t, ⟨#[]⟩⟩] := by rw [rsM_snoc, recM, if_pos HGS.out, HK.out, HKT.out]; rfl
          refine ⟨a + 1, by omega, by omega, by first | go_num | (congr 1; omega), ?_, ?_, ?_, QB.out.setCell (p := ⟨g, k, none⟩) (HF.out.base g rfl) _, by simpa using QS.out⟩
          · rw [e2, flat_snoc]
            exact Q3.out.off QF.out QV.out
          · rw [e1, ← boolL_set]
            exact (QF.out.stored k _).1
          · rw [e1]
            exact QT.out.off QF.out (by simp [Value.ownBlock])
        case measure => simp [intOf]; omega
      | false =>
        rw [hg] at g1
        have HGS := Lib.hid hg
        have hu2 : IntKind.u8.wrap (48 + (a : Int)) = 48 + (a : Int) := wrap_u8 _ (by omega) (by omega)
        have kd := text_one (wr.alloc (Obj.cells #[.int .u8 (97 + (k : Int))] 5)) (48 + (a : Int)) (UInt8.ofNat (48 + a)) (by rw [← byte_of _ (by omega)]; omega) (wr.heap.size + 1) (by simp)
        obtain ⟨u, hu9⟩ : ∃ u, str [UInt8.ofNat (48 + a)] = u := ⟨_, rfl⟩
        rw [hu9] at kd
        have HVU := Lib.hid (show vs a = u by rw [VS.out]; exact hu9)
        clear hg hu9
        go_wp2_with (at_builtin; refine appO wl.heap.size rfl (.tmp 57) (.tmp 61) 22 25 (.agg #[.int .i64 0, .int .i64 0, .string ⟨#[]⟩, .string ⟨#[]⟩]) 4 48 rfl Try.underlying22 infoRecX rfl (by decide) (by decide) _ a (flat (rsM ks gs vs a)) rfl (some ⟨wr.heap.size + 2, 0, none⟩) 1 1 [.int .i64 1, .int .i64 0, .string t, .string u] rfl rfl (cellsR_one ⟨1, 0, t, u⟩) (fun h => by cases h) (box4 (Bx.new2 wr _ _ _ _ _ _ _)) (((O3.out.alloc _).alloc _).alloc _) (Nat.le_trans HS.out (Bl.alloc (Bl.alloc (Bl.alloc (Below.refl _ _) _) _) _).size) (by omega) ?_; intro v1 w2 ho hgr ha; obtain ⟨D', d', rfl⟩ := ho.slice; have Q3 := Lib.hid ho; have QF := Lib.hid (Own.kept (row := (Value.slice D a dc).ownBlock) (((HF.out.alloc _).alloc _).alloc _) hgr (.inr (fun e => by have h1 := O3.out.base g e.symm; have h2 := HG.out; omega))); have QT := Lib.hid (Own.kept (row := (Value.slice D a dc).ownBlock) (((HT.out.alloc _).alloc _).alloc _) hgr (.inr (fun e => by have h1 := O3.out.base (g + 1) e.symm; have h2 := HG.out; omega))); have QB := Lib.hid (Below.grown (Bl.alloc (Bl.alloc (Bl.alloc HB.out (Obj.cells #[.int .u8 (97 + (k : Int))] 5)) (Obj.cells #[.int .u8 (48 + (a : Int))] 5)) (Obj.cells #[.int .i64 1, .int .i64 0, .string t, .string u] 25)) hgr (Bl.alloc (Bl.alloc (Bl.alloc HB.out (Obj.cells #[.int .u8 (97 + (k : Int))] 5)) (Obj.cells #[.int .u8 (48 + (a : Int))] 5)) (Obj.cells #[.int .i64 1, .int .i64 0, .string t, .string u] 25)).size (fun q hq => Nat.le_trans HW.out (O3.out.base q hq))); have QS := Lib.hid (Nat.le_trans (Nat.le_trans HS.out (Bl.alloc (Bl.alloc (Bl.alloc (Below.refl _ _) _) _) _).size) hgr.size); have QV := Lib.hid (fun e => by have h1 := ho.base _ e; have h2 := HG.out; omega : (Value.slice D' (a + 1) d').ownBlock ≠ some g); have QU := Lib.hid (fun e => by have h1 := ho.base _ e; have h2 := HG.out; omega : (Value.slice D' (a + 1) d').ownBlock ≠ some (g + 1)); have fz1 : w2.frozen? ⟨g, k, none⟩ = false := QF.out.free (by omega); have QT2 := Lib.hid (QT.out.off (j := k) (u := .bool true) QF.out (by simp [Value.ownBlock])); have fz2 : (w2.setCell ⟨g, k, none⟩ (.bool true)).frozen? ⟨g + 1, k, none⟩ = false := QT2.out.free (by omega); have gc1 : w2.cell? ⟨g, k, none⟩ = some (.bool ((mapM ks gs vs a).1 k)) := QF.out.at' (boolL_at _ k2); have gc2 : (w2.setCell ⟨g, k, none⟩ (.bool true)).cell? ⟨g + 1, k, none⟩ = some (.string ((mapM ks gs vs a).2 k)) := QT2.out.at' (textsL_at _ k2); clear ho hgr ha)
        go_roundw
        case rel =>
          have e1 : mapM ks gs vs (a + 1) = (upd (mapM ks gs vs a).1 k true, upd (mapM ks gs vs a).2 k u) := by rw [mapM, if_neg (by rw [HGS.out]; exact Bool.noConfusion), HK.out, HVU.out]
          have e2 : rsM ks gs vs (a + 1) = rsM ks gs vs a ++ [⟨1, 0, t, u⟩] := by rw [rsM_snoc, recM, if_neg (by rw [HGS.out]; exact Bool.noConfusion), HK.out, HKT.out, HVU.out]
          refine ⟨a + 1, by omega, by omega, by first | go_num | (congr 1; omega), ?_, ?_, ?_, (QB.out.setCell (p := ⟨g, k, none⟩) (HF.out.base g rfl) _).setCell (p := ⟨g + 1, k, none⟩) (HT.out.base (g + 1) rfl) _, by simpa using QS.out⟩
          · rw [e2, flat_snoc]
            exact (Q3.out.off QF.out QV.out).off QT2.out QU.out
          · rw [e1, ← boolL_set]
            exact (QF.out.stored k _).1.off QT2.out (by simp [Value.ownBlock])
          · rw [e1, ← textsL_set]
            exact (QT2.out.stored k _).1
        case measure => simp [intOf]; omega
    · have bE := rsM_build ks gs vs a (fun i => (KS.out i).2) VZ.out
      have BA := build_any wr (.slice D a dc) (rsM ks gs vs a) (RdR.own O3.out) (by rw [rsM_len]; omega) (rsM_sizes ks gs vs a VZ.out)
      rw [bE.1, bE.2] at BA
      have hf := HF.out
      have ht := HT.out
      generalize (mapM ks gs vs a).1 = H at *
      generalize (mapM ks gs vs a).2 = V at *
      have CF := fun q hq => can_find H V q hq
      have CS := (sortQ_iff _).2 (can_sort H V 0 8 (by omega))
      have CL := canS_len H V 8
      have CL8 := cntH_le H 8
      generalize canS H V 0 8 = L at *
      obtain ⟨ln, hln⟩ : ∃ ln, L.length = ln := ⟨_, rfl⟩
      rw [hln] at CL
      have hln8 : ln ≤ 8 := by omega
      have FA := fun (W : World) (E : Option Addr) (ec : Nat) (t : ByteArray) (h : RdP W (.slice E ln ec) L) => find_any W (.slice E ln ec) L t h (by omega)
      have BH := Lib.hid BA
      have FH := Lib.hid hf
      have TH := Lib.hid ht
      have CFH := Lib.hid CF
      have CSH := Lib.hid CS
      have CLH := Lib.hid CL
      have FAH := Lib.hid FA
      have LNH := Lib.hid hln
      clear bE BA hf ht CF CS CL FA hln CL8 HF HT HP
      rcases hex with ⟨hd, hd2⟩ | ⟨hd, hd2, hd3⟩
      all_goals
        go_wp2_with fail
        with_reducible refine BH.out.mono ?_
        rintro e w2 ⟨v2, rfl, o2, hb⟩
        obtain ⟨E, ec, rfl⟩ := Own.slice o2
        rw [LNH.out]
        have PS := Lib.hid (show RdP w2 (.slice E ln ec) L by have h := OwnP.rd o2; rwa [LNH.out] at h)
        have B2 := Lib.hid (Bl.then HB.out hb)
        have F2 := Lib.hid (FH.out.below hb)
        have T2 := Lib.hid (TH.out.below hb)
        clear o2 hb
        go_wp2_with (go_at_call 22; refine (num_any _ _).mono ?_; rintro e w' ⟨rfl, rfl⟩)
        go_loopw [12, 13] (fun mny i wq => ∃ q : Nat, q ≤ 8 ∧ i = .int .i64 (q : Int) ∧ mny = .int .i64 (cntH H q : Int) ∧ Below w2.heap.size w2 wq) (fun _ i _ => (8 - intOf i).toNat)
        case atStart => exact ⟨0, by omega, rfl, rfl, Below.refl _ _⟩
        case round =>
          obtain ⟨q, hq8, rfl, rfl, hb⟩ := hrel
          have HQ := Lib.hid hb
          clear hb
          by_cases hlt : q < 8
          · have hlt2 : (q : Int) < 8 := by omega
            have hu : IntKind.u8.wrap (97 + (q : Int)) = 97 + (q : Int) := wrap_u8 _ (by omega) (by omega)
            have kc := text_one wr (97 + (q : Int)) (UInt8.ofNat (97 + q)) (by rw [← byte_of _ (by omega)]; omega) _ rfl
            have FC := FAH.out (wr.alloc (Obj.cells #[.int .u8 (97 + (q : Int))] 5)) E ec (keyM q) (PS.out.below (Bl.alloc HQ.out _))
            obtain ⟨c1, c2⟩ := CFH.out q hlt
            rw [c1] at FC
            have hc := cntH_le H q
            change (convert 46 9 (.slice (some ⟨wr.heap.size, 0, none⟩) 1 1)).run Try.prog _ = .ok (.string (keyM q)) _ at kc
            obtain ⟨t, ht⟩ : ∃ t, keyM q = t := ⟨_, rfl⟩
            rw [ht] at kc FC c2
            obtain ⟨fv, hfv⟩ : ∃ fv, findV L t = fv := ⟨_, rfl⟩
            rw [hfv] at FC c2
            have FCH := Lib.hid FC
            clear FC c1 ht hfv
            have gb : (boolL H)[q]? = some (.bool (H q)) := boolL_at H hlt
            have gt : (textsL V)[q]? = some (.string (V q)) := textsL_at V hlt
            have GB := Lib.hid gb
            have GT := Lib.hid gt
            clear gb gt
            have hcs : cntH H (q + 1) = cntH H q + (if H q = true then 1 else 0) := rfl
            cases hh : H q with
            | true =>
              rw [hh] at GB FCH hcs
              have hv := c2 hh
              subst hv
              have HCS := Lib.hid hcs
              clear c2 hh hcs
              go_wp2_with fail
              with_reducible refine FCH.out.mono ?_
              rintro e w3 ⟨rfl, hb⟩
              have HQ3 := Lib.hid (Bl.then (Bl.alloc HQ.out (Obj.cells #[.int .u8 (97 + (q : Int))] 5)) hb)
              have gc1 := (F2.out.below HQ3.out).at' GB.out
              have gc2 := (T2.out.below HQ3.out).at' GT.out
              clear hb
              go_wp2_with fail
              go_roundw
              case rel => exact ⟨q + 1, by omega, by first | go_num | (congr 1; omega), by rw [HCS.out]; first | go_num | (congr 1; simp), HQ3.out⟩
              case measure => simp [intOf]; omega
            | false =>
              rw [hh] at GB FCH hcs
              have HCS := Lib.hid hcs
              clear c2 hh hcs
              go_wp2_with fail
              with_reducible refine FCH.out.mono ?_
              rintro e w3 ⟨rfl, hb⟩
              have HQ3 := Lib.hid (Bl.then (Bl.alloc HQ.out (Obj.cells #[.int .u8 (97 + (q : Int))] 5)) hb)
              have gc1 := (F2.out.below HQ3.out).at' GB.out
              have gc2 := (T2.out.below HQ3.out).at' GT.out
              clear hb
              go_wp2_with fail
              go_roundw
              case rel => exact ⟨q + 1, by omega, by first | go_num | (congr 1; omega), by rw [HCS.out]; first | go_num | (congr 1; simp), HQ3.out⟩
              case measure => simp [intOf]; omega
          · obtain rfl : q = 8 := by omega
            rw [show ((8 : Nat) : Int) = 8 from rfl, ← CLH.out]
            have P3 := Lib.hid (PS.out.below HQ.out)
            have B3 := Lib.hid (Bl.then B2.out HQ.out)
            clear PS B2 F2 T2 HQ
            go_wp2_with fail
            go_loopw [16] (fun i wz => ∃ a q : Nat, 1 ≤ a ∧ (a ≤ ln ∨ a = 1) ∧ i = .int .i64 (a : Int) ∧ wz = wr.drewN q) (fun i _ => (ln - intOf i).toNat)
            case atStart => exact ⟨1, 0, Nat.le_refl _, .inr rfl, rfl, rfl⟩
            case round =>
              obtain ⟨a, q, ha1, han, rfl, rfl⟩ := hrel
              by_cases hlt : a < ln
              · have hlt2 : (a : Int) < (ln : Int) := by omega
                obtain ⟨B, o, c', hv, _, _, hcc⟩ := P3.out.pos (by rw [LNH.out]; omega)
                rw [LNH.out] at hv hcc
                obtain ⟨h1, _, h2⟩ := Value.slice.inj hv
                subst h1 h2
                obtain ⟨b, rfl⟩ : ∃ b, a = b + 1 := ⟨a - 1, by omega⟩
                obtain ⟨g0, _⟩ := hcc b (by omega)
                obtain ⟨f0, _⟩ := hcc (b + 1) hlt
                have hxy := CSH.out b (by rw [LNH.out]; exact hlt)
                obtain ⟨x, hx⟩ : ∃ z, (L.getD b zeroP).key = z := ⟨_, rfl⟩
                obtain ⟨y, hy⟩ : ∃ z, (L.getD (b + 1) zeroP).key = z := ⟨_, rfl⟩
                rw [hx] at g0 hxy
                rw [hy] at f0 hxy
                have h1 := leqK x y
                rw [hxy, Bool.not_true] at h1
                clear hcc hv hx hy hxy
                go_wp2_with fail
                go_quiet (fail)
                go_wp2_with fail
                go_roundw
                case rel => exact ⟨b + 1 + 1, _, by omega, .inl (by omega), by first | go_num | (congr 1; omega), by first | rfl | exact World.drewN_drewN ..⟩
                case measure => simp [intOf]; omega
              · have hd : decide ((a : Int) < (ln : Int)) = false := decide_eq_false (by omega)
                go_wp2_with fail
                go_ret
                exact ⟨rfl, Bl.drewN B3.out _⟩
end Go.Proofs.Ytdgnpoapkjoknaa
