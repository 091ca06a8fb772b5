/- script: Parse: the walk. -/
import Derived.Test.YtfdbolnifjpbhaaDoorScW
namespace Go.Proofs.YtfdbolnifjpbhaaDoor
set_option linter.unusedVariables false
set_option linter.unusedSimpArgs false
open Go.RowKit

theorem eqS (a b : ByteArray) : (a.toList == b.toList) = decide (a = b) := by
  by_cases h : a = b
  · subst h; simp
  · rw [ne_tl h, decide_eq_false h]
theorem OwnA.below' {W W' : World} {B : Nat} {v : Value} {ms : List ActM} (h : OwnA W B v ms) (hb : Below W.heap.size W W') : OwnA W' B v ms := h.below hb
set_option maxRecDepth 100000 in
set_option maxHeartbeats 8000000 in
theorem parse_any (s : ByteArray) (hs : s.size ≤ 140737488351232) (w : World) (htab : Lib.TabBelow Tryd.prog w.heap.size w "internal/strconv.uint64pow10" .u64 Lib.pow10Tab) :
    Calls Tryd.prog 10 #[.string s] w fun e w' => ∃ v ms, e = .returned (.tuple #[v, .int .i64 (readE s)]) ∧ OwnA w' w.heap.size v ms ∧ ms.map (·.a) = readL s ∧ Below w.heap.size w w' := by
  have HTAB := Lib.hid (fun (W : World) (hb : Below w.heap.size w W) => show Lib.TabBelow Tryd.prog W.heap.size W "internal/strconv.uint64pow10" .u64 Lib.pow10Tab from fun w' h' => htab w' (Bl.then hb h'))
  have ONE := Lib.hid (fun (g i : Nat) (W : World) (hb : WkB W w.heap.size g s i false) (hi : i < s.size) => one_w w.heap.size g s i W hb (by omega) hi)
  have SZ := Lib.hid (fun (i : Nat) => show SzA (oneR (walkR s) s i).1 from ⟨Nat.le_trans (wordG_le s _ _ _) hs, Nat.le_trans (wordG_le s _ _ _) hs, Nat.le_trans (wordG_le s _ _ _) hs⟩)
  obtain ⟨R, hR⟩ : ∃ R, parW (walkR s) s 257 0 = R := ⟨_, rfl⟩
  have HR := Lib.hid hR
  have I0 := Lib.hid (show ParI w s [] (.slice none 0 0) w.heap.size 0 false (w.alloc (Obj.cells #[.string s, .int .i64 ((0 : Nat) : Int), .bool false] 54)) from ⟨OwnA.nil _ _, ⟨rfl, .inr ⟨w.heap.size, 3, _, (0, 0), rfl, Nat.le_refl _, heap_alloc_new w _, .inr rfl, Nat.le_refl _, by decide, rfl, rfl⟩⟩, Bl.alloc (Below.refl _ _) _⟩)
  have hs9 : s.size ≤ 9223372036854775807 := by omega
  clear hR htab
  go_enter Tryd.func10, Tryd.ntmps10
  go_wp2_with fail
  go_loopw [4, 5] (fun v4 v5 wr => ∃ (ms : List ActM) (g i : Nat), v5 = .pointer (some ⟨g, 0, none⟩) ∧ ParI w s ms v4 g i false wr ∧ ms.length ≤ 256 ∧ (∀ m ∈ ms, SzA m.a) ∧ (parW (walkR s) s (257 - ms.length) i).map (ms.map (·.a) ++ ·) = R) (fun v4 v5 wr => 257 - lenV v4)
  case atStart => exact ⟨[], w.heap.size, 0, rfl, I0.out, Nat.zero_le _, fun m hm => by simp at hm, by rw [← HR.out]; simp⟩
  case round =>
    obtain ⟨ms, g, i, rfl, hI, hle, hsz, hRR⟩ := hrel
    obtain ⟨A, c, rfl⟩ := hI.own.1.slice
    obtain ⟨n, hn⟩ : ∃ n, ms.length = n := ⟨_, rfl⟩
    have HN := Lib.hid hn
    have HI := Lib.hid hI
    have HSZ := Lib.hid hsz
    have c1 := hI.wk.at' (j := 1) rfl
    clear hI hsz I0
    by_cases hi : i < s.size
    · have hi2 : (i : Int) < (s.size : Int) := by omega
      have d1 : decide ((i : Int) < (s.size : Int)) = true := decide_eq_true hi2
      have d2 : decide (i < s.size) = true := decide_eq_true hi
      have ON := Lib.hid (fun (W : World) (hb : WkB W w.heap.size g s i false) => ONE.out g i W hb hi)
      have hszi := SZ.out i
      obtain ⟨⟨a, i', l'⟩, hone⟩ : ∃ t, oneR (walkR s) s i = t := ⟨_, rfl⟩
      rw [hone] at ON hszi
      simp only at ON hszi
      have HSA := Lib.hid hszi
      have NO := Lib.hid (fun (hc : l' = true ∨ n = 256) => show R = none from by
        rw [← hRR, hn]
        exact parW_no (by omega) hi (by rw [hone]; exact hc))
      have GO := Lib.hid (fun (h1 : l' = false) (h2 : n < 256) => show (parW (walkR s) s (257 - (n + 1)) i').map ((ms.map (·.a) ++ [a]) ++ ·) = R from by
        have h := parW_go (R := walkR s) (s := s) (n := n) (i := i) (xs := ms.map (·.a)) h2 hi (by rw [hone]; exact h1)
        rw [hone] at h
        rw [← hRR, hn, h])
      have hbytes : (n + 1) * 128 ≤ 140737488355328 := by omega
      have hn256 : n ≤ 256 := by omega
      rw [hn]
      clear hone hszi hRR hle hn hi hi2
      have hcase : l' = true ∨ (l' = false ∧ n = 256) ∨ (l' = false ∧ n < 256) := by
        cases l' with
        | true => exact .inl rfl
        | false => exact (Nat.lt_or_ge n 256).elim (fun h => .inr (.inr ⟨rfl, h⟩)) (fun h => .inr (.inl ⟨rfl, by omega⟩))
      rcases hcase with rfl | ⟨rfl, hn6⟩ | ⟨rfl, hn6⟩
      · have PN := Lib.hid (parse_no HR.out (fun xs hx => by rw [NO.out (.inl rfl)] at hx; cases hx))
        go_wp2_with (first
          | (at_builtin; refine appO w.heap.size rfl (.tmp 17) (.tmp 19) 22 38 (.agg #[.int .i64 0, .string ⟨#[]⟩, .string ⟨#[]⟩, .int .i64 0, .int .i64 0, .int .i64 0, .string ⟨#[]⟩, .slice none 0 0, .slice none 0 0]) 9 128 rfl Tryd.underlying22 infoAct rfl (by decide) (by decide) (.slice A n c) n (flatA ms) rfl (some ⟨w1.heap.size + 1, 0, none⟩) 1 1 (cellsA ⟨⟨k, key, val, pl, wd, ls, mask, busy, reads⟩, .slice A1 busy.length c1', .slice A2 reads.length c2'⟩) rfl rfl (cellsA_one rfl rfl) (fun h => by cases h) (box_new _ _ _ _ (by simp)) OW.out GS.out hbytes ?_; intro v3 w3 ho hgw ha; have I3 := Lib.hid ((MM.out.alloc (Obj.cells (cellsA ⟨⟨k, key, val, pl, wd, ls, mask, busy, reads⟩, .slice A1 busy.length c1', .slice A2 reads.length c2'⟩).toArray 38)).app (by rw [HN.out]; exact ho) (by rw [HN.out]; exact hgw)); have y0 := I3.out.wk.at' (j := 0) rfl; have y1 := I3.out.wk.at' (j := 1) rfl; have y2 := I3.out.wk.at' (j := 2) rfl; obtain ⟨A3, c3, rfl⟩ := ho.slice; clear ho hgw ha)
          | (go_at_call 24; refine (ON.out _ HI.out.wk).mono ?_; rintro e w1 ⟨m, rfl, hma, hbv, hrv, hwk, hgr⟩; obtain ⟨⟨k, key, val, pl, wd, ls, mask, busy, reads⟩, bv, rv⟩ := m; have HMA := Lib.hid hma; have M1 := HI.out.read hbv hrv hwk hgr; obtain ⟨A1, c1', rfl⟩ : ∃ A c, bv = .slice A busy.length c := hbv.slice; obtain ⟨A2, c2', rfl⟩ : ∃ A c, rv = .slice A reads.length c := hrv.slice; have MM := Lib.hid (M1.alloc (Obj.cells (cellsA ⟨⟨k, key, val, pl, wd, ls, mask, busy, reads⟩, .slice A1 busy.length c1', .slice A2 reads.length c2'⟩).toArray 38)); have OW := Lib.hid (show Own ((w1.alloc (Obj.cells (cellsA ⟨⟨k, key, val, pl, wd, ls, mask, busy, reads⟩, .slice A1 busy.length c1', .slice A2 reads.length c2'⟩).toArray 38)).alloc (Obj.cells (cellsA ⟨⟨k, key, val, pl, wd, ls, mask, busy, reads⟩, .slice A1 busy.length c1', .slice A2 reads.length c2'⟩).toArray 38)) w.heap.size 38 9 (.slice A n c) n (flatA ms) from by have h := (MM.out.alloc (Obj.cells (cellsA ⟨⟨k, key, val, pl, wd, ls, mask, busy, reads⟩, .slice A1 busy.length c1', .slice A2 reads.length c2'⟩).toArray 38)).par.own.1; rw [HN.out] at h; exact h); have GS := Lib.hid (show w.heap.size ≤ ((w1.alloc (Obj.cells (cellsA ⟨⟨k, key, val, pl, wd, ls, mask, busy, reads⟩, .slice A1 busy.length c1', .slice A2 reads.length c2'⟩).toArray 38)).alloc (Obj.cells (cellsA ⟨⟨k, key, val, pl, wd, ls, mask, busy, reads⟩, .slice A1 busy.length c1', .slice A2 reads.length c2'⟩).toArray 38)).heap.size from (MM.out.alloc _).par.bl.size); clear hma hbv hrv hwk hgr M1; simp only [ActM.v]))
        go_ret2
        exact ⟨_, by rw [PN.out.2]; rfl, [], OwnA.nil _ _, PN.out.1.symm, I3.out.bl⟩
      · have PN := Lib.hid (parse_no HR.out (fun xs hx => by rw [NO.out (.inr hn6)] at hx; cases hx))
        have e1 : decide ((256 : Int) < (n : Int) + 1) = true := decide_eq_true (by omega)
        have e2 : decide (256 < n + 1) = true := decide_eq_true (by omega)
        clear hn6
        go_wp2_with (first
          | (at_builtin; refine appO w.heap.size rfl (.tmp 17) (.tmp 19) 22 38 (.agg #[.int .i64 0, .string ⟨#[]⟩, .string ⟨#[]⟩, .int .i64 0, .int .i64 0, .int .i64 0, .string ⟨#[]⟩, .slice none 0 0, .slice none 0 0]) 9 128 rfl Tryd.underlying22 infoAct rfl (by decide) (by decide) (.slice A n c) n (flatA ms) rfl (some ⟨w1.heap.size + 1, 0, none⟩) 1 1 (cellsA ⟨⟨k, key, val, pl, wd, ls, mask, busy, reads⟩, .slice A1 busy.length c1', .slice A2 reads.length c2'⟩) rfl rfl (cellsA_one rfl rfl) (fun h => by cases h) (box_new _ _ _ _ (by simp)) OW.out GS.out hbytes ?_; intro v3 w3 ho hgw ha; have I3 := Lib.hid ((MM.out.alloc (Obj.cells (cellsA ⟨⟨k, key, val, pl, wd, ls, mask, busy, reads⟩, .slice A1 busy.length c1', .slice A2 reads.length c2'⟩).toArray 38)).app (by rw [HN.out]; exact ho) (by rw [HN.out]; exact hgw)); have y0 := I3.out.wk.at' (j := 0) rfl; have y1 := I3.out.wk.at' (j := 1) rfl; have y2 := I3.out.wk.at' (j := 2) rfl; obtain ⟨A3, c3, rfl⟩ := ho.slice; clear ho hgw ha)
          | (go_at_call 24; refine (ON.out _ HI.out.wk).mono ?_; rintro e w1 ⟨m, rfl, hma, hbv, hrv, hwk, hgr⟩; obtain ⟨⟨k, key, val, pl, wd, ls, mask, busy, reads⟩, bv, rv⟩ := m; have HMA := Lib.hid hma; have M1 := HI.out.read hbv hrv hwk hgr; obtain ⟨A1, c1', rfl⟩ : ∃ A c, bv = .slice A busy.length c := hbv.slice; obtain ⟨A2, c2', rfl⟩ : ∃ A c, rv = .slice A reads.length c := hrv.slice; have MM := Lib.hid (M1.alloc (Obj.cells (cellsA ⟨⟨k, key, val, pl, wd, ls, mask, busy, reads⟩, .slice A1 busy.length c1', .slice A2 reads.length c2'⟩).toArray 38)); have OW := Lib.hid (show Own ((w1.alloc (Obj.cells (cellsA ⟨⟨k, key, val, pl, wd, ls, mask, busy, reads⟩, .slice A1 busy.length c1', .slice A2 reads.length c2'⟩).toArray 38)).alloc (Obj.cells (cellsA ⟨⟨k, key, val, pl, wd, ls, mask, busy, reads⟩, .slice A1 busy.length c1', .slice A2 reads.length c2'⟩).toArray 38)) w.heap.size 38 9 (.slice A n c) n (flatA ms) from by have h := (MM.out.alloc (Obj.cells (cellsA ⟨⟨k, key, val, pl, wd, ls, mask, busy, reads⟩, .slice A1 busy.length c1', .slice A2 reads.length c2'⟩).toArray 38)).par.own.1; rw [HN.out] at h; exact h); have GS := Lib.hid (show w.heap.size ≤ ((w1.alloc (Obj.cells (cellsA ⟨⟨k, key, val, pl, wd, ls, mask, busy, reads⟩, .slice A1 busy.length c1', .slice A2 reads.length c2'⟩).toArray 38)).alloc (Obj.cells (cellsA ⟨⟨k, key, val, pl, wd, ls, mask, busy, reads⟩, .slice A1 busy.length c1', .slice A2 reads.length c2'⟩).toArray 38)).heap.size from (MM.out.alloc _).par.bl.size); clear hma hbv hrv hwk hgr M1; simp only [ActM.v]))
        go_ret2
        exact ⟨_, by rw [PN.out.2]; rfl, [], OwnA.nil _ _, PN.out.1.symm, I3.out.bl⟩
      · have e1 : decide ((256 : Int) < (n : Int) + 1) = false := decide_eq_false (by omega)
        have e2 : decide (256 < n + 1) = false := decide_eq_false (by omega)
        have GG := Lib.hid (GO.out rfl hn6)
        have HM := Lib.hid (show 257 - (n + 1) < 257 - n from by omega)
        have HN6 := Lib.hid (show n + 1 ≤ 256 from hn6)
        clear hn6
        go_wp2_with (first
          | (at_builtin; refine appO w.heap.size rfl (.tmp 17) (.tmp 19) 22 38 (.agg #[.int .i64 0, .string ⟨#[]⟩, .string ⟨#[]⟩, .int .i64 0, .int .i64 0, .int .i64 0, .string ⟨#[]⟩, .slice none 0 0, .slice none 0 0]) 9 128 rfl Tryd.underlying22 infoAct rfl (by decide) (by decide) (.slice A n c) n (flatA ms) rfl (some ⟨w1.heap.size + 1, 0, none⟩) 1 1 (cellsA ⟨⟨k, key, val, pl, wd, ls, mask, busy, reads⟩, .slice A1 busy.length c1', .slice A2 reads.length c2'⟩) rfl rfl (cellsA_one rfl rfl) (fun h => by cases h) (box_new _ _ _ _ (by simp)) OW.out GS.out hbytes ?_; intro v3 w3 ho hgw ha; have I3 := Lib.hid ((MM.out.alloc (Obj.cells (cellsA ⟨⟨k, key, val, pl, wd, ls, mask, busy, reads⟩, .slice A1 busy.length c1', .slice A2 reads.length c2'⟩).toArray 38)).app (by rw [HN.out]; exact ho) (by rw [HN.out]; exact hgw)); have y0 := I3.out.wk.at' (j := 0) rfl; have y1 := I3.out.wk.at' (j := 1) rfl; have y2 := I3.out.wk.at' (j := 2) rfl; obtain ⟨A3, c3, rfl⟩ := ho.slice; clear ho hgw ha)
          | (go_at_call 24; refine (ON.out _ HI.out.wk).mono ?_; rintro e w1 ⟨m, rfl, hma, hbv, hrv, hwk, hgr⟩; obtain ⟨⟨k, key, val, pl, wd, ls, mask, busy, reads⟩, bv, rv⟩ := m; have HMA := Lib.hid hma; have M1 := HI.out.read hbv hrv hwk hgr; obtain ⟨A1, c1', rfl⟩ : ∃ A c, bv = .slice A busy.length c := hbv.slice; obtain ⟨A2, c2', rfl⟩ : ∃ A c, rv = .slice A reads.length c := hrv.slice; have MM := Lib.hid (M1.alloc (Obj.cells (cellsA ⟨⟨k, key, val, pl, wd, ls, mask, busy, reads⟩, .slice A1 busy.length c1', .slice A2 reads.length c2'⟩).toArray 38)); have OW := Lib.hid (show Own ((w1.alloc (Obj.cells (cellsA ⟨⟨k, key, val, pl, wd, ls, mask, busy, reads⟩, .slice A1 busy.length c1', .slice A2 reads.length c2'⟩).toArray 38)).alloc (Obj.cells (cellsA ⟨⟨k, key, val, pl, wd, ls, mask, busy, reads⟩, .slice A1 busy.length c1', .slice A2 reads.length c2'⟩).toArray 38)) w.heap.size 38 9 (.slice A n c) n (flatA ms) from by have h := (MM.out.alloc (Obj.cells (cellsA ⟨⟨k, key, val, pl, wd, ls, mask, busy, reads⟩, .slice A1 busy.length c1', .slice A2 reads.length c2'⟩).toArray 38)).par.own.1; rw [HN.out] at h; exact h); have GS := Lib.hid (show w.heap.size ≤ ((w1.alloc (Obj.cells (cellsA ⟨⟨k, key, val, pl, wd, ls, mask, busy, reads⟩, .slice A1 busy.length c1', .slice A2 reads.length c2'⟩).toArray 38)).alloc (Obj.cells (cellsA ⟨⟨k, key, val, pl, wd, ls, mask, busy, reads⟩, .slice A1 busy.length c1', .slice A2 reads.length c2'⟩).toArray 38)).heap.size from (MM.out.alloc _).par.bl.size); clear hma hbv hrv hwk hgr M1; simp only [ActM.v]))
        go_roundw
        case rel => exact ⟨ms ++ [⟨⟨k, key, val, pl, wd, ls, mask, busy, reads⟩, .slice A1 busy.length c1', .slice A2 reads.length c2'⟩], w3.heap.size, i', rfl, I3.out.box i' false, by rw [List.length_append, HN.out]; exact HN6.out, fun m hm => by
          rcases List.mem_append.1 hm with hm | hm
          · exact HSZ.out m hm
          · obtain rfl := List.mem_singleton.1 hm
            have h := HSA.out
            rw [← HMA.out] at h
            exact h, by
          rw [List.length_append, HN.out, List.map_append, List.map_singleton]
          have h := GG.out
          rw [← HMA.out] at h
          exact h⟩
        case measure => exact HM.out
    · have d1 : decide ((i : Int) < (s.size : Int)) = false := decide_eq_false (by omega)
      have d2 : decide (i < s.size) = false := decide_eq_false hi
      have hE : R = some (ms.map (·.a)) := by
        rw [← hRR, hn]
        exact parW_end (R := walkR s) (s := s) (n := n) (i := i) (xs := ms.map (·.a)) (by omega) (by omega)
      have HE := Lib.hid hE
      have SH := Lib.hid (show_any (.slice A ms.length c) ms wr (OwnA.rd HI.out.own) HSZ.out (HTAB.out wr HI.out.bl))
      rw [hn] at SH
      rw [hn]
      obtain ⟨acts, hacts⟩ : ∃ acts, ms.map (·.a) = acts := ⟨_, rfl⟩
      have HA := Lib.hid hacts
      rw [hacts] at SH HE
      clear hE hRR hle hn hi hacts
      by_cases ho : showOk acts
      · have h1 := show_yes ho
        obtain ⟨t, ht⟩ : ∃ t, showT acts = t := ⟨_, rfl⟩
        rw [h1.2, ht] at SH
        by_cases hts : t = s
        · have TT := Lib.hid (told_of h1.2 (ht.trans hts)).eq
          clear ho h1 ht
          subst hts
          go_wp2_with (go_at_call 8; refine SH.out.mono ?_; rintro e w2 ⟨rfl, hb2⟩; have HB2 := Lib.hid hb2; clear hb2)
          go_ret2
          exact ⟨.slice A n c, ms, by rw [TT.out.2]; rfl, by have h := HI.out.own.below' HB2.out; rw [HN.out] at h; exact h, by rw [HA.out]; exact TT.out.1.symm, Bl.then HI.out.bl HB2.out⟩
        · have PN := Lib.hid (parse_no HR.out (fun xs hx => by
            rw [HE.out] at hx
            obtain rfl := Option.some.inj hx
            exact fun hT => hts (by rw [← ht]; exact hT.show.2)))
          have hne : (t.toList == s.toList) = false := by rw [eqS]; exact decide_eq_false hts
          clear ho h1 ht hts
          go_wp2_with (go_at_call 8; refine SH.out.mono ?_; rintro e w2 ⟨rfl, hb2⟩; have HB2 := Lib.hid hb2; clear hb2)
          go_ret2
          exact ⟨_, [], by rw [PN.out.2]; rfl, OwnA.nil _ _, PN.out.1.symm, Bl.then HI.out.bl HB2.out⟩
      · have h1 := show_no ho
        obtain ⟨t, ht⟩ : ∃ t, showT acts = t := ⟨_, rfl⟩
        rw [h1.2, ht] at SH
        have PN := Lib.hid (parse_no HR.out (fun xs hx => by
          rw [HE.out] at hx
          obtain rfl := Option.some.inj hx
          exact fun hT => ho hT.1))
        clear ho h1 ht
        go_wp2_with (go_at_call 8; refine SH.out.mono ?_; rintro e w2 ⟨rfl, hb2⟩; have HB2 := Lib.hid hb2; clear hb2)
        go_ret2
        exact ⟨_, [], by rw [PN.out.2]; rfl, OwnA.nil _ _, PN.out.1.symm, Bl.then HI.out.bl HB2.out⟩
end Go.Proofs.YtfdbolnifjpbhaaDoor
