/- The document's With: the walk. -/
import Derived.Test.YtdgnpoapkjoknaaIdxI
import Derived.Test.YtdgnpoapkjoknaaIdxD
import Derived.Laws.Cover1
namespace Go.Proofs.Ytdgnpoapkjoknaa
set_option linter.unusedVariables false
set_option linter.unusedSimpArgs false
open Go.RowKit

theorem docN_len (ps : List PairV) (r : RecV) : ∀ a, (docN ps r a).1.length ≤ a + (if (docN ps r a).2 = true then 1 else 0)
  | 0 => by simp [docN]
  | a + 1 => by
    have ih := docN_len ps r a
    rw [docN]
    generalize docN ps r a = z at ih ⊢
    obtain ⟨L, b⟩ := z
    cases b with
    | true =>
      by_cases e : (ps.getD a zeroP).key = r.key
      · rw [docS_t0 e]; simp at ih ⊢; omega
      · rw [docS_t1 e]; simp at ih ⊢; omega
    | false =>
      cases hl : ltK (ps.getD a zeroP).key r.key with
      | true =>
        rw [docS_f1 hl (fun e => by rw [e, ltK_irr] at hl; cases hl)]; simp at ih ⊢; omega
      | false =>
        by_cases e : (ps.getD a zeroP).key = r.key
        · rw [docS_fe hl e]; simp at ih ⊢; omega
        · rw [docS_fn hl e]; simp at ih ⊢; omega
theorem sorted_notD {ps : List PairV} {k : Nat} (hk : k + 1 < ps.length) (h : ltK (ps.getD k zeroP).key (ps.getD (k + 1) zeroP).key = false) : ¬ SortedP ps := fun hs => by
  rw [hs k hk] at h; cases h
theorem leqK (x y : ByteArray) : (Op.bytesLess y.toList x.toList || y.toList == x.toList) = !(ltK x y) := by
  rw [eqK]
  cases h : ltK x y with
  | true =>
    have h1 : Op.bytesLess y.toList x.toList = false := ltK_asym h
    have h2 : y ≠ x := by rintro rfl; rw [ltK_irr] at h; cases h
    rw [h1, decide_eq_false h2]; rfl
  | false =>
    cases h2 : ltK y x with
    | true =>
      have h1 : Op.bytesLess y.toList x.toList = true := h2
      rw [h1]; rfl
    | false =>
      have := ltK_tri h2 h
      rw [decide_eq_true this]; simp
set_option maxRecDepth 100000 in
set_option maxHeartbeats 8000000 in
theorem rwith_any (w : World) (v : Value) (ps : List PairV) (r : RecV) (h : RdP w v ps) (hb : (ps.length + 1) * 32 ≤ 140737488355328) (z1 : r.key.size ≤ 9223372036854775807) (z2 : r.val.size ≤ 9223372036854775807) :
    Calls Try.prog 18 #[v, r.v] w fun e w' => ∃ v', e = .returned (.tuple #[v', .int .i64 (withE ps r)]) ∧ OwnP w' w.heap.size v' (withL ps r) ∧ Below w.heap.size w w' := by
  obtain ⟨n, hn⟩ : ∃ n, ps.length = n := ⟨_, rfl⟩
  have hmax : (n + 1) * 32 ≤ 140737488355328 := by omega
  have IM := Lib.hid (fun w => rmay_any r w z1 z2)
  obtain ⟨A, c, rfl⟩ := h.form
  have HP := Lib.hid (show RdP w (.slice A n c) ps by rw [← hn]; exact h)
  obtain ⟨we, hwe⟩ : ∃ z, withE ps r = z := ⟨_, rfl⟩
  obtain ⟨wl, hwl⟩ : ∃ z, withL ps r = z := ⟨_, rfl⟩
  rw [hn, hwe, hwl]
  have HN := Lib.hid hn
  have HWE := Lib.hid hwe
  have HWL := Lib.hid hwl
  obtain ⟨k, e0, key, val⟩ := r
  have X := Lib.hid (Bx.new w (.int .i64 k) (.int .i64 e0) (.string key) (.string val) 25)
  have BB := Lib.hid (Bl.alloc (Below.refl w.heap.size w) (Obj.cells #[.int .i64 k, .int .i64 e0, .string key, .string val] 25))
  show Calls Try.prog 18 #[_, .agg #[.int .i64 k, .int .i64 e0, .string key, .string val]] w _
  change Hid (∀ w : World, Calls Try.prog 35 #[.agg #[.int .i64 k, .int .i64 e0, .string key, .string val]] w _) at IM
  clear h hb hn hwe hwl z1 z2
  go_enter Try.func18, Try.ntmps18
  go_wp2_with fail
  generalize w.alloc (Obj.cells #[.int .i64 k, .int .i64 e0, .string key, .string val] 25) = W at *
  have HPW := Lib.hid (HP.out.below BB.out)
  go_loopw [6] (fun i wr => ∃ a q : Nat, 1 ≤ a ∧ (a ≤ n ∨ a = 1) ∧ i = .int .i64 (a : Int) ∧ (∀ j, j + 1 < a → ltK (ps.getD j zeroP).key (ps.getD (j + 1) zeroP).key = true) ∧ wr = W.drewN q) (fun i _ => (n - intOf i).toNat)
  case atStart => exact ⟨1, 0, Nat.le_refl _, .inr rfl, rfl, fun j hj => absurd hj (by omega), rfl⟩
  case round =>
    obtain ⟨a, q, ha1, han, rfl, hlo, rfl⟩ := hrel
    have HL := Lib.hid hlo
    clear hlo
    by_cases hlt : a < n
    · have hlt2 : (a : Int) < (n : Int) := by omega
      obtain ⟨B, o, c', hv, _, _, hcc⟩ := HPW.out.pos (by rw [HN.out]; omega)
      rw [HN.out] at hv hcc
      obtain ⟨h1, _, h2⟩ := Value.slice.inj hv
      subst h1 h2
      obtain ⟨b, rfl⟩ : ∃ b, a = b + 1 := ⟨a - 1, by omega⟩
      obtain ⟨g0, _⟩ := hcc b (by omega)
      obtain ⟨f0, _⟩ := hcc (b + 1) hlt
      obtain ⟨x, hx⟩ : ∃ z, (ps.getD b zeroP).key = z := ⟨_, rfl⟩
      obtain ⟨y, hy⟩ : ∃ z, (ps.getD (b + 1) zeroP).key = z := ⟨_, rfl⟩
      rw [hx] at g0
      rw [hy] at f0
      have HX := Lib.hid hx
      have HY := Lib.hid hy
      clear hcc hv hx hy
      have h1 := leqK x y
      cases hxy : ltK x y with
      | true =>
        rw [hxy, Bool.not_true] at h1
        have HXY := Lib.hid hxy
        clear hxy
        go_wp2_with fail
        go_quiet (fail)
        go_wp2_with fail
        go_roundw
        case rel =>
          refine ⟨b + 1 + 1, _, by omega, .inl (by omega), by first | go_num | (congr 1; omega), fun j hj => ?_, by first | rfl | exact World.drewN_drewN ..⟩
          by_cases hjb : j = b
          · subst hjb; rw [HX.out, HY.out]; exact HXY.out
          · exact HL.out j (by omega)
        case measure => simp [intOf]; omega
      | false =>
        rw [hxy, Bool.not_false] at h1
        have hno : ¬ withOk ps ⟨k, e0, key, val⟩ := fun h => sorted_notD (k := b) (by rw [HN.out]; exact hlt) (by rw [HX.out, HY.out]; exact hxy) h.1
        have e1 := HWE.out
        have e2 := HWL.out
        rw [withE, if_neg hno] at e1
        rw [withL, if_neg hno] at e2
        subst e1 e2
        clear hxy hno
        go_wp2_with fail
        go_quiet (fail)
        go_wp2_with fail
        go_ret2
        exact ⟨_, rfl, OwnP.nil _ _, Bl.drewN (Bl.drewN BB.out _) _⟩
    · have hd : decide ((a : Int) < (n : Int)) = false := decide_eq_false (by omega)
      have hs : SortedP ps := fun j hj => HL.out j (by rw [HN.out] at hj; omega)
      have HSS := Lib.hid hs
      clear hs
      obtain ⟨⟨x0, x1, x2, x3⟩, -⟩ := X.out
      go_wp2_with fail
      refine (IM.out _).mono ?_
      rintro e w1 ⟨rfl, hb⟩
      have B1 := Lib.hid (Bl.then (Bl.drewN BB.out q) hb)
      have X1 := Lib.hid (Bx.below (Bx.below X.out (Bl.drewN (Below.refl _ _) q)) hb)
      clear hb x0 x1 x2 x3 X BB HL
      obtain ⟨⟨x0, x1, x2, x3⟩, -⟩ := X1.out
      by_cases hl : liveP ⟨k, e0, key, val⟩
      · have hok : withOk ps ⟨k, e0, key, val⟩ := ⟨HSS.out, hl⟩
        have e1 := HWE.out
        have e2 := HWL.out
        rw [withE, if_pos hok] at e1
        rw [withL, if_pos hok, ← docL_put hok] at e2
        subst e1
        have E2 := Lib.hid e2
        have hm : mayB ⟨k, e0, key, val⟩ = true := decide_eq_true hl.1
        rw [hm]
        have hk := liveP_k hl
        have HK := Lib.hid (show k = 1 ∨ k = 2 from hk)
        have hk0 : (k == 0) = false := by rw [beq_eq_false_iff_ne]; exact hl.2
        obtain ⟨kb, hkb⟩ : ∃ z, (k == 2) = z := ⟨_, rfl⟩
        have hkb2 : decide (k = 2) = kb := by rw [← hkb]; rfl
        have HKB := Lib.hid hkb2
        clear hok e2 hl hk hm HWE HWL IM
        go_wp2_with fail
        generalize w1 = W2 at *
        have HPW2 := Lib.hid (HP.out.below B1.out)
        obtain ⟨R, hR⟩ : ∃ R : RecV, R = ⟨k, e0, key, val⟩ := ⟨_, rfl⟩
        have rk : R.key = key := by rw [hR]
        have rv : R.val = val := by rw [hR]
        rw [← hR] at E2
        have d0 : docN ps R 0 = ([], kb) := by rw [docN, hR, hkb2]
        have D0 := Lib.hid d0
        have RK := Lib.hid rk
        have RV := Lib.hid rv
        clear d0 hR rk rv x0 x1 x2 x3 hkb hkb2 hk0
        go_loopw [7, 8, 9] (fun v7 v8 i wr => ∃ a : Nat, a ≤ n ∧ i = .int .i64 (a : Int) ∧ v8 = .bool (docN ps R a).2 ∧ OwnP wr W2.heap.size v7 (docN ps R a).1 ∧ Below W2.heap.size W2 wr) (fun _ _ i _ => (n - intOf i).toNat)
        case atStart => exact ⟨0, by omega, rfl, by rw [D0.out], by rw [D0.out]; exact OwnP.nil _ _, Below.refl _ _⟩
        case round =>
          obtain ⟨a, han2, rfl, rfl, o7, hbq⟩ := hrel
          have hlen := docN_len ps R a
          rcases hD : docN ps R a with ⟨L, pb⟩
          rw [hD] at o7 hlen
          simp only at o7 hlen
          obtain ⟨D, dc, rfl⟩ := Own.slice o7
          have O7 := Lib.hid o7
          have HQ := Lib.hid hbq
          have HD := Lib.hid hD
          have XQ := Lib.hid (Bx.below X1.out hbq)
          have HPQ := Lib.hid (HPW2.out.below hbq)
          obtain ⟨⟨x0, x1, x2, x3⟩, -⟩ := XQ.out
          clear o7 hbq hD
          by_cases hlt3 : a < n
          · have hlt2 : (a : Int) < (n : Int) := by omega
            obtain ⟨B, o, c', hv, _, _, hcc⟩ := HPW2.out.pos (by rw [HN.out]; omega)
            rw [HN.out] at hv hcc
            obtain ⟨h1, _, h2⟩ := Value.slice.inj hv
            subst h1 h2
            obtain ⟨g0, g1⟩ := hcc a hlt3
            have hnx : docN ps R (a + 1) = docS R (ps.getD a zeroP) (L, pb) := by rw [docN, HD.out]
            obtain ⟨p, hp⟩ : ∃ z, ps.getD a zeroP = z := ⟨_, rfl⟩
            rw [hp] at g0 g1 hnx
            obtain ⟨pk, pv⟩ := p
            simp only at g0 g1
            have HNX := Lib.hid hnx
            have lt2 := eqK pk key
            have G0 := Lib.hid g0
            have G1 := Lib.hid g1
            have KB := Lib.hid (fun (w' : World) (hb : Below W2.heap.size W2 w') (ad : Addr) (v : Value) (h : W2.cell? ad = some v) => (hb.cell (World.block_lt_of_cell? _ _ h)).trans h)
            clear g0 g1
            have g0 := KB.out wr HQ.out _ _ G0.out
            have g1 := KB.out wr HQ.out _ _ G1.out
            clear hcc hv hnx hp
            by_cases heq : pk = key
            · cases pb with
              | true =>
                have hlb : L.length ≤ a + 1 := by simpa using hlen
                rw [decide_eq_true heq] at lt2
                have hst := HNX.out
                rw [docS_t0 (by rw [RK.out]; exact heq)] at hst
                have HST := Lib.hid hst
                clear hst hlen heq
                go_wp2_with fail
                go_quiet (fail)
                generalize nq = n1 at *
                go_wp2_with fail
                go_quiet (fail)
                generalize nq = n2 at *
                go_wp2_with fail
                go_roundw
                case rel => exact ⟨a + 1, by omega, by first | go_num | (congr 1; omega), by rw [HST.out], by rw [HST.out]; exact O7.out, (Bl.drewN HQ.out _)⟩
                case measure => simp [intOf]; omega
              | false =>
                have hlk : ltK pk key = false := by rw [heq]; exact ltK_irr key
                have hlb : L.length ≤ a := by simpa using hlen
                rw [decide_eq_true heq] at lt2
                have lt1 : Op.bytesLess pk.toList key.toList = false := hlk
                have hst := HNX.out
                rw [docS_fe (by rw [RK.out]; exact hlk) (by rw [RK.out]; exact heq), RK.out, RV.out] at hst
                have HST := Lib.hid hst
                clear hst hlen heq hlk
                go_wp2_with fail
                go_quiet (fail)
                generalize nq = n1 at *
                go_wp2_with (at_builtin; refine appO W2.heap.size rfl (.tmp 57) (.tmp 63) 23 48 (.agg #[.string ⟨#[]⟩, .string ⟨#[]⟩]) 2 32 rfl Try.underlying23 infoPair zerosP_cells (by decide) (by decide) (.slice D L.length dc) L.length (flatP L) rfl (some ⟨(wr.drewN n1).heap.size, 0, none⟩) 1 1 (cellsP2 (PairV.mk key val)) rfl rfl (cellsP2_one (PairV.mk key val)) (fun h => by cases h) (fun ad had j u hu => by obtain rfl := Option.some.inj had; rw [Addr.add_lit, Nat.zero_add]; exact (OneP.new (wr.drewN n1) (PairV.mk key val)).cells j u hu) (Own.alloc (Own.drewN O7.out n1) _) (Nat.le_trans (Bl.drewN HQ.out n1).size (Bl.alloc (Below.refl _ _) _).size) (by omega) ?_; intro Q1_v Q1_w ho hg ha; obtain ⟨Q1_A, Q1_c, rfl⟩ := Own.slice ho; have Q1_O := Lib.hid ho; have Q1_B := Lib.hid (Below.grown (Bl.alloc (Bl.drewN HQ.out n1) (Obj.cells #[.string ((PairV.mk key val)).key, .string ((PairV.mk key val)).val] 48)) hg (Bl.alloc (Bl.drewN HQ.out n1) (Obj.cells #[.string ((PairV.mk key val)).key, .string ((PairV.mk key val)).val] 48)).size (fun q hq => Own.base (Own.drewN O7.out n1) q hq)); clear ho hg ha)
                clear g0 g1 x0 x1 x2 x3
                have g0 := KB.out Q1_w Q1_B.out _ _ G0.out
                have g1 := KB.out Q1_w Q1_B.out _ _ G1.out
                obtain ⟨⟨x0, x1, x2, x3⟩, -⟩ := Bx.below X1.out Q1_B.out
                go_quiet (fail)
                go_wp2_with fail
                go_roundw
                case rel => exact ⟨a + 1, by omega, by first | go_num | (congr 1; omega), by rw [HST.out], by rw [HST.out]; exact (show Own Q1_w W2.heap.size 48 2 (.slice Q1_A (L.length + 1) Q1_c) (L ++ [PairV.mk key val]).length (flatP (L ++ [PairV.mk key val])) by rw [List.length_append, flatP_snoc]; exact Q1_O.out), Bl.drewN Q1_B.out _⟩
                case measure => simp [intOf]; omega
            · cases pb with
              | true =>
                have hlb : L.length ≤ a + 1 := by simpa using hlen
                rw [decide_eq_false heq] at lt2
                have hst := HNX.out
                rw [docS_t1 (by rw [RK.out]; exact heq)] at hst
                have HST := Lib.hid hst
                clear hst hlen heq
                go_wp2_with fail
                go_quiet (fail)
                generalize nq = n1 at *
                go_wp2_with fail
                go_quiet (fail)
                generalize nq = n2 at *
                go_wp2_with (at_builtin; refine appO W2.heap.size rfl (.tmp 73) (.tmp 78) 23 48 (.agg #[.string ⟨#[]⟩, .string ⟨#[]⟩]) 2 32 rfl Try.underlying23 infoPair zerosP_cells (by decide) (by decide) (.slice D L.length dc) L.length (flatP L) rfl (some ⟨(wr.drewN (n1 + n2)).heap.size, 0, none⟩) 1 1 (cellsP2 (PairV.mk pk pv)) rfl rfl (cellsP2_one (PairV.mk pk pv)) (fun h => by cases h) (fun ad had j u hu => by obtain rfl := Option.some.inj had; rw [Addr.add_lit, Nat.zero_add]; exact (OneP.new (wr.drewN (n1 + n2)) (PairV.mk pk pv)).cells j u hu) (Own.alloc (Own.drewN O7.out (n1 + n2)) _) (Nat.le_trans (Bl.drewN HQ.out (n1 + n2)).size (Bl.alloc (Below.refl _ _) _).size) (by omega) ?_; intro Q2_v Q2_w ho hg ha; obtain ⟨Q2_A, Q2_c, rfl⟩ := Own.slice ho; have Q2_O := Lib.hid ho; have Q2_B := Lib.hid (Below.grown (Bl.alloc (Bl.drewN HQ.out (n1 + n2)) (Obj.cells #[.string ((PairV.mk pk pv)).key, .string ((PairV.mk pk pv)).val] 48)) hg (Bl.alloc (Bl.drewN HQ.out (n1 + n2)) (Obj.cells #[.string ((PairV.mk pk pv)).key, .string ((PairV.mk pk pv)).val] 48)).size (fun q hq => Own.base (Own.drewN O7.out (n1 + n2)) q hq)); clear ho hg ha)
                go_roundw
                case rel => exact ⟨a + 1, by omega, by first | go_num | (congr 1; omega), by rw [HST.out], by rw [HST.out]; exact (show Own Q2_w W2.heap.size 48 2 (.slice Q2_A (L.length + 1) Q2_c) (L ++ [PairV.mk pk pv]).length (flatP (L ++ [PairV.mk pk pv])) by rw [List.length_append, flatP_snoc]; exact Q2_O.out), Q2_B.out⟩
                case measure => simp [intOf]; omega
              | false =>
                cases hlk : ltK pk key with
                | true =>
                  have hlb : L.length ≤ a := by simpa using hlen
                  rw [decide_eq_false heq] at lt2
                  have lt1 : Op.bytesLess pk.toList key.toList = true := hlk
                  have hst := HNX.out
                  rw [docS_f1 (by rw [RK.out]; exact hlk) (by rw [RK.out]; exact heq)] at hst
                  have HST := Lib.hid hst
                  clear hst hlen heq hlk
                  go_wp2_with fail
                  go_quiet (fail)
                  generalize nq = n1 at *
                  go_wp2_with fail
                  go_quiet (fail)
                  generalize nq = n2 at *
                  go_wp2_with (at_builtin; refine appO W2.heap.size rfl (.tmp 73) (.tmp 78) 23 48 (.agg #[.string ⟨#[]⟩, .string ⟨#[]⟩]) 2 32 rfl Try.underlying23 infoPair zerosP_cells (by decide) (by decide) (.slice D L.length dc) L.length (flatP L) rfl (some ⟨(wr.drewN (n1 + n2)).heap.size, 0, none⟩) 1 1 (cellsP2 (PairV.mk pk pv)) rfl rfl (cellsP2_one (PairV.mk pk pv)) (fun h => by cases h) (fun ad had j u hu => by obtain rfl := Option.some.inj had; rw [Addr.add_lit, Nat.zero_add]; exact (OneP.new (wr.drewN (n1 + n2)) (PairV.mk pk pv)).cells j u hu) (Own.alloc (Own.drewN O7.out (n1 + n2)) _) (Nat.le_trans (Bl.drewN HQ.out (n1 + n2)).size (Bl.alloc (Below.refl _ _) _).size) (by omega) ?_; intro Q2_v Q2_w ho hg ha; obtain ⟨Q2_A, Q2_c, rfl⟩ := Own.slice ho; have Q2_O := Lib.hid ho; have Q2_B := Lib.hid (Below.grown (Bl.alloc (Bl.drewN HQ.out (n1 + n2)) (Obj.cells #[.string ((PairV.mk pk pv)).key, .string ((PairV.mk pk pv)).val] 48)) hg (Bl.alloc (Bl.drewN HQ.out (n1 + n2)) (Obj.cells #[.string ((PairV.mk pk pv)).key, .string ((PairV.mk pk pv)).val] 48)).size (fun q hq => Own.base (Own.drewN O7.out (n1 + n2)) q hq)); clear ho hg ha)
                  go_roundw
                  case rel => exact ⟨a + 1, by omega, by first | go_num | (congr 1; omega), by rw [HST.out], by rw [HST.out]; exact (show Own Q2_w W2.heap.size 48 2 (.slice Q2_A (L.length + 1) Q2_c) (L ++ [PairV.mk pk pv]).length (flatP (L ++ [PairV.mk pk pv])) by rw [List.length_append, flatP_snoc]; exact Q2_O.out), Q2_B.out⟩
                  case measure => simp [intOf]; omega
                | false =>
                  have hlb : L.length ≤ a := by simpa using hlen
                  rw [decide_eq_false heq] at lt2
                  have lt1 : Op.bytesLess pk.toList key.toList = false := hlk
                  have hst := HNX.out
                  rw [docS_fn (by rw [RK.out]; exact hlk) (by rw [RK.out]; exact heq), RK.out, RV.out] at hst
                  have HST := Lib.hid hst
                  clear hst hlen heq hlk
                  go_wp2_with fail
                  go_quiet (fail)
                  generalize nq = n1 at *
                  go_wp2_with (at_builtin; refine appO W2.heap.size rfl (.tmp 57) (.tmp 63) 23 48 (.agg #[.string ⟨#[]⟩, .string ⟨#[]⟩]) 2 32 rfl Try.underlying23 infoPair zerosP_cells (by decide) (by decide) (.slice D L.length dc) L.length (flatP L) rfl (some ⟨(wr.drewN n1).heap.size, 0, none⟩) 1 1 (cellsP2 (PairV.mk key val)) rfl rfl (cellsP2_one (PairV.mk key val)) (fun h => by cases h) (fun ad had j u hu => by obtain rfl := Option.some.inj had; rw [Addr.add_lit, Nat.zero_add]; exact (OneP.new (wr.drewN n1) (PairV.mk key val)).cells j u hu) (Own.alloc (Own.drewN O7.out n1) _) (Nat.le_trans (Bl.drewN HQ.out n1).size (Bl.alloc (Below.refl _ _) _).size) (by omega) ?_; intro Q1_v Q1_w ho hg ha; obtain ⟨Q1_A, Q1_c, rfl⟩ := Own.slice ho; have Q1_O := Lib.hid ho; have Q1_B := Lib.hid (Below.grown (Bl.alloc (Bl.drewN HQ.out n1) (Obj.cells #[.string ((PairV.mk key val)).key, .string ((PairV.mk key val)).val] 48)) hg (Bl.alloc (Bl.drewN HQ.out n1) (Obj.cells #[.string ((PairV.mk key val)).key, .string ((PairV.mk key val)).val] 48)).size (fun q hq => Own.base (Own.drewN O7.out n1) q hq)); clear ho hg ha)
                  clear g0 g1 x0 x1 x2 x3
                  have g0 := KB.out Q1_w Q1_B.out _ _ G0.out
                  have g1 := KB.out Q1_w Q1_B.out _ _ G1.out
                  obtain ⟨⟨x0, x1, x2, x3⟩, -⟩ := Bx.below X1.out Q1_B.out
                  go_quiet (fail)
                  generalize nq = n2 at *
                  obtain ⟨L2, hL2⟩ : ∃ z, L ++ [PairV.mk key val] = z := ⟨_, rfl⟩
                  have O9 : Own (Q1_w.drewN n2) W2.heap.size 48 2 (.slice Q1_A (L.length + 1) Q1_c) (L.length + 1) (flatP L2) := by rw [← hL2, flatP_snoc]; exact Q1_O.out
                  have HO9 := Lib.hid O9
                  have HL2 := Lib.hid hL2
                  have hm2 : (L.length + 1 + 1) * 32 ≤ 140737488355328 := Nat.le_trans (Nat.mul_le_mul_right 32 (Nat.succ_le_succ (Nat.succ_le_of_lt (Nat.lt_of_le_of_lt hlb hlt3)))) hmax
                  have HM2 := Lib.hid hm2
                  clear O9 hL2 hm2
                  go_wp2_with (at_builtin; refine appO W2.heap.size rfl (.tmp 73) (.tmp 78) 23 48 (.agg #[.string ⟨#[]⟩, .string ⟨#[]⟩]) 2 32 rfl Try.underlying23 infoPair zerosP_cells (by decide) (by decide) (.slice Q1_A (L.length + 1) Q1_c) (L.length + 1) (flatP L2) rfl (some ⟨(Q1_w.drewN n2).heap.size, 0, none⟩) 1 1 (cellsP2 (PairV.mk pk pv)) rfl rfl (cellsP2_one (PairV.mk pk pv)) (fun h => by cases h) (fun ad had j u hu => by obtain rfl := Option.some.inj had; rw [Addr.add_lit, Nat.zero_add]; exact (OneP.new (Q1_w.drewN n2) (PairV.mk pk pv)).cells j u hu) (Own.alloc HO9.out _) (Nat.le_trans (Bl.drewN Q1_B.out n2).size (Bl.alloc (Below.refl _ _) _).size) HM2.out ?_; intro Q2_v Q2_w ho hg ha; obtain ⟨Q2_A, Q2_c, rfl⟩ := Own.slice ho; have Q2_O := Lib.hid ho; have Q2_B := Lib.hid (Below.grown (Bl.alloc (Bl.drewN Q1_B.out n2) (Obj.cells #[.string ((PairV.mk pk pv)).key, .string ((PairV.mk pk pv)).val] 48)) hg (Bl.alloc (Bl.drewN Q1_B.out n2) (Obj.cells #[.string ((PairV.mk pk pv)).key, .string ((PairV.mk pk pv)).val] 48)).size (fun q hq => Own.base HO9.out q hq)); clear ho hg ha)
                  go_roundw
                  case rel => exact ⟨a + 1, by omega, by first | go_num | (congr 1; omega), by rw [HST.out], by rw [HST.out]; exact (show Own Q2_w W2.heap.size 48 2 (.slice Q2_A (L.length + 1 + 1) Q2_c) (L ++ [PairV.mk key val] ++ [PairV.mk pk pv]).length (flatP (L ++ [PairV.mk key val] ++ [PairV.mk pk pv])) by rw [List.length_append, List.length_append, flatP_snoc, HL2.out]; exact Q2_O.out), Q2_B.out⟩
                  case measure => simp [intOf]; omega
          · obtain rfl : a = n := by omega
            have hd3 : decide ((a : Int) < (a : Int)) = false := decide_eq_false (by omega)
            have e2 := E2.out
            rw [docL, HN.out, HD.out] at e2
            simp only at e2
            cases pb with
            | true =>
              rw [if_pos rfl] at e2
              subst e2
              go_wp2_with fail
              go_ret2
              exact ⟨_, rfl, O7.out.lower B1.out.size, Bl.then B1.out HQ.out⟩
            | false =>
              rw [if_neg (by decide), RK.out, RV.out] at e2
              subst e2
              have hlb : L.length ≤ a := by simpa using hlen
              go_wp2_with (at_builtin; refine appO W2.heap.size rfl (.tmp 82) (.tmp 88) 23 48 (.agg #[.string ⟨#[]⟩, .string ⟨#[]⟩]) 2 32 rfl Try.underlying23 infoPair zerosP_cells (by decide) (by decide) (.slice D L.length dc) L.length (flatP L) rfl (some ⟨wr.heap.size, 0, none⟩) 1 1 (cellsP2 (PairV.mk key val)) rfl rfl (cellsP2_one (PairV.mk key val)) (fun h => by cases h) (fun ad had j u hu => by obtain rfl := Option.some.inj had; rw [Addr.add_lit, Nat.zero_add]; exact (OneP.new wr (PairV.mk key val)).cells j u hu) (Own.alloc O7.out _) (Nat.le_trans HQ.out.size (Bl.alloc (Below.refl _ _) _).size) (by omega) ?_; intro Q1_v Q1_w ho hg ha; obtain ⟨Q1_A, Q1_c, rfl⟩ := Own.slice ho; have Q1_O := Lib.hid ho; have Q1_B := Lib.hid (Below.grown (Bl.alloc HQ.out (Obj.cells #[.string ((PairV.mk key val)).key, .string ((PairV.mk key val)).val] 48)) hg (Bl.alloc HQ.out (Obj.cells #[.string ((PairV.mk key val)).key, .string ((PairV.mk key val)).val] 48)).size (fun q hq => Own.base O7.out q hq)); clear ho hg ha)
              go_ret2
              exact ⟨_, rfl, OwnP.lower (show Own Q1_w W2.heap.size 48 2 (.slice Q1_A (L.length + 1) Q1_c) (L ++ [PairV.mk key val]).length (flatP (L ++ [PairV.mk key val])) by rw [List.length_append, flatP_snoc]; exact Q1_O.out) B1.out.size, Bl.then B1.out Q1_B.out⟩
      · have hno : ¬ withOk ps ⟨k, e0, key, val⟩ := fun h => hl h.2
        have e1 := HWE.out
        have e2 := HWL.out
        rw [withE, if_neg hno] at e1
        rw [withL, if_neg hno] at e2
        subst e1 e2
        clear hno
        by_cases hm : mayP ⟨k, e0, key, val⟩
        · have hk0 : k = 0 := Classical.byContradiction fun h => hl ⟨hm, h⟩
          have hm2 : mayB ⟨k, e0, key, val⟩ = true := decide_eq_true hm
          rw [hm2]
          subst hk0
          clear hm hm2 hl
          go_wp2_with fail
          go_ret2
          exact ⟨_, rfl, OwnP.nil _ _, B1.out⟩
        · have hm2 : mayB ⟨k, e0, key, val⟩ = false := decide_eq_false hm
          rw [hm2]
          clear hm hm2 hl
          go_wp2_with fail
          go_ret2
          exact ⟨_, rfl, OwnP.nil _ _, B1.out⟩
end Go.Proofs.Ytdgnpoapkjoknaa
