/- The statement ScanRows: the walk. -/
import Derived.Test.YtgfldfkgialdlaaScanP
namespace Go.Proofs.Ytgfldfkgialdlaa
set_option linter.unusedVariables false
set_option linter.unusedSimpArgs false
open Go.RowKit
theorem Own.far4 {w : World} {B n g : Nat} {e : TypeId} {v : Value} {xs : List Value} {size : Nat} (h : Own w B e size v n xs) (hne : v.ownBlock ≠ some g) (a b c d : Value) :
    Own ((((w.setCell ⟨g, 0, none⟩ a).setCell ⟨g, 1, none⟩ b).setCell ⟨g, 2, none⟩ c).setCell ⟨g, 3, none⟩ d) B e size v n xs := by
  have k := fun (w : World) (h : Own w B e size v n xs) (j : Nat) (u : Value) => h.kept (grown_set w g j u) (.inr hne)
  exact k _ (k _ (k _ (k _ h 0 a) 1 b) 2 c) 3 d
theorem set4_size (w : World) (g : Nat) (a b c d : Value) : ((((w.setCell ⟨g, 0, none⟩ a).setCell ⟨g, 1, none⟩ b).setCell ⟨g, 2, none⟩ c).setCell ⟨g, 3, none⟩ d).heap.size = w.heap.size := by simp
theorem Bx.new4s (w : World) (g : Nat) (x y z u a b c d : Value) (t : TypeId) : Bx (((((w.setCell ⟨g, 0, none⟩ x).setCell ⟨g, 1, none⟩ y).setCell ⟨g, 2, none⟩ z).setCell ⟨g, 3, none⟩ u).alloc (Obj.cells #[a, b, c, d] t)) w.heap.size a b c d := by
  have h := Bx.new ((((w.setCell ⟨g, 0, none⟩ x).setCell ⟨g, 1, none⟩ y).setCell ⟨g, 2, none⟩ z).setCell ⟨g, 3, none⟩ u) a b c d t
  rwa [set4_size] at h
theorem kept4o {w w' : World} {g o : Nat} {a b c d : Value} (hb : Below w.heap.size w w') (h : w.cell? ⟨g, o, none⟩ = some a ∧ w.cell? ⟨g, o + 1, none⟩ = some b ∧ w.cell? ⟨g, o + 2, none⟩ = some c ∧ w.cell? ⟨g, o + 3, none⟩ = some d) :
    w'.cell? ⟨g, o, none⟩ = some a ∧ w'.cell? ⟨g, o + 1, none⟩ = some b ∧ w'.cell? ⟨g, o + 2, none⟩ = some c ∧ w'.cell? ⟨g, o + 3, none⟩ = some d := by
  have k := fun (q : Nat) (v : Value) (h : w.cell? ⟨g, q, none⟩ = some v) => (hb.cell (World.block_lt_of_cell? _ _ h)).trans h
  exact ⟨k _ _ h.1, k _ _ h.2.1, k _ _ h.2.2.1, k _ _ h.2.2.2⟩
theorem Bx.all4 {w : World} {g : Nat} {a b c d : Value} (h : Bx w g a b c d) (x y z u : Value) : Bx ((((w.setCell ⟨g, 0, none⟩ x).setCell ⟨g, 1, none⟩ y).setCell ⟨g, 2, none⟩ z).setCell ⟨g, 3, none⟩ u) g x y z u := (((h.set0 x).set1 y).set2 z).set3 u
theorem allN_sizes (rs : List RecV) (g : Nat) (ep : Int) (hz : ∀ r ∈ rs, r.key.size ≤ 9223372036854775807 ∧ r.val.size ≤ 9223372036854775807) : ∀ k, ∀ r ∈ allN rs g ep k, r.key.size ≤ 9223372036854775807 ∧ r.val.size ≤ 9223372036854775807
  | 0, r, h => by
    simp [allN] at h
    subst h
    exact ⟨by show nilB.size ≤ _; decide, by show nilB.size ≤ _; decide⟩
  | k + 1, r, h => by
    rw [allN, List.mem_append] at h
    rcases h with h | h
    · exact allN_sizes rs g ep hz k r h
    · simp at h
      subst h
      unfold rowR
      split
      · rename_i hs
        refine hz _ ?_
        rw [List.getD_eq_getElem?_getD, List.getElem?_eq_getElem hs.2.1, Option.getD_some]
        exact List.getElem_mem _
      · exact ⟨by show nilB.size ≤ _; decide, by show nilB.size ≤ _; decide⟩

set_option maxRecDepth 100000 in
set_option maxHeartbeats 8000000 in
theorem ScanRows_walk (w : World) (va : Value) (rs : List RecV) (ha : RdR w va rs) (hz : ∀ r ∈ rs, r.key.size ≤ 9223372036854775807 ∧ r.val.size ≤ 9223372036854775807) (epoch : Int) (_ : -9223372036854775808 ≤ epoch ∧ epoch ≤ 9223372036854775807) (gap : Int) (_ : -9223372036854775808 ≤ gap ∧ gap ≤ 9223372036854775807) :
    Calls Try.prog 11 #[va, .int .i64 epoch, .int .i64 gap] w fun e w' => e = .returned (.bool true) ∧ Below w.heap.size w w' := by
  have hx : bits .and .i64 epoch 65535 = epoch % 65536 := and_mask64 epoch 16 (by decide)
  have hx1 := Int.emod_nonneg epoch (show (65536 : Int) ≠ 0 by decide)
  have hx2 := Int.emod_lt_of_pos epoch (show (0 : Int) < 65536 by decide)
  obtain ⟨ep, hep⟩ : ∃ e, 1 + bits .and .i64 epoch 65535 = e := ⟨_, rfl⟩
  have he1 : 1 ≤ ep := by omega
  have he2 : ep ≤ 1048576 := by omega
  have he3 : IntKind.i64.wrap ep = ep := wrap_i64_small (by omega) (by omega)
  obtain ⟨q, hq, q0, q1⟩ := rem_fin gap 7 (by decide) (by decide)
  obtain ⟨q, rfl⟩ := Int.eq_ofNat_of_zero_le q0
  obtain ⟨g, hg⟩ : ∃ g, q + 1 = g := ⟨_, rfl⟩
  have hg1 : (1 : Int) + (q : Int) = (g : Int) := by omega
  have hg2 : (g : Int) ≤ 7 := by omega
  have HA := Lib.hid ha
  have HZ := Lib.hid hz
  obtain ⟨A, c, rfl⟩ := ha.form
  obtain ⟨n, hn⟩ : ∃ n, rs.length = n := ⟨_, rfl⟩
  rw [hn] at HA ⊢
  have HN := Lib.hid hn
  obtain ⟨f1, f2, f3, f4⟩ := rows_facts rs g ep he1 he2
  have zs := sectB_size (allN rs g ep 7) []
  have hS := fun (v : Value) (w : World) (h : RdR w v (allN rs g ep 7)) => sector_any v (.slice none 0 0) (allN rs g ep 7) [] w h (Rd.nil w) (allN_sizes rs g ep hz 7)
  generalize sectB (allN rs g ep 7) [] = s at *
  have sa := fun w => scan_told s (by omega) true ep (frN rs g 7 : Int) 0 (wantN rs g 7).length f1 f2 f3 (if_pos zs) (by rw [f4]) w
  rw [f4] at sa
  have SA := Lib.hid sa
  have HS := Lib.hid hS
  clear ha hz hn hx hx1 hx2 hg q0 q1 f1 f2 f3 f4 sa hS he1 he2 zs
  go_enter Try.func11, Try.ntmps11
  go_wp2_with fail
  with_reducible refine (awake20 _).mono ?_
  rintro e w0 ⟨rfl, hb⟩
  have B0 := Lib.hid (Bl.alloc hb (Obj.cells #[.int .i64 0, .int .i64 ep, .string ⟨#[]⟩, .string ⟨#[]⟩] 23))
  have O0 := Lib.hid ((Own.made4 w0 (.int .i64 0) (.int .i64 ep) (.string ⟨#[]⟩) (.string ⟨#[]⟩)).lower hb.size)
  clear hb
  go_wp2_with fail
  (try rw [hq])
  clear hq
  go_loopw [7, 8, 10, 11] (fun v7 v8 fr i wr => ∃ k : Nat, k ≤ 7 ∧ i = .int .i64 ((k : Int) + 1) ∧ fr = .int .i64 (frN rs g k : Int) ∧ Own wr w.heap.size 23 4 v7 (k + 1) (flat (allN rs g ep k)) ∧ Own wr w.heap.size 23 4 v8 (wantN rs g k).length (flat (wantN rs g k)) ∧ Apart v7 v8 ∧ Below w.heap.size w wr) (fun _ _ _ i _ => (8 - intOf i).toNat)
  case atStart => exact ⟨0, by omega, rfl, rfl, O0.out, Own.nil _ _ _ _, Apart.sym (.inl rfl), B0.out⟩
  case round =>
    obtain ⟨k, hk, rfl, rfl, o7, o8, hap, hb⟩ := hrel
    obtain ⟨D, d, rfl⟩ := o7.slice
    obtain ⟨E, e8, rfl⟩ := o8.slice
    have O7 := Lib.hid o7
    have O8 := Lib.hid o8
    have AP := Lib.hid hap
    have HB := Lib.hid hb
    clear o7 o8 hap hb B0 O0
    have hwl := wantN_len rs g k
    by_cases hlt : k < 7
    · have hlt2 : (k : Int) + 1 < 8 := by omega
      have hwr : IntKind.i64.wrap (k : Int) = (k : Int) := wrap_i64_small (by omega) (by omega)
      by_cases hkg : k + 1 = g
      · have hd : (((k : Int) + 1) != (g : Int)) = false := by rw [bne_eq_false_iff_eq]; omega
        have hsel : ¬ selP rs g k := fun h => h.1 hkg
        clear hkg
        have HS1 := Lib.hid (show allN rs g ep (k + 1) = allN rs g ep k ++ [zeroR] by rw [allN, rowR, if_neg hsel])
        have HS2 := Lib.hid (show wantN rs g (k + 1) = wantN rs g k by rw [wantN, if_neg hsel])
        have HS3 := Lib.hid (show frN rs g (k + 1) = frN rs g k by rw [frN, if_neg hsel])
        clear hsel
        go_wp2_with (at_builtin; refine appO w.heap.size rfl (.tmp 70) (.tmp 72) 41 23 (.agg #[.int .i64 0, .int .i64 0, .string ⟨#[]⟩, .string ⟨#[]⟩]) 4 48 rfl Try.underlying41 infoRec rfl (by decide) (by decide) _ (k + 1) (flat (allN rs g ep k)) rfl (some ⟨wr.heap.size + 1, 0, none⟩) 1 1 [.int .i64 0, .int .i64 0, .string ⟨#[]⟩, .string ⟨#[]⟩] rfl rfl (cellsR_one zeroR) (fun h => by cases h) (box4 (Bx.new1 wr _ _ _ _ _ _)) ((O7.out.alloc _).alloc _) (Nat.le_trans HB.out.size (by first | exact (Bl.alloc (Bl.alloc (Below.refl _ _) _) _).size | exact Nat.le_trans PS.out (Bl.alloc (Below.refl _ _) _).size)) (by omega) ?_; intro v1 w2 ho hg ha; obtain ⟨D', d', rfl⟩ := ho.slice; have Q7 := Lib.hid ho; have Q8 := Lib.hid (((O8.out.alloc _).alloc _).kept hg AP.out.sym); have QB := Lib.hid (Below.grown (Bl.alloc (Bl.alloc HB.out (Obj.cells #[.int .i64 0, .int .i64 0, .string ⟨#[]⟩, .string ⟨#[]⟩] 23)) (Obj.cells #[.int .i64 0, .int .i64 0, .string ⟨#[]⟩, .string ⟨#[]⟩] 23)) hg (Bl.alloc (Bl.alloc HB.out (Obj.cells #[.int .i64 0, .int .i64 0, .string ⟨#[]⟩, .string ⟨#[]⟩] 23)) (Obj.cells #[.int .i64 0, .int .i64 0, .string ⟨#[]⟩, .string ⟨#[]⟩] 23)).size (fun q hq => O7.out.base q hq)); have QA := Lib.hid (Apart.new AP.out.sym ((O8.out.alloc _).alloc _) ha).sym; clear ho hg ha)
        go_roundw
        case rel =>
          refine ⟨k + 1, by omega, by first | go_num | (congr 1; omega), by rw [HS3.out], ?_, ?_, QA.out, QB.out⟩
          · rw [HS1.out, flat_snoc]
            exact Q7.out
          · rw [HS2.out]
            exact Q8.out
        case measure => simp [intOf]; omega
      · have hd : (((k : Int) + 1) != (g : Int)) = true := by rw [bne_iff_ne]; omega
        by_cases hkn : k < n
        · have hkn2 : (k : Int) < (n : Int) := by omega
          obtain ⟨b, o, c', hv, _, _, hcc⟩ := HA.out.pos (by rw [HN.out]; omega)
          rw [HN.out] at hv hcc
          obtain ⟨rfl, rfl⟩ := Value.slice.inj hv |> fun h => And.intro h.1 h.2.2
          have hmem : rs.getD k zeroR ∈ rs := by
            rw [List.getD_eq_getElem?_getD, List.getElem?_eq_getElem (by rw [HN.out]; exact hkn), Option.getD_some]
            exact List.getElem_mem _
          obtain ⟨s1, s2⟩ := HZ.out _ hmem
          obtain ⟨g0, g1, g2, g3⟩ := hcc k hkn
          have kb := fun (q : Nat) (v : Value) (h : w.cell? ⟨b, q, none⟩ = some v) => (HB.out.cell (World.block_lt_of_cell? _ _ h)).trans h
          have g0 := kb _ _ g0
          have g1 := kb _ _ g1
          have g2 := kb _ _ g2
          have g3 := kb _ _ g3
          have hsd : selP rs g k ↔ ((rs.getD k zeroR).k ≠ 0 ∧ mayP (rs.getD k zeroR)) := ⟨fun h => ⟨h.2.2.1, h.2.2.2⟩, fun h => ⟨hkg, by rw [HN.out]; exact hkn, h.1, h.2⟩⟩
          have hm := fun w => rmay_any (rs.getD k zeroR) w s1 s2
          obtain ⟨r, hr⟩ : ∃ r, rs.getD k zeroR = r := ⟨_, rfl⟩
          rw [hr] at g0 g1 g2 g3 hsd hm
          have G := Lib.hid (And.intro g0 (And.intro g1 (And.intro g2 g3)))
          have HR := Lib.hid hr
          have g0' := up1 g0
          have g1' := up1 g1
          have g2' := up1 g2
          have g3' := up1 g3
          clear hv hcc hmem s1 s2 kb g0 g1 g2 g3 hr
          by_cases hk0 : r.k = 0
          · have hsel : ¬ selP rs g k := fun h => (hsd.1 h).1 hk0
            have hd2 : (r.k != 0) = false := by rw [bne_eq_false_iff_eq]; exact hk0
            clear hsd hm G
            have HS1 := Lib.hid (show allN rs g ep (k + 1) = allN rs g ep k ++ [zeroR] by rw [allN, rowR, if_neg hsel])
            have HS2 := Lib.hid (show wantN rs g (k + 1) = wantN rs g k by rw [wantN, if_neg hsel])
            have HS3 := Lib.hid (show frN rs g (k + 1) = frN rs g k by rw [frN, if_neg hsel])
            clear hsel
            go_wp2_with (at_builtin; refine appO w.heap.size rfl (.tmp 70) (.tmp 72) 41 23 (.agg #[.int .i64 0, .int .i64 0, .string ⟨#[]⟩, .string ⟨#[]⟩]) 4 48 rfl Try.underlying41 infoRec rfl (by decide) (by decide) _ (k + 1) (flat (allN rs g ep k)) rfl (some ⟨wr.heap.size + 1, 0, none⟩) 1 1 [.int .i64 0, .int .i64 0, .string ⟨#[]⟩, .string ⟨#[]⟩] rfl rfl (cellsR_one zeroR) (fun h => by cases h) (box4 (Bx.new1 wr _ _ _ _ _ _)) ((O7.out.alloc _).alloc _) (Nat.le_trans HB.out.size (by first | exact (Bl.alloc (Bl.alloc (Below.refl _ _) _) _).size | exact Nat.le_trans PS.out (Bl.alloc (Below.refl _ _) _).size)) (by omega) ?_; intro v1 w2 ho hg ha; obtain ⟨D', d', rfl⟩ := ho.slice; have Q7 := Lib.hid ho; have Q8 := Lib.hid (((O8.out.alloc _).alloc _).kept hg AP.out.sym); have QB := Lib.hid (Below.grown (Bl.alloc (Bl.alloc HB.out (Obj.cells #[.int .i64 0, .int .i64 0, .string ⟨#[]⟩, .string ⟨#[]⟩] 23)) (Obj.cells #[.int .i64 0, .int .i64 0, .string ⟨#[]⟩, .string ⟨#[]⟩] 23)) hg (Bl.alloc (Bl.alloc HB.out (Obj.cells #[.int .i64 0, .int .i64 0, .string ⟨#[]⟩, .string ⟨#[]⟩] 23)) (Obj.cells #[.int .i64 0, .int .i64 0, .string ⟨#[]⟩, .string ⟨#[]⟩] 23)).size (fun q hq => O7.out.base q hq)); have QA := Lib.hid (Apart.new AP.out.sym ((O8.out.alloc _).alloc _) ha).sym; clear ho hg ha)
            go_roundw
            case rel =>
              refine ⟨k + 1, by omega, by first | go_num | (congr 1; omega), by rw [HS3.out], ?_, ?_, QA.out, QB.out⟩
              · rw [HS1.out, flat_snoc]
                exact Q7.out
              · rw [HS2.out]
                exact Q8.out
            case measure => simp [intOf]; omega
          · have hd2 : (r.k != 0) = true := by rw [bne_iff_ne]; exact hk0
            by_cases hmay : mayP r
            · have hsel : selP rs g k := hsd.2 ⟨hk0, hmay⟩
              rw [show mayB r = true from decide_eq_true hmay] at hm
              have HM := Lib.hid hm
              change Hid (∀ w : World, Calls Try.prog 19 #[.agg #[.int .i64 r.k, .int .i64 r.e, .string r.key, .string r.val]] w fun e w' => e = .returned (.bool true) ∧ Below w.heap.size w w') at HM
              have HS1 := Lib.hid (show allN rs g ep (k + 1) = allN rs g ep k ++ [r] by rw [allN, rowR, if_pos hsel, HR.out])
              have HS2 := Lib.hid (show wantN rs g (k + 1) = wantN rs g k ++ [r] by rw [wantN, if_pos hsel, HR.out])
              have HS3 := Lib.hid (show frN rs g (k + 1) = k + 2 by rw [frN, if_pos hsel])
              clear hsd hm hsel hmay
              go_wp2_with fail
              with_reducible refine (HM.out _).mono ?_
              rintro e w1 ⟨rfl, hb⟩
              have n7 : (Value.slice D (k + 1) d).ownBlock ≠ some wr.heap.size := fun e => Nat.lt_irrefl _ (O7.out.lt _ e).2
              have n8 : (Value.slice E (wantN rs g k).length e8).ownBlock ≠ some wr.heap.size := fun e => Nat.lt_irrefl _ (O8.out.lt _ e).2
              have P7 := Lib.hid ((((O7.out.alloc (Obj.cells #[.int .i64 0, .int .i64 0, .string ⟨#[]⟩, .string ⟨#[]⟩] 23)).below hb).far4 n7 (.int .i64 r.k) (.int .i64 r.e) (.string r.key) (.string r.val)).alloc (Obj.cells #[.int .i64 r.k, .int .i64 r.e, .string r.key, .string r.val] 23))
              have P8 := Lib.hid ((((O8.out.alloc (Obj.cells #[.int .i64 0, .int .i64 0, .string ⟨#[]⟩, .string ⟨#[]⟩] 23)).below hb).far4 n8 (.int .i64 r.k) (.int .i64 r.e) (.string r.key) (.string r.val)).alloc (Obj.cells #[.int .i64 r.k, .int .i64 r.e, .string r.key, .string r.val] 23))
              have PB := Lib.hid (Bl.alloc (Bl.set4 (g := wr.heap.size) (Bl.then (Bl.alloc HB.out (Obj.cells #[.int .i64 0, .int .i64 0, .string ⟨#[]⟩, .string ⟨#[]⟩] 23)) hb) HB.out.size (.int .i64 r.k) (.int .i64 r.e) (.string r.key) (.string r.val)) (Obj.cells #[.int .i64 r.k, .int .i64 r.e, .string r.key, .string r.val] 23))
              have X0 := Bx.below (Bx.new wr (.int .i64 0) (.int .i64 0) (.string ⟨#[]⟩) (.string ⟨#[]⟩) 23) hb
              have PX := Lib.hid (Bx.below (X0.all4 (.int .i64 r.k) (.int .i64 r.e) (.string r.key) (.string r.val)) (Bl.alloc (Below.refl _ _) (Obj.cells #[.int .i64 r.k, .int .i64 r.e, .string r.key, .string r.val] 23)))
              have N8 := Lib.hid n8
              obtain ⟨⟨x0, x1, x2, x3⟩, y0, y1, y2, y3⟩ := X0
              obtain ⟨a0, a1, a2, a3⟩ := kept4o (Bl.then (Bl.alloc (Below.refl _ _) _) hb) G.out
              clear hb n7 n8 g0' g1' g2' g3' G
              go_wp2_with first | (at_builtin; refine appO w.heap.size rfl (.tmp 70) (.tmp 72) 41 23 (.agg #[.int .i64 0, .int .i64 0, .string ⟨#[]⟩, .string ⟨#[]⟩]) 4 48 rfl Try.underlying41 infoRec rfl (by decide) (by decide) _ (k + 1) (flat (allN rs g ep k)) rfl (some ⟨w2.heap.size, 0, none⟩) 1 1 [.int .i64 r.k, .int .i64 r.e, .string r.key, .string r.val] rfl rfl (cellsR_one r) (fun h => by cases h) (box4 (Bx.new w2 _ _ _ _ _)) (S7.out.alloc _) (Bl.alloc SB.out (Obj.cells #[.int .i64 r.k, .int .i64 r.e, .string r.key, .string r.val] 23)).size (by omega) ?_; intro v1 w3 ho hg ha; obtain ⟨D', d', rfl⟩ := ho.slice; have Q7 := Lib.hid ho; have Q8 := Lib.hid ((S8.out.alloc (Obj.cells #[.int .i64 r.k, .int .i64 r.e, .string r.key, .string r.val] 23)).kept hg SP.out.sym); have QB := Lib.hid (Below.grown (Bl.alloc SB.out (Obj.cells #[.int .i64 r.k, .int .i64 r.e, .string r.key, .string r.val] 23)) hg (Bl.alloc SB.out (Obj.cells #[.int .i64 r.k, .int .i64 r.e, .string r.key, .string r.val] 23)).size (fun q hq => O7.out.base q hq)); have QA := Lib.hid (Apart.new SP.out.sym (S8.out.alloc _) ha).sym; clear ho hg ha) | (at_builtin; refine appO w.heap.size rfl (.tmp 64) (.tmp 66) 41 23 (.agg #[.int .i64 0, .int .i64 0, .string ⟨#[]⟩, .string ⟨#[]⟩]) 4 48 rfl Try.underlying41 infoRec rfl (by decide) (by decide) _ (wantN rs g k).length (flat (wantN rs g k)) rfl (some ⟨w1.heap.size, 0, none⟩) 1 1 [.int .i64 r.k, .int .i64 r.e, .string r.key, .string r.val] rfl rfl (cellsR_one r) (fun h => by cases h) (box4 (Bx.new4s w1 _ _ _ _ _ _ _ _ _ _)) P8.out PB.out.size (by omega) ?_; intro v1 w2 ho hg ha; obtain ⟨E', e', rfl⟩ := ho.slice; have S8 := Lib.hid ho; have S7 := Lib.hid (P7.out.kept hg AP.out); have SB := Lib.hid (Below.grown PB.out hg PB.out.size (fun q hq => O8.out.base q hq)); have SP := Lib.hid (Apart.new AP.out P7.out ha); obtain ⟨⟨z0, z1, z2, z3⟩, _⟩ := Bx.grown PX.out hg N8.out; clear ho hg ha x0 x1 x2 x3 y0 y1 y2 y3 a0 a1 a2 a3)
              go_roundw
              case rel =>
                refine ⟨k + 1, by omega, by first | go_num | (congr 1; omega), by rw [HS3.out]; first | go_num | (congr 1; omega), ?_, ?_, QA.out, QB.out⟩
                · rw [HS1.out, flat_snoc]
                  exact Q7.out
                · rw [HS2.out, flat_snoc, List.length_append]
                  exact Q8.out
              case measure => simp [intOf]; omega
            · have hsel : ¬ selP rs g k := fun h => hmay (hsd.1 h).2
              rw [show mayB r = false from decide_eq_false hmay] at hm
              have HM := Lib.hid hm
              change Hid (∀ w : World, Calls Try.prog 19 #[.agg #[.int .i64 r.k, .int .i64 r.e, .string r.key, .string r.val]] w fun e w' => e = .returned (.bool false) ∧ Below w.heap.size w w') at HM
              clear hsd hm hmay G
              have HS1 := Lib.hid (show allN rs g ep (k + 1) = allN rs g ep k ++ [zeroR] by rw [allN, rowR, if_neg hsel])
              have HS2 := Lib.hid (show wantN rs g (k + 1) = wantN rs g k by rw [wantN, if_neg hsel])
              have HS3 := Lib.hid (show frN rs g (k + 1) = frN rs g k by rw [frN, if_neg hsel])
              clear hsel
              go_wp2_with fail
              with_reducible refine (HM.out _).mono ?_
              rintro e w1 ⟨rfl, hb⟩
              have P7 := Lib.hid ((O7.out.alloc (Obj.cells #[.int .i64 0, .int .i64 0, .string ⟨#[]⟩, .string ⟨#[]⟩] 23)).below hb)
              have P8 := Lib.hid ((O8.out.alloc (Obj.cells #[.int .i64 0, .int .i64 0, .string ⟨#[]⟩, .string ⟨#[]⟩] 23)).below hb)
              have PB := Lib.hid (Bl.then (Bl.alloc HB.out (Obj.cells #[.int .i64 0, .int .i64 0, .string ⟨#[]⟩, .string ⟨#[]⟩] 23)) hb)
              have PS := Lib.hid (Nat.le_trans (Bl.alloc (Below.refl wr.heap.size wr) (Obj.cells #[.int .i64 0, .int .i64 0, .string ⟨#[]⟩, .string ⟨#[]⟩] 23)).size hb.size)
              obtain ⟨⟨x0, x1, x2, x3⟩, _⟩ := Bx.below (Bx.new wr (.int .i64 0) (.int .i64 0) (.string ⟨#[]⟩) (.string ⟨#[]⟩) 23) hb
              clear hb g0' g1' g2' g3'
              go_wp2_with (at_builtin; refine appO w.heap.size rfl (.tmp 70) (.tmp 72) 41 23 (.agg #[.int .i64 0, .int .i64 0, .string ⟨#[]⟩, .string ⟨#[]⟩]) 4 48 rfl Try.underlying41 infoRec rfl (by decide) (by decide) _ (k + 1) (flat (allN rs g ep k)) rfl (some ⟨w1.heap.size, 0, none⟩) 1 1 [.int .i64 0, .int .i64 0, .string ⟨#[]⟩, .string ⟨#[]⟩] rfl rfl (cellsR_one zeroR) (fun h => by cases h) (box4 (Bx.new w1 _ _ _ _ _)) (P7.out.alloc _) (Nat.le_trans HB.out.size (by first | exact (Bl.alloc (Bl.alloc (Below.refl _ _) _) _).size | exact Nat.le_trans PS.out (Bl.alloc (Below.refl _ _) _).size)) (by omega) ?_; intro v1 w2 ho hg ha; obtain ⟨D', d', rfl⟩ := ho.slice; have Q7 := Lib.hid ho; have Q8 := Lib.hid ((P8.out.alloc _).kept hg AP.out.sym); have QB := Lib.hid (Below.grown (Bl.alloc PB.out (Obj.cells #[.int .i64 0, .int .i64 0, .string ⟨#[]⟩, .string ⟨#[]⟩] 23)) hg (Bl.alloc PB.out (Obj.cells #[.int .i64 0, .int .i64 0, .string ⟨#[]⟩, .string ⟨#[]⟩] 23)).size (fun q hq => O7.out.base q hq)); have QA := Lib.hid (Apart.new AP.out.sym (P8.out.alloc _) ha).sym; clear ho hg ha)
              go_roundw
              case rel =>
                refine ⟨k + 1, by omega, by first | go_num | (congr 1; omega), by rw [HS3.out], ?_, ?_, QA.out, QB.out⟩
                · rw [HS1.out, flat_snoc]
                  exact Q7.out
                · rw [HS2.out]
                  exact Q8.out
              case measure => simp [intOf]; omega
        · have hkn2 : ¬ (k : Int) < (n : Int) := by omega
          have hsel : ¬ selP rs g k := fun h => hkn (by have := h.2.1; rw [HN.out] at this; exact this)
          have HS1 := Lib.hid (show allN rs g ep (k + 1) = allN rs g ep k ++ [zeroR] by rw [allN, rowR, if_neg hsel])
          have HS2 := Lib.hid (show wantN rs g (k + 1) = wantN rs g k by rw [wantN, if_neg hsel])
          have HS3 := Lib.hid (show frN rs g (k + 1) = frN rs g k by rw [frN, if_neg hsel])
          clear hsel
          go_wp2_with (at_builtin; refine appO w.heap.size rfl (.tmp 70) (.tmp 72) 41 23 (.agg #[.int .i64 0, .int .i64 0, .string ⟨#[]⟩, .string ⟨#[]⟩]) 4 48 rfl Try.underlying41 infoRec rfl (by decide) (by decide) _ (k + 1) (flat (allN rs g ep k)) rfl (some ⟨wr.heap.size + 1, 0, none⟩) 1 1 [.int .i64 0, .int .i64 0, .string ⟨#[]⟩, .string ⟨#[]⟩] rfl rfl (cellsR_one zeroR) (fun h => by cases h) (box4 (Bx.new1 wr _ _ _ _ _ _)) ((O7.out.alloc _).alloc _) (Nat.le_trans HB.out.size (by first | exact (Bl.alloc (Bl.alloc (Below.refl _ _) _) _).size | exact Nat.le_trans PS.out (Bl.alloc (Below.refl _ _) _).size)) (by omega) ?_; intro v1 w2 ho hg ha; obtain ⟨D', d', rfl⟩ := ho.slice; have Q7 := Lib.hid ho; have Q8 := Lib.hid (((O8.out.alloc _).alloc _).kept hg AP.out.sym); have QB := Lib.hid (Below.grown (Bl.alloc (Bl.alloc HB.out (Obj.cells #[.int .i64 0, .int .i64 0, .string ⟨#[]⟩, .string ⟨#[]⟩] 23)) (Obj.cells #[.int .i64 0, .int .i64 0, .string ⟨#[]⟩, .string ⟨#[]⟩] 23)) hg (Bl.alloc (Bl.alloc HB.out (Obj.cells #[.int .i64 0, .int .i64 0, .string ⟨#[]⟩, .string ⟨#[]⟩] 23)) (Obj.cells #[.int .i64 0, .int .i64 0, .string ⟨#[]⟩, .string ⟨#[]⟩] 23)).size (fun q hq => O7.out.base q hq)); have QA := Lib.hid (Apart.new AP.out.sym ((O8.out.alloc _).alloc _) ha).sym; clear ho hg ha)
          go_roundw
          case rel =>
            refine ⟨k + 1, by omega, by first | go_num | (congr 1; omega), by rw [HS3.out], ?_, ?_, QA.out, QB.out⟩
            · rw [HS1.out, flat_snoc]
              exact Q7.out
            · rw [HS2.out]
              exact Q8.out
          case measure => simp [intOf]; omega
    · obtain rfl : k = 7 := by omega
      have R8 := Lib.hid (RdR.own O8.out)
      go_wp2_with fail
      with_reducible refine (HS.out _ _ (RdR.own O7.out)).mono ?_
      rintro e w3 ⟨rfl, hb⟩
      have B3 := Lib.hid (Bl.then HB.out hb)
      have R3 := Lib.hid (R8.out.below hb)
      clear hb R8
      go_wp2_with fail
      with_reducible refine (SA.out _).mono ?_
      rintro e w4 ⟨F, f, rfl, of, hb⟩
      have B4 := Lib.hid (Bl.alloc (Bl.then B3.out hb) (Obj.cells #[.bool true, .int .i64 ep, .slice F (wantN rs g 7).length f, .int .i64 (frN rs g 7 : Int)] 51))
      have R4 := Lib.hid ((R3.out.below hb).below (Bl.alloc (Below.refl _ _) (Obj.cells #[.bool true, .int .i64 ep, .slice F (wantN rs g 7).length f, .int .i64 (frN rs g 7 : Int)] 51)))
      have RF := Lib.hid (RdR.own (of.alloc (Obj.cells #[.bool true, .int .i64 ep, .slice F (wantN rs g 7).length f, .int .i64 (frN rs g 7 : Int)] 51)))
      obtain ⟨⟨x0, x1, x2, x3⟩, _⟩ := Bx.new w4 (.bool true) (.int .i64 ep) (.slice F (wantN rs g 7).length f) (.int .i64 (frN rs g 7 : Int)) 51
      clear hb of R3 B3
      go_wp2_with (go_at_call 17; refine (num_any _ _).mono ?_; rintro e w' ⟨rfl, rfl⟩)
      with_reducible refine (same_recs _ _ (wantN rs g 7) (wantN rs g 7) _ RF.out R4.out).mono ?_
      rw [decide_eq_true (rfl : wantN rs g 7 = wantN rs g 7)]
      rintro e w5 ⟨rfl, q5, rfl⟩
      go_wp2_with fail
      go_ret
      exact ⟨rfl, Bl.drewN B4.out q5⟩
end Go.Proofs.Ytgfldfkgialdlaa
