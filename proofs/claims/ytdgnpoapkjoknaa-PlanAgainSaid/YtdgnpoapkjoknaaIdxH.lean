/- index.With: the program's walk. -/
import Derived.Test.YtdgnpoapkjoknaaIdxG
namespace Go.Proofs.Ytdgnpoapkjoknaa
set_option linter.unusedVariables false
set_option linter.unusedSimpArgs false
open Go.RowKit

theorem sorted_not {ps : List PairV} {k : Nat} (hk : k + 1 < ps.length) (h : ltK (ps.getD k zeroP).key (ps.getD (k + 1) zeroP).key = false) : ¬ SortedP ps := fun hs => by
  rw [hs k hk] at h; cases h
theorem flatP_setv : ∀ (ps : List PairV) (i : Nat) (val : ByteArray), i < ps.length → (flatP ps).set (i * 2 + 1) (.string val) = flatP (ps.take i ++ ⟨(ps.getD i zeroP).key, val⟩ :: ps.drop (i + 1))
  | [], i, val, h => by simp at h
  | p :: ps, 0, val, _ => by
    rw [flatP_cons]
    rfl
  | p :: ps, i + 1, val, h => by
    have ih := flatP_setv ps i val (by simpa using h)
    rw [flatP_cons, List.set_append_right _ _ (by show 2 ≤ (i + 1) * 2 + 1; omega), show (i + 1) * 2 + 1 - (cellsP2 p).length = i * 2 + 1 by show (i + 1) * 2 + 1 - 2 = _; omega, ih]
    rfl
set_option maxRecDepth 100000 in
set_option maxHeartbeats 4000000 in
theorem with_any (w : World) (v : Value) (ps : List PairV) (r : RecV) (h : RdP w v ps) (hb : (ps.length + 1) * 32 ≤ 140737488355328) (z1 : r.key.size ≤ 9223372036854775807) (z2 : r.val.size ≤ 9223372036854775807) :
    Calls Try.prog 17 #[v, r.v] w fun e w' => ∃ v', e = .returned (.tuple #[v', .int .i64 (withE ps r)]) ∧ OwnP w' w.heap.size v' (withL ps r) ∧ Below w.heap.size w w' := by
  obtain ⟨n, hn⟩ : ∃ n, ps.length = n := ⟨_, rfl⟩
  have hmax : n + 1 ≤ 4398046511104 := by omega
  have IM := Lib.hid (fun w => imay_any r w z1 z2)
  have HB := Lib.hid hb
  obtain ⟨A, c, rfl⟩ := h.form
  have HP := Lib.hid (show RdP w (.slice A n c) ps by rw [← hn]; exact h)
  obtain ⟨we, hwe⟩ : ∃ z, withE ps r = z := ⟨_, rfl⟩
  obtain ⟨wl, hwl⟩ : ∃ z, withL ps r = z := ⟨_, rfl⟩
  rw [hn, hwe, hwl]
  have HN := Lib.hid hn
  have HWE := Lib.hid hwe
  have HWL := Lib.hid hwl
  obtain ⟨k, e0, key, val⟩ := r
  have X := Lib.hid (Bx.new w (.int .i64 k) (.int .i64 e0) (.string key) (.string val) 25)
  have BB := Lib.hid (Bl.alloc (Below.refl w.heap.size w) (Obj.cells #[.int .i64 k, .int .i64 e0, .string key, .string val] 25))
  show Calls Try.prog 17 #[_, .agg #[.int .i64 k, .int .i64 e0, .string key, .string val]] w _
  change Hid (∀ w : World, Calls Try.prog 38 #[.agg #[.int .i64 k, .int .i64 e0, .string key, .string val]] w _) at IM
  clear h hb hn hwe hwl z1 z2
  go_enter Try.func17, Try.ntmps17
  go_wp2_with fail
  generalize w.alloc (Obj.cells #[.int .i64 k, .int .i64 e0, .string key, .string val] 25) = W at *
  have HPW := Lib.hid (HP.out.below BB.out)
  go_loopw [6] (fun i wr => ∃ a q : Nat, 1 ≤ a ∧ (a ≤ n ∨ a = 1) ∧ i = .int .i64 (a : Int) ∧ (∀ j, j + 1 < a → ltK (ps.getD j zeroP).key (ps.getD (j + 1) zeroP).key = true) ∧ wr = W.drewN q) (fun i _ => (n - intOf i).toNat)
  case atStart => exact ⟨1, 0, Nat.le_refl _, .inr rfl, rfl, fun j hj => absurd hj (by omega), rfl⟩
  case round =>
    obtain ⟨a, q, ha1, han, rfl, hlo, rfl⟩ := hrel
    have HL := Lib.hid hlo
    clear hlo
    by_cases hlt : a < n
    · have hlt2 : (a : Int) < (n : Int) := by omega
      obtain ⟨B, o, c', hv, _, _, hcc⟩ := HPW.out.pos (by rw [HN.out]; omega)
      rw [HN.out] at hv hcc
      obtain ⟨h1, _, h2⟩ := Value.slice.inj hv
      subst h1 h2
      obtain ⟨b, rfl⟩ : ∃ b, a = b + 1 := ⟨a - 1, by omega⟩
      obtain ⟨g0, _⟩ := hcc b (by omega)
      obtain ⟨f0, _⟩ := hcc (b + 1) hlt
      obtain ⟨x, hx⟩ : ∃ z, (ps.getD b zeroP).key = z := ⟨_, rfl⟩
      obtain ⟨y, hy⟩ : ∃ z, (ps.getD (b + 1) zeroP).key = z := ⟨_, rfl⟩
      rw [hx] at g0
      rw [hy] at f0
      have HX := Lib.hid hx
      have HY := Lib.hid hy
      clear hcc hv hx hy
      cases hxy : ltK x y with
      | true =>
        have h1 : Op.bytesLess x.toList y.toList = true := hxy
        have HXY := Lib.hid hxy
        clear hxy
        go_wp2_with fail
        go_quiet (fail)
        go_wp2_with fail
        go_roundw
        case rel =>
          refine ⟨b + 1 + 1, _, by omega, .inl (by omega), by first | go_num | (congr 1; omega), fun j hj => ?_, by first | rfl | exact World.drewN_drewN ..⟩
          by_cases hjb : j = b
          · subst hjb; rw [HX.out, HY.out]; exact HXY.out
          · exact HL.out j (by omega)
        case measure => simp [intOf]; omega
      | false =>
        have h1 : Op.bytesLess x.toList y.toList = false := hxy
        have hno : ¬ withOk ps ⟨k, e0, key, val⟩ := fun h => sorted_not (k := b) (by rw [HN.out]; exact hlt) (by rw [HX.out, HY.out]; exact hxy) h.1
        have e1 := HWE.out
        have e2 := HWL.out
        rw [withE, if_neg hno] at e1
        rw [withL, if_neg hno] at e2
        subst e1 e2
        clear hxy hno
        go_wp2_with fail
        go_quiet (fail)
        go_wp2_with fail
        go_ret2
        exact ⟨_, rfl, OwnP.nil _ _, Bl.drewN (Bl.drewN BB.out _) _⟩
    · have hd : decide ((a : Int) < (n : Int)) = false := decide_eq_false (by omega)
      have hs : SortedP ps := fun j hj => HL.out j (by rw [HN.out] at hj; omega)
      have HSS := Lib.hid hs
      clear hs
      obtain ⟨⟨x0, x1, x2, x3⟩, -⟩ := X.out
      go_wp2_with fail
      refine (IM.out _).mono ?_
      rintro e w1 ⟨rfl, hb⟩
      have B1 := Lib.hid (Bl.then (Bl.drewN BB.out q) hb)
      have X1 := Lib.hid (Bx.below (Bx.below X.out (Bl.drewN (Below.refl _ _) q)) hb)
      clear hb x0 x1 x2 x3 X BB HL
      by_cases hl : liveP ⟨k, e0, key, val⟩
      · have hok : withOk ps ⟨k, e0, key, val⟩ := ⟨HSS.out, hl⟩
        have e1 := HWE.out
        have e2 := HWL.out
        rw [withE, if_pos hok] at e1
        rw [withL, if_pos hok] at e2
        subst e1
        have E2 := Lib.hid e2
        rw [decide_eq_true hl]
        have hk := liveP_k hl
        have HK := Lib.hid (show k = 1 ∨ k = 2 from hk)
        clear hok e2 hl hk HWE HWL
        go_wp2_with fail
        refine (pairs_clone _ _ ps (HP.out.below B1.out) (by have := HB.out; omega)).mono ?_
        rintro e w2 ⟨v2, rfl, ho, hb⟩
        have O2 := Lib.hid ho
        have B2 := Lib.hid (Bl.then B1.out hb)
        have X2 := Lib.hid (Bx.below X1.out hb)
        have S1 := Lib.hid B1.out.size
        have S4 := Lib.hid hb.size
        obtain ⟨⟨x0, x1, x2, x3⟩, -⟩ := X2.out
        clear ho hb X1 B1
        go_wp2_with fail
        refine (at_any _ v2 ps key O2.out.rd HSS.out (by have := HB.out; omega)).mono ?_
        obtain ⟨i, hi⟩ : ∃ z, posK ps key = z := ⟨_, rfl⟩
        obtain ⟨is, his⟩ : ∃ z, isK ps key = z := ⟨_, rfl⟩
        have hile : i ≤ n := by rw [← hi, ← HN.out]; exact posK_le ps key
        rw [hi, his]
        rintro e w3 ⟨rfl, hb⟩
        have O3 := Lib.hid (O2.out.below hb)
        have B3 := Lib.hid (Bl.then B2.out hb)
        have X3 := Lib.hid (Bx.below X2.out hb)
        have S2 := Lib.hid (Nat.le_trans B2.out.size hb.size)
        have S3 := Lib.hid hb.size
        have HI := Lib.hid hi
        have HIS := Lib.hid his
        clear hb hi his x0 x1 x2 x3 X2 B2 O2
        obtain ⟨⟨x0, x1, x2, x3⟩, -⟩ := X3.out
        rcases HK.out with rfl | rfl
        · cases is with
          | true =>
            have hat := HIS.out
            rw [isK, Bool.and_eq_true, decide_eq_true_eq, decide_eq_true_eq, HI.out, HN.out] at hat
            obtain ⟨hin, hkey⟩ := hat
            have e2 := E2.out
            rw [putL, if_pos rfl, if_pos HIS.out, HI.out] at e2
            have o3 := O3.out
            rcases o3.2 with ⟨rfl, h0⟩ | ⟨g, cap, cur, fz, rfl, hbg, hg, hf, hc1, hc2, hc3, hc4⟩
            · rw [HN.out] at h0; omega
            · have gc : w3.cell? ⟨g, i * 2 + 1, none⟩ = some (.string (ps.getD i zeroP).val) := Own.at' o3 (flatP_at ps i (by rw [HN.out]; exact hin) 1 (by decide))
              have gf : w3.frozen? ⟨g, i * 2 + 1, none⟩ = false := Own.free o3 (by rw [HN.out] at hc1; omega)
              have hst := Own.stored o3 (i * 2 + 1) (.string val)
              rw [flatP_setv ps i val (by rw [HN.out]; exact hin), hkey, e2] at hst
              obtain ⟨old, hold⟩ : ∃ z, (ps.getD i zeroP).val = z := ⟨_, rfl⟩
              rw [hold] at gc
              have HST := Lib.hid hst
              have hl : wl.length = n := by rw [← e2, List.length_append, List.length_cons, List.length_take, List.length_drop, HN.out]; omega
              have HLL := Lib.hid hl
              have B4 := Lib.hid (B3.out.setCell (p := ⟨g, i * 2 + 1, none⟩) (Nat.le_trans S1.out hbg) (.string val))
              have hin2 : (i : Int) < (n : Int) := by omega
              rw [HN.out] at hc1 ⊢
              clear o3 hst e2 hold hl hg hf hc4 hkey
              go_wp2_with fail
              go_ret2
              refine ⟨_, rfl, ?_, B4.out⟩
              have e := HST.out.1
              rw [HN.out] at e
              have e3 : OwnP (w3.setCell ⟨g, i * 2 + 1, none⟩ (.string val)) w1.heap.size (.slice (some ⟨g, 0, none⟩) n cap) wl := by
                unfold OwnP
                rw [HLL.out]
                exact e
              exact e3.lower S1.out
          | false =>
            have e2 := E2.out
            rw [putL, if_pos rfl, if_neg (by rw [HIS.out]; decide), HI.out] at e2
            subst e2
            obtain ⟨A3, c3, rfl⟩ := Own.slice O3.out
            go_wp2_with fail
            refine (pairs_insert (w3.alloc (Obj.cells #[.string key, .string val] 48)) w1.heap.size (.slice A3 ps.length c3) ps i w3.heap.size ⟨key, val⟩ (O3.out.below (Bl.alloc (Below.refl _ _) _)) (by rw [HN.out]; exact hile) (OneP.new w3 ⟨key, val⟩) (fun e => by have := (Own.lt O3.out _ e).2; omega) (Nat.le_trans (Nat.le_trans S4.out S3.out) (Bl.alloc (Below.refl _ _) _).size) HB.out).mono ?_
            rintro e w4 ⟨v4, rfl, ho, hg⟩
            have O4 := Lib.hid ho
            have B4 := Lib.hid (Below.grown (Bl.alloc B3.out (Obj.cells #[.string key, .string val] 48)) hg (Bl.alloc B3.out (Obj.cells #[.string key, .string val] 48)).size (fun q hq => Nat.le_trans S1.out (Own.base O3.out q hq)))
            clear ho hg
            go_wp2_with fail
            go_ret2
            exact ⟨v4, rfl, O4.out.lower S1.out, B4.out⟩
        · cases is with
          | true =>
            have hat := HIS.out
            rw [isK, Bool.and_eq_true, decide_eq_true_eq, decide_eq_true_eq, HI.out, HN.out] at hat
            obtain ⟨hin, hkey⟩ := hat
            have e2 := E2.out
            rw [putL, if_neg (show ¬ (2 : Int) = 1 by decide), if_pos HIS.out, HI.out] at e2
            have o3 := O3.out
            rcases o3.2 with ⟨rfl, h0⟩ | ⟨g, cap, cur, fz, rfl, hbg, hg, hf, hc1, hc2, hc3, hc4⟩
            · rw [HN.out] at h0; omega
            · obtain ⟨m, rfl⟩ : ∃ m, n = m + 1 := ⟨n - 1, by omega⟩
              have PD := Lib.hid (pairs_delete w3 w1.heap.size g m cap i ps (by rw [HN.out] at o3; exact o3) (by omega))
              rw [HN.out]
              clear o3 hg hf hc4
              subst e2
              go_wp2_with fail
              refine PD.out.mono ?_
              rintro e w4 ⟨rfl, ho, hg⟩
              have O4 := Lib.hid ho
              have B4 := Lib.hid (Below.grown B3.out hg B3.out.size (fun q hq => by obtain rfl := Option.some.inj hq; exact Nat.le_trans S1.out hbg))
              clear ho hg
              go_wp2_with fail
              go_ret2
              exact ⟨_, rfl, O4.out.lower S1.out, B4.out⟩
          | false =>
            have e2 := E2.out
            rw [putL, if_neg (show ¬ (2 : Int) = 1 by decide), if_neg (by rw [HIS.out]; decide)] at e2
            subst e2
            go_wp2_with fail
            go_ret2
            exact ⟨v2, rfl, O3.out.lower S1.out, B3.out⟩
      · have hno : ¬ withOk ps ⟨k, e0, key, val⟩ := fun h => hl h.2
        have e1 := HWE.out
        have e2 := HWL.out
        rw [withE, if_neg hno] at e1
        rw [withL, if_neg hno] at e2
        subst e1 e2
        rw [decide_eq_false hl]
        clear hno hl
        go_wp2_with fail
        go_ret2
        exact ⟨_, rfl, OwnP.nil _ _, B1.out⟩
end Go.Proofs.Ytdgnpoapkjoknaa
