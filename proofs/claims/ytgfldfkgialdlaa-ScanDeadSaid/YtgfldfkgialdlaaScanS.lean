/- The statement ScanDead: the walk. -/
import Derived.Test.YtgfldfkgialdlaaScanR
import Derived.Test.YtgfldfkgialdlaaScanP
import Derived.Test.YtgfldfkgialdlaaSfA
namespace Go.Proofs.Ytgfldfkgialdlaa
set_option linter.unusedVariables false
set_option linter.unusedSimpArgs false
open Go.RowKit
theorem Rd.ownO {w : World} {B : Nat} {v : Value} {n : Nat} {xs : List Int} (h : Own w B 3 1 v n (nums xs)) : Rd w v xs := by
  have hl : xs.length = n := by have := h.1; rw [nums_length] at this; omega
  rcases h.2 with ⟨rfl, rfl⟩ | ⟨g, cap, cur, fz, rfl, _, hg, _, h1, h2, h3, h4⟩
  · exact .inl ⟨List.eq_nil_of_length_eq_zero hl, none, 0, rfl, fun _ => rfl⟩
  · subst hl
    refine .inr ⟨g, 0, cap, rfl, h1, h2, fun j hj => ?_⟩
    rw [Nat.zero_add]
    exact h.at' (nums_at hj)
theorem nums_made (k : Nat) : nums (List.replicate k (0 : Int)) = (madeCells (Value.cells (.int .i64 0)) (k * 1)).toList := by
  apply List.ext_getElem
  · simp [nums, madeCells]
  · intro i h1 h2
    simp [nums, madeCells, Value.cells, Nat.mod_one]
theorem nums_set (xs : List Int) (j : Nat) (x : Int) : (nums xs).set j (.int .i64 x) = nums (xs.set j x) := by
  rw [nums, nums, List.map_set]
theorem dead_word (d : Nat) (h : d < 64) : bits .or .i64 3 ((d : Int) * 4) = ((3 + 4 * d : Nat) : Int) := by
  have := or_tan d 3 2 (by decide) (by omega)
  rw [show (((d * 2 ^ 2 : Nat)) : Int) = (d : Int) * 4 by omega, show d * 2 ^ 2 + 3 = 3 + 4 * d by omega] at this
  exact this
theorem key_one (g : Nat) (W : World) (i : Nat) (hi : i < 8) (hg : W.heap.size = g) : (convert 43 9 (.slice (some ⟨g, 0, none⟩) 1 1)).run Try.prog (W.alloc (Obj.cells #[.int .u8 (97 + (i : Int))] 5)) = .ok (.string (str [UInt8.ofNat (97 + i)])) (W.alloc (Obj.cells #[.int .u8 (97 + (i : Int))] 5)) := by
  subst hg
  have e : (97 + (i : Int)) = ((UInt8.ofNat (97 + i)).toNat : Int) := by
    rw [UInt8.toNat_ofNat', Nat.mod_eq_of_lt (by omega)]
    omega
  have h : Own (W.alloc (Obj.cells #[.int .u8 (97 + (i : Int))] 5)) W.heap.size 5 1 (.slice (some ⟨W.heap.size, 0, none⟩) 1 1) 1 (byts [UInt8.ofNat (97 + i)]) := by
    refine ⟨rfl, .inr ⟨W.heap.size, 1, #[.int .u8 (97 + (i : Int))], (0, 0), rfl, Nat.le_refl _, heap_alloc_new W _, .inr rfl, Nat.le_refl _, by decide, rfl, ?_⟩⟩
    rw [e]
    rfl
  exact h.string (P := Try.prog) Try.underlying43 Try.underlying5 Try.underlying9
set_option maxRecDepth 100000 in
set_option maxHeartbeats 4000000 in
theorem ScanDead_walk (w : World) (epoch : Int) (_ : -9223372036854775808 ≤ epoch ∧ epoch ≤ 9223372036854775807) (many : Int) (_ : -9223372036854775808 ≤ many ∧ many ≤ 9223372036854775807) (which : Int) (_ : -9223372036854775808 ≤ which ∧ which ≤ 9223372036854775807) (place : Int) (_ : -9223372036854775808 ≤ place ∧ place ≤ 9223372036854775807) :
    Calls Try.prog 9 #[.int .i64 epoch, .int .i64 many, .int .i64 which, .int .i64 place] w fun e w' => e = .returned (.bool true) ∧ Below w.heap.size w w' := by
  have hx : bits .and .i64 epoch 65535 = epoch % 65536 := and_mask64 epoch 16 (by decide)
  have hx1 := Int.emod_nonneg epoch (show (65536 : Int) ≠ 0 by decide)
  have hx2 := Int.emod_lt_of_pos epoch (show (0 : Int) < 65536 by decide)
  obtain ⟨ep, hep⟩ : ∃ e, 1 + bits .and .i64 epoch 65535 = e := ⟨_, rfl⟩
  have he1 : 1 ≤ ep := by omega
  have he2 : ep ≤ 1048576 := by omega
  have he3 : IntKind.i64.wrap ep = ep := wrap_i64_small (by omega) (by omega)
  obtain ⟨k, hq, k0, k1⟩ := rem_fin many 8 (by decide) (by decide)
  obtain ⟨k, rfl⟩ := Int.eq_ofNat_of_zero_le k0
  obtain ⟨j, hq2, j0, j1⟩ := rem_fin which 8 (by decide) (by decide)
  obtain ⟨j, rfl⟩ := Int.eq_ofNat_of_zero_le j0
  have hd0 : bits .and .i64 place 63 = place % 64 := and_mask64 place 6 (by decide)
  obtain ⟨d, hd1⟩ : ∃ d : Nat, place % 64 = (d : Int) := Int.eq_ofNat_of_zero_le (Int.emod_nonneg _ (by decide))
  have hd : d < 64 := by have := Int.emod_lt_of_pos place (show (0 : Int) < 64 by decide); omega
  rw [hd1] at hd0
  have hk : k < 8 := by omega
  have hj : j < 8 := by omega
  clear hx hx1 hx2 hd1 k0 k1 j0 j1
  have hsz := rsD_sizes ep k
  have z1 := sectB_size (rsD ep k) []
  have hB := sect_byte (rsD ep k) [] j d hj hd
  rw [slotT_nil] at hB
  obtain ⟨x, hx⟩ : ∃ x, (recT (rsD ep k) j).data.toList.getD d 0 = x := ⟨_, rfl⟩
  have gx := get_data (sectB (rsD ep k) []) (64 * j + d) (by rw [z1]; omega)
  rw [hB, hx] at gx
  have hS1 := fun (v : Value) (w : World) (h : RdR w v (rsD ep k)) => sector_any v (.slice none 0 0) (rsD ep k) [] w h (Rd.nil w) hsz
  have hS2 := fun (v u : Value) (w : World) (h : RdR w v (rsD ep k)) (h2 : Rd w u (dsD j d)) => sector_any v u (rsD ep k) (dsD j d) w h h2 hsz
  have z2 := sectB_size (rsD ep k) (dsD j d)
  have hP := fun (h : x = 0) => (show sectB (rsD ep k) (dsD j d) = sectB (rsD ep k) [] from dead_none ep k j d he1 he2 hj hd (hx.trans h))
  have hF0 := plain_facts (plain_slots ep k he1 he2) z1 he1 he2 hk
  have hF1 := fun (h : x ≠ 0) => (deadS_of ep k j d he1 he2 hj hd (by rw [hx]; exact h)).facts z2 he1 he2 hk hj
  generalize sectB (rsD ep k) [] = s at *
  generalize sectB (rsD ep k) (dsD j d) = s2 at *
  have H0 := Lib.hid hF0
  have H1 := Lib.hid hF1
  have HP := Lib.hid hP
  have HS1 := Lib.hid hS1
  have HS2 := Lib.hid hS2
  obtain ⟨i0, hi, hz0, hz1, hz2⟩ := info_parts infoInt
  have I1 := Lib.hid hi
  have I2 := Lib.hid hz0
  have I3 := Lib.hid hz1
  have I4 := Lib.hid hz2
  have HX := Lib.hid hx
  have GX := Lib.hid gx
  have Q2 := Lib.hid hq2
  have D0 := Lib.hid hd0
  clear hi hz0 hz1 hz2 hsz hB hS1 hS2 hP hF0 hF1 he1 he2 hx gx hq2 hd0
  go_enter Try.func9, Try.ntmps9
  go_wp2_with fail
  with_reducible refine (awake20 _).mono ?_
  rintro e w0 ⟨rfl, hb⟩
  have B0 := Lib.hid (Bl.alloc hb (Obj.cells #[.int .i64 0, .int .i64 ep, .string ⟨#[]⟩, .string ⟨#[]⟩] 23))
  have O0 := Lib.hid ((Own.made4 w0 (.int .i64 0) (.int .i64 ep) (.string ⟨#[]⟩) (.string ⟨#[]⟩)).lower hb.size)
  clear hb
  go_wp2_with fail
  (try rw [hq])
  clear hq
  go_loopw [10, 11] (fun v10 i wr => ∃ n : Nat, n ≤ k ∧ i = .int .i64 (n : Int) ∧ Own wr w.heap.size 23 4 v10 (n + 1) (flat (rsD ep n)) ∧ Below w.heap.size w wr) (fun _ i _ => (k - intOf i).toNat)
  case atStart => exact ⟨0, by omega, rfl, O0.out, B0.out⟩
  case round =>
    obtain ⟨i, hi, rfl, o10, hb⟩ := hrel
    obtain ⟨D, c10, rfl⟩ := o10.slice
    have O10 := Lib.hid o10
    have HB := Lib.hid hb
    clear o10 hb B0 O0
    by_cases hlt : i < k
    · have hlt2 : (i : Int) < (k : Int) := by omega
      have hu : IntKind.u8.wrap (97 + (i : Int)) = 97 + (i : Int) := by
        simp only [IntKind.wrap, IntKind.signed, IntKind.bits]
        exact Int.emod_eq_of_lt (by omega) (by omega)
      have kc := key_one wr.heap.size wr i (by omega) rfl
      obtain ⟨c, hc⟩ : ∃ c, str [UInt8.ofNat (97 + i)] = c := ⟨_, rfl⟩
      rw [hc] at kc
      have HC := Lib.hid (show recD i = ⟨1, 0, c, ⟨#[118]⟩⟩ by rw [recD, hc])
      clear hc
      go_wp2_with (at_builtin; refine appO w.heap.size rfl (.tmp 38) (.tmp 45) 41 23 (.agg #[.int .i64 0, .int .i64 0, .string ⟨#[]⟩, .string ⟨#[]⟩]) 4 48 rfl Try.underlying41 infoRec rfl (by decide) (by decide) _ (i + 1) (flat (rsD ep i)) rfl (some ⟨wr.heap.size + 1, 0, none⟩) 1 1 [.int .i64 1, .int .i64 0, .string c, .string ⟨#[118]⟩] rfl rfl (cellsR_one ⟨1, 0, c, ⟨#[118]⟩⟩) (fun h => by cases h) (box4 (Bx.new1 wr _ _ _ _ _ _)) ((O10.out.alloc _).alloc _) (Nat.le_trans HB.out.size (Bl.alloc (Bl.alloc (Below.refl _ _) _) _).size) (by omega) ?_; intro v1 w2 ho hg ha; obtain ⟨D', d', rfl⟩ := ho.slice; have Q10 := Lib.hid ho; have QB := Lib.hid (Below.grown (Bl.alloc (Bl.alloc HB.out (Obj.cells #[.int .u8 (97 + (i : Int))] 5)) (Obj.cells #[.int .i64 1, .int .i64 0, .string c, .string ⟨#[118]⟩] 23)) hg (Bl.alloc (Bl.alloc HB.out (Obj.cells #[.int .u8 (97 + (i : Int))] 5)) (Obj.cells #[.int .i64 1, .int .i64 0, .string c, .string ⟨#[118]⟩] 23)).size (fun q hq => O10.out.base q hq)); clear ho hg ha)
      go_roundw
      case rel =>
        refine ⟨i + 1, by omega, by first | go_num | (congr 1; omega), ?_, QB.out⟩
        rw [rsD_snoc, flat_snoc, HC.out]
        exact Q10.out
      case measure => simp [intOf]; omega
    · obtain rfl : i = k := by omega
      have hq2 := Q2.out
      have hd0 := D0.out
      clear Q2 D0
      go_wp2_with (at_make; refine wpList_make_full _ rfl _ _ 47 rfl wr.heap.size 3 i0 (.int .i64 0) 1 Try.underlying47 I1.out I2.out I3.out .i64 .i64 8 8 8 rfl rfl rfl rfl (by rw [I4.out]; omega) (by simp only [maxLen]; omega) (Nat.le_refl _) ?_; intro w1 ho hg; have HO := Lib.hid (Own.of ho); have HG := Lib.hid (show Below wr.heap.size wr w1 from ⟨hg.os, hg.tape, hg.output, hg.size, fun i hi => hg.block i hi (by simp)⟩); clear ho hg)
      have O1 := Lib.hid (O10.out.below HG.out)
      have B1 := Lib.hid (Bl.then HB.out HG.out)
      with_reducible refine (HS1.out _ _ (RdR.own O1.out)).mono ?_
      rintro e w2 ⟨rfl, hb⟩
      have ho : Own w2 wr.heap.size 3 1 (.slice (some ⟨wr.heap.size, 0, none⟩) 8 8) 8 (nums (List.replicate 8 0)) := by
        rw [nums_made]
        exact HO.out.below hb
      have O2 := Lib.hid (O1.out.below hb)
      have B2 := Lib.hid (Bl.then B1.out hb)
      have gx := GX.out
      have gc : w2.cell? ⟨wr.heap.size, j, none⟩ = some (.int .i64 ((List.replicate 8 (0 : Int)).getD j 0)) := ho.at' (nums_at (by simpa using hj))
      generalize (List.replicate 8 (0 : Int)).getD j 0 = y at gc
      have gf : w2.frozen? ⟨wr.heap.size, j, none⟩ = false := ho.free (by omega)
      obtain ⟨m, hm⟩ : ∃ m, ((3 + 4 * d : Nat) : Int) = m := ⟨_, rfl⟩
      have hw := dead_word d hd
      rw [hm] at hw
      have hst := ho.stored j (.int .i64 m)
      rw [nums_set, ← hm, show (List.replicate 8 (0 : Int)).set j ((3 + 4 * d : Nat) : Int) = dsD j d from rfl, hm] at hst
      have O3 := Lib.hid (O2.out.kept hst.2 (.inr fun e => Nat.lt_irrefl _ (O10.out.lt _ e).2))
      have B3 := Lib.hid (B2.out.setCell (p := ⟨wr.heap.size, j, none⟩) HB.out.size (.int .i64 m))
      have R3 := Lib.hid (RdR.own O3.out)
      have S3 := Lib.hid (Rd.ownO hst.1)
      clear hb ho hst GX O1 O2 B1 B2 HO hm
      go_wp2_with fail
      with_reducible refine (HS2.out _ _ _ R3.out S3.out).mono ?_
      rintro e w4 ⟨rfl, hb⟩
      have B4 := Lib.hid (Bl.then B3.out hb)
      have R4 := Lib.hid (R3.out.below hb)
      clear hb R3 S3 B3 O3 gc gf hw HS1 HS2 HX HG O10 HB gx hd0 hq2
      by_cases h0 : x = 0
      · have f := H0.out
        rw [← HP.out h0] at f
        subst h0
        obtain ⟨f1, f2, f3⟩ := f
        have SA := Lib.hid (fun w => scan_told s2 (by omega) true _ ((i + 1 : Nat) : Int) 0 i f1 rfl f2 (if_pos z2) f3 w)
        clear f1 f2 f3 H0 H1 HP
        generalize scanP s2 = p at SA
        go_wp2_with fail
        with_reducible refine (SA.out _).mono ?_
        rintro e w5 ⟨F, f, rfl, of, hb⟩
        have B5 := Lib.hid (Bl.alloc (Bl.then B4.out hb) (Obj.cells #[.bool true, .int .i64 p, .slice F i f, .int .i64 ((i + 1 : Nat) : Int)] 51))
        obtain ⟨⟨x0, x1, x2, x3⟩, _⟩ := Bx.new w5 (.bool true) (.int .i64 p) (.slice F i f) (.int .i64 ((i + 1 : Nat) : Int)) 51
        clear hb of SA B4 R4
        go_wp2_with (go_at_call 17; refine (num_any _ _).mono ?_; rintro e w' ⟨rfl, rfl⟩)
        go_ret
        exact ⟨rfl, B5.out⟩
      · obtain ⟨f1, f2, f3⟩ := H1.out h0
        have hne : ((x.toNat : Int) == 0) = false := by
          rw [beq_eq_false_iff_ne]
          intro e
          exact h0 (UInt8.toNat_inj.1 (by show x.toNat = 0; omega))
        obtain ⟨g, hg⟩ : ∃ g, decide (j ≠ 0) = g := ⟨_, rfl⟩
        have hgj : ((j : Int) != 0) = g := by
          rw [← hg, Bool.eq_iff_iff, bne_iff_ne, decide_eq_true_eq]
          omega
        obtain ⟨fr, hfr⟩ : ∃ fr, (if i < j then j + 1 else i + 1) = fr := ⟨_, rfl⟩
        rw [hg] at f1
        rw [hfr] at f2
        have SA := Lib.hid (fun w => scan_told s2 (by omega) g _ (fr : Int) 0 (wantD j i).length f1 rfl f2 (if_pos z2) (by rw [f3]) w)
        rw [f3] at SA
        have HFR := Lib.hid hfr
        clear f1 f2 f3 H0 H1 HP h0 hg hfr
        generalize scanP s2 = p at SA
        go_wp2_with fail
        with_reducible refine (SA.out _).mono ?_
        rintro e w5 ⟨F, f, rfl, of, hb⟩
        have B5 := Lib.hid (Bl.alloc (Bl.then B4.out hb) (Obj.cells #[.bool g, .int .i64 p, .slice F (wantD j i).length f, .int .i64 (fr : Int)] 51))
        have R5 := Lib.hid ((R4.out.below hb).below (Bl.alloc (Below.refl _ _) (Obj.cells #[.bool g, .int .i64 p, .slice F (wantD j i).length f, .int .i64 (fr : Int)] 51)))
        have RF := Lib.hid (RdR.own (of.alloc (Obj.cells #[.bool g, .int .i64 p, .slice F (wantD j i).length f, .int .i64 (fr : Int)] 51)))
        have X5 := Lib.hid (Bx.new w5 (.bool g) (.int .i64 p) (.slice F (wantD j i).length f) (.int .i64 (fr : Int)) 51)
        clear hb of SA B4 R4
        go_wp2_with (go_at_call 17; refine (num_any _ _).mono ?_; rintro e w' ⟨rfl, rfl⟩)
        generalize w5.alloc (Obj.cells #[.bool g, .int .i64 p, .slice F (wantD j i).length f, .int .i64 (fr : Int)] 51) = wl at *
        generalize w5.heap.size = vb at *
        obtain ⟨L, hL⟩ : ∃ L, i + 1 = L := ⟨_, rfl⟩
        have hL8 : L ≤ 8 := by omega
        obtain ⟨b, o, c', hv, _, _, hcc⟩ := R5.out.pos (by rw [rsD_len]; omega)
        rw [rsD_len] at hv hcc
        obtain ⟨rfl, rfl⟩ := Value.slice.inj hv |> fun h => And.intro h.1 h.2.2
        have CC := Lib.hid hcc
        have HL := Lib.hid hL
        clear hv hcc R5
        rw [hL]
        clear hL
        go_loopw [19, 20] (fun v19 ii wq => ∃ q : Nat, 1 ≤ q ∧ q ≤ L ∧ ii = .int .i64 (q : Int) ∧ Own wq wl.heap.size 23 4 v19 (wantD j (q - 1)).length (flat (wantD j (q - 1))) ∧ Below wl.heap.size wl wq) (fun _ ii _ => (L - intOf ii).toNat)
        case atStart => exact ⟨1, by omega, by have := HL.out; omega, rfl, Own.nil _ _ _ _, Below.refl _ _⟩
        case round =>
          obtain ⟨q, hq1, hq2, rfl, o19, hbq⟩ := hrel
          obtain ⟨E, e19, rfl⟩ := o19.slice
          have O19 := Lib.hid o19
          have HQ := Lib.hid hbq
          clear o19 hbq
          by_cases hlt : q < L
          · have hlt2 : (q : Int) < (L : Int) := by omega
            by_cases hqj : q = j
            · have hd9 : ((q : Int) != (j : Int)) = false := by rw [bne_eq_false_iff_eq]; omega
              have HJ := Lib.hid hqj
              clear hqj
              go_wp2_with fail
              go_roundw
              case rel =>
                refine ⟨q + 1, by omega, by omega, by first | go_num | (congr 1; omega), ?_, HQ.out⟩
                have e : wantD j (q + 1 - 1) = wantD j (q - 1) := by
                  obtain ⟨r, rfl⟩ : ∃ r, q = r + 1 := ⟨q - 1, by omega⟩
                  show wantD j (r + 1) = wantD j r
                  rw [wantD, if_neg (by rw [HJ.out]; exact fun h => h rfl)]
                rw [e]
                exact O19.out
              case measure => simp [intOf]; omega
            · have hd9 : ((q : Int) != (j : Int)) = true := by rw [bne_iff_ne]; omega
              have HJ := Lib.hid hqj
              clear hqj
              have hwl := wantD_len j (q - 1)
              have hqr : (rsD ep i).getD q zeroR = recD (q - 1) := by
                have h := rsD_at ep i (q - 1) (by have := HL.out; omega)
                rw [show q - 1 + 1 = q by omega] at h
                exact h
              obtain ⟨g0, g1, g2, g3⟩ := CC.out q (by rw [HL.out]; exact hlt)
              rw [hqr] at g0 g1 g2 g3
              have kb := fun (q : Nat) (v : Value) (h : wl.cell? ⟨b, q, none⟩ = some v) => (HQ.out.cell (World.block_lt_of_cell? _ _ h)).trans h
              have g0 : wr.cell? ⟨b, o + q * 4, none⟩ = some (.int .i64 1) := kb _ _ g0
              have g1 : wr.cell? ⟨b, o + q * 4 + 1, none⟩ = some (.int .i64 0) := kb _ _ g1
              have g2 := kb _ _ g2
              have g3 : wr.cell? ⟨b, o + q * 4 + 3, none⟩ = some (.string ⟨#[118]⟩) := kb _ _ g3
              obtain ⟨c, hc⟩ : ∃ c, (recD (q - 1)).key = c := ⟨_, rfl⟩
              rw [hc] at g2
              have HC := Lib.hid (show recD (q - 1) = ⟨1, 0, c, ⟨#[118]⟩⟩ by rw [← hc]; rfl)
              clear hc kb hqr
              go_wp2_with (at_builtin; refine appO wl.heap.size rfl (.tmp 105) (.tmp 110) 41 23 (.agg #[.int .i64 0, .int .i64 0, .string ⟨#[]⟩, .string ⟨#[]⟩]) 4 48 rfl Try.underlying41 infoRec rfl (by decide) (by decide) _ (wantD j (q - 1)).length (flat (wantD j (q - 1))) rfl (some ⟨wr.heap.size, 0, none⟩) 1 1 [.int .i64 1, .int .i64 0, .string c, .string ⟨#[118]⟩] rfl rfl (cellsR_one ⟨1, 0, c, ⟨#[118]⟩⟩) (fun h => by cases h) (box4 (Bx.new wr _ _ _ _ _)) (O19.out.alloc _) (Nat.le_trans HQ.out.size (Bl.alloc (Below.refl _ _) _).size) (by have := HL.out; omega) ?_; intro v1 w7 ho hg ha; obtain ⟨E', e', rfl⟩ := ho.slice; have Q19 := Lib.hid ho; have QB := Lib.hid (Below.grown (Bl.alloc HQ.out (Obj.cells #[.int .i64 1, .int .i64 0, .string c, .string ⟨#[118]⟩] 23)) hg (Bl.alloc HQ.out (Obj.cells #[.int .i64 1, .int .i64 0, .string c, .string ⟨#[118]⟩] 23)).size (fun q hq => O19.out.base q hq)); clear ho hg ha)
              go_roundw
              case rel =>
                refine ⟨q + 1, by omega, by omega, by first | go_num | (congr 1; omega), ?_, QB.out⟩
                have e : wantD j (q + 1 - 1) = wantD j (q - 1) ++ [⟨1, 0, c, ⟨#[118]⟩⟩] := by
                  rw [← HC.out]
                  obtain ⟨r, rfl⟩ : ∃ r, q = r + 1 := ⟨q - 1, by omega⟩
                  show wantD j (r + 1) = wantD j r ++ [recD r]
                  rw [wantD, if_pos HJ.out]
                rw [e, flat_snoc, List.length_append]
                exact Q19.out
              case measure => simp [intOf]; omega
          · obtain rfl : q = L := by omega
            have hqi : wantD j (q - 1) = wantD j i := by rw [← HL.out]; rfl
            have o9 := O19.out
            rw [hqi] at o9 ⊢
            have R9 := Lib.hid (RdR.own o9)
            have RF9 := Lib.hid (RF.out.below HQ.out)
            obtain ⟨⟨x0, x1, x2, x3⟩, _⟩ := Bx.below X5.out HQ.out
            have B9 := Lib.hid (Bl.then B5.out HQ.out)
            clear o9 hqi O19 RF X5 CC HQ B5
            by_cases hij : i < j
            · have hij2 : (i : Int) < (j : Int) := by omega
              have hf := HFR.out
              rw [if_pos hij] at hf
              subst hf
              go_wp2_with fail
              with_reducible refine (same_recs _ _ (wantD j i) (wantD j i) _ RF9.out R9.out).mono ?_
              rw [decide_eq_true (rfl : wantD j i = wantD j i)]
              rintro e w8 ⟨rfl, q8, rfl⟩
              go_wp2_with fail
              go_ret
              exact ⟨rfl, Bl.drewN B9.out q8⟩
            · have hij2 : ¬ (i : Int) < (j : Int) := by omega
              have hf := HFR.out
              rw [if_neg hij] at hf
              subst hf
              go_wp2_with fail
              with_reducible refine (same_recs _ _ (wantD j i) (wantD j i) _ RF9.out R9.out).mono ?_
              rw [decide_eq_true (rfl : wantD j i = wantD j i)]
              rintro e w8 ⟨rfl, q8, rfl⟩
              go_wp2_with fail
              go_ret
              exact ⟨rfl, Bl.drewN B9.out q8⟩
end Go.Proofs.Ytgfldfkgialdlaa
