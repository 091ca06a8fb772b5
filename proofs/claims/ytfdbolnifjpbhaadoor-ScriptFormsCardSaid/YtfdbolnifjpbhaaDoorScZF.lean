/- Scripts: any acts, any text: the walk (printed by gen_sczf.py). -/
import Derived.Test.YtfdbolnifjpbhaaDoorScZE
import Derived.Test.YtfdbolnifjpbhaaDoorScZC
import Derived.Test.YtfdbolnifjpbhaaDoorScY
import Derived.Deep.RegionHeld3
namespace Go.Proofs.YtfdbolnifjpbhaaDoor
set_option linter.unusedVariables false
set_option linter.unusedSimpArgs false
open Go.RowKit

/-- What is known of the acts that a law is given. -/
structure GivA (ms : List ActM) : Prop where
  n8 : ms.length * 128 ≤ 140737488355328
  sz : ∀ m ∈ ms, SzA m.a
  b8 : ∀ m ∈ ms, m.a.busy.length * 8 ≤ 140737488355328 ∧ m.a.reads.length * 8 ≤ 140737488355328
theorem OwnA.sz {W : World} {B : Nat} {v : Value} {ms : List ActM} (h : OwnA W B v ms) {xs : List ActV} (he : ms.map (·.a) = xs) (hx : ∀ a ∈ xs, SzA a) : ∀ m ∈ ms, SzA m.a := fun m hm => hx _ (by rw [← he]; exact List.mem_map.2 ⟨m, hm, rfl⟩)
theorem readL_sz (s : ByteArray) : ∀ a ∈ readL s, SzA a := by
  by_cases h : ∃ xs, Told s xs
  · obtain ⟨xs, hx⟩ := h
    rw [hx.eq.1]
    intro a ha
    have hm := mayR_facts (hx.1.2 a ha)
    exact ⟨by have := hm.key; omega, by have := hm.val; omega, by have := hm.mask; omega⟩
  · rw [(readL_no h).1]
    intro a ha
    simp at ha
theorem num_s (n : Int) (w : World) : Calls Tryd.prog 12 #[.int .i64 n] w fun e w' => e = .returned (.int .i64 n) ∧ w = w' := (num_e n w).mono fun e w' ⟨h1, h2⟩ => ⟨h1, h2.symm⟩
set_option maxRecDepth 100000 in
set_option maxHeartbeats 8000000 in
theorem Scripts_walk (va : Value) (ms : List ActM) (s : ByteArray) (w : World) (hr : RdA w va ms) (hg : GivA ms) (hs : s.size ≤ 140737488351232) (htab : Tab w) :
    Calls Tryd.prog 3 #[va, .string s] w fun e w' => e = .returned (.bool true) ∧ Below w.heap.size w w' := by
  have HTAB := Lib.hid (fun (W : World) (hb : Below w.heap.size w W) => show Tab W from fun w' h' => htab w' (Bl.then hb h'))
  obtain ⟨A, c, rfl⟩ := hr.1.form
  have HR := Lib.hid hr
  have HG := Lib.hid hg
  have CP := Lib.hid (copy_acts (.slice A ms.length c) ms w hr hg.n8 hg.b8)
  obtain ⟨acts, hacts⟩ : ∃ acts, ms.map (·.a) = acts := ⟨_, rfl⟩
  have HACTS := Lib.hid hacts
  rw [hacts] at CP
  obtain ⟨T, hT⟩ : ∃ T, showT acts = T := ⟨_, rfl⟩
  obtain ⟨E, hE⟩ : ∃ E, showE acts = E := ⟨_, rfl⟩
  obtain ⟨L, hL⟩ : ∃ L, readL s = L := ⟨_, rfl⟩
  obtain ⟨G, hG⟩ : ∃ G, readE s = G := ⟨_, rfl⟩
  have ASZ := Lib.hid (show ∀ a ∈ acts, SzA a from fun a ha => by
    rw [← hacts] at ha
    obtain ⟨m, hm, rfl⟩ := List.mem_map.1 ha
    exact hg.sz m hm)
  have LSZ := Lib.hid (show ∀ a ∈ L, SzA a from by rw [← hL]; exact readL_sz s)
  have SH := Lib.hid (fun (v : Value) (ns : List ActM) (W : World) (hR : RdA W v ns) (hn : ns.map (·.a) = acts) (hW : Tab W) => show Calls Tryd.prog 8 #[v] W fun e w' => e = .returned (.tuple #[.string T, .int .i64 E]) ∧ Below W.heap.size W w' from by
    have h := show_any v ns W hR (fun m hm => ASZ.out _ (by rw [← hn]; exact List.mem_map.2 ⟨m, hm, rfl⟩)) hW
    rwa [hn, hT, hE] at h)
  have RS := Lib.hid (fun (W : World) (hR : RdA W (.slice A ms.length c) ms) => show Calls Tryd.prog 9 #[.slice A ms.length c] W fun e w' => e = .returned (.tuple #[.string T, .int .i64 E]) ∧ Below W.heap.size W w' from by
    have h := rshow_any (.slice A ms.length c) ms W hR hg.sz
    rwa [hacts, hT, hE] at h)
  have PA := Lib.hid (fun (W : World) (hW : Tab W) => parse_any s hs W hW)
  have PT := Lib.hid (fun (W : World) => parset_any s hs W)
  rw [hL, hG] at PA PT
  have hq : (T.toList == T.toList) = true := beq_self_eq_true _
  have hq2 : (T.toList != T.toList) = false := by simp
  have he2 : (E != E) = false := by simp
  have hg2 : (G != G) = false := by simp
  obtain ⟨n, hn⟩ : ∃ n, ms.length = n := ⟨_, rfl⟩
  have HN := Lib.hid hn
  have hn9 : n ≤ 9223372036854775807 := by have := hg.n8; omega
  rw [hn] at HR CP RS ⊢
  clear hr hg hacts hT hE hL hG hn htab hs
  go_enter Tryd.func3, Tryd.ntmps3
  go_wp2_with fail
  refine CP.out.mono ?_
  rintro e w1 ⟨v1, ns, rfl, ho1, hm1, hb1⟩
  obtain ⟨X1, x1, rfl⟩ := ho1.1.slice
  have O1 := Lib.hid ho1
  have M1 := Lib.hid hm1
  have B1 := Lib.hid hb1
  clear ho1 hm1 hb1 CP
  go_wp2_with fail
  refine (SH.out _ ns w1 (OwnA.rd O1.out) M1.out (HTAB.out _ B1.out)).mono ?_
  rintro e w2 ⟨rfl, hb2⟩
  have O2 := Lib.hid (O1.out.below hb2)
  have B2 := Lib.hid (Bl.then B1.out hb2)
  clear hb2 O1 B1 SH
  go_wp2_with fail
  refine (RS.out w2 (HR.out.below B2.out)).mono ?_
  rintro e w3 ⟨rfl, hb3⟩
  have O3 := Lib.hid (O2.out.below hb3)
  have B3 := Lib.hid (Bl.then B2.out hb3)
  clear hb3 O2 B2 RS
  go_wp2_with fail
  refine (PA.out w3 (HTAB.out _ B3.out)).mono ?_
  rintro e w4 ⟨v4, ms4, rfl, ho4, hm4, hb4⟩
  obtain ⟨X4, x4, rfl⟩ := ho4.1.slice
  have P4 := Lib.hid ho4
  have M4 := Lib.hid hm4
  have O4 := Lib.hid (O3.out.below hb4)
  have B4 := Lib.hid (Bl.then B3.out hb4)
  have HL3 := Lib.hid B3.out.size
  clear ho4 hm4 hb4 O3 B3 PA
  go_wp2_with fail
  refine (PT.out w4).mono ?_
  rintro e w5 ⟨v5, ms5, rfl, ho5, hm5, hb5⟩
  obtain ⟨X5, x5, rfl⟩ := ho5.1.slice
  have P5 := Lib.hid ho5
  have M5 := Lib.hid hm5
  have O5 := Lib.hid (O4.out.below hb5)
  have Q5 := Lib.hid (P4.out.below hb5)
  have B5 := Lib.hid (Bl.then B4.out hb5)
  clear ho5 hm5 hb5 O4 B4 PT P4
  have SA := Lib.hid (same_acts _ _ _ _ _ w5 (OwnA.rd Q5.out) (OwnA.rd P5.out) M4.out M5.out)
  have SB := Lib.hid (fun (q : Nat) => same_acts (.slice X1 ns.length x1) (.slice A n c) _ _ _ (w5.drewN q) ((OwnA.rd O5.out).drewN q) ((HR.out.below B5.out).drewN q) M1.out HACTS.out)
  go_wp2_with (first
    | (go_at_call 12; with_reducible refine (num_s _ _).mono ?_; rintro e wn ⟨rfl, rfl⟩)
    | (go_at_call 13; with_reducible refine SA.out.mono ?_; rintro e w6 ⟨rfl, q6, rfl⟩)
    | (go_at_call 13; with_reducible refine (SB.out _).mono ?_; rintro e w7 ⟨rfl, q7, rfl⟩))
  have B7 := Lib.hid (Bl.drewN B5.out (q6 + q7))
  have Q7 := Lib.hid (show OwnA (w5.drewN (q6 + q7)) w3.heap.size (.slice X4 ms4.length x4) ms4 from ⟨Q5.out.1.drewN (q6 + q7), fun m hm => ⟨(Q5.out.2 m hm).1.drewN (q6 + q7), (Q5.out.2 m hm).2.drewN (q6 + q7)⟩⟩)
  have hs7 : w5.heap.size = (w5.drewN (q6 + q7)).heap.size := rfl
  generalize w5.drewN (q6 + q7) = w7 at B7 Q7 ⊢
  clear hs7 Q5 P5 O5 B5 SA SB hq hq2 he2 hg2
  have HZ7 := Lib.hid B7.out.size
  go_loopw [14] (fun v14 wr => ∃ k : Nat, k ≤ n ∧ v14 = .int .i64 (k : Int) ∧ Below w7.heap.size w7 wr) (fun v14 wr => ((n : Int) - intOf v14).toNat)
  case atStart => exact ⟨0, by omega, rfl, Below.refl _ _⟩
  case round =>
    obtain ⟨k, hk, rfl, hbr⟩ := hrel
    have BR := Lib.hid hbr
    clear hbr
    by_cases hlt : k < n
    · have hlt2 : (k : Int) < (n : Int) := by omega
      have HRW := Lib.hid ((HR.out.below B7.out).below BR.out)
      obtain ⟨b, o, c', hv, _, _, hcc⟩ := HRW.out.1.pos (by rw [HN.out]; omega)
      rw [HN.out] at hv hcc
      obtain ⟨rfl, rfl⟩ := Value.slice.inj hv |> fun h => And.intro h.1 h.2.2
      obtain ⟨g0, g1, g2, g3, g4, g5, g6, g7, g8⟩ := hcc k hlt
      have hmem : ms.getD k zeroM ∈ ms := getD_memM (by rw [HN.out]; exact hlt)
      have hokm := HRW.out.2 _ hmem
      have hszm := HG.out.sz _ hmem
      obtain ⟨m, hm⟩ : ∃ m, ms.getD k zeroM = m := ⟨_, rfl⟩
      rw [hm] at g0 g1 g2 g3 g4 g5 g6 g7 g8 hokm hszm
      have MAY0 := fun (W : World) (hb : Below wr.heap.size wr W) => may_any m W (hokm.below hb) hszm
      have RMAY0 := fun (W : World) (hb : Below wr.heap.size wr W) => actmay_any m W (hokm.below hb) hszm
      obtain ⟨mb, hmb⟩ : ∃ b, mayR m.a = b := ⟨_, rfl⟩
      rw [may_eq, hmb] at MAY0
      rw [hmb] at RMAY0
      have hf1 := hokm.1.form
      have hf2 := hokm.2.form
      obtain ⟨⟨kd, key, val, pl, wd, ls, mask, busy, reads⟩, bv, rv⟩ := m
      obtain ⟨A1, c1, rfl⟩ : ∃ A c, bv = .slice A busy.length c := hf1
      obtain ⟨A2, c2, rfl⟩ : ∃ A c, rv = .slice A reads.length c := hf2
      simp only [ActM.v] at g0 g1 g2 g3 g4 g5 g6 g7 g8 MAY0 RMAY0
      have MAY := Lib.hid (fun (W : World) (h : W.cell? ⟨b, o + k * 9, none⟩ = some (.int .i64 kd) ∧ W.cell? ⟨b, o + k * 9 + 1, none⟩ = some (.string key) ∧ W.cell? ⟨b, o + k * 9 + 2, none⟩ = some (.string val) ∧ W.cell? ⟨b, o + k * 9 + 3, none⟩ = some (.int .i64 pl) ∧ W.cell? ⟨b, o + k * 9 + 4, none⟩ = some (.int .i64 wd) ∧ W.cell? ⟨b, o + k * 9 + 5, none⟩ = some (.int .i64 ls) ∧ W.cell? ⟨b, o + k * 9 + 6, none⟩ = some (.string mask) ∧ W.cell? ⟨b, o + k * 9 + 7, none⟩ = some (.slice A1 busy.length c1) ∧ W.cell? ⟨b, o + k * 9 + 8, none⟩ = some (.slice A2 reads.length c2) ∧ Below wr.heap.size wr W) => MAY0 W h.2.2.2.2.2.2.2.2.2)
      have RMAY := Lib.hid (fun (W : World) (h : W.cell? ⟨b, o + k * 9, none⟩ = some (.int .i64 kd) ∧ W.cell? ⟨b, o + k * 9 + 1, none⟩ = some (.string key) ∧ W.cell? ⟨b, o + k * 9 + 2, none⟩ = some (.string val) ∧ W.cell? ⟨b, o + k * 9 + 3, none⟩ = some (.int .i64 pl) ∧ W.cell? ⟨b, o + k * 9 + 4, none⟩ = some (.int .i64 wd) ∧ W.cell? ⟨b, o + k * 9 + 5, none⟩ = some (.int .i64 ls) ∧ W.cell? ⟨b, o + k * 9 + 6, none⟩ = some (.string mask) ∧ W.cell? ⟨b, o + k * 9 + 7, none⟩ = some (.slice A1 busy.length c1) ∧ W.cell? ⟨b, o + k * 9 + 8, none⟩ = some (.slice A2 reads.length c2) ∧ Below wr.heap.size wr W) => RMAY0 W h.2.2.2.2.2.2.2.2.2)
      have HLT := Lib.hid (show k + 1 ≤ n from hlt)
      have hmb2 : (mb != mb) = false := by simp
      have KS := fun (W W' : World) (h : W.cell? ⟨b, o + k * 9, none⟩ = some (.int .i64 kd) ∧ W.cell? ⟨b, o + k * 9 + 1, none⟩ = some (.string key) ∧ W.cell? ⟨b, o + k * 9 + 2, none⟩ = some (.string val) ∧ W.cell? ⟨b, o + k * 9 + 3, none⟩ = some (.int .i64 pl) ∧ W.cell? ⟨b, o + k * 9 + 4, none⟩ = some (.int .i64 wd) ∧ W.cell? ⟨b, o + k * 9 + 5, none⟩ = some (.int .i64 ls) ∧ W.cell? ⟨b, o + k * 9 + 6, none⟩ = some (.string mask) ∧ W.cell? ⟨b, o + k * 9 + 7, none⟩ = some (.slice A1 busy.length c1) ∧ W.cell? ⟨b, o + k * 9 + 8, none⟩ = some (.slice A2 reads.length c2) ∧ Below wr.heap.size wr W) (hb : Below W.heap.size W W') => show W'.cell? ⟨b, o + k * 9, none⟩ = some (.int .i64 kd) ∧ W'.cell? ⟨b, o + k * 9 + 1, none⟩ = some (.string key) ∧ W'.cell? ⟨b, o + k * 9 + 2, none⟩ = some (.string val) ∧ W'.cell? ⟨b, o + k * 9 + 3, none⟩ = some (.int .i64 pl) ∧ W'.cell? ⟨b, o + k * 9 + 4, none⟩ = some (.int .i64 wd) ∧ W'.cell? ⟨b, o + k * 9 + 5, none⟩ = some (.int .i64 ls) ∧ W'.cell? ⟨b, o + k * 9 + 6, none⟩ = some (.string mask) ∧ W'.cell? ⟨b, o + k * 9 + 7, none⟩ = some (.slice A1 busy.length c1) ∧ W'.cell? ⟨b, o + k * 9 + 8, none⟩ = some (.slice A2 reads.length c2) ∧ Below wr.heap.size wr W' from
        have cc : ∀ a u, W.cell? a = some u → W'.cell? a = some u := fun a u hc => (hb.cell (World.block_lt_of_cell? W a hc)).trans hc
        ⟨cc _ _ h.1, cc _ _ h.2.1, cc _ _ h.2.2.1, cc _ _ h.2.2.2.1, cc _ _ h.2.2.2.2.1, cc _ _ h.2.2.2.2.2.1, cc _ _ h.2.2.2.2.2.2.1, cc _ _ h.2.2.2.2.2.2.2.1, cc _ _ h.2.2.2.2.2.2.2.2.1, Bl.then h.2.2.2.2.2.2.2.2.2 hb⟩
      have KH := Lib.hid KS
      have SHH := Lib.hid (show wr.drew.cell? ⟨b, o + k * 9, none⟩ = some (.int .i64 kd) ∧ wr.drew.cell? ⟨b, o + k * 9 + 1, none⟩ = some (.string key) ∧ wr.drew.cell? ⟨b, o + k * 9 + 2, none⟩ = some (.string val) ∧ wr.drew.cell? ⟨b, o + k * 9 + 3, none⟩ = some (.int .i64 pl) ∧ wr.drew.cell? ⟨b, o + k * 9 + 4, none⟩ = some (.int .i64 wd) ∧ wr.drew.cell? ⟨b, o + k * 9 + 5, none⟩ = some (.int .i64 ls) ∧ wr.drew.cell? ⟨b, o + k * 9 + 6, none⟩ = some (.string mask) ∧ wr.drew.cell? ⟨b, o + k * 9 + 7, none⟩ = some (.slice A1 busy.length c1) ∧ wr.drew.cell? ⟨b, o + k * 9 + 8, none⟩ = some (.slice A2 reads.length c2) ∧ Below wr.heap.size wr wr.drew from ⟨g0, g1, g2, g3, g4, g5, g6, g7, g8, Bl.drewN (Below.refl _ _) 1⟩)
      have w6 : wrap64 ((k : Int) + 1) = (k : Int) + 1 := IntWalk.wrap64_in _ ⟨by omega, by omega⟩
      clear hv hcc hmem hokm hszm hm MAY0 RMAY0 hmb KS hlt
      go_wp2_with fail
      go_region_held3 (fun W => W.cell? ⟨b, o + k * 9, none⟩ = some (.int .i64 kd) ∧ W.cell? ⟨b, o + k * 9 + 1, none⟩ = some (.string key) ∧ W.cell? ⟨b, o + k * 9 + 2, none⟩ = some (.string val) ∧ W.cell? ⟨b, o + k * 9 + 3, none⟩ = some (.int .i64 pl) ∧ W.cell? ⟨b, o + k * 9 + 4, none⟩ = some (.int .i64 wd) ∧ W.cell? ⟨b, o + k * 9 + 5, none⟩ = some (.int .i64 ls) ∧ W.cell? ⟨b, o + k * 9 + 6, none⟩ = some (.string mask) ∧ W.cell? ⟨b, o + k * 9 + 7, none⟩ = some (.slice A1 busy.length c1) ∧ W.cell? ⟨b, o + k * 9 + 8, none⟩ = some (.slice A2 reads.length c2) ∧ Below wr.heap.size wr W) (first | exact SHH.out | assumption | with_reducible exact hs2) (first
        | (go_at_call 14; with_reducible refine (MAY.out _ (by assumption)).mono ?_; rintro e w8 ⟨rfl, hb⟩; have hs2 := KH.out _ _ (by assumption) hb)
        | (go_at_call 15; with_reducible refine (RMAY.out _ (by assumption)).mono ?_; rintro e w8 ⟨rfl, hb⟩; have hs2 := KH.out _ _ (by assumption) hb))
      have B8 := Lib.hid (show Below wr.heap.size wr w8 from hs2.2.2.2.2.2.2.2.2.2)
      clear hs2
      repeat go_step
      go_roundw
      case rel => exact ⟨k + 1, HLT.out, by first | rfl | rw [w6]; rfl, Bl.then BR.out B8.out⟩
      case measure =>
        have := HLT.out
        clear hmb2 g0 g1 g2 g3 g4 g5 g6 g7 g8
        simp only [intOf]
        first
          | omega
          | (rw [w6]; omega)
    · have hd : decide ((k : Int) < (n : Int)) = false := decide_eq_false (by omega)
      have SPO := Lib.hid (spoil_acts w3.heap.size _ ms4 wr (Q7.out.below BR.out) (fun m hm => (LSZ.out m.a (by rw [← M4.out]; exact List.mem_map.2 ⟨m, hm, rfl⟩)).1))
      go_wp2_with fail
      refine SPO.out.mono ?_
      rintro e w9 ⟨rfl, hb9, hz9⟩
      have B9 := Lib.hid (show Below w.heap.size w w9 from (Bl.then B7.out BR.out).trans ⟨hb9.os, hb9.tape, hb9.output, hb9.size, fun i hi => hb9.block i (Nat.lt_of_lt_of_le hi HL3.out)⟩)
      clear hb9 hz9
      go_wp2_with fail
      refine (awake24 w9 (HTAB.out _ B9.out)).mono ?_
      rintro e w10 ⟨rfl, hb10⟩
      go_wp2_with fail
      go_ret
      exact ⟨rfl, Bl.then B9.out hb10⟩
end Go.Proofs.YtfdbolnifjpbhaaDoor
