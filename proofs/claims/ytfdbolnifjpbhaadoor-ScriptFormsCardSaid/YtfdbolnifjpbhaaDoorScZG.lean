/- ScriptBack: without the document's answer (printed by gen_sczg.py). -/
import Derived.Test.YtfdbolnifjpbhaaDoorScZF
namespace Go.Proofs.YtfdbolnifjpbhaaDoor
set_option linter.unusedVariables false
set_option linter.unusedSimpArgs false
open Go.RowKit

theorem showT_size {xs : List ActV} (h : showOk xs) : (showT xs).size ≤ 300000 := by
  rw [(show_yes h).1, str_size]
  have h1 := actsB_len (fun a ha => mayR_facts (h.2 a ha))
  have h2 := h.1
  omega
theorem told_show {xs : List ActV} (h : showOk xs) : Told (showT xs) xs := ⟨h, (show_yes h).1.symm⟩
set_option maxRecDepth 100000 in
set_option maxHeartbeats 8000000 in
theorem ScriptBack_walk (va : Value) (ms : List ActM) (s : ByteArray) (w : World) (hr : RdA w va ms) (hg : GivA ms) (hs : s.size ≤ 140737488351232) (htab : Tab w) :
    Calls Tryd.prog 4 #[va, .string s] w fun e w' => e = .returned (.bool true) ∧ Below w.heap.size w w' := by
  have HTAB := Lib.hid (fun (W : World) (hb : Below w.heap.size w W) => show Tab W from fun w' h' => htab w' (Bl.then hb h'))
  obtain ⟨A, c, rfl⟩ := hr.1.form
  have HR := Lib.hid hr
  obtain ⟨acts, hacts⟩ : ∃ acts, ms.map (·.a) = acts := ⟨_, rfl⟩
  have HACTS := Lib.hid hacts
  have SH := Lib.hid (fun (W : World) (hR : RdA W (.slice A ms.length c) ms) (hW : Tab W) => show_any (.slice A ms.length c) ms W hR hg.sz hW)
  rw [hacts] at SH
  have PA := Lib.hid (fun (W : World) (hW : Tab W) => parse_any s hs W hW)
  have AW := Lib.hid (awake24 w htab)
  obtain ⟨n, hn⟩ : ∃ n, ms.length = n := ⟨_, rfl⟩
  have hn9 : n ≤ 9223372036854775807 := by have := hg.n8; omega
  rw [hn] at HR SH ⊢
  clear hr hg hacts hn htab
  have hq : (s.toList == s.toList) = true := beq_self_eq_true _
  by_cases ho : showOk acts
  · have PB := Lib.hid (fun (W : World) (hW : Tab W) => parse_any (showT acts) (Nat.le_trans (showT_size ho) (by decide)) W hW)
    rw [(told_show ho).eq.1, (told_show ho).eq.2] at PB
    rw [(show_yes ho).2] at SH
    obtain ⟨T, hT⟩ : ∃ T, showT acts = T := ⟨_, rfl⟩
    rw [hT] at SH PB
    clear hT ho
    go_enter Tryd.func4, Tryd.ntmps4
    go_wp2_with fail
    refine AW.out.mono ?_
    rintro e w1 ⟨rfl, hb1⟩
    have B1 := Lib.hid hb1
    clear hb1 AW
    go_wp2_with fail
    refine (SH.out w1 (HR.out.below B1.out) (HTAB.out _ B1.out)).mono ?_
    rintro e w2 ⟨rfl, hb2⟩
    have B2 := Lib.hid (Bl.then B1.out hb2)
    clear hb2 B1 SH
    go_wp2_with (go_at_call 12; with_reducible refine (num_s _ _).mono ?_; rintro e wn ⟨rfl, rfl⟩)
    refine (PB.out w2 (HTAB.out _ B2.out)).mono ?_
    rintro e w3 ⟨v3, ms3, rfl, ho3, hm3, hb3⟩
    obtain ⟨X3, x3, rfl⟩ := ho3.1.slice
    have O3 := Lib.hid ho3
    have M3 := Lib.hid hm3
    have B3 := Lib.hid (Bl.then B2.out hb3)
    clear ho3 hm3 hb3 B2 PB
    have SA := Lib.hid (same_acts _ _ _ _ _ w3 (HR.out.below B3.out) (OwnA.rd O3.out) HACTS.out M3.out)
    go_wp2_with (first
      | (go_at_call 12; with_reducible refine (num_s _ _).mono ?_; rintro e wn ⟨rfl, rfl⟩)
      | (go_at_call 13; with_reducible refine SA.out.mono ?_; rintro e w6 ⟨rfl, q6, rfl⟩))
    have B4 := Lib.hid (Bl.drewN B3.out q6)
    clear SA O3 M3
    generalize w3.drewN q6 = w4 at B4 ⊢
    clear B3
    go_wp2_with fail
    have hd := Classical.em (∃ xs, Told s xs)
    rcases hd with ⟨xs, hx⟩ | hx
    · have TE := hx.eq
      rw [TE.1, TE.2] at PA
      have TS := Lib.hid hx.show
      have RSZ := Lib.hid (show ∀ a ∈ xs, SzA a from by have h := readL_sz s; rwa [TE.1] at h)
      clear TE hx
      refine (PA.out w4 (HTAB.out _ B4.out)).mono ?_
      rintro e w5 ⟨v5, ms5, rfl, ho5, hm5, hb5⟩
      obtain ⟨X5, x5, rfl⟩ := ho5.1.slice
      have B5 := Lib.hid (Bl.then B4.out hb5)
      have SB := Lib.hid (show_any _ ms5 w5 (OwnA.rd ho5) (OwnA.sz ho5 hm5 (RSZ.out)) (HTAB.out _ B5.out))
      rw [hm5, TS.out.2, TS.out.1] at SB
      clear ho5 hm5 hb5 B4
      go_wp2_with (go_at_call 12; with_reducible refine (num_s _ _).mono ?_; rintro e wn ⟨rfl, rfl⟩)
      refine SB.out.mono ?_
      rintro e w6 ⟨rfl, hb6⟩
      have B6 := Lib.hid (Bl.then B5.out hb6)
      clear hb6 SB B5
      go_wp2_with (go_at_call 12; with_reducible refine (num_s _ _).mono ?_; rintro e wn ⟨rfl, rfl⟩)
      go_ret
      exact ⟨rfl, B6.out⟩
    · have TE := readL_no hx
      rw [TE.1, TE.2] at PA
      clear TE hx
      refine (PA.out w4 (HTAB.out _ B4.out)).mono ?_
      rintro e w5 ⟨v5, ms5, rfl, ho5, hm5, hb5⟩
      obtain ⟨X5, x5, rfl⟩ := ho5.1.slice
      have B5 := Lib.hid (Bl.then B4.out hb5)
      have hl5 : ms5.length = 0 := by have := congrArg List.length hm5; simpa using this
      rw [hl5]
      clear ho5 hm5 hb5 B4 hl5
      go_wp2_with (go_at_call 12; with_reducible refine (num_s _ _).mono ?_; rintro e wn ⟨rfl, rfl⟩)
      go_ret
      exact ⟨rfl, B5.out⟩
  · rw [(show_no ho).1, (show_no ho).2] at SH
    clear ho
    go_enter Tryd.func4, Tryd.ntmps4
    go_wp2_with fail
    refine AW.out.mono ?_
    rintro e w1 ⟨rfl, hb1⟩
    have B1 := Lib.hid hb1
    clear hb1 AW
    go_wp2_with fail
    refine (SH.out w1 (HR.out.below B1.out) (HTAB.out _ B1.out)).mono ?_
    rintro e w2 ⟨rfl, hb2⟩
    have B2 := Lib.hid (Bl.then B1.out hb2)
    clear hb2 B1 SH
    go_wp2_with (go_at_call 12; with_reducible refine (num_s _ _).mono ?_; rintro e wn ⟨rfl, rfl⟩)
    have B4 := Lib.hid B2.out
    clear B2
    generalize w2 = w4 at B4 ⊢
    have hd := Classical.em (∃ xs, Told s xs)
    rcases hd with ⟨xs, hx⟩ | hx
    · have TE := hx.eq
      rw [TE.1, TE.2] at PA
      have TS := Lib.hid hx.show
      have RSZ := Lib.hid (show ∀ a ∈ xs, SzA a from by have h := readL_sz s; rwa [TE.1] at h)
      clear TE hx
      refine (PA.out w4 (HTAB.out _ B4.out)).mono ?_
      rintro e w5 ⟨v5, ms5, rfl, ho5, hm5, hb5⟩
      obtain ⟨X5, x5, rfl⟩ := ho5.1.slice
      have B5 := Lib.hid (Bl.then B4.out hb5)
      have SB := Lib.hid (show_any _ ms5 w5 (OwnA.rd ho5) (OwnA.sz ho5 hm5 (RSZ.out)) (HTAB.out _ B5.out))
      rw [hm5, TS.out.2, TS.out.1] at SB
      clear ho5 hm5 hb5 B4
      go_wp2_with (go_at_call 12; with_reducible refine (num_s _ _).mono ?_; rintro e wn ⟨rfl, rfl⟩)
      refine SB.out.mono ?_
      rintro e w6 ⟨rfl, hb6⟩
      have B6 := Lib.hid (Bl.then B5.out hb6)
      clear hb6 SB B5
      go_wp2_with (go_at_call 12; with_reducible refine (num_s _ _).mono ?_; rintro e wn ⟨rfl, rfl⟩)
      go_ret
      exact ⟨rfl, B6.out⟩
    · have TE := readL_no hx
      rw [TE.1, TE.2] at PA
      clear TE hx
      refine (PA.out w4 (HTAB.out _ B4.out)).mono ?_
      rintro e w5 ⟨v5, ms5, rfl, ho5, hm5, hb5⟩
      obtain ⟨X5, x5, rfl⟩ := ho5.1.slice
      have B5 := Lib.hid (Bl.then B4.out hb5)
      have hl5 : ms5.length = 0 := by have := congrArg List.length hm5; simpa using this
      rw [hl5]
      clear ho5 hm5 hb5 B4 hl5
      go_wp2_with (go_at_call 12; with_reducible refine (num_s _ _).mono ?_; rintro e wn ⟨rfl, rfl⟩)
      go_ret
      exact ⟨rfl, B5.out⟩
end Go.Proofs.YtfdbolnifjpbhaaDoor
