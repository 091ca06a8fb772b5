/- ScriptRows: a script of two is both, one behind the other. -/
import Derived.Test.YtfdbolnifjpbhaaDoorScZG
namespace Go.Proofs.YtfdbolnifjpbhaaDoor
set_option linter.unusedVariables false
set_option linter.unusedSimpArgs false
open Go.RowKit

theorem rem_fin (x n : Int) (h0 : 0 < n) (h1 : n < 9223372036854775808) : ∃ r : Int, wrap64 ((IntKind.u64.wrap x).tmod n) = r ∧ 0 ≤ r ∧ r < n := by
  have hu : 0 ≤ IntKind.u64.wrap x := by
    simp only [IntKind.wrap, IntKind.signed, IntKind.bits]
    exact Int.emod_nonneg _ (by decide)
  rw [Int.tmod_eq_emod_of_nonneg hu]
  have a := Int.emod_nonneg (IntKind.u64.wrap x) (show n ≠ 0 by omega)
  have b := Int.emod_lt_of_pos (IntKind.u64.wrap x) h0
  exact ⟨IntKind.u64.wrap x % n, IntWalk.wrap64_in _ ⟨by omega, by omega⟩, a, b⟩
theorem flatA_take (ms : List ActM) (k : Nat) : flatA (ms.take k) = (flatA ms).take (k * 9) := by
  induction ms generalizing k with
  | nil => simp [flatA]
  | cons m ms ih =>
    cases k with
    | zero => rw [Nat.zero_mul, List.take_zero, List.take_zero]; rfl
    | succ k =>
      rw [List.take_succ_cons, flatA_cons, flatA_cons, ih, List.take_append, List.take_of_length_le (l := cellsA m) (by show 9 ≤ _; omega)]
      show _ = cellsA m ++ (flatA ms).take ((k + 1) * 9 - 9)
      rw [show (k + 1) * 9 - 9 = k * 9 by omega]
theorem flatA_drop (ms : List ActM) (k : Nat) : flatA (ms.drop k) = (flatA ms).drop (k * 9) := by
  induction ms generalizing k with
  | nil => simp [flatA]
  | cons m ms ih =>
    cases k with
    | zero => rw [Nat.zero_mul, List.drop_zero, List.drop_zero]
    | succ k =>
      rw [List.drop_succ_cons, flatA_cons, ih, List.drop_append, List.drop_eq_nil_of_le (show (cellsA m).length ≤ (k + 1) * 9 by show 9 ≤ _; omega), List.nil_append]
      show _ = (flatA ms).drop ((k + 1) * 9 - 9)
      rw [show (k + 1) * 9 - 9 = k * 9 by omega]
theorem RdA.take {W : World} {b o n c k : Nat} {ms : List ActM} (h : RdA W (.slice (some ⟨b, o, none⟩) n c) ms) (hn : ms.length = n) (hk : k ≤ n) (hc : n ≤ c) (hm : c ≤ maxLen) (hcell : ∀ j u, (flatA ms)[j]? = some u → W.cell? ⟨b, o + j, none⟩ = some u) : RdA W (.slice (some ⟨b, o, none⟩) k c) (ms.take k) := by
  have hl : (ms.take k).length = k := by rw [List.length_take]; omega
  refine ⟨.inr ⟨b, o, c, by rw [hl], by rw [hl]; omega, hm, fun j u hu => ?_⟩, fun m hm => h.2 m (List.mem_of_mem_take hm)⟩
  rw [flatA_take, List.getElem?_take] at hu
  split at hu
  · exact hcell j u hu
  · cases hu
theorem RdA.drop {W : World} {b o n c k : Nat} {ms : List ActM} (h : RdA W (.slice (some ⟨b, o, none⟩) n c) ms) (hn : ms.length = n) (hk : k ≤ n) (hc : n ≤ c) (hm : c ≤ maxLen) (hcell : ∀ j u, (flatA ms)[j]? = some u → W.cell? ⟨b, o + j, none⟩ = some u) : RdA W (.slice (some ⟨b, o + k * 9, none⟩) (n - k) (c - k)) (ms.drop k) := by
  have hl : (ms.drop k).length = n - k := by rw [List.length_drop]; omega
  refine ⟨.inr ⟨b, o + k * 9, c - k, by rw [hl], by rw [hl]; omega, by omega, fun j u hu => ?_⟩, fun m hm => h.2 m (List.mem_of_mem_drop hm)⟩
  rw [flatA_drop, List.getElem?_drop] at hu
  rw [Nat.add_assoc]
  exact hcell _ u hu
theorem showOk_cut {xs : List ActV} (h : xs.length ≤ 256) (k : Nat) : showOk xs ↔ showOk (xs.take k) ∧ showOk (xs.drop k) := by
  refine ⟨fun ⟨h1, h2⟩ => ⟨⟨by rw [List.length_take]; omega, fun a ha => h2 a (List.mem_of_mem_take ha)⟩, ⟨by rw [List.length_drop]; omega, fun a ha => h2 a (List.mem_of_mem_drop ha)⟩⟩, fun ⟨h1, h2⟩ => ⟨h, fun a ha => ?_⟩⟩
  rw [← List.take_append_drop k xs] at ha
  rcases List.mem_append.1 ha with ha | ha
  · exact h1.2 a ha
  · exact h2.2 a ha
theorem showT_cut {xs : List ActV} (h : showOk xs) (k : Nat) : showT xs = showT (xs.take k) ++ showT (xs.drop k) := by
  obtain ⟨h1, h2⟩ := (showOk_cut h.1 k).1 h
  rw [(show_yes h).1, (show_yes h1).1, (show_yes h2).1, str_app]
  congr 1
  unfold actsB
  rw [← List.flatMap_append, List.take_append_drop]
set_option maxRecDepth 100000 in
set_option maxHeartbeats 8000000 in
theorem ScriptRows_walk (va : Value) (ms : List ActM) (cut : Int) (w : World) (hr : RdA w va ms) (hg : GivA ms) (hcut : -9223372036854775808 ≤ cut ∧ cut ≤ 9223372036854775807) (htab : Tab w) :
    Calls Tryd.prog 6 #[va, .int .i64 cut] w fun e w' => e = .returned (.bool true) ∧ Below w.heap.size w w' := by
  have HTAB := Lib.hid (fun (W : World) (hb : Below w.heap.size w W) => show Tab W from fun w' h' => htab w' (Bl.then hb h'))
  obtain ⟨A, c, rfl⟩ := hr.1.form
  have HR := Lib.hid hr
  obtain ⟨acts, hacts⟩ : ∃ acts, ms.map (·.a) = acts := ⟨_, rfl⟩
  have HACTS := Lib.hid hacts
  have hlen : acts.length = ms.length := by rw [← hacts, List.length_map]
  have SHO := Lib.hid (fun (v : Value) (ns : List ActM) (W : World) (hR : RdA W v ns) (hn : ∀ m ∈ ns, m ∈ ms) (hW : Tab W) => show_any v ns W hR (fun m hm => hg.sz m (hn m hm)) hW)
  have AW := Lib.hid (awake24 w htab)
  obtain ⟨n, hn⟩ : ∃ n, ms.length = n := ⟨_, rfl⟩
  have HN := Lib.hid hn
  have hn9 : n ≤ 9223372036854775806 := by have := hg.n8; omega
  rw [hn] at HR hlen ⊢
  have HLEN := Lib.hid hlen
  clear hr hg hacts htab hlen
  by_cases h200 : 200 < n
  · have d1 : decide ((200 : Int) < (n : Int)) = true := decide_eq_true (by omega)
    have d2 : decide (200 < n) = true := decide_eq_true h200
    clear h200 hn
    go_enter Tryd.func6, Tryd.ntmps6
    go_wp2_with fail
    refine AW.out.mono ?_
    rintro e w1 ⟨rfl, hb1⟩
    have B1 := Lib.hid hb1
    clear hb1 AW
    go_wp2_with fail
    go_ret
    exact ⟨rfl, B1.out⟩
  · have d1 : decide ((200 : Int) < (n : Int)) = false := decide_eq_false (by omega)
    have d2 : decide (200 < n) = false := decide_eq_false h200
    obtain ⟨k0, hk0, hk1, hk2⟩ := rem_fin cut ((n : Int) + 1) (by omega) (by omega)
    obtain ⟨k, rfl⟩ : ∃ k : Nat, k0 = (k : Int) := ⟨k0.toNat, by omega⟩
    have hkn : k ≤ n := by omega
    have cw : IntKind.u64.wrap ((n : Int) + 1) = (n : Int) + 1 := IntWalk.u64_in _ (by omega)
    have w1e : wrap64 ((n : Int) + 1) = (n : Int) + 1 := IntWalk.wrap64_in _ ⟨by omega, by omega⟩
    have H256 := Lib.hid (show acts.length ≤ 256 from by have := HLEN.out; omega)
    have M1 := Lib.hid (show (ms.take k).map (·.a) = acts.take k from by rw [← HACTS.out, List.map_take])
    have M2 := Lib.hid (show (ms.drop k).map (·.a) = acts.drop k from by rw [← HACTS.out, List.map_drop])
    have HK := Lib.hid hkn
    rcases Nat.eq_zero_or_pos n with h0 | hp
    · obtain rfl : k = 0 := by omega
      have hmn : ms = [] := List.eq_nil_of_length_eq_zero (by rw [HN.out]; exact h0)
      have hfm : A = none → c = 0 := by
        rcases HR.out.1 with ⟨_, A', c', hv, h⟩ | ⟨b', o', c', hv, _⟩
        · simp only [Value.slice.injEq] at hv
          obtain ⟨rfl, _, rfl⟩ := hv
          exact h
        · simp only [Value.slice.injEq] at hv
          intro hA
          rw [hA] at hv
          cases hv.1
      have ANY := Lib.hid (fun (A' : Option Addr) (c' : Nat) (h : A' = none → c' = 0) (ns : List ActM) (hns : ns = []) => show RdA w (.slice A' 0 c') ns from by
        subst hns
        exact ⟨.inl ⟨rfl, A', c', rfl, h⟩, fun m hm => by simp at hm⟩)
      subst h0
      cases A with
      | none =>
        obtain rfl := hfm rfl
        have R1 := Lib.hid (ANY.out none 0 (fun _ => rfl) (ms.take 0) rfl)
        have R2 := Lib.hid (ANY.out none 0 (fun _ => rfl) (ms.drop 0) (by rw [List.drop_zero]; exact hmn))
        clear h200 hn hk1 hk2 hmn hfm ANY hkn
        have S1 := Lib.hid (fun (W : World) (hb : Below w.heap.size w W) => SHO.out (.slice none 0 0) _ W (R1.out.below hb) (fun m hm => List.mem_of_mem_take hm) (HTAB.out W hb))
        have S2 := Lib.hid (fun (W : World) (hb : Below w.heap.size w W) => SHO.out (.slice none 0 0) _ W (R2.out.below hb) (fun m hm => List.mem_of_mem_drop hm) (HTAB.out W hb))
        have S3 := Lib.hid (fun (W : World) (hb : Below w.heap.size w W) => SHO.out (.slice none 0 0) _ W (HR.out.below hb) (fun m hm => hm) (HTAB.out W hb))
        rw [M1.out] at S1
        rw [M2.out] at S2
        rw [HACTS.out] at S3
        clear SHO R1 R2
        have hcut2 := showOk_cut H256.out 0
        by_cases o1 : showOk (acts.take 0)
        · by_cases o2 : showOk (acts.drop 0)
          · have o3 := hcut2.2 ⟨o1, o2⟩
            have hT := showT_cut o3 0
            have PB := Lib.hid (fun (W : World) (hW : Tab W) => parse_any (showT acts) (Nat.le_trans (showT_size o3) (by decide)) W hW)
            rw [(told_show o3).eq.1, (told_show o3).eq.2] at PB
            have z1 := showT_size o1
            have z2 := showT_size o2
            rw [(show_yes o1).2] at S1
            rw [(show_yes o2).2] at S2
            rw [(show_yes o3).2] at S3
            rw [hT] at PB S3
            obtain ⟨T1, hT1⟩ : ∃ T, showT (acts.take 0) = T := ⟨_, rfl⟩
            obtain ⟨T2, hT2⟩ : ∃ T, showT (acts.drop 0) = T := ⟨_, rfl⟩
            rw [hT1] at S1 S3 PB z1
            rw [hT2] at S2 S3 PB z2
            have hz : ¬ 9223372036854775807 < T1.size + T2.size := by omega
            have hq : ((T1 ++ T2).toList == (T1 ++ T2).toList) = true := beq_self_eq_true _
            clear o1 o2 o3 hcut2 hT hT1 hT2 z1 z2
            go_enter Tryd.func6, Tryd.ntmps6
            go_wp2_with fail
            refine AW.out.mono ?_
            rintro e w1 ⟨rfl, hb1⟩
            have B1 := Lib.hid hb1
            clear hb1 AW
            go_wp2_with fail
            refine (S1.out w1 B1.out).mono ?_
            rintro e w2 ⟨rfl, hb2⟩
            have B2 := Lib.hid (Bl.then B1.out hb2)
            clear hb2 B1 S1
            dsimp only
            go_wp2_with fail
            refine (S2.out w2 B2.out).mono ?_
            rintro e w3 ⟨rfl, hb3⟩
            have B3 := Lib.hid (Bl.then B2.out hb3)
            clear hb3 B2 S2
            dsimp only
            go_wp2_with fail
            refine (S3.out w3 B3.out).mono ?_
            rintro e w4 ⟨rfl, hb4⟩
            have B4 := Lib.hid (Bl.then B3.out hb4)
            clear hb4 B3 S3
            dsimp only
            go_wp2_with (go_at_call 12; with_reducible refine (num_s _ _).mono ?_; rintro e wn ⟨rfl, rfl⟩)
            refine (PB.out w4 (HTAB.out _ B4.out)).mono ?_
            rintro e w5 ⟨v5, ms5, rfl, ho5, hm5, hb5⟩
            obtain ⟨X5, x5, rfl⟩ := ho5.1.slice
            have O5 := Lib.hid ho5
            have M5 := Lib.hid hm5
            have B5 := Lib.hid (Bl.then B4.out hb5)
            clear ho5 hm5 hb5 B4 PB
            have SA := Lib.hid (same_acts _ _ _ _ _ w5 (OwnA.rd O5.out) (HR.out.below B5.out) M5.out HACTS.out)
            go_wp2_with (first
              | (go_at_call 12; with_reducible refine (num_s _ _).mono ?_; rintro e wn ⟨rfl, rfl⟩)
              | (go_at_call 13; with_reducible refine SA.out.mono ?_; rintro e w6 ⟨rfl, q6, rfl⟩))
            go_ret
            exact ⟨rfl, Bl.drewN B5.out _⟩
          · have o3 : ¬ showOk acts := fun h => o2 (hcut2.1 h).2
            rw [(show_yes o1).2] at S1
            rw [(show_no o2).2, (show_no o2).1] at S2
            rw [(show_no o3).2, (show_no o3).1] at S3
            obtain ⟨T1, hT1⟩ : ∃ T, showT (acts.take 0) = T := ⟨_, rfl⟩
            rw [hT1] at S1
            have hq : ((⟨#[]⟩ : ByteArray).toList == (⟨#[]⟩ : ByteArray).toList) = true := beq_self_eq_true _
            clear o1 o2 o3 hcut2 hT1
            go_enter Tryd.func6, Tryd.ntmps6
            go_wp2_with fail
            refine AW.out.mono ?_
            rintro e w1 ⟨rfl, hb1⟩
            have B1 := Lib.hid hb1
            clear hb1 AW
            go_wp2_with fail
            refine (S1.out w1 B1.out).mono ?_
            rintro e w2 ⟨rfl, hb2⟩
            have B2 := Lib.hid (Bl.then B1.out hb2)
            clear hb2 B1 S1
            dsimp only
            go_wp2_with fail
            refine (S2.out w2 B2.out).mono ?_
            rintro e w3 ⟨rfl, hb3⟩
            have B3 := Lib.hid (Bl.then B2.out hb3)
            clear hb3 B2 S2
            dsimp only
            go_wp2_with fail
            refine (S3.out w3 B3.out).mono ?_
            rintro e w4 ⟨rfl, hb4⟩
            have B4 := Lib.hid (Bl.then B3.out hb4)
            clear hb4 B3 S3
            dsimp only
            go_wp2_with (go_at_call 12; with_reducible refine (num_s _ _).mono ?_; rintro e wn ⟨rfl, rfl⟩)
            go_ret
            exact ⟨rfl, B4.out⟩
        · have o3 : ¬ showOk acts := fun h => o1 (hcut2.1 h).1
          rw [(show_no o1).2, (show_no o1).1] at S1
          rw [(show_no o3).2, (show_no o3).1] at S3
          obtain ⟨T2, hT2⟩ : ∃ T, showT (acts.drop 0) = T := ⟨_, rfl⟩
          obtain ⟨E2, hE2⟩ : ∃ T, showE (acts.drop 0) = T := ⟨_, rfl⟩
          rw [hT2, hE2] at S2
          have hq : ((⟨#[]⟩ : ByteArray).toList == (⟨#[]⟩ : ByteArray).toList) = true := beq_self_eq_true _
          clear o1 o3 hcut2 hT2 hE2
          go_enter Tryd.func6, Tryd.ntmps6
          go_wp2_with fail
          refine AW.out.mono ?_
          rintro e w1 ⟨rfl, hb1⟩
          have B1 := Lib.hid hb1
          clear hb1 AW
          go_wp2_with fail
          refine (S1.out w1 B1.out).mono ?_
          rintro e w2 ⟨rfl, hb2⟩
          have B2 := Lib.hid (Bl.then B1.out hb2)
          clear hb2 B1 S1
          dsimp only
          go_wp2_with fail
          refine (S2.out w2 B2.out).mono ?_
          rintro e w3 ⟨rfl, hb3⟩
          have B3 := Lib.hid (Bl.then B2.out hb3)
          clear hb3 B2 S2
          dsimp only
          go_wp2_with fail
          refine (S3.out w3 B3.out).mono ?_
          rintro e w4 ⟨rfl, hb4⟩
          have B4 := Lib.hid (Bl.then B3.out hb4)
          clear hb4 B3 S3
          dsimp only
          go_wp2_with (go_at_call 12; with_reducible refine (num_s _ _).mono ?_; rintro e wn ⟨rfl, rfl⟩)
          go_ret
          exact ⟨rfl, B4.out⟩

      | some a =>
        have R1 := Lib.hid (ANY.out (some a) c (fun h => by cases h) (ms.take 0) rfl)
        have R2 := Lib.hid (ANY.out (some a) c (fun h => by cases h) (ms.drop 0) (by rw [List.drop_zero]; exact hmn))
        clear h200 hn hk1 hk2 hmn hfm ANY hkn
        have S1 := Lib.hid (fun (W : World) (hb : Below w.heap.size w W) => SHO.out (.slice (some a) 0 c) _ W (R1.out.below hb) (fun m hm => List.mem_of_mem_take hm) (HTAB.out W hb))
        have S2 := Lib.hid (fun (W : World) (hb : Below w.heap.size w W) => SHO.out (.slice (some a) 0 c) _ W (R2.out.below hb) (fun m hm => List.mem_of_mem_drop hm) (HTAB.out W hb))
        have S3 := Lib.hid (fun (W : World) (hb : Below w.heap.size w W) => SHO.out (.slice (some a) 0 c) _ W (HR.out.below hb) (fun m hm => hm) (HTAB.out W hb))
        rw [M1.out] at S1
        rw [M2.out] at S2
        rw [HACTS.out] at S3
        clear SHO R1 R2
        have hcut2 := showOk_cut H256.out 0
        by_cases o1 : showOk (acts.take 0)
        · by_cases o2 : showOk (acts.drop 0)
          · have o3 := hcut2.2 ⟨o1, o2⟩
            have hT := showT_cut o3 0
            have PB := Lib.hid (fun (W : World) (hW : Tab W) => parse_any (showT acts) (Nat.le_trans (showT_size o3) (by decide)) W hW)
            rw [(told_show o3).eq.1, (told_show o3).eq.2] at PB
            have z1 := showT_size o1
            have z2 := showT_size o2
            rw [(show_yes o1).2] at S1
            rw [(show_yes o2).2] at S2
            rw [(show_yes o3).2] at S3
            rw [hT] at PB S3
            obtain ⟨T1, hT1⟩ : ∃ T, showT (acts.take 0) = T := ⟨_, rfl⟩
            obtain ⟨T2, hT2⟩ : ∃ T, showT (acts.drop 0) = T := ⟨_, rfl⟩
            rw [hT1] at S1 S3 PB z1
            rw [hT2] at S2 S3 PB z2
            have hz : ¬ 9223372036854775807 < T1.size + T2.size := by omega
            have hq : ((T1 ++ T2).toList == (T1 ++ T2).toList) = true := beq_self_eq_true _
            clear o1 o2 o3 hcut2 hT hT1 hT2 z1 z2
            go_enter Tryd.func6, Tryd.ntmps6
            go_wp2_with fail
            refine AW.out.mono ?_
            rintro e w1 ⟨rfl, hb1⟩
            have B1 := Lib.hid hb1
            clear hb1 AW
            go_wp2_with fail
            refine (S1.out w1 B1.out).mono ?_
            rintro e w2 ⟨rfl, hb2⟩
            have B2 := Lib.hid (Bl.then B1.out hb2)
            clear hb2 B1 S1
            dsimp only
            go_wp2_with fail
            refine (S2.out w2 B2.out).mono ?_
            rintro e w3 ⟨rfl, hb3⟩
            have B3 := Lib.hid (Bl.then B2.out hb3)
            clear hb3 B2 S2
            dsimp only
            go_wp2_with fail
            refine (S3.out w3 B3.out).mono ?_
            rintro e w4 ⟨rfl, hb4⟩
            have B4 := Lib.hid (Bl.then B3.out hb4)
            clear hb4 B3 S3
            dsimp only
            go_wp2_with (go_at_call 12; with_reducible refine (num_s _ _).mono ?_; rintro e wn ⟨rfl, rfl⟩)
            refine (PB.out w4 (HTAB.out _ B4.out)).mono ?_
            rintro e w5 ⟨v5, ms5, rfl, ho5, hm5, hb5⟩
            obtain ⟨X5, x5, rfl⟩ := ho5.1.slice
            have O5 := Lib.hid ho5
            have M5 := Lib.hid hm5
            have B5 := Lib.hid (Bl.then B4.out hb5)
            clear ho5 hm5 hb5 B4 PB
            have SA := Lib.hid (same_acts _ _ _ _ _ w5 (OwnA.rd O5.out) (HR.out.below B5.out) M5.out HACTS.out)
            go_wp2_with (first
              | (go_at_call 12; with_reducible refine (num_s _ _).mono ?_; rintro e wn ⟨rfl, rfl⟩)
              | (go_at_call 13; with_reducible refine SA.out.mono ?_; rintro e w6 ⟨rfl, q6, rfl⟩))
            go_ret
            exact ⟨rfl, Bl.drewN B5.out _⟩
          · have o3 : ¬ showOk acts := fun h => o2 (hcut2.1 h).2
            rw [(show_yes o1).2] at S1
            rw [(show_no o2).2, (show_no o2).1] at S2
            rw [(show_no o3).2, (show_no o3).1] at S3
            obtain ⟨T1, hT1⟩ : ∃ T, showT (acts.take 0) = T := ⟨_, rfl⟩
            rw [hT1] at S1
            have hq : ((⟨#[]⟩ : ByteArray).toList == (⟨#[]⟩ : ByteArray).toList) = true := beq_self_eq_true _
            clear o1 o2 o3 hcut2 hT1
            go_enter Tryd.func6, Tryd.ntmps6
            go_wp2_with fail
            refine AW.out.mono ?_
            rintro e w1 ⟨rfl, hb1⟩
            have B1 := Lib.hid hb1
            clear hb1 AW
            go_wp2_with fail
            refine (S1.out w1 B1.out).mono ?_
            rintro e w2 ⟨rfl, hb2⟩
            have B2 := Lib.hid (Bl.then B1.out hb2)
            clear hb2 B1 S1
            dsimp only
            go_wp2_with fail
            refine (S2.out w2 B2.out).mono ?_
            rintro e w3 ⟨rfl, hb3⟩
            have B3 := Lib.hid (Bl.then B2.out hb3)
            clear hb3 B2 S2
            dsimp only
            go_wp2_with fail
            refine (S3.out w3 B3.out).mono ?_
            rintro e w4 ⟨rfl, hb4⟩
            have B4 := Lib.hid (Bl.then B3.out hb4)
            clear hb4 B3 S3
            dsimp only
            go_wp2_with (go_at_call 12; with_reducible refine (num_s _ _).mono ?_; rintro e wn ⟨rfl, rfl⟩)
            go_ret
            exact ⟨rfl, B4.out⟩
        · have o3 : ¬ showOk acts := fun h => o1 (hcut2.1 h).1
          rw [(show_no o1).2, (show_no o1).1] at S1
          rw [(show_no o3).2, (show_no o3).1] at S3
          obtain ⟨T2, hT2⟩ : ∃ T, showT (acts.drop 0) = T := ⟨_, rfl⟩
          obtain ⟨E2, hE2⟩ : ∃ T, showE (acts.drop 0) = T := ⟨_, rfl⟩
          rw [hT2, hE2] at S2
          have hq : ((⟨#[]⟩ : ByteArray).toList == (⟨#[]⟩ : ByteArray).toList) = true := beq_self_eq_true _
          clear o1 o3 hcut2 hT2 hE2
          go_enter Tryd.func6, Tryd.ntmps6
          go_wp2_with fail
          refine AW.out.mono ?_
          rintro e w1 ⟨rfl, hb1⟩
          have B1 := Lib.hid hb1
          clear hb1 AW
          go_wp2_with fail
          refine (S1.out w1 B1.out).mono ?_
          rintro e w2 ⟨rfl, hb2⟩
          have B2 := Lib.hid (Bl.then B1.out hb2)
          clear hb2 B1 S1
          dsimp only
          go_wp2_with fail
          refine (S2.out w2 B2.out).mono ?_
          rintro e w3 ⟨rfl, hb3⟩
          have B3 := Lib.hid (Bl.then B2.out hb3)
          clear hb3 B2 S2
          dsimp only
          go_wp2_with fail
          refine (S3.out w3 B3.out).mono ?_
          rintro e w4 ⟨rfl, hb4⟩
          have B4 := Lib.hid (Bl.then B3.out hb4)
          clear hb4 B3 S3
          dsimp only
          go_wp2_with (go_at_call 12; with_reducible refine (num_s _ _).mono ?_; rintro e wn ⟨rfl, rfl⟩)
          go_ret
          exact ⟨rfl, B4.out⟩

    · obtain ⟨b, o, c2, hv, h1, h2, h3⟩ := HR.out.1.pos (by rw [HN.out]; exact hp)
      rw [HN.out] at hv h1
      obtain ⟨rfl, rfl⟩ := Value.slice.inj hv |> fun h => And.intro h.1 h.2.2
      have hcell : ∀ j u, (flatA ms)[j]? = some u → w.cell? ⟨b, o + j, none⟩ = some u := by
        rcases HR.out.1 with ⟨h, _⟩ | ⟨b', o', c', hv', _, _, h4⟩
        · rw [h] at HN; have := HN.out; simp at this; omega
        · rw [HN.out] at hv'
          simp only [Value.slice.injEq, Option.some.injEq, Addr.mk.injEq, and_true, true_and] at hv'
          obtain ⟨⟨rfl, rfl⟩, rfl⟩ := hv'
          exact h4
      have R1 := Lib.hid ((HR.out).take HN.out hkn h1 h2 hcell)
      obtain ⟨A2, hA2, R20⟩ : ∃ A2 : Addr, (if c = k then some (⟨b, o, none⟩ : Addr) else some ⟨b, o + k * 9, none⟩) = some A2 ∧ RdA w (.slice (some A2) (n - k) (c - k)) (ms.drop k) := by
        by_cases hck : c = k
        · refine ⟨_, if_pos hck, ?_⟩
          have hd : ms.drop k = [] := List.drop_eq_nil_of_le (by rw [HN.out]; omega)
          rw [hd, show n - k = 0 by omega]
          exact ⟨.inl ⟨rfl, _, _, rfl, fun h => by cases h⟩, fun m hm => by simp at hm⟩
        · exact ⟨_, if_neg hck, (HR.out).drop HN.out hkn h1 h2 hcell⟩
      have R2 := Lib.hid R20
      have k1 : (k : Int) ≤ (n : Int) := by omega
      have k2 : (k : Int) ≤ (c : Int) := by omega
      have k3 : k ≤ c := by omega
      have hn1 : (0 : Int) < (n : Int) + 1 := by omega
      have hne : ¬ ((n : Int) + 1 = 0) := by omega
      clear hv h3 h200 hn hk1 hk2 hcell R20
      have S1 := Lib.hid (fun (W : World) (hb : Below w.heap.size w W) => SHO.out (.slice (some ⟨b, o, none⟩) k c) _ W (R1.out.below hb) (fun m hm => List.mem_of_mem_take hm) (HTAB.out W hb))
      have S2 := Lib.hid (fun (W : World) (hb : Below w.heap.size w W) => SHO.out (.slice (some A2) (n - k) (c - k)) _ W (R2.out.below hb) (fun m hm => List.mem_of_mem_drop hm) (HTAB.out W hb))
      have S3 := Lib.hid (fun (W : World) (hb : Below w.heap.size w W) => SHO.out (.slice (some ⟨b, o, none⟩) n c) _ W (HR.out.below hb) (fun m hm => hm) (HTAB.out W hb))
      rw [M1.out] at S1
      rw [M2.out] at S2
      rw [HACTS.out] at S3
      clear SHO R1 R2
      have hcut2 := showOk_cut H256.out k
      by_cases o1 : showOk (acts.take k)
      · by_cases o2 : showOk (acts.drop k)
        · have o3 := hcut2.2 ⟨o1, o2⟩
          have hT := showT_cut o3 k
          have PB := Lib.hid (fun (W : World) (hW : Tab W) => parse_any (showT acts) (Nat.le_trans (showT_size o3) (by decide)) W hW)
          rw [(told_show o3).eq.1, (told_show o3).eq.2] at PB
          have z1 := showT_size o1
          have z2 := showT_size o2
          rw [(show_yes o1).2] at S1
          rw [(show_yes o2).2] at S2
          rw [(show_yes o3).2] at S3
          rw [hT] at PB S3
          obtain ⟨T1, hT1⟩ : ∃ T, showT (acts.take k) = T := ⟨_, rfl⟩
          obtain ⟨T2, hT2⟩ : ∃ T, showT (acts.drop k) = T := ⟨_, rfl⟩
          rw [hT1] at S1 S3 PB z1
          rw [hT2] at S2 S3 PB z2
          have hz : ¬ 9223372036854775807 < T1.size + T2.size := by omega
          have hq : ((T1 ++ T2).toList == (T1 ++ T2).toList) = true := beq_self_eq_true _
          clear o1 o2 o3 hcut2 hT hT1 hT2 z1 z2
          go_enter Tryd.func6, Tryd.ntmps6
          go_wp2_with fail
          refine AW.out.mono ?_
          rintro e w1 ⟨rfl, hb1⟩
          have B1 := Lib.hid hb1
          clear hb1 AW
          go_wp2_with fail
          refine (S1.out w1 B1.out).mono ?_
          rintro e w2 ⟨rfl, hb2⟩
          have B2 := Lib.hid (Bl.then B1.out hb2)
          clear hb2 B1 S1
          dsimp only
          go_wp2_with fail
          refine (S2.out w2 B2.out).mono ?_
          rintro e w3 ⟨rfl, hb3⟩
          have B3 := Lib.hid (Bl.then B2.out hb3)
          clear hb3 B2 S2
          dsimp only
          go_wp2_with fail
          refine (S3.out w3 B3.out).mono ?_
          rintro e w4 ⟨rfl, hb4⟩
          have B4 := Lib.hid (Bl.then B3.out hb4)
          clear hb4 B3 S3
          dsimp only
          go_wp2_with (go_at_call 12; with_reducible refine (num_s _ _).mono ?_; rintro e wn ⟨rfl, rfl⟩)
          refine (PB.out w4 (HTAB.out _ B4.out)).mono ?_
          rintro e w5 ⟨v5, ms5, rfl, ho5, hm5, hb5⟩
          obtain ⟨X5, x5, rfl⟩ := ho5.1.slice
          have O5 := Lib.hid ho5
          have M5 := Lib.hid hm5
          have B5 := Lib.hid (Bl.then B4.out hb5)
          clear ho5 hm5 hb5 B4 PB
          have SA := Lib.hid (same_acts _ _ _ _ _ w5 (OwnA.rd O5.out) (HR.out.below B5.out) M5.out HACTS.out)
          go_wp2_with (first
            | (go_at_call 12; with_reducible refine (num_s _ _).mono ?_; rintro e wn ⟨rfl, rfl⟩)
            | (go_at_call 13; with_reducible refine SA.out.mono ?_; rintro e w6 ⟨rfl, q6, rfl⟩))
          go_ret
          exact ⟨rfl, Bl.drewN B5.out _⟩
        · have o3 : ¬ showOk acts := fun h => o2 (hcut2.1 h).2
          rw [(show_yes o1).2] at S1
          rw [(show_no o2).2, (show_no o2).1] at S2
          rw [(show_no o3).2, (show_no o3).1] at S3
          obtain ⟨T1, hT1⟩ : ∃ T, showT (acts.take k) = T := ⟨_, rfl⟩
          rw [hT1] at S1
          have hq : ((⟨#[]⟩ : ByteArray).toList == (⟨#[]⟩ : ByteArray).toList) = true := beq_self_eq_true _
          clear o1 o2 o3 hcut2 hT1
          go_enter Tryd.func6, Tryd.ntmps6
          go_wp2_with fail
          refine AW.out.mono ?_
          rintro e w1 ⟨rfl, hb1⟩
          have B1 := Lib.hid hb1
          clear hb1 AW
          go_wp2_with fail
          refine (S1.out w1 B1.out).mono ?_
          rintro e w2 ⟨rfl, hb2⟩
          have B2 := Lib.hid (Bl.then B1.out hb2)
          clear hb2 B1 S1
          dsimp only
          go_wp2_with fail
          refine (S2.out w2 B2.out).mono ?_
          rintro e w3 ⟨rfl, hb3⟩
          have B3 := Lib.hid (Bl.then B2.out hb3)
          clear hb3 B2 S2
          dsimp only
          go_wp2_with fail
          refine (S3.out w3 B3.out).mono ?_
          rintro e w4 ⟨rfl, hb4⟩
          have B4 := Lib.hid (Bl.then B3.out hb4)
          clear hb4 B3 S3
          dsimp only
          go_wp2_with (go_at_call 12; with_reducible refine (num_s _ _).mono ?_; rintro e wn ⟨rfl, rfl⟩)
          go_ret
          exact ⟨rfl, B4.out⟩
      · have o3 : ¬ showOk acts := fun h => o1 (hcut2.1 h).1
        rw [(show_no o1).2, (show_no o1).1] at S1
        rw [(show_no o3).2, (show_no o3).1] at S3
        obtain ⟨T2, hT2⟩ : ∃ T, showT (acts.drop k) = T := ⟨_, rfl⟩
        obtain ⟨E2, hE2⟩ : ∃ T, showE (acts.drop k) = T := ⟨_, rfl⟩
        rw [hT2, hE2] at S2
        have hq : ((⟨#[]⟩ : ByteArray).toList == (⟨#[]⟩ : ByteArray).toList) = true := beq_self_eq_true _
        clear o1 o3 hcut2 hT2 hE2
        go_enter Tryd.func6, Tryd.ntmps6
        go_wp2_with fail
        refine AW.out.mono ?_
        rintro e w1 ⟨rfl, hb1⟩
        have B1 := Lib.hid hb1
        clear hb1 AW
        go_wp2_with fail
        refine (S1.out w1 B1.out).mono ?_
        rintro e w2 ⟨rfl, hb2⟩
        have B2 := Lib.hid (Bl.then B1.out hb2)
        clear hb2 B1 S1
        dsimp only
        go_wp2_with fail
        refine (S2.out w2 B2.out).mono ?_
        rintro e w3 ⟨rfl, hb3⟩
        have B3 := Lib.hid (Bl.then B2.out hb3)
        clear hb3 B2 S2
        dsimp only
        go_wp2_with fail
        refine (S3.out w3 B3.out).mono ?_
        rintro e w4 ⟨rfl, hb4⟩
        have B4 := Lib.hid (Bl.then B3.out hb4)
        clear hb4 B3 S3
        dsimp only
        go_wp2_with (go_at_call 12; with_reducible refine (num_s _ _).mono ?_; rintro e wn ⟨rfl, rfl⟩)
        go_ret
        exact ⟨rfl, B4.out⟩
end Go.Proofs.YtfdbolnifjpbhaaDoor
