/- sfdp and its document: Get. -/
import Derived.Test.YtgkgfeggpoimjaaSfC
import Derived.Deep.QuietTactic
import Derived.BigQuiet
namespace Go.Proofs.Ytgkgfeggpoimjaa
set_option linter.unusedVariables false
set_option linter.unusedSimpArgs false
open Go.RowKit

theorem results_tmp4 {fn : Func} {t u v x : Tmp} (h : fn.results = #[.tmp t, .tmp u, .tmp v, .tmp x]) (tmps : Array Value) (P : Program) (w : World) :
    (results fn tmps).run P w = .ok (.tuple #[tmps.getD t undef, tmps.getD u undef, tmps.getD v undef, tmps.getD x undef]) w := by
  simp [results, h]
def gS (s : ByteArray) (j : Nat) : UInt8 := s.data.toList.getD j 0
def sN (s : ByteArray) (o : Nat) : Int := numB (gS s o).toNat (gS s (o + 1)).toNat (gS s (o + 2)).toNat (gS s (o + 3)).toNat
theorem sN_in (s : ByteArray) (o : Nat) : 0 ≤ sN s o ∧ sN s o < 4294967296 := by
  unfold sN numB
  have a := (gS s o).toNat_lt
  have b := (gS s (o + 1)).toNat_lt
  have c := (gS s (o + 2)).toNat_lt
  have d := (gS s (o + 3)).toNat_lt
  omega
theorem gS_ext (d : ByteArray) (i j n : Nat) (h : j ≤ d.size) (hn : n < j - i) : gS (d.extract i j) n = gS d (i + n) := by
  rw [gS, gS, ByteArray.data_extract, Array.toList_extract, List.getD_eq_getElem?_getD, List.getD_eq_getElem?_getD]
  simp [List.getElem?_take, hn]
theorem sN_ext (d : ByteArray) (i j o : Nat) (h : j ≤ d.size) (hn : o + 3 < j - i) : sN (d.extract i j) o = sN d (i + o) := by
  unfold sN
  rw [gS_ext d i j o h (by omega), gS_ext d i j (o + 1) h (by omega), gS_ext d i j (o + 2) h (by omega), gS_ext d i j (o + 3) h (by omega)]
  rfl
theorem numL_sN (s : ByteArray) : numL s.data.toList = sN s 0 := rfl

/-- Is a text one? -/
def okS (s : ByteArray) : Prop := s.size = 32 ∧ sfOk (sN s 8) (sN s 12) (sN s 16) = true ∧ sfP (sN s 8) (sN s 12) (sN s 16) = s
def ansS (s : ByteArray) (x y z e : Int) : Prop := (okS s ∧ x = sN s 8 ∧ y = sN s 12 ∧ z = sN s 16 ∧ e = 0) ∨ (¬ okS s ∧ x = 0 ∧ y = 0 ∧ z = 0 ∧ e = 700)
theorem ansS_ex (s : ByteArray) : ∃ x y z e, ansS s x y z e := by
  by_cases h : okS s
  · exact ⟨_, _, _, _, .inl ⟨h, rfl, rfl, rfl, rfl⟩⟩
  · exact ⟨_, _, _, _, .inr ⟨h, rfl, rfl, rfl, rfl⟩⟩

set_option maxRecDepth 100000 in
set_option maxHeartbeats 2000000 in
theorem get_s (s : ByteArray) (x y z e0 : Int) (hA : ansS s x y z e0) (w : World) (hs : s.size ≤ 140737488351232) :
    Calls Try.prog 24 #[.string s] w fun e w' => e = .returned (.tuple #[.int .i64 x, .int .i64 y, .int .i64 z, .int .i64 e0]) ∧ Below w.heap.size w w' := by
  by_cases hz : s.size = 32
  · obtain ⟨n1, h1⟩ : ∃ n, sN s 8 = n := ⟨_, rfl⟩
    obtain ⟨n2, h2⟩ : ∃ n, sN s 12 = n := ⟨_, rfl⟩
    obtain ⟨n3, h3⟩ : ∃ n, sN s 16 = n := ⟨_, rfl⟩
    have i1 := sN_in s 8
    have i2 := sN_in s 12
    have i3 := sN_in s 16
    rw [h1] at i1
    rw [h2] at i2
    rw [h3] at i3
    obtain ⟨r1, e1⟩ : ∃ r, s.extract 8 32 = r := ⟨_, rfl⟩
    have z1 : r1.size = 24 := by rw [← e1, ByteArray.size_extract]; omega
    obtain ⟨r2, e2⟩ : ∃ r, r1.extract 4 24 = r := ⟨_, rfl⟩
    obtain ⟨r3, e3⟩ : ∃ r, r1.extract 8 24 = r := ⟨_, rfl⟩
    have z2 : r2.size = 20 := by rw [← e2, ByteArray.size_extract]; omega
    have z3 : r3.size = 16 := by rw [← e3, ByteArray.size_extract]; omega
    have m1 : sN r1 0 = n1 := by rw [← e1, sN_ext s 8 32 0 (by omega) (by omega), h1]
    have m2 : sN r2 0 = n2 := by rw [← e2, sN_ext r1 4 24 0 (by omega) (by omega), ← e1, sN_ext s 8 32 _ (by omega) (by omega), h2]
    have m3 : sN r3 0 = n3 := by rw [← e3, sN_ext r1 8 24 0 (by omega) (by omega), ← e1, sN_ext s 8 32 _ (by omega) (by omega), h3]
    have K1 := Lib.hid (show ∀ w : World, Calls Try.prog 37 #[.string r1] w fun e w' => e = .returned (.int .i64 n1) ∧ w' = w from fun w => by rw [← m1, ← numL_sN]; exact (numb_walk r1 w (by omega) (by omega)).mono fun e w' h => ⟨h.1, h.2.symm⟩)
    have K2 := Lib.hid (show ∀ w : World, Calls Try.prog 37 #[.string r2] w fun e w' => e = .returned (.int .i64 n2) ∧ w' = w from fun w => by rw [← m2, ← numL_sN]; exact (numb_walk r2 w (by omega) (by omega)).mono fun e w' h => ⟨h.1, h.2.symm⟩)
    have K3 := Lib.hid (show ∀ w : World, Calls Try.prog 37 #[.string r3] w fun e w' => e = .returned (.int .i64 n3) ∧ w' = w from fun w => by rw [← m3, ← numL_sN]; exact (numb_walk r3 w (by omega) (by omega)).mono fun e w' h => ⟨h.1, h.2.symm⟩)
    clear m1 m2 m3
    have HH : okS s ↔ (sfOk n1 n2 n3 = true ∧ sfP n1 n2 n3 = s) := by
      unfold okS
      rw [h1, h2, h3]
      exact ⟨fun h => h.2, fun h => ⟨hz, h⟩⟩
    unfold ansS at hA
    rw [h1, h2, h3, HH] at hA
    clear HH h1 h2 h3
    by_cases hk : sfOk n1 n2 n3 = true
    · have E0 := Lib.hid (show sfE n1 n2 n3 = 0 by rw [sfE, hk]; rfl)
      obtain ⟨t, ht⟩ : ∃ t, sfP n1 n2 n3 = t := ⟨_, rfl⟩
      rw [ht] at hA
      have HT := Lib.hid ht
      by_cases he : t = s
      · obtain ⟨_, rfl, rfl, rfl, rfl⟩ | ⟨h, _⟩ := hA
        · subst he
          clear hk ht
          go_enter Try.func24, Try.ntmps24
          go_wp2_with fail
          go_quiet (first | (go_at_call 37; with_reducible exact Calls.quiet_of_same (K1.out _)) | (go_at_call 37; with_reducible exact Calls.quiet_of_same (K2.out _)) | (go_at_call 37; with_reducible exact Calls.quiet_of_same (K3.out _)))
          go_wp2_with fail
          with_reducible refine (put_s x y z _ (by omega) (by omega) (by omega) (by omega) (by omega) (by omega)).mono ?_
          rw [HT.out, E0.out]
          rintro e w1 ⟨rfl, hb⟩
          have B1 := Lib.hid (Bl.then (Bl.self w _) hb)
          clear hb
          go_wp2_with fail
          (try simp only [Exit.inBlock, Exit.then])
          refine bodyPost_ret (results_tmp4 rfl _ _ _) rfl ?_
          exact ⟨rfl, B1.out⟩
        · exact absurd ⟨hk, he⟩ h
      · obtain ⟨h, _⟩ | ⟨_, rfl, rfl, rfl, rfl⟩ := hA
        · exact absurd h.2 he
        · have nt := ne_tl he
          clear hk ht he
          go_enter Try.func24, Try.ntmps24
          go_wp2_with fail
          go_quiet (first | (go_at_call 37; with_reducible exact Calls.quiet_of_same (K1.out _)) | (go_at_call 37; with_reducible exact Calls.quiet_of_same (K2.out _)) | (go_at_call 37; with_reducible exact Calls.quiet_of_same (K3.out _)))
          go_wp2_with fail
          with_reducible refine (put_s n1 n2 n3 _ (by omega) (by omega) (by omega) (by omega) (by omega) (by omega)).mono ?_
          rw [HT.out, E0.out]
          rintro e w1 ⟨rfl, hb⟩
          have B1 := Lib.hid (Bl.then (Bl.self w _) hb)
          clear hb
          go_wp2_with fail
          (try simp only [Exit.inBlock, Exit.then])
          refine bodyPost_ret (results_tmp4 rfl _ _ _) rfl ?_
          exact ⟨rfl, B1.out⟩
    · obtain ⟨h, _⟩ | ⟨_, rfl, rfl, rfl, rfl⟩ := hA
      · exact absurd h.1 hk
      · have hk : sfOk n1 n2 n3 = false := by simpa using hk
        have E0 := Lib.hid (show sfE n1 n2 n3 = 700 by rw [sfE, hk]; rfl)
        have HT := Lib.hid (show sfP n1 n2 n3 = str [] by rw [sfP, hk]; rfl)
        clear hk
        go_enter Try.func24, Try.ntmps24
        go_wp2_with fail
        go_quiet (first | (go_at_call 37; with_reducible exact Calls.quiet_of_same (K1.out _)) | (go_at_call 37; with_reducible exact Calls.quiet_of_same (K2.out _)) | (go_at_call 37; with_reducible exact Calls.quiet_of_same (K3.out _)))
        go_wp2_with fail
        with_reducible refine (put_s n1 n2 n3 _ (by omega) (by omega) (by omega) (by omega) (by omega) (by omega)).mono ?_
        rw [HT.out, E0.out]
        rintro e w1 ⟨rfl, hb⟩
        have B1 := Lib.hid (Bl.then (Bl.self w _) hb)
        clear hb
        go_wp2_with fail
        (try simp only [Exit.inBlock, Exit.then])
        refine bodyPost_ret (results_tmp4 rfl _ _ _) rfl ?_
        exact ⟨rfl, B1.out⟩
  · obtain ⟨h, _⟩ | ⟨_, rfl, rfl, rfl, rfl⟩ := hA
    · exact absurd h.1 hz
    · have hz' : ((s.size : Int) != 32) = true := by rw [bne_iff_ne]; omega
      clear hz
      go_enter Try.func24, Try.ntmps24
      go_wp2
      (try simp only [Exit.inBlock, Exit.then])
      refine bodyPost_ret (results_tmp4 rfl _ _ _) rfl ?_
      exact ⟨rfl, Below.refl _ _⟩

set_option maxRecDepth 100000 in
set_option maxHeartbeats 2000000 in
theorem rget_s (s : ByteArray) (x y z e0 : Int) (hA : ansS s x y z e0) (w : World) (hs : s.size ≤ 140737488351232) :
    Calls Try.prog 25 #[.string s] w fun e w' => e = .returned (.tuple #[.int .i64 x, .int .i64 y, .int .i64 z, .int .i64 e0]) ∧ Below w.heap.size w w' := by
  by_cases hz : s.size = 32
  · obtain ⟨n1, h1⟩ : ∃ n, sN s 8 = n := ⟨_, rfl⟩
    obtain ⟨n2, h2⟩ : ∃ n, sN s 12 = n := ⟨_, rfl⟩
    obtain ⟨n3, h3⟩ : ∃ n, sN s 16 = n := ⟨_, rfl⟩
    have i1 := sN_in s 8
    have i2 := sN_in s 12
    have i3 := sN_in s 16
    rw [h1] at i1
    rw [h2] at i2
    rw [h3] at i3
    obtain ⟨r1, e1⟩ : ∃ r, s.extract 8 12 = r := ⟨_, rfl⟩
    obtain ⟨r2, e2⟩ : ∃ r, s.extract 12 16 = r := ⟨_, rfl⟩
    obtain ⟨r3, e3⟩ : ∃ r, s.extract 16 20 = r := ⟨_, rfl⟩
    have z1 : r1.size = 4 := by rw [← e1, ByteArray.size_extract]; omega
    have z2 : r2.size = 4 := by rw [← e2, ByteArray.size_extract]; omega
    have z3 : r3.size = 4 := by rw [← e3, ByteArray.size_extract]; omega
    have m1 : sN r1 0 = n1 := by rw [← e1, sN_ext s 8 12 0 (by omega) (by omega), h1]
    have m2 : sN r2 0 = n2 := by rw [← e2, sN_ext s 12 16 0 (by omega) (by omega), h2]
    have m3 : sN r3 0 = n3 := by rw [← e3, sN_ext s 16 20 0 (by omega) (by omega), h3]
    have K1 := Lib.hid (show ∀ w : World, Calls Try.prog 38 #[.string r1] w fun e w' => e = .returned (.int .i64 n1) ∧ w' = w from fun w => by rw [← m1, ← numL_sN]; exact (rnumb_walk r1 w z1).mono fun e w' h => ⟨h.1, h.2.symm⟩)
    have K2 := Lib.hid (show ∀ w : World, Calls Try.prog 38 #[.string r2] w fun e w' => e = .returned (.int .i64 n2) ∧ w' = w from fun w => by rw [← m2, ← numL_sN]; exact (rnumb_walk r2 w z2).mono fun e w' h => ⟨h.1, h.2.symm⟩)
    have K3 := Lib.hid (show ∀ w : World, Calls Try.prog 38 #[.string r3] w fun e w' => e = .returned (.int .i64 n3) ∧ w' = w from fun w => by rw [← m3, ← numL_sN]; exact (rnumb_walk r3 w z3).mono fun e w' h => ⟨h.1, h.2.symm⟩)
    clear m1 m2 m3
    have HH : okS s ↔ (sfOk n1 n2 n3 = true ∧ sfP n1 n2 n3 = s) := by
      unfold okS
      rw [h1, h2, h3]
      exact ⟨fun h => h.2, fun h => ⟨hz, h⟩⟩
    unfold ansS at hA
    rw [h1, h2, h3, HH] at hA
    clear HH h1 h2 h3
    by_cases hk : sfOk n1 n2 n3 = true
    · have E0 := Lib.hid (show sfE n1 n2 n3 = 0 by rw [sfE, hk]; rfl)
      obtain ⟨t, ht⟩ : ∃ t, sfP n1 n2 n3 = t := ⟨_, rfl⟩
      rw [ht] at hA
      have HT := Lib.hid ht
      by_cases he : t = s
      · obtain ⟨_, rfl, rfl, rfl, rfl⟩ | ⟨h, _⟩ := hA
        · subst he
          clear hk ht
          go_enter Try.func25, Try.ntmps25
          go_wp2_with fail
          go_quiet (first | (go_at_call 38; with_reducible exact Calls.quiet_of_same (K1.out _)) | (go_at_call 38; with_reducible exact Calls.quiet_of_same (K2.out _)) | (go_at_call 38; with_reducible exact Calls.quiet_of_same (K3.out _)))
          go_wp2_with fail
          with_reducible refine (rput_s x y z _ (by omega) (by omega) (by omega) (by omega) (by omega) (by omega)).mono ?_
          rw [HT.out, E0.out]
          rintro e w1 ⟨rfl, hb⟩
          have B1 := Lib.hid (Bl.then (Bl.self w _) hb)
          clear hb
          go_wp2_with fail
          (try simp only [Exit.inBlock, Exit.then])
          refine bodyPost_ret (results_tmp4 rfl _ _ _) rfl ?_
          exact ⟨rfl, B1.out⟩
        · exact absurd ⟨hk, he⟩ h
      · obtain ⟨h, _⟩ | ⟨_, rfl, rfl, rfl, rfl⟩ := hA
        · exact absurd h.2 he
        · have nt := ne_tl he
          clear hk ht he
          go_enter Try.func25, Try.ntmps25
          go_wp2_with fail
          go_quiet (first | (go_at_call 38; with_reducible exact Calls.quiet_of_same (K1.out _)) | (go_at_call 38; with_reducible exact Calls.quiet_of_same (K2.out _)) | (go_at_call 38; with_reducible exact Calls.quiet_of_same (K3.out _)))
          go_wp2_with fail
          with_reducible refine (rput_s n1 n2 n3 _ (by omega) (by omega) (by omega) (by omega) (by omega) (by omega)).mono ?_
          rw [HT.out, E0.out]
          rintro e w1 ⟨rfl, hb⟩
          have B1 := Lib.hid (Bl.then (Bl.self w _) hb)
          clear hb
          go_wp2_with fail
          (try simp only [Exit.inBlock, Exit.then])
          refine bodyPost_ret (results_tmp4 rfl _ _ _) rfl ?_
          exact ⟨rfl, B1.out⟩
    · obtain ⟨h, _⟩ | ⟨_, rfl, rfl, rfl, rfl⟩ := hA
      · exact absurd h.1 hk
      · have hk : sfOk n1 n2 n3 = false := by simpa using hk
        have E0 := Lib.hid (show sfE n1 n2 n3 = 700 by rw [sfE, hk]; rfl)
        have HT := Lib.hid (show sfP n1 n2 n3 = str [] by rw [sfP, hk]; rfl)
        clear hk
        go_enter Try.func25, Try.ntmps25
        go_wp2_with fail
        go_quiet (first | (go_at_call 38; with_reducible exact Calls.quiet_of_same (K1.out _)) | (go_at_call 38; with_reducible exact Calls.quiet_of_same (K2.out _)) | (go_at_call 38; with_reducible exact Calls.quiet_of_same (K3.out _)))
        go_wp2_with fail
        with_reducible refine (rput_s n1 n2 n3 _ (by omega) (by omega) (by omega) (by omega) (by omega) (by omega)).mono ?_
        rw [HT.out, E0.out]
        rintro e w1 ⟨rfl, hb⟩
        have B1 := Lib.hid (Bl.then (Bl.self w _) hb)
        clear hb
        go_wp2_with fail
        (try simp only [Exit.inBlock, Exit.then])
        refine bodyPost_ret (results_tmp4 rfl _ _ _) rfl ?_
        exact ⟨rfl, B1.out⟩
  · obtain ⟨h, _⟩ | ⟨_, rfl, rfl, rfl, rfl⟩ := hA
    · exact absurd h.1 hz
    · have hz' : ((s.size : Int) != 32) = true := by rw [bne_iff_ne]; omega
      clear hz
      go_enter Try.func25, Try.ntmps25
      go_wp2
      (try simp only [Exit.inBlock, Exit.then])
      refine bodyPost_ret (results_tmp4 rfl _ _ _) rfl ?_
      exact ⟨rfl, Below.refl _ _⟩
end Go.Proofs.Ytgkgfeggpoimjaa
