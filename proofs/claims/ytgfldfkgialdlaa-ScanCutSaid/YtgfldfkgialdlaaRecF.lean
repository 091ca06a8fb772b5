/- rec: the document's Put of a record with a value. -/
import Derived.Test.YtgfldfkgialdlaaRecE
namespace Go.Proofs.Ytgfldfkgialdlaa
set_option linter.unusedVariables false
set_option linter.unusedSimpArgs false
open Go.RowKit
set_option maxRecDepth 100000 in
set_option maxHeartbeats 4000000 in
theorem rputr_1 (key v : ByteArray) (hm : mayP ⟨1, 0, key, v⟩) (w : World) (out : ByteArray) (h5 : putR ⟨1, 0, key, v⟩ = out) : Calls Try.prog 14 #[.agg #[.int .i64 1, .int .i64 0, .string key, .string v]] w fun e w' => e = .returned (.tuple #[.string out, .int .i64 0]) ∧ Below w.heap.size w w' := by
  obtain ⟨s1, s2⟩ := may_keys hm
  simp only at s1 s2
  have hM := fun w => rmay_any ⟨1, 0, key, v⟩ w (show key.size ≤ _ by omega) (show v.size ≤ _ by omega)
  rw [show mayB ⟨1, 0, key, v⟩ = true from decide_eq_true hm] at hM
  change ∀ w : World, Calls Try.prog 19 #[.agg #[.int .i64 1, .int .i64 0, .string key, .string v]] w fun e w' => e = .returned (.bool true) ∧ Below w.heap.size w w' at hM
  obtain ⟨l, hl⟩ : ∃ z, str [0, 0, 0, 0] = z := ⟨_, rfl⟩
  obtain ⟨hd, hhd⟩ : ∃ z, str [UInt8.ofNat key.size, UInt8.ofNat v.size, 0] = z := ⟨_, rfl⟩
  obtain ⟨u, hu⟩ : ∃ z, (⟨#[82]⟩ : ByteArray) ++ hd = z := ⟨_, rfl⟩
  obtain ⟨q, hq⟩ : ∃ z, u ++ key = z := ⟨_, rfl⟩
  obtain ⟨p, hp⟩ : ∃ z, padB q 10 = z := ⟨_, rfl⟩
  obtain ⟨hh, h1⟩ : ∃ z, p ++ v = z := ⟨_, rfl⟩
  obtain ⟨x, h2⟩ : ∃ z, padB hh 32 = z := ⟨_, rfl⟩
  have dq : q.data.toList = 82 :: headR ⟨1, 0, key, v⟩ := by
    rw [← hq, ← hu, ← hhd, app_data, app_data, str_data]
    rfl
  obtain ⟨z1, h4⟩ := rputr_facts hm hh x out (by
    rw [← h1, ← hp, padB, dq]
    refine ext_str ?_
    rw [str_data, app_data, str_data]
    rfl) h2 h5
  have zl : l.size = 4 := by rw [← hl, str_size]; rfl
  have zd : hd.size = 3 := by rw [← hhd, str_size]; rfl
  have zu : u.size = 4 := by rw [← hu, size_app, zd]; rfl
  have zq : q.size = 4 + key.size := by rw [← hq, size_app, zu]
  have zp : p.size = 10 := by rw [← hp, padB, str_size, padL_len _ _ (by rw [data_len]; omega)]
  have i0 : ¬ 9223372036854775807 < 4 + key.size := by omega
  have i3 : ¬ 9223372036854775807 < 10 + v.size := by omega
  have i1 : (key.size : Int) ≤ 6 := by omega
  have i2 : (v.size : Int) ≤ 20 := by omega
  have k4 := conv4z
  rw [hl] at k4
  have k3 := fun w => conv3 w key.size v.size (by omega) (by omega)
  have wk : IntKind.u8.wrap (key.size : Int) = (key.size : Int) := u8_wrap _ (by omega)
  have wv : IntKind.u8.wrap (v.size : Int) = (v.size : Int) := u8_wrap _ (by omega)
  simp only [hhd] at k3
  have S2 := Lib.hid (show q.size ≤ 10 by omega)
  have HP := Lib.hid hp
  have HM := Lib.hid hM
  have H2 := Lib.hid h2
  have H4 := Lib.hid h4
  have C0 := Lib.hid (cells_rec (W := w) (k := 1) (e0 := 0) (key := key) (v := v) rfl rfl)
  clear hM h2 h4 hm h5 hl hhd hp dq zq
  go_enter Try.func14, Try.ntmps14
  go_wp2_with fail
  with_reducible refine (HM.out _).mono ?_
  rintro e w1 ⟨rfl, hb⟩
  have B1 := Lib.hid (Bl.then (Bl.alloc (Below.refl _ _) _) hb)
  have C1 := kept4 hb C0.out
  obtain ⟨c0, c1, c2, c3⟩ := C1
  have D := World.block_lt_of_cell? _ _ c2
  simp only at D
  clear hb C0
  go_wp2_with fail
  have B2 := Lib.hid (Bl.alloc B1.out (Obj.cells #[.int .u8 0, .int .u8 0, .int .u8 0, .int .u8 0] 5))
  obtain ⟨d0, d1, d2, d3⟩ := kept4 (Bl.alloc (Below.refl w1.heap.size w1) (Obj.cells #[.int .u8 0, .int .u8 0, .int .u8 0, .int .u8 0] 5)) ⟨c0, c1, c2, c3⟩
  generalize w1.alloc (Obj.cells #[.int .u8 0, .int .u8 0, .int .u8 0, .int .u8 0] 5) = W at *
  clear c0 c1 c2 c3 D
  have bd : W.drew.cell? ⟨w.heap.size, 2, none⟩ = some (.string key) ∧ W.drew.cell? ⟨w.heap.size, 3, none⟩ = some (.string v) ∧ Below w.heap.size w W.drew := ⟨d2, d3, Bl.drewN B2.out 1⟩
  have BD := Lib.hid bd
  clear bd
  have k3W := k3 W
  clear k3
  refine wp_region_held_drew (S := (fun w' => w'.cell? ⟨w.heap.size, 2, none⟩ = some (.string key) ∧ w'.cell? ⟨w.heap.size, 3, none⟩ = some (.string v) ∧ Below w.heap.size w w')) (by kernel_rfl) (by exact BD.out) (fun hHeld => ?_)
  refine wpAnyH_take (i := 0) (oi := _) (v := ?_) rfl (by kernel_rfl) (by kernel_rfl) (by kernel_rfl) (fun _ _ _ h => h) (Or.inl ⟨by rfl, ?_⟩) (by assumption) ?_
  rotate_left
  · intro w hSw; (try dsimp only at hSw); go_simp; (try with_reducible rfl)
  try simp only [Act.put, List.setIfInBounds_toArray, List.set_cons_zero, List.set_cons_succ]
  refine wpAnyH_take (i := 1) (oi := _) (v := ?_) rfl (by kernel_rfl) (by kernel_rfl) (by kernel_rfl) (fun _ _ _ h => h) (Or.inl ⟨by rfl, ?_⟩) (by assumption) ?_
  rotate_left
  · intro w hSw; (try dsimp only at hSw); go_simp; (try with_reducible rfl)
  try simp only [Act.put, List.setIfInBounds_toArray, List.set_cons_zero, List.set_cons_succ]
  refine wpAnyH_take (i := 2) (oi := _) (v := ?_) rfl (by kernel_rfl) (by kernel_rfl) (by kernel_rfl) (fun _ _ _ h => h) (Or.inl ⟨by rfl, ?_⟩) (by assumption) ?_
  rotate_left
  · intro w hSw; (try dsimp only at hSw); go_simp; (try with_reducible rfl)
  try simp only [Act.put, List.setIfInBounds_toArray, List.set_cons_zero, List.set_cons_succ]
  refine wpAnyH_take (i := 3) (oi := _) (v := ?_) rfl (by kernel_rfl) (by kernel_rfl) (by kernel_rfl) (fun _ _ _ h => h) (Or.inl ⟨by rfl, ?_⟩) (by assumption) ?_
  rotate_left
  · intro w hSw; (try dsimp only at hSw); go_simp; (try with_reducible rfl)
  try simp only [Act.put, List.setIfInBounds_toArray, List.set_cons_zero, List.set_cons_succ]
  refine wpAnyH_take (i := 4) (oi := _) (v := ?_) rfl (by kernel_rfl) (by kernel_rfl) (by kernel_rfl) (fun _ _ _ h => h) (Or.inl ⟨by rfl, ?_⟩) (by assumption) ?_
  rotate_left
  · intro w hSw; (try dsimp only at hSw); go_simp; (try with_reducible rfl)
  try simp only [Act.put, List.setIfInBounds_toArray, List.set_cons_zero, List.set_cons_succ]
  refine wpAnyH_take (i := 5) (oi := _) (v := ?_) rfl (by kernel_rfl) (by kernel_rfl) (by kernel_rfl) (fun _ _ _ h => h) (Or.inl ⟨by rfl, ?_⟩) (by assumption) ?_
  rotate_left
  · intro w hSw; (try dsimp only at hSw); go_simp; (try with_reducible rfl)
  try simp only [Act.put, List.setIfInBounds_toArray, List.set_cons_zero, List.set_cons_succ]
  refine wpAnyH_take (i := 6) (oi := _) (v := ?_) rfl (by kernel_rfl) (by kernel_rfl) (by kernel_rfl) (fun _ _ _ h => h) (Or.inl ⟨by rfl, ?_⟩) (by assumption) ?_
  rotate_left
  · intro w hSw; (try dsimp only at hSw); go_simp; (try with_reducible rfl)
  try simp only [Act.put, List.setIfInBounds_toArray, List.set_cons_zero, List.set_cons_succ]
  refine wpAnyH_take (i := 7) (oi := _) (v := ?_) rfl (by kernel_rfl) (by kernel_rfl) (by kernel_rfl) (fun _ _ _ h => h) (Or.inl ⟨by rfl, ?_⟩) (by assumption) ?_
  rotate_left
  · intro w hSw; (try dsimp only at hSw); go_simp; (try with_reducible rfl)
  try simp only [Act.put, List.setIfInBounds_toArray, List.set_cons_zero, List.set_cons_succ]
  refine wpAnyH_take (i := 11) (oi := _) (v := ?_) rfl (by kernel_rfl) (by kernel_rfl) (by kernel_rfl) (fun _ _ _ h => h) (Or.inl ⟨by rfl, ?_⟩) (by assumption) ?_
  rotate_left
  · intro w hSw; (try dsimp only at hSw); go_simp; (try with_reducible rfl)
  try simp only [Act.put, List.setIfInBounds_toArray, List.set_cons_zero, List.set_cons_succ]
  refine wpAnyH_take (i := 12) (oi := _) (v := ?_) rfl (by kernel_rfl) (by kernel_rfl) (by kernel_rfl) (fun _ _ _ h => h) (Or.inl ⟨by rfl, ?_⟩) (by assumption) ?_
  rotate_left
  · intro w hSw; (try dsimp only at hSw); go_simp; (try with_reducible rfl)
  try simp only [Act.put, List.setIfInBounds_toArray, List.set_cons_zero, List.set_cons_succ]
  refine wpAnyH_take (i := 15) (oi := _) (v := ?_) rfl (by kernel_rfl) (by kernel_rfl) (by kernel_rfl) (fun _ _ _ h => h) (Or.inl ⟨by rfl, ?_⟩) (by assumption) ?_
  rotate_left
  · intro w hSw; (try dsimp only at hSw); go_simp; (try with_reducible rfl)
  try simp only [Act.put, List.setIfInBounds_toArray, List.set_cons_zero, List.set_cons_succ]
  refine wpAnyH_take (i := 16) (oi := _) (v := ?_) rfl (by kernel_rfl) (by kernel_rfl) (by kernel_rfl) (fun _ _ _ h => h) (Or.inl ⟨by rfl, ?_⟩) (by assumption) ?_
  rotate_left
  · intro w hSw; (try dsimp only at hSw); go_simp; (try with_reducible rfl)
  try simp only [Act.put, List.setIfInBounds_toArray, List.set_cons_zero, List.set_cons_succ]
  refine wpAnyH_ready (rs := [8]) (by kernel_rfl) (by simp) (AllReadyH.cons rfl (fun K hK => ?_) AllReadyH.nil)
  go_simp
  refine hK.out _ _ (by (try dsimp only); exact keepD BD.out _) (fun hHeld => ?_)
  clear hK K
  try simp only [Act.put, List.setIfInBounds_toArray, List.set_cons_zero, List.set_cons_succ]
  refine wpAnyH_ready (rs := [9]) (by kernel_rfl) (by simp) (AllReadyH.cons rfl (fun K hK => ?_) AllReadyH.nil)
  go_simp
  refine hK.out _ _ (by (try dsimp only); assumption) (fun hHeld => ?_)
  clear hK K
  try simp only [Act.put, List.setIfInBounds_toArray, List.set_cons_zero, List.set_cons_succ]
  refine wpAnyH_take (i := 10) (oi := _) (v := ?_) rfl (by kernel_rfl) (by kernel_rfl) (by kernel_rfl) (fun _ _ _ h => h) (Or.inl ⟨by rfl, ?_⟩) (by assumption) ?_
  rotate_left
  · intro w hSw; (try dsimp only at hSw); go_simp; (try with_reducible rfl)
  try simp only [Act.put, List.setIfInBounds_toArray, List.set_cons_zero, List.set_cons_succ]
  refine wpAnyH_take (i := 13) (oi := _) (v := ?_) rfl (by kernel_rfl) (by kernel_rfl) (by kernel_rfl) (fun _ _ _ h => h) (Or.inl ⟨by rfl, ?_⟩) (by assumption) ?_
  rotate_left
  · intro w hSw; (try dsimp only at hSw); go_simp; (try with_reducible rfl)
  try simp only [Act.put, List.setIfInBounds_toArray, List.set_cons_zero, List.set_cons_succ]
  refine wpAnyH_ready (rs := [14]) (by kernel_rfl) (by simp) (AllReadyH.cons rfl (fun K hK => ?_) AllReadyH.nil)
  go_simp
  go_at_call 36; with_reducible refine (rpad10 q S2.out _).mono ?_; rw [HP.out]; rintro e w2 ⟨rfl, hb⟩; have hs2 : w2.cell? ⟨w.heap.size, 2, none⟩ = some (.string key) ∧ w2.cell? ⟨w.heap.size, 3, none⟩ = some (.string v) ∧ Below w.heap.size w w2 := keepB (by assumption) hb
  refine hK.out _ _ (by (try dsimp only); exact hs2) (fun hHeld => ?_)
  clear hK K
  try simp only [Act.put, List.setIfInBounds_toArray, List.set_cons_zero, List.set_cons_succ]
  refine wpAnyH_take (i := 17) (oi := _) (v := ?_) rfl (by kernel_rfl) (by kernel_rfl) (by kernel_rfl) (fun _ _ _ h => h) (Or.inl ⟨by rfl, ?_⟩) (by assumption) ?_
  rotate_left
  · intro w hSw; (try dsimp only at hSw); go_simp; (try with_reducible rfl)
  try simp only [Act.put, List.setIfInBounds_toArray, List.set_cons_zero, List.set_cons_succ]
  refine wpAnyH_take (i := 18) (oi := _) (v := ?_) rfl (by kernel_rfl) (by kernel_rfl) (by kernel_rfl) (fun _ _ _ h => h) (Or.inl ⟨by rfl, ?_⟩) (by assumption) ?_
  rotate_left
  · intro w hSw; (try dsimp only at hSw); go_simp; (try with_reducible rfl)
  try simp only [Act.put, List.setIfInBounds_toArray, List.set_cons_zero, List.set_cons_succ]
  refine wpAnyH_done (by kernel_rfl) ?_ _
  go_wp2_with fail
  with_reducible refine (rpad32 hh z1 _).mono ?_
  rw [H2.out]
  rintro e w3 ⟨rfl, hb⟩
  have B3 := Lib.hid (keepB (w := w) (g := w.heap.size) (a := .string key) (b := .string v) (by assumption) hb).2.2
  clear hb
  go_wp2_with fail
  with_reducible refine (rput_any x _).mono ?_
  rw [H4.out]
  rintro e w4 ⟨rfl, hb⟩
  have B4 := Lib.hid (Bl.then B3.out hb)
  clear hb
  go_wp2_with fail
  go_ret2
  exact ⟨rfl, B4.out⟩

theorem rputr_any (r : RecV) (w : World) (hk : r.key.size ≤ 9223372036854775807) (hv : r.val.size ≤ 9223372036854775807) : Calls Try.prog 14 #[r.v] w fun e w' => e = .returned (.tuple #[.string (putR r), .int .i64 (putRe r)]) ∧ Below w.heap.size w w' := by
  by_cases hm : mayP r
  · rw [show putRe r = 0 from if_pos hm]
    obtain ⟨k, e0, key, v⟩ := r
    have h := hm
    rcases h with ⟨h0, h1, h2, h3, h4⟩ | ⟨h0, h1, h2, h3⟩ | ⟨h0, h1, h2, h3⟩
    · simp only at h0 h3 h4
      subst h0 h3 h4
      exact rputr_0 e0 hm w _ rfl
    · simp only at h0 h1
      subst h0 h1
      exact rputr_1 key v hm w _ rfl
    · simp only at h0 h1 h3
      subst h0 h1 h3
      exact rputr_2 key hm w _ rfl
  · exact rputr_no r hm w hk hv
end Go.Proofs.Ytgfldfkgialdlaa
