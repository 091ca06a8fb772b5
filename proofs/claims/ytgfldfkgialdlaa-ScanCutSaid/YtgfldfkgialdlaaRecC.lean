/- rec: the first half of a record's slot. -/
import Derived.Test.YtgfldfkgialdlaaRecB
import Derived.BigRegion
import Derived.Deep.RegionHeld3
namespace Go.Proofs.Ytgfldfkgialdlaa
set_option linter.unusedVariables false
set_option linter.unusedSimpArgs false
open Go.RowKit
/-- A record stands in memory. -/
def RecAt (w : World) (g o : Nat) (r : RecV) : Prop :=
  w.cell? ⟨g, o, none⟩ = some (.int .i64 r.k) ∧ w.cell? ⟨g, o + 1, none⟩ = some (.int .i64 r.e) ∧ w.cell? ⟨g, o + 2, none⟩ = some (.string r.key) ∧ w.cell? ⟨g, o + 3, none⟩ = some (.string r.val)
theorem RecAt.below {w w' : World} {g o : Nat} {r : RecV} (h : RecAt w g o r) (hb : Below w.heap.size w w') : RecAt w' g o r := by
  have k := fun (q : Nat) (v : Value) (h : w.cell? ⟨g, q, none⟩ = some v) => (hb.cell (World.block_lt_of_cell? _ _ h)).trans h
  exact ⟨k _ _ h.1, k _ _ h.2.1, k _ _ h.2.2.1, k _ _ h.2.2.2⟩

theorem conv3 (w : World) (a b : Nat) (ha : a < 256) (hb : b < 256) :
    (convert 43 9 (.slice (some ⟨w.heap.size, 0, none⟩) 3 3)).run Try.prog (w.alloc (Obj.cells #[.int .u8 (a : Int), .int .u8 (b : Int), .int .u8 0] 5)).drew = .ok (.string (str [UInt8.ofNat a, UInt8.ofNat b, 0])) (w.alloc (Obj.cells #[.int .u8 (a : Int), .int .u8 (b : Int), .int .u8 0] 5)).drew := by
  have h := (show Own (w.alloc (Obj.cells (byts [UInt8.ofNat a, UInt8.ofNat b, 0]).toArray 5)).drew w.heap.size 5 1 (.slice (some ⟨w.heap.size, 0, none⟩) 3 3) 3 (byts [UInt8.ofNat a, UInt8.ofNat b, 0]) from Own.made w 5 _ 3 rfl (by decide)).string (P := Try.prog) Try.underlying43 Try.underlying5 Try.underlying9
  have e : (byts [UInt8.ofNat a, UInt8.ofNat b, 0]).toArray = #[.int .u8 (a : Int), .int .u8 (b : Int), .int .u8 0] := by
    show #[Value.int .u8 ((UInt8.ofNat a).toNat : Int), Value.int .u8 ((UInt8.ofNat b).toNat : Int), Value.int .u8 0] = _
    rw [u8_of ha, u8_of hb]
  rwa [e] at h
theorem may_keys {r : RecV} (h : mayP r) : r.key.size ≤ 6 ∧ r.val.size ≤ 20 := by
  rcases h with ⟨_, _, _, h1, h2⟩ | ⟨_, _, ⟨_, h1⟩, h2⟩ | ⟨_, _, ⟨_, h1⟩, h2⟩
  · rw [h1, h2]; exact ⟨by decide, by decide⟩
  · exact ⟨h1, h2⟩
  · rw [h2]; exact ⟨h1, by decide⟩
theorem cons_app (x : UInt8) (a : ByteArray) : (⟨#[x]⟩ : ByteArray) ++ a = str (x :: a.data.toList) := by
  refine ext_str ?_
  rw [app_data, str_data]
  rfl

set_option maxRecDepth 100000 in
set_option maxHeartbeats 4000000 in
theorem half_any (k e0 : Int) (key v : ByteArray) (g : Nat) (w : World) (hm : mayP ⟨k, e0, key, v⟩) (g0 : w.cell? ⟨g, 0, none⟩ = some (.int .i64 k)) (g1 : w.cell? ⟨g, 1, none⟩ = some (.int .i64 e0)) (g2 : w.cell? ⟨g, 2, none⟩ = some (.string key)) (g3 : w.cell? ⟨g, 3, none⟩ = some (.string v)) :
    Calls Try.prog 35 #[.pointer (some ⟨g, 0, none⟩)] w fun e w' => e = .returned (.string (str (halfL ⟨k, e0, key, v⟩))) ∧ Below w.heap.size w w' := by
  obtain ⟨s1, s2⟩ := may_keys hm
  simp only at s1 s2
  obtain ⟨hd, hhd⟩ : ∃ z, str [UInt8.ofNat key.size, UInt8.ofNat v.size, 0] = z := ⟨_, rfl⟩
  obtain ⟨hk, hhk⟩ : ∃ z, hd ++ key = z := ⟨_, rfl⟩
  obtain ⟨q, hq⟩ : ∃ z, (⟨#[82]⟩ : ByteArray) ++ hk = z := ⟨_, rfl⟩
  obtain ⟨p, hp⟩ : ∃ z, padB q 10 = z := ⟨_, rfl⟩
  obtain ⟨z, hz⟩ : ∃ z, p ++ v = z := ⟨_, rfl⟩
  obtain ⟨y, hy⟩ : ∃ z, (⟨#[84]⟩ : ByteArray) ++ hk = z := ⟨_, rfl⟩
  obtain ⟨l, hl⟩ : ∃ z, str (lowL e0) = z := ⟨_, rfl⟩
  obtain ⟨x, hx⟩ : ∃ z, (⟨#[72]⟩ : ByteArray) ++ l = z := ⟨_, rfl⟩
  have zl : l.size = 4 := by rw [← hl, str_size]; rfl
  have zd : hd.size = 3 := by rw [← hhd, str_size]; rfl
  have zk : hk.size = 3 + key.size := by rw [← hhk, size_app, zd]
  have zq : q.size = 4 + key.size := by rw [← hq, size_app, zk]; show 1 + _ = _; omega
  have zp : p.size = 10 := by rw [← hp, padB, str_size, padL_len _ _ (by rw [data_len]; omega)]
  have zy : y.size = 4 + key.size := by rw [← hy, size_app, zk]; show 1 + _ = _; omega
  have dk : hk.data.toList = headR ⟨k, e0, key, v⟩ := by rw [← hhk, app_data, ← hhd, str_data]; rfl
  have R0 : k = 0 → str (halfL ⟨k, e0, key, v⟩) = x := fun c => by rw [halfL, if_pos c, ← hx, cons_app, ← hl, str_data]
  have R1 : k = 1 → str (halfL ⟨k, e0, key, v⟩) = z := fun c => by
    rw [halfL, if_neg (by show ¬ k = 0; omega), if_pos c, ← hz, ← hp, padB, ← hq, cons_app, str_data, dk]
    refine ext_str ?_
    rw [str_data, app_data, str_data]
  have R2 : k = 2 → str (halfL ⟨k, e0, key, v⟩) = y := fun c => by rw [halfL, if_neg (by show ¬ k = 0; omega), if_neg (by show ¬ k = 1; omega), ← hy, cons_app, dk]
  have hep : k = 0 → 0 ≤ e0 ∧ e0 ≤ 9223372036854775807 := fun c => by
    rcases hm with ⟨_, h1, h2, _⟩ | ⟨h0, _⟩ | ⟨h0, _⟩
    · simp only at h1 h2; omega
    · simp only at h0; omega
    · simp only at h0; omega
  have hk3 : k = 0 ∨ k = 1 ∨ k = 2 := by
    rcases hm with ⟨h0, _⟩ | ⟨h0, _⟩ | ⟨h0, _⟩
    · exact .inl h0
    · exact .inr (.inl h0)
    · exact .inr (.inr h0)
  have kc := conv3 w key.size v.size (by omega) (by omega)
  rw [hhd] at kc
  have b0 : Below w.heap.size w (w.alloc (Obj.cells #[.int .u8 (key.size : Int), .int .u8 (v.size : Int), .int .u8 0] 5)).drew := Bl.drewN (Bl.alloc (Below.refl _ _) _) 1
  have k0 := (b0.cell (World.block_lt_of_cell? _ _ g0)).trans g0
  have k1 := (b0.cell (World.block_lt_of_cell? _ _ g1)).trans g1
  have k2 := (b0.cell (World.block_lt_of_cell? _ _ g2)).trans g2
  have k3 := (b0.cell (World.block_lt_of_cell? _ _ g3)).trans g3
  have B0 := Lib.hid b0
  have HP := Lib.hid hp
  have HL := Lib.hid hl
  have S2 := Lib.hid (show q.size ≤ 10 by omega)
  have i0 : ¬ 9223372036854775807 < 1 + (3 + key.size) := by omega
  have i3 : ¬ 9223372036854775807 < 10 + v.size := by omega
  have i1 : (key.size : Int) ≤ 6 := by omega
  have i2 : (v.size : Int) ≤ 20 := by omega
  clear dk hp hl hm hhd b0
  rcases hk3 with rfl | rfl | rfl
  · rw [R0 rfl]
    have HE := Lib.hid (hep rfl)
    clear R0 R1 R2 hep
    go_enter Try.func35, Try.ntmps35
    go_wp2_with fail
    go_region
    go_wp2_with fail
    with_reducible refine (low_any e0 _ HE.out.1 HE.out.2).mono ?_
    rw [HL.out]
    rintro e w1 ⟨rfl, hb⟩
    have B1 := Lib.hid (Bl.then B0.out hb)
    clear hb
    go_wp2_with fail
    go_ret
    exact ⟨rfl, B1.out⟩
  · rw [R1 rfl]
    clear R0 R1 R2 hep
    go_enter Try.func35, Try.ntmps35
    go_wp2_with fail
    go_region
    generalize (w.alloc (Obj.cells #[.int .u8 (key.size : Int), .int .u8 (v.size : Int), .int .u8 0] 5)).drew = W at *
    clear g0 g1 g2 g3 kc
    go_wp2_with fail
    have kd : W.drew.cell? ⟨g, 3, none⟩ = some (.string v) := k3
    have bd : Below w.heap.size w W.drew := Bl.drewN B0.out 1
    have kb : g < W.drew.heap.size := World.block_lt_of_cell? _ _ kd
    go_region_held3 (fun w' => w'.cell? ⟨g, 3, none⟩ = some (.string v) ∧ Below w.heap.size w w') (first | exact ⟨kd, bd⟩ | assumption | exact ⟨hc2, hb2⟩)
      (first | (go_at_call 34; with_reducible refine (pad10 q S2.out _).mono ?_; rw [HP.out]; rintro e w2 ⟨rfl, hb⟩; have hc2 : w2.cell? ⟨g, 3, none⟩ = some (.string v) := (hb.cell kb).trans kd; have hb2 : Below w.heap.size w w2 := Bl.then bd hb))
    go_wp2_with fail
    go_ret
    exact ⟨rfl, by assumption⟩
  · rw [R2 rfl]
    clear R0 R1 R2 hep
    go_enter Try.func35, Try.ntmps35
    go_wp2_with fail
    go_region
    go_wp2_with fail
    go_ret
    exact ⟨rfl, B0.out⟩
end Go.Proofs.Ytgfldfkgialdlaa
