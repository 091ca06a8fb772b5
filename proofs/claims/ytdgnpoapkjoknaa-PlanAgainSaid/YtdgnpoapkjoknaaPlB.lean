/- The plan that begins a sector: the walk. -/
import Derived.Test.YtdgnpoapkjoknaaPlA
namespace Go.Proofs.Ytdgnpoapkjoknaa
set_option linter.unusedVariables false
set_option linter.unusedSimpArgs false
open Go.RowKit

theorem mapR_snoc {ps : List PairV} {k : Nat} (hk : k < ps.length) : (ps.take (k + 1)).map recP = (ps.take k).map recP ++ [recP (ps.getD k zeroP)] := by
  rw [take_snoc hk, List.map_append]; rfl
theorem Own.off6 {w : World} {B B' n g : Nat} {e : TypeId} {size : Nat} {v : Value} {xs cs : List Value} (h : Own w B e size v n xs) (h' : Own w B' 60 1 (.slice (some ⟨g, 0, none⟩) 6 6) 6 cs) (hne : e ≠ 60) (a b c d e' f : Value) :
    Own ((((((w.setCell ⟨g, 0, none⟩ a).setCell ⟨g, 1, none⟩ b).setCell ⟨g, 2, none⟩ c).setCell ⟨g, 3, none⟩ d).setCell ⟨g, 4, none⟩ e').setCell ⟨g, 5, none⟩ f) B e size v n xs := by
  have s1 := h'.stored 0 a
  have s2 := s1.1.stored 1 b
  have s3 := s2.1.stored 2 c
  have s4 := s3.1.stored 3 d
  have s5 := s4.1.stored 4 e'
  have s6 := s5.1.stored 5 f
  have k1 := h.kept s1.2 (Own.ne hne h h')
  have k2 := k1.kept s2.2 (Own.ne hne k1 s1.1)
  have k3 := k2.kept s3.2 (Own.ne hne k2 s2.1)
  have k4 := k3.kept s4.2 (Own.ne hne k3 s3.1)
  have k5 := k4.kept s5.2 (Own.ne hne k4 s4.1)
  exact k5.kept s6.2 (Own.ne hne k5 s5.1)
theorem Bl.set6 {w W : World} {g : Nat} (h : Below w.heap.size w W) (hg : w.heap.size ≤ g) (a b c d e f : Value) :
    Below w.heap.size w ((((((W.setCell ⟨g, 0, none⟩ a).setCell ⟨g, 1, none⟩ b).setCell ⟨g, 2, none⟩ c).setCell ⟨g, 3, none⟩ d).setCell ⟨g, 4, none⟩ e).setCell ⟨g, 5, none⟩ f) :=
  (((((h.setCell hg a (p := ⟨g, 0, none⟩)).setCell hg b (p := ⟨g, 1, none⟩)).setCell hg c (p := ⟨g, 2, none⟩)).setCell hg d (p := ⟨g, 3, none⟩)).setCell hg e (p := ⟨g, 4, none⟩)).setCell hg f (p := ⟨g, 5, none⟩)
theorem cells6 {w : World} {B g : Nat} {cs : List Value} (h : Own w B 60 1 (.slice (some ⟨g, 0, none⟩) 6 6) 6 cs) : (∀ i, i < 6 → w.frozen? ⟨g, i, none⟩ = false) ∧ ∀ i, i < 6 → ∃ u, w.cell? ⟨g, i, none⟩ = some u := by
  refine ⟨fun i hi => h.free (by omega), fun i hi => ?_⟩
  have hl := h.len
  exact ⟨cs[i]'(by omega), h.at' (by rw [List.getElem?_eq_getElem (by omega)])⟩

theorem one_new (W : World) (g : Nat) (hg : W.heap.size = g) (u : Value) (t : TypeId) : (W.alloc (Obj.cells #[u] t)).cell? ⟨g, 0, none⟩ = some u := by
  subst hg
  rw [cell_of_row _ _ _ _ _ _ (heap_alloc_new W _)]; rfl

set_option maxRecDepth 100000 in
set_option maxHeartbeats 8000000 in
theorem moved_any (w : World) (s e0 : Int) (v : Value) (ps : List PairV) (h : RdP w v ps) (hb : ps.length ≤ 1000) :
    Calls Try.prog 47 #[.int .i64 s, .int .i64 e0, v] w fun e w' => ∃ v', e = .returned v' ∧ OwnL w' w.heap.size v' (movedP s e0 ps) ∧ Below w.heap.size w w' := by
  obtain ⟨n, hn⟩ : ∃ n, ps.length = n := ⟨_, rfl⟩
  obtain ⟨A, c, rfl⟩ := h.form
  have HP := Lib.hid (show RdP w (.slice A n c) ps by rw [← hn]; exact h)
  rw [hn] at hb ⊢
  have HN := Lib.hid hn
  clear h hn
  go_enter Try.func47, Try.ntmps47
  go_wp2_with fail
  have r1 := Own.arr w #[.int .i64 0, .int .i64 0, .slice none 0 0, .slice none 0 0, .int .i64 0, .int .i64 0] 60 6 rfl (by decide)
  have r2 := r1.alloc (Obj.cells #[.int .i64 s, .int .i64 s, .slice none 0 0, .slice none 0 0, .int .i64 1, .int .i64 e0] 60)
  have p1 := Own.arr (w.alloc (Obj.cells #[.int .i64 0, .int .i64 0, .slice none 0 0, .slice none 0 0, .int .i64 0, .int .i64 0] 60)) #[.int .i64 s, .int .i64 s, .slice none 0 0, .slice none 0 0, .int .i64 1, .int .i64 e0] 60 6 rfl (by decide)
  have e1 : (w.alloc (Obj.cells #[.int .i64 0, .int .i64 0, .slice none 0 0, .slice none 0 0, .int .i64 0, .int .i64 0] 60)).heap.size = w.heap.size + 1 := by simp
  rw [e1] at p1
  have b2 := Bl.alloc (Bl.alloc (Below.refl w.heap.size w) (Obj.cells #[.int .i64 0, .int .i64 0, .slice none 0 0, .slice none 0 0, .int .i64 0, .int .i64 0] 60)) (Obj.cells #[.int .i64 s, .int .i64 s, .slice none 0 0, .slice none 0 0, .int .i64 1, .int .i64 e0] 60)
  generalize (w.alloc (Obj.cells #[.int .i64 0, .int .i64 0, .slice none 0 0, .slice none 0 0, .int .i64 0, .int .i64 0] 60)).alloc (Obj.cells #[.int .i64 s, .int .i64 s, .slice none 0 0, .slice none 0 0, .int .i64 1, .int .i64 e0] 60) = wl at *
  have I0 := Lib.hid (show PIn w w.heap.size (w.heap.size + 1) [.int .i64 s, .int .i64 s, .slice none 0 0, .slice none 0 0, .int .i64 (1 + ((0 : Nat) : Int)), .int .i64 e0] (.slice none 0 0) (.slice none 0 0) 0 0 (onesN 0) ((ps.take 0).map recP) wl from ⟨Nat.le_refl _, p1.lower (Nat.le_succ _), Own.nil _ _ _ _, Own.nil _ _ _ _, b2, b2.size⟩)
  have R0 := Lib.hid r2
  clear r1 r2 p1 e1 b2
  obtain ⟨g, hg⟩ : ∃ g, w.heap.size + 1 = g := ⟨_, rfl⟩
  obtain ⟨gr, hgr⟩ : ∃ g, w.heap.size = g := ⟨_, rfl⟩
  rw [hg] at I0
  rw [hg]
  have hgg : gr ≠ g := by omega
  have HGR := Lib.hid hgr
  rw [hgr] at R0
  have HGG := Lib.hid hgg
  rw [hgr]
  clear hgr hg hgg
  go_loopw [16] (fun i wr => ∃ (k : Nat) (S R : Value) (rc : List Value), k ≤ n ∧ i = .int .i64 (k : Int) ∧ PIn w w.heap.size g [.int .i64 s, .int .i64 s, S, R, .int .i64 (1 + (k : Int)), .int .i64 e0] S R k k (onesN k) ((ps.take k).map recP) wr ∧ Own wr gr 60 1 (.slice (some ⟨gr, 0, none⟩) 6 6) 6 rc) (fun i _ => (n - intOf i).toNat)
  case atStart => exact ⟨0, _, _, _, by omega, rfl, I0.out, R0.out⟩
  case round =>
    obtain ⟨k, S, R, rc, hk, rfl, hi, hr⟩ := hrel
    have HI := Lib.hid hi
    have HR := Lib.hid hr
    clear hi hr I0 R0
    by_cases hlt : k < n
    · have hlt2 : (k : Int) < (n : Int) := by omega
      obtain ⟨b, o, c', hv, _, _, hcc⟩ := (HP.out.below HI.out.2.2.2.2.1).pos (by rw [HN.out]; omega)
      rw [HN.out] at hv hcc
      obtain ⟨h1, _, h2⟩ := Value.slice.inj hv
      subst h1 h2
      obtain ⟨g0, g1⟩ := hcc k hlt
      obtain ⟨S1, S2, S3⟩ : ∃ A c, S = .slice A k c := HI.out.2.2.1.slice
      obtain ⟨R1, R2, R3⟩ : ∃ A c, R = .slice A k c := HI.out.2.2.2.1.slice
      subst S3 R3
      have HM := Lib.hid (mapR_snoc (ps := ps) (k := k) (by rw [HN.out]; exact hlt))
      obtain ⟨p, hp⟩ : ∃ p, ps.getD k zeroP = p := ⟨_, rfl⟩
      rw [hp] at g0 g1 HM
      obtain ⟨key, val⟩ := p
      change Hid (_ = _ ++ [(⟨1, 0, key, val⟩ : RecV)]) at HM
      simp only at g0 g1
      have hbytes : (k + 1) * 48 ≤ 140737488355328 := by omega
      have hbytes8 : (k + 1) * 8 ≤ 140737488355328 := by omega
      have hw1 : IntKind.i64.wrap (1 + (k : Int)) = 1 + (k : Int) := wrap_i64_small (by omega) (by omega)
      have hw2 : IntKind.i64.wrap (1 + (k : Int) + 1) = 1 + (k : Int) + 1 := wrap_i64_small (by omega) (by omega)
      have IX := Lib.hid (HI.out.alloc (Obj.cells #[.string key, .string val] 48))
      have q2 := IX.out.at (i := 2) rfl
      have q4 := IX.out.at (i := 4) rfl
      have XB := Lib.hid (Own.arr wr #[.string key, .string val] 48 2 rfl (by decide))
      have HS1 := Lib.hid (show w.heap.size ≤ ((wr.alloc (Obj.cells #[.string key, .string val] 48)).alloc (Obj.cells #[.int .i64 (1 + (k : Int))] 3)).heap.size from (IX.out.alloc _).2.2.2.2.2)
      clear hcc hv hp
      go_wp2_with (first
        | (at_builtin; refine appO w.heap.size rfl (.tmp 28) (.tmp 34) 22 25 (.agg #[.int .i64 0, .int .i64 0, .string ⟨#[]⟩, .string ⟨#[]⟩]) 4 48 rfl Try.underlying22 infoRecX rfl (by decide) (by decide) _ k (flat ((ps.take k).map recP)) rfl (some ⟨w2.heap.size, 0, none⟩) 1 1 [.int .i64 1, .int .i64 0, .string key, .string val] rfl rfl (cellsR_one ⟨1, 0, key, val⟩) (fun h => by cases h) (box4 (BN.out _ _ _ _ _)) (I3.out.alloc _).2.2.2.1 (I3.out.alloc _).2.2.2.2.2 hbytes ?_; intro v3 w3 ho hgw ha; have J1 := Lib.hid ((I3.out.alloc (Obj.cells #[.int .i64 1, .int .i64 0, .string key, .string val] 25)).grownR (rs' := (ps.take k).map recP ++ [⟨1, 0, key, val⟩]) hgw (by rw [flat_snoc]; exact ho)); have J2 := Lib.hid (J1.out.set 3 v3); have z3 := J1.out.free (i := 3) (by omega); have y3 := J1.out.at (i := 3) rfl; have z4 := J2.out.free (i := 4) (by omega); have y4 := J2.out.at (i := 4) rfl; have JR := Lib.hid ((K3.out.alloc (Obj.cells #[.int .i64 1, .int .i64 0, .string key, .string val] 25)).kept hgw (Own.ne (by decide) (K3.out.alloc (Obj.cells #[.int .i64 1, .int .i64 0, .string key, .string val] 25)) (I3.out.alloc (Obj.cells #[.int .i64 1, .int .i64 0, .string key, .string val] 25)).2.2.2.1)); obtain ⟨D3, c3, hv3⟩ := ho.slice; subst hv3; clear ho hgw ha BN)
        | (at_builtin; refine appO w.heap.size rfl (.tmp 21) (.tmp 24) 43 3 (.int .i64 0) 1 8 rfl Try.underlying43 infoInt rfl (by decide) (by decide) _ k (nums (onesN k)) rfl (some ⟨wr.heap.size + 1, 0, none⟩) 1 1 [.int .i64 (1 + (k : Int))] rfl rfl (one1 rfl) (fun h => by cases h) (box1 (one_new _ _ (by simp) _ _)) (IX.out.alloc _).2.2.1 HS1.out hbytes8 ?_; intro v1 w2 ho hgw ha; have I2 := Lib.hid ((IX.out.alloc (Obj.cells #[.int .i64 (1 + (k : Int))] 3)).grownS (xs' := onesN k ++ [1 + (k : Int)]) hgw (by rw [nums_append]; exact ho)); have I3 := Lib.hid (I2.out.set 2 v1); have z2 := I2.out.free (i := 2) (by omega); have y2 := I2.out.at (i := 2) rfl; have q3 := I3.out.at (i := 3) rfl; have XB2 := Lib.hid ((XB.out.alloc (Obj.cells #[.int .i64 (1 + (k : Int))] 3)).kept hgw (Own.ne (by decide) (XB.out.alloc (Obj.cells #[.int .i64 (1 + (k : Int))] 3)) (IX.out.alloc (Obj.cells #[.int .i64 (1 + (k : Int))] 3)).2.2.1)); have XB3 := Lib.hid (XB2.out.kept (I2.out.2.1.stored 2 v1).2 (Own.ne (by decide) XB2.out I2.out.2.1)); have x0 := XB3.out.at' (j := 0) rfl; have x1 := XB3.out.at' (j := 1) rfl; have K2 := Lib.hid (((HR.out.alloc (Obj.cells #[.string key, .string val] 48)).alloc (Obj.cells #[.int .i64 (1 + (k : Int))] 3)).kept hgw (Own.ne (by decide) ((HR.out.alloc (Obj.cells #[.string key, .string val] 48)).alloc (Obj.cells #[.int .i64 (1 + (k : Int))] 3)) (IX.out.alloc (Obj.cells #[.int .i64 (1 + (k : Int))] 3)).2.2.1)); have K3 := Lib.hid (K2.out.kept (I2.out.2.1.stored 2 v1).2 (.inr (fun e => HGG.out (by simpa [Value.ownBlock] using e)))); have BN := Lib.hid (fun (c1 c2 c3 c4 : Value) (ty : TypeId) => show Bx ((w2.setCell ⟨g, 2, none⟩ v1).alloc (Obj.cells #[c1, c2, c3, c4] ty)) w2.heap.size c1 c2 c3 c4 by have h := Bx.new (w2.setCell ⟨g, 2, none⟩ v1) c1 c2 c3 c4 ty; rwa [setCell_size] at h); obtain ⟨D1, c1, hv1⟩ := ho.slice; subst hv1; clear ho hgw ha))
      go_roundw
      case rel =>
        have e1 : (1 + ((k + 1 : Nat) : Int)) = 1 + (k : Int) + 1 := by omega
        have JP := J2.out.set 4 (.int .i64 (1 + (k : Int) + 1))
        have JQ := JR.out.kept (J1.out.2.1.stored 3 (.slice D3 (k + 1) c3)).2 (.inr (fun e => HGG.out (by simpa [Value.ownBlock] using e)))
        have JQ2 := JQ.kept (J2.out.2.1.stored 4 (.int .i64 (1 + (k : Int) + 1))).2 (.inr (fun e => HGG.out (by simpa [Value.ownBlock] using e)))
        refine ⟨k + 1, .slice D1 (k + 1) c1, .slice D3 (k + 1) c3, rc, hlt, by first | go_num | rfl, ?_, JQ2⟩
        rw [e1, HM.out, onesN_snoc]
        exact JP
      case measure => simp [intOf]; omega
    · obtain rfl : k = n := by omega
      have hd : decide ((k : Int) < (k : Int)) = false := decide_eq_false (by omega)
      have hmap : (ps.take k).map recP = ps.map recP := by rw [← HN.out, List.take_length]
      obtain ⟨S1, S2, S3⟩ : ∃ A c, S = .slice A k c := HI.out.2.2.1.slice
      obtain ⟨R1, R2, R3⟩ : ∃ A c, R = .slice A k c := HI.out.2.2.2.1.slice
      subst S3 R3
      have hbytes : (k + 1) * 48 ≤ 140737488355328 := by omega
      have hbytes8 : (k + 1) * 8 ≤ 140737488355328 := by omega
      rw [hmap] at HI
      have q2 := HI.out.at (i := 2) rfl
      have HS1 := Lib.hid (show w.heap.size ≤ (wr.alloc (Obj.cells #[.int .i64 0] 3)).heap.size from (HI.out.alloc _).2.2.2.2.2)
      have hfin : movedP s e0 ps = ⟨s, s, onesN k ++ [0], ps.map recP ++ [⟨0, e0, nilB, nilB⟩], 1 + (k : Int), e0⟩ := by rw [movedP, HN.out]
      have HFIN := Lib.hid hfin
      have hl1 : (onesN k ++ [0]).length = k + 1 := by rw [List.length_append, onesN_len]; rfl
      have hl2 : (ps.map recP ++ [(⟨0, e0, nilB, nilB⟩ : RecV)]).length = k + 1 := by rw [List.length_append, List.length_map, HN.out]; rfl
      have HL1 := Lib.hid hl1
      have HL2 := Lib.hid hl2
      clear hmap hfin hl1 hl2
      go_wp2_with (first
        | (at_builtin; refine appO w.heap.size rfl (.tmp 48) (.tmp 51) 22 25 (.agg #[.int .i64 0, .int .i64 0, .string ⟨#[]⟩, .string ⟨#[]⟩]) 4 48 rfl Try.underlying22 infoRecX rfl (by decide) (by decide) _ k (flat (ps.map recP)) rfl (some ⟨w2.heap.size, 0, none⟩) 1 1 [.int .i64 0, .int .i64 e0, .string ⟨#[]⟩, .string ⟨#[]⟩] rfl rfl (cellsR_one ⟨0, e0, nilB, nilB⟩) (fun h => by cases h) (box4 (BN.out _ _ _ _ _)) (I3.out.alloc _).2.2.2.1 (I3.out.alloc _).2.2.2.2.2 hbytes ?_; intro v3 w3 ho hgw ha; have J1 := Lib.hid ((I3.out.alloc (Obj.cells #[.int .i64 0, .int .i64 e0, .string ⟨#[]⟩, .string ⟨#[]⟩] 25)).grownR (rs' := ps.map recP ++ [⟨0, e0, nilB, nilB⟩]) hgw (by rw [flat_snoc]; exact ho)); have J2 := Lib.hid (J1.out.set 3 v3); have z3 := J1.out.free (i := 3) (by omega); have y3 := J1.out.at (i := 3) rfl; have JR := Lib.hid ((K3.out.alloc (Obj.cells #[.int .i64 0, .int .i64 e0, .string ⟨#[]⟩, .string ⟨#[]⟩] 25)).kept hgw (Own.ne (by decide) (K3.out.alloc (Obj.cells #[.int .i64 0, .int .i64 e0, .string ⟨#[]⟩, .string ⟨#[]⟩] 25)) (I3.out.alloc (Obj.cells #[.int .i64 0, .int .i64 e0, .string ⟨#[]⟩, .string ⟨#[]⟩] 25)).2.2.2.1)); have JR2 := Lib.hid (JR.out.kept (J1.out.2.1.stored 3 v3).2 (.inr (fun e => HGG.out (by simpa [Value.ownBlock] using e)))); have d0 := J2.out.at (i := 0) rfl; have d1 := J2.out.at (i := 1) rfl; have d2 := J2.out.at (i := 2) rfl; have d3 := J2.out.at (i := 3) rfl; have d4 := J2.out.at (i := 4) rfl; have d5 := J2.out.at (i := 5) rfl; have CC := cells6 JR2.out; obtain ⟨f0, f1, f2, f3, f4, f5⟩ := And.intro (CC.1 0 (by decide)) (And.intro (CC.1 1 (by decide)) (And.intro (CC.1 2 (by decide)) (And.intro (CC.1 3 (by decide)) (And.intro (CC.1 4 (by decide)) (CC.1 5 (by decide)))))); obtain ⟨o0, p0⟩ := CC.2 0 (by decide); obtain ⟨o1, p1⟩ := CC.2 1 (by decide); obtain ⟨o2, p2⟩ := CC.2 2 (by decide); obtain ⟨o3, p3⟩ := CC.2 3 (by decide); obtain ⟨o4, p4⟩ := CC.2 4 (by decide); obtain ⟨o5, p5⟩ := CC.2 5 (by decide); clear CC; obtain ⟨D3, c3, hv3⟩ := ho.slice; subst hv3; clear ho hgw ha BN)
        | (at_builtin; refine appO w.heap.size rfl (.tmp 43) (.tmp 44) 43 3 (.int .i64 0) 1 8 rfl Try.underlying43 infoInt rfl (by decide) (by decide) _ k (nums (onesN k)) rfl (some ⟨wr.heap.size, 0, none⟩) 1 1 [.int .i64 0] rfl rfl (one1 rfl) (fun h => by cases h) (box1 (one_new _ _ rfl _ _)) (HI.out.alloc _).2.2.1 HS1.out hbytes8 ?_; intro v1 w2 ho hgw ha; have I2 := Lib.hid ((HI.out.alloc (Obj.cells #[.int .i64 0] 3)).grownS (xs' := onesN k ++ [0]) hgw (by rw [nums_append]; exact ho)); have I3 := Lib.hid (I2.out.set 2 v1); have z2 := I2.out.free (i := 2) (by omega); have y2 := I2.out.at (i := 2) rfl; have q3 := I3.out.at (i := 3) rfl; have K2 := Lib.hid ((HR.out.alloc (Obj.cells #[.int .i64 0] 3)).kept hgw (Own.ne (by decide) (HR.out.alloc (Obj.cells #[.int .i64 0] 3)) (HI.out.alloc (Obj.cells #[.int .i64 0] 3)).2.2.1)); have K3 := Lib.hid (K2.out.kept (I2.out.2.1.stored 2 v1).2 (.inr (fun e => HGG.out (by simpa [Value.ownBlock] using e)))); have BN := Lib.hid (fun (c1 c2 c3 c4 : Value) (ty : TypeId) => show Bx ((w2.setCell ⟨g, 2, none⟩ v1).alloc (Obj.cells #[c1, c2, c3, c4] ty)) w2.heap.size c1 c2 c3 c4 by have h := Bx.new (w2.setCell ⟨g, 2, none⟩ v1) c1 c2 c3 c4 ty; rwa [setCell_size] at h); obtain ⟨D1, c1, hv1⟩ := ho.slice; subst hv1; clear ho hgw ha))

      refine bodyPost_ret (results_plan (a := .int .i64 s) (b := .int .i64 s) (c := .slice D1 (k + 1) c1) (d := .slice D3 (k + 1) c3) (e := .int .i64 (1 + (k : Int))) (f := .int .i64 e0) rfl rfl (by go_simp) (by go_simp) (by go_simp) (by go_simp) (by go_simp) (by go_simp)) rfl ?_
      rw [← HGR.out, HFIN.out]
      refine ⟨_, rfl, ⟨_, _, rfl, ?_, ?_⟩, Bl.set6 J2.out.2.2.2.2.1 (Nat.le_refl _) _ _ _ _ _ _⟩
      · rw [HL1.out]
        have hh := JR2.out
        rw [← HGR.out] at hh
        exact J2.out.2.2.1.off6 hh (by decide) _ _ _ _ _ _
      · rw [HL2.out]
        have hh := JR2.out
        rw [← HGR.out] at hh
        exact J2.out.2.2.2.1.off6 hh (by decide) _ _ _ _ _ _
end Go.Proofs.Ytdgnpoapkjoknaa
