/- Acts: another one, other ones. -/
import Derived.Test.YtfdbolnifjpbhaaDoorScX
namespace Go.Proofs.YtfdbolnifjpbhaaDoor
set_option linter.unusedVariables false
set_option linter.unusedSimpArgs false
open Go.RowKit

/-- What stands as an act is copied. -/
structure CpI (w : World) (m : ActM) (W : World) : Prop where
  res : Own W w.heap.size 38 1 (.slice (some ⟨w.heap.size + 1, 0, none⟩) 9 9) 9 zero9
  box : Own W w.heap.size 38 1 (.slice (some ⟨w.heap.size, 0, none⟩) 9 9) 9 (cellsA m)
  bl : Below w.heap.size w W
section
variable {w W W' : World} {m : ActM}
theorem CpI.alloc (h : CpI w m W) (o : Obj) : CpI w m (W.alloc o) := ⟨h.res.alloc o, h.box.alloc o, Bl.alloc h.bl o⟩
theorem CpI.grown {v : Value} {n : Nat} {xs : List Value} (h : CpI w m W) (ho : Own W w.heap.size 3 1 v n xs) (hg : W.grownBy W' v.ownBlock) : CpI w m W' :=
  ⟨h.res.kept hg (Own.neS (by decide) h.res ho), h.box.kept hg (Own.neS (by decide) h.box ho), Bl.grown h.bl hg (fun k hk => ho.base k hk)⟩
theorem CpI.put (h : CpI w m W) (o : Nat) (u : Value) (m' : ActM) (hc : cellsA m' = (cellsA m).set o u) : CpI w m' (W.setCell ⟨w.heap.size, o, none⟩ u) ∧ W.grownBy (W.setCell ⟨w.heap.size, o, none⟩ u) (some w.heap.size) := by
  obtain ⟨k1, k2⟩ := h.box.stored o u
  exact ⟨⟨h.res.kept k2 (.inr (by simp [Value.ownBlock])), by rw [hc]; exact k1, Bl.grown h.bl k2 (fun k hk => h.box.base k hk)⟩, k2⟩
theorem CpI.new (w : World) (m : ActM) : CpI w m ((w.alloc (Obj.cells (cellsA m).toArray 38)).alloc (Obj.cells zero9.toArray 38)) := by
  refine ⟨⟨rfl, .inr ⟨w.heap.size + 1, 9, zero9.toArray, (0, 0), rfl, by omega, ?_, .inr rfl, Nat.le_refl _, by decide, rfl, rfl⟩⟩, Own.alloc ⟨rfl, .inr ⟨w.heap.size, 9, (cellsA m).toArray, (0, 0), rfl, Nat.le_refl _, heap_alloc_new w _, .inr rfl, Nat.le_refl _, by decide, rfl, rfl⟩⟩ _, Bl.alloc (Bl.alloc (Below.refl _ _) _) _⟩
  have h := heap_alloc_new (w.alloc (Obj.cells (cellsA m).toArray 38)) (Obj.cells zero9.toArray 38)
  rwa [show (w.alloc (Obj.cells (cellsA m).toArray 38)).heap.size = w.heap.size + 1 by simp] at h
theorem Own.old {B n : Nat} {e : TypeId} {size : Nat} {v : Value} {xs : List Value} {k : Nat} (h : Own W B e size v n xs) (hk : W.heap.size ≤ k) : v.ownBlock = none ∨ v.ownBlock ≠ some k :=
  .inr fun e => by have := (h.lt k e).2; omega
theorem empty_own (W : World) (B : Nat) (hB : B ≤ W.heap.size) : Own (W.alloc (Obj.cells #[] 3)) B 3 1 (.slice (some ⟨W.heap.size, 0, none⟩) 0 0) 0 [] :=
  Own.lower (B := W.heap.size) ⟨rfl, .inr ⟨W.heap.size, 0, #[], (0, 0), rfl, Nat.le_refl _, heap_alloc_new W _, .inr rfl, Nat.le_refl _, by decide, rfl, rfl⟩⟩ hB
end
set_option maxRecDepth 100000 in
set_option maxHeartbeats 4000000 in
theorem copy_act (m : ActM) (w : World) (hok : OkM w m) (hb8 : m.a.busy.length * 8 ≤ 140737488355328) (hr8 : m.a.reads.length * 8 ≤ 140737488355328) :
    Calls Tryd.prog 18 #[m.v] w fun e w' => ∃ m' : ActM, e = .returned m'.v ∧ m'.a = m.a ∧ Own w' w.heap.size 3 1 m'.bv m'.a.busy.length (nums m'.a.busy) ∧ Own w' w.heap.size 3 1 m'.rv m'.a.reads.length (nums m'.a.reads) ∧ Below w.heap.size w w' := by
  obtain ⟨⟨k, key, val, pl, wd, ls, mask, busy, reads⟩, bv, rv⟩ := m
  obtain ⟨A1, c1, rfl, hA1, hc1⟩ : ∃ A c, bv = .slice A busy.length c ∧ (A = none → busy.length = 0 ∧ c = 0) ∧ ∀ ad, A = some ad → ∀ j u, (nums busy)[j]? = some u → w.cell? (ad.add j) = some u := hok.1.news
  obtain ⟨A2, c2, rfl, hA2, hc2⟩ : ∃ A c, rv = .slice A reads.length c ∧ (A = none → reads.length = 0 ∧ c = 0) ∧ ∀ ad, A = some ad → ∀ j u, (nums reads)[j]? = some u → w.cell? (ad.add j) = some u := hok.2.news
  have HA1 := Lib.hid hA1
  have HA2 := Lib.hid hA2
  have HC1 := Lib.hid (fun (W : World) (hb : Below w.heap.size w W) => show ∀ ad, A1 = some ad → ∀ j u, (nums busy)[j]? = some u → W.cell? (ad.add j) = some u from fun ad had j u hu => (hb.cell (World.block_lt_of_cell? _ _ (hc1 ad had j u hu))).trans (hc1 ad had j u hu))
  have HC2 := Lib.hid (fun (W : World) (hb : Below w.heap.size w W) => show ∀ ad, A2 = some ad → ∀ j u, (nums reads)[j]? = some u → W.cell? (ad.add j) = some u from fun ad had j u hu => (hb.cell (World.block_lt_of_cell? _ _ (hc2 ad had j u hu))).trans (hc2 ad had j u hu))
  obtain ⟨p, hp⟩ : ∃ p, busy.length = p := ⟨_, rfl⟩
  obtain ⟨q, hq⟩ : ∃ q, reads.length = q := ⟨_, rfl⟩
  have HL1 := Lib.hid (show (nums busy).length = p * 1 from by rw [nums_length]; omega)
  have HL2 := Lib.hid (show (nums reads).length = q * 1 from by rw [nums_length]; omega)
  have I0 := Lib.hid ((CpI.new w ⟨⟨k, key, val, pl, wd, ls, mask, busy, reads⟩, .slice A1 busy.length c1, .slice A2 reads.length c2⟩).alloc (Obj.cells #[] 3))
  have E0 := Lib.hid (empty_own ((w.alloc (Obj.cells (cellsA ⟨⟨k, key, val, pl, wd, ls, mask, busy, reads⟩, .slice A1 busy.length c1, .slice A2 reads.length c2⟩).toArray 38)).alloc (Obj.cells zero9.toArray 38)) w.heap.size (CpI.new w ⟨⟨k, key, val, pl, wd, ls, mask, busy, reads⟩, .slice A1 busy.length c1, .slice A2 reads.length c2⟩).bl.size)
  have HP := Lib.hid hp
  have HQ := Lib.hid hq
  rw [hp] at hb8 HA1
  rw [hq] at hr8 HA2
  rw [hp, hq] at I0 E0
  rw [show ((w.alloc (Obj.cells (cellsA ⟨⟨k, key, val, pl, wd, ls, mask, busy, reads⟩, .slice A1 p c1, .slice A2 q c2⟩).toArray 38)).alloc (Obj.cells zero9.toArray 38)).heap.size = w.heap.size + 1 + 1 by simp] at E0
  simp only [ActM.v]
  rw [hp, hq]
  have hbp : (0 + p) * 8 ≤ 140737488355328 := by omega
  have hbq : (0 + q) * 8 ≤ 140737488355328 := by omega
  have y7 := I0.out.box.at' (j := 7) rfl
  clear hok hA1 hA2 hc1 hc2 hp hq hb8 hr8
  go_enter Tryd.func18, Tryd.ntmps18
  go_wp2_with (first
    | (at_builtin; refine appO w.heap.size rfl (.tmp 8) (.tmp 10) 36 3 (.int .i64 0) 1 8 rfl Tryd.underlying36 infoInt rfl (by decide) (by decide) (.slice (some ⟨w1.heap.size, 0, none⟩) 0 0) 0 [] rfl A2 q c2 (nums reads) rfl HL2.out (nums_one reads) HA2.out (HC2.out _ I2.out.bl) E2.out I2.out.bl.size hbq ?_; intro v4 w4 ho hg ha; rw [Nat.zero_add, List.nil_append] at ho; obtain ⟨D2, d2, hv2⟩ := ho.slice; subst hv2; have I3 := Lib.hid (I2.out.grown E2.out hg); have R4 := Lib.hid (Own.kept (Own.alloc R1.out (Obj.cells #[] 3)) hg (Own.old R1.out (by simp))); have J3 := Lib.hid (I3.out.put 8 (.slice D2 q d2) ⟨⟨k, key, val, pl, wd, ls, mask, busy, reads⟩, .slice D1 p d1, .slice D2 q d2⟩ rfl); have R5 := Lib.hid (R4.out.kept J3.out.2 (Own.neS (by decide) R4.out I3.out.box)); have R6 := Lib.hid (ho.kept J3.out.2 (Own.neS (by decide) ho I3.out.box)); clear ho hg ha y8; have y8 := I3.out.box.at' (j := 8) rfl; have f8 := I3.out.box.free (j := 8) (by decide); obtain ⟨g0, g1, g2, g3, g4, g5, g6, g7, g8⟩ := Box9.at9 J3.out.1.box; simp only at g0 g1 g2 g3 g4 g5 g6 g7 g8; have z0 := J3.out.1.res.free (j := 0) (by decide); have z1 := J3.out.1.res.free (j := 1) (by decide); have z2 := J3.out.1.res.free (j := 2) (by decide); have z3 := J3.out.1.res.free (j := 3) (by decide); have z4 := J3.out.1.res.free (j := 4) (by decide); have z5 := J3.out.1.res.free (j := 5) (by decide); have z6 := J3.out.1.res.free (j := 6) (by decide); have z7 := J3.out.1.res.free (j := 7) (by decide); have z8 := J3.out.1.res.free (j := 8) (by decide); obtain ⟨r0, r1, r2, r3, r4, r5, r6, r7, r8⟩ := Box9.at9 (m := zeroM) J3.out.1.res)
    | (at_builtin; refine appO w.heap.size rfl (.tmp 3) (.tmp 5) 36 3 (.int .i64 0) 1 8 rfl Tryd.underlying36 infoInt rfl (by decide) (by decide) (.slice (some ⟨w.heap.size + 1 + 1, 0, none⟩) 0 0) 0 [] rfl A1 p c1 (nums busy) rfl HL1.out (nums_one busy) HA1.out (HC1.out _ I0.out.bl) E0.out I0.out.bl.size hbp ?_; intro v1 w1 ho hg ha; rw [Nat.zero_add, List.nil_append] at ho; obtain ⟨D1, d1, hv1⟩ := ho.slice; subst hv1; have I1 := Lib.hid (I0.out.grown E0.out hg); have J1 := Lib.hid (I1.out.put 7 (.slice D1 p d1) ⟨⟨k, key, val, pl, wd, ls, mask, busy, reads⟩, .slice D1 p d1, .slice A2 q c2⟩ rfl); have R1 := Lib.hid (ho.kept J1.out.2 (Own.neS (by decide) ho I1.out.box)); have I2 := Lib.hid (J1.out.1.alloc (Obj.cells #[] 3)); have E2 := Lib.hid (empty_own (w1.setCell ⟨w.heap.size, 7, none⟩ (.slice D1 p d1)) w.heap.size J1.out.1.bl.size); rw [show (w1.setCell ⟨w.heap.size, 7, none⟩ (.slice D1 p d1)).heap.size = w1.heap.size by simp] at E2; clear ho hg ha y7; have y7 := I1.out.box.at' (j := 7) rfl; have f7 := I1.out.box.free (j := 7) (by decide); have y8 := I2.out.box.at' (j := 8) rfl))
  have PF := put9_own J3.out.1.res ⟨⟨k, key, val, pl, wd, ls, mask, busy, reads⟩, .slice D1 p d1, .slice D2 q d2⟩
  refine bodyPost_ret (results_act rfl rfl (Box9.at9 PF.1)) rfl ⟨_, rfl, rfl, ?_, ?_, Bl.grown J3.out.1.bl PF.2 (fun q hq => J3.out.1.res.base q hq)⟩
  · show Own _ w.heap.size 3 1 (.slice D1 p d1) busy.length (nums busy)
    rw [HP.out]
    exact R5.out.kept PF.2 (Own.neS (by decide) R5.out J3.out.1.res)
  · show Own _ w.heap.size 3 1 (.slice D2 q d2) reads.length (nums reads)
    rw [HQ.out]
    exact R6.out.kept PF.2 (Own.neS (by decide) R6.out J3.out.1.res)
theorem OwnA.app {W W' : World} {B : Nat} {v v' : Value} {ms : List ActM} {m : ActM} (h : OwnA W B v ms) (hb : Own W B 3 1 m.bv m.a.busy.length (nums m.a.busy)) (hr : Own W B 3 1 m.rv m.a.reads.length (nums m.a.reads)) (ho : Own W' B 38 9 v' (ms.length + 1) (flatA ms ++ cellsA m)) (hg : W.grownBy W' v.ownBlock) : OwnA W' B v' (ms ++ [m]) := by
  refine ⟨by rw [flatA_snoc, List.length_append]; exact ho, fun a ha => ?_⟩
  rcases List.mem_append.1 ha with ha | ha
  · exact ⟨(h.2 a ha).1.kept hg (Own.neS (by decide) (h.2 a ha).1 h.1), (h.2 a ha).2.kept hg (Own.neS (by decide) (h.2 a ha).2 h.1)⟩
  · obtain rfl := List.mem_singleton.1 ha
    exact ⟨hb.kept hg (Own.neS (by decide) hb h.1), hr.kept hg (Own.neS (by decide) hr h.1)⟩
theorem OwnA.alloc' {W : World} {B : Nat} {v : Value} {ms : List ActM} (h : OwnA W B v ms) (o : Obj) : OwnA (W.alloc o) B v ms := ⟨h.1.alloc o, fun m hm => ⟨(h.2 m hm).1.alloc o, (h.2 m hm).2.alloc o⟩⟩
theorem map_a_snoc {ms ns : List ActM} {k : Nat} {m : ActM} (h : ns.map (·.a) = (ms.map (·.a)).take k) (hk : k < ms.length) (hm : m.a = (ms.getD k zeroM).a) : (ns ++ [m]).map (·.a) = (ms.map (·.a)).take (k + 1) := by
  have hk' : k < (ms.map (·.a)).length := by rw [List.length_map]; exact hk
  rw [List.map_append, h, List.take_succ_eq_append_getElem hk', List.map_singleton, hm, List.getD_eq_getElem?_getD, List.getElem?_eq_getElem hk, Option.getD_some, List.getElem_map]
set_option maxRecDepth 100000 in
set_option maxHeartbeats 4000000 in
theorem copy_acts (va : Value) (ms : List ActM) (w : World) (hr : RdA w va ms) (hn8 : ms.length * 128 ≤ 140737488355328) (hsz : ∀ m ∈ ms, m.a.busy.length * 8 ≤ 140737488355328 ∧ m.a.reads.length * 8 ≤ 140737488355328) :
    Calls Tryd.prog 7 #[va] w fun e w' => ∃ v ns, e = .returned v ∧ OwnA w' w.heap.size v ns ∧ ns.map (·.a) = ms.map (·.a) ∧ Below w.heap.size w w' := by
  obtain ⟨A, c, rfl⟩ := hr.1.form
  have HR := Lib.hid hr
  have HZ := Lib.hid hsz
  obtain ⟨n, hn⟩ : ∃ n, ms.length = n := ⟨_, rfl⟩
  have HN := Lib.hid hn
  rw [hn] at HR hn8 ⊢
  clear hr hsz hn
  go_enter Tryd.func7, Tryd.ntmps7
  go_wp2_with fail
  go_loopw [3, 4] (fun v3 i wr => ∃ (k : Nat) (ns : List ActM), k ≤ n ∧ i = .int .i64 (k : Int) ∧ OwnA wr w.heap.size v3 ns ∧ ns.length = k ∧ ns.map (·.a) = (ms.map (·.a)).take k ∧ Below w.heap.size w wr) (fun _ i _ => (n - intOf i).toNat)
  case atStart => exact ⟨0, [], by omega, rfl, OwnA.nil _ _, rfl, rfl, Below.refl _ _⟩
  case round =>
    obtain ⟨k, ns, hk, rfl, ho, hlen, hmap, hb⟩ := hrel
    obtain ⟨S0, s0, rfl⟩ := ho.1.slice
    have HL := Lib.hid hlen
    have HO := Lib.hid ho
    have HB := Lib.hid hb
    have HMAP := Lib.hid hmap
    rw [hlen]
    clear ho hb hmap
    by_cases hlt : k < n
    · have hlt2 : (k : Int) < (n : Int) := by omega
      have HRW := Lib.hid (HR.out.below HB.out)
      obtain ⟨b, o, c', hv, _, _, hcc⟩ := HRW.out.1.pos (by rw [HN.out]; omega)
      rw [HN.out] at hv hcc
      obtain ⟨rfl, rfl⟩ := Value.slice.inj hv |> fun h => And.intro h.1 h.2.2
      obtain ⟨g0, g1, g2, g3, g4, g5, g6, g7, g8⟩ := hcc k hlt
      have hmem : ms.getD k zeroM ∈ ms := getD_memM (by rw [HN.out]; exact hlt)
      have hokm := HRW.out.2 _ hmem
      have hszm := HZ.out _ hmem
      have HSN := Lib.hid (fun (m : ActM) (hm : m.a = (ms.getD k zeroM).a) => map_a_snoc (m := m) HMAP.out (by rw [HN.out]; exact hlt) hm)
      obtain ⟨m, hm⟩ : ∃ m, ms.getD k zeroM = m := ⟨_, rfl⟩
      rw [hm] at g0 g1 g2 g3 g4 g5 g6 g7 g8 hokm hszm HSN
      have CA := Lib.hid (copy_act m wr hokm hszm.1 hszm.2)
      have hbytes : (k + 1) * 128 ≤ 140737488355328 := by omega
      have HLT := Lib.hid hlt
      have HM := Lib.hid (show ((n : Int) - ((k : Int) + 1)).toNat < ((n : Int) - (k : Int)).toNat by omega)
      have hokb := hokm.1.form
      have hokr := hokm.2.form
      obtain ⟨⟨mk, key, val, pl, wd, ls, mask, busy, reads⟩, bv, rv⟩ := m
      obtain ⟨bA, bc, rfl⟩ : ∃ A c, bv = .slice A busy.length c := hokb
      obtain ⟨rA, rc, rfl⟩ : ∃ A c, rv = .slice A reads.length c := hokr
      simp only at g0 g1 g2 g3 g4 g5 g6 g7 g8
      simp only [ActM.v] at CA
      clear hv hcc hm hmem hokm hszm hlt
      go_wp2_with (first
        | (at_builtin; refine appO w.heap.size rfl (.tmp 11) (.tmp 17) 22 38 (.agg #[.int .i64 0, .string ⟨#[]⟩, .string ⟨#[]⟩, .int .i64 0, .int .i64 0, .int .i64 0, .string ⟨#[]⟩, .slice none 0 0, .slice none 0 0]) 9 128 rfl Tryd.underlying22 infoAct rfl (by decide) (by decide) (.slice S0 k s0) k (flatA ns) rfl (some ⟨w1.heap.size, 0, none⟩) 1 1 (cellsA ⟨⟨nk, nkey, nval, npl, nwd, nls, nmask, nbusy, nreads⟩, .slice A1 nbusy.length c1', .slice A2 nreads.length c2'⟩) rfl rfl (cellsA_one rfl rfl) (fun h => by cases h) (box_new _ _ _ _ rfl) OW.out GS.out hbytes ?_; intro v3 w3 ho hgw ha; have I3 := Lib.hid (OwnA.app O1.out R1.out R2.out (by rw [HL.out]; exact ho) (by rw [HL.out]; exact hgw)); have B3 := Lib.hid (Bl.grown B2.out hgw (fun q hq => OW.out.base q hq)); obtain ⟨A3, c3, rfl⟩ := ho.slice; clear ho hgw ha)
        | (go_at_call 18; refine CA.out.mono ?_; rintro e w1 ⟨m2, rfl, hma, hbv, hrv, hb1⟩; obtain ⟨⟨nk, nkey, nval, npl, nwd, nls, nmask, nbusy, nreads⟩, nbv, nrv⟩ := m2; have HMA := Lib.hid hma; obtain ⟨A1, c1', rfl⟩ : ∃ A c, nbv = .slice A nbusy.length c := hbv.slice; obtain ⟨A2, c2', rfl⟩ : ∃ A c, nrv = .slice A nreads.length c := hrv.slice; have O1 := Lib.hid ((HO.out.below hb1).alloc' (Obj.cells (cellsA ⟨⟨nk, nkey, nval, npl, nwd, nls, nmask, nbusy, nreads⟩, .slice A1 nbusy.length c1', .slice A2 nreads.length c2'⟩).toArray 38)); have R1 := Lib.hid ((hbv.lower HB.out.size).alloc (Obj.cells (cellsA ⟨⟨nk, nkey, nval, npl, nwd, nls, nmask, nbusy, nreads⟩, .slice A1 nbusy.length c1', .slice A2 nreads.length c2'⟩).toArray 38)); have R2 := Lib.hid ((hrv.lower HB.out.size).alloc (Obj.cells (cellsA ⟨⟨nk, nkey, nval, npl, nwd, nls, nmask, nbusy, nreads⟩, .slice A1 nbusy.length c1', .slice A2 nreads.length c2'⟩).toArray 38)); have OW := Lib.hid (show Own (w1.alloc (Obj.cells (cellsA ⟨⟨nk, nkey, nval, npl, nwd, nls, nmask, nbusy, nreads⟩, .slice A1 nbusy.length c1', .slice A2 nreads.length c2'⟩).toArray 38)) w.heap.size 38 9 (.slice S0 k s0) k (flatA ns) from by have h := O1.out.1; rw [HL.out] at h; exact h); have B2 := Lib.hid (Bl.alloc (Bl.then HB.out hb1) (Obj.cells (cellsA ⟨⟨nk, nkey, nval, npl, nwd, nls, nmask, nbusy, nreads⟩, .slice A1 nbusy.length c1', .slice A2 nreads.length c2'⟩).toArray 38)); have GS := Lib.hid B2.out.size; clear hma hbv hrv hb1; simp only [ActM.v]))
      go_roundw
      case rel => exact ⟨k + 1, _, HLT.out, rfl, I3.out, by rw [List.length_append, HL.out]; rfl, HSN.out _ HMA.out, B3.out⟩
      case measure => exact HM.out
    · obtain rfl : k = n := by omega
      have hd : decide ((k : Int) < (k : Int)) = false := decide_eq_false (by omega)
      go_wp2_with fail
      go_ret
      exact ⟨.slice S0 k s0, rfl, ns, by have h := HO.out; rw [HL.out] at h; exact h, by rw [HMAP.out, List.take_of_length_le (by rw [List.length_map, HN.out]; exact Nat.le_refl _)], HB.out⟩
end Go.Proofs.YtfdbolnifjpbhaaDoor
