/- slices.Insert at pairs. -/
import Derived.Test.YtdgnpoapkjoknaaIdxD
namespace Go.Proofs.Ytdgnpoapkjoknaa
set_option linter.unusedVariables false
set_option linter.unusedSimpArgs false
open Go.RowKit

/-- A block that holds one pair. -/
def OneP (w : World) (g : Nat) (p : PairV) : Prop := w.heap[g]? = some (.cells #[.string p.key, .string p.val] 48 (0, 0))
theorem OneP.cells {w : World} {g : Nat} {p : PairV} (h : OneP w g p) : ∀ j u, (cellsP2 p)[j]? = some u → w.cell? ⟨g, j, none⟩ = some u := by
  intro j u hu
  rw [cell_of_row w g j _ _ _ h]
  match j, hu with
  | 0, hu => simpa [cellsP2] using hu
  | 1, hu => simpa [cellsP2] using hu
theorem OneP.apart {w : World} {g gv : Nat} {p : PairV} (h : OneP w gv p) (hne : g ≠ gv) (arr : Array Value) : OneP (w.setRow g arr) gv p := by
  unfold OneP
  rw [setRow_other w g gv arr (Ne.symm hne)]
  exact h
theorem OneP.new (w : World) (p : PairV) : OneP (w.alloc (Obj.cells #[.string p.key, .string p.val] 48)) w.heap.size p := heap_alloc_new w _

set_option maxRecDepth 100000 in
set_option maxHeartbeats 4000000 in
theorem insert_end (w : World) (B : Nat) (v : Value) (ps : List PairV) (gv : Nat) (p : PairV) (h : OwnP w B v ps) (hx : OneP w gv p) (hbase : B ≤ w.heap.size) (hsz : (ps.length + 1) * 32 ≤ 140737488355328) :
    Calls Try.prog 42 #[v, .int .i64 (ps.length : Int), .slice (some ⟨gv, 0, none⟩) 1 1] w fun e w' =>
      ∃ v', e = .returned v' ∧ OwnP w' B v' (ps ++ [p]) ∧ w.grownBy w' v.ownBlock ∧ (v'.ownBlock = v.ownBlock ∨ v'.ownBlock = some w.heap.size) := by
  have hbig : ps.length ≤ 140737488355328 := by omega
  have hsz2 := hsz
  have h := h
  unfold OwnP at h ⊢
  rw [List.length_append, List.length_singleton, flatP_snoc]
  have hc : ∃ A c, v = .slice A ps.length c ∧ ps.length ≤ c ∧ c ≤ 9223372036854775807 ∧ (A = none ∧ ps.length = 0 ∧ c = 0 ∨ ∃ g, A = some (⟨g, 0, none⟩ : Addr)) := by
    rcases h.2 with ⟨rfl, h0⟩ | ⟨g, cap, cur, fz, rfl, _, _, _, h1, h2, _⟩
    · exact ⟨none, 0, by rw [h0], by omega, by decide, .inl ⟨rfl, h0, rfl⟩⟩
    · exact ⟨_, cap, rfl, h1, by unfold maxLen at h2; omega, .inr ⟨g, rfl⟩⟩
  obtain ⟨A, c, rfl, hc1, hc2, hA⟩ := hc
  obtain ⟨n, hn2⟩ : ∃ n, ps.length = n := ⟨_, rfl⟩
  rw [hn2] at h hsz hc1 hA ⊢
  obtain ⟨A2, hA2⟩ : ∃ A2, (if c = n then A else A.map fun a => ⟨a.block, n * 2, none⟩) = A2 := ⟨_, rfl⟩
  have HO := Lib.hid h
  have HX := Lib.hid hx.cells
  have i1 : (n : Int) ≤ (n : Int) := Int.le_refl _
  clear h hn2 hx hsz2
  rcases hA with ⟨rfl, rfl, rfl⟩ | ⟨g, rfl⟩
  · go_enter Try.func42, Try.ntmps42
    go_wp2_with (at_builtin; refine appO B rfl (.tmp 23) (.tmp 24) 23 48 (.agg #[.string ⟨#[]⟩, .string ⟨#[]⟩]) 2 32 rfl Try.underlying23 infoPair zerosP_cells (by decide) (by decide) (.slice none 0 0) 0 (flatP ps) rfl (some ⟨gv, 0, none⟩) 1 1 (cellsP2 p) rfl rfl (cellsP2_one p) (fun h => by cases h) (fun ad had j u hu => by obtain rfl := Option.some.inj had; rw [Addr.add_lit, Nat.zero_add]; exact HX.out j u hu) HO.out hbase (by omega) ?_; intro v1 w1 ho hg ha; have HO1 := Lib.hid ho; have HG := Lib.hid hg; have HAA := Lib.hid ha; clear ho hg ha)
    go_ret
    exact ⟨_, rfl, HO1.out, HG.out, HAA.out⟩
  · simp only [Option.map_some] at hA2
    go_enter Try.func42, Try.ntmps42
    go_wp2_with (at_builtin; refine appO B rfl (.tmp 23) (.tmp 24) 23 48 (.agg #[.string ⟨#[]⟩, .string ⟨#[]⟩]) 2 32 rfl Try.underlying23 infoPair zerosP_cells (by decide) (by decide) (.slice (some ⟨g, 0, none⟩) n c) n (flatP ps) rfl (some ⟨gv, 0, none⟩) 1 1 (cellsP2 p) rfl rfl (cellsP2_one p) (fun h => by cases h) (fun ad had j u hu => by obtain rfl := Option.some.inj had; rw [Addr.add_lit, Nat.zero_add]; exact HX.out j u hu) HO.out hbase (by omega) ?_; intro v1 w1 ho hg ha; have HO1 := Lib.hid ho; have HG := Lib.hid hg; have HAA := Lib.hid ha; clear ho hg ha)
    go_ret
    exact ⟨_, rfl, HO1.out, HG.out, HAA.out⟩
theorem shape_one {w : World} {g : Nat} {p : PairV} (h : OneP w g p) : w.shape? g = some (48, 2) := by
  unfold OneP at h
  simp [World.shape?, h]
theorem frozen_one {w : World} {g : Nat} {p : PairV} (h : OneP w g p) (j : Nat) : w.frozen? ⟨g, j, none⟩ = false := by
  unfold OneP at h
  simp [World.frozen?, h]
theorem shape_raw {w : World} {g : Nat} {e : TypeId} {cur : Array Value} (h : Raw w g e cur) : w.shape? g = some (e, cur.size) := by
  obtain ⟨fz, hg, hf⟩ := h
  simp [World.shape?, hg]
theorem layA_drop {cur : Array Value} {o k : Nat} {vs : List Value} (h : o ≤ cur.size) (hk : k = o + vs.length) : (layA cur o vs).toList.drop k = cur.toList.drop (o + vs.length) := by
  subst hk
  have e : (cur.toList.take o ++ vs).length = o + vs.length := by rw [List.length_append, List.length_take, Array.length_toList]; omega
  unfold layA
  rw [← e]
  exact List.drop_left
theorem layA_drop_lo {cur : Array Value} {o : Nat} {vs : List Value} (h : o ≤ cur.size) : (layA cur o vs).toList.drop o = vs ++ cur.toList.drop (o + vs.length) := by
  have e : (cur.toList.take o).length = o := by rw [List.length_take, Array.length_toList]; omega
  unfold layA
  rw [List.append_assoc]
  show List.drop o (cur.toList.take o ++ (vs ++ _)) = _
  rw [List.drop_append_of_le_length (by rw [e]; exact Nat.le_refl _), List.drop_eq_nil_of_le (by rw [e]; exact Nat.le_refl _), List.nil_append]
/-- Two pairs of cells in one row, one behind the other. -/
theorem lay_two {cur : Array Value} {i n : Nat} {ps : List PairV} {p : PairV} (hn : ps.length = n) (hi : i ≤ n) (hs : (n + 1) * 2 ≤ cur.size) (ht : cur.toList.take (i * 2) = flatP (ps.take i)) :
    (layA (layA cur ((i + 1) * 2) (flatP (ps.drop i))) (i * 2) (cellsP2 p)).toList.take ((n + 1) * 2) = flatP (ps.take i ++ p :: ps.drop i) := by
  have l1 : (flatP (ps.drop i)).length = (n - i) * 2 := by rw [flatP_len, List.length_drop, hn]
  have z1 : (layA cur ((i + 1) * 2) (flatP (ps.drop i))).size = cur.size := layA_size (by rw [l1]; omega)
  have e1 : (layA (layA cur ((i + 1) * 2) (flatP (ps.drop i))) (i * 2) (cellsP2 p)).toList = cur.toList.take (i * 2) ++ cellsP2 p ++ (flatP (ps.drop i) ++ cur.toList.drop ((i + 1) * 2 + (flatP (ps.drop i)).length)) := by
    rw [← layA_drop_lo (by omega), layA]
    show (layA cur ((i + 1) * 2) (flatP (ps.drop i))).toList.take (i * 2) ++ cellsP2 p ++ (layA cur ((i + 1) * 2) (flatP (ps.drop i))).toList.drop (i * 2 + 2) = _
    rw [layA_take_lo (by omega) (by omega), show i * 2 + 2 = (i + 1) * 2 by omega]
  have e2 : flatP (ps.take i ++ p :: ps.drop i) = cur.toList.take (i * 2) ++ cellsP2 p ++ flatP (ps.drop i) := by
    rw [flatP_app, flatP_cons, ht, List.append_assoc]
  rw [e1, e2, ← List.append_assoc]
  have l2 : (cur.toList.take (i * 2) ++ cellsP2 p ++ flatP (ps.drop i)).length = (n + 1) * 2 := by
    rw [List.length_append, List.length_append, List.length_take, Array.length_toList, l1]
    show min (i * 2) cur.size + 2 + (n - i) * 2 = _
    omega
  rw [← l2]
  exact List.take_left

set_option maxRecDepth 100000 in
set_option maxHeartbeats 4000000 in
theorem insert_room (w : World) (B g n c i : Nat) (ps : List PairV) (gv : Nat) (p : PairV) (h : OwnP w B (.slice (some ⟨g, 0, none⟩) n c) ps) (hi : i < n) (hroom : n + 1 ≤ c) (hx : OneP w gv p) (hne : g ≠ gv) :
    Calls Try.prog 42 #[.slice (some ⟨g, 0, none⟩) n c, .int .i64 (i : Int), .slice (some ⟨gv, 0, none⟩) 1 1] w fun e w' =>
      e = .returned (.slice (some ⟨g, 0, none⟩) (n + 1) c) ∧ OwnP w' B (.slice (some ⟨g, 0, none⟩) (n + 1) c) (ps.take i ++ p :: ps.drop i) ∧ w.grownBy w' (some g) := by
  obtain ⟨cur, hr, hB, hgl, hn, hc1, hc2, hsz, htk⟩ := h.raw
  have hc3 : c ≤ 9223372036854775807 := by unfold maxLen at hc2; omega
  have hdl : (flatP (ps.drop i)).length = (n - i) * 2 := by rw [flatP_len, List.length_drop, hn]
  have hov : ∀ lb cb, (callFunc 57 #[.slice (some ⟨gv, 0, none⟩) 1 1, .slice (some ⟨g, (i + 1) * 2, none⟩) lb cb]).run Try.prog w = .ok (.value (.bool false)) w := fun lb cb => by
    rw [run_callFunc_extern (fn := Try.f57) (by kernel_rfl) (by kernel_rfl) (by kernel_rfl) (by kernel_rfl) (e := Extern.SlicesOverlaps.overlaps #[23, 23] #[4]) (by kernel_rfl),
      Lib.run_overlaps_apart w 23 4 48 Try.underlying23 2 (fun w => by obtain ⟨i0, h0, _, h1, _⟩ := info_parts infoPair; simp [sizeOf, typeInfo, h0, h1]) ⟨gv, 0, none⟩ ⟨g, (i + 1) * 2, none⟩ 1 1 lb cb (Ne.symm hne) 48 48 2 cur.size (shape_one hx) (shape_raw hr) (by omega) (frozen_one hx 0) (frozen_one hx 2)]
    rfl
  have hsrc : ∀ j u, (flatP (ps.drop i))[j]? = some u → w.drew.cell? ((⟨g, i * 2, none⟩ : Addr).add j) = some u := fun j u hu => by
    rw [Addr.add_lit, hr.drew.cell]
    rw [← flatP_drop, List.getElem?_drop, ← htk, List.getElem?_take] at hu
    split at hu
    · simpa using hu
    · cases hu
  have m1 : Nat.min (n + 1 - i) (n - i) = n - i := by simp only [Nat.min_def]; split <;> omega
  have m2 : Nat.min 1 (n + 1 - i) = 1 := by simp only [Nat.min_def]; split <;> omega
  have f1 : (i + 1) * 2 + (flatP (ps.drop i)).length ≤ cur.size := by rw [hdl, hsz]; omega
  have hcp1 : ∀ ty dc sc, (Builtin.copy_ #[23, 23] ty #[.slice (some ⟨g, (i + 1) * 2, none⟩) (n - i) dc, .slice (some ⟨g, i * 2, none⟩) (n + 1 - i) sc]).run Try.prog w.drew = .ok (goInt ((n - i : Nat) : Int)) (w.drew.setRow g (layA cur ((i + 1) * 2) (flatP (ps.drop i)))) := fun ty dc sc => by
    have h := run_copyR (P := Try.prog) w.drew 23 23 ty 48 2 g ((i + 1) * 2) (n - i) dc ⟨g, i * 2, none⟩ (n + 1 - i) sc cur (flatP (ps.drop i)) Try.underlying23 sizePair hr.drew (by rw [m1, hdl]) hsrc f1 (flatP_one _)
    rw [m1] at h
    exact h
  obtain ⟨arr, ha⟩ : ∃ arr, layA cur ((i + 1) * 2) (flatP (ps.drop i)) = arr := ⟨_, rfl⟩
  have hr1 : Raw (w.drew.setRow g arr) g 48 arr := by rw [← ha]; exact hr.drew.set _ _ f1
  have hs1 : arr.size = c * 2 := by rw [← ha, layA_size f1, hsz]
  have f2 : i * 2 + (cellsP2 p).length ≤ arr.size := by rw [hs1]; show i * 2 + 2 ≤ _; omega
  have hx1 : OneP (w.drew.setRow g arr) gv p := OneP.apart (w := w.drew) hx hne arr
  have hcp2 : ∀ ty dc, (Builtin.copy_ #[23, 23] ty #[.slice (some ⟨g, i * 2, none⟩) (n + 1 - i) dc, .slice (some ⟨gv, 0, none⟩) 1 1]).run Try.prog (w.drew.setRow g arr) = .ok (goInt 1) ((w.drew.setRow g arr).setRow g (layA arr (i * 2) (cellsP2 p))) := fun ty dc => by
    have h := run_copyR (P := Try.prog) (w.drew.setRow g arr) 23 23 ty 48 2 g (i * 2) (n + 1 - i) dc ⟨gv, 0, none⟩ 1 1 arr (cellsP2 p) Try.underlying23 sizePair hr1 (by rw [m2]; rfl) (fun j u hu => by rw [Addr.add_lit, Nat.zero_add]; exact hx1.cells j u hu) f2 (cellsP2_one p)
    rw [m2] at h
    exact h
  have hfin : (layA arr (i * 2) (cellsP2 p)).toList.take ((n + 1) * 2) = flatP (ps.take i ++ p :: ps.drop i) := by
    rw [← ha]
    exact lay_two hn (by omega) (by omega) (by rw [← flatP_take, ← htk, List.take_take, Nat.min_eq_left (by omega)])
  have HF := Lib.hid hfin
  have HR1 := Lib.hid hr1
  have HS1 := Lib.hid hs1
  have HF2 := Lib.hid f2
  have HN := Lib.hid hn
  rw [ha] at hcp1
  have i1 : ¬ (i : Int) = (n : Int) := by omega
  have i2 : ((i : Int) == (n : Int)) = false := by rw [beq_eq_false_iff_ne]; exact i1
  have i3 : (i : Int) ≤ (n : Int) := by omega
  have i4 : ¬ (c = i) := by omega
  have i5 : ¬ (c = i + 1) := by omega
  have i6 : (0 : Int) ≤ (i : Int) + 1 := by omega
  have i7 : ((i : Int) + 1).toNat = i + 1 := by omega
  have i8 : (i : Int) + 1 ≤ (n : Int) + 1 := by omega
  have i9 : decide ((c : Int) < (n : Int) + 1) = false := decide_eq_false (by omega)
  have i10 : (n : Int) + 1 ≤ (c : Int) := by omega
  have i11 : (i : Int) ≤ (n : Int) + 1 := by omega
  have i12 : n + 1 ≤ c := hroom
  have i13 : IntKind.i64.wrap ((i : Int) + 1) = (i : Int) + 1 := by rw [IntKind.wrap_i64]; omega
  clear h hr hsrc hdl htk hn ha f1 f2 hx hx1 hfin hr1 hs1 m1 m2 hsz
  go_enter Try.func42, Try.ntmps42
  go_wp2_with (simp only [hov])
  go_region_law (refine step_bin rfl _ _ 23 23 (.slice (some ⟨g, (i + 1) * 2, none⟩) (n - i) (c - (i + 1))) (.slice (some ⟨g, i * 2, none⟩) (n + 1 - i) (c - i)) _ .copy rfl (by simp [Act.eval, Act.put]) (by simp [Act.eval, Act.put]) (hcp1 _ _ _) (.inr rfl) ?_)
  go_wp2_with (at_builtin; refine list_bin rfl (.tmp 80) (.tmp 81) 23 23 (.slice (some ⟨g, i * 2, none⟩) (n + 1 - i) (c - i)) (.slice (some ⟨gv, 0, none⟩) 1 1) _ .copy rfl rfl rfl (hcp2 _ _) (.inr rfl) ?_)
  go_ret
  refine ⟨rfl, ?_, ?_⟩
  · have hl : (ps.take i ++ p :: ps.drop i).length = n + 1 := by rw [List.length_append, List.length_cons, List.length_take, List.length_drop, HN.out]; omega
    have e := OwnP.ofRaw (B := B) (cap := c) (ps := ps.take i ++ p :: ps.drop i) (HR1.out.set (i * 2) (cellsP2 p) HF2.out) hB (by rw [hl]; exact hroom) hc2 (by rw [layA_size HF2.out, HS1.out]) (by rw [hl, HF.out])
    rw [hl] at e
    exact e
  · exact grown2 (grown2 (grown_drew w _) (Raw.grown w.drew g arr)) (Raw.grown _ g _)
theorem Raw.apart {w : World} {g g' : Nat} {e : TypeId} {cur : Array Value} (h : Raw w g e cur) (hne : g ≠ g') (arr : Array Value) : Raw (w.setRow g' arr) g e cur := by
  obtain ⟨fz, hg, hf⟩ := h
  exact ⟨fz, by rw [setRow_other w g' g arr hne]; exact hg, hf⟩
theorem lay_two' {cur : Array Value} {i n : Nat} {ps : List PairV} {p : PairV} (hn : ps.length = n) (hi : i ≤ n) (hs : (n + 1) * 2 ≤ cur.size) (ht : cur.toList.take (i * 2) = flatP (ps.take i)) :
    (layA (layA cur (i * 2) (cellsP2 p)) ((i + 1) * 2) (flatP (ps.drop i))).toList.take ((n + 1) * 2) = flatP (ps.take i ++ p :: ps.drop i) := by
  have l1 : (flatP (ps.drop i)).length = (n - i) * 2 := by rw [flatP_len, List.length_drop, hn]
  have lc : (cellsP2 p).length = 2 := rfl
  have z1 : (layA cur (i * 2) (cellsP2 p)).size = cur.size := layA_size (by rw [lc]; omega)
  rw [layA_take (by rw [z1]; omega) (by rw [l1]; omega), layA_take (by omega) (by rw [lc]; omega), ht, flatP_app, flatP_cons, List.append_assoc]
set_option maxRecDepth 100000 in
set_option maxHeartbeats 4000000 in
theorem insert_grow (w : World) (B g n i : Nat) (ps : List PairV) (gv : Nat) (p : PairV) (h : OwnP w B (.slice (some ⟨g, 0, none⟩) n n) ps) (hi : i < n) (hx : OneP w gv p) (hbase : B ≤ w.heap.size) (hbig : (n + 1) * 32 ≤ 140737488355328) :
    Calls Try.prog 42 #[.slice (some ⟨g, 0, none⟩) n n, .int .i64 (i : Int), .slice (some ⟨gv, 0, none⟩) 1 1] w fun e w' =>
      ∃ c', e = .returned (.slice (some ⟨w.heap.size, 0, none⟩) (n + 1) c') ∧ OwnP w' B (.slice (some ⟨w.heap.size, 0, none⟩) (n + 1) c') (ps.take i ++ p :: ps.drop i) ∧ w.grownBy w' none := by
  obtain ⟨cur, hr, hB, hgl, hn, hc1, hc2, hsz, htk⟩ := h.raw
  have hgw : gv < w.heap.size := (Array.getElem?_eq_some_iff.1 hx).1
  obtain ⟨i0, hi0, hz0, hzs, hzb⟩ := info_parts infoPair
  have hdl : (flatP (ps.drop i)).length = (n - i) * 2 := by rw [flatP_len, List.length_drop, hn]
  have htl : (flatP (ps.take i)).length = i * 2 := by rw [flatP_len, List.length_take, hn, Nat.min_eq_left (by omega)]
  have hold : (Builtin.firstCells i0.size i (.slice (some ⟨g, 0, none⟩) i n)).run Try.prog w.drew = .ok (flatP (ps.take i)).toArray w.drew := by
    rw [hzs]
    exact run_firstCells_some w.drew 2 i ⟨g, 0, none⟩ i n (flatP (ps.take i)) htl (fun j v hj => by
      rw [Addr.add_lit, Nat.zero_add, hr.drew.cell]
      rw [← flatP_take, List.getElem?_take, ← htk, List.getElem?_take] at hj
      split at hj
      · split at hj
        · simpa using hj
        · cases hj
      · cases hj)
  have hik : i + (n + 1 - i) = n + 1 := by omega
  have hkk : (n : Int) + 1 - (i : Int) = ((n + 1 - i : Nat) : Int) := by omega
  obtain ⟨G, hG⟩ : ∃ G, grownCap w (n + 1) n 48 = G := ⟨_, rfl⟩
  obtain ⟨ROW, hROW⟩ : ∃ ROW : Array Value, (flatP (ps.take i)).toArray ++ Builtin.zeroCells (Value.agg #[.string ⟨#[]⟩, .string ⟨#[]⟩]).cells (n + 1 - i) ++ Builtin.zeroCells (Value.agg #[.string ⟨#[]⟩, .string ⟨#[]⟩]).cells (G - (n + 1)) = ROW := ⟨_, rfl⟩
  have hrz : ∀ ty, (Builtin.append_ #[23, 3] ty #[.slice (some ⟨g, 0, none⟩) i n, .int .i64 ((n : Int) + 1 - (i : Int))]).run Try.prog w = .ok (.slice (some ⟨w.heap.size, 0, none⟩) (n + 1) G) (w.drew.alloc (.cells ROW 48)) := fun ty => by
    have h := Lib.run_append_grow_zeros w 23 3 ty 48 i0 _ .i64 .i64 Try.underlying23 Try.underlying3 hi0 hz0 (some ⟨g, 0, none⟩) i n _ hold (n + 1 - i) (by omega) (by omega) (by omega) (by omega) (by rw [hzb]; omega) (by rw [hzb, hik]; exact growslice_fits (by omega) hbig)
    rw [hik, hG, hROW] at h
    rw [hkk]
    exact h
  have hGn : n + 1 ≤ G := by rw [← hG]; exact grownCap_ge w _ _ _
  have hGm : G ≤ maxLen := by rw [← hG]; exact grownCap_le_maxLen w (n + 1) n 48 (by unfold maxLen; omega)
  have hG63 : G ≤ 9223372036854775807 := by unfold maxLen at hGm; omega
  have hRs : ROW.size = G * 2 := by
    rw [← hROW]
    simp only [Array.size_append, List.size_toArray, size_zeroCells, zerosP_cells, htl]
    omega
  have hRt : ROW.toList.take (i * 2) = flatP (ps.take i) := by
    rw [← hROW]
    simp only [Array.toList_append, List.append_assoc]
    rw [← htl]
    exact List.take_left
  obtain ⟨N, hN⟩ : ∃ N, w.heap.size = N := ⟨_, rfl⟩
  have hr1 : Raw (w.drew.alloc (.cells ROW 48)) N 48 ROW := ⟨(0, 0), by rw [← hN]; exact heap_alloc_new w.drew _, .inr rfl⟩
  have hgN : g ≠ N := by omega
  have hvN : N ≠ gv := by omega
  have hx1 : OneP (w.drew.alloc (.cells ROW 48)) gv p := by
    unfold OneP
    rw [heap_alloc_old w.drew _ (show gv < w.drew.heap.size from hgw)]
    exact hx
  have hgr1 : w.grownBy (w.drew.alloc (.cells ROW 48)) none := grown2 (grown_drew w none) ⟨rfl, rfl, rfl, by simp, fun k hk _ => heap_alloc_old w.drew _ hk⟩
  obtain ⟨W1, hW1⟩ : ∃ W1, w.drew.alloc (.cells ROW 48) = W1 := ⟨_, rfl⟩
  rw [hN] at hrz
  rw [hW1] at hrz hr1 hx1 hgr1
  have m1 : Nat.min 1 (n + 1 - i) = 1 := by simp only [Nat.min_def]; split <;> omega
  have m2 : Nat.min (n - i) (n - i) = n - i := by simp only [Nat.min_def]; split <;> omega
  have lc : (cellsP2 p).length = 2 := rfl
  have f1 : i * 2 + (cellsP2 p).length ≤ ROW.size := by rw [lc, hRs]; omega
  have hcpA : ∀ ty dc, (Builtin.copy_ #[23, 23] ty #[.slice (some ⟨N, i * 2, none⟩) (n + 1 - i) dc, .slice (some ⟨gv, 0, none⟩) 1 1]).run Try.prog W1 = .ok (goInt 1) (W1.setRow N (layA ROW (i * 2) (cellsP2 p))) := fun ty dc => by
    have h := run_copyR (P := Try.prog) W1 23 23 ty 48 2 N (i * 2) (n + 1 - i) dc ⟨gv, 0, none⟩ 1 1 ROW (cellsP2 p) Try.underlying23 sizePair hr1 (by rw [m1]; rfl) (fun j u hu => by rw [Addr.add_lit, Nat.zero_add]; exact hx1.cells j u hu) f1 (cellsP2_one p)
    rw [m1] at h
    exact h
  obtain ⟨arr, ha⟩ : ∃ arr, layA ROW (i * 2) (cellsP2 p) = arr := ⟨_, rfl⟩
  have hr2 : Raw (W1.setRow N arr) N 48 arr := by rw [← ha]; exact hr1.set _ _ f1
  have hs2 : arr.size = G * 2 := by rw [← ha, layA_size f1, hRs]
  have hrg : Raw (W1.setRow N arr).drew g 48 cur := by
    refine Raw.drew (Raw.apart (w := W1) ?_ hgN arr)
    obtain ⟨fz, h1, h2⟩ := hr
    refine ⟨fz, ?_, h2⟩
    rw [← hW1, heap_alloc_old w.drew _ (show g < w.drew.heap.size from hgl)]
    exact h1
  have f2 : (i + 1) * 2 + (flatP (ps.drop i)).length ≤ arr.size := by rw [hdl, hs2]; omega
  have hsrc : ∀ j u, (flatP (ps.drop i))[j]? = some u → (W1.setRow N arr).drew.cell? ((⟨g, i * 2, none⟩ : Addr).add j) = some u := fun j u hu => by
    rw [Addr.add_lit, hrg.cell]
    rw [← flatP_drop, List.getElem?_drop, ← htk, List.getElem?_take] at hu
    split at hu
    · simpa using hu
    · cases hu
  have hcpB : ∀ ty dc sc, (Builtin.copy_ #[23, 23] ty #[.slice (some ⟨N, (i + 1) * 2, none⟩) (n - i) dc, .slice (some ⟨g, i * 2, none⟩) (n - i) sc]).run Try.prog (W1.setRow N arr).drew = .ok (goInt ((n - i : Nat) : Int)) ((W1.setRow N arr).drew.setRow N (layA arr ((i + 1) * 2) (flatP (ps.drop i)))) := fun ty dc sc => by
    have h := run_copyR (P := Try.prog) (W1.setRow N arr).drew 23 23 ty 48 2 N ((i + 1) * 2) (n - i) dc ⟨g, i * 2, none⟩ (n - i) sc arr (flatP (ps.drop i)) Try.underlying23 sizePair hr2.drew (by rw [m2, hdl]) hsrc f2 (flatP_one _)
    rw [m2] at h
    exact h
  have hfin : (layA arr ((i + 1) * 2) (flatP (ps.drop i))).toList.take ((n + 1) * 2) = flatP (ps.take i ++ p :: ps.drop i) := by
    rw [← ha]
    exact lay_two' hn (by omega) (by rw [hRs]; omega) hRt
  have HF := Lib.hid hfin
  have HR2 := Lib.hid hr2
  have HS2 := Lib.hid hs2
  have HF2 := Lib.hid f2
  have HNN := Lib.hid hn
  have HGR := Lib.hid hgr1
  have HN2 := Lib.hid hN
  rw [ha] at hcpA
  have i1 : ¬ (i : Int) = (n : Int) := by omega
  have i2 : ((i : Int) == (n : Int)) = false := by rw [beq_eq_false_iff_ne]; exact i1
  have i3 : (i : Int) ≤ (n : Int) := by omega
  have i4 : ¬ (n = i) := by omega
  have i5 : ¬ (G = i) := by omega
  have i5b : ¬ (G = i + 1) := by omega
  have i6 : (0 : Int) ≤ (i : Int) + 1 := by omega
  have i7 : ((i : Int) + 1).toNat = i + 1 := by omega
  have i8 : (i : Int) + 1 ≤ (n : Int) + 1 := by omega
  have i9 : decide ((n : Int) < (n : Int) + 1) = true := decide_eq_true (by omega)
  have i10 : (n : Int) + 1 ≤ (G : Int) := by omega
  have i11 : (i : Int) ≤ (n : Int) + 1 := by omega
  have i12 : n + 1 ≤ G := hGn
  have i13 : IntKind.i64.wrap ((i : Int) + 1) = (i : Int) + 1 := by rw [IntKind.wrap_i64]; omega
  have i14 : (n : Int) < (n : Int) + 1 := by omega
  rw [hN]
  clear h hr hsrc hdl htk hn ha f1 f2 hx hx1 hfin hr1 hr2 hs2 m1 m2 hsz hRs hRt hold hik hkk hrg hgr1 hW1 hG hROW hN htl lc
  go_enter Try.func42, Try.ntmps42
  go_wp2_with (first
    | (at_builtin; refine list_bin rfl (.tmp 43) (.tmp 44) 23 23 (.slice (some ⟨N, i * 2, none⟩) (n + 1 - i) (G - i)) (.slice (some ⟨gv, 0, none⟩) 1 1) _ .copy rfl rfl rfl (hcpA _ _) (.inr rfl) ?_)
    | (at_builtin; refine list_bin rfl (.tmp 34) (.tmp 39) 23 3 (.slice (some ⟨g, 0, none⟩) i n) (.int .i64 ((n : Int) + 1 - (i : Int))) _ .append rfl rfl rfl (hrz _) (.inl rfl) ?_))
  go_region_law (refine step_bin rfl _ _ 23 23 (.slice (some ⟨N, (i + 1) * 2, none⟩) (n - i) (G - (i + 1))) (.slice (some ⟨g, i * 2, none⟩) (n - i) (n - i)) _ .copy rfl (by simp [Act.eval, Act.put]) (by simp [Act.eval, Act.put]) (hcpB _ _ _) (.inr rfl) ?_)
  go_wp2_with fail
  go_ret
  refine ⟨G, rfl, ?_, ?_⟩
  · have hl : (ps.take i ++ p :: ps.drop i).length = n + 1 := by rw [List.length_append, List.length_cons, List.length_take, List.length_drop, HNN.out]; omega
    have e := OwnP.ofRaw (B := B) (cap := G) (ps := ps.take i ++ p :: ps.drop i) (HR2.out.drew.set ((i + 1) * 2) (flatP (ps.drop i)) HF2.out) (by rw [← HN2.out]; exact hbase) (by rw [hl]; exact hGn) hGm (by rw [layA_size HF2.out, HS2.out]) (by rw [hl, HF.out])
    rw [hl] at e
    exact e
  · have q : ∀ (W : World) (arr : Array Value), w.grownBy W none → w.grownBy (W.setRow N arr) none := fun W arr h => by
      have h2 := Raw.grown W N arr
      exact ⟨h2.os.trans h.os, h2.tape.trans h.tape, h2.output.trans h.output, Nat.le_trans h.size h2.size, fun k hk hne => (h2.block k (Nat.lt_of_lt_of_le hk h.size) (fun e => by rw [HN2.out] at hk; simp at e; omega)).trans (h.block k hk hne)⟩
    exact q _ _ (grown2 (q _ _ HGR.out) (grown_drew _ _))
/-- slices.Insert of one pair, whatever the place. -/
theorem pairs_insert (w : World) (B : Nat) (v : Value) (ps : List PairV) (i gv : Nat) (p : PairV) (h : OwnP w B v ps) (hi : i ≤ ps.length) (hx : OneP w gv p) (hne : v.ownBlock ≠ some gv) (hbase : B ≤ w.heap.size) (hsz : (ps.length + 1) * 32 ≤ 140737488355328) :
    Calls Try.prog 42 #[v, .int .i64 (i : Int), .slice (some ⟨gv, 0, none⟩) 1 1] w fun e w' =>
      ∃ v', e = .returned v' ∧ OwnP w' B v' (ps.take i ++ p :: ps.drop i) ∧ w.grownBy w' v.ownBlock := by
  by_cases hin : i = ps.length
  · subst hin
    refine (insert_end w B v ps gv p h hx hbase hsz).mono ?_
    rintro e w' ⟨v', rfl, ho, hg, _⟩
    refine ⟨v', rfl, ?_, hg⟩
    rw [List.take_length, List.drop_length]
    exact ho
  · obtain ⟨n, hn⟩ : ∃ n, ps.length = n := ⟨_, rfl⟩
    have hl : i < n := by omega
    rcases h.2 with ⟨rfl, h0⟩ | ⟨g, cap, cur, fz, rfl, hb, hg, hf, h1, h2, h3, h4⟩
    · omega
    · rw [hn] at h h1 hsz ⊢
      by_cases hroom : n + 1 ≤ cap
      · refine (insert_room w B g n cap i ps gv p h hl hroom hx (fun e => hne (by simp [Value.ownBlock, e]))).mono ?_
        rintro e w' ⟨rfl, ho, hgr⟩
        exact ⟨_, rfl, ho, hgr⟩
      · obtain rfl : cap = n := by omega
        refine (insert_grow w B g cap i ps gv p h hl hx hbase hsz).mono ?_
        rintro e w' ⟨c', rfl, ho, hgr⟩
        exact ⟨_, rfl, ho, ⟨hgr.os, hgr.tape, hgr.output, hgr.size, fun k hk _ => hgr.block k hk (by simp)⟩⟩
end Go.Proofs.Ytdgnpoapkjoknaa
