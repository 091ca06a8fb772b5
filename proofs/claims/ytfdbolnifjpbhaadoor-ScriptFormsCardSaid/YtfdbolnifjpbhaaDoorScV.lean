/- script: one act that stands in a text: the walk. -/
import Derived.Test.YtfdbolnifjpbhaaDoorScT
import Derived.Test.YtfdbolnifjpbhaaDoorScL
import Derived.Test.YtfdbolnifjpbhaaDoorShelf
namespace Go.Proofs.YtfdbolnifjpbhaaDoor
set_option linter.unusedVariables false
set_option linter.unusedSimpArgs false
open Go.RowKit

def zero9 : List Value := cellsA zeroM
/-- What stands as an act is read. -/
structure OneI (w : World) (B g ga : Nat) (s : ByteArray) (m : ActM) (j : Nat) (l : Bool) (W : World) : Prop where
  res : Own W w.heap.size 38 1 (.slice (some ⟨w.heap.size, 0, none⟩) 9 9) 9 zero9
  box : Own W w.heap.size 38 1 (.slice (some ⟨ga, 0, none⟩) 9 9) 9 (cellsA m)
  bv : Own W w.heap.size 3 1 m.bv m.a.busy.length (nums m.a.busy)
  rv : Own W w.heap.size 3 1 m.rv m.a.reads.length (nums m.a.reads)
  wk : WkB W B g s j l
  gr : w.grownBy W (some g)
  ne : ga ≠ w.heap.size
section
variable {w : World} {B g ga : Nat} {s : ByteArray} {m : ActM} {j : Nat} {l : Bool} {W : World}
theorem OneI.alloc (h : OneI w B g ga s m j l W) (o : Obj) : OneI w B g ga s m j l (W.alloc o) :=
  ⟨h.res.alloc o, h.box.alloc o, h.bv.alloc o, h.rv.alloc o, Own.alloc h.wk o, grown_alloc h.gr o, h.ne⟩
theorem OneI.step (h : OneI w B g ga s m j l W) {W' : World} {j' : Nat} {l' : Bool} (hb : WkB W' B g s j' l') (hg : W.grownBy W' (some g)) : OneI w B g ga s m j' l' W' :=
  ⟨h.res.kept hg (Own.neS (by decide) h.res h.wk), h.box.kept hg (Own.neS (by decide) h.box h.wk), h.bv.kept hg (Own.neS (by decide) h.bv h.wk), h.rv.kept hg (Own.neS (by decide) h.rv h.wk), hb, h.gr.trans hg, h.ne⟩
theorem OneI.put (h : OneI w B g ga s m j l W) (o : Nat) (v : Value) (m' : ActM) (hc : cellsA m' = (cellsA m).set o v) (hb : Own W w.heap.size 3 1 m'.bv m'.a.busy.length (nums m'.a.busy)) (hr : Own W w.heap.size 3 1 m'.rv m'.a.reads.length (nums m'.a.reads)) : OneI w B g ga s m' j l (W.setCell ⟨ga, o, none⟩ v) := by
  obtain ⟨k1, k2⟩ := h.box.stored o v
  refine ⟨h.res.kept k2 (.inr fun e => h.ne (by simpa [Value.ownBlock] using e.symm)), ?_, hb.kept k2 (Own.neS (by decide) hb h.box), hr.kept k2 (Own.neS (by decide) hr h.box), Own.kept h.wk k2 (Own.neS (by decide) h.wk h.box), h.gr.andThen k2 (fun q hq => .inl ?_), h.ne⟩
  · rw [hc]; exact k1
  · have := h.box.base q hq; exact this
/-- Pointers that stand in a row. -/
def PtrA (W : World) (gp n : Nat) (ty : TypeId) (ps : List Value) : Prop := Own W 0 ty 1 (.slice (some ⟨gp, 0, none⟩) n n) n ps
theorem PtrA.new (W : World) (n : Nat) (ty : TypeId) (ps : List Value) (hn : ps.length = n) (hm : n ≤ maxLen) : PtrA (W.alloc (Obj.cells ps.toArray ty)) W.heap.size n ty ps :=
  Own.lower (B := W.heap.size) ⟨by omega, .inr ⟨W.heap.size, n, ps.toArray, (0, 0), rfl, Nat.le_refl _, heap_alloc_new W _, .inr rfl, Nat.le_refl _, hm, by simpa using hn, by simp [← hn]⟩⟩ (Nat.zero_le _)
theorem PtrA.step {gp n : Nat} {ty : TypeId} {ps : List Value} {W' : World} (h : PtrA W gp n ty ps) (hne : ty ≠ 54) (hw : WkB W B g s j l) (hg : W.grownBy W' (some g)) : PtrA W' gp n ty ps :=
  Own.kept h hg (Own.neS hne h hw)
theorem PtrA.put {gp n : Nat} {ty : TypeId} {ps : List Value} (h : PtrA W gp n ty ps) (hne : ty ≠ 38) (hb : OneI w B g ga s m j l W) (o : Nat) (v : Value) : PtrA (W.setCell ⟨ga, o, none⟩ v) gp n ty ps :=
  Own.kept h (hb.box.stored o v).2 (Own.neS hne h hb.box)
end
theorem load_act {W : World} {g : Nat} {a b c d e f x y z : Value} (h0 : W.cell? ⟨g, 0, none⟩ = some a) (h1 : W.cell? ⟨g, 1, none⟩ = some b) (h2 : W.cell? ⟨g, 2, none⟩ = some c) (h3 : W.cell? ⟨g, 3, none⟩ = some d) (h4 : W.cell? ⟨g, 4, none⟩ = some e) (h5 : W.cell? ⟨g, 5, none⟩ = some f) (h6 : W.cell? ⟨g, 6, none⟩ = some x) (h7 : W.cell? ⟨g, 7, none⟩ = some y) (h8 : W.cell? ⟨g, 8, none⟩ = some z) :
    (loadVar 38 ⟨g, 0, none⟩).run Tryd.prog W = .ok (.agg #[a, b, c, d, e, f, x, y, z]) W := by
  go_simp
theorem results_act {fn : Func} {p : Tmp} {tmps : Array Value} {W : World} {g : Nat} {m : ActM} (h : fn.results = #[.cell p 38]) (hp : tmps.getD p undef = .pointer (some ⟨g, 0, none⟩)) (h9 : At9 W g 0 m) :
    (results fn tmps).run Tryd.prog W = .ok m.v W := by
  have hp' : tmps[p]?.getD undef = .pointer (some ⟨g, 0, none⟩) := by simpa using hp
  simp [results, h, hp', asAddr, load_act h9.1 h9.2.1 h9.2.2.1 h9.2.2.2.1 h9.2.2.2.2.1 h9.2.2.2.2.2.1 h9.2.2.2.2.2.2.1 h9.2.2.2.2.2.2.2.1 h9.2.2.2.2.2.2.2.2, ActM.v]
/-- The nine cells of an act laid at a place. -/
def put9 (W : World) (r : Nat) (m : ActM) : World :=
  ((((((((W.setCell ⟨r, 0, none⟩ (.int .i64 m.a.k)).setCell ⟨r, 1, none⟩ (.string m.a.key)).setCell ⟨r, 2, none⟩ (.string m.a.val)).setCell ⟨r, 3, none⟩ (.int .i64 m.a.pl)).setCell ⟨r, 4, none⟩ (.int .i64 m.a.wd)).setCell ⟨r, 5, none⟩ (.int .i64 m.a.ls)).setCell ⟨r, 6, none⟩ (.string m.a.mask)).setCell ⟨r, 7, none⟩ m.bv).setCell ⟨r, 8, none⟩ m.rv
theorem put9_own {W : World} {B r : Nat} (h : Own W B 38 1 (.slice (some ⟨r, 0, none⟩) 9 9) 9 zero9) (m : ActM) : Box9 (put9 W r m) B r m ∧ W.grownBy (put9 W r m) (some r) := by
  obtain ⟨h0, g0⟩ := h.stored 0 (.int .i64 m.a.k)
  obtain ⟨h1, g1⟩ := h0.stored 1 (.string m.a.key)
  obtain ⟨h2, g2⟩ := h1.stored 2 (.string m.a.val)
  obtain ⟨h3, g3⟩ := h2.stored 3 (.int .i64 m.a.pl)
  obtain ⟨h4, g4⟩ := h3.stored 4 (.int .i64 m.a.wd)
  obtain ⟨h5, g5⟩ := h4.stored 5 (.int .i64 m.a.ls)
  obtain ⟨h6, g6⟩ := h5.stored 6 (.string m.a.mask)
  obtain ⟨h7, g7⟩ := h6.stored 7 m.bv
  obtain ⟨h8, g8⟩ := h7.stored 8 m.rv
  exact ⟨h8, (((((((g0.trans g1).trans g2).trans g3).trans g4).trans g5).trans g6).trans g7).trans g8⟩
theorem OneI.fin {w : World} {B g ga : Nat} {s : ByteArray} {m : ActM} {j : Nat} {l : Bool} {W : World} (h : OneI w B g ga s m j l W) :
    At9 (put9 W w.heap.size m) w.heap.size 0 m ∧ Own (put9 W w.heap.size m) w.heap.size 3 1 m.bv m.a.busy.length (nums m.a.busy) ∧ Own (put9 W w.heap.size m) w.heap.size 3 1 m.rv m.a.reads.length (nums m.a.reads) ∧ WkB (put9 W w.heap.size m) B g s j l ∧ w.grownBy (put9 W w.heap.size m) (some g) := by
  obtain ⟨h1, h2⟩ := put9_own h.res m
  exact ⟨Box9.at9 h1, h.bv.kept h2 (Own.neS (by decide) h.bv h.res), h.rv.kept h2 (Own.neS (by decide) h.rv h.res), Own.kept h.wk h2 (Own.neS (by decide) h.wk h.res), h.gr.andThen h2 (fun q hq => .inl (h.res.base q hq))⟩
set_option maxRecDepth 100000 in
set_option maxHeartbeats 8000000 in
theorem one_w (B g : Nat) (s : ByteArray) (i : Nat) (w : World) (h : WkB w B g s i false) (hs : s.size ≤ 140737488355328) (hi : i < s.size) :
    Calls Tryd.prog 24 #[.pointer (some ⟨g, 0, none⟩)] w fun e w' => ∃ m : ActM, e = .returned m.v ∧ m.a = (oneR (walkR s) s i).1 ∧ Own w' w.heap.size 3 1 m.bv m.a.busy.length (nums m.a.busy) ∧ Own w' w.heap.size 3 1 m.rv m.a.reads.length (nums m.a.reads) ∧ WkB w' B g s (oneR (walkR s) s i).2.1 (oneR (walkR s) s i).2.2 ∧ w.grownBy w' (some g) := by
  have HB := Lib.hid h
  have NX := Lib.hid (fun (W : World) (h : WkB W B g s i false) => next_any g s i W (h.at' (j := 0) rfl) (h.at' (j := 1) rfl) (by omega))
  obtain ⟨kd, hkd⟩ : ∃ kd, kindOf (nextB s i) = kd := ⟨_, rfl⟩
  have SI := Lib.hid (fun (W : World) => show Calls Tryd.prog 35 #[.string ⟨#[102, 109, 112, 103, 100, 108, 98, 120]⟩, .int .u8 ((nextB s i).toNat : Int)] W fun e w' => e = .returned (.int .i64 kd) ∧ w' = W from by
    have h := Tryd.strings_IndexByte ⟨#[102, 109, 112, 103, 100, 108, 98, 120]⟩ ((nextB s i).toNat : Int) W
    have e1 : ((nextB s i).toNat : Int).toNat.toUInt8 = nextB s i := by rw [Int.toNat_natCast]; exact UInt8.ofNat_toNat
    rw [e1] at h
    rw [← hkd]
    exact h)
  have w5 : wrap64 ((i : Int) + 1) = (i : Int) + 1 := IntWalk.wrap64_in _ ⟨by omega, by omega⟩
  have FA := walkR_far s
  obtain ⟨⟨x1, j1, l1⟩, e1⟩ : ∃ t, numW s 44 (i + 1) false = t := ⟨_, rfl⟩
  have a1 : (numW s 44 (i + 1) false).2.1 ≤ i + 1 + 7 := (FA.num _ _).2
  obtain ⟨⟨x2, j2, l2⟩, e2⟩ : ∃ t, numW s 44 j1 l1 = t := ⟨_, rfl⟩
  have a2 : (numW s 44 j1 l1).2.1 ≤ j1 + 7 := (FA.num _ _).2
  obtain ⟨⟨x3, j3, l3⟩, e3⟩ : ∃ t, numW s 44 j2 l2 = t := ⟨_, rfl⟩
  have a3 : (numW s 44 j2 l2).2.1 ≤ j2 + 7 := (FA.num _ _).2
  obtain ⟨⟨bs, j4, l4⟩, e4⟩ : ∃ t, rowW s j3 l3 = t := ⟨_, rfl⟩
  have a4 : (rowW s j3 l3).2.1 ≤ j3 + 126 := (FA.row _ _).2
  obtain ⟨⟨rs, j5, l5⟩, e5⟩ : ∃ t, rowW s j4 l4 = t := ⟨_, rfl⟩
  have a5 : (rowW s j4 l4).2.1 ≤ j4 + 126 := (FA.row _ _).2
  obtain ⟨⟨t6, j6, l6⟩, e6⟩ : ∃ t, wordG s (numW s 58) j5 l5 = t := ⟨_, rfl⟩
  have a6 : (wordG s (numW s 58) j5 l5).2.1 ≤ max (j5 + 7) s.size := (FA.word _ _).2
  obtain ⟨⟨t7, j7, l7⟩, e7⟩ : ∃ t, wordG s (numW s 58) j6 l6 = t := ⟨_, rfl⟩
  have a7 : (wordG s (numW s 58) j6 l6).2.1 ≤ max (j6 + 7) s.size := (FA.word _ _).2
  obtain ⟨⟨t8, j8, l8⟩, e8⟩ : ∃ t, wordG s (numW s 58) j7 l7 = t := ⟨_, rfl⟩
  have hone : oneR (walkR s) s i = (⟨kd, t6, t7, x1, x2, x3, t8, bs, rs⟩, j8, l8) := by
    unfold oneR walkR
    simp only [e1, e2, e3, e4, e5, e6, e7, e8, hkd]
  rw [hone]
  rw [e1] at a1; rw [e2] at a2; rw [e3] at a3; rw [e4] at a4; rw [e5] at a5; rw [e6] at a6; rw [e7] at a7
  simp only at a1 a2 a3 a4 a5 a6 a7
  have N1 := Lib.hid (fun (W : World) (hb : WkB W B g s (i + 1) false) => number_w B g s (i + 1) false 44 W hb hs (by omega))
  have N2 := Lib.hid (fun (W : World) (hb : WkB W B g s j1 l1) => number_w B g s j1 l1 44 W hb hs (by omega))
  have N3 := Lib.hid (fun (W : World) (hb : WkB W B g s j2 l2) => number_w B g s j2 l2 44 W hb hs (by omega))
  have N4 := Lib.hid (fun (W : World) (hb : WkB W B g s j3 l3) => row_w B g s j3 l3 W hb hs (by omega))
  have N5 := Lib.hid (fun (W : World) (hb : WkB W B g s j4 l4) => row_w B g s j4 l4 W hb hs (by omega))
  have N6 := Lib.hid (fun (W : World) (hb : WkB W B g s j5 l5) => word_w B g s j5 l5 W hb hs (by omega))
  have N7 := Lib.hid (fun (W : World) (hb : WkB W B g s j6 l6) => word_w B g s j6 l6 W hb hs (by omega))
  have N8 := Lib.hid (fun (W : World) (hb : WkB W B g s j7 l7) => word_w B g s j7 l7 W hb hs (by omega))
  rw [e1] at N1; rw [e2] at N2; rw [e3] at N3; rw [e4] at N4; rw [e5] at N5; rw [e6] at N6; rw [e7] at N7; rw [e8] at N8
  simp only at N1 N2 N3 N4 N5 N6 N7 N8
  clear FA a1 a2 a3 a4 a5 a6 a7 e1 e2 e3 e4 e5 e6 e7 e8 hone hkd
  have hi5 : i ≤ 140737488355328 := by omega
  clear hi
  clear h
  go_enter Tryd.func24, Tryd.ntmps24
  go_wp2_with (first
    | (go_at_call 35; refine (SI.out _).mono ?_; rintro e w2 ⟨rfl, rfl⟩; have O2 := Lib.hid (show OneI w B g w2.heap.size s ⟨⟨kd, nilB', nilB', 0, 0, 0, nilB', [], []⟩, .slice none 0 0, .slice none 0 0⟩ i false (w2.alloc (Obj.cells #[.int .i64 kd, .string ⟨#[]⟩, .string ⟨#[]⟩, .int .i64 0, .int .i64 0, .int .i64 0, .string ⟨#[]⟩, .slice none 0 0, .slice none 0 0] 38)) from ⟨RES1.out.alloc _, (Own.lower (B := w2.heap.size) ⟨rfl, .inr ⟨_, 9, _, (0, 0), rfl, Nat.le_refl _, heap_alloc_new _ _, .inr rfl, Nat.le_refl _, by decide, rfl, rfl⟩⟩ GR1.out.size), Own.nil _ _ _ _, Own.nil _ _ _ _, Own.alloc HB1.out _, grown_alloc GR1.out _, NE1.out⟩); have c1 := O2.out.wk.at' (j := 1) rfl; have f1 := O2.out.wk.free (j := 1) (by decide))
    | (go_at_call 36; refine (NX.out _ (Own.alloc HB.out _)).mono ?_; rintro e w1 ⟨rfl, q1, rfl⟩; have HB1 := Lib.hid (Own.drewK (Own.alloc HB.out (Obj.cells #[.int .i64 0, .string ⟨#[]⟩, .string ⟨#[]⟩, .int .i64 0, .int .i64 0, .int .i64 0, .string ⟨#[]⟩, .slice none 0 0, .slice none 0 0] 38)) q1); have GR1 := Lib.hid (grown_drew (grown_alloc (grown_refl w (some g)) (Obj.cells #[.int .i64 0, .string ⟨#[]⟩, .string ⟨#[]⟩, .int .i64 0, .int .i64 0, .int .i64 0, .string ⟨#[]⟩, .slice none 0 0, .slice none 0 0] 38)) q1); have RES1 := Lib.hid (show Own ((w.alloc (Obj.cells #[.int .i64 0, .string ⟨#[]⟩, .string ⟨#[]⟩, .int .i64 0, .int .i64 0, .int .i64 0, .string ⟨#[]⟩, .slice none 0 0, .slice none 0 0] 38)).drewN q1) w.heap.size 38 1 (.slice (some ⟨w.heap.size, 0, none⟩) 9 9) 9 zero9 from ⟨rfl, .inr ⟨w.heap.size, 9, _, (0, 0), rfl, Nat.le_refl _, heap_alloc_new w _, .inr rfl, Nat.le_refl _, by decide, rfl, rfl⟩⟩); have NE1 := Lib.hid (show ((w.alloc (Obj.cells #[.int .i64 0, .string ⟨#[]⟩, .string ⟨#[]⟩, .int .i64 0, .int .i64 0, .int .i64 0, .string ⟨#[]⟩, .slice none 0 0, .slice none 0 0] 38)).drewN q1).heap.size ≠ w.heap.size from by rw [World.drewN]; simp); generalize (w.alloc (Obj.cells #[.int .i64 0, .string ⟨#[]⟩, .string ⟨#[]⟩, .int .i64 0, .int .i64 0, .int .i64 0, .string ⟨#[]⟩, .slice none 0 0, .slice none 0 0] 38)).drewN q1 = W1 at HB1 GR1 RES1 NE1 ⊢))
  have K3 := Lib.hid (show WkB ((w2.alloc (Obj.cells #[.int .i64 kd, .string ⟨#[]⟩, .string ⟨#[]⟩, .int .i64 0, .int .i64 0, .int .i64 0, .string ⟨#[]⟩, .slice none 0 0, .slice none 0 0] 38)).setCell ⟨g, 1, none⟩ (.int .i64 ((i : Int) + 1))) B g s (i + 1) false from (O2.out.wk.stored 1 (.int .i64 ((i : Int) + 1))).1)
  have O3 := Lib.hid (O2.out.step (j' := i + 1) (l' := false) K3.out (O2.out.wk.stored 1 (.int .i64 ((i : Int) + 1))).2)
  have HZ3 := Lib.hid (show ((w2.alloc (Obj.cells #[.int .i64 kd, .string ⟨#[]⟩, .string ⟨#[]⟩, .int .i64 0, .int .i64 0, .int .i64 0, .string ⟨#[]⟩, .slice none 0 0, .slice none 0 0] 38)).setCell ⟨g, 1, none⟩ (.int .i64 ((i : Int) + 1))).heap.size = w2.heap.size + 1 from by simp)
  clear c1 f1
  generalize (w2.alloc (Obj.cells #[.int .i64 kd, .string ⟨#[]⟩, .string ⟨#[]⟩, .int .i64 0, .int .i64 0, .int .i64 0, .string ⟨#[]⟩, .slice none 0 0, .slice none 0 0] 38)).setCell ⟨g, 1, none⟩ (.int .i64 ((i : Int) + 1)) = W3 at O3 HZ3 ⊢
  have P4 := Lib.hid (PtrA.new W3 3 73 [.pointer (some ⟨w2.heap.size, 3, none⟩), .pointer (some ⟨w2.heap.size, 4, none⟩), .pointer (some ⟨w2.heap.size, 5, none⟩)] rfl (by decide))
  rw [HZ3.out] at P4
  have O4 := Lib.hid (O3.out.alloc (Obj.cells #[.pointer (some ⟨w2.heap.size, 3, none⟩), .pointer (some ⟨w2.heap.size, 4, none⟩), .pointer (some ⟨w2.heap.size, 5, none⟩)] 73))
  change Hid (OneI w B g w2.heap.size s _ (i + 1) false _) at O4
  change Hid (PtrA (W3.alloc (Obj.cells #[.pointer (some ⟨w2.heap.size, 3, none⟩), .pointer (some ⟨w2.heap.size, 4, none⟩), .pointer (some ⟨w2.heap.size, 5, none⟩)] 73)) _ _ _ _) at P4
  generalize W3.alloc (Obj.cells #[.pointer (some ⟨w2.heap.size, 3, none⟩), .pointer (some ⟨w2.heap.size, 4, none⟩), .pointer (some ⟨w2.heap.size, 5, none⟩)] 73) = W4 at O4 P4 ⊢
  generalize w2.heap.size = ga at O4 P4 ⊢
  clear K3 O2 O3 HZ3 HB1 RES1 NE1 GR1
  go_loopw [26] (fun v26 wr => PtrA wr (ga + 1) 3 73 [.pointer (some ⟨ga, 3, none⟩), .pointer (some ⟨ga, 4, none⟩), .pointer (some ⟨ga, 5, none⟩)] ∧ ((v26 = .int .i64 0 ∧ (OneI w B g ga s (⟨⟨kd, nilB', nilB', 0, 0, 0, nilB', [], []⟩, .slice none 0 0, .slice none 0 0⟩ : ActM) (i + 1) false wr)) ∨ (v26 = .int .i64 1 ∧ (OneI w B g ga s (⟨⟨kd, nilB', nilB', (x1 : Int), 0, 0, nilB', [], []⟩, .slice none 0 0, .slice none 0 0⟩ : ActM) j1 l1 wr)) ∨ (v26 = .int .i64 2 ∧ (OneI w B g ga s (⟨⟨kd, nilB', nilB', (x1 : Int), (x2 : Int), 0, nilB', [], []⟩, .slice none 0 0, .slice none 0 0⟩ : ActM) j2 l2 wr)) ∨ (v26 = .int .i64 3 ∧ (OneI w B g ga s (⟨⟨kd, nilB', nilB', (x1 : Int), (x2 : Int), (x3 : Int), nilB', [], []⟩, .slice none 0 0, .slice none 0 0⟩ : ActM) j3 l3 wr)))) (fun v26 wr => 3 - (intOf v26).toNat)
  case atStart => exact ⟨P4.out, .inl ⟨rfl, O4.out⟩⟩
  case round =>
    obtain ⟨hP, ⟨rfl, hO⟩ | ⟨rfl, hO⟩ | ⟨rfl, hO⟩ | ⟨rfl, hO⟩⟩ := hrel
    · have HO := Lib.hid hO
      have HP := Lib.hid hP
      have p0 := hP.at' (j := 0) rfl
      clear hO hP O4 P4
      go_wp2_with (go_at_call 37; refine (N1.out _ HO.out.wk).mono ?_; rintro e w5 ⟨rfl, hb, hg⟩; have O5 := Lib.hid (HO.out.step hb hg); have P5 := Lib.hid (PtrA.step HP.out (by decide) HO.out.wk hg); clear hb hg; have y5 := O5.out.box.at' (j := 3) rfl; have f5 := O5.out.box.free (j := 3) (by decide))
      have O6 := O5.out.put 3 (.int .i64 (x1 : Int)) (⟨⟨kd, nilB', nilB', (x1 : Int), 0, 0, nilB', [], []⟩, .slice none 0 0, .slice none 0 0⟩ : ActM) rfl O5.out.bv O5.out.rv
      have P6 := PtrA.put P5.out (by decide) O5.out 3 (.int .i64 (x1 : Int))
      go_roundw
      case rel => exact ⟨P6, .inr (.inl (⟨rfl, O6⟩))⟩
      case measure => simp [intOf]
    · have HO := Lib.hid hO
      have HP := Lib.hid hP
      have p0 := hP.at' (j := 1) rfl
      clear hO hP O4 P4
      go_wp2_with (go_at_call 37; refine (N2.out _ HO.out.wk).mono ?_; rintro e w5 ⟨rfl, hb, hg⟩; have O5 := Lib.hid (HO.out.step hb hg); have P5 := Lib.hid (PtrA.step HP.out (by decide) HO.out.wk hg); clear hb hg; have y5 := O5.out.box.at' (j := 4) rfl; have f5 := O5.out.box.free (j := 4) (by decide))
      have O6 := O5.out.put 4 (.int .i64 (x2 : Int)) (⟨⟨kd, nilB', nilB', (x1 : Int), (x2 : Int), 0, nilB', [], []⟩, .slice none 0 0, .slice none 0 0⟩ : ActM) rfl O5.out.bv O5.out.rv
      have P6 := PtrA.put P5.out (by decide) O5.out 4 (.int .i64 (x2 : Int))
      go_roundw
      case rel => exact ⟨P6, .inr (.inr (.inl (⟨rfl, O6⟩)))⟩
      case measure => simp [intOf]
    · have HO := Lib.hid hO
      have HP := Lib.hid hP
      have p0 := hP.at' (j := 2) rfl
      clear hO hP O4 P4
      go_wp2_with (go_at_call 37; refine (N3.out _ HO.out.wk).mono ?_; rintro e w5 ⟨rfl, hb, hg⟩; have O5 := Lib.hid (HO.out.step hb hg); have P5 := Lib.hid (PtrA.step HP.out (by decide) HO.out.wk hg); clear hb hg; have y5 := O5.out.box.at' (j := 5) rfl; have f5 := O5.out.box.free (j := 5) (by decide))
      have O6 := O5.out.put 5 (.int .i64 (x3 : Int)) (⟨⟨kd, nilB', nilB', (x1 : Int), (x2 : Int), (x3 : Int), nilB', [], []⟩, .slice none 0 0, .slice none 0 0⟩ : ActM) rfl O5.out.bv O5.out.rv
      have P6 := PtrA.put P5.out (by decide) O5.out 5 (.int .i64 (x3 : Int))
      go_roundw
      case rel => exact ⟨P6, .inr (.inr (.inr (⟨rfl, O6⟩)))⟩
      case measure => simp [intOf]
    · have HO := Lib.hid hO
      clear hO hP O4 P4
      go_wp2_with fail
      have P4 := Lib.hid (show PtrA (wr.alloc (Obj.cells #[.pointer (some ⟨ga, 7, none⟩), .pointer (some ⟨ga, 8, none⟩)] 76)) wr.heap.size 2 76 [.pointer (some ⟨ga, 7, none⟩), .pointer (some ⟨ga, 8, none⟩)] from PtrA.new wr 2 76 [.pointer (some ⟨ga, 7, none⟩), .pointer (some ⟨ga, 8, none⟩)] rfl (by decide))
      have O4 := Lib.hid (HO.out.alloc (Obj.cells #[.pointer (some ⟨ga, 7, none⟩), .pointer (some ⟨ga, 8, none⟩)] 76))
      generalize wr.alloc (Obj.cells #[.pointer (some ⟨ga, 7, none⟩), .pointer (some ⟨ga, 8, none⟩)] 76) = W4 at O4 P4 ⊢
      generalize wr.heap.size = gp at P4 ⊢
      clear HO
      go_loopw [39] (fun v39 wr => PtrA wr (gp) 2 76 [.pointer (some ⟨ga, 7, none⟩), .pointer (some ⟨ga, 8, none⟩)] ∧ ((v39 = .int .i64 0 ∧ (OneI w B g ga s (⟨⟨kd, nilB', nilB', (x1 : Int), (x2 : Int), (x3 : Int), nilB', [], []⟩, .slice none 0 0, .slice none 0 0⟩ : ActM) j3 l3 wr)) ∨ (v39 = .int .i64 1 ∧ (∃ b1, OneI w B g ga s (⟨⟨kd, nilB', nilB', (x1 : Int), (x2 : Int), (x3 : Int), nilB', bs, []⟩, b1, .slice none 0 0⟩ : ActM) j4 l4 wr)) ∨ (v39 = .int .i64 2 ∧ (∃ b1 b2, OneI w B g ga s (⟨⟨kd, nilB', nilB', (x1 : Int), (x2 : Int), (x3 : Int), nilB', bs, rs⟩, b1, b2⟩ : ActM) j5 l5 wr)))) (fun v39 wr => 2 - (intOf v39).toNat)
      case atStart => exact ⟨P4.out, .inl ⟨rfl, O4.out⟩⟩
      case round =>
        obtain ⟨hP, ⟨rfl, hO⟩ | ⟨rfl, b1, hO⟩ | ⟨rfl, b1, b2, hO⟩⟩ := hrel
        · have HO := Lib.hid hO
          have HP := Lib.hid hP
          have p0 := hP.at' (j := 0) rfl
          clear hO hP O4 P4
          go_wp2_with (go_at_call 38; refine (N4.out _ HO.out.wk).mono ?_; rintro e w5 ⟨b1, rfl, hR⟩; have O5 := Lib.hid (HO.out.step hR.box hR.gr); have P5 := Lib.hid (PtrA.step HP.out (by decide) HO.out.wk hR.gr); have R5 := Lib.hid (hR.own.lower HO.out.gr.size); obtain ⟨A5, c5, rfl⟩ := hR.own.slice; clear hR; have y5 := O5.out.box.at' (j := 7) rfl; have f5 := O5.out.box.free (j := 7) (by decide))
          have O6 := O5.out.put 7 (.slice A5 bs.length c5) (⟨⟨kd, nilB', nilB', (x1 : Int), (x2 : Int), (x3 : Int), nilB', bs, []⟩, (.slice A5 bs.length c5), .slice none 0 0⟩ : ActM) rfl R5.out O5.out.rv
          have P6 := PtrA.put P5.out (by decide) O5.out 7 (.slice A5 bs.length c5)
          go_roundw
          case rel => exact ⟨P6, .inr (.inl (⟨rfl, _, O6⟩))⟩
          case measure => simp [intOf]
        · have HO := Lib.hid hO
          have HP := Lib.hid hP
          have p0 := hP.at' (j := 1) rfl
          clear hO hP O4 P4
          go_wp2_with (go_at_call 38; refine (N5.out _ HO.out.wk).mono ?_; rintro e w5 ⟨b2, rfl, hR⟩; have O5 := Lib.hid (HO.out.step hR.box hR.gr); have P5 := Lib.hid (PtrA.step HP.out (by decide) HO.out.wk hR.gr); have R5 := Lib.hid (hR.own.lower HO.out.gr.size); obtain ⟨A5, c5, rfl⟩ := hR.own.slice; clear hR; have y5 := O5.out.box.at' (j := 8) rfl; have f5 := O5.out.box.free (j := 8) (by decide))
          have O6 := O5.out.put 8 (.slice A5 rs.length c5) (⟨⟨kd, nilB', nilB', (x1 : Int), (x2 : Int), (x3 : Int), nilB', bs, rs⟩, b1, (.slice A5 rs.length c5)⟩ : ActM) rfl O5.out.bv R5.out
          have P6 := PtrA.put P5.out (by decide) O5.out 8 (.slice A5 rs.length c5)
          go_roundw
          case rel => exact ⟨P6, .inr (.inr (⟨rfl, b1, _, O6⟩))⟩
          case measure => simp [intOf]
        · have HO := Lib.hid hO
          clear hO hP O4 P4
          go_wp2_with fail
          have P4 := Lib.hid (show PtrA (wr.alloc (Obj.cells #[.pointer (some ⟨ga, 1, none⟩), .pointer (some ⟨ga, 2, none⟩), .pointer (some ⟨ga, 6, none⟩)] 78)) wr.heap.size 3 78 [.pointer (some ⟨ga, 1, none⟩), .pointer (some ⟨ga, 2, none⟩), .pointer (some ⟨ga, 6, none⟩)] from PtrA.new wr 3 78 [.pointer (some ⟨ga, 1, none⟩), .pointer (some ⟨ga, 2, none⟩), .pointer (some ⟨ga, 6, none⟩)] rfl (by decide))
          have O4 := Lib.hid (HO.out.alloc (Obj.cells #[.pointer (some ⟨ga, 1, none⟩), .pointer (some ⟨ga, 2, none⟩), .pointer (some ⟨ga, 6, none⟩)] 78))
          generalize wr.alloc (Obj.cells #[.pointer (some ⟨ga, 1, none⟩), .pointer (some ⟨ga, 2, none⟩), .pointer (some ⟨ga, 6, none⟩)] 78) = W4 at O4 P4 ⊢
          generalize wr.heap.size = gp at P4 ⊢
          clear HO
          go_loopw [53] (fun v53 wr => PtrA wr (gp) 3 78 [.pointer (some ⟨ga, 1, none⟩), .pointer (some ⟨ga, 2, none⟩), .pointer (some ⟨ga, 6, none⟩)] ∧ ((v53 = .int .i64 0 ∧ (∃ b1 b2, OneI w B g ga s (⟨⟨kd, nilB', nilB', (x1 : Int), (x2 : Int), (x3 : Int), nilB', bs, rs⟩, b1, b2⟩ : ActM) j5 l5 wr)) ∨ (v53 = .int .i64 1 ∧ (∃ b1 b2, OneI w B g ga s (⟨⟨kd, t6, nilB', (x1 : Int), (x2 : Int), (x3 : Int), nilB', bs, rs⟩, b1, b2⟩ : ActM) j6 l6 wr)) ∨ (v53 = .int .i64 2 ∧ (∃ b1 b2, OneI w B g ga s (⟨⟨kd, t6, t7, (x1 : Int), (x2 : Int), (x3 : Int), nilB', bs, rs⟩, b1, b2⟩ : ActM) j7 l7 wr)) ∨ (v53 = .int .i64 3 ∧ (∃ b1 b2, OneI w B g ga s (⟨⟨kd, t6, t7, (x1 : Int), (x2 : Int), (x3 : Int), t8, bs, rs⟩, b1, b2⟩ : ActM) j8 l8 wr)))) (fun v53 wr => 3 - (intOf v53).toNat)
          case atStart => exact ⟨P4.out, .inl ⟨rfl, b1, b2, O4.out⟩⟩
          case round =>
            obtain ⟨hP, ⟨rfl, b1, b2, hO⟩ | ⟨rfl, b1, b2, hO⟩ | ⟨rfl, b1, b2, hO⟩ | ⟨rfl, b1, b2, hO⟩⟩ := hrel
            · have HO := Lib.hid hO
              have HP := Lib.hid hP
              have p0 := hP.at' (j := 0) rfl
              clear hO hP O4 P4
              go_wp2_with (go_at_call 39; refine (N6.out _ HO.out.wk).mono ?_; rintro e w5 ⟨rfl, hb, hg⟩; have O5 := Lib.hid (HO.out.step hb hg); have P5 := Lib.hid (PtrA.step HP.out (by decide) HO.out.wk hg); clear hb hg; have y5 := O5.out.box.at' (j := 1) rfl; have f5 := O5.out.box.free (j := 1) (by decide))
              have O6 := O5.out.put 1 (.string t6) (⟨⟨kd, t6, nilB', (x1 : Int), (x2 : Int), (x3 : Int), nilB', bs, rs⟩, b1, b2⟩ : ActM) rfl O5.out.bv O5.out.rv
              have P6 := PtrA.put P5.out (by decide) O5.out 1 (.string t6)
              go_roundw
              case rel => exact ⟨P6, .inr (.inl (⟨rfl, b1, b2, O6⟩))⟩
              case measure => simp [intOf]
            · have HO := Lib.hid hO
              have HP := Lib.hid hP
              have p0 := hP.at' (j := 1) rfl
              clear hO hP O4 P4
              go_wp2_with (go_at_call 39; refine (N7.out _ HO.out.wk).mono ?_; rintro e w5 ⟨rfl, hb, hg⟩; have O5 := Lib.hid (HO.out.step hb hg); have P5 := Lib.hid (PtrA.step HP.out (by decide) HO.out.wk hg); clear hb hg; have y5 := O5.out.box.at' (j := 2) rfl; have f5 := O5.out.box.free (j := 2) (by decide))
              have O6 := O5.out.put 2 (.string t7) (⟨⟨kd, t6, t7, (x1 : Int), (x2 : Int), (x3 : Int), nilB', bs, rs⟩, b1, b2⟩ : ActM) rfl O5.out.bv O5.out.rv
              have P6 := PtrA.put P5.out (by decide) O5.out 2 (.string t7)
              go_roundw
              case rel => exact ⟨P6, .inr (.inr (.inl (⟨rfl, b1, b2, O6⟩)))⟩
              case measure => simp [intOf]
            · have HO := Lib.hid hO
              have HP := Lib.hid hP
              have p0 := hP.at' (j := 2) rfl
              clear hO hP O4 P4
              go_wp2_with (go_at_call 39; refine (N8.out _ HO.out.wk).mono ?_; rintro e w5 ⟨rfl, hb, hg⟩; have O5 := Lib.hid (HO.out.step hb hg); have P5 := Lib.hid (PtrA.step HP.out (by decide) HO.out.wk hg); clear hb hg; have y5 := O5.out.box.at' (j := 6) rfl; have f5 := O5.out.box.free (j := 6) (by decide))
              have O6 := O5.out.put 6 (.string t8) (⟨⟨kd, t6, t7, (x1 : Int), (x2 : Int), (x3 : Int), t8, bs, rs⟩, b1, b2⟩ : ActM) rfl O5.out.bv O5.out.rv
              have P6 := PtrA.put P5.out (by decide) O5.out 6 (.string t8)
              go_roundw
              case rel => exact ⟨P6, .inr (.inr (.inr (⟨rfl, b1, b2, O6⟩)))⟩
              case measure => simp [intOf]
            · obtain ⟨A1, c1, rfl⟩ : ∃ A c, b1 = .slice A bs.length c := hO.bv.slice; obtain ⟨A2, c2, rfl⟩ : ∃ A c, b2 = .slice A rs.length c := hO.rv.slice; have HO := Lib.hid hO
              clear hO hP O4 P4
              obtain ⟨r0, r1, r2, r3, r4, r5, r6, r7, r8⟩ := Box9.at9 (m := zeroM) HO.out.res
              obtain ⟨a0, a1, a2, a3, a4, a5, a6, a7, a8⟩ := Box9.at9 HO.out.box
              simp only at a0 a1 a2 a3 a4 a5 a6 a7 a8
              have z0 := HO.out.res.free (j := 0) (by decide)
              have z1 := HO.out.res.free (j := 1) (by decide)
              have z2 := HO.out.res.free (j := 2) (by decide)
              have z3 := HO.out.res.free (j := 3) (by decide)
              have z4 := HO.out.res.free (j := 4) (by decide)
              have z5 := HO.out.res.free (j := 5) (by decide)
              have z6 := HO.out.res.free (j := 6) (by decide)
              have z7 := HO.out.res.free (j := 7) (by decide)
              have z8 := HO.out.res.free (j := 8) (by decide)
              go_wp2_with fail
              have HE := HO.out.fin
              exact bodyPost_ret (results_act rfl rfl HE.1) rfl ⟨_, rfl, rfl, HE.2⟩
end Go.Proofs.YtfdbolnifjpbhaaDoor
