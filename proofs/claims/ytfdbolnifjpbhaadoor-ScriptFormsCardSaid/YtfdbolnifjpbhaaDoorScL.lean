/- script: Show: what is carried along. -/
import Derived.Test.YtfdbolnifjpbhaaDoorScC
import Derived.Test.YtfdbolnifjpbhaaDoorScJ
import Derived.Test.YtfdbolnifjpbhaaDoorScM
import Derived.Deep.DeepCutAuto
import Derived.Deep.RegionHeldLaw
namespace Go.Proofs.YtfdbolnifjpbhaaDoor
set_option linter.unusedVariables false
set_option linter.unusedSimpArgs false
open Go.RowKit

/-- A block of another type stands through what a writer does. -/
theorem Own.others {w w' : World} {B n : Nat} {e : TypeId} {size : Nat} {v : Value} {xs : List Value} (h : Own w B e size v n xs) (hne : e ≠ 5) (ho : Lib.OthersKept 5 none w w') : Own w' B e size v n xs := by
  refine ⟨h.1, ?_⟩
  rcases h.2 with hn | ⟨g, cap, cur, fz, rfl, hb, hg, rest⟩
  · exact .inl hn
  · exact .inr ⟨g, cap, cur, fz, rfl, hb, ho g _ hg (by simp) (fun c fz' e' => by injection e' with h1 h2; exact hne h2), rest⟩
theorem OthersK.below {w w' : World} (hb : Below w.heap.size w w') : Lib.OthersKept 5 none w w' := (Lib.OthersKept.refl _ _ _).below hb
theorem Wr.below {B : Nat} {w W W' : World} {v : Value} {bs : List UInt8} (h : Wr B w v bs W) (hB : B ≤ W.heap.size) (hb : Below W.heap.size W W') : Wr B w v bs W' :=
  ⟨h.own.kept (row := none) ⟨hb.os, hb.tape, hb.output, hb.size, fun i hi _ => hb.block i hi⟩ (by cases v.ownBlock <;> simp), h.bl.trans ⟨hb.os, hb.tape, hb.output, hb.size, fun i hi => hb.block i (Nat.lt_of_lt_of_le hi hB)⟩, h.ot.below hb⟩
/-- An act's box. -/
def Box9 (W : World) (B g : Nat) (m : ActM) : Prop := Own W B 38 1 (.slice (some ⟨g, 0, none⟩) 9 9) 9 (cellsA m)
theorem Box9.at9 {W : World} {B g : Nat} {m : ActM} (h : Box9 W B g m) : At9 W g 0 m :=
  ⟨Own.at' h (j := 0) rfl, Own.at' h (j := 1) rfl, Own.at' h (j := 2) rfl, Own.at' h (j := 3) rfl, Own.at' h (j := 4) rfl, Own.at' h (j := 5) rfl, Own.at' h (j := 6) rfl, Own.at' h (j := 7) rfl, Own.at' h (j := 8) rfl⟩
theorem Box9.new (W : World) (m : ActM) : Box9 (W.alloc (Obj.cells #[.int .i64 m.a.k, .string m.a.key, .string m.a.val, .int .i64 m.a.pl, .int .i64 m.a.wd, .int .i64 m.a.ls, .string m.a.mask, m.bv, m.rv] 38)) W.heap.size W.heap.size m :=
  ⟨rfl, .inr ⟨W.heap.size, 9, _, (0, 0), rfl, Nat.le_refl _, heap_alloc_new W _, .inr rfl, Nat.le_refl _, by decide, rfl, rfl⟩⟩
/-- What the writing of an act stands on: the text so far, the act's box, its rows. -/
structure ShI (w : World) (gb : Nat) (m : ActM) (v : Value) (bs : List UInt8) (W : World) : Prop where
  wr : Wr w.heap.size w v bs W
  box : Box9 W w.heap.size gb m
  ok : OkM w m
theorem ShI.hB {w : World} {gb : Nat} {m : ActM} {v : Value} {bs : List UInt8} {W : World} (h : ShI w gb m v bs W) : w.heap.size ≤ W.heap.size := h.wr.bl.size
theorem ShI.alloc {w : World} {gb : Nat} {m : ActM} {v : Value} {bs : List UInt8} {W : World} (h : ShI w gb m v bs W) (o : Obj) : ShI w gb m v bs (W.alloc o) :=
  ⟨h.wr.alloc h.hB o, Own.alloc h.box o, h.ok⟩
theorem ShI.drew {w : World} {gb : Nat} {m : ActM} {v : Value} {bs : List UInt8} {W : World} (h : ShI w gb m v bs W) : ShI w gb m v bs W.drew :=
  ⟨h.wr.drew, h.box, h.ok⟩
/-- A writer has written on. -/
theorem ShI.wrote {w : World} {gb : Nat} {m : ActM} {v v' : Value} {bs cs : List UInt8} {W W' : World} (h : ShI w gb m v bs W) (k : Wr w.heap.size W v' cs W') : ShI w gb m v' cs W' :=
  ⟨h.wr.then k, Own.others h.box (by decide) k.ot, h.ok⟩
/-- An append has written on. -/
theorem ShI.grown {w : World} {gb : Nat} {m : ActM} {v v' : Value} {bs cs : List UInt8} {W W' : World} (h : ShI w gb m v bs W) (hg : W.grownBy W' v.ownBlock) (ho : W'.ownsRow w.heap.size 5 1 v' cs.length (Lib.byteCells cs)) : ShI w gb m v' cs W' :=
  ⟨h.wr.grown h.hB hg ho, Own.others h.box (by decide) ((Lib.OthersKept.refl _ _ _).grown hg (row_kind h.wr.own)), h.ok⟩
/-- The act's rows stand through what a writer does. -/
theorem ShI.busy {w : World} {gb : Nat} {m : ActM} {v : Value} {bs : List UInt8} {W : World} (h : ShI w gb m v bs W) : Still w.heap.size W fun W' => Rd W' m.bv m.a.busy :=
  fun W' hb _ => h.ok.1.below (h.wr.bl.trans hb)
theorem ShI.reads {w : World} {gb : Nat} {m : ActM} {v : Value} {bs : List UInt8} {W : World} (h : ShI w gb m v bs W) : Still w.heap.size W fun W' => Rd W' m.rv m.a.reads :=
  fun W' hb _ => h.ok.2.below (h.wr.bl.trans hb)
/-- A row of numbers that was laid for a writer stands through what it does. -/
theorem still_ints {B : Nat} {W : World} {g n : Nat} {xs : List Int} (h : Own W B 3 1 (.slice (some ⟨g, 0, none⟩) n n) n (nums xs)) : Still B W fun W' => Rd W' (.slice (some ⟨g, 0, none⟩) n n) xs :=
  fun W' _ ho => Rd.ownI (h.others (by decide) ho)
theorem own_ints (W : World) (xs : List Int) (n : Nat) (hn : xs.length = n) (hm : n ≤ maxLen) : Own (W.alloc (Obj.cells (nums xs).toArray 3)) W.heap.size 3 1 (.slice (some ⟨W.heap.size, 0, none⟩) n n) n (nums xs) :=
  ⟨by rw [nums_length, hn, Nat.mul_one], .inr ⟨W.heap.size, n, (nums xs).toArray, (0, 0), rfl, Nat.le_refl _, heap_alloc_new W _, .inr rfl, Nat.le_refl _, hm, by simp [nums, hn], by rw [Nat.mul_one]; exact List.take_of_length_le (by simp [nums, hn])⟩⟩
theorem ShI.app {w : World} {gb : Nat} {m : ActM} {v v' : Value} {bs : List UInt8} {W W' : World} (h : ShI w gb m v bs W) (c : UInt8) (ho : W'.ownsRow w.heap.size 5 1 v' (bs.length + 1) (Lib.byteCells bs ++ [.int .u8 (c.toNat : Int)])) (hg : W.grownBy W' v.ownBlock) : ShI w gb m v' (bs ++ [c]) W' :=
  h.grown hg (by rw [List.length_append, bcells_append]; exact ho)
theorem ShI.keepI {w : World} {gb : Nat} {m : ActM} {v : Value} {bs : List UInt8} {W W' : World} (h : ShI w gb m v bs W) (hg : W.grownBy W' v.ownBlock) {B n size : Nat} {e : TypeId} {v2 : Value} {xs : List Value} (hI : Own W B e size v2 n xs) (hne : e ≠ 5) : Own W' B e size v2 n xs :=
  hI.others hne ((Lib.OthersKept.refl _ _ _).grown hg (row_kind h.wr.own))
/-- The cells that the writing of an act reads. -/
def Cel9 (W : World) (g : Nat) (k : Int) (key val : ByteArray) (pl wd ls : Int) (mask : ByteArray) (bv rv : Value) : Prop :=
  W.cell? ⟨g, 0, none⟩ = some (.int .i64 k) ∧ W.cell? ⟨g, 1, none⟩ = some (.string key) ∧ W.cell? ⟨g, 2, none⟩ = some (.string val) ∧ W.cell? ⟨g, 3, none⟩ = some (.int .i64 pl) ∧ W.cell? ⟨g, 4, none⟩ = some (.int .i64 wd) ∧ W.cell? ⟨g, 5, none⟩ = some (.int .i64 ls) ∧ W.cell? ⟨g, 6, none⟩ = some (.string mask) ∧ W.cell? ⟨g, 7, none⟩ = some bv ∧ W.cell? ⟨g, 8, none⟩ = some rv
theorem ShI.cel {w : World} {gb : Nat} {k : Int} {key val mask : ByteArray} {pl wd ls : Int} {busy reads : List Int} {bv rv v : Value} {bs : List UInt8} {W : World} (h : ShI w gb ⟨⟨k, key, val, pl, wd, ls, mask, busy, reads⟩, bv, rv⟩ v bs W) : Cel9 W gb k key val pl wd ls mask bv rv := h.box.at9
theorem Cel9.alloc {W : World} {g : Nat} {k : Int} {key val : ByteArray} {pl wd ls : Int} {mask : ByteArray} {bv rv : Value} (h : Cel9 W g k key val pl wd ls mask bv rv) (o : Obj) : Cel9 (W.alloc o) g k key val pl wd ls mask bv rv := by
  have kb := fun (q : Nat) (v : Value) (h : W.cell? ⟨g, q, none⟩ = some v) => ((Bl.alloc (Below.refl W.heap.size W) o).cell (World.block_lt_of_cell? _ _ h)).trans h
  obtain ⟨h0, h1, h2, h3, h4, h5, h6, h7, h8⟩ := h
  exact ⟨kb _ _ h0, kb _ _ h1, kb _ _ h2, kb _ _ h3, kb _ _ h4, kb _ _ h5, kb _ _ h6, kb _ _ h7, kb _ _ h8⟩
theorem kind_index (kn : Nat) (h : kn ≤ 7) (W : World) : (Instr.index 9 (Value.string { data := #[102, 109, 112, 103, 100, 108, 98, 120] }) (Value.int IntKind.i64 (kn : Int))).run Tryd.prog W = .ok (.int .u8 ((kindsB.getD kn 0).toNat : Int)) W := by
  have hk : kn = 0 ∨ kn = 1 ∨ kn = 2 ∨ kn = 3 ∨ kn = 4 ∨ kn = 5 ∨ kn = 6 ∨ kn = 7 := by omega
  rcases hk with rfl | rfl | rfl | rfl | rfl | rfl | rfl | rfl <;> first | rfl | kernel_rfl
def strv (xs : List ByteArray) : List Value := xs.map fun s => .string s
theorem own_strs (W : World) (xs : List ByteArray) (n : Nat) (hn : xs.length = n) (hm : n ≤ maxLen) : Own (W.alloc (Obj.cells (strv xs).toArray 9)) W.heap.size 9 1 (.slice (some ⟨W.heap.size, 0, none⟩) n n) n (strv xs) :=
  ⟨by simp [strv, hn], .inr ⟨W.heap.size, n, (strv xs).toArray, (0, 0), rfl, Nat.le_refl _, heap_alloc_new W _, .inr rfl, Nat.le_refl _, hm, by simp [strv, hn], by rw [Nat.mul_one]; exact List.take_of_length_le (by simp [strv, hn])⟩⟩
theorem still_strs {B : Nat} {W : World} {g n : Nat} {xs : List ByteArray} (h : Own W B 9 1 (.slice (some ⟨g, 0, none⟩) n n) n (strv xs)) : Still B W fun W' => ∀ j, j < xs.length → W'.cell? ⟨g, j, none⟩ = some (.string (xs.getD j nilB')) :=
  fun W' _ ho j hj => (h.others (by decide) ho).at' (by rw [strv, List.getElem?_map, List.getElem?_eq_getElem hj, List.getD_eq_getElem?_getD, List.getElem?_eq_getElem hj]; rfl)
/-- A region all of whose orders come to one form of end. -/
theorem region_ex6 {P : Program} {c : Code} {Q : Exit → Act → World → Prop} {a : Act} {w : World} (S : World → Nat → Option Addr → Nat → Option Addr → Nat → Prop) (A : World → Nat → Option Addr → Nat → Option Addr → Nat → Act) (W : World → Nat → Option Addr → Nat → Option Addr → Nat → World)
    (h2 : c.wp P (fun e a' w' => match e with | .normal => ∃ x1 x2 x3 x4 x5 x6, S x1 x2 x3 x4 x5 x6 ∧ a' = A x1 x2 x3 x4 x5 x6 ∧ w' = W x1 x2 x3 x4 x5 x6 | _ => False) a w) (h1 : ∀ x1 x2 x3 x4 x5 x6, S x1 x2 x3 x4 x5 x6 → Q .normal (A x1 x2 x3 x4 x5 x6) (W x1 x2 x3 x4 x5 x6)) : c.wp P Q a w :=
  Code.wp_mono (fun e a w h => by
    cases e with
    | normal => obtain ⟨x1, x2, x3, x4, x5, x6, hs, h', h''⟩ := h; subst h' h''; exact h1 _ _ _ _ _ _ hs
    | _ => exact h.elim) h2
end Go.Proofs.YtfdbolnifjpbhaaDoor
