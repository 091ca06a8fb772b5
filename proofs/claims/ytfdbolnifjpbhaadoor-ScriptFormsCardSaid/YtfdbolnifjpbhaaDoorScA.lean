/- Acts in memory: read, made by a call. -/
import Derived.Test.YtfdbolnifjpbhaaDoorOwn
import Derived.Test.YtfdbolnifjpbhaaDoorInts
namespace Go.Proofs.YtfdbolnifjpbhaaDoor
set_option linter.unusedVariables false
set_option linter.unusedSimpArgs false
open Go.RowKit

/-- An act. -/
structure ActV where
  k : Int
  key : ByteArray
  val : ByteArray
  pl : Int
  wd : Int
  ls : Int
  mask : ByteArray
  busy : List Int
  reads : List Int
def nilB' : ByteArray := ⟨#[]⟩
def zeroA : ActV := ⟨0, nilB', nilB', 0, 0, 0, nilB', [], []⟩
/-- An act as it stands in memory: where its rows lie. -/
structure ActM where
  a : ActV
  bv : Value
  rv : Value
def zeroM : ActM := ⟨zeroA, .slice none 0 0, .slice none 0 0⟩
def cellsA (m : ActM) : List Value := [.int .i64 m.a.k, .string m.a.key, .string m.a.val, .int .i64 m.a.pl, .int .i64 m.a.wd, .int .i64 m.a.ls, .string m.a.mask, m.bv, m.rv]
def flatA (ms : List ActM) : List Value := ms.flatMap cellsA
theorem flatA_cons (r : ActM) (rs : List ActM) : flatA (r :: rs) = cellsA r ++ flatA rs := rfl
theorem flatA_snoc (rs : List ActM) (r : ActM) : flatA (rs ++ [r]) = flatA rs ++ cellsA r := by simp [flatA]
theorem flatA_len (rs : List ActM) : (flatA rs).length = rs.length * 9 := by
  induction rs with
  | nil => rfl
  | cons r rs ih => rw [flatA_cons, List.length_append, ih, List.length_cons]; show 9 + _ = _; omega
theorem flatA_at : ∀ (rs : List ActM) (j : Nat), j < rs.length → ∀ i, i < 9 → (flatA rs)[j * 9 + i]? = (cellsA (rs.getD j zeroM))[i]?
  | [], j, h, _, _ => by simp at h
  | r :: rs, 0, _, i, hi => by
    rw [flatA_cons, Nat.zero_mul, Nat.zero_add, List.getElem?_append_left (by show i < 9; exact hi)]
    rfl
  | r :: rs, j + 1, h, i, hi => by
    have ih := flatA_at rs j (by simpa using h) i hi
    rw [flatA_cons, List.getElem?_append_right (by show 9 ≤ _; omega)]
    show (flatA rs)[(j + 1) * 9 + i - 9]? = _
    rw [show (j + 1) * 9 + i - 9 = j * 9 + i by omega, ih]
    simp
/-- The nine cells of an act, at a place. -/
def At9 (w : World) (b o : Nat) (m : ActM) : Prop :=
  w.cell? ⟨b, o, none⟩ = some (.int .i64 m.a.k) ∧ w.cell? ⟨b, o + 1, none⟩ = some (.string m.a.key) ∧ w.cell? ⟨b, o + 2, none⟩ = some (.string m.a.val) ∧ w.cell? ⟨b, o + 3, none⟩ = some (.int .i64 m.a.pl) ∧ w.cell? ⟨b, o + 4, none⟩ = some (.int .i64 m.a.wd) ∧ w.cell? ⟨b, o + 5, none⟩ = some (.int .i64 m.a.ls) ∧ w.cell? ⟨b, o + 6, none⟩ = some (.string m.a.mask) ∧ w.cell? ⟨b, o + 7, none⟩ = some m.bv ∧ w.cell? ⟨b, o + 8, none⟩ = some m.rv
theorem At9.mono {w w' : World} {b o : Nat} {m : ActM} (h : At9 w b o m) (hm : ∀ a u, w.cell? a = some u → w'.cell? a = some u) : At9 w' b o m :=
  ⟨hm _ _ h.1, hm _ _ h.2.1, hm _ _ h.2.2.1, hm _ _ h.2.2.2.1, hm _ _ h.2.2.2.2.1, hm _ _ h.2.2.2.2.2.1, hm _ _ h.2.2.2.2.2.2.1, hm _ _ h.2.2.2.2.2.2.2.1, hm _ _ h.2.2.2.2.2.2.2.2⟩
theorem At9.below {w w' : World} {b o : Nat} {m : ActM} (h : At9 w b o m) (hb : Below w.heap.size w w') : At9 w' b o m :=
  h.mono fun a u hc => (hb.cell (World.block_lt_of_cell? w a hc)).trans hc
/-- A slice of acts that is read, cell by cell. -/
def RdM (w : World) (v : Value) (ms : List ActM) : Prop :=
  (ms = [] ∧ ∃ A c, v = .slice A 0 c ∧ (A = none → c = 0)) ∨
  ∃ b o c, v = .slice (some ⟨b, o, none⟩) ms.length c ∧ ms.length ≤ c ∧ c ≤ maxLen ∧ ∀ j u, (flatA ms)[j]? = some u → w.cell? ⟨b, o + j, none⟩ = some u
theorem RdM.form {w : World} {v : Value} {rs : List ActM} (h : RdM w v rs) : ∃ A c, v = .slice A rs.length c := by
  rcases h with ⟨rfl, A, c, rfl, _⟩ | ⟨b, o, c, rfl, _⟩
  · exact ⟨A, c, rfl⟩
  · exact ⟨_, _, rfl⟩
theorem RdM.pos {w : World} {v : Value} {rs : List ActM} (h : RdM w v rs) (hp : 0 < rs.length) : ∃ b o c, v = .slice (some ⟨b, o, none⟩) rs.length c ∧ rs.length ≤ c ∧ c ≤ maxLen ∧
    ∀ j, j < rs.length → At9 w b (o + j * 9) (rs.getD j zeroM) := by
  rcases h with ⟨rfl, _⟩ | ⟨b, o, c, h1, h2, h3, h4⟩
  · simp at hp
  · refine ⟨b, o, c, h1, h2, h3, fun j hj => ?_⟩
    exact ⟨h4 _ _ (flatA_at rs j hj 0 (by decide)), h4 _ _ (flatA_at rs j hj 1 (by decide)), h4 _ _ (flatA_at rs j hj 2 (by decide)), h4 _ _ (flatA_at rs j hj 3 (by decide)), h4 _ _ (flatA_at rs j hj 4 (by decide)), h4 _ _ (flatA_at rs j hj 5 (by decide)), h4 _ _ (flatA_at rs j hj 6 (by decide)), h4 _ _ (flatA_at rs j hj 7 (by decide)), h4 _ _ (flatA_at rs j hj 8 (by decide))⟩
theorem RdM.mono {w w' : World} {v : Value} {rs : List ActM} (h : RdM w v rs) (hm : ∀ a u, w.cell? a = some u → w'.cell? a = some u) : RdM w' v rs := by
  rcases h with h | ⟨b, o, c, h1, h2, h3, h4⟩
  · exact .inl h
  · exact .inr ⟨b, o, c, h1, h2, h3, fun j u hu => hm _ _ (h4 j u hu)⟩
/-- An act in memory stands for its rows. -/
def OkM (w : World) (m : ActM) : Prop := Rd w m.bv m.a.busy ∧ Rd w m.rv m.a.reads
theorem OkM.mono {w w' : World} {m : ActM} (h : OkM w m) (hm : ∀ a u, w.cell? a = some u → w'.cell? a = some u) : OkM w' m := ⟨h.1.mono hm, h.2.mono hm⟩
theorem OkM.below {w w' : World} {m : ActM} (h : OkM w m) (hb : Below w.heap.size w w') : OkM w' m :=
  h.mono fun a u hc => (hb.cell (World.block_lt_of_cell? w a hc)).trans hc
/-- A slice of acts that is read. -/
def RdA (w : World) (v : Value) (ms : List ActM) : Prop := RdM w v ms ∧ ∀ m ∈ ms, OkM w m
theorem RdA.mono {w w' : World} {v : Value} {rs : List ActM} (h : RdA w v rs) (hm : ∀ a u, w.cell? a = some u → w'.cell? a = some u) : RdA w' v rs :=
  ⟨h.1.mono hm, fun m hx => (h.2 m hx).mono hm⟩
theorem RdA.below {w w' : World} {v : Value} {rs : List ActM} (h : RdA w v rs) (hb : Below w.heap.size w w') : RdA w' v rs :=
  h.mono fun a u hc => (hb.cell (World.block_lt_of_cell? w a hc)).trans hc
theorem RdA.drewN {w : World} {v : Value} {rs : List ActM} (h : RdA w v rs) (n : Nat) : RdA (w.drewN n) v rs := h
theorem getD_memM {ms : List ActM} {j : Nat} (h : j < ms.length) : ms.getD j zeroM ∈ ms := by
  rw [List.getD_eq_getElem?_getD, List.getElem?_eq_getElem h, Option.getD_some]
  exact List.getElem_mem h
/-- A slice of acts that the call has made: itself and the rows in it. -/
def OwnA (w : World) (B : Nat) (v : Value) (ms : List ActM) : Prop :=
  Own w B 38 9 v ms.length (flatA ms) ∧ ∀ m ∈ ms, Own w B 3 1 m.bv m.a.busy.length (nums m.a.busy) ∧ Own w B 3 1 m.rv m.a.reads.length (nums m.a.reads)
theorem OwnA.nil (w : World) (B : Nat) : OwnA w B (.slice none 0 0) [] := ⟨Own.nil _ _ _ _, fun m h => by simp at h⟩
theorem OwnA.below {w w' : World} {B : Nat} {v : Value} {ms : List ActM} (h : OwnA w B v ms) (hb : Below w.heap.size w w') : OwnA w' B v ms :=
  ⟨h.1.below hb, fun m hm => ⟨(h.2 m hm).1.below hb, (h.2 m hm).2.below hb⟩⟩
theorem OwnA.lower {w : World} {B B' : Nat} {v : Value} {ms : List ActM} (h : OwnA w B v ms) (hb : B' ≤ B) : OwnA w B' v ms :=
  ⟨h.1.lower hb, fun m hm => ⟨(h.2 m hm).1.lower hb, (h.2 m hm).2.lower hb⟩⟩
theorem Rd.ownI {w : World} {base : Nat} {v : Value} {n : Nat} {xs : List Int} (h : Own w base 3 1 v n (nums xs)) : Rd w v xs := by
  have hl : xs.length = n := by have := h.1; simp [nums] at this; exact this
  rcases h.2 with ⟨rfl, rfl⟩ | ⟨g, cap, cur, fz, rfl, _, _, _, h1, h2, _⟩
  · exact .inl ⟨List.eq_nil_of_length_eq_zero hl, none, 0, rfl, fun _ => rfl⟩
  · subst hl
    refine .inr ⟨g, 0, cap, rfl, h1, h2, fun j hj => ?_⟩
    rw [Nat.zero_add]
    exact h.at' (nums_at hj)
theorem OwnA.rd {w : World} {B : Nat} {v : Value} {ms : List ActM} (h : OwnA w B v ms) : RdA w v ms := by
  refine ⟨?_, fun m hm => ⟨Rd.ownI (h.2 m hm).1, Rd.ownI (h.2 m hm).2⟩⟩
  rcases h.1.2 with ⟨rfl, h0⟩ | ⟨g, cap, cur, fz, rfl, _, _, _, h1, h2, _⟩
  · exact .inl ⟨List.eq_nil_of_length_eq_zero h0, none, 0, rfl, fun _ => rfl⟩
  · refine .inr ⟨g, 0, cap, rfl, h1, h2, fun j u hu => ?_⟩
    rw [Nat.zero_add]
    exact h.1.at' hu
theorem RdM.news {w : World} {v : Value} {rs : List ActM} (h : RdM w v rs) : ∃ A c, v = .slice A rs.length c ∧ (A = none → rs.length = 0 ∧ c = 0) ∧ ∀ ad, A = some ad → ∀ j u, (flatA rs)[j]? = some u → w.cell? (ad.add j) = some u := by
  rcases h with ⟨rfl, A, c, rfl, hA⟩ | ⟨b, o, c, rfl, h1, h2, h3⟩
  · exact ⟨A, c, rfl, fun h => ⟨rfl, hA h⟩, fun ad _ j u hu => by simp [flatA] at hu⟩
  · refine ⟨_, c, rfl, fun h => by simp at h, fun ad had j u hu => ?_⟩
    obtain rfl := Option.some.inj had
    rw [Addr.add_lit]
    exact h3 j u hu
/-- The value of an act. -/
def ActM.v (m : ActM) : Value := .agg #[.int .i64 m.a.k, .string m.a.key, .string m.a.val, .int .i64 m.a.pl, .int .i64 m.a.wd, .int .i64 m.a.ls, .string m.a.mask, m.bv, m.rv]
/-- What is known of the sizes of an act's texts. -/
def SzA (a : ActV) : Prop := a.key.size ≤ 140737488351232 ∧ a.val.size ≤ 140737488351232 ∧ a.mask.size ≤ 140737488351232
/-- An act in a new box. -/
theorem At9.new (w : World) (m : ActM) (t : TypeId) : At9 (w.alloc (Obj.cells #[.int .i64 m.a.k, .string m.a.key, .string m.a.val, .int .i64 m.a.pl, .int .i64 m.a.wd, .int .i64 m.a.ls, .string m.a.mask, m.bv, m.rv] t)) w.heap.size 0 m := by
  refine ⟨?_, ?_, ?_, ?_, ?_, ?_, ?_, ?_, ?_⟩ <;> (rw [cell_of_row _ _ _ _ _ _ (heap_alloc_new w _)]; rfl)
end Go.Proofs.YtfdbolnifjpbhaaDoor
