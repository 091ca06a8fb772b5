/- The statement IndexMap: what its walk stands on. -/
import Derived.Test.YtdgnpoapkjoknaaIdxW
import Derived.Test.YtdgnpoapkjoknaaIdxN
import Derived.Test.YtdgnpoapkjoknaaLBits
import Derived.Test.YtdgnpoapkjoknaaInts
namespace Go.Proofs.Ytdgnpoapkjoknaa
set_option linter.unusedVariables false
set_option linter.unusedSimpArgs false
open Go.RowKit

theorem infoRecX : (Try.prog.info? 25).map (fun i => (i.zero, i.size, i.bytes)) = some (some (.agg #[.int .i64 0, .int .i64 0, .string ⟨#[]⟩, .string ⟨#[]⟩]), 4, 48) := by kernel_rfl
theorem box4 {W : World} {g : Nat} {a b c d : Value} (h : Bx W g a b c d) : ∀ ad, some (⟨g, 0, none⟩ : Addr) = some ad → ∀ j u, [a, b, c, d][j]? = some u → W.cell? (ad.add j) = some u := by
  intro ad had j u hu
  obtain rfl := Option.some.inj had
  rw [Addr.add_lit, Nat.zero_add]
  obtain ⟨⟨h0, h1, h2, h3⟩, _⟩ := h
  match j, hu with
  | 0, hu => simp at hu; subst hu; exact h0
  | 1, hu => simp at hu; subst hu; exact h1
  | 2, hu => simp at hu; subst hu; exact h2
  | 3, hu => simp at hu; subst hu; exact h3
theorem Bx.new1 (w : World) (o : Obj) (a b c d : Value) (t : TypeId) : Bx ((w.alloc o).alloc (Obj.cells #[a, b, c, d] t)) (w.heap.size + 1) a b c d := by
  have h := Bx.new (w.alloc o) a b c d t
  have e : (w.alloc o).heap.size = w.heap.size + 1 := by simp
  rwa [e] at h
theorem Bx.new2 (w : World) (o o' : Obj) (a b c d : Value) (t : TypeId) : Bx (((w.alloc o).alloc o').alloc (Obj.cells #[a, b, c, d] t)) (w.heap.size + 2) a b c d := by
  have h := Bx.new1 (w.alloc o) o' a b c d t
  have e : (w.alloc o).heap.size + 1 = w.heap.size + 2 := by simp
  rwa [e] at h
/-- A text of one byte, out of a new box. -/
theorem text_one (W : World) (c : Int) (b : UInt8) (hb : c = (b.toNat : Int)) (g : Nat) (hg : W.heap.size = g) : (convert 46 9 (.slice (some ⟨g, 0, none⟩) 1 1)).run Try.prog (W.alloc (Obj.cells #[.int .u8 c] 5)) = .ok (.string (str [b])) (W.alloc (Obj.cells #[.int .u8 c] 5)) := by
  subst hg hb
  have h : Own (W.alloc (Obj.cells #[.int .u8 (b.toNat : Int)] 5)) W.heap.size 5 1 (.slice (some ⟨W.heap.size, 0, none⟩) 1 1) 1 (byts [b]) := by
    refine ⟨rfl, .inr ⟨W.heap.size, 1, #[.int .u8 (b.toNat : Int)], (0, 0), rfl, Nat.le_refl _, heap_alloc_new W _, .inr rfl, Nat.le_refl _, by decide, rfl, rfl⟩⟩
  exact h.string (P := Try.prog) Try.underlying46 Try.underlying5 Try.underlying9
theorem byte_of (n : Nat) (h : n < 256) : (n : Int) = ((UInt8.ofNat n).toNat : Int) := by
  rw [UInt8.toNat_ofNat', Nat.mod_eq_of_lt (by omega)]
theorem wrap_u8 (n : Int) (h0 : 0 ≤ n) (h : n < 256) : IntKind.u8.wrap n = n := by
  simp only [IntKind.wrap, IntKind.signed, IntKind.bits]
  exact Int.emod_eq_of_lt (by omega) (by omega)
/-- Truths and texts of eight, as cells. -/
def boolL (h : Nat → Bool) : List Value := (List.range 8).map fun k => .bool (h k)
def textsL (v : Nat → ByteArray) : List Value := (List.range 8).map fun k => .string (v k)
theorem boolL_at (h : Nat → Bool) {k : Nat} (hk : k < 8) : (boolL h)[k]? = some (.bool (h k)) := by
  rw [boolL, List.getElem?_map, List.getElem?_range hk]; rfl
theorem textsL_at (v : Nat → ByteArray) {k : Nat} (hk : k < 8) : (textsL v)[k]? = some (.string (v k)) := by
  rw [textsL, List.getElem?_map, List.getElem?_range hk]; rfl
theorem boolL_set (h : Nat → Bool) (k : Nat) (b : Bool) : (boolL h).set k (.bool b) = boolL (upd h k b) := by
  apply List.ext_getElem
  · simp [boolL]
  · intro i h1 h2
    simp only [boolL, List.length_map, List.length_range] at h2
    rw [List.getElem_set]
    simp only [boolL, List.getElem_map, List.getElem_range, upd]
    by_cases e : k = i
    · subst e; simp
    · rw [if_neg e, if_neg (fun h => e h.symm)]
theorem textsL_set (v : Nat → ByteArray) (k : Nat) (t : ByteArray) : (textsL v).set k (.string t) = textsL (upd v k t) := by
  apply List.ext_getElem
  · simp [textsL]
  · intro i h1 h2
    simp only [textsL, List.length_map, List.length_range] at h2
    rw [List.getElem_set]
    simp only [textsL, List.getElem_map, List.getElem_range, upd]
    by_cases e : k = i
    · subst e; simp
    · rw [if_neg e, if_neg (fun h => e h.symm)]
/-- An array, as a row of its own. -/
theorem Own.arr (w : World) (cs : Array Value) (t : TypeId) (n : Nat) (hn : cs.size = n) (hm : n ≤ maxLen) : Own (w.alloc (Obj.cells cs t)) w.heap.size t 1 (.slice (some ⟨w.heap.size, 0, none⟩) n n) n cs.toList := by
  subst hn
  refine ⟨by simp, .inr ⟨w.heap.size, cs.size, cs, (0, 0), rfl, Nat.le_refl _, heap_alloc_new w _, .inr rfl, Nat.le_refl _, hm, by simp, by rw [Nat.mul_one]; exact List.take_of_length_le (by simp)⟩⟩
/-- Where the first slot is a store of another row's cell. -/
theorem Own.off {w : World} {B n g j : Nat} {e e' : TypeId} {size size' n' cap B' : Nat} {v u : Value} {xs xs' : List Value} (h : Own w B e size v n xs) (h' : Own w B' e' size' (.slice (some ⟨g, 0, none⟩) n' cap) n' xs') (hne : v.ownBlock ≠ some g) : Own (w.setCell ⟨g, j, none⟩ u) B e size v n xs :=
  h.kept (h'.stored j u).2 (.inr hne)
theorem rsM_snoc (ks : Nat → Nat) (gs : Nat → Bool) (vs : Nat → ByteArray) (a : Nat) : rsM ks gs vs (a + 1) = rsM ks gs vs a ++ [recM ks gs vs a] := by
  rw [rsM, rsM, List.range_succ, List.map_append]; rfl
theorem rsM_len (ks : Nat → Nat) (gs : Nat → Bool) (vs : Nat → ByteArray) (a : Nat) : (rsM ks gs vs a).length = a := by simp [rsM]
theorem rsM_build (ks : Nat → Nat) (gs : Nat → Bool) (vs : Nat → ByteArray) (n : Nat) (hk : ∀ i, ks i < 8) (hv : ∀ i, (vs i).size ≤ 20) : buildE (rsM ks gs vs n) = 0 ∧ buildL (rsM ks gs vs n) = canS (mapM ks gs vs n).1 (mapM ks gs vs n).2 0 8 := by
  have h := bldM ks gs vs n hk hv
  have hok : bldOk (rsM ks gs vs n) := fun a ha => (h a (by rw [rsM_len] at ha; omega)).2 (by rw [rsM_len] at ha; exact ha)
  exact ⟨if_pos hok, by rw [buildL, if_pos hok, rsM_len]; exact (h n (Nat.le_refl _)).1⟩
theorem rsM_sizes (ks : Nat → Nat) (gs : Nat → Bool) (vs : Nat → ByteArray) (n : Nat) (hv : ∀ i, (vs i).size ≤ 20) : ∀ r ∈ rsM ks gs vs n, r.key.size ≤ 9223372036854775807 ∧ r.val.size ≤ 9223372036854775807 := by
  intro r hr
  obtain ⟨i, _, rfl⟩ := List.mem_map.1 hr
  have h1 := keyM_size (ks i)
  have h2 := hv i
  unfold recM
  split
  · exact ⟨by show (keyM (ks i)).size ≤ _; omega, by show nilB.size ≤ _; decide⟩
  · exact ⟨by show (keyM (ks i)).size ≤ _; omega, by show (vs i).size ≤ _; omega⟩
end Go.Proofs.Ytdgnpoapkjoknaa
