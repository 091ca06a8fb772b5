/- slices.Clone, slices.Insert at pairs. -/
import Derived.Test.YtdgnpoapkjoknaaIdxC
import Derived.Lib.SliceRun
namespace Go.Proofs.Ytdgnpoapkjoknaa
set_option linter.unusedVariables false
set_option linter.unusedSimpArgs false
open Go.RowKit

theorem Own.capd {w : World} {B : Nat} {e : TypeId} {size : Nat} {A : Option Addr} {n c : Nat} {xs : List Value} (h : Own w B e size (.slice A n c) n xs) : n ≤ c ∧ c ≤ 9223372036854775807 := by
  rcases h.2 with ⟨h', _⟩ | ⟨g', cap', cur, fz, h', _, _, _, h1, h2, _⟩
  · simp at h'
    omega
  · simp only [Value.slice.injEq, true_and] at h'
    obtain ⟨_, rfl⟩ := h'
    exact ⟨h1, by unfold maxLen at h2; omega⟩
theorem zerosP_cells : (Value.agg #[.string ⟨#[]⟩, .string ⟨#[]⟩]).cells.size = 2 := by simp [Value.cells]
theorem cell_kept2 {W : World} {a : Addr} {v : Value} (o : Obj) (h : W.cell? a = some v) : (W.alloc o).cell? a = some v :=
  ((Bl.alloc (Below.refl _ _) o).cell (World.block_lt_of_cell? _ _ h)).trans h
set_option maxRecDepth 100000 in
set_option maxHeartbeats 4000000 in
theorem pairs_clone (w : World) (v : Value) (ps : List PairV) (h : RdP w v ps) (hsz : ps.length * 32 ≤ 140737488355328) :
    Calls Try.prog 39 #[v] w fun e w' => ∃ v', e = .returned v' ∧ OwnP w' w.heap.size v' ps ∧ Below w.heap.size w w' := by
  obtain ⟨A, c, rfl, hA, hcell⟩ := h.news
  clear h
  cases A with
  | none =>
    obtain ⟨h0, rfl⟩ := hA rfl
    obtain rfl := List.eq_nil_of_length_eq_zero h0
    clear hcell hA h0
    have hq : ∀ W, (binOp .eql 23 (.slice none 0 0) (.slice none 0 0)).run Try.prog W = .ok (.bool true) W := fun W => Lib.run_eql_slice_nil W _ _ none 0 0 0 0 Try.underlying23
    go_enter Try.func39, Try.ntmps39
    go_wp2_with fail
    go_ret
    exact ⟨_, rfl, OwnP.nil _ _, Below.refl _ _⟩
  | some a =>
    have HC := Lib.hid (hcell a rfl)
    have hn := flatP_len ps
    obtain ⟨n, hn2⟩ : ∃ n, ps.length = n := ⟨_, rfl⟩
    rw [hn2] at hsz hn ⊢
    have HN := Lib.hid hn2
    clear hcell hA hn2
    have hq : ∀ W, (binOp .eql 23 (.slice (some a) n c) (.slice none 0 0)).run Try.prog W = .ok (.bool false) W := fun W => Lib.run_eql_slice_nil W _ _ (some a) n c 0 0 Try.underlying23
    go_enter Try.func39, Try.ntmps39
    have ho0 : Own (w.alloc (Obj.cells #[] 48)) w.heap.size 48 2 (.slice (some ⟨w.heap.size, 0, none⟩) 0 0) 0 [] :=
      ⟨rfl, .inr ⟨w.heap.size, 0, #[], (0, 0), rfl, Nat.le_refl _, heap_alloc_new w _, .inr rfl, Nat.le_refl _, by decide, rfl, rfl⟩⟩
    have HO := Lib.hid ho0
    clear ho0
    go_wp2_with (at_builtin; refine appO w.heap.size rfl (.tmp 5) (.tmp 6) 23 48 (.agg #[.string ⟨#[]⟩, .string ⟨#[]⟩]) 2 32 rfl Try.underlying23 infoPair zerosP_cells (by decide) (by decide) (.slice (some ⟨w.heap.size, 0, none⟩) 0 0) 0 [] rfl (some a) n c (flatP ps) rfl hn (flatP_one ps) (fun h => by cases h) (fun ad had j u hu => by obtain rfl := Option.some.inj had; exact cell_kept2 _ (HC.out j u hu)) HO.out (Bl.alloc (Below.refl _ _) _).size (by omega) ?_; intro v1 w1 ho hg ha; have HO1 := Lib.hid ho; have HG := Lib.hid hg; clear ho hg ha)
    go_ret
    refine ⟨_, rfl, ?_, ?_⟩
    · have e := HO1.out
      rw [Nat.zero_add, List.nil_append] at e
      unfold OwnP
      rw [HN.out]
      exact e
    · exact Below.grown (Bl.alloc (Below.refl _ _) _) HG.out (Bl.alloc (Below.refl _ _) _).size (fun k hk => HO.out.base k hk)
end Go.Proofs.Ytdgnpoapkjoknaa
