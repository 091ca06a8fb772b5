/- Pairs lent, kept, spoilt. -/
import Derived.Test.YtdgnpoapkjoknaaIdxN
namespace Go.Proofs.Ytdgnpoapkjoknaa
set_option linter.unusedVariables false
set_option linter.unusedSimpArgs false
open Go.RowKit

def roomP : PairV := ⟨⟨#[111, 119, 110, 32, 114, 111, 111, 109]⟩, nilB⟩
set_option maxRecDepth 100000 in
set_option maxHeartbeats 4000000 in
theorem copy_pairs (w : World) (v : Value) (ps : List PairV) (h : RdP w v ps) (hsz : ps.length * 32 ≤ 140737488355328) :
    Calls Try.prog 37 #[v] w fun e w' => ∃ v', e = .returned v' ∧ OwnP w' w.heap.size v' ps ∧ Below w.heap.size w w' := by
  obtain ⟨A, c, rfl, hA, hcell⟩ := h.news
  have HC := Lib.hid hcell
  have HA := Lib.hid hA
  have hn := flatP_len ps
  obtain ⟨n, hn2⟩ : ∃ n, ps.length = n := ⟨_, rfl⟩
  rw [hn2] at hsz hn HA ⊢
  have HN := Lib.hid hn2
  have ho0 : Own (w.alloc (Obj.cells #[] 48)) w.heap.size 48 2 (.slice (some ⟨w.heap.size, 0, none⟩) 0 0) 0 [] :=
    ⟨rfl, .inr ⟨w.heap.size, 0, #[], (0, 0), rfl, Nat.le_refl _, heap_alloc_new w _, .inr rfl, Nat.le_refl _, by decide, rfl, rfl⟩⟩
  have HO := Lib.hid ho0
  clear hcell hA hn2 h ho0
  go_enter Try.func37, Try.ntmps37
  go_wp2_with (at_builtin; refine appO w.heap.size rfl (.tmp 3) (.tmp 4) 23 48 (.agg #[.string ⟨#[]⟩, .string ⟨#[]⟩]) 2 32 rfl Try.underlying23 infoPair zerosP_cells (by decide) (by decide) (.slice (some ⟨w.heap.size, 0, none⟩) 0 0) 0 [] rfl A n c (flatP ps) rfl hn (flatP_one ps) HA.out (fun ad had j u hu => cell_kept2 _ (HC.out ad had j u hu)) HO.out (Bl.alloc (Below.refl _ _) _).size (by omega) ?_; intro v1 w1 ho hg ha; have HO1 := Lib.hid ho; have HG := Lib.hid hg; clear ho hg ha)
  go_ret
  refine ⟨_, rfl, ?_, ?_⟩
  · have e := HO1.out
    rw [Nat.zero_add, List.nil_append] at e
    unfold OwnP
    rw [HN.out]
    exact e
  · exact Below.grown (Bl.alloc (Below.refl _ _) _) HG.out (Bl.alloc (Below.refl _ _) _).size (fun k hk => HO.out.base k hk)
set_option maxRecDepth 100000 in
set_option maxHeartbeats 4000000 in
theorem lend_pairs (w : World) (v : Value) (ps : List PairV) (h : RdP w v ps) (hsz : (ps.length + 2) * 32 ≤ 140737488355328) :
    Calls Try.prog 14 #[v] w fun e w' => ∃ g c, e = .returned (.slice (some ⟨g, 0, none⟩) ps.length c) ∧ OwnP w' w.heap.size (.slice (some ⟨g, 0, none⟩) (ps.length + 2) c) (ps ++ [roomP, roomP]) ∧ Below w.heap.size w w' := by
  obtain ⟨n, hn⟩ : ∃ n, ps.length = n := ⟨_, rfl⟩
  have CP := Lib.hid (copy_pairs w v ps h (by omega))
  obtain ⟨A, c, rfl⟩ := h.form
  rw [hn] at CP hsz ⊢
  have HN := Lib.hid hn
  have hl := flatP_len ps
  clear h hn
  go_enter Try.func14, Try.ntmps14
  go_wp2_with fail
  refine CP.out.mono ?_
  rintro e w1 ⟨v1, rfl, o1, hb⟩
  obtain ⟨A1, c1, rfl⟩ := Own.slice o1
  unfold OwnP at o1
  rw [HN.out] at o1 ⊢
  have O1 := Lib.hid o1
  have B1 := Lib.hid hb
  clear o1 hb
  go_wp2_with (at_builtin; refine appO w.heap.size rfl (.tmp 5) (.tmp 8) 23 48 (.agg #[.string ⟨#[]⟩, .string ⟨#[]⟩]) 2 32 rfl Try.underlying23 infoPair zerosP_cells (by decide) (by decide) (.slice A1 n c1) n (flatP ps) rfl (some ⟨w1.heap.size, 0, none⟩) 2 2 (flatP [roomP, roomP]) rfl rfl (flatP_one _) (fun h => by cases h) (fun ad had j u hu => by obtain ⟨A', c', h1, _, h3⟩ := (RdP.lit w1 [roomP, roomP] 2 w1.heap.size rfl rfl (by decide) 48).news; exact h3 ad (by rw [← (Value.slice.inj h1).1]; exact had) j u hu) (Own.alloc O1.out _) (Nat.le_trans B1.out.size (Bl.alloc (Below.refl _ _) _).size) hsz ?_; intro v2 w2 ho hg ha; have HO2 := Lib.hid ho; have HG := Lib.hid hg; obtain ⟨g2, cap2, rfl, hg3⟩ := ho.form (by omega); have HG3 := Lib.hid hg3; have c3 : n ≤ cap2 := Nat.le_trans (Nat.le_add_right n 2) hg3.2.2.1; have c2 : (n : Int) ≤ (cap2 : Int) := Int.ofNat_le.2 c3; clear ho hg ha hg3)
  go_ret
  refine ⟨g2, cap2, rfl, ?_, Below.grown (Bl.alloc B1.out _) HG.out (Bl.alloc B1.out _).size (fun q hq => Own.base O1.out q hq)⟩
  have e := HO2.out
  unfold OwnP
  rw [flatP_app, List.length_append, HN.out]
  exact e
theorem same_qp (va vb : Value) (xs : List PairV) (w : World) (ha : RdP w va xs) (hb : RdP w vb xs) : Calls Try.prog 21 #[va, vb] w fun e w' => e = .returned (.bool true) ∧ ∃ q, w' = w.drewN q :=
  (same_pairs va vb xs xs w ha hb).mono fun e w' ⟨h1, h2⟩ => ⟨by rw [h1, decide_eq_true rfl], h2⟩
theorem RdP.pre {w : World} {A : Option Addr} {m c : Nat} {xs ys : List PairV} (h : RdP w (.slice A m c) (xs ++ ys)) : RdP w (.slice A xs.length c) xs := by
  rcases h with ⟨h1, A', c', h2, h3⟩ | ⟨b, o, c', h1, h2, h3, h4⟩
  · simp at h1 h2
    obtain ⟨rfl, _⟩ := h1
    obtain ⟨rfl, _, rfl⟩ := h2
    exact .inl ⟨rfl, A, c, rfl, h3⟩
  · simp only [Value.slice.injEq] at h1
    obtain ⟨rfl, rfl, rfl⟩ := h1
    rw [List.length_append] at h2
    refine .inr ⟨b, o, c, rfl, by omega, h3, fun j u hu => h4 j u ?_⟩
    rw [flatP_app, List.getElem?_append_left (List.getElem?_eq_some_iff.1 hu).1]
    exact hu
set_option maxRecDepth 100000 in
set_option maxHeartbeats 4000000 in
theorem kept_pairs (w : World) (g c : Nat) (v : Value) (ps : List PairV) (h : RdP w (.slice (some ⟨g, 0, none⟩) (ps.length + 2) c) (ps ++ [roomP, roomP])) (h2 : RdP w v ps) (hsz : (ps.length + 2) * 32 ≤ 140737488355328) :
    Calls Try.prog 25 #[.slice (some ⟨g, 0, none⟩) ps.length c, v] w fun e w' => e = .returned (.bool true) ∧ Below w.heap.size w w' := by
  have SP := Lib.hid (same_qp _ _ ps w (RdP.pre h) h2)
  obtain ⟨b, o, c', hv, hc1, hc2, hcc⟩ := h.pos (by rw [List.length_append]; show 0 < _ + 2; omega)
  obtain ⟨A, d, rfl⟩ := h2.form
  obtain ⟨n, hn⟩ : ∃ n, ps.length = n := ⟨_, rfl⟩
  have hln : (ps ++ [roomP, roomP]).length = n + 2 := by rw [List.length_append, hn]; rfl
  rw [hln] at hv hcc hc1
  obtain ⟨h1, _, h3⟩ := Value.slice.inj hv
  obtain ⟨rfl, rfl⟩ := Addr.mk.inj (Option.some.inj h1) |> fun h => And.intro h.1 h.2.1
  subst h3
  have m1 : (ps ++ [roomP, roomP]).getD n zeroP = roomP := by
    rw [List.getD_eq_getElem?_getD, List.getElem?_append_right (by omega), hn, Nat.sub_self]; rfl
  have m2 : (ps ++ [roomP, roomP]).getD (n + 1) zeroP = roomP := by
    rw [List.getD_eq_getElem?_getD, List.getElem?_append_right (by omega), hn, show n + 1 - n = 1 by omega]; rfl
  obtain ⟨a0, a1⟩ := hcc n (by omega)
  obtain ⟨b0, b1⟩ := hcc (n + 1) (by omega)
  rw [m1] at a0 a1
  rw [m2] at b0 b1
  rw [Nat.zero_add] at a0 a1 b0 b1
  change w.cell? ⟨g, n * 2, none⟩ = some (.string ⟨#[111, 119, 110, 32, 114, 111, 111, 109]⟩) at a0
  change w.cell? ⟨g, n * 2 + 1, none⟩ = some (.string ⟨#[]⟩) at a1
  change w.cell? ⟨g, (n + 1) * 2, none⟩ = some (.string ⟨#[111, 119, 110, 32, 114, 111, 111, 109]⟩) at b0
  change w.cell? ⟨g, (n + 1) * 2 + 1, none⟩ = some (.string ⟨#[]⟩) at b1
  rw [hn] at SP hsz ⊢
  have kr : ∀ W, (binOp .eql 48 (.agg #[.string ⟨#[111, 119, 110, 32, 114, 111, 111, 109]⟩, .string ⟨#[]⟩]) (.agg #[.string ⟨#[111, 119, 110, 32, 114, 111, 111, 109]⟩, .string ⟨#[]⟩])).run Try.prog W = .ok (.bool true) W := fun W => by rw [eql_pair]; simp
  have hcn : n + 2 ≤ c := hc1
  have i1 : (n : Int) + 2 ≤ (c : Int) := by omega
  have i2 : (n : Int) < (n : Int) + 2 := by omega
  have i3 : (n : Int) + 1 < (n : Int) + 2 := by omega
  have hmx : n ≤ 4398046511104 := by omega
  clear h h2 hv h1 hcc hc1 m1 m2 hn hln
  go_enter Try.func25, Try.ntmps25
  go_wp2_with fail
  refine SP.out.mono ?_
  rintro e w1 ⟨rfl, q, rfl⟩
  go_wp2_with fail
  all_goals (go_ret; exact ⟨rfl, Bl.self _ _⟩)
end Go.Proofs.Ytdgnpoapkjoknaa
