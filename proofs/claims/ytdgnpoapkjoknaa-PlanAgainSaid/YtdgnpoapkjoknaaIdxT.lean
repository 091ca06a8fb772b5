/- Records lent, kept. -/
import Derived.Test.YtdgnpoapkjoknaaIdxS
namespace Go.Proofs.Ytdgnpoapkjoknaa
set_option linter.unusedVariables false
set_option linter.unusedSimpArgs false
open Go.RowKit

def roomR : RecV := ⟨0, 77777, nilB, nilB⟩
theorem infoRec : (Try.prog.info? 25).map (fun i => (i.zero, i.size, i.bytes)) = some (some (.agg #[.int .i64 0, .int .i64 0, .string ⟨#[]⟩, .string ⟨#[]⟩]), 4, 48) := by kernel_rfl
theorem zerosR_cells : (Value.agg #[.int .i64 0, .int .i64 0, .string ⟨#[]⟩, .string ⟨#[]⟩]).cells.size = 4 := by simp [Value.cells]
theorem flat_app (ps qs : List RecV) : flat (ps ++ qs) = flat ps ++ flat qs := by simp [flat]
def OwnR (w : World) (B : Nat) (v : Value) (rs : List RecV) : Prop := Own w B 25 4 v rs.length (flat rs)
set_option maxRecDepth 100000 in
set_option maxHeartbeats 4000000 in
theorem copy_recs (w : World) (v : Value) (ps : List RecV) (h : RdR w v ps) (hsz : ps.length * 48 ≤ 140737488355328) :
    Calls Try.prog 36 #[v] w fun e w' => ∃ v', e = .returned v' ∧ OwnR w' w.heap.size v' ps ∧ Below w.heap.size w w' := by
  obtain ⟨A, c, rfl, hA, hcell⟩ := h.news
  have HC := Lib.hid hcell
  have HA := Lib.hid hA
  have hn := flat_len ps
  obtain ⟨n, hn2⟩ : ∃ n, ps.length = n := ⟨_, rfl⟩
  rw [hn2] at hsz hn HA ⊢
  have HN := Lib.hid hn2
  have ho0 : Own (w.alloc (Obj.cells #[] 25)) w.heap.size 25 4 (.slice (some ⟨w.heap.size, 0, none⟩) 0 0) 0 [] :=
    ⟨rfl, .inr ⟨w.heap.size, 0, #[], (0, 0), rfl, Nat.le_refl _, heap_alloc_new w _, .inr rfl, Nat.le_refl _, by decide, rfl, rfl⟩⟩
  have HO := Lib.hid ho0
  clear hcell hA hn2 h ho0
  go_enter Try.func36, Try.ntmps36
  go_wp2_with (at_builtin; refine appO w.heap.size rfl (.tmp 3) (.tmp 4) 22 25 (.agg #[.int .i64 0, .int .i64 0, .string ⟨#[]⟩, .string ⟨#[]⟩]) 4 48 rfl Try.underlying22 infoRec zerosR_cells (by decide) (by decide) (.slice (some ⟨w.heap.size, 0, none⟩) 0 0) 0 [] rfl A n c (flat ps) rfl hn (flat_one ps) HA.out (fun ad had j u hu => cell_kept2 _ (HC.out ad had j u hu)) HO.out (Bl.alloc (Below.refl _ _) _).size (by omega) ?_; intro v1 w1 ho hg ha; have HO1 := Lib.hid ho; have HG := Lib.hid hg; clear ho hg ha)
  go_ret
  refine ⟨_, rfl, ?_, ?_⟩
  · have e := HO1.out
    rw [Nat.zero_add, List.nil_append] at e
    unfold OwnR
    rw [HN.out]
    exact e
  · exact Below.grown (Bl.alloc (Below.refl _ _) _) HG.out (Bl.alloc (Below.refl _ _) _).size (fun k hk => HO.out.base k hk)
set_option maxRecDepth 100000 in
set_option maxHeartbeats 4000000 in
theorem lend_recs (w : World) (v : Value) (ps : List RecV) (h : RdR w v ps) (hsz : (ps.length + 2) * 48 ≤ 140737488355328) :
    Calls Try.prog 13 #[v] w fun e w' => ∃ g c, e = .returned (.slice (some ⟨g, 0, none⟩) ps.length c) ∧ OwnR w' w.heap.size (.slice (some ⟨g, 0, none⟩) (ps.length + 2) c) (ps ++ [roomR, roomR]) ∧ Below w.heap.size w w' := by
  obtain ⟨n, hn⟩ : ∃ n, ps.length = n := ⟨_, rfl⟩
  have CP := Lib.hid (copy_recs w v ps h (by omega))
  obtain ⟨A, c, rfl⟩ := h.form
  rw [hn] at CP hsz ⊢
  have HN := Lib.hid hn
  have hl := flat_len ps
  clear h hn
  go_enter Try.func13, Try.ntmps13
  go_wp2_with fail
  refine CP.out.mono ?_
  rintro e w1 ⟨v1, rfl, o1, hb⟩
  obtain ⟨A1, c1, rfl⟩ := Own.slice o1
  unfold OwnR at o1
  rw [HN.out] at o1 ⊢
  have O1 := Lib.hid o1
  have B1 := Lib.hid hb
  clear o1 hb
  go_wp2_with (at_builtin; refine appO w.heap.size rfl (.tmp 5) (.tmp 8) 22 25 (.agg #[.int .i64 0, .int .i64 0, .string ⟨#[]⟩, .string ⟨#[]⟩]) 4 48 rfl Try.underlying22 infoRec zerosR_cells (by decide) (by decide) (.slice A1 n c1) n (flat ps) rfl (some ⟨w1.heap.size, 0, none⟩) 2 2 (flat [roomR, roomR]) rfl rfl (flat_one _) (fun h => by cases h) (fun ad had j u hu => by obtain ⟨A', c', h1, _, h3⟩ := (RdR.lit w1 [roomR, roomR] 2 w1.heap.size rfl rfl (by decide) 25).news; exact h3 ad (by rw [← (Value.slice.inj h1).1]; exact had) j u hu) (Own.alloc O1.out _) (Nat.le_trans B1.out.size (Bl.alloc (Below.refl _ _) _).size) hsz ?_; intro v2 w2 ho hg ha; have HO2 := Lib.hid ho; have HG := Lib.hid hg; obtain ⟨g2, cap2, rfl, hg3⟩ := ho.form (by omega); have HG3 := Lib.hid hg3; have c3 : n ≤ cap2 := Nat.le_trans (Nat.le_add_right n 2) hg3.2.2.1; have c2 : (n : Int) ≤ (cap2 : Int) := Int.ofNat_le.2 c3; clear ho hg ha hg3)
  go_ret
  refine ⟨g2, cap2, rfl, ?_, Below.grown (Bl.alloc B1.out _) HG.out (Bl.alloc B1.out _).size (fun q hq => Own.base O1.out q hq)⟩
  have e := HO2.out
  unfold OwnR
  rw [flat_app, List.length_append, HN.out]
  exact e
theorem same_qr (va vb : Value) (xs : List RecV) (w : World) (ha : RdR w va xs) (hb : RdR w vb xs) : Calls Try.prog 45 #[va, vb] w fun e w' => e = .returned (.bool true) ∧ ∃ q, w' = w.drewN q :=
  (same_recs va vb xs xs w ha hb).mono fun e w' ⟨h1, h2⟩ => ⟨by rw [h1, decide_eq_true rfl], h2⟩
theorem RdR.pre {w : World} {A : Option Addr} {m c : Nat} {xs ys : List RecV} (h : RdR w (.slice A m c) (xs ++ ys)) : RdR w (.slice A xs.length c) xs := by
  rcases h with ⟨h1, A', c', h2, h3⟩ | ⟨b, o, c', h1, h2, h3, h4⟩
  · simp at h1 h2
    obtain ⟨rfl, _⟩ := h1
    obtain ⟨rfl, _, rfl⟩ := h2
    exact .inl ⟨rfl, A, c, rfl, h3⟩
  · simp only [Value.slice.injEq] at h1
    obtain ⟨rfl, rfl, rfl⟩ := h1
    rw [List.length_append] at h2
    refine .inr ⟨b, o, c, rfl, by omega, h3, fun j u hu => h4 j u ?_⟩
    rw [flat_app, List.getElem?_append_left (List.getElem?_eq_some_iff.1 hu).1]
    exact hu
set_option maxRecDepth 100000 in
set_option maxHeartbeats 4000000 in
theorem kept_recs (w : World) (g c : Nat) (v : Value) (ps : List RecV) (h : RdR w (.slice (some ⟨g, 0, none⟩) (ps.length + 2) c) (ps ++ [roomR, roomR])) (h2 : RdR w v ps) (hsz : (ps.length + 2) * 48 ≤ 140737488355328) :
    Calls Try.prog 24 #[.slice (some ⟨g, 0, none⟩) ps.length c, v] w fun e w' => e = .returned (.bool true) ∧ Below w.heap.size w w' := by
  have SP := Lib.hid (same_qr _ _ ps w (RdR.pre h) h2)
  obtain ⟨b, o, c', hv, hc1, hc2, hcc⟩ := h.pos (by rw [List.length_append]; show 0 < _ + 2; omega)
  obtain ⟨A, d, rfl⟩ := h2.form
  obtain ⟨n, hn⟩ : ∃ n, ps.length = n := ⟨_, rfl⟩
  have hln : (ps ++ [roomR, roomR]).length = n + 2 := by rw [List.length_append, hn]; rfl
  rw [hln] at hv hcc hc1
  obtain ⟨h1, _, h3⟩ := Value.slice.inj hv
  obtain ⟨rfl, rfl⟩ := Addr.mk.inj (Option.some.inj h1) |> fun h => And.intro h.1 h.2.1
  subst h3
  have m1 : (ps ++ [roomR, roomR]).getD n zeroR = roomR := by
    rw [List.getD_eq_getElem?_getD, List.getElem?_append_right (by omega), hn, Nat.sub_self]; rfl
  have m2 : (ps ++ [roomR, roomR]).getD (n + 1) zeroR = roomR := by
    rw [List.getD_eq_getElem?_getD, List.getElem?_append_right (by omega), hn, show n + 1 - n = 1 by omega]; rfl
  obtain ⟨a0, a1, a2, a3⟩ := hcc n (by omega)
  obtain ⟨b0, b1, b2, b3⟩ := hcc (n + 1) (by omega)
  rw [m1] at a0 a1 a2 a3
  rw [m2] at b0 b1 b2 b3
  rw [Nat.zero_add] at a0 a1 a2 a3 b0 b1 b2 b3
  change w.cell? ⟨g, n * 4, none⟩ = some (.int .i64 0) at a0
  change w.cell? ⟨g, n * 4 + 1, none⟩ = some (.int .i64 77777) at a1
  change w.cell? ⟨g, n * 4 + 2, none⟩ = some (.string ⟨#[]⟩) at a2
  change w.cell? ⟨g, n * 4 + 3, none⟩ = some (.string ⟨#[]⟩) at a3
  change w.cell? ⟨g, (n + 1) * 4, none⟩ = some (.int .i64 0) at b0
  change w.cell? ⟨g, (n + 1) * 4 + 1, none⟩ = some (.int .i64 77777) at b1
  change w.cell? ⟨g, (n + 1) * 4 + 2, none⟩ = some (.string ⟨#[]⟩) at b2
  change w.cell? ⟨g, (n + 1) * 4 + 3, none⟩ = some (.string ⟨#[]⟩) at b3
  rw [hn] at SP hsz ⊢
  have kr := fun W => eql_same 0 77777 ⟨#[]⟩ ⟨#[]⟩ W
  have hcn : n + 2 ≤ c := hc1
  have i1 : (n : Int) + 2 ≤ (c : Int) := by omega
  have i2 : (n : Int) < (n : Int) + 2 := by omega
  have i3 : (n : Int) + 1 < (n : Int) + 2 := by omega
  have hmx : n ≤ 4398046511104 := by omega
  clear h h2 hv h1 hcc hc1 m1 m2 hn hln
  go_enter Try.func24, Try.ntmps24
  go_wp2_with fail
  refine SP.out.mono ?_
  rintro e w1 ⟨rfl, q, rfl⟩
  go_wp2_with fail
  all_goals (go_ret; exact ⟨rfl, Bl.self _ _⟩)
end Go.Proofs.Ytdgnpoapkjoknaa
