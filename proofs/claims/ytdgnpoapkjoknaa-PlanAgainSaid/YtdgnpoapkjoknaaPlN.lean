/- The statement PlanAgain: the walk. -/
import Derived.Test.YtdgnpoapkjoknaaPlM
import Derived.Test.YtdgnpoapkjoknaaPlG
import Derived.BigRegion
import Derived.Deep.RegionHeld3
import Derived.Deep.RegionLaw
namespace Go.Proofs.Ytdgnpoapkjoknaa
set_option linter.unusedVariables false
set_option linter.unusedSimpArgs false
open Go.RowKit

theorem OwnL.form' {w : World} {B : Nat} {v : Value} {m1 m2 : Int} {m3 : List Int} {m4 : List RecV} {m5 m6 : Int} {l3 l4 : Nat} (h : OwnL w B v ⟨m1, m2, m3, m4, m5, m6⟩) (h3 : m3.length = l3) (h4 : m4.length = l4) :
    ∃ S c R d, v = .agg #[.int .i64 m1, .int .i64 m2, .slice S l3 c, .slice R l4 d, .int .i64 m5, .int .i64 m6] := by
  obtain ⟨S, R, rfl, hs, hr⟩ := h
  obtain ⟨A, c, rfl⟩ := hs.slice
  obtain ⟨C, d, rfl⟩ := hr.slice
  subst h3 h4
  exact ⟨A, c, C, d, rfl⟩
theorem cells7 {w : World} {B g : Nat} {cs : List Value} (h : Own w B 60 1 (.slice (some ⟨g, 0, none⟩) 6 6) 6 cs) :
    (w.frozen? ⟨g, 0, none⟩ = false ∧ w.frozen? ⟨g, 1, none⟩ = false ∧ w.frozen? ⟨g, 2, none⟩ = false ∧ w.frozen? ⟨g, 3, none⟩ = false ∧ w.frozen? ⟨g, 4, none⟩ = false ∧ w.frozen? ⟨g, 5, none⟩ = false) ∧
    ((∃ u, w.cell? ⟨g, 0, none⟩ = some u) ∧ (∃ u, w.cell? ⟨g, 1, none⟩ = some u) ∧ (∃ u, w.cell? ⟨g, 2, none⟩ = some u) ∧ (∃ u, w.cell? ⟨g, 3, none⟩ = some u) ∧ (∃ u, w.cell? ⟨g, 4, none⟩ = some u) ∧ (∃ u, w.cell? ⟨g, 5, none⟩ = some u)) := by
  have h := cells6 h
  exact ⟨⟨h.1 0 (by decide), h.1 1 (by decide), h.1 2 (by decide), h.1 3 (by decide), h.1 4 (by decide), h.1 5 (by decide)⟩, ⟨h.2 0 (by decide), h.2 1 (by decide), h.2 2 (by decide), h.2 3 (by decide), h.2 4 (by decide), h.2 5 (by decide)⟩⟩
theorem set6_own {w : World} {B g : Nat} {cs : List Value} (h : Own w B 60 1 (.slice (some ⟨g, 0, none⟩) 6 6) 6 cs) (a b c d e f : Value) :
    Own ((((((w.setCell ⟨g, 0, none⟩ a).setCell ⟨g, 1, none⟩ b).setCell ⟨g, 2, none⟩ c).setCell ⟨g, 3, none⟩ d).setCell ⟨g, 4, none⟩ e).setCell ⟨g, 5, none⟩ f) B 60 1 (.slice (some ⟨g, 0, none⟩) 6 6) 6 [a, b, c, d, e, f] := by
  have h6 := ((((((h.stored 0 a).1.stored 1 b).1.stored 2 c).1.stored 3 d).1.stored 4 e).1.stored 5 f).1
  have hl : cs.length = 6 := h.len
  match cs, hl with
  | [_, _, _, _, _, _], _ => exact h6
theorem OwnL.off6 {w : World} {B B' g : Nat} {v : Value} {q : PlanV} {cs : List Value} (h : OwnL w B v q) (h' : Own w B' 60 1 (.slice (some ⟨g, 0, none⟩) 6 6) 6 cs) (a b c d e f : Value) :
    OwnL ((((((w.setCell ⟨g, 0, none⟩ a).setCell ⟨g, 1, none⟩ b).setCell ⟨g, 2, none⟩ c).setCell ⟨g, 3, none⟩ d).setCell ⟨g, 4, none⟩ e).setCell ⟨g, 5, none⟩ f) B v q := by
  obtain ⟨S, R, h1, h2, h3⟩ := h
  exact ⟨S, R, h1, Own.off6 h2 h' (by decide) a b c d e f, Own.off6 h3 h' (by decide) a b c d e f⟩
/-- What is known as the next view's row is made. -/
def GIn (w0 : World) (g : Nat) (cs : List Value) (R : Value) (k : Nat) (L : List RecV) (W : World) : Prop :=
  Own W w0.heap.size 57 1 (.slice (some ⟨g, 0, none⟩) 4 4) 4 cs ∧ Own W w0.heap.size 25 4 R k (flat L) ∧ Below w0.heap.size w0 W ∧ w0.heap.size ≤ W.heap.size
section
variable {w0 W w2 : World} {g : Nat} {cs : List Value} {R R' : Value} {k k' : Nat} {L L' : List RecV}
theorem GIn.alloc (h : GIn w0 g cs R k L W) (o : Obj) : GIn w0 g cs R k L (W.alloc o) := ⟨h.1.alloc o, h.2.1.alloc o, Bl.alloc h.2.2.1 o, Nat.le_trans h.2.2.2 (Bl.alloc (Below.refl _ _) o).size⟩
theorem GIn.drew (h : GIn w0 g cs R k L W) : GIn w0 g cs R k L W.drew := ⟨h.1.drewN 1, h.2.1.drewN 1, Bl.drewN h.2.2.1 1, h.2.2.2⟩
theorem GIn.step (h : GIn w0 g cs R k L W) (hg : W.grownBy w2 R.ownBlock) (ho : Own w2 w0.heap.size 25 4 R' k' (flat L')) :
    GIn w0 g (cs.set 2 R') R' k' L' (w2.setCell ⟨g, 2, none⟩ R') ∧ w2.frozen? ⟨g, 2, none⟩ = false ∧ Own w2 w0.heap.size 57 1 (.slice (some ⟨g, 0, none⟩) 4 4) 4 cs := by
  have v := h.1.kept hg (Own.ne (by decide) h.1 h.2.1)
  have st := v.stored 2 R'
  exact ⟨⟨st.1, ho.kept st.2 (Own.ne (by decide) ho v), (Below.grown h.2.2.1 hg h.2.2.1.size (fun q hq => h.2.1.base q hq)).setCell (p := ⟨g, 2, none⟩) (h.1.base g rfl) R', by rw [setCell_size]; exact Nat.le_trans h.2.2.2 hg.size⟩, v.free (by decide), v⟩
end
/-- What is known at the head of a round. -/
structure AgI (w : World) (gv : Nat) (a : Nat) (ep fr s : Int) (VR : Value) (vr : List RecV) (LV : Value) (W : World) : Prop where
  s4 : 4 ≤ s
  s8 : s < 8
  e1 : 1 ≤ ep
  e2 : ep ≤ 1 + (a : Int)
  f1 : 1 ≤ fr
  f8 : fr ≤ 8
  ok : bldOk vr
  len : vr.length ≤ 8 * (a + 1)
  sz : ∀ r ∈ vr, r.key.size ≤ 9223372036854775807 ∧ r.val.size ≤ 9223372036854775807
  lv : OwnP W w.heap.size LV (buildL vr)
  l7 : (buildL vr).length ≤ 7
  box : Own W w.heap.size 57 1 (.slice (some ⟨gv, 0, none⟩) 4 4) 4 [.bool true, .int .i64 ep, VR, .int .i64 fr]
  row : Own W w.heap.size 25 4 VR vr.length (flat vr)
  bl : Below w.heap.size w W
theorem AgI.below {w W W2 : World} {gv a : Nat} {ep fr s : Int} {VR : Value} {vr : List RecV} {LV : Value} (h : AgI w gv a ep fr s VR vr LV W) (hb : Below W.heap.size W W2) : AgI w gv a ep fr s VR vr LV W2 :=
  ⟨h.s4, h.s8, h.e1, h.e2, h.f1, h.f8, h.ok, h.len, h.sz, h.lv.below hb, h.l7, h.box.below hb, h.row.below hb, Bl.then h.bl hb⟩
theorem AgI.next {w W : World} {gv a : Nat} {ep fr s : Int} {VR : Value} {vr : List RecV} {LV : Value} (h : AgI w gv a ep fr s VR vr LV W) : AgI w gv (a + 1) ep fr s VR vr LV W :=
  ⟨h.s4, h.s8, h.e1, by have := h.e2; omega, h.f1, h.f8, h.ok, by have := h.len; omega, h.sz, h.lv, h.l7, h.box, h.row, h.bl⟩
theorem acc_szs {L0 rl : List RecV} {i : Nat} (h1 : ∀ r ∈ L0, r.key.size ≤ 9223372036854775807 ∧ r.val.size ≤ 9223372036854775807) (h2 : ∀ r ∈ rl, r.key.size ≤ 9223372036854775807 ∧ r.val.size ≤ 9223372036854775807) : ∀ r ∈ accN L0 rl i, r.key.size ≤ 9223372036854775807 ∧ r.val.size ≤ 9223372036854775807 := by
  intro r hr
  rcases List.mem_append.1 hr with hr | hr
  · exact h1 r hr
  · exact h2 r (List.mem_of_mem_take (List.mem_filter.1 hr).1)
/-- The four cells of a view are written anew: what is so elsewhere. -/
theorem Own.offV {w : World} {B B' n g : Nat} {e : TypeId} {size : Nat} {v : Value} {xs cs : List Value} (h : Own w B e size v n xs) (h' : Own w B' 57 1 (.slice (some ⟨g, 0, none⟩) 4 4) 4 cs) (hne : e ≠ 57) (a b c d : Value) :
    Own ((((w.setCell ⟨g, 0, none⟩ a).setCell ⟨g, 1, none⟩ b).setCell ⟨g, 2, none⟩ c).setCell ⟨g, 3, none⟩ d) B e size v n xs := by
  have s1 := h'.stored 0 a
  have s2 := s1.1.stored 1 b
  have s3 := s2.1.stored 2 c
  have s4 := s3.1.stored 3 d
  have k1 := h.kept s1.2 (Own.ne hne h h')
  have k2 := k1.kept s2.2 (Own.ne hne k1 s1.1)
  have k3 := k2.kept s3.2 (Own.ne hne k2 s2.1)
  exact k3.kept s4.2 (Own.ne hne k3 s3.1)
theorem setV_own {w : World} {B g : Nat} {cs : List Value} (h : Own w B 57 1 (.slice (some ⟨g, 0, none⟩) 4 4) 4 cs) (a b c d : Value) :
    Own ((((w.setCell ⟨g, 0, none⟩ a).setCell ⟨g, 1, none⟩ b).setCell ⟨g, 2, none⟩ c).setCell ⟨g, 3, none⟩ d) B 57 1 (.slice (some ⟨g, 0, none⟩) 4 4) 4 [a, b, c, d] := by
  have h4 := ((((h.stored 0 a).1.stored 1 b).1.stored 2 c).1.stored 3 d).1
  have hl : cs.length = 4 := h.len
  match cs, hl with
  | [_, _, _, _], _ => exact h4
theorem cellsV {w : World} {B g : Nat} {cs : List Value} (h : Own w B 57 1 (.slice (some ⟨g, 0, none⟩) 4 4) 4 cs) :
    (w.frozen? ⟨g, 0, none⟩ = false ∧ w.frozen? ⟨g, 1, none⟩ = false ∧ w.frozen? ⟨g, 2, none⟩ = false ∧ w.frozen? ⟨g, 3, none⟩ = false) :=
  ⟨h.free (by decide), h.free (by decide), h.free (by decide), h.free (by decide)⟩
theorem Bl.setV {w W : World} {g : Nat} (h : Below w.heap.size w W) (hg : w.heap.size ≤ g) (a b c d : Value) :
    Below w.heap.size w ((((W.setCell ⟨g, 0, none⟩ a).setCell ⟨g, 1, none⟩ b).setCell ⟨g, 2, none⟩ c).setCell ⟨g, 3, none⟩ d) :=
  (((h.setCell hg a (p := ⟨g, 0, none⟩)).setCell hg b (p := ⟨g, 1, none⟩)).setCell hg c (p := ⟨g, 2, none⟩)).setCell hg d (p := ⟨g, 3, none⟩)
/-- A region all of whose orders come to one form of end. -/
theorem region_ex6 {P : Program} {c : Code} {Q : Exit → Act → World → Prop} {a : Act} {w : World} (S : World → Nat → Option Addr → Nat → Option Addr → Nat → Prop) (A : World → Nat → Option Addr → Nat → Option Addr → Nat → Act) (W : World → Nat → Option Addr → Nat → Option Addr → Nat → World)
    (h2 : c.wp P (fun e a' w' => match e with | .normal => ∃ x1 x2 x3 x4 x5 x6, S x1 x2 x3 x4 x5 x6 ∧ a' = A x1 x2 x3 x4 x5 x6 ∧ w' = W x1 x2 x3 x4 x5 x6 | _ => False) a w) (h1 : ∀ x1 x2 x3 x4 x5 x6, S x1 x2 x3 x4 x5 x6 → Q .normal (A x1 x2 x3 x4 x5 x6) (W x1 x2 x3 x4 x5 x6)) : c.wp P Q a w :=
  Code.wp_mono (fun e a w h => by
    cases e with
    | normal => obtain ⟨x1, x2, x3, x4, x5, x6, hs, h', h''⟩ := h; subst h' h''; exact h1 _ _ _ _ _ _ hs
    | _ => exact h.elim) h2
theorem region_ex3 {P : Program} {c : Code} {Q : Exit → Act → World → Prop} {a : Act} {w : World} (S : Option Addr → Nat → World → Prop) (A : Option Addr → Nat → World → Act) (W : Option Addr → Nat → World → World)
    (h2 : c.wp P (fun e a' w' => match e with | .normal => ∃ x1 x2 x3, S x1 x2 x3 ∧ a' = A x1 x2 x3 ∧ w' = W x1 x2 x3 | _ => False) a w) (h1 : ∀ x1 x2 x3, S x1 x2 x3 → Q .normal (A x1 x2 x3) (W x1 x2 x3)) : c.wp P Q a w :=
  Code.wp_mono (fun e a w h => by
    cases e with
    | normal => obtain ⟨x1, x2, x3, hs, h', h''⟩ := h; subst h' h''; exact h1 _ _ _ hs
    | _ => exact h.elim) h2
theorem OwnL.recs {w : World} {B : Nat} {m1 m2 m5 m6 : Int} {m3 : List Int} {m4 : List RecV} {S4 R4 : Option Addr} {l3 l4 s4 r4 : Nat} (h : OwnL w B (.agg #[.int .i64 m1, .int .i64 m2, .slice S4 l3 s4, .slice R4 l4 r4, .int .i64 m5, .int .i64 m6]) ⟨m1, m2, m3, m4, m5, m6⟩) : RdR w (.slice R4 l4 r4) m4 := by
  obtain ⟨S5, R5, hq5, hos, hor⟩ := h
  simp only [Value.agg.injEq, Array.mk.injEq, List.cons.injEq, and_true, true_and] at hq5
  have h := RdR.own hor
  rw [← hq5.2] at h
  exact h
theorem bld_nil : bldOk [] ∧ buildL [] = [] := ⟨fun a h => by simp at h, by decide +kernel⟩
theorem rem_4' (x : Int) : ∃ k : Int, wrap64 ((IntKind.u64.wrap x).tmod 4) = k ∧ 0 ≤ k ∧ k < 4 := by
  have hu : 0 ≤ IntKind.u64.wrap x := by
    simp only [IntKind.wrap, IntKind.signed, IntKind.bits]
    exact Int.emod_nonneg _ (by decide)
  rw [Int.tmod_eq_emod_of_nonneg hu, IntWalk.wrap64_in _ ⟨by omega, by omega⟩]
  exact ⟨(IntKind.u64.wrap x) % 4, rfl, by omega, by omega⟩

set_option maxRecDepth 100000 in
set_option maxHeartbeats 16000000 in
theorem PlanAgain_walk (w : World) (va : Value) (rs : List RecV) (hF : RdR w va rs) (hb : rs.length * 48 ≤ 140737488351232) (hz : ∀ r ∈ rs, r.key.size ≤ 9223372036854775807 ∧ r.val.size ≤ 9223372036854775807) (sector : Int) (_ : -9223372036854775808 ≤ sector ∧ sector ≤ 9223372036854775807) :
    Calls Try.prog 12 #[va, .int .i64 sector] w fun e w' => e = .returned (.bool true) ∧ Below w.heap.size w w' := by
  obtain ⟨n, hn⟩ : ∃ n, rs.length = n := ⟨_, rfl⟩
  obtain ⟨A, c, rfl⟩ := hF.form
  have HP := Lib.hid (show RdR w (.slice A n c) rs by rw [← hn]; exact hF)
  have hmax : n ≤ 4398046511104 := by omega
  rw [hn]
  have HN := Lib.hid hn
  have HZ := Lib.hid hz
  clear hF hn hb hz
  obtain ⟨s0, hs, hs0, hs4⟩ := rem_4' sector
  have hws : wrap64 (4 + s0) = 4 + s0 := IntWalk.wrap64_in _ ⟨by omega, by omega⟩
  go_enter Try.func12, Try.ntmps12
  go_wp2_with fail
  with_reducible refine (awake22 _).mono ?_
  rintro e w1 ⟨rfl, hb⟩
  go_wp2_with fail
  (try simp only [hs, hws])
  have I0 := Lib.hid (show AgI w w1.heap.size 0 1 1 (4 + s0) (.slice none 0 0) [] (.slice none 0 0) (w1.alloc (Obj.cells #[.bool true, .int .i64 1, .slice none 0 0, .int .i64 1] 57)) from
    ⟨by omega, by omega, by decide, by decide, by decide, by decide, bld_nil.1, by decide, fun r hr => by simp at hr, by rw [bld_nil.2]; exact OwnP.nil _ _, by rw [bld_nil.2]; decide, (Own.arr w1 #[.bool true, .int .i64 1, .slice none 0 0, .int .i64 1] 57 4 rfl (by decide)).lower hb.size, Own.nil _ _ _ _, Bl.alloc hb _⟩)
  generalize w1.alloc (Obj.cells #[.bool true, .int .i64 1, .slice none 0 0, .int .i64 1] 57) = wl at *
  generalize w1.heap.size = gv at *
  clear hb hs hws
  go_loopw [6, 7, 8] (fun v6 v7 v8 wr => ∃ (a : Nat) (ep fr s : Int) (VR : Value) (vr : List RecV), a ≤ n ∧ a ≤ 30 ∧ v8 = .int .i64 (a : Int) ∧ v6 = .int .i64 s ∧ AgI w gv a ep fr s VR vr v7 wr) (fun _ _ i _ => (30 - intOf i).toNat)
  case atStart => exact ⟨0, 1, 1, _, _, _, Nat.zero_le _, Nat.zero_le _, rfl, rfl, I0.out⟩
  case round =>
    obtain ⟨a, ep, fr, s, VR, vr, han, ha30, rfl, rfl, hi⟩ := hrel
    obtain ⟨LA, lc, rfl⟩ := Own.slice hi.lv
    obtain ⟨VA, vc, rfl⟩ := hi.row.slice
    have HI := Lib.hid hi
    clear hi I0
    have hcase : (a < n ∧ a < 30) ∨ (decide ((a : Int) < (n : Int)) = false ∧ (a < n) = False) ∨ (decide ((a : Int) < (n : Int)) = true ∧ (a < n) = True ∧ decide ((a : Int) < 30) = false) := by
      by_cases h1 : a < n
      · by_cases h2 : a < 30
        · exact .inl ⟨h1, h2⟩
        · exact .inr (.inr ⟨decide_eq_true (by omega), eq_true h1, decide_eq_false (by omega)⟩)
      · exact .inr (.inl ⟨decide_eq_false (by omega), eq_false h1⟩)
    rcases hcase with ⟨h1, h2⟩ | hex
    · have hd1 : decide ((a : Int) < (n : Int)) = true := decide_eq_true (by omega)
      have hd2 : decide ((a : Int) < 30) = true := decide_eq_true (by omega)
      have h12 : (a : Int) < (n : Int) := by omega
      have RW := Lib.hid (HP.out.below HI.out.bl)
      obtain ⟨b, o, c', hv, _, _, hcc⟩ := RW.out.pos (by rw [HN.out]; omega)
      rw [HN.out] at hv hcc
      obtain ⟨rfl, rfl⟩ := Value.slice.inj hv |> fun h => And.intro h.1 h.2.2
      obtain ⟨g0, g1, g2, g3⟩ := hcc a h1
      have hs := sizes_at HZ.out (show a < rs.length by rw [HN.out]; exact h1)
      have H1 := Lib.hid h1
      have H2 := Lib.hid (show a + 1 ≤ 30 from h2)
      obtain ⟨r, hr⟩ : ∃ r, rs.getD a zeroR = r := ⟨_, rfl⟩
      have KC := Lib.hid (fun (W : World) (h : RdR W (.slice (some ⟨b, o, none⟩) n c) rs) => show W.cell? ⟨b, o + a * 4, none⟩ = some (.int .i64 r.k) ∧ W.cell? ⟨b, o + a * 4 + 1, none⟩ = some (.int .i64 r.e) ∧ W.cell? ⟨b, o + a * 4 + 2, none⟩ = some (.string r.key) ∧ W.cell? ⟨b, o + a * 4 + 3, none⟩ = some (.string r.val) from by
        obtain ⟨b', o', c9, hv, _, _, hcc⟩ := h.pos (by rw [HN.out]; omega)
        rw [HN.out] at hv
        obtain ⟨h1, _, _⟩ := Value.slice.inj hv
        obtain ⟨rfl, rfl⟩ : b = b' ∧ o = o' := by simpa using h1
        have := hcc a (by rw [HN.out]; exact H1.out)
        rwa [hr] at this)
      rw [hr] at g0 g1 g2 g3 hs
      have MA := Lib.hid (fun (W : World) => rmay_any r W hs.1 hs.2)
      have CA := Lib.hid (fun (W : World) (h : RdR W (.slice VA vr.length vc) vr) => change_any W ⟨true, ep, vr, fr⟩ (.slice VA vr.length vc) s r h (by have := HI.out.len; show (vr.length + 1) * 48 ≤ _; omega) HI.out.sz hs.1 hs.2)
      have WA := Lib.hid (fun (W : World) (u : Value) (h : RdP W u (buildL vr)) => rwith_any W u (buildL vr) r h (by have := HI.out.l7; omega) hs.1 hs.2)
      have FA := Lib.hid (fun (W : World) (u : Value) (h : RdP W u (buildL vr)) => rfind_any W u (buildL vr) r.key h (by have := HI.out.l7; omega))
      have LAW := Lib.hid (fun (hl : liveP r) => again_law ep vr fr s r HI.out.ok hl HI.out.e1 (by have := HI.out.e2; omega) HI.out.f1 HI.out.f8 HI.out.s4 HI.out.s8)
      have HMB := Lib.hid (show mayB r = true ↔ mayP r from decide_eq_true_iff)
      obtain ⟨mb, hmb⟩ : ∃ mb, mayB r = mb := ⟨_, rfl⟩
      rw [hmb] at HMB MA
      have HSZ := Lib.hid hs
      obtain ⟨rk, re, rkey, rval⟩ := r
      simp only at g0 g1 g2 g3 KC
      change Hid (∀ (W : World), Calls Try.prog 35 #[.agg #[.int .i64 rk, .int .i64 re, .string rkey, .string rval]] W _) at MA
      change Hid (∀ (W : World), RdR W (.slice VA vr.length vc) vr → Calls Try.prog 28 #[.agg #[.bool true, .int .i64 ep, .slice VA vr.length vc, .int .i64 fr], .int .i64 s, .agg #[.int .i64 rk, .int .i64 re, .string rkey, .string rval]] W _) at CA
      change Hid (∀ (W : World) (u : Value), RdP W u (buildL vr) → Calls Try.prog 18 #[u, .agg #[.int .i64 rk, .int .i64 re, .string rkey, .string rval]] W _) at WA
      change Hid (∀ (W : World) (u : Value), RdP W u (buildL vr) → Calls Try.prog 20 #[u, .string rkey] W _) at FA
      obtain ⟨ch, hch⟩ : ∃ ch, chL ⟨true, ep, vr, fr⟩ s ⟨rk, re, rkey, rval⟩ = ch := ⟨_, rfl⟩
      rw [hch] at CA LAW
      obtain ⟨⟨m1, m2, m3, m4, m5, m6⟩, er⟩ := ch
      simp only at CA LAW
      obtain ⟨l3, hl3⟩ : ∃ n, m3.length = n := ⟨_, rfl⟩
      obtain ⟨l4, hl4⟩ : ∃ n, m4.length = n := ⟨_, rfl⟩
      have L3 := Lib.hid hl3
      have L4 := Lib.hid hl4
      clear hch hl3 hl4
      obtain ⟨m, hm⟩ : ∃ m, vr.length = m := ⟨_, rfl⟩
      have HVL := Lib.hid hm
      clear hcc hv hr hs hmb h1 h2 hm
      by_cases hk : rk = 0
      · have d0 : (rk == 0) = true := by rw [hk]; rfl
        clear hk
        go_wp2_with fail
        go_roundw
        case rel => exact ⟨a + 1, ep, fr, s, _, vr, H1.out, H2.out, by first | go_num | rfl, rfl, HI.out.next⟩
        case measure => clear hd1 hd2; have h9 := H2.out; simp [intOf]; omega
      · have d0 : (rk == 0) = false := by rw [beq_eq_false_iff_ne]; exact hk
        cases mb with
        | false =>
          clear hk
          go_wp2_with (go_at_call 35; refine (MA.out _).mono ?_; rintro e w2 ⟨rfl, hb⟩; have I2 := Lib.hid (HI.out.below hb); clear hb)
          go_roundw
          case rel => exact ⟨a + 1, ep, fr, s, _, vr, H1.out, H2.out, by first | go_num | rfl, rfl, I2.out.next⟩
          case measure => clear hd1 hd2; have h9 := H2.out; simp [intOf]; omega
        | true =>
          have LW := Lib.hid (LAW.out ⟨HMB.out.1 rfl, hk⟩)
          clear hk LAW HMB
          go_wp2_with (go_at_call 35; refine (MA.out _).mono ?_; rintro e w2 ⟨rfl, hb⟩; have I2 := Lib.hid (HI.out.below hb); have RW2 := Lib.hid (RW.out.below hb); clear hb)
          clear g0 g1 g2 g3
          obtain ⟨g0, g1, g2, g3⟩ := KC.out _ RW2.out
          have c0 := I2.out.box.at' (j := 0) rfl
          have c1 := I2.out.box.at' (j := 1) rfl
          have c2 := I2.out.box.at' (j := 2) rfl
          have c3 := I2.out.box.at' (j := 3) rfl
          have SH := Lib.hid (show (w2.cell? ⟨gv, 0, none⟩ = some (.bool true) ∧ w2.cell? ⟨gv, 1, none⟩ = some (.int .i64 ep) ∧ w2.cell? ⟨gv, 2, none⟩ = some (.slice VA vr.length vc) ∧ w2.cell? ⟨gv, 3, none⟩ = some (.int .i64 fr)) ∧ (w2.cell? ⟨b, o + a * 4, none⟩ = some (.int .i64 rk) ∧ w2.cell? ⟨b, o + a * 4 + 1, none⟩ = some (.int .i64 re) ∧ w2.cell? ⟨b, o + a * 4 + 2, none⟩ = some (.string rkey) ∧ w2.cell? ⟨b, o + a * 4 + 3, none⟩ = some (.string rval)) ∧ Below w2.heap.size w2 w2 from ⟨⟨c0, c1, c2, c3⟩, ⟨g0, g1, g2, g3⟩, Below.refl _ _⟩)
          have ROW2 := Lib.hid (RdR.own I2.out.row)
          have KB := Lib.hid (fun (W : World) (hb : Below w2.heap.size w2 W) => (show (fun w' => (w'.cell? ⟨gv, 0, none⟩ = some (.bool true) ∧ w'.cell? ⟨gv, 1, none⟩ = some (.int .i64 ep) ∧ w'.cell? ⟨gv, 2, none⟩ = some (.slice VA vr.length vc) ∧ w'.cell? ⟨gv, 3, none⟩ = some (.int .i64 fr)) ∧ (w'.cell? ⟨b, o + a * 4, none⟩ = some (.int .i64 rk) ∧ w'.cell? ⟨b, o + a * 4 + 1, none⟩ = some (.int .i64 re) ∧ w'.cell? ⟨b, o + a * 4 + 2, none⟩ = some (.string rkey) ∧ w'.cell? ⟨b, o + a * 4 + 3, none⟩ = some (.string rval)) ∧ Below w2.heap.size w2 w') W from ⟨⟨(hb.cell (World.block_lt_of_cell? _ _ SH.out.1.1)).trans SH.out.1.1, (hb.cell (World.block_lt_of_cell? _ _ SH.out.1.2.1)).trans SH.out.1.2.1, (hb.cell (World.block_lt_of_cell? _ _ SH.out.1.2.2.1)).trans SH.out.1.2.2.1, (hb.cell (World.block_lt_of_cell? _ _ SH.out.1.2.2.2)).trans SH.out.1.2.2.2⟩, ⟨(hb.cell (World.block_lt_of_cell? _ _ SH.out.2.1.1)).trans SH.out.2.1.1, (hb.cell (World.block_lt_of_cell? _ _ SH.out.2.1.2.1)).trans SH.out.2.1.2.1, (hb.cell (World.block_lt_of_cell? _ _ SH.out.2.1.2.2.1)).trans SH.out.2.1.2.2.1, (hb.cell (World.block_lt_of_cell? _ _ SH.out.2.1.2.2.2)).trans SH.out.2.1.2.2.2⟩, hb⟩))
          have BD1 := Lib.hid (show Below w2.heap.size w2 w2.drew from Bl.drewN (Below.refl _ _) 1)
          have BD2 := Lib.hid (fun (o : Obj) => show Below w2.heap.size w2 (w2.alloc o).drew from Bl.drewN (Bl.alloc (Below.refl _ _) o) 1)
          have BD3 := Lib.hid (fun (o : Obj) => show Below w2.heap.size w2 (w2.drew.alloc o) from Bl.alloc BD1.out o)
          have RD1 := Lib.hid (ROW2.out.below BD1.out)
          have RD2 := Lib.hid (fun (o : Obj) => ROW2.out.below (BD2.out o))
          have RD3 := Lib.hid (fun (o : Obj) => ROW2.out.below (BD3.out o))
          clear c0 c1 c2 c3 g0 g1 g2 g3 SH
          have CA1 := Lib.hid (show Calls Try.prog 28 #[.agg #[.bool true, .int .i64 ep, .slice VA vr.length vc, .int .i64 fr], .int .i64 s, .agg #[.int .i64 rk, .int .i64 re, .string rkey, .string rval]] w2.drew (fun e w' => ∃ S4 s4 R4 r4, e = .returned (.tuple #[.agg #[.int .i64 m1, .int .i64 m2, .slice S4 l3 s4, .slice R4 l4 r4, .int .i64 m5, .int .i64 m6], .int .i64 er]) ∧ OwnL w' w2.drew.heap.size (.agg #[.int .i64 m1, .int .i64 m2, .slice S4 l3 s4, .slice R4 l4 r4, .int .i64 m5, .int .i64 m6]) ⟨m1, m2, m3, m4, m5, m6⟩ ∧ (fun w' => (w'.cell? ⟨gv, 0, none⟩ = some (.bool true) ∧ w'.cell? ⟨gv, 1, none⟩ = some (.int .i64 ep) ∧ w'.cell? ⟨gv, 2, none⟩ = some (.slice VA vr.length vc) ∧ w'.cell? ⟨gv, 3, none⟩ = some (.int .i64 fr)) ∧ (w'.cell? ⟨b, o + a * 4, none⟩ = some (.int .i64 rk) ∧ w'.cell? ⟨b, o + a * 4 + 1, none⟩ = some (.int .i64 re) ∧ w'.cell? ⟨b, o + a * 4 + 2, none⟩ = some (.string rkey) ∧ w'.cell? ⟨b, o + a * 4 + 3, none⟩ = some (.string rval)) ∧ Below w2.heap.size w2 w') w') from (CA.out _ RD1.out).mono fun e w4 hh => by
            obtain ⟨q4, rfl, oq4, hb4⟩ := hh
            obtain ⟨S4, s4, R4, r4, rfl⟩ := oq4.form' L3.out L4.out
            exact ⟨S4, s4, R4, r4, rfl, oq4, KB.out _ (Bl.then BD1.out hb4)⟩)
          have CA2 := Lib.hid (show Calls Try.prog 28 #[.agg #[.bool true, .int .i64 ep, .slice VA vr.length vc, .int .i64 fr], .int .i64 s, .agg #[.int .i64 rk, .int .i64 re, .string rkey, .string rval]] (w2.alloc (Obj.cells #[.int .i64 0, .int .i64 0, .slice none 0 0, .slice none 0 0, .int .i64 0, .int .i64 0] 60)).drew (fun e w' => ∃ S4 s4 R4 r4, e = .returned (.tuple #[.agg #[.int .i64 m1, .int .i64 m2, .slice S4 l3 s4, .slice R4 l4 r4, .int .i64 m5, .int .i64 m6], .int .i64 er]) ∧ OwnL w' (w2.alloc (Obj.cells #[.int .i64 0, .int .i64 0, .slice none 0 0, .slice none 0 0, .int .i64 0, .int .i64 0] 60)).drew.heap.size (.agg #[.int .i64 m1, .int .i64 m2, .slice S4 l3 s4, .slice R4 l4 r4, .int .i64 m5, .int .i64 m6]) ⟨m1, m2, m3, m4, m5, m6⟩ ∧ (fun w' => (w'.cell? ⟨gv, 0, none⟩ = some (.bool true) ∧ w'.cell? ⟨gv, 1, none⟩ = some (.int .i64 ep) ∧ w'.cell? ⟨gv, 2, none⟩ = some (.slice VA vr.length vc) ∧ w'.cell? ⟨gv, 3, none⟩ = some (.int .i64 fr)) ∧ (w'.cell? ⟨b, o + a * 4, none⟩ = some (.int .i64 rk) ∧ w'.cell? ⟨b, o + a * 4 + 1, none⟩ = some (.int .i64 re) ∧ w'.cell? ⟨b, o + a * 4 + 2, none⟩ = some (.string rkey) ∧ w'.cell? ⟨b, o + a * 4 + 3, none⟩ = some (.string rval)) ∧ Below w2.heap.size w2 w') w' ∧ Own w' w2.heap.size 60 1 (.slice (some ⟨w2.heap.size, 0, none⟩) 6 6) 6 [.int .i64 0, .int .i64 0, .slice none 0 0, .slice none 0 0, .int .i64 0, .int .i64 0]) from (CA.out _ (RD2.out _)).mono fun e w4 hh => by
            obtain ⟨q4, rfl, oq4, hb4⟩ := hh
            obtain ⟨S4, s4, R4, r4, rfl⟩ := oq4.form' L3.out L4.out
            exact ⟨S4, s4, R4, r4, rfl, oq4, KB.out _ (Bl.then (BD2.out _) hb4), Own.below ((Own.arr w2 #[.int .i64 0, .int .i64 0, .slice none 0 0, .slice none 0 0, .int .i64 0, .int .i64 0] 60 6 rfl (by decide)).drewN 1) hb4⟩)
          clear CA RD1 RD2 RD3
          apply region_ex6 (fun wz gp S4 s4 R4 r4 => Own wz w2.heap.size 60 1 (.slice (some ⟨gp, 0, none⟩) 6 6) 6 [.int .i64 m1, .int .i64 m2, .slice S4 l3 s4, .slice R4 l4 r4, .int .i64 m5, .int .i64 m6] ∧ Below w2.heap.size w2 wz ∧ RdR wz (.slice R4 l4 r4) m4)
          · go_region_held3 (fun w' => (w'.cell? ⟨gv, 0, none⟩ = some (.bool true) ∧ w'.cell? ⟨gv, 1, none⟩ = some (.int .i64 ep) ∧ w'.cell? ⟨gv, 2, none⟩ = some (.slice VA vr.length vc) ∧ w'.cell? ⟨gv, 3, none⟩ = some (.int .i64 fr)) ∧ (w'.cell? ⟨b, o + a * 4, none⟩ = some (.int .i64 rk) ∧ w'.cell? ⟨b, o + a * 4 + 1, none⟩ = some (.int .i64 re) ∧ w'.cell? ⟨b, o + a * 4 + 2, none⟩ = some (.string rkey) ∧ w'.cell? ⟨b, o + a * 4 + 3, none⟩ = some (.string rval)) ∧ Below w2.heap.size w2 w') (first | with_reducible exact KB.out _ BD1.out | with_reducible exact KB.out _ (BD2.out _) | with_reducible exact hs2 | with_reducible exact KB.out _ (Bl.alloc hs2.2.2 _) | with_reducible exact KB.out _ (Bl.set6 hs2.2.2 (Nat.le_refl _) _ _ _ _ _ _) | with_reducible assumption) ((go_at_call 28; first | (with_reducible refine CA1.out.mono ?_; rintro e w4 ⟨S4, s4, R4, r4, rfl, oq4, hs2⟩) | (with_reducible refine CA2.out.mono ?_; rintro e w4 ⟨S4, s4, R4, r4, rfl, oq4, hs2, PQ⟩; obtain ⟨⟨f0, f1, f2, f3, f4, f5⟩, ⟨n0, p0⟩, ⟨n1, p1⟩, ⟨n2, p2⟩, ⟨n3, p3⟩, ⟨n4, p4⟩, ⟨n5, p5⟩⟩ := cells7 PQ)))
            · have PX := Lib.hid ((Own.arr w4 #[.int .i64 m1, .int .i64 m2, .slice S4 l3 s4, .slice R4 l4 r4, .int .i64 m5, .int .i64 m6] 60 6 rfl (by decide)).lower hs2.2.2.size)
              have BZ := Lib.hid (Bl.alloc hs2.2.2 (Obj.cells #[.int .i64 m1, .int .i64 m2, .slice S4 l3 s4, .slice R4 l4 r4, .int .i64 m5, .int .i64 m6] 60))
              have OL := Lib.hid (oq4.below (Bl.alloc (Below.refl _ _) (Obj.cells #[.int .i64 m1, .int .i64 m2, .slice S4 l3 s4, .slice R4 l4 r4, .int .i64 m5, .int .i64 m6] 60)))
              clear oq4 hs2
              generalize w4.alloc (Obj.cells #[.int .i64 m1, .int .i64 m2, .slice S4 l3 s4, .slice R4 l4 r4, .int .i64 m5, .int .i64 m6] 60) = wz at *
              generalize w4.heap.size = gp at *
              exact Exists.intro wz ⟨gp, S4, s4, R4, r4, ⟨PX.out, BZ.out, OL.out.recs⟩, rfl, rfl⟩
            · have PX := Lib.hid (set6_own PQ (.int .i64 m1) (.int .i64 m2) (.slice S4 l3 s4) (.slice R4 l4 r4) (.int .i64 m5) (.int .i64 m6))
              have BZ := Lib.hid (Bl.set6 hs2.2.2 (Nat.le_refl _) (.int .i64 m1) (.int .i64 m2) (.slice S4 l3 s4) (.slice R4 l4 r4) (.int .i64 m5) (.int .i64 m6))
              have OL := Lib.hid (oq4.off6 PQ (.int .i64 m1) (.int .i64 m2) (.slice S4 l3 s4) (.slice R4 l4 r4) (.int .i64 m5) (.int .i64 m6))
              clear oq4 hs2 PQ f0 f1 f2 f3 f4 f5 p0 p1 p2 p3 p4 p5
              generalize ((((((w4.setCell ⟨w2.heap.size, 0, none⟩ (.int .i64 m1)).setCell ⟨w2.heap.size, 1, none⟩ (.int .i64 m2)).setCell ⟨w2.heap.size, 2, none⟩ (.slice S4 l3 s4)).setCell ⟨w2.heap.size, 3, none⟩ (.slice R4 l4 r4)).setCell ⟨w2.heap.size, 4, none⟩ (.int .i64 m5)).setCell ⟨w2.heap.size, 5, none⟩ (.int .i64 m6)) = wz at *
              exact Exists.intro wz ⟨w2.heap.size, S4, s4, R4, r4, ⟨PX.out, BZ.out, OL.out.recs⟩, rfl, rfl⟩
          · rintro wz gp S4 s4 R4 r4 ⟨px, bz, sr⟩
            have PX := Lib.hid px
            have BZ := Lib.hid bz
            have SR := Lib.hid sr
            clear px bz sr
            have I5 := Lib.hid (I2.out.below BZ.out)
            have RW5 := Lib.hid (RW2.out.below BZ.out)
            clear I2 RW2 BZ CA1 CA2 KB BD1 BD2 BD3 ROW2 HI RW
            obtain ⟨g0, g1, g2, g3⟩ := KC.out _ RW5.out
            go_wp2_with fail
            with_reducible refine (WA.out _ _ (OwnP.rd I5.out.lv)).mono ?_
            rw [LW.out.1, LW.out.2.1]
            rintro e w6 ⟨u6, rfl, o6, hb⟩
            obtain ⟨A6, c6, rfl⟩ := Own.slice o6
            have I6 := Lib.hid (I5.out.below hb)
            have RW6 := Lib.hid (RW5.out.below hb)
            have PX6 := Lib.hid (PX.out.below hb)
            have SR6' := Lib.hid (SR.out.below hb)
            have O6 := Lib.hid (OwnP.lower o6 I5.out.bl.size)
            clear hb o6 I5 RW5 PX SR g0 g1 g2 g3 WA
            obtain ⟨g0, g1, g2, g3⟩ := KC.out _ RW6.out
            go_wp2_with fail
            with_reducible refine (FA.out _ _ (OwnP.rd I6.out.lv)).mono ?_
            rintro e w7 ⟨rfl, rfl⟩
            rcases LW.out.2.2 with ⟨q1, q2, q3⟩ | ⟨q1, q2, q3⟩ | ⟨q1, q2, q, N, q3, hP, e1, e2, e3, e4, e5, e6⟩
            · obtain ⟨-, q4⟩ := Prod.mk.inj q3
              have q2 : rk = 2 := q2
              subst q4
              have d1 : (rk == 2) = true := by rw [q2]; rfl
              rw [q1]
              clear q1 q2 q3 LW FA
              go_wp2_with (go_at_call 22; refine (num_any _ _).mono ?_; rintro e w' ⟨rfl, rfl⟩)
              go_roundw
              case rel => exact ⟨a + 1, ep, fr, s, _, vr, H1.out, H2.out, by first | go_num | rfl, rfl, I6.out.next⟩
              case measure => clear hd1 hd2 d0 d1; have h9 := H2.out; simp [intOf]; omega
            · obtain ⟨-, q4⟩ := Prod.mk.inj q3
              subst q4
              have hsplit : (rk == 2) = false ∨ ((rk == 2) = true ∧ findB (buildL vr) rkey = true) := by
                by_cases h9 : rk = 2
                · refine .inr ⟨by rw [h9]; rfl, ?_⟩
                  cases hf : findB (buildL vr) rkey with
                  | true => rfl
                  | false => exact absurd ⟨hf, h9⟩ q1
                · exact .inl (by rw [beq_eq_false_iff_ne]; exact h9)
              obtain ⟨tl, htl⟩ : ∃ n, (putL (buildL vr) ⟨rk, re, rkey, rval⟩).length = n := ⟨_, rfl⟩
              rw [htl] at q2 ⊢
              have d7 : decide ((7 : Int) < (tl : Int)) = true := decide_eq_true (by omega)
              have d8 : (7 < tl) = True := eq_true q2
              clear q1 q2 q3 htl LW FA
              rcases hsplit with d1 | ⟨d1, d2⟩
              · go_wp2_with (go_at_call 22; refine (num_any _ _).mono ?_; rintro e w' ⟨rfl, rfl⟩)
                go_roundw
                case rel => exact ⟨a + 1, ep, fr, s, _, vr, H1.out, H2.out, by first | go_num | rfl, rfl, I6.out.next⟩
                case measure => clear hd1 hd2 d0 d1 d7 d8; have h9 := H2.out; simp [intOf]; omega
              · rw [d2]
                clear d2
                go_wp2_with (go_at_call 22; refine (num_any _ _).mono ?_; rintro e w' ⟨rfl, rfl⟩)
                go_roundw
                case rel => exact ⟨a + 1, ep, fr, s, _, vr, H1.out, H2.out, by first | go_num | rfl, rfl, I6.out.next⟩
                case measure => clear hd1 hd2 d0 d1 d7 d8; have h9 := H2.out; simp [intOf]; omega
            · obtain ⟨q4, q5⟩ := Prod.mk.inj q3
              subst q4
              subst q5
              obtain ⟨p1, p2, p3, p4, p5, p6, p7, p8, p9, p10, p11⟩ := hP
              simp only at p3 p4 p7 p8 p10 p11 e1 e2 e3 e4 e5 e6
              have hN3 : l3 = N := L3.out.symm.trans p3
              have hN4 : l4 = N := L4.out.symm.trans p4
              subst hN3
              rw [hN4] at SR6' PX6 ⊢
              have L4' := Lib.hid p4
              obtain ⟨T, hT⟩ : ∃ T, putL (buildL vr) ⟨rk, re, rkey, rval⟩ = T := ⟨_, rfl⟩
              rw [hT] at p8 p9 O6 q2 ⊢
              obtain ⟨tl, htl⟩ : ∃ n, T.length = n := ⟨_, rfl⟩
              rw [htl] at p9 q2 ⊢
              have HTL := Lib.hid htl
              have P7 := Lib.hid p7
              have P8 := Lib.hid p8
              have P9 := Lib.hid p9
              have P11 := Lib.hid p11
              have E56 := Lib.hid (And.intro e5 e6)
              have E1234 := Lib.hid (And.intro e1 (And.intro e2 (And.intro e3 e4)))
              have P6 := Lib.hid p6
              have hsplit : (rk == 2) = false ∨ ((rk == 2) = true ∧ findB (buildL vr) rkey = true) := by
                by_cases h9 : rk = 2
                · refine .inr ⟨by rw [h9]; rfl, ?_⟩
                  cases hf : findB (buildL vr) rkey with
                  | true => rfl
                  | false => exact absurd ⟨hf, h9⟩ q1
                · exact .inl (by rw [beq_eq_false_iff_ne]; exact h9)
              have d7 : decide ((7 : Int) < (tl : Int)) = false := decide_eq_false (by omega)
              have d8 : (7 < tl) = False := eq_false q2
              have d9 : decide (m5 < 1) = false := decide_eq_false (by omega)
              have d10 : decide ((8 : Int) < m5) = false := decide_eq_false (by omega)
              have y0 := PX6.out.at' (j := 0) rfl
              have y4 := PX6.out.at' (j := 4) rfl
              have y5 := PX6.out.at' (j := 5) rfl
              have SR6 := Lib.hid (show RdR w7 (.slice R4 l3 r4) m4 from SR6'.out)
              clear SR6' q1 q2 e1 e2 e3 e4 e5 e6 p1 p2 p3 p4 p5 p6 p7 p8 p9 p10 p11 htl LW FA
              have GI0 := Lib.hid (show GIn w7 w7.heap.size [.bool true, .int .i64 m6, .slice none 0 0, .int .i64 m5] (.slice none 0 0) 0 [] (w7.alloc (Obj.cells #[.bool true, .int .i64 m6, .slice none 0 0, .int .i64 m5] 57)) from ⟨Own.arr w7 #[.bool true, .int .i64 m6, .slice none 0 0, .int .i64 m5] 57 4 rfl (by decide), Own.nil _ _ _ _, Bl.alloc (Below.refl _ _) _, (Bl.alloc (Below.refl w7.heap.size w7) _).size⟩)
              rcases hsplit with d1 | ⟨d1, d2⟩
              · skip
                have yy0 := (PX6.out.alloc (Obj.cells #[.bool true, .int .i64 m6, .slice none 0 0, .int .i64 m5] 57)).at' (j := 0) rfl
                have cc2 := (I6.out.box.alloc (Obj.cells #[.bool true, .int .i64 m6, .slice none 0 0, .int .i64 m5] 57)).at' (j := 2) rfl
                have vb2 := GI0.out.1.at' (j := 2) rfl
                by_cases hw : m1 < 0
                · have hw1 : decide (m1 < 0) = true := decide_eq_true hw
                  have A8 := Lib.hid (show buildE (accN vr m4 l3) = 0 ∧ buildL (accN vr m4 l3) = T by have h := P8.out; rwa [if_pos hw] at h)
                  have LEN0 := Lib.hid (show vr.length ≤ 8 * (a + 1) ∧ a + 1 ≤ 30 from ⟨I6.out.len, H2.out⟩)
                  obtain ⟨A9, c9, hAv, hA0, hAc⟩ := (RdR.own (I6.out.row.alloc (Obj.cells #[.bool true, .int .i64 m6, .slice none 0 0, .int .i64 m5] 57))).news
                  obtain ⟨rfl, _, rfl⟩ := Value.slice.inj hAv
                  have HA0 := Lib.hid hA0
                  have HAC := Lib.hid hAc
                  have FL := Lib.hid (show (flat vr).length = vr.length * 4 from flat_len vr)
                  have hbytes : (0 + vr.length) * 48 ≤ 140737488355328 := by have h := LEN0.out; omega
                  clear hw hAv hA0 hAc
                  go_wp2_with (first | (go_at_call 22; refine (num_any _ _).mono ?_; rintro e w' ⟨rfl, rfl⟩) | (at_builtin; refine appO w7.heap.size rfl (.tmp 121) (.tmp 123) 22 25 (.agg #[.int .i64 0, .int .i64 0, .string ⟨#[]⟩, .string ⟨#[]⟩]) 4 48 rfl Try.underlying22 infoRecX rfl (by decide) (by decide) _ 0 [] rfl VA vr.length vc (flat vr) rfl FL.out (flat_one vr) HA0.out HAC.out (Own.nil _ _ _ _) GI0.out.2.2.2 hbytes ?_; intro v1 w9 ho hg ha; have ST := GI0.out.step (R' := v1) (k' := (accN vr m4 0).length) (L' := accN vr m4 0) hg (by rw [accN_zero]; rw [Nat.zero_add, List.nil_append] at ho; exact ho); have J := Lib.hid ST.1; have z3 := ST.2.1; have y3' := ST.2.2.at' (j := 2) rfl; obtain ⟨D3, c3, hv3⟩ : ∃ A c, v1 = .slice A vr.length c := (by have h := ho.slice; rwa [Nat.zero_add] at h); subst hv3; clear ho hg ha ST))
                  clear yy0 cc2 vb2 y0 y4 y5 hbytes g0 g1 g2 g3
                  go_loopw [16] (fun ii wr => ∃ (j : Nat) (R : Value), j ≤ l3 ∧ ii = .int .i64 (j : Int) ∧ GIn w7 w7.heap.size [.bool true, .int .i64 m6, R, .int .i64 m5] R (accN vr m4 j).length (accN vr m4 j) wr) (fun ii _ => (l3 - intOf ii).toNat)
                  case atStart => exact ⟨0, _, Nat.zero_le _, rfl, J.out⟩
                  case round =>
                    obtain ⟨j, R, hjN, rfl, hi⟩ := hrel
                    obtain ⟨RA, rc, hR⟩ := hi.2.1.slice
                    subst hR
                    have HJ := Lib.hid hi
                    clear hi J
                    have PX8 := Lib.hid (PX6.out.below HJ.out.2.2.1)
                    have SR8 := Lib.hid (SR6.out.below HJ.out.2.2.1)
                    have y3 := PX8.out.at' (j := 3) rfl
                    by_cases hlt : j < l3
                    · have hlt2 : (j : Int) < (l3 : Int) := Int.ofNat_lt.2 hlt
                      have hd1 : decide ((j : Int) < (l3 : Int)) = true := decide_eq_true hlt2
                      obtain ⟨b2, oo2, c2', hv2, _, _, hcc2⟩ := SR8.out.pos (by rw [L4'.out]; omega)
                      rw [L4'.out] at hv2 hcc2
                      obtain ⟨rfl, rfl⟩ := Value.slice.inj hv2 |> fun h => And.intro h.1 h.2.2
                      obtain ⟨x0, x1, x2, x3⟩ := hcc2 j hlt
                      have AY := Lib.hid (accN_yes (L0 := vr) (rl := m4) (i := j) (by rw [L4'.out]; exact hlt))
                      have AN := Lib.hid (accN_no (L0 := vr) (rl := m4) (i := j) (by rw [L4'.out]; exact hlt))
                      obtain ⟨rr, hrr⟩ : ∃ x, m4.getD j zeroR = x := ⟨_, rfl⟩
                      rw [hrr] at x0 x1 x2 x3 AY AN
                      obtain ⟨qk, qe, qkey, qval⟩ := rr
                      simp only at x0 x1 x2 x3 AY AN
                      have hlen := accN_len vr m4 j
                      have hby : ((accN vr m4 j).length + 1) * 48 ≤ 140737488355328 := by have h1 := LEN0.out; have h2 := P6.out; omega
                      have HLT := Lib.hid hlt
                      have hl8 : l3 ≤ 8 := P6.out
                      clear hv2 hcc2 hrr hlen hjN
                      by_cases hqk : qk = 0
                      · have hqd : (qk != 0) = false := by rw [hqk]; rfl
                        have HK9 := Lib.hid hqk
                        clear hqk
                        go_wp2_with fail
                        go_roundw
                        case rel =>
                          refine ⟨j + 1, .slice RA (accN vr m4 j).length rc, HLT.out, by first | go_num | rfl, ?_⟩
                          rw [AN.out HK9.out]
                          exact HJ.out
                        case measure => clear hd1; have h9 := HLT.out; simp [intOf]; omega
                      · have hqd : (qk != 0) = true := by rw [bne_iff_ne]; exact hqk
                        have HK9 := Lib.hid hqk
                        have HS := Lib.hid (AY.out hqk)
                        clear hqk
                        have c2 := HJ.out.1.at' (j := 2) rfl
                        have c2a := (HJ.out.alloc (Obj.cells #[.int .i64 qk, .int .i64 qe, .string qkey, .string qval] 25)).1.at' (j := 2) rfl
                        have BN := Lib.hid (fun (a1 a2 a3 a4 : Value) (ty : TypeId) => show Bx (wr.alloc (Obj.cells #[a1, a2, a3, a4] ty)).drew wr.heap.size a1 a2 a3 a4 from (Bx.new wr a1 a2 a3 a4 ty).below (Bl.self _ 1))
                        go_wp2_with fail
                        apply region_ex3 (fun D3 c3 w9 => GIn w7 w7.heap.size [.bool true, .int .i64 m6, .slice D3 ((accN vr m4 j).length + 1) c3, .int .i64 m5] (.slice D3 ((accN vr m4 j).length + 1) c3) (accN vr m4 (j + 1)).length (accN vr m4 (j + 1)) (w9.setCell ⟨w7.heap.size, 2, none⟩ (.slice D3 ((accN vr m4 j).length + 1) c3)))
                        · go_region_law (refine stepO w7.heap.size rfl (.tmp 141) (.tmp 147) 22 25 (.agg #[.int .i64 0, .int .i64 0, .string ⟨#[]⟩, .string ⟨#[]⟩]) 4 48 rfl Try.underlying22 infoRecX rfl (by decide) (by decide) (.slice RA (accN vr m4 j).length rc) (accN vr m4 j).length (flat (accN vr m4 j)) (by simp [Act.eval, Act.put]) (some ⟨wr.heap.size, 0, none⟩) 1 1 [.int .i64 qk, .int .i64 qe, .string qkey, .string qval] (by simp [Act.eval, Act.put]) rfl (cellsR_one ⟨qk, qe, qkey, qval⟩) (fun h => by cases h) (box4 (BN.out _ _ _ _ _)) (HJ.out.alloc (Obj.cells #[.int .i64 qk, .int .i64 qe, .string qkey, .string qval] 25)).drew.2.1 (HJ.out.alloc (Obj.cells #[.int .i64 qk, .int .i64 qe, .string qkey, .string qval] 25)).drew.2.2.2 hby ?_; intro v3 w9 ho hgw ha; have ST := (HJ.out.alloc (Obj.cells #[.int .i64 qk, .int .i64 qe, .string qkey, .string qval] 25)).drew.step (R' := v3) (k' := (accN vr m4 (j + 1)).length) (L' := accN vr m4 (j + 1)) hgw (by rw [HS.out, flat_snoc, List.length_append]; exact ho); have J2 := Lib.hid ST.1; have z3' := ST.2.1; have y3' := ST.2.2.at' (j := 2) rfl; obtain ⟨D3, c3, hv3⟩ := ho.slice; subst hv3; clear ho hgw ha ST)
                          all_goals exact Exists.intro D3 ⟨c3, w9, J2.out, rfl, rfl⟩
                        · rintro D3 c3 w9 hj2
                          have J2 := Lib.hid hj2
                          clear hj2
                          go_wp2_with fail
                          go_roundw
                          case rel => exact ⟨j + 1, _, HLT.out, by first | go_num | rfl, J2.out⟩
                          case measure => clear hd1; have h9 := HLT.out; simp [intOf]; omega
                    · obtain rfl : j = l3 := Nat.le_antisymm hjN (Nat.not_lt.1 hlt)
                      have hd9 : decide ((j : Int) < (j : Int)) = false := decide_eq_false (Int.lt_irrefl _)
                      have BX := Lib.hid (I6.out.box.below HJ.out.2.2.1)
                      have v0 := HJ.out.1.at' (j := 0) rfl
                      have v1 := HJ.out.1.at' (j := 1) rfl
                      have v2 := HJ.out.1.at' (j := 2) rfl
                      have v3 := HJ.out.1.at' (j := 3) rfl
                      have x0 := BX.out.at' (j := 0) rfl
                      have x1 := BX.out.at' (j := 1) rfl
                      have x2 := BX.out.at' (j := 2) rfl
                      have x3 := BX.out.at' (j := 3) rfl
                      obtain ⟨f0, f1, f2, f3⟩ := cellsV BX.out
                      have SB := Lib.hid (setV_own BX.out (.bool true) (.int .i64 m6) (.slice RA (accN vr m4 j).length rc) (.int .i64 m5))
                      have PX9 := Lib.hid (PX8.out.offV BX.out (by decide) (.bool true) (.int .i64 m6) (.slice RA (accN vr m4 j).length rc) (.int .i64 m5))
                      have RO9 := Lib.hid (HJ.out.2.1.offV BX.out (by decide) (.bool true) (.int .i64 m6) (.slice RA (accN vr m4 j).length rc) (.int .i64 m5))
                      have LV9 := Lib.hid (show Own _ _ _ _ _ _ _ from (Own.below O6.out HJ.out.2.2.1).offV BX.out (by decide) (.bool true) (.int .i64 m6) (.slice RA (accN vr m4 j).length rc) (.int .i64 m5))
                      have BL9 := Lib.hid (Bl.setV (Bl.then I6.out.bl HJ.out.2.2.1) (I6.out.box.base gv rfl) (.bool true) (.int .i64 m6) (.slice RA (accN vr m4 j).length rc) (.int .i64 m5))
                      have u1 := PX9.out.at' (j := 1) rfl
                      have u2 := SB.out.at' (j := 2) rfl
                      have hlen := accN_len vr m4 j
                      have AL := Lib.hid (show (accN vr m4 j).length ≤ 8 * (a + 1 + 1) by have h1 := LEN0.out; have h2 := P6.out; omega)
                      have BB := rbuild_any ((((wr.setCell ⟨gv, 0, none⟩ (.bool true)).setCell ⟨gv, 1, none⟩ (.int .i64 m6)).setCell ⟨gv, 2, none⟩ (.slice RA (accN vr m4 j).length rc)).setCell ⟨gv, 3, none⟩ (.int .i64 m5)) _ (accN vr m4 j) (RdR.own RO9.out) (by have h1 := LEN0.out; have h2 := P6.out; omega) (acc_szs I6.out.sz P11.out)
                      rw [A8.out.1, A8.out.2] at BB
                      have BBH := Lib.hid BB
                      clear BB hlen hlt hjN PX8 SR8 HJ GI0
                      go_wp2_with fail
                      generalize ((((wr.setCell ⟨gv, 0, none⟩ (.bool true)).setCell ⟨gv, 1, none⟩ (.int .i64 m6)).setCell ⟨gv, 2, none⟩ (.slice RA (accN vr m4 j).length rc)).setCell ⟨gv, 3, none⟩ (.int .i64 m5)) = wx at *
                      clear y3 x0 x1 x2 x3 v0 v1 v2 v3 f0 f1 f2 f3
                      with_reducible refine BBH.out.mono ?_
                      rintro e w10 ⟨va, rfl, oa, hb⟩
                      obtain ⟨A10, c10, rfl⟩ := Own.slice oa
                      rw [HTL.out]
                      have OC := Lib.hid (show RdP w10 (.slice A10 tl c10) T by have h := OwnP.rd oa; rwa [HTL.out] at h)
                      have LVA := Lib.hid (show OwnP wx w.heap.size (.slice A6 tl c6) T by have h : OwnP wx w.heap.size (.slice A6 T.length c6) T := LV9.out; rwa [HTL.out] at h)
                      have NEXT := Lib.hid (show AgI w gv (a + 1) m6 m5 m2 (.slice RA (accN vr m4 j).length rc) (accN vr m4 j) (.slice A6 tl c6) wx from ⟨E56.out.1, E56.out.2, E1234.out.2.2.1, by have h1 := E1234.out.2.2.2; have h2 := I6.out.e2; omega, E1234.out.1, E1234.out.2.1, acc_bld A8.out.1, AL.out, acc_szs I6.out.sz P11.out, by rw [A8.out.2]; exact LVA.out, by rw [A8.out.2, HTL.out]; have := P9.out; omega, SB.out, Own.lower RO9.out I6.out.bl.size, BL9.out⟩)
                      have OD := Lib.hid (OwnP.rd (LVA.out.below hb))
                      have SP := Lib.hid (same_pairs _ _ T T _ OC.out OD.out)
                      rw [decide_eq_true (rfl : T = T)] at SP
                      have HB := Lib.hid hb
                      clear oa hb u1 u2
                      go_wp2_with (go_at_call 21; refine SP.out.mono ?_; rintro e w' ⟨rfl, q8, rfl⟩)
                      go_roundw
                      case rel => exact ⟨a + 1, m6, m5, m2, _, accN vr m4 j, H1.out, H2.out, by first | go_num | rfl, rfl, NEXT.out.below (Bl.drewN HB.out _)⟩
                      case measure => clear hd1 hd2 d0 d1 d7 d8 d9 d10 hw1 hd9; have h9 := H2.out; simp [intOf]; omega
                · have hw1 : decide (m1 < 0) = false := decide_eq_false hw
                  have A8 := Lib.hid (show buildE (accN [] m4 l3) = 0 ∧ buildL (accN [] m4 l3) = T by have h := P8.out; rwa [if_neg hw] at h)
                  have LEN0 := Lib.hid (show ([] : List RecV).length ≤ 8 * (a + 1) ∧ a + 1 ≤ 30 from ⟨Nat.zero_le _, H2.out⟩)
                  have J := Lib.hid (show GIn w7 w7.heap.size [.bool true, .int .i64 m6, .slice none 0 0, .int .i64 m5] (.slice none 0 0) (accN [] m4 0).length (accN [] m4 0) (w7.alloc (Obj.cells #[.bool true, .int .i64 m6, .slice none 0 0, .int .i64 m5] 57)) from by rw [accN_zero]; exact GI0.out)
                  clear hw
                  go_wp2_with (go_at_call 22; refine (num_any _ _).mono ?_; rintro e w' ⟨rfl, rfl⟩)
                  clear yy0 cc2 vb2 y0 y4 y5 g0 g1 g2 g3
                  go_loopw [16] (fun ii wr => ∃ (j : Nat) (R : Value), j ≤ l3 ∧ ii = .int .i64 (j : Int) ∧ GIn w7 w7.heap.size [.bool true, .int .i64 m6, R, .int .i64 m5] R (accN [] m4 j).length (accN [] m4 j) wr) (fun ii _ => (l3 - intOf ii).toNat)
                  case atStart => exact ⟨0, _, Nat.zero_le _, rfl, J.out⟩
                  case round =>
                    obtain ⟨j, R, hjN, rfl, hi⟩ := hrel
                    obtain ⟨RA, rc, hR⟩ := hi.2.1.slice
                    subst hR
                    have HJ := Lib.hid hi
                    clear hi J
                    have PX8 := Lib.hid (PX6.out.below HJ.out.2.2.1)
                    have SR8 := Lib.hid (SR6.out.below HJ.out.2.2.1)
                    have y3 := PX8.out.at' (j := 3) rfl
                    by_cases hlt : j < l3
                    · have hlt2 : (j : Int) < (l3 : Int) := Int.ofNat_lt.2 hlt
                      have hd1 : decide ((j : Int) < (l3 : Int)) = true := decide_eq_true hlt2
                      obtain ⟨b2, oo2, c2', hv2, _, _, hcc2⟩ := SR8.out.pos (by rw [L4'.out]; omega)
                      rw [L4'.out] at hv2 hcc2
                      obtain ⟨rfl, rfl⟩ := Value.slice.inj hv2 |> fun h => And.intro h.1 h.2.2
                      obtain ⟨x0, x1, x2, x3⟩ := hcc2 j hlt
                      have AY := Lib.hid (accN_yes (L0 := []) (rl := m4) (i := j) (by rw [L4'.out]; exact hlt))
                      have AN := Lib.hid (accN_no (L0 := []) (rl := m4) (i := j) (by rw [L4'.out]; exact hlt))
                      obtain ⟨rr, hrr⟩ : ∃ x, m4.getD j zeroR = x := ⟨_, rfl⟩
                      rw [hrr] at x0 x1 x2 x3 AY AN
                      obtain ⟨qk, qe, qkey, qval⟩ := rr
                      simp only at x0 x1 x2 x3 AY AN
                      have hlen := accN_len [] m4 j
                      have hby : ((accN [] m4 j).length + 1) * 48 ≤ 140737488355328 := by have h1 := LEN0.out; have h2 := P6.out; omega
                      have HLT := Lib.hid hlt
                      have hl8 : l3 ≤ 8 := P6.out
                      clear hv2 hcc2 hrr hlen hjN
                      by_cases hqk : qk = 0
                      · have hqd : (qk != 0) = false := by rw [hqk]; rfl
                        have HK9 := Lib.hid hqk
                        clear hqk
                        go_wp2_with fail
                        go_roundw
                        case rel =>
                          refine ⟨j + 1, .slice RA (accN [] m4 j).length rc, HLT.out, by first | go_num | rfl, ?_⟩
                          rw [AN.out HK9.out]
                          exact HJ.out
                        case measure => clear hd1; have h9 := HLT.out; simp [intOf]; omega
                      · have hqd : (qk != 0) = true := by rw [bne_iff_ne]; exact hqk
                        have HK9 := Lib.hid hqk
                        have HS := Lib.hid (AY.out hqk)
                        clear hqk
                        have c2 := HJ.out.1.at' (j := 2) rfl
                        have c2a := (HJ.out.alloc (Obj.cells #[.int .i64 qk, .int .i64 qe, .string qkey, .string qval] 25)).1.at' (j := 2) rfl
                        have BN := Lib.hid (fun (a1 a2 a3 a4 : Value) (ty : TypeId) => show Bx (wr.alloc (Obj.cells #[a1, a2, a3, a4] ty)).drew wr.heap.size a1 a2 a3 a4 from (Bx.new wr a1 a2 a3 a4 ty).below (Bl.self _ 1))
                        go_wp2_with fail
                        apply region_ex3 (fun D3 c3 w9 => GIn w7 w7.heap.size [.bool true, .int .i64 m6, .slice D3 ((accN [] m4 j).length + 1) c3, .int .i64 m5] (.slice D3 ((accN [] m4 j).length + 1) c3) (accN [] m4 (j + 1)).length (accN [] m4 (j + 1)) (w9.setCell ⟨w7.heap.size, 2, none⟩ (.slice D3 ((accN [] m4 j).length + 1) c3)))
                        · go_region_law (refine stepO w7.heap.size rfl (.tmp 141) (.tmp 147) 22 25 (.agg #[.int .i64 0, .int .i64 0, .string ⟨#[]⟩, .string ⟨#[]⟩]) 4 48 rfl Try.underlying22 infoRecX rfl (by decide) (by decide) (.slice RA (accN [] m4 j).length rc) (accN [] m4 j).length (flat (accN [] m4 j)) (by simp [Act.eval, Act.put]) (some ⟨wr.heap.size, 0, none⟩) 1 1 [.int .i64 qk, .int .i64 qe, .string qkey, .string qval] (by simp [Act.eval, Act.put]) rfl (cellsR_one ⟨qk, qe, qkey, qval⟩) (fun h => by cases h) (box4 (BN.out _ _ _ _ _)) (HJ.out.alloc (Obj.cells #[.int .i64 qk, .int .i64 qe, .string qkey, .string qval] 25)).drew.2.1 (HJ.out.alloc (Obj.cells #[.int .i64 qk, .int .i64 qe, .string qkey, .string qval] 25)).drew.2.2.2 hby ?_; intro v3 w9 ho hgw ha; have ST := (HJ.out.alloc (Obj.cells #[.int .i64 qk, .int .i64 qe, .string qkey, .string qval] 25)).drew.step (R' := v3) (k' := (accN [] m4 (j + 1)).length) (L' := accN [] m4 (j + 1)) hgw (by rw [HS.out, flat_snoc, List.length_append]; exact ho); have J2 := Lib.hid ST.1; have z3' := ST.2.1; have y3' := ST.2.2.at' (j := 2) rfl; obtain ⟨D3, c3, hv3⟩ := ho.slice; subst hv3; clear ho hgw ha ST)
                          all_goals exact Exists.intro D3 ⟨c3, w9, J2.out, rfl, rfl⟩
                        · rintro D3 c3 w9 hj2
                          have J2 := Lib.hid hj2
                          clear hj2
                          go_wp2_with fail
                          go_roundw
                          case rel => exact ⟨j + 1, _, HLT.out, by first | go_num | rfl, J2.out⟩
                          case measure => clear hd1; have h9 := HLT.out; simp [intOf]; omega
                    · obtain rfl : j = l3 := Nat.le_antisymm hjN (Nat.not_lt.1 hlt)
                      have hd9 : decide ((j : Int) < (j : Int)) = false := decide_eq_false (Int.lt_irrefl _)
                      have BX := Lib.hid (I6.out.box.below HJ.out.2.2.1)
                      have v0 := HJ.out.1.at' (j := 0) rfl
                      have v1 := HJ.out.1.at' (j := 1) rfl
                      have v2 := HJ.out.1.at' (j := 2) rfl
                      have v3 := HJ.out.1.at' (j := 3) rfl
                      have x0 := BX.out.at' (j := 0) rfl
                      have x1 := BX.out.at' (j := 1) rfl
                      have x2 := BX.out.at' (j := 2) rfl
                      have x3 := BX.out.at' (j := 3) rfl
                      obtain ⟨f0, f1, f2, f3⟩ := cellsV BX.out
                      have SB := Lib.hid (setV_own BX.out (.bool true) (.int .i64 m6) (.slice RA (accN [] m4 j).length rc) (.int .i64 m5))
                      have PX9 := Lib.hid (PX8.out.offV BX.out (by decide) (.bool true) (.int .i64 m6) (.slice RA (accN [] m4 j).length rc) (.int .i64 m5))
                      have RO9 := Lib.hid (HJ.out.2.1.offV BX.out (by decide) (.bool true) (.int .i64 m6) (.slice RA (accN [] m4 j).length rc) (.int .i64 m5))
                      have LV9 := Lib.hid (show Own _ _ _ _ _ _ _ from (Own.below O6.out HJ.out.2.2.1).offV BX.out (by decide) (.bool true) (.int .i64 m6) (.slice RA (accN [] m4 j).length rc) (.int .i64 m5))
                      have BL9 := Lib.hid (Bl.setV (Bl.then I6.out.bl HJ.out.2.2.1) (I6.out.box.base gv rfl) (.bool true) (.int .i64 m6) (.slice RA (accN [] m4 j).length rc) (.int .i64 m5))
                      have u1 := PX9.out.at' (j := 1) rfl
                      have u2 := SB.out.at' (j := 2) rfl
                      have hlen := accN_len [] m4 j
                      have AL := Lib.hid (show (accN [] m4 j).length ≤ 8 * (a + 1 + 1) by have h1 := LEN0.out; have h2 := P6.out; omega)
                      have BB := rbuild_any ((((wr.setCell ⟨gv, 0, none⟩ (.bool true)).setCell ⟨gv, 1, none⟩ (.int .i64 m6)).setCell ⟨gv, 2, none⟩ (.slice RA (accN [] m4 j).length rc)).setCell ⟨gv, 3, none⟩ (.int .i64 m5)) _ (accN [] m4 j) (RdR.own RO9.out) (by have h1 := LEN0.out; have h2 := P6.out; omega) (acc_szs (fun r hr => by simp at hr) P11.out)
                      rw [A8.out.1, A8.out.2] at BB
                      have BBH := Lib.hid BB
                      clear BB hlen hlt hjN PX8 SR8 HJ GI0
                      go_wp2_with fail
                      generalize ((((wr.setCell ⟨gv, 0, none⟩ (.bool true)).setCell ⟨gv, 1, none⟩ (.int .i64 m6)).setCell ⟨gv, 2, none⟩ (.slice RA (accN [] m4 j).length rc)).setCell ⟨gv, 3, none⟩ (.int .i64 m5)) = wx at *
                      clear y3 x0 x1 x2 x3 v0 v1 v2 v3 f0 f1 f2 f3
                      with_reducible refine BBH.out.mono ?_
                      rintro e w10 ⟨va, rfl, oa, hb⟩
                      obtain ⟨A10, c10, rfl⟩ := Own.slice oa
                      rw [HTL.out]
                      have OC := Lib.hid (show RdP w10 (.slice A10 tl c10) T by have h := OwnP.rd oa; rwa [HTL.out] at h)
                      have LVA := Lib.hid (show OwnP wx w.heap.size (.slice A6 tl c6) T by have h : OwnP wx w.heap.size (.slice A6 T.length c6) T := LV9.out; rwa [HTL.out] at h)
                      have NEXT := Lib.hid (show AgI w gv (a + 1) m6 m5 m2 (.slice RA (accN [] m4 j).length rc) (accN [] m4 j) (.slice A6 tl c6) wx from ⟨E56.out.1, E56.out.2, E1234.out.2.2.1, by have h1 := E1234.out.2.2.2; have h2 := I6.out.e2; omega, E1234.out.1, E1234.out.2.1, acc_bld A8.out.1, AL.out, acc_szs (fun r hr => by simp at hr) P11.out, by rw [A8.out.2]; exact LVA.out, by rw [A8.out.2, HTL.out]; have := P9.out; omega, SB.out, Own.lower RO9.out I6.out.bl.size, BL9.out⟩)
                      have OD := Lib.hid (OwnP.rd (LVA.out.below hb))
                      have SP := Lib.hid (same_pairs _ _ T T _ OC.out OD.out)
                      rw [decide_eq_true (rfl : T = T)] at SP
                      have HB := Lib.hid hb
                      clear oa hb u1 u2
                      go_wp2_with (go_at_call 21; refine SP.out.mono ?_; rintro e w' ⟨rfl, q8, rfl⟩)
                      go_roundw
                      case rel => exact ⟨a + 1, m6, m5, m2, _, accN [] m4 j, H1.out, H2.out, by first | go_num | rfl, rfl, NEXT.out.below (Bl.drewN HB.out _)⟩
                      case measure => clear hd1 hd2 d0 d1 d7 d8 d9 d10 hw1 hd9; have h9 := H2.out; simp [intOf]; omega
              · rw [d2]
                clear d2
                have yy0 := (PX6.out.alloc (Obj.cells #[.bool true, .int .i64 m6, .slice none 0 0, .int .i64 m5] 57)).at' (j := 0) rfl
                have cc2 := (I6.out.box.alloc (Obj.cells #[.bool true, .int .i64 m6, .slice none 0 0, .int .i64 m5] 57)).at' (j := 2) rfl
                have vb2 := GI0.out.1.at' (j := 2) rfl
                by_cases hw : m1 < 0
                · have hw1 : decide (m1 < 0) = true := decide_eq_true hw
                  have A8 := Lib.hid (show buildE (accN vr m4 l3) = 0 ∧ buildL (accN vr m4 l3) = T by have h := P8.out; rwa [if_pos hw] at h)
                  have LEN0 := Lib.hid (show vr.length ≤ 8 * (a + 1) ∧ a + 1 ≤ 30 from ⟨I6.out.len, H2.out⟩)
                  obtain ⟨A9, c9, hAv, hA0, hAc⟩ := (RdR.own (I6.out.row.alloc (Obj.cells #[.bool true, .int .i64 m6, .slice none 0 0, .int .i64 m5] 57))).news
                  obtain ⟨rfl, _, rfl⟩ := Value.slice.inj hAv
                  have HA0 := Lib.hid hA0
                  have HAC := Lib.hid hAc
                  have FL := Lib.hid (show (flat vr).length = vr.length * 4 from flat_len vr)
                  have hbytes : (0 + vr.length) * 48 ≤ 140737488355328 := by have h := LEN0.out; omega
                  clear hw hAv hA0 hAc
                  go_wp2_with (first | (go_at_call 22; refine (num_any _ _).mono ?_; rintro e w' ⟨rfl, rfl⟩) | (at_builtin; refine appO w7.heap.size rfl (.tmp 121) (.tmp 123) 22 25 (.agg #[.int .i64 0, .int .i64 0, .string ⟨#[]⟩, .string ⟨#[]⟩]) 4 48 rfl Try.underlying22 infoRecX rfl (by decide) (by decide) _ 0 [] rfl VA vr.length vc (flat vr) rfl FL.out (flat_one vr) HA0.out HAC.out (Own.nil _ _ _ _) GI0.out.2.2.2 hbytes ?_; intro v1 w9 ho hg ha; have ST := GI0.out.step (R' := v1) (k' := (accN vr m4 0).length) (L' := accN vr m4 0) hg (by rw [accN_zero]; rw [Nat.zero_add, List.nil_append] at ho; exact ho); have J := Lib.hid ST.1; have z3 := ST.2.1; have y3' := ST.2.2.at' (j := 2) rfl; obtain ⟨D3, c3, hv3⟩ : ∃ A c, v1 = .slice A vr.length c := (by have h := ho.slice; rwa [Nat.zero_add] at h); subst hv3; clear ho hg ha ST))
                  clear yy0 cc2 vb2 y0 y4 y5 hbytes g0 g1 g2 g3
                  go_loopw [16] (fun ii wr => ∃ (j : Nat) (R : Value), j ≤ l3 ∧ ii = .int .i64 (j : Int) ∧ GIn w7 w7.heap.size [.bool true, .int .i64 m6, R, .int .i64 m5] R (accN vr m4 j).length (accN vr m4 j) wr) (fun ii _ => (l3 - intOf ii).toNat)
                  case atStart => exact ⟨0, _, Nat.zero_le _, rfl, J.out⟩
                  case round =>
                    obtain ⟨j, R, hjN, rfl, hi⟩ := hrel
                    obtain ⟨RA, rc, hR⟩ := hi.2.1.slice
                    subst hR
                    have HJ := Lib.hid hi
                    clear hi J
                    have PX8 := Lib.hid (PX6.out.below HJ.out.2.2.1)
                    have SR8 := Lib.hid (SR6.out.below HJ.out.2.2.1)
                    have y3 := PX8.out.at' (j := 3) rfl
                    by_cases hlt : j < l3
                    · have hlt2 : (j : Int) < (l3 : Int) := Int.ofNat_lt.2 hlt
                      have hd1 : decide ((j : Int) < (l3 : Int)) = true := decide_eq_true hlt2
                      obtain ⟨b2, oo2, c2', hv2, _, _, hcc2⟩ := SR8.out.pos (by rw [L4'.out]; omega)
                      rw [L4'.out] at hv2 hcc2
                      obtain ⟨rfl, rfl⟩ := Value.slice.inj hv2 |> fun h => And.intro h.1 h.2.2
                      obtain ⟨x0, x1, x2, x3⟩ := hcc2 j hlt
                      have AY := Lib.hid (accN_yes (L0 := vr) (rl := m4) (i := j) (by rw [L4'.out]; exact hlt))
                      have AN := Lib.hid (accN_no (L0 := vr) (rl := m4) (i := j) (by rw [L4'.out]; exact hlt))
                      obtain ⟨rr, hrr⟩ : ∃ x, m4.getD j zeroR = x := ⟨_, rfl⟩
                      rw [hrr] at x0 x1 x2 x3 AY AN
                      obtain ⟨qk, qe, qkey, qval⟩ := rr
                      simp only at x0 x1 x2 x3 AY AN
                      have hlen := accN_len vr m4 j
                      have hby : ((accN vr m4 j).length + 1) * 48 ≤ 140737488355328 := by have h1 := LEN0.out; have h2 := P6.out; omega
                      have HLT := Lib.hid hlt
                      have hl8 : l3 ≤ 8 := P6.out
                      clear hv2 hcc2 hrr hlen hjN
                      by_cases hqk : qk = 0
                      · have hqd : (qk != 0) = false := by rw [hqk]; rfl
                        have HK9 := Lib.hid hqk
                        clear hqk
                        go_wp2_with fail
                        go_roundw
                        case rel =>
                          refine ⟨j + 1, .slice RA (accN vr m4 j).length rc, HLT.out, by first | go_num | rfl, ?_⟩
                          rw [AN.out HK9.out]
                          exact HJ.out
                        case measure => clear hd1; have h9 := HLT.out; simp [intOf]; omega
                      · have hqd : (qk != 0) = true := by rw [bne_iff_ne]; exact hqk
                        have HK9 := Lib.hid hqk
                        have HS := Lib.hid (AY.out hqk)
                        clear hqk
                        have c2 := HJ.out.1.at' (j := 2) rfl
                        have c2a := (HJ.out.alloc (Obj.cells #[.int .i64 qk, .int .i64 qe, .string qkey, .string qval] 25)).1.at' (j := 2) rfl
                        have BN := Lib.hid (fun (a1 a2 a3 a4 : Value) (ty : TypeId) => show Bx (wr.alloc (Obj.cells #[a1, a2, a3, a4] ty)).drew wr.heap.size a1 a2 a3 a4 from (Bx.new wr a1 a2 a3 a4 ty).below (Bl.self _ 1))
                        go_wp2_with fail
                        apply region_ex3 (fun D3 c3 w9 => GIn w7 w7.heap.size [.bool true, .int .i64 m6, .slice D3 ((accN vr m4 j).length + 1) c3, .int .i64 m5] (.slice D3 ((accN vr m4 j).length + 1) c3) (accN vr m4 (j + 1)).length (accN vr m4 (j + 1)) (w9.setCell ⟨w7.heap.size, 2, none⟩ (.slice D3 ((accN vr m4 j).length + 1) c3)))
                        · go_region_law (refine stepO w7.heap.size rfl (.tmp 141) (.tmp 147) 22 25 (.agg #[.int .i64 0, .int .i64 0, .string ⟨#[]⟩, .string ⟨#[]⟩]) 4 48 rfl Try.underlying22 infoRecX rfl (by decide) (by decide) (.slice RA (accN vr m4 j).length rc) (accN vr m4 j).length (flat (accN vr m4 j)) (by simp [Act.eval, Act.put]) (some ⟨wr.heap.size, 0, none⟩) 1 1 [.int .i64 qk, .int .i64 qe, .string qkey, .string qval] (by simp [Act.eval, Act.put]) rfl (cellsR_one ⟨qk, qe, qkey, qval⟩) (fun h => by cases h) (box4 (BN.out _ _ _ _ _)) (HJ.out.alloc (Obj.cells #[.int .i64 qk, .int .i64 qe, .string qkey, .string qval] 25)).drew.2.1 (HJ.out.alloc (Obj.cells #[.int .i64 qk, .int .i64 qe, .string qkey, .string qval] 25)).drew.2.2.2 hby ?_; intro v3 w9 ho hgw ha; have ST := (HJ.out.alloc (Obj.cells #[.int .i64 qk, .int .i64 qe, .string qkey, .string qval] 25)).drew.step (R' := v3) (k' := (accN vr m4 (j + 1)).length) (L' := accN vr m4 (j + 1)) hgw (by rw [HS.out, flat_snoc, List.length_append]; exact ho); have J2 := Lib.hid ST.1; have z3' := ST.2.1; have y3' := ST.2.2.at' (j := 2) rfl; obtain ⟨D3, c3, hv3⟩ := ho.slice; subst hv3; clear ho hgw ha ST)
                          all_goals exact Exists.intro D3 ⟨c3, w9, J2.out, rfl, rfl⟩
                        · rintro D3 c3 w9 hj2
                          have J2 := Lib.hid hj2
                          clear hj2
                          go_wp2_with fail
                          go_roundw
                          case rel => exact ⟨j + 1, _, HLT.out, by first | go_num | rfl, J2.out⟩
                          case measure => clear hd1; have h9 := HLT.out; simp [intOf]; omega
                    · obtain rfl : j = l3 := Nat.le_antisymm hjN (Nat.not_lt.1 hlt)
                      have hd9 : decide ((j : Int) < (j : Int)) = false := decide_eq_false (Int.lt_irrefl _)
                      have BX := Lib.hid (I6.out.box.below HJ.out.2.2.1)
                      have v0 := HJ.out.1.at' (j := 0) rfl
                      have v1 := HJ.out.1.at' (j := 1) rfl
                      have v2 := HJ.out.1.at' (j := 2) rfl
                      have v3 := HJ.out.1.at' (j := 3) rfl
                      have x0 := BX.out.at' (j := 0) rfl
                      have x1 := BX.out.at' (j := 1) rfl
                      have x2 := BX.out.at' (j := 2) rfl
                      have x3 := BX.out.at' (j := 3) rfl
                      obtain ⟨f0, f1, f2, f3⟩ := cellsV BX.out
                      have SB := Lib.hid (setV_own BX.out (.bool true) (.int .i64 m6) (.slice RA (accN vr m4 j).length rc) (.int .i64 m5))
                      have PX9 := Lib.hid (PX8.out.offV BX.out (by decide) (.bool true) (.int .i64 m6) (.slice RA (accN vr m4 j).length rc) (.int .i64 m5))
                      have RO9 := Lib.hid (HJ.out.2.1.offV BX.out (by decide) (.bool true) (.int .i64 m6) (.slice RA (accN vr m4 j).length rc) (.int .i64 m5))
                      have LV9 := Lib.hid (show Own _ _ _ _ _ _ _ from (Own.below O6.out HJ.out.2.2.1).offV BX.out (by decide) (.bool true) (.int .i64 m6) (.slice RA (accN vr m4 j).length rc) (.int .i64 m5))
                      have BL9 := Lib.hid (Bl.setV (Bl.then I6.out.bl HJ.out.2.2.1) (I6.out.box.base gv rfl) (.bool true) (.int .i64 m6) (.slice RA (accN vr m4 j).length rc) (.int .i64 m5))
                      have u1 := PX9.out.at' (j := 1) rfl
                      have u2 := SB.out.at' (j := 2) rfl
                      have hlen := accN_len vr m4 j
                      have AL := Lib.hid (show (accN vr m4 j).length ≤ 8 * (a + 1 + 1) by have h1 := LEN0.out; have h2 := P6.out; omega)
                      have BB := rbuild_any ((((wr.setCell ⟨gv, 0, none⟩ (.bool true)).setCell ⟨gv, 1, none⟩ (.int .i64 m6)).setCell ⟨gv, 2, none⟩ (.slice RA (accN vr m4 j).length rc)).setCell ⟨gv, 3, none⟩ (.int .i64 m5)) _ (accN vr m4 j) (RdR.own RO9.out) (by have h1 := LEN0.out; have h2 := P6.out; omega) (acc_szs I6.out.sz P11.out)
                      rw [A8.out.1, A8.out.2] at BB
                      have BBH := Lib.hid BB
                      clear BB hlen hlt hjN PX8 SR8 HJ GI0
                      go_wp2_with fail
                      generalize ((((wr.setCell ⟨gv, 0, none⟩ (.bool true)).setCell ⟨gv, 1, none⟩ (.int .i64 m6)).setCell ⟨gv, 2, none⟩ (.slice RA (accN vr m4 j).length rc)).setCell ⟨gv, 3, none⟩ (.int .i64 m5)) = wx at *
                      clear y3 x0 x1 x2 x3 v0 v1 v2 v3 f0 f1 f2 f3
                      with_reducible refine BBH.out.mono ?_
                      rintro e w10 ⟨va, rfl, oa, hb⟩
                      obtain ⟨A10, c10, rfl⟩ := Own.slice oa
                      rw [HTL.out]
                      have OC := Lib.hid (show RdP w10 (.slice A10 tl c10) T by have h := OwnP.rd oa; rwa [HTL.out] at h)
                      have LVA := Lib.hid (show OwnP wx w.heap.size (.slice A6 tl c6) T by have h : OwnP wx w.heap.size (.slice A6 T.length c6) T := LV9.out; rwa [HTL.out] at h)
                      have NEXT := Lib.hid (show AgI w gv (a + 1) m6 m5 m2 (.slice RA (accN vr m4 j).length rc) (accN vr m4 j) (.slice A6 tl c6) wx from ⟨E56.out.1, E56.out.2, E1234.out.2.2.1, by have h1 := E1234.out.2.2.2; have h2 := I6.out.e2; omega, E1234.out.1, E1234.out.2.1, acc_bld A8.out.1, AL.out, acc_szs I6.out.sz P11.out, by rw [A8.out.2]; exact LVA.out, by rw [A8.out.2, HTL.out]; have := P9.out; omega, SB.out, Own.lower RO9.out I6.out.bl.size, BL9.out⟩)
                      have OD := Lib.hid (OwnP.rd (LVA.out.below hb))
                      have SP := Lib.hid (same_pairs _ _ T T _ OC.out OD.out)
                      rw [decide_eq_true (rfl : T = T)] at SP
                      have HB := Lib.hid hb
                      clear oa hb u1 u2
                      go_wp2_with (go_at_call 21; refine SP.out.mono ?_; rintro e w' ⟨rfl, q8, rfl⟩)
                      go_roundw
                      case rel => exact ⟨a + 1, m6, m5, m2, _, accN vr m4 j, H1.out, H2.out, by first | go_num | rfl, rfl, NEXT.out.below (Bl.drewN HB.out _)⟩
                      case measure => clear hd1 hd2 d0 d1 d7 d8 d9 d10 hw1 hd9; have h9 := H2.out; simp [intOf]; omega
                · have hw1 : decide (m1 < 0) = false := decide_eq_false hw
                  have A8 := Lib.hid (show buildE (accN [] m4 l3) = 0 ∧ buildL (accN [] m4 l3) = T by have h := P8.out; rwa [if_neg hw] at h)
                  have LEN0 := Lib.hid (show ([] : List RecV).length ≤ 8 * (a + 1) ∧ a + 1 ≤ 30 from ⟨Nat.zero_le _, H2.out⟩)
                  have J := Lib.hid (show GIn w7 w7.heap.size [.bool true, .int .i64 m6, .slice none 0 0, .int .i64 m5] (.slice none 0 0) (accN [] m4 0).length (accN [] m4 0) (w7.alloc (Obj.cells #[.bool true, .int .i64 m6, .slice none 0 0, .int .i64 m5] 57)) from by rw [accN_zero]; exact GI0.out)
                  clear hw
                  go_wp2_with (go_at_call 22; refine (num_any _ _).mono ?_; rintro e w' ⟨rfl, rfl⟩)
                  clear yy0 cc2 vb2 y0 y4 y5 g0 g1 g2 g3
                  go_loopw [16] (fun ii wr => ∃ (j : Nat) (R : Value), j ≤ l3 ∧ ii = .int .i64 (j : Int) ∧ GIn w7 w7.heap.size [.bool true, .int .i64 m6, R, .int .i64 m5] R (accN [] m4 j).length (accN [] m4 j) wr) (fun ii _ => (l3 - intOf ii).toNat)
                  case atStart => exact ⟨0, _, Nat.zero_le _, rfl, J.out⟩
                  case round =>
                    obtain ⟨j, R, hjN, rfl, hi⟩ := hrel
                    obtain ⟨RA, rc, hR⟩ := hi.2.1.slice
                    subst hR
                    have HJ := Lib.hid hi
                    clear hi J
                    have PX8 := Lib.hid (PX6.out.below HJ.out.2.2.1)
                    have SR8 := Lib.hid (SR6.out.below HJ.out.2.2.1)
                    have y3 := PX8.out.at' (j := 3) rfl
                    by_cases hlt : j < l3
                    · have hlt2 : (j : Int) < (l3 : Int) := Int.ofNat_lt.2 hlt
                      have hd1 : decide ((j : Int) < (l3 : Int)) = true := decide_eq_true hlt2
                      obtain ⟨b2, oo2, c2', hv2, _, _, hcc2⟩ := SR8.out.pos (by rw [L4'.out]; omega)
                      rw [L4'.out] at hv2 hcc2
                      obtain ⟨rfl, rfl⟩ := Value.slice.inj hv2 |> fun h => And.intro h.1 h.2.2
                      obtain ⟨x0, x1, x2, x3⟩ := hcc2 j hlt
                      have AY := Lib.hid (accN_yes (L0 := []) (rl := m4) (i := j) (by rw [L4'.out]; exact hlt))
                      have AN := Lib.hid (accN_no (L0 := []) (rl := m4) (i := j) (by rw [L4'.out]; exact hlt))
                      obtain ⟨rr, hrr⟩ : ∃ x, m4.getD j zeroR = x := ⟨_, rfl⟩
                      rw [hrr] at x0 x1 x2 x3 AY AN
                      obtain ⟨qk, qe, qkey, qval⟩ := rr
                      simp only at x0 x1 x2 x3 AY AN
                      have hlen := accN_len [] m4 j
                      have hby : ((accN [] m4 j).length + 1) * 48 ≤ 140737488355328 := by have h1 := LEN0.out; have h2 := P6.out; omega
                      have HLT := Lib.hid hlt
                      have hl8 : l3 ≤ 8 := P6.out
                      clear hv2 hcc2 hrr hlen hjN
                      by_cases hqk : qk = 0
                      · have hqd : (qk != 0) = false := by rw [hqk]; rfl
                        have HK9 := Lib.hid hqk
                        clear hqk
                        go_wp2_with fail
                        go_roundw
                        case rel =>
                          refine ⟨j + 1, .slice RA (accN [] m4 j).length rc, HLT.out, by first | go_num | rfl, ?_⟩
                          rw [AN.out HK9.out]
                          exact HJ.out
                        case measure => clear hd1; have h9 := HLT.out; simp [intOf]; omega
                      · have hqd : (qk != 0) = true := by rw [bne_iff_ne]; exact hqk
                        have HK9 := Lib.hid hqk
                        have HS := Lib.hid (AY.out hqk)
                        clear hqk
                        have c2 := HJ.out.1.at' (j := 2) rfl
                        have c2a := (HJ.out.alloc (Obj.cells #[.int .i64 qk, .int .i64 qe, .string qkey, .string qval] 25)).1.at' (j := 2) rfl
                        have BN := Lib.hid (fun (a1 a2 a3 a4 : Value) (ty : TypeId) => show Bx (wr.alloc (Obj.cells #[a1, a2, a3, a4] ty)).drew wr.heap.size a1 a2 a3 a4 from (Bx.new wr a1 a2 a3 a4 ty).below (Bl.self _ 1))
                        go_wp2_with fail
                        apply region_ex3 (fun D3 c3 w9 => GIn w7 w7.heap.size [.bool true, .int .i64 m6, .slice D3 ((accN [] m4 j).length + 1) c3, .int .i64 m5] (.slice D3 ((accN [] m4 j).length + 1) c3) (accN [] m4 (j + 1)).length (accN [] m4 (j + 1)) (w9.setCell ⟨w7.heap.size, 2, none⟩ (.slice D3 ((accN [] m4 j).length + 1) c3)))
                        · go_region_law (refine stepO w7.heap.size rfl (.tmp 141) (.tmp 147) 22 25 (.agg #[.int .i64 0, .int .i64 0, .string ⟨#[]⟩, .string ⟨#[]⟩]) 4 48 rfl Try.underlying22 infoRecX rfl (by decide) (by decide) (.slice RA (accN [] m4 j).length rc) (accN [] m4 j).length (flat (accN [] m4 j)) (by simp [Act.eval, Act.put]) (some ⟨wr.heap.size, 0, none⟩) 1 1 [.int .i64 qk, .int .i64 qe, .string qkey, .string qval] (by simp [Act.eval, Act.put]) rfl (cellsR_one ⟨qk, qe, qkey, qval⟩) (fun h => by cases h) (box4 (BN.out _ _ _ _ _)) (HJ.out.alloc (Obj.cells #[.int .i64 qk, .int .i64 qe, .string qkey, .string qval] 25)).drew.2.1 (HJ.out.alloc (Obj.cells #[.int .i64 qk, .int .i64 qe, .string qkey, .string qval] 25)).drew.2.2.2 hby ?_; intro v3 w9 ho hgw ha; have ST := (HJ.out.alloc (Obj.cells #[.int .i64 qk, .int .i64 qe, .string qkey, .string qval] 25)).drew.step (R' := v3) (k' := (accN [] m4 (j + 1)).length) (L' := accN [] m4 (j + 1)) hgw (by rw [HS.out, flat_snoc, List.length_append]; exact ho); have J2 := Lib.hid ST.1; have z3' := ST.2.1; have y3' := ST.2.2.at' (j := 2) rfl; obtain ⟨D3, c3, hv3⟩ := ho.slice; subst hv3; clear ho hgw ha ST)
                          all_goals exact Exists.intro D3 ⟨c3, w9, J2.out, rfl, rfl⟩
                        · rintro D3 c3 w9 hj2
                          have J2 := Lib.hid hj2
                          clear hj2
                          go_wp2_with fail
                          go_roundw
                          case rel => exact ⟨j + 1, _, HLT.out, by first | go_num | rfl, J2.out⟩
                          case measure => clear hd1; have h9 := HLT.out; simp [intOf]; omega
                    · obtain rfl : j = l3 := Nat.le_antisymm hjN (Nat.not_lt.1 hlt)
                      have hd9 : decide ((j : Int) < (j : Int)) = false := decide_eq_false (Int.lt_irrefl _)
                      have BX := Lib.hid (I6.out.box.below HJ.out.2.2.1)
                      have v0 := HJ.out.1.at' (j := 0) rfl
                      have v1 := HJ.out.1.at' (j := 1) rfl
                      have v2 := HJ.out.1.at' (j := 2) rfl
                      have v3 := HJ.out.1.at' (j := 3) rfl
                      have x0 := BX.out.at' (j := 0) rfl
                      have x1 := BX.out.at' (j := 1) rfl
                      have x2 := BX.out.at' (j := 2) rfl
                      have x3 := BX.out.at' (j := 3) rfl
                      obtain ⟨f0, f1, f2, f3⟩ := cellsV BX.out
                      have SB := Lib.hid (setV_own BX.out (.bool true) (.int .i64 m6) (.slice RA (accN [] m4 j).length rc) (.int .i64 m5))
                      have PX9 := Lib.hid (PX8.out.offV BX.out (by decide) (.bool true) (.int .i64 m6) (.slice RA (accN [] m4 j).length rc) (.int .i64 m5))
                      have RO9 := Lib.hid (HJ.out.2.1.offV BX.out (by decide) (.bool true) (.int .i64 m6) (.slice RA (accN [] m4 j).length rc) (.int .i64 m5))
                      have LV9 := Lib.hid (show Own _ _ _ _ _ _ _ from (Own.below O6.out HJ.out.2.2.1).offV BX.out (by decide) (.bool true) (.int .i64 m6) (.slice RA (accN [] m4 j).length rc) (.int .i64 m5))
                      have BL9 := Lib.hid (Bl.setV (Bl.then I6.out.bl HJ.out.2.2.1) (I6.out.box.base gv rfl) (.bool true) (.int .i64 m6) (.slice RA (accN [] m4 j).length rc) (.int .i64 m5))
                      have u1 := PX9.out.at' (j := 1) rfl
                      have u2 := SB.out.at' (j := 2) rfl
                      have hlen := accN_len [] m4 j
                      have AL := Lib.hid (show (accN [] m4 j).length ≤ 8 * (a + 1 + 1) by have h1 := LEN0.out; have h2 := P6.out; omega)
                      have BB := rbuild_any ((((wr.setCell ⟨gv, 0, none⟩ (.bool true)).setCell ⟨gv, 1, none⟩ (.int .i64 m6)).setCell ⟨gv, 2, none⟩ (.slice RA (accN [] m4 j).length rc)).setCell ⟨gv, 3, none⟩ (.int .i64 m5)) _ (accN [] m4 j) (RdR.own RO9.out) (by have h1 := LEN0.out; have h2 := P6.out; omega) (acc_szs (fun r hr => by simp at hr) P11.out)
                      rw [A8.out.1, A8.out.2] at BB
                      have BBH := Lib.hid BB
                      clear BB hlen hlt hjN PX8 SR8 HJ GI0
                      go_wp2_with fail
                      generalize ((((wr.setCell ⟨gv, 0, none⟩ (.bool true)).setCell ⟨gv, 1, none⟩ (.int .i64 m6)).setCell ⟨gv, 2, none⟩ (.slice RA (accN [] m4 j).length rc)).setCell ⟨gv, 3, none⟩ (.int .i64 m5)) = wx at *
                      clear y3 x0 x1 x2 x3 v0 v1 v2 v3 f0 f1 f2 f3
                      with_reducible refine BBH.out.mono ?_
                      rintro e w10 ⟨va, rfl, oa, hb⟩
                      obtain ⟨A10, c10, rfl⟩ := Own.slice oa
                      rw [HTL.out]
                      have OC := Lib.hid (show RdP w10 (.slice A10 tl c10) T by have h := OwnP.rd oa; rwa [HTL.out] at h)
                      have LVA := Lib.hid (show OwnP wx w.heap.size (.slice A6 tl c6) T by have h : OwnP wx w.heap.size (.slice A6 T.length c6) T := LV9.out; rwa [HTL.out] at h)
                      have NEXT := Lib.hid (show AgI w gv (a + 1) m6 m5 m2 (.slice RA (accN [] m4 j).length rc) (accN [] m4 j) (.slice A6 tl c6) wx from ⟨E56.out.1, E56.out.2, E1234.out.2.2.1, by have h1 := E1234.out.2.2.2; have h2 := I6.out.e2; omega, E1234.out.1, E1234.out.2.1, acc_bld A8.out.1, AL.out, acc_szs (fun r hr => by simp at hr) P11.out, by rw [A8.out.2]; exact LVA.out, by rw [A8.out.2, HTL.out]; have := P9.out; omega, SB.out, Own.lower RO9.out I6.out.bl.size, BL9.out⟩)
                      have OD := Lib.hid (OwnP.rd (LVA.out.below hb))
                      have SP := Lib.hid (same_pairs _ _ T T _ OC.out OD.out)
                      rw [decide_eq_true (rfl : T = T)] at SP
                      have HB := Lib.hid hb
                      clear oa hb u1 u2
                      go_wp2_with (go_at_call 21; refine SP.out.mono ?_; rintro e w' ⟨rfl, q8, rfl⟩)
                      go_roundw
                      case rel => exact ⟨a + 1, m6, m5, m2, _, accN [] m4 j, H1.out, H2.out, by first | go_num | rfl, rfl, NEXT.out.below (Bl.drewN HB.out _)⟩
                      case measure => clear hd1 hd2 d0 d1 d7 d8 d9 d10 hw1 hd9; have h9 := H2.out; simp [intOf]; omega
    · rcases hex with ⟨hd, hd2⟩ | ⟨hd, hd2, hd3⟩
      all_goals
        go_wp2_with fail
        go_ret
        exact ⟨rfl, HI.out.bl⟩
end Go.Proofs.Ytdgnpoapkjoknaa
