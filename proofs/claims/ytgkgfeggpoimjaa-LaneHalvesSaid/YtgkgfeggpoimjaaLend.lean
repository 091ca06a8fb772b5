/- Ints that are copied, lent, kept, spoilt. -/
import Derived.Test.YtgkgfeggpoimjaaInts
namespace Go.Proofs.Ytgkgfeggpoimjaa
set_option linter.unusedVariables false
set_option linter.unusedSimpArgs false
open Go.RowKit

theorem copy_ints (v : Value) (xs : List Int) (w : World) (hr : Rd w v xs) (hz : xs.length * 8 ≤ 140737488351232) :
    Calls Try.prog 27 #[v] w fun e w' => ∃ v', e = .returned v' ∧ Fresh w w' v' xs := by
  obtain ⟨A, c, rfl, hA, hc⟩ := hr.news
  have HA := Lib.hid hA
  have HC := Lib.hid hc
  clear hr hA hc
  have hE := World.ownsRow_lit (base := w.heap.size) (e := 3) (size := 1) w #[] 0 (Nat.le_refl _) (by simp) rfl
  have HE := Lib.hid hE
  clear hE
  go_enter Try.func27, Try.ntmps27
  go_wp2_with (at_builtin; refine appN w.heap.size rfl (.tmp 3) (.tmp 4) 22 3 (.int .i64 0) 1 8 rfl Try.underlying22 infoInt rfl (by decide) (by decide) _ 0 _ rfl A xs.length c (nums xs) rfl (by simp [nums]) (nums_one xs) HA.out (fun ad h j u hu => by rw [World.cell?_alloc_lt _ _ _ (World.block_lt_of_cell? _ _ (HC.out ad h j u hu))]; exact HC.out ad h j u hu) HE.out (by simp) (by omega) ?_; intro v1 w1 ho1 hg1 hat1; have HO1 := Lib.hid ho1; have HG1 := Lib.hid hg1; clear ho1 hg1 hat1)
  go_ret
  exact ⟨_, rfl, by have h := HO1.out; rw [Nat.zero_add] at h; exact h, ((Below.refl _ _).alloc (Nat.le_refl _) _).grown HG1.out (by simp) (own_base HE.out)⟩

/-- What is lent: a row with two marks behind what is seen of it. -/
def Lent (w : World) (B : Nat) (v : Value) (xs : List Int) : Prop :=
  ∃ g cap, v = .slice (some ⟨g, 0, none⟩) xs.length cap ∧ w.ownsRow B 3 1 (.slice (some ⟨g, 0, none⟩) (xs.length + 2) cap) (xs.length + 2) (nums (xs ++ [-7777, -8888]))
theorem Lent.cap {w : World} {B g n cap : Nat} {ys : List Value} (h : w.ownsRow B 3 1 (.slice (some ⟨g, 0, none⟩) n cap) n ys) : n ≤ cap ∧ cap ≤ 9223372036854775807 := by
  rcases h.2 with ⟨h, _⟩ | ⟨g', cap', cur, h, _, _, h1, h2, _⟩
  · cases h
  · injection h with _ _ h
    subst h
    exact ⟨h1, by unfold maxLen at h2; omega⟩
theorem Lent.rd {w : World} {B : Nat} {v : Value} {xs : List Int} (h : Lent w B v xs) : Rd w v xs := by
  obtain ⟨g, cap, rfl, ho⟩ := h
  have hc := Lent.cap ho
  refine .inr ⟨g, 0, cap, rfl, by omega, by unfold maxLen; omega, fun j hj => ?_⟩
  have := ho.cells (g := g) rfl j (.int .i64 (xs.getD j 0)) (by rw [nums_append, List.getElem?_append_left (by rw [nums_length]; exact hj), nums_at hj])
  rwa [Addr.add_lit] at this
theorem Lent.kept {w w' : World} {B : Nat} {v : Value} {xs : List Int} (h : Lent w B v xs) (hb : Below w.heap.size w w') : Lent w' B v xs := by
  obtain ⟨g, cap, rfl, ho⟩ := h
  exact ⟨g, cap, rfl, ho.kept (row := none) ⟨hb.os, hb.tape, hb.output, hb.size, fun i hi _ => hb.block i hi⟩ (.inr (by simp [Value.ownBlock]))⟩

theorem lend_ints (v : Value) (xs : List Int) (w : World) (hr : Rd w v xs) (hz : xs.length * 8 ≤ 140737488351232) :
    Calls Try.prog 12 #[v] w fun e w' => ∃ v', e = .returned v' ∧ Lent w' w.heap.size v' xs ∧ Below w.heap.size w w' := by
  have HR := Lib.hid hr
  obtain ⟨A, c, rfl⟩ := hr.form
  clear hr
  go_enter Try.func12, Try.ntmps12
  go_wp2_with fail
  refine (copy_ints _ xs _ HR.out hz).mono ?_
  rintro e w1 ⟨v1, rfl, ho, hb⟩
  have HO := Lib.hid ho
  have HB := Lib.hid hb
  have hz1 : w.heap.size ≤ w1.heap.size := hb.size
  clear ho hb
  go_wp2_with (at_builtin; (refine appN w.heap.size rfl (.tmp 5) (.tmp 6) 22 3 (.int .i64 0) 1 8 rfl Try.underlying22 infoInt rfl (by decide) (by decide) v1 xs.length _ rfl (some ⟨w1.heap.size, 0, none⟩) 2 2 (nums [-7777, -8888]) rfl rfl (nums_one _) (fun h => by simp at h) (fun ad h j u hu => by obtain rfl := Option.some.inj h; rw [Addr.add_lit]; match j, hu with | 0, hu => simpa [nums] using hu | 1, hu => simpa [nums] using hu | (j + 2), hu => simp [nums] at hu) (HO.out.alloc _) (by simp; omega) (by omega) ?_); intro v2 w2 ho1 hg1 hat1; obtain ⟨g, cap, rfl, hgb, hgl⟩ := ho1.form (by omega); have hcap := Lent.cap ho1; obtain ⟨hcap1, hcap2⟩ := hcap; have HO1 := Lib.hid ho1; have HG1 := Lib.hid hg1; clear ho1 hg1 hat1 hgb hgl)
  go_ret
  exact ⟨_, rfl, ⟨g, cap, rfl, by rw [nums_append]; exact HO1.out⟩, (HB.out.alloc hz1 _).grown HG1.out (by simp; omega) (own_base HO.out)⟩

theorem own_len {w : World} {B n : Nat} {v : Value} {xs : List Int} (h : w.ownsRow B 3 1 v n (nums xs)) : xs.length = n := by
  have := h.1
  simp [nums] at this
  exact this

theorem kept_ints (v va : Value) (B : Nat) (xs ys : List Int) (w : World) (hL : Lent w B v xs) (hr : Rd w va ys) :
    Calls Try.prog 20 #[v, va] w fun e w' => e = .returned (.bool (xs == ys)) ∧ ∃ q, w' = w.drewN q := by
  have HR := Lib.hid hr
  have HS := Lib.hid hL.rd
  obtain ⟨A, c, rfl⟩ := hr.form
  clear hr
  obtain ⟨g, cap, rfl, ho⟩ := hL
  obtain ⟨hc1, hc2⟩ := Lent.cap ho
  have HO := Lib.hid ho
  clear ho
  by_cases he : xs = ys
  · subst he
    have g1 : w.cell? ⟨g, xs.length, none⟩ = some (.int .i64 (-7777)) := by rw [HO.out.cellAt _ (by omega)]; simp [nums]
    have g2 : w.cell? ⟨g, xs.length + 1, none⟩ = some (.int .i64 (-8888)) := by rw [HO.out.cellAt _ (by omega)]; simp [nums]
    have hbb : (xs == xs) = true := by simp
    go_enter Try.func20, Try.ntmps20
    go_wp2_with (go_at_call 17; refine (same_ints _ _ xs xs _ HS.out HR.out).mono ?_; rw [hbb]; rintro e w' ⟨rfl, q, rfl⟩)
    go_ret
    exact ⟨by rw [hbb]; rfl, _, rfl⟩
  · have hbb : (xs == ys) = false := by simpa using he
    have HE := Lib.hid he
    clear he
    go_enter Try.func20, Try.ntmps20
    go_wp2_with (go_at_call 17; refine (same_ints _ _ xs ys _ HS.out HR.out).mono ?_; rw [hbb]; rintro e w' ⟨rfl, q, rfl⟩)
    go_ret
    exact ⟨by rw [hbb]; rfl, _, rfl⟩

theorem spoil_ints (v : Value) (B n : Nat) (xs : List Int) (w : World) (ho : w.ownsRow B 3 1 v n (nums xs)) :
    Calls Try.prog 19 #[v] w fun e w' => e = .returned (.tuple #[]) ∧ w.grownBy w' v.ownBlock := by
  by_cases hp : 0 < n
  · obtain ⟨g, cap, rfl, hgb, hgl⟩ := ho.form hp
    obtain ⟨hc1, hc2⟩ := Lent.cap ho
    have HO := Lib.hid ho
    clear ho hgb hgl
    go_enter Try.func19, Try.ntmps19
    go_wp2_with fail
    go_loopw [2] (fun i wr => ∃ (k : Nat) (ys : List Int), k ≤ n ∧ i = .int .i64 k ∧ wr.ownsRow B 3 1 (.slice (some ⟨g, 0, none⟩) n cap) n (nums ys) ∧ w.grownBy wr (some g)) (fun i _ => (n - intOf i).toNat)
    case atStart => exact ⟨0, xs, by omega, rfl, HO.out, World.grownBy.refl _ _⟩
    case round =>
      obtain ⟨k, ys, hk, rfl, ho2, hg2⟩ := hrel
      have HO2 := Lib.hid ho2
      have HG2 := Lib.hid hg2
      clear ho2 hg2
      by_cases hlt : k < n
      · have hl := own_len HO2.out
        have g1 : wr.cell? ⟨g, k, none⟩ = some (.int .i64 (ys.getD k 0)) := by rw [HO2.out.cellAt k (by omega), nums_at (by omega)]
        have g2 : wr.frozen? ⟨g, k, none⟩ = false := HO2.out.frozenAt k
        generalize ys.getD k 0 = x at g1
        have HL := Lib.hid hl
        clear hl
        go_wp2
        go_roundw
        case rel =>
          refine ⟨k + 1, ys.set k (wrap64 (-9 - x)), by omega, by go_num, ?_, World.grownBy.trans HG2.out (HO2.out.stored k _).2⟩
          have h := (HO2.out.stored k (.int .i64 (wrap64 (-9 - x)))).1
          rw [show nums (ys.set k (wrap64 (-9 - x))) = (nums ys).set k (.int .i64 (wrap64 (-9 - x))) by simp [nums, List.map_set]]
          exact h
        case measure => simp [intOf]; omega
      · go_wp2
        go_end0
        exact ⟨rfl, HG2.out⟩
  · obtain rfl : n = 0 := by omega
    obtain ⟨A, c, hv⟩ : ∃ A c, v = .slice A 0 c := by
      rcases ho.2 with ⟨rfl, _⟩ | ⟨g, cap, cur, rfl, _⟩
      · exact ⟨_, _, rfl⟩
      · exact ⟨_, _, rfl⟩
    subst hv
    clear ho hp
    go_enter Try.func19, Try.ntmps19
    go_wp2_with fail
    go_loopw [2] (fun i wr => i = .int .i64 0 ∧ wr = w) (fun _ _ => 0)
    case atStart => exact ⟨rfl, rfl⟩
    case round =>
      obtain ⟨rfl, rfl⟩ := hrel
      go_wp2
      go_end0
      exact ⟨rfl, World.grownBy.refl _ _⟩
end Go.Proofs.Ytgkgfeggpoimjaa
