/- slices.Delete at pairs. -/
import Derived.Test.YtdgnpoapkjoknaaIdxB
namespace Go.Proofs.Ytdgnpoapkjoknaa
set_option linter.unusedVariables false
set_option linter.unusedSimpArgs false
open Go.RowKit

theorem OwnP.raw {w : World} {B g n cap : Nat} {ps : List PairV} (h : OwnP w B (.slice (some ⟨g, 0, none⟩) n cap) ps) : ∃ cur, Raw w g 48 cur ∧ B ≤ g ∧ g < w.heap.size ∧ ps.length = n ∧ n ≤ cap ∧ cap ≤ maxLen ∧ cur.size = cap * 2 ∧ cur.toList.take (n * 2) = flatP ps := by
  rcases h.2 with ⟨h', _⟩ | ⟨g', cap', cur, fz, h', hb, hg, hf, h1, h2, h3, h4⟩
  · simp at h'
  · simp only [Value.slice.injEq, Option.some.injEq, Addr.mk.injEq, and_true, true_and] at h'
    obtain ⟨rfl, rfl, rfl⟩ := h'
    exact ⟨cur, ⟨fz, hg, hf⟩, hb, (Array.getElem?_eq_some_iff.1 hg).1, rfl, h1, h2, h3, h4⟩
theorem OwnP.ofRaw {w : World} {B g cap : Nat} {ps : List PairV} {cur : Array Value} (hr : Raw w g 48 cur) (hb : B ≤ g) (h1 : ps.length ≤ cap) (h2 : cap ≤ maxLen) (h3 : cur.size = cap * 2) (h4 : cur.toList.take (ps.length * 2) = flatP ps) :
    OwnP w B (.slice (some ⟨g, 0, none⟩) ps.length cap) ps := by
  obtain ⟨fz, hg, hf⟩ := hr
  exact ⟨flatP_len ps, .inr ⟨g, cap, cur, fz, rfl, hb, hg, hf, h1, h2, h3, h4⟩⟩
theorem layA_take {cur : Array Value} {o k : Nat} {vs : List Value} (h : o ≤ cur.size) (hk : k = o + vs.length) : (layA cur o vs).toList.take k = cur.toList.take o ++ vs := by
  subst hk
  have e : (cur.toList.take o ++ vs).length = o + vs.length := by rw [List.length_append, List.length_take, Array.length_toList]; omega
  unfold layA
  rw [← e]
  exact List.take_left
theorem layA_take_lo {cur : Array Value} {o k : Nat} {vs : List Value} (h : o ≤ cur.size) (hk : k ≤ o) : (layA cur o vs).toList.take k = cur.toList.take k := by
  have e : (cur.toList.take o).length = o := by rw [List.length_take, Array.length_toList]; omega
  unfold layA
  rw [List.append_assoc, List.take_append_of_le_length (by rw [e]; exact hk), List.take_take, Nat.min_eq_left hk]
theorem grown2 {w w1 w2 : World} {r : Option Nat} (h1 : w.grownBy w1 r) (h2 : w1.grownBy w2 r) : w.grownBy w2 r :=
  ⟨h2.os.trans h1.os, h2.tape.trans h1.tape, h2.output.trans h1.output, Nat.le_trans h1.size h2.size, fun k hk hne => (h2.block k (Nat.lt_of_lt_of_le hk h1.size) hne).trans (h1.block k hk hne)⟩
theorem grown_drew (w : World) (r : Option Nat) : w.grownBy w.drew r := ⟨rfl, rfl, rfl, Nat.le_refl _, fun k hk hne => rfl⟩

theorem eraseIdx_flat (ps : List PairV) (i : Nat) : ps.eraseIdx i = ps.take i ++ ps.drop (i + 1) := List.eraseIdx_eq_take_drop_succ ps i

theorem zero_pair (w : World) : (zeroValue 48).run Try.prog w = .ok (.agg #[.string ⟨#[]⟩, .string ⟨#[]⟩]) w := by
  obtain ⟨i, hi, hz, _, _⟩ := info_parts infoPair
  simp [zeroValue, typeInfo, hi, hz]
theorem zeros_one : (Builtin.zeroCells (Value.agg #[.string ⟨#[]⟩, .string ⟨#[]⟩]).cells (0 + 1)).toList = [.string ⟨#[]⟩, .string ⟨#[]⟩] := by
  have e : (Value.agg #[.string ⟨#[]⟩, .string ⟨#[]⟩]).cells = #[.string ⟨#[]⟩, .string ⟨#[]⟩] := by simp [Value.cells]
  rw [e]
  apply List.ext_getElem
  · simp [Builtin.zeroCells]
  · intro i h1 h2
    simp [Builtin.zeroCells] at h1 ⊢
    match i, h1 with
    | 0, _ => rfl
    | 1, _ => rfl
theorem OwnP.grownKeep {w w' : World} {B : Nat} {v : Value} {ps : List PairV} {row : Option Nat} (h : OwnP w B v ps) (hg : w.grownBy w' row) (hne : v.ownBlock = none ∨ v.ownBlock ≠ row) : OwnP w' B v ps := Own.kept h hg hne
set_option maxRecDepth 100000 in
set_option maxHeartbeats 4000000 in
theorem pairs_delete (w : World) (B g m cap i : Nat) (ps : List PairV) (h : OwnP w B (.slice (some ⟨g, 0, none⟩) (m + 1) cap) ps) (hi : i ≤ m) :
    Calls Try.prog 41 #[.slice (some ⟨g, 0, none⟩) (m + 1) cap, .int .i64 i, .int .i64 ((i : Int) + 1)] w fun e w' =>
      e = .returned (.slice (some ⟨g, 0, none⟩) m cap) ∧ OwnP w' B (.slice (some ⟨g, 0, none⟩) m cap) (ps.eraseIdx i) ∧ w.grownBy w' (some g) := by
  obtain ⟨cur, hr, hB, hgl, hn, hc1, hc2, hsz, htk⟩ := h.raw
  have hc3 : cap ≤ 9223372036854775807 := by unfold maxLen at hc2; omega
  have hnl : (flatP (ps.drop (i + 1))).length = (m - i) * 2 := by rw [flatP_len, List.length_drop, hn]; congr 1; omega
  have hne : ((i : Int) == (i : Int) + 1) = false := by rw [beq_eq_false_iff_ne]; omega
  obtain ⟨A2, hA2⟩ : ∃ A2 : Addr, (if cap = i + 1 then some (⟨g, 0, none⟩ : Addr) else some ⟨g, (i + 1) * 2, none⟩) = some A2 := by split <;> exact ⟨_, rfl⟩
  have hsrc : ∀ j u, (flatP (ps.drop (i + 1)))[j]? = some u → w.drew.cell? (A2.add j) = some u := fun j u hu => by
    have hj : j < (flatP (ps.drop (i + 1))).length := (List.getElem?_eq_some_iff.1 hu).1
    rw [if_neg (by omega)] at hA2
    obtain rfl := Option.some.inj hA2
    rw [Addr.add_lit, hr.drew.cell]
    rw [← flatP_drop, List.getElem?_drop, ← htk, List.getElem?_take] at hu
    split at hu
    · simpa using hu
    · cases hu
  have hap : ∀ ty dc, (Builtin.append_ #[23, 23] ty #[.slice (some ⟨g, 0, none⟩) i cap, .slice (some A2) (m - i) dc]).run Try.prog w.drew = .ok (.slice (some ⟨g, 0, none⟩) (i + (m - i)) cap) (w.drew.setRow g (layA cur (i * 2) (flatP (ps.drop (i + 1))))) := fun ty dc =>
    run_appR w.drew _ ty 48 2 g i cap _ (m - i) dc cur _ Try.underlying23 sizePair hr.drew hnl hsrc (flatP_one _) (by omega) hsz
  obtain ⟨arr, ha⟩ : ∃ arr, layA cur (i * 2) (flatP (ps.drop (i + 1))) = arr := ⟨_, rfl⟩
  have hr1 : Raw (w.drew.setRow g arr) g 48 arr := by rw [← ha]; exact hr.drew.set (i * 2) _ (by rw [hnl, hsz]; omega)
  have hs1 : arr.size = cap * 2 := by rw [← ha, layA_size (by rw [hnl, hsz]; omega), hsz]
  have ht1 : arr.toList.take (m * 2) = flatP (ps.eraseIdx i) := by
    rw [← ha, layA_take (by rw [hsz]; omega) (by rw [hnl]; omega), eraseIdx_flat, flatP_app]
    congr 1
    rw [← flatP_take, ← htk, List.take_take, Nat.min_eq_left (by omega)]
  rw [ha, show i + (m - i) = m by omega] at hap
  have HR := Lib.hid hr1
  have HT := Lib.hid ht1
  have HS := Lib.hid hs1
  have hHN := Lib.hid hn
  have i1 : (i : Int) ≤ (i : Int) + 1 := by omega
  have i2 : (i : Int) + 1 ≤ (m : Int) + 1 := by omega
  have i3 : i + 1 ≤ m + 1 := by omega
  have i4 : i ≤ m + 1 := by omega
  have i5 : m + 1 ≤ cap := hc1
  have i6 : (i : Int) ≤ (cap : Int) := by omega
  have i7 : (m : Int) + 1 ≤ (cap : Int) := by omega
  have i8 : ((i : Int) + 1).toNat = i + 1 := by omega
  have i9 : (0 : Int) ≤ (i : Int) + 1 := by omega
  clear h hr hsrc hnl hr1 ht1 hs1 htk hn ha
  go_enter Try.func41, Try.ntmps41
  go_wp2_with fail
  go_region_law (refine step_bin rfl _ _ 23 23 (.slice (some ⟨g, 0, none⟩) i cap) (.slice (some A2) (m - i) (cap - (i + 1))) _ .append rfl (by simp [Act.eval, Act.put]) (by simp [Act.eval, Act.put]) (hap _ _) (.inl rfl) ?_)
  have hcl : ∀ ty dc, (Builtin.clear_ #[23] ty #[.slice (some ⟨g, m * 2, none⟩) 1 dc]).run Try.prog (w.drew.setRow g arr) = .ok (.tuple #[]) ((w.drew.setRow g arr).setRow g (layA arr (m * 2) [.string ⟨#[]⟩, .string ⟨#[]⟩])) := fun ty dc =>
    run_clearR _ _ _ ty (.agg #[.string ⟨#[]⟩, .string ⟨#[]⟩]) _ g (m * 2) 0 dc arr Try.underlying23 zero_pair zeros_one HR.out (by rw [HS.out]; show m * 2 + 2 ≤ cap * 2; omega) (fun v hv => by simp at hv; rw [hv]; rfl)
  go_wp2_with fail
  go_ret
  refine ⟨rfl, ?_, ?_⟩
  · have e := OwnP.ofRaw (B := B) (cap := cap) (ps := ps.eraseIdx i) (HR.out.set (m * 2) [.string ⟨#[]⟩, .string ⟨#[]⟩] (by rw [HS.out]; show m * 2 + 2 ≤ cap * 2; omega)) hB (by rw [List.length_eraseIdx, if_pos (by rw [hHN.out]; omega), hHN.out]; omega) hc2 (by rw [layA_size (by rw [HS.out]; show m * 2 + 2 ≤ cap * 2; omega), HS.out])
      (by rw [show (ps.eraseIdx i).length = m by rw [List.length_eraseIdx, if_pos (by rw [hHN.out]; omega), hHN.out]; omega, layA_take_lo (by rw [HS.out]; omega) (Nat.le_refl _), HT.out])
    rw [show (ps.eraseIdx i).length = m by rw [List.length_eraseIdx, if_pos (by rw [hHN.out]; omega), hHN.out]; omega] at e
    exact e
  · exact grown2 (grown2 (grown_drew w _) (Raw.grown w.drew g arr)) (Raw.grown _ g _)
end Go.Proofs.Ytdgnpoapkjoknaa
