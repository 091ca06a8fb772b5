/- The statement ScanCut: the law. -/
import Derived.Test.YtgfldfkgialdlaaScanL
import Derived.Test.YtgfldfkgialdlaaPairK
namespace Go.Proofs.Ytgfldfkgialdlaa
set_option linter.unusedVariables false
set_option linter.unusedSimpArgs false
open Go.RowKit

theorem isR_badT {u x : ByteArray} (h : getP u = (x, 200)) : isR u = false := by
  have t := tell_of (ansR_bad h)
  cases hi : isR u with
  | false => rfl
  | true =>
    have := (isR_iff _).1 hi
    rw [t.2] at this
    exact absurd this.1 (by decide)
/-- A sector in the middle of blank cells. -/
def aroundB (s : ByteArray) : ByteArray := (str blankL).extract 0 2048 ++ s ++ (str blankL).extract 0 1536
theorem around_size {s : ByteArray} (h : s.size = 512) : (aroundB s).size = 4096 := by
  rw [aroundB, ByteArray.size_append, ByteArray.size_append, ByteArray.size_extract, ByteArray.size_extract, blank_size, h]
  decide
theorem around_mid {s : ByteArray} (h : s.size = 512) (j : Nat) (hj : j < 512) : gB (aroundB s) (2048 + j) = gB s j := by
  have e1 : ((str blankL).extract 0 2048).size = 2048 := by rw [ByteArray.size_extract, blank_size]; decide
  have e : (aroundB s).data.toList = ((str blankL).extract 0 2048).data.toList ++ (s.data.toList ++ ((str blankL).extract 0 1536).data.toList) := by
    rw [aroundB, ByteArray.data_append, ByteArray.data_append, Array.toList_append, Array.toList_append, List.append_assoc]
  rw [gB, gB, e, List.getD_eq_getElem?_getD, List.getD_eq_getElem?_getD, List.getElem?_append_right (by rw [data_len, e1]; omega), data_len, e1, List.getElem?_append_left (by rw [data_len, h]; omega), show 2048 + j - 2048 = j by omega]
theorem slotB_get {s : ByteArray} (zs : s.size = 512) {i j : Nat} (hi : i < 8) (hj : j < 64) : gB (slotB s i) j = gB s (64 * i + j) := by
  rw [slotB, ext_gBx s _ _ j (by omega) (by omega)]
theorem blank64_get (j : Nat) (hj : j < 64) : gB blank64 j = 255 := by
  rw [gB, blank64_data, List.getD_eq_getElem?_getD, List.getElem?_replicate, if_pos hj]
  rfl
theorem cut_slots {s a0 x t a1 a2 s' : ByteArray} {F : Nat} {m1 m2 : ByteArray} (hx : x.size = 32) (ht : (putP x).1 = t) (hF : F < 8) (zs : s.size = 512) (z0 : a0.size = 4096) (h0 : ∀ j, j < 512 → gB a0 (2048 + j) = gB s j) (hb : slotB s F = blank64)
    (h1 : progL a0 ((2048 + 64 * F : Nat) : Int) (t.extract 0 32) m1 = a1) (h2 : progL a1 ((2048 + 64 * F + 32 : Nat) : Int) (t.extract 32 64) m2 = a2) (hs : a2.extract 2048 2560 = s') :
    progE a0 ((2048 + 64 * F : Nat) : Int) (t.extract 0 32) = 0 ∧ progE a1 ((2048 + 64 * F + 32 : Nat) : Int) (t.extract 32 64) = 0 ∧ a1.size = 4096 ∧ a2.size = 4096 ∧ s'.size = 512 ∧ a2.extract (2048 + 64 * F) (2048 + 64 * F + 64) = slotB s' F
    ∧ (∀ i, i < 8 → i ≠ F → slotB s' i = slotB s i) ∧ ((getP (slotB s' F) = (x, 0) ∧ slotB s' F = t) ∨ (getP (slotB s' F) = (str [], 200) ∧ slotB s' F ≠ t)) := by
  have zt : t.size = 64 := by rw [← ht]; exact put_size hx
  have s1 := ext_data t 0 32 (by omega)
  have s2 := ext_data t 32 64 (by omega)
  have o1 : progOk a0 ((2048 + 64 * F : Nat) : Int) (t.extract 0 32) = true := progOk_in z0 (by omega) (by rw [s1]; omega)
  have za : a1.size = 4096 := by rw [← h1]; exact progL_size o1
  have o2 : progOk a1 ((2048 + 64 * F + 32 : Nat) : Int) (t.extract 32 64) = true := progOk_in za (by omega) (by rw [s2]; omega)
  have zb : a2.size = 4096 := by rw [← h2]; exact progL_size o2
  have zs' : s'.size = 512 := by rw [← hs, ByteArray.size_extract]; omega
  have g' : ∀ j, j < 512 → gB s' j = gB a2 (2048 + j) := fun j hj => by rw [← hs, ext_gBx a2 _ _ j (by omega) (by omega)]
  have tlo : ∀ j, j < 32 → gB t j = gB x j := fun j hj => by rw [← ht]; exact put_lo hx j hj
  have thi : ∀ j, j < 32 → gB t (32 + j) = ~~~(gB x j) := fun j hj => by rw [← ht]; exact put_hi hx j hj
  have hbl : ∀ j, j < 64 → gB a0 (2048 + 64 * F + j) = 255 := fun j hj => by
    have := slotB_get zs hF hj
    rw [show 2048 + 64 * F + j = 2048 + (64 * F + j) by omega, h0 _ (by omega), ← this, hb, blank64_get j hj]
  have ulo : ∀ j, j < 32 → gB (slotB s' F) j = 255 &&& ~~~(maskB m1.data.toList j &&& ~~~(gB x j)) := fun j hj => by
    rw [slotB_get zs' hF (by omega), g' _ (by omega), ← h2, progL_get o2, if_neg (by simp; omega), ← h1, progL_get o1, s1, if_pos (by simp; omega), show 2048 + (64 * F + j) = 2048 + 64 * F + j by omega, hbl j (by omega), progF, Int.toNat_natCast, show 2048 + 64 * F + j - (2048 + 64 * F) = j by omega]
    have e : gB (t.extract 0 32) j = gB x j := by rw [ext_gBx t 0 32 j (by omega) (by omega), Nat.zero_add, tlo j hj]
    rw [← e]
    rfl
  have uhi : ∀ j, j < 32 → gB (slotB s' F) (32 + j) = 255 &&& ~~~(maskB m2.data.toList j &&& ~~~(~~~(gB x j))) := fun j hj => by
    rw [slotB_get zs' hF (by omega), g' _ (by omega), ← h2, progL_get o2, s2, if_pos (by simp; omega), ← h1, progL_get o1, s1, if_neg (by simp; omega), show 2048 + (64 * F + (32 + j)) = 2048 + 64 * F + (32 + j) by omega, hbl (32 + j) (by omega), progF, Int.toNat_natCast, show 2048 + 64 * F + (32 + j) - (2048 + 64 * F + 32) = j by omega]
    have e : gB (t.extract 32 64) j = ~~~(gB x j) := by rw [ext_gBx t 32 64 j (by omega) (by omega), thi j hj]
    rw [← e]
    rfl
  have zu : (slotB s' F).size = 64 := slotB_size zs' hF
  refine ⟨progE_of o1, progE_of o2, za, zb, zs', ?_, ?_, ?_⟩
  · refine ext_gB (by rw [zu, ByteArray.size_extract]; omega) fun j hj => ?_
    have hj : j < 64 := by rw [ByteArray.size_extract] at hj; omega
    rw [ext_gBx a2 _ _ j (by omega) (by omega), slotB_get zs' hF hj, g' _ (by omega), show 2048 + (64 * F + j) = 2048 + 64 * F + j by omega]
  · intro i hi hne
    refine ext_gB (by rw [slotB_size zs' hi, slotB_size zs hi]) fun j hj => ?_
    rw [slotB_size zs' hi] at hj
    rw [slotB_get zs' hi hj, slotB_get zs hi hj, g' _ (by omega), ← h2, progL_get o2, if_neg (by rw [s2]; simp; omega), ← h1, progL_get o1, if_neg (by rw [s1]; simp; omega), h0 _ (by omega)]
  · by_cases cB : ∀ j, j < 32 → gB (slotB s' F) (32 + j) = ~~~(gB (slotB s' F) j)
    · have k : ∀ j, j < 32 → gB (slotB s' F) j = gB x j := fun j hj => by
        have h := cB j hj
        rw [ulo j hj, uhi j hj] at h
        rw [ulo j hj]
        exact u8_w1 _ _ _ h
      have eu : slotB s' F = t := ext64 zu zt (fun j hj => by rw [k j hj, tlo j hj]) (fun j hj => by rw [cB j hj, k j hj, thi j hj])
      have g : getP (slotB s' F) = (x, 0) := by rw [get_ok zu cB, slot_x zu hx k]
      exact .inl ⟨g, eu⟩
    · have cB' : ∃ j, j < 32 ∧ gB (slotB s' F) (32 + j) ≠ ~~~(gB (slotB s' F) j) := Classical.byContradiction fun hn => cB fun j hj => Classical.byContradiction fun h => hn ⟨j, hj, h⟩
      obtain ⟨i, hi, he⟩ := cB'
      refine .inr ⟨get_no zu hi he, ?_⟩
      intro e
      rw [e] at he
      exact he (by rw [thi i hi, tlo i hi])

theorem blankB_64 {u : ByteArray} (hu : u.size = 64) : blankB u = true ↔ u = blank64 := by
  constructor
  · intro h
    refine ext_gB (by rw [hu, blank64_size]) fun j hj => ?_
    rw [blank64_get j (by omega)]
    have e : u.data.toList = List.replicate u.size 255 := by simpa [blankB] using h
    rw [gB, e, List.getD_eq_getElem?_getD, List.getElem?_replicate, if_pos hj]
    rfl
  · rintro rfl
    exact blankB_blank
theorem freeN_zero (s : ByteArray) : freeN s 0 = 1 := by rw [freeN]
theorem freeN_of {s : ByteArray} {F : Nat} (n : Nat) : freeN s n = F → F ≤ n + 1 ∧ freeN s (F - 1) = F ∧ ∀ i, F ≤ i → i ≤ n → blankB (slotB s i) = true := by
  induction n with
  | zero =>
    rw [freeN_zero]
    rintro rfl
    exact ⟨by omega, freeN_zero s, fun i h1 h2 => by omega⟩
  | succ n ih =>
    intro h
    rw [freeN] at h
    by_cases hb : blankB (slotB s (n + 1)) = true
    · rw [if_pos hb] at h
      obtain ⟨i1, i2, i3⟩ := ih h
      refine ⟨by omega, i2, fun i h1 h2 => ?_⟩
      by_cases hi : i = n + 1
      · rw [hi]; exact hb
      · exact i3 i h1 (by omega)
    · rw [if_neg hb] at h
      subst h
      refine ⟨by omega, ?_, fun i h1 h2 => by omega⟩
      show freeN s (n + 1) = n + 2
      rw [freeN, if_neg hb]
theorem cut_rows {s s' : ByteArray} {F : Nat} {X : List RecV} (h0 : ∀ i, i < 8 → i ≠ F → slotB s' i = slotB s i) (hf : freeN s 7 = F) (zs : s.size = 512) (h1 : 1 ≤ F) (h8 : F < 8) (hX : X = if isR (slotB s' F) = true then [tellR (slotB s' F)] else []) : ∀ n, n ≤ 7 → 
    (n < F → recsN s' n = recsN s n ∧ freeN s' n = freeN s n) ∧ (F ≤ n → recsN s' n = recsN s n ++ X ∧ recsN s n = recsN s (F - 1) ∧ freeN s' n = if blankB (slotB s' F) = true then F else F + 1)
  | 0, _ => ⟨fun _ => ⟨rfl, rfl⟩, fun h => by omega⟩
  | n + 1, hn => by
    obtain ⟨f1, f2, f3⟩ := freeN_of 7 hf
    obtain ⟨i1, i2⟩ := cut_rows h0 hf zs h1 h8 hX n (by omega)
    refine ⟨fun h => ?_, fun h => ?_⟩
    · obtain ⟨e1, e2⟩ := i1 (by omega)
      rw [recsN, freeN, recsN, freeN, h0 _ (by omega) (by omega), e1, e2]
      exact ⟨rfl, rfl⟩
    · have hb := f3 (n + 1) h (by omega)
      have eb := (blankB_64 (slotB_size zs (by omega))).1 hb
      have er : isR (slotB s (n + 1)) = false := by rw [eb]; exact isR_blank
      have e3 : recsN s (n + 1) = recsN s n := by rw [recsN, er]; exact if_neg (by decide)
      by_cases hF : F = n + 1
      · obtain ⟨e1, e2⟩ := i1 (by omega)
        have e4 : recsN s' (n + 1) = recsN s n ++ X := by
          rw [recsN, hX, e1, hF]
          split
          · rfl
          · rw [List.append_nil]
        refine ⟨by rw [e4, e3], by rw [e3, hF]; rfl, ?_⟩
        rw [freeN, e2, ← hF]
        have e5 : freeN s n = F := by rw [show n = F - 1 by omega]; exact f2
        rw [e5, show n + 2 = F + 1 by omega]
      · obtain ⟨e1, e2, e4⟩ := i2 (by omega)
        rw [e3, recsN, freeN, h0 _ (by omega) (fun e => hF e.symm), er, hb, if_neg (by decide), if_pos rfl]
        exact ⟨e1, e2, e4⟩
/-- What Scan tells behind the cut program. -/
theorem cut_told {s s' : ByteArray} {F : Nat} {r : RecV} {x : ByteArray} (hm : mayP r) (hk : r.k ≠ 0) (zs : s.size = 512) (zs' : s'.size = 512) (h0 : ∀ i, i < 8 → i ≠ F → slotB s' i = slotB s i) (hf : freeN s 7 = F) (h8 : F < 8)
    (hd : (getP (slotB s' F) = (x, 0) ∧ slotB s' F = putR r) ∨ (getP (slotB s' F) = (str [], 200) ∧ slotB s' F ≠ putR r)) :
    scanG s' = scanG s ∧ scanP s' = scanP s ∧ recsS s' = recsS s ++ (if slotB s' F = putR r then [r] else []) ∧ freeS s' = ((if slotB s' F = blank64 then F else F + 1 : Nat) : Int) := by
  have h1 : 1 ≤ F := by rw [← hf]; exact (freeN_in s 7).1
  have c := cut_rows h0 hf zs h1 h8 (X := if slotB s' F = putR r then [r] else []) (by
    rcases hd with ⟨_, h⟩ | ⟨g, h⟩
    · rw [if_pos h, h, isR_put hm, (tell_put hm).1, if_pos (decide_eq_true hk)]
    · rw [if_neg h, isR_badT g, if_neg (by decide)]) 7 (by omega)
  obtain ⟨c1, c2, c3⟩ := c.2 (by omega)
  have e0 := h0 0 (by omega) (by omega)
  have eg : goodS s' = goodS s := by rw [goodS, goodS, e0]
  refine ⟨by rw [scanG, scanG, if_pos zs, if_pos zs', eg], by rw [scanP, scanP, if_pos zs, if_pos zs', epochS, epochS, eg, e0], by rw [recsS, recsS, if_pos zs, if_pos zs', c1], ?_⟩
  rw [freeS, if_pos zs', c3]
  by_cases hb : slotB s' F = blank64
  · rw [if_pos hb, if_pos ((blankB_64 (slotB_size zs' h8)).2 hb)]
  · rw [if_neg hb, if_neg (fun h => hb ((blankB_64 (slotB_size zs' h8)).1 h))]
def CutS (s t first second : ByteArray) (F : Nat) (g : Bool) (p : Int) (qs : List RecV) (r : RecV) : Prop :=
  ∃ a1 a2 s' u, t.size = 64 ∧ (aroundB s).size = 4096 ∧ a1.size = 4096 ∧ a2.size = 4096 ∧ s'.size = 512
    ∧ progL (aroundB s) ((2048 + 64 * F : Nat) : Int) (t.extract 0 32) first = a1 ∧ progE (aroundB s) ((2048 + 64 * F : Nat) : Int) (t.extract 0 32) = 0
    ∧ progL a1 ((2048 + 64 * F + 32 : Nat) : Int) (t.extract 32 64) second = a2 ∧ progE a1 ((2048 + 64 * F + 32 : Nat) : Int) (t.extract 32 64) = 0
    ∧ a2.extract (2048 + 64 * F) (2048 + 64 * F + 64) = u ∧ a2.extract 2048 2560 = s'
    ∧ scanG s' = g ∧ scanP s' = p ∧ recsS s' = qs ++ (if u = t then [r] else []) ∧ freeS s' = ((if u = blank64 then F else F + 1 : Nat) : Int) ∧ t ≠ blank64
theorem cut_all {s : ByteArray} {F : Nat} {r : RecV} (first second : ByteArray) (hm : mayP r) (hk : r.k ≠ 0) (zs : s.size = 512) (hf : freeN s 7 = F) (h8 : F < 8) :
    CutS s (putR r) first second F (scanG s) (scanP s) (recsS s) r := by
  have z := half32_size hm
  have e : (putP (half32 r)).1 = putR r := by rw [putR, if_pos hm]
  obtain ⟨f1, f2, f3⟩ := freeN_of 7 hf
  have hb := (blankB_64 (slotB_size zs h8)).1 (f3 F (Nat.le_refl _) (by omega))
  have zt : (putR r).size = 64 := by rw [← e]; exact put_size z
  obtain ⟨c1, c2, c3, c4, c5, c6, c7, c8⟩ := cut_slots (m1 := first) (m2 := second) z e h8 zs (around_size zs) (fun j hj => around_mid zs j hj) hb rfl rfl rfl
  obtain ⟨d1, d2, d3, d4⟩ := cut_told hm hk zs c5 c7 hf h8 c8
  refine ⟨_, _, _, _, zt, around_size zs, c3, c4, c5, rfl, c1, rfl, c2, c6, rfl, d1, d2, d3, d4, ?_⟩
  intro h
  have := blankB_put hm
  rw [h, blankB_blank] at this
  cases this
end Go.Proofs.Ytgfldfkgialdlaa
