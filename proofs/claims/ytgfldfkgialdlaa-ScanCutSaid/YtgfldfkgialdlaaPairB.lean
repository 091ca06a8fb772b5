/- pair.Get and the document's GetPair. -/
import Derived.Test.YtgfldfkgialdlaaPairA
namespace Go.Proofs.Ytgfldfkgialdlaa
set_option linter.unusedVariables false
set_option linter.unusedSimpArgs false
open Go.RowKit
theorem num_any (n : Int) (w : World) : Calls Try.prog 17 #[.int .i64 n] w fun e w' => e = .returned (.int .i64 n) ∧ w = w' := by
  go_enter Try.func17, Try.ntmps17
  go_wp2
  go_ret
  exact ⟨rfl, rfl⟩

def getP (t : ByteArray) : ByteArray × Int := if 32 ≤ t.size ∧ (putP (t.extract 0 32)).1 = t then (t.extract 0 32, 0) else (str [], 200)

theorem ext_size (t : ByteArray) (h : 32 ≤ t.size) : (t.extract 0 32).size = 32 := by rw [ByteArray.size_extract]; omega

theorem get_any (t : ByteArray) (w : World) :
    Calls Try.prog 38 #[.string t] w fun e w' => e = .returned (.tuple #[.string (getP t).1, .int .i64 (getP t).2]) ∧ Below w.heap.size w w' := by
  by_cases h : 32 ≤ t.size
  · obtain ⟨u, hu⟩ : ∃ u, putP (t.extract 0 32) = (u, 0) := ⟨_, by unfold putP; rw [if_pos (ext_size t h)]⟩
    have HU := Lib.hid hu
    by_cases he : u = t
    · have hb : (!u.toList == t.toList) = false := by rw [eq_tl he]; rfl
      have hg : getP t = (t.extract 0 32, 0) := by simp only [getP, hu, he, h, and_self, if_true]
      rw [hg]
      clear hu he hg
      go_enter Try.func38, Try.ntmps38
      go_wp2_with fail
      with_reducible refine (put_any _ _).mono ?_
      rw [HU.out]
      rintro e w1 ⟨rfl, hb⟩
      have HB := Lib.hid hb
      clear hb
      go_wp2_with fail
      go_ret2
      exact ⟨rfl, HB.out⟩
    · have hb : (!u.toList == t.toList) = true := by rw [ne_tl he]; rfl
      have hg : getP t = (str [], 200) := by unfold getP; rw [if_neg (by rw [hu]; exact fun x => he x.2)]
      rw [hg]
      clear hu he hg
      go_enter Try.func38, Try.ntmps38
      go_wp2_with fail
      with_reducible refine (put_any _ _).mono ?_
      rw [HU.out]
      rintro e w1 ⟨rfl, hb⟩
      have HB := Lib.hid hb
      clear hb
      go_wp2_with fail
      go_ret2
      exact ⟨rfl, HB.out⟩
  · have hg : getP t = (str [], 200) := by unfold getP; rw [if_neg (fun x => h x.1)]
    have hu : putP t = (str [], 200) := by unfold putP; rw [if_neg (by omega)]
    have HU := Lib.hid hu
    rw [hg]
    clear hg hu
    go_enter Try.func38, Try.ntmps38
    go_wp2_with fail
    with_reducible refine (put_any _ _).mono ?_
    rw [HU.out]
    rintro e w1 ⟨rfl, hb⟩
    have HB := Lib.hid hb
    clear hb
    go_wp2_with fail
    go_ret2
    exact ⟨rfl, HB.out⟩

theorem putP_size (s u : ByteArray) (h : putP s = (u, 0)) : u.size = 64 := by
  unfold putP at h
  split at h
  · rename_i hs
    obtain ⟨rfl, _⟩ := Prod.mk.inj h
    have := data_len s
    rw [str_size, List.length_append, compl, List.length_map]
    omega
  · have := (Prod.mk.inj h).2
    simp at this

theorem rget_any (t : ByteArray) (w : World) :
    Calls Try.prog 40 #[.string t] w fun e w' => e = .returned (.tuple #[.string (getP t).1, .int .i64 (getP t).2]) ∧ Below w.heap.size w w' := by
  by_cases h : t.size = 64
  · obtain ⟨u, hu⟩ : ∃ u, putP (t.extract 0 32) = (u, 0) := ⟨_, by unfold putP; rw [if_pos (ext_size t (by omega))]⟩
    have HU := Lib.hid hu
    by_cases he : u = t
    · have hb : (!u.toList == t.toList) = false := by rw [eq_tl he]; rfl
      have hg : getP t = (t.extract 0 32, 0) := by unfold getP; rw [hu, if_pos ⟨by omega, he⟩]
      rw [hg]
      clear hu he hg
      go_enter Try.func40, Try.ntmps40
      go_wp2_with fail
      with_reducible refine (rput_any _ _).mono ?_
      rw [HU.out]
      rintro e w1 ⟨rfl, hb⟩
      have HB := Lib.hid hb
      clear hb
      go_wp2_with fail
      go_ret2
      exact ⟨rfl, HB.out⟩
    · have hb : (!u.toList == t.toList) = true := by rw [ne_tl he]; rfl
      have hg : getP t = (str [], 200) := by unfold getP; rw [if_neg (by rw [hu]; exact fun x => he x.2)]
      rw [hg]
      clear hu he hg
      go_enter Try.func40, Try.ntmps40
      go_wp2_with fail
      with_reducible refine (rput_any _ _).mono ?_
      rw [HU.out]
      rintro e w1 ⟨rfl, hb⟩
      have HB := Lib.hid hb
      clear hb
      go_wp2_with fail
      go_ret2
      exact ⟨rfl, HB.out⟩
  · have hd : ((t.size : Int) != 64) = true := by simp; omega
    have hg : getP t = (str [], 200) := by
      unfold getP
      split
      · rename_i hx
        obtain ⟨u, hu⟩ : ∃ u, putP (t.extract 0 32) = (u, 0) := ⟨_, by unfold putP; rw [if_pos (ext_size t hx.1)]⟩
        have h2 := putP_size _ _ hu
        rw [hu] at hx
        have h3 : u = t := hx.2
        rw [h3] at h2
        exact absurd h2 h
      · rfl
    rw [hg]
    clear hg h
    go_enter Try.func40, Try.ntmps40
    go_wp2
    go_ret2
    exact ⟨rfl, Below.refl _ _⟩

/-- So many bytes from a text, over and over. -/
def textL (bs : List UInt8) (k : Nat) : List UInt8 := (List.range k).map fun i => bs.getD (i % bs.length) 0
theorem textL_len (bs : List UInt8) (k : Nat) : (textL bs k).length = k := by simp [textL]
def fillL (bs : List UInt8) (k j : Nat) : List UInt8 := textL bs j ++ List.replicate (k - j) 0
theorem fillL_len (bs : List UInt8) (k j : Nat) (h : j ≤ k) : (fillL bs k j).length = k := by simp [fillL, textL]; omega
theorem fillL_zero (bs : List UInt8) (k : Nat) : fillL bs k 0 = List.replicate k 0 := by simp [fillL, textL]
theorem fillL_all (bs : List UInt8) (k : Nat) : fillL bs k k = textL bs k := by simp [fillL]
theorem fillL_nil (k j : Nat) (h : j ≤ k) : fillL [] k j = List.replicate k 0 := by
  have e : textL [] j = List.replicate j 0 := by
    unfold textL
    apply List.ext_getElem
    · simp
    · intro i h1 h2
      simp
  rw [fillL, e, List.replicate_append_replicate]
  congr 1
  omega
theorem fillL_succ (bs : List UInt8) (k j : Nat) (h : j < k) : fillL bs k (j + 1) = (fillL bs k j).set j (bs.getD (j % bs.length) 0) := by
  unfold fillL
  rw [List.set_append_right _ _ (by rw [textL_len]; exact Nat.le_refl _), textL_len, Nat.sub_self]
  have e : List.replicate (k - j) (0 : UInt8) = 0 :: List.replicate (k - (j + 1)) 0 := by
    rw [← List.replicate_succ]
    congr 1
    omega
  rw [e, List.set_cons_zero]
  simp [textL, List.range_succ]

end Go.Proofs.Ytgfldfkgialdlaa
