/- Pairs in cells: the plain law. -/
import Derived.Test.YtgfldfkgialdlaaCellG
import Derived.Test.YtgfldfkgialdlaaPairE
namespace Go.Proofs.Ytgfldfkgialdlaa
set_option linter.unusedVariables false
set_option linter.unusedSimpArgs false
open Go.RowKit

theorem put_size {x : ByteArray} (h : x.size = 32) : (putP x).1.size = 64 := by
  rw [putP, if_pos h, str_size, List.length_append, compl_len, data_len, h]
theorem put_err {x : ByteArray} (h : x.size = 32) : (putP x).2 = 0 := by rw [putP, if_pos h]
theorem compl_at (l : List UInt8) (j : Nat) (h : j < l.length) : (compl l).getD j 0 = ~~~(l.getD j 0) := by
  simp [compl, List.getD_eq_getElem?_getD, List.getElem?_map, List.getElem?_eq_getElem h]
theorem put_lo {x : ByteArray} (h : x.size = 32) (j : Nat) (hj : j < 32) : gB (putP x).1 j = gB x j := by
  rw [putP, if_pos h, gB, str_data, gB, List.getD_eq_getElem?_getD, List.getD_eq_getElem?_getD, List.getElem?_append_left (by rw [data_len, h]; exact hj)]
theorem put_hi {x : ByteArray} (h : x.size = 32) (j : Nat) (hj : j < 32) : gB (putP x).1 (32 + j) = ~~~(gB x j) := by
  have e := compl_at x.data.toList j (by rw [data_len, h]; exact hj)
  rw [putP, if_pos h, gB, str_data, gB, ← e, List.getD_eq_getElem?_getD, List.getD_eq_getElem?_getD, List.getElem?_append_right (by rw [data_len, h]; omega), data_len, h, show 32 + j - 32 = j by omega]

theorem get_ok {u : ByteArray} (h : u.size = 64) (k : ∀ j, j < 32 → gB u (32 + j) = ~~~(gB u j)) : getP u = (u.extract 0 32, 0) := by
  rw [getP_eq, if_pos]
  refine ⟨by omega, List.ext_getElem (by simp [compl_len, data_len, h]) fun i h1 h2 => ?_⟩
  have hi : i < 32 := by simp [compl_len, data_len, h] at h2; omega
  have e := k i hi
  have hl : u.data.toList.length = 64 := by rw [data_len, h]
  rw [gB, gB, List.getD_eq_getElem?_getD, List.getD_eq_getElem?_getD, List.getElem?_eq_getElem (by omega), List.getElem?_eq_getElem (by omega), Option.getD_some, Option.getD_some] at e
  rw [List.getElem_drop, e]
  simp [compl]
theorem get_no {u : ByteArray} (h : u.size = 64) {j : Nat} (hj : j < 32) (k : gB u (32 + j) ≠ ~~~(gB u j)) : getP u = (str [], 200) := by
  rw [getP_eq, if_neg]
  rintro ⟨_, e⟩
  refine k ?_
  have hl : u.data.toList.length = 64 := by rw [data_len, h]
  have e1 := congrArg (fun l => l.getD j 0) e
  change (u.data.toList.drop 32).getD j 0 = _ at e1
  rw [compl_at _ _ (by rw [List.length_take, hl]; omega)] at e1
  have e2 : (u.data.toList.drop 32).getD j 0 = gB u (32 + j) := by rw [gB, List.getD_eq_getElem?_getD, List.getD_eq_getElem?_getD, List.getElem?_drop]
  have e3 : (u.data.toList.take 32).getD j 0 = gB u j := by rw [gB, List.getD_eq_getElem?_getD, List.getD_eq_getElem?_getD, List.getElem?_take, if_pos hj]
  rw [← e2, e1, e3]

theorem u8_both (p q : UInt8) (h : ~~~p &&& ~~~q = ~~~(p &&& q)) : p = q := by
  refine u8_eq fun i hi => ?_
  have h1 := congrArg (fun z : UInt8 => z.toBitVec.getLsbD i) h
  simp only [UInt8.toBitVec_and, UInt8.toBitVec_not, BitVec.getLsbD_and, BitVec.getLsbD_not, hi, decide_true, Bool.true_and] at h1
  revert h1
  generalize p.toBitVec.getLsbD i = b
  generalize q.toBitVec.getLsbD i = c
  revert b c; decide

/-- Two slots over one another, upon blank cells. -/
theorem over_slot {x y p q u : ByteArray} (hx : x.size = 32) (hy : y.size = 32) (hp : progL (str blankL) 0 (putP x).1 allB = p) (hq : progL p 0 (putP y).1 allB = q) (hu : q.extract 0 64 = u) :
    progE (str blankL) 0 (putP x).1 = 0 ∧ progE p 0 (putP y).1 = 0 ∧ p.size = 4096 ∧ q.size = 4096 ∧ (x = y → getP u = (x, 0)) ∧ (x ≠ y → getP u = (str [], 200)) := by
  have zx := put_size hx
  have zy := put_size hy
  have o1 : progOk (str blankL) 0 (putP x).1 = true := progOk_in blank_size (by decide) (by rw [zx]; decide)
  have zp : p.size = 4096 := by rw [← hp]; exact progL_size o1
  have o2 : progOk p 0 (putP y).1 = true := progOk_in zp (by decide) (by rw [zy]; decide)
  have zq : q.size = 4096 := by rw [← hq]; exact progL_size o2
  have zu : u.size = 64 := by rw [← hu, ByteArray.size_extract]; omega
  have gu : ∀ j, j < 64 → gB u j = gB (putP x).1 j &&& gB (putP y).1 j := fun j hj => by
    rw [← hu, ext_gBx q 0 64 j (by omega) (by omega), Nat.zero_add, ← hq, progL_get o2, zy, if_pos (by simp; omega), progF_all, ← hp, progL_get o1, zx, if_pos (by simp; omega), progF_all, blank_get j (by omega)]
    have e : ∀ b : UInt8, 255 &&& b = b := fun b => by
      have h : ∀ d : BitVec 8, (255 : BitVec 8) &&& d = d := by decide
      exact UInt8.toBitVec_inj.1 (h b.toBitVec)
    rw [e]
    rfl
  refine ⟨progE_of o1, progE_of o2, zp, zq, ?_, ?_⟩
  · rintro rfl
    have gu' : ∀ j, j < 64 → gB u j = gB (putP x).1 j := fun j hj => by rw [gu j hj, UInt8.and_self]
    rw [get_ok zu fun j hj => by rw [gu' _ (by omega), gu' _ (by omega), put_hi hx j hj, put_lo hx j hj]]
    have e : u.extract 0 32 = x := ext_gB (by rw [ByteArray.size_extract, hx]; omega) fun j hj => by
      have hj : j < 32 := by rw [ByteArray.size_extract] at hj; omega
      rw [ext_gBx u 0 32 j (by omega) (by omega), Nat.zero_add, gu' j (by omega), put_lo hx j hj]
    rw [e]
  · intro hne
    have hj : ∃ j, j < 32 ∧ gB x j ≠ gB y j := by
      refine Classical.byContradiction fun hn => hne (ext_gB (by omega) fun j hj => ?_)
      exact Classical.byContradiction fun h => hn ⟨j, by omega, h⟩
    obtain ⟨j, hj, hd⟩ := hj
    refine get_no zu hj fun h => hd (u8_both _ _ ?_)
    rw [gu _ (by omega), gu _ (by omega), put_hi hx j hj, put_hi hy j hj, put_lo hx j hj, put_lo hy j hj] at h
    exact h
end Go.Proofs.Ytgfldfkgialdlaa
