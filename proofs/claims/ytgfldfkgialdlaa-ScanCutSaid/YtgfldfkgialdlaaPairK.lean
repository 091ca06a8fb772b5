/- A slot in two pages, an erase that is cut: the plain law. -/
import Derived.Test.YtgfldfkgialdlaaPairG
namespace Go.Proofs.Ytgfldfkgialdlaa
set_option linter.unusedVariables false
set_option linter.unusedSimpArgs false
open Go.RowKit

theorem u8_bits {P : Bool → Bool → Bool → Bool → Bool → Prop} : True := trivial

theorem u8_w1 (x m1 m2 : UInt8) (h : 255 &&& ~~~(m2 &&& ~~~(~~~x)) = ~~~(255 &&& ~~~(m1 &&& ~~~x))) : 255 &&& ~~~(m1 &&& ~~~x) = x := by
  refine u8_eq fun i hi => ?_
  have h1 := congrArg (fun z : UInt8 => z.toBitVec.getLsbD i) h
  simp only [UInt8.toBitVec_and, UInt8.toBitVec_not, BitVec.getLsbD_and, BitVec.getLsbD_not, hi, decide_true, Bool.true_and] at h1 ⊢
  have e : (255 : UInt8).toBitVec.getLsbD i = true := by
    have : ∀ i : Fin 8, (255 : UInt8).toBitVec.getLsbD i.1 = true := by decide
    exact this ⟨i, hi⟩
  rw [e] at h1 ⊢
  revert h1
  generalize x.toBitVec.getLsbD i = b
  generalize m1.toBitVec.getLsbD i = c
  generalize m2.toBitVec.getLsbD i = d
  revert b c d; decide
theorem u8_w2 (x m1 m2 r1 r2 : UInt8) (h : 255 &&& ~~~(m2 &&& ~~~(~~~x)) ||| r2 = ~~~(255 &&& ~~~(m1 &&& ~~~x) ||| r1)) :
    255 &&& ~~~(m1 &&& ~~~x) ||| r1 = x ∧ 255 &&& ~~~(m1 &&& ~~~x) = x ∧ 255 &&& ~~~(m2 &&& ~~~(~~~x)) = ~~~x := by
  have e : ∀ i, i < 8 → (255 : UInt8).toBitVec.getLsbD i = true := fun i hi => by
    have : ∀ i : Fin 8, (255 : UInt8).toBitVec.getLsbD i.1 = true := by decide
    exact this ⟨i, hi⟩
  refine ⟨?_, ?_, ?_⟩ <;>
  · refine u8_eq fun i hi => ?_
    have h1 := congrArg (fun z : UInt8 => z.toBitVec.getLsbD i) h
    simp only [UInt8.toBitVec_and, UInt8.toBitVec_or, UInt8.toBitVec_not, BitVec.getLsbD_and, BitVec.getLsbD_or, BitVec.getLsbD_not, hi, decide_true, Bool.true_and, e i hi] at h1 ⊢
    revert h1
    generalize x.toBitVec.getLsbD i = b
    generalize m1.toBitVec.getLsbD i = c
    generalize m2.toBitVec.getLsbD i = d
    generalize r1.toBitVec.getLsbD i = f
    generalize r2.toBitVec.getLsbD i = g
    revert b c d f g; decide

theorem ext64 {u t : ByteArray} (hu : u.size = 64) (ht : t.size = 64) (h1 : ∀ j, j < 32 → gB u j = gB t j) (h2 : ∀ j, j < 32 → gB u (32 + j) = gB t (32 + j)) : u = t := by
  refine ext_gB (by omega) fun j hj => ?_
  by_cases c : j < 32
  · exact h1 j c
  · have := h2 (j - 32) (by omega)
    rwa [show 32 + (j - 32) = j by omega] at this
theorem slot_x {u x : ByteArray} (hu : u.size = 64) (hx : x.size = 32) (h : ∀ j, j < 32 → gB u j = gB x j) : u.extract 0 32 = x :=
  ext_gB (by rw [ByteArray.size_extract, hx]; omega) fun j hj => by
    have hj : j < 32 := by rw [ByteArray.size_extract] at hj; omega
    rw [ext_gBx u 0 32 j (by omega) (by omega), Nat.zero_add, h j hj]

theorem whole_slot {x t a b c u v : ByteArray} {r : Nat} {m1 m2 m3 : ByteArray} (hx : x.size = 32) (hr : r < 64) (ht : (putP x).1 = t)
    (ha : progL (str blankL) ((64 * r : Nat) : Int) (t.extract 0 32) m1 = a) (hb : progL a ((64 * r + 32 : Nat) : Int) (t.extract 32 64) m2 = b)
    (hu : b.extract (64 * r) (64 * r + 64) = u) (hc : erasL b ((r / 8 : Nat) : Int) m3 = c) (hv : c.extract (64 * r) (64 * r + 64) = v) :
    progE (str blankL) ((64 * r : Nat) : Int) (t.extract 0 32) = 0 ∧ progE a ((64 * r + 32 : Nat) : Int) (t.extract 32 64) = 0 ∧ erasE b ((r / 8 : Nat) : Int) = 0 ∧ a.size = 4096 ∧ b.size = 4096 ∧ c.size = 4096
    ∧ ((getP u = (x, 0) ∧ u = t ∧ getP v = (x, 0) ∧ v = t) ∨ (getP u = (x, 0) ∧ u = t ∧ getP v = (str [], 200) ∧ v ≠ t ∧ c ≠ b) ∨ (getP u = (str [], 200) ∧ u ≠ t ∧ getP v = (str [], 200))) := by
  have zt : t.size = 64 := by rw [← ht]; exact put_size hx
  have s1 := ext_data t 0 32 (by omega)
  have s2 := ext_data t 32 64 (by omega)
  have o1 : progOk (str blankL) ((64 * r : Nat) : Int) (t.extract 0 32) = true := progOk_in blank_size (by omega) (by rw [s1]; omega)
  have za : a.size = 4096 := by rw [← ha]; exact progL_size o1
  have o2 : progOk a ((64 * r + 32 : Nat) : Int) (t.extract 32 64) = true := progOk_in za (by omega) (by rw [s2]; omega)
  have zb : b.size = 4096 := by rw [← hb]; exact progL_size o2
  have o3 : erasOk b ((r / 8 : Nat) : Int) = true := erasOk_in zb (by omega) (by omega)
  have zc : c.size = 4096 := by rw [← hc]; exact erasL_size o3
  have zu : u.size = 64 := by rw [← hu, ByteArray.size_extract]; omega
  have zv : v.size = 64 := by rw [← hv, ByteArray.size_extract]; omega
  have tlo : ∀ j, j < 32 → gB t j = gB x j := fun j hj => by rw [← ht]; exact put_lo hx j hj
  have thi : ∀ j, j < 32 → gB t (32 + j) = ~~~(gB x j) := fun j hj => by rw [← ht]; exact put_hi hx j hj
  have ulo : ∀ j, j < 32 → gB u j = 255 &&& ~~~(maskB m1.data.toList j &&& ~~~(gB x j)) := fun j hj => by
    rw [← hu, ext_gBx b _ _ j (by omega) (by omega), ← hb, progL_get o2, if_neg (by simp; omega), ← ha, progL_get o1, s1, if_pos (by simp; omega), blank_get _ (by omega), progF, Int.toNat_natCast, show 64 * r + j - 64 * r = j by omega]
    have e : gB (t.extract 0 32) j = gB x j := by rw [ext_gBx t 0 32 j (by omega) (by omega), Nat.zero_add, tlo j hj]
    rw [← e]
    rfl
  have uhi : ∀ j, j < 32 → gB u (32 + j) = 255 &&& ~~~(maskB m2.data.toList j &&& ~~~(~~~(gB x j))) := fun j hj => by
    rw [← hu, ext_gBx b _ _ _ (by omega) (by omega), ← hb, progL_get o2, s2, if_pos (by simp; omega), ← ha, progL_get o1, s1, if_neg (by simp; omega), blank_get _ (by omega), progF, Int.toNat_natCast, show 64 * r + (32 + j) - (64 * r + 32) = j by omega]
    have e : gB (t.extract 32 64) j = ~~~(gB x j) := by rw [ext_gBx t 32 64 j (by omega) (by omega), thi j hj]
    rw [← e]
    rfl
  have vv : ∀ j, j < 64 → gB v j = gB u j ||| maskB m3.data.toList (64 * r + j - 512 * (r / 8)) := fun j hj => by
    rw [← hv, ext_gBx c _ _ j (by omega) (by omega), ← hc, erasL_get o3, if_pos (by simp; omega), erasF, Int.toNat_natCast, ← hu, ext_gBx b _ _ j (by omega) (by omega)]
  refine ⟨progE_of o1, progE_of o2, erasE_of o3, za, zb, zc, ?_⟩
  by_cases cA : ∀ j, j < 32 → gB v (32 + j) = ~~~(gB v j)
  · have k : ∀ j, j < 32 → gB v j = gB x j ∧ gB u j = gB x j ∧ gB u (32 + j) = ~~~(gB x j) := fun j hj => by
      have h := cA j hj
      rw [vv _ (by omega), vv _ (by omega), ulo j hj, uhi j hj] at h
      have := u8_w2 _ _ _ _ _ h
      rw [vv _ (by omega), ulo j hj, uhi j hj]
      exact this
    have eu : u = t := ext64 zu zt (fun j hj => by rw [(k j hj).2.1, tlo j hj]) (fun j hj => by rw [(k j hj).2.2, thi j hj])
    have ev : v = t := ext64 zv zt (fun j hj => by rw [(k j hj).1, tlo j hj]) (fun j hj => by rw [cA j hj, (k j hj).1, thi j hj])
    have g : getP t = (x, 0) := by rw [get_ok zt (fun j hj => by rw [thi j hj, tlo j hj]), slot_x zt hx tlo]
    exact .inl ⟨by rw [eu, g], eu, by rw [ev, g], ev⟩
  · have cA' : ∃ j, j < 32 ∧ gB v (32 + j) ≠ ~~~(gB v j) := Classical.byContradiction fun hn => cA fun j hj => Classical.byContradiction fun h => hn ⟨j, hj, h⟩
    obtain ⟨j, hj, hd⟩ := cA'
    have gv := get_no zv hj hd
    by_cases cB : ∀ j, j < 32 → gB u (32 + j) = ~~~(gB u j)
    · have k : ∀ j, j < 32 → gB u j = gB x j := fun j hj => by
        have h := cB j hj
        rw [ulo j hj, uhi j hj] at h
        rw [ulo j hj]
        exact u8_w1 _ _ _ h
      have eu : u = t := ext64 zu zt (fun j hj => by rw [k j hj, tlo j hj]) (fun j hj => by rw [cB j hj, k j hj, thi j hj])
      have g : getP u = (x, 0) := by rw [get_ok zu cB, slot_x zu hx k]
      refine .inr (.inl ⟨g, eu, gv, ?_, ?_⟩)
      · intro e
        rw [e] at hd
        exact hd (by rw [thi j hj, tlo j hj])
      · intro e
        rw [e, hu] at hv
        rw [← hv] at hd
        exact hd (cB j hj)
    · have cB' : ∃ j, j < 32 ∧ gB u (32 + j) ≠ ~~~(gB u j) := Classical.byContradiction fun hn => cB fun j hj => Classical.byContradiction fun h => hn ⟨j, hj, h⟩
      obtain ⟨i, hi, he⟩ := cB'
      refine .inr (.inr ⟨get_no zu hi he, ?_, gv⟩)
      intro e
      rw [e] at he
      exact he (by rw [thi i hi, tlo i hi])
end Go.Proofs.Ytgfldfkgialdlaa
