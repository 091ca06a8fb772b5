/- The law: an act may be for the program just where it may be for the document. -/
import Derived.Test.YtfdbolnifjpbhaaDoorScF
import Derived.Test.YtfdbolnifjpbhaaDoorScG
namespace Go.Proofs.YtfdbolnifjpbhaaDoor
set_option linter.unusedVariables false
set_option linter.unusedSimpArgs false
open Go.RowKit

theorem bet_one_iff (lo hi x : Int) : betB lo hi [x] = true ↔ lo ≤ x ∧ x ≤ hi := by
  unfold betB
  rw [decide_eq_true_iff]
  constructor
  · intro h; exact h.1 x (by simp)
  · intro h; exact ⟨fun y hy => by simp at hy; subst hy; exact h, by show 1 ≤ 16; decide⟩
theorem okB_of (a : ActV) (c : UInt8) (b : Bool) (h : decide (0 ≤ Lib.indexByte (namedL a.k) c) = b) : okB a c = (!spareB a c || b) := by rw [okB, h]
theorem lean_kind (k : Int) (key val mask : ByteArray) (pl wd ls : Int) (busy reads : List Int) (h0 : 0 ≤ k) (h7 : k ≤ 7) :
    leanB ⟨k, key, val, pl, wd, ls, mask, busy, reads⟩ = kindR k (reads.length == 0) key.toList.isEmpty val.toList.isEmpty (pl == 0) (wd == 0) (ls == 0) (busy.length == 0) := by
  have e1 : spareB ⟨k, key, val, pl, wd, ls, mask, busy, reads⟩ 107 = !key.toList.isEmpty := rfl
  have e2 : spareB ⟨k, key, val, pl, wd, ls, mask, busy, reads⟩ 118 = !val.toList.isEmpty := rfl
  have e3 : spareB ⟨k, key, val, pl, wd, ls, mask, busy, reads⟩ 114 = !(reads.length == 0) := by
    show decide (0 < reads.length) = _
    cases reads <;> simp
  have e4 : spareB ⟨k, key, val, pl, wd, ls, mask, busy, reads⟩ 98 = !((pl == 0) && (wd == 0)) := by
    show (pl != 0 || wd != 0) = _
    cases h1 : (pl == 0) <;> cases h2 : (wd == 0) <;> simp_all [bne]
  have e5 : spareB ⟨k, key, val, pl, wd, ls, mask, busy, reads⟩ 108 = !((ls == 0) && (busy.length == 0)) := by
    show (ls != 0 || decide (0 < busy.length)) = _
    cases h1 : (ls == 0) <;> cases busy <;> simp_all [bne]
  generalize (reads.length == 0) = r0 at *
  generalize key.toList.isEmpty = ke at *
  generalize val.toList.isEmpty = ve at *
  generalize (pl == 0) = p0 at *
  generalize (wd == 0) = w0 at *
  generalize (ls == 0) = l0 at *
  generalize (busy.length == 0) = b0 at *
  unfold leanB okB
  rw [e1, e2, e3, e4, e5]
  simp only
  have hk : k = 0 ∨ k = 1 ∨ k = 2 ∨ k = 3 ∨ k = 4 ∨ k = 5 ∨ k = 6 ∨ k = 7 := by omega
  clear e1 e2 e3 e4 e5
  rcases hk with rfl | rfl | rfl | rfl | rfl | rfl | rfl | rfl <;> (clear h0 h7; cases r0 <;> cases ke <;> cases ve <;> cases p0 <;> cases w0 <;> cases l0 <;> cases b0 <;> rfl)
theorem may_eq (a : ActV) : mayA a = mayR a := by
  obtain ⟨k, key, val, pl, wd, ls, mask, busy, reads⟩ := a
  have hR : mayR ⟨k, key, val, pl, wd, ls, mask, busy, reads⟩ = (okR ⟨k, key, val, pl, wd, ls, mask, busy, reads⟩ && kindR k (reads.length == 0) key.toList.isEmpty val.toList.isEmpty (pl == 0) (wd == 0) (ls == 0) (busy.length == 0)) := rfl
  by_cases hk : 0 ≤ k ∧ k ≤ 7
  · rw [hR, ← lean_kind k key val mask pl wd ls busy reads hk.1 hk.2]
    rw [Bool.eq_iff_iff]
    unfold mayA okR shortB
    simp only [Bool.and_eq_true, bet_one_iff, decide_eq_true_eq]
    constructor
    · rintro ⟨⟨⟨⟨⟨⟨⟨h1, h2⟩, h3⟩, h4⟩, h5⟩, h6⟩, h7⟩, h8⟩
      exact ⟨⟨⟨⟨⟨⟨⟨⟨⟨⟨⟨by omega, by omega⟩, by omega⟩, by omega⟩, by omega⟩, by omega⟩, by omega⟩, by omega⟩, by omega⟩, h7⟩, h8⟩, h3⟩
    · rintro ⟨⟨⟨⟨⟨⟨⟨⟨⟨⟨⟨a1, a2⟩, a3⟩, a4⟩, a5⟩, a6⟩, a7⟩, a8⟩, a9⟩, a10⟩, a11⟩, a12⟩
      exact ⟨⟨⟨⟨⟨⟨⟨hk, by omega⟩, a12⟩, by omega⟩, by omega⟩, by omega⟩, a10⟩, a11⟩
  · have h1 : betB 0 7 [k] = false := by
      cases hb : betB 0 7 [k] with
      | false => rfl
      | true => exact absurd ((bet_one_iff _ _ _).1 hb) hk
    rw [hR, kindR_else (fun e => hk (by omega)) (fun e => hk (by omega)) (fun e => hk (by omega)) (fun e => hk (by omega)) (fun e => hk (by omega)) (fun e => hk (by omega)) (fun e => hk (by omega)) (fun e => hk (by omega)), Bool.and_false]
    unfold mayA
    simp only [h1, Bool.false_and]
end Go.Proofs.YtfdbolnifjpbhaaDoor
