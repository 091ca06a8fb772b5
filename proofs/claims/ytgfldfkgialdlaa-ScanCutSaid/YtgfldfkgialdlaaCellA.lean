/- cell.masked, the two literals that turn a byte. -/
import Derived.Test.YtgfldfkgialdlaaProg
import Derived.Test.YtgfldfkgialdlaaOwn
import Derived.Test.YtgfldfkgialdlaaU8
namespace Go.Proofs.Ytgfldfkgialdlaa
set_option linter.unusedVariables false
set_option linter.unusedSimpArgs false
open Go.RowKit

/-- A mask's byte, over and over. -/
def maskB (m : List UInt8) (i : Nat) : UInt8 := m.getD (i % m.length) 0


/-- What a program does to a byte. -/
def progF (d m : List UInt8) (i : Nat) (b : UInt8) : UInt8 := b &&& ~~~(maskB m i &&& ~~~(d.getD i 0))
/-- What an erase does to a byte. -/
def erasF (m : List UInt8) (i : Nat) (b : UInt8) : UInt8 := b ||| maskB m i

/-- Some bytes turned, one behind the other. -/
def turnN (a : List UInt8) (at_ : Nat) (f : Nat → UInt8 → UInt8) : Nat → List UInt8
  | 0 => a
  | i + 1 => (turnN a at_ f i).set (at_ + i) (f i ((turnN a at_ f i).getD (at_ + i) 0))
theorem turnN_len (a : List UInt8) (at_ : Nat) (f : Nat → UInt8 → UInt8) (n : Nat) : (turnN a at_ f n).length = a.length := by
  induction n with
  | zero => rfl
  | succ n ih => simp [turnN, ih]
theorem turnN_get (a : List UInt8) (at_ : Nat) (f : Nat → UInt8 → UInt8) (n : Nat) (h : at_ + n ≤ a.length) (j : Nat) :
    (turnN a at_ f n).getD j 0 = if at_ ≤ j ∧ j < at_ + n then f (j - at_) (a.getD j 0) else a.getD j 0 := by
  induction n with
  | zero => rw [turnN, if_neg (by omega)]
  | succ n ih =>
    have ih' := ih (by omega)
    have hl := turnN_len a at_ f n
    rw [turnN, List.getD_eq_getElem?_getD, List.getElem?_set]
    by_cases e : at_ + n = j
    · subst e
      rw [if_pos rfl, if_pos (by omega), if_pos (by omega), Option.getD_some]
      have h2 : (turnN a at_ f n).getD (at_ + n) 0 = a.getD (at_ + n) 0 := by
        have h3 : ∀ j, at_ + n ≤ j → (turnN a at_ f n).getD j 0 = a.getD j 0 := by
          intro j hj
          clear ih ih' h hl
          induction n with
          | zero => rfl
          | succ n ihn =>
            rw [turnN, List.getD_eq_getElem?_getD, List.getElem?_set, if_neg (by omega), ← List.getD_eq_getElem?_getD]
            exact ihn (by omega)
        exact h3 _ (Nat.le_refl _)
      rw [h2, show at_ + n - at_ = n by omega]
    · rw [if_neg e, ← List.getD_eq_getElem?_getD, ih']
      by_cases c : at_ ≤ j ∧ j < at_ + n
      · rw [if_pos c, if_pos (by omega)]
      · rw [if_neg c, if_neg (by omega)]

end Go.Proofs.Ytgfldfkgialdlaa
