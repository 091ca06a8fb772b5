/- rec: Get of both sides, the statements' awake. -/
import Derived.Test.YtgfldfkgialdlaaRecIH
import Derived.Test.YtgfldfkgialdlaaRecIN
import Derived.Test.YtgfldfkgialdlaaRecIR
import Derived.Test.YtgfldfkgialdlaaRecIRa
import Derived.Test.YtgfldfkgialdlaaRecIRb
import Derived.Test.YtgfldfkgialdlaaRecIT
import Derived.Test.YtgfldfkgialdlaaRecITn
namespace Go.Proofs.Ytgfldfkgialdlaa
set_option linter.unusedVariables false
set_option linter.unusedSimpArgs false
open Go.RowKit

theorem rgetr_some (s t : ByteArray) (q : RecV) (out : ByteArray) (f : Int) (ans : RecV) (e1 : Int) (hg : getP s = (t, 0)) (ht : t.size = 32) (hq : takenD t = q) (hu : putR q = out) (hf : putRe q = f)
    (ha : (f = 0 ∧ out = s ∧ ans = q ∧ e1 = 0) ∨ (f = 0 ∧ out ≠ s ∧ ans = zeroR ∧ e1 = 1900) ∨ (f = 1900 ∧ ans = zeroR ∧ e1 = 1900)) (w : World) :
    Calls Try.prog 16 #[.string s] w fun e w' => e = .returned (.tuple #[ans.v, .int .i64 e1]) ∧ Below w.heap.size w w' := by
  have hz := takenD_keys t ht
  rw [hq] at hz
  have hP := fun w => rputr_any q w hz.1 hz.2
  rw [hu, hf] at hP
  clear hu hf hz
  unfold takenD at hq
  split at hq
  · rename_i c0
    subst hq
    exact rgetr_H s t out f ans e1 hg ht _ hP ha c0 rfl w
  · rename_i c0
    split at hq
    · rename_i c1
      split at hq
      · rename_i l
        subst hq
        exact rgetr_R s t out f ans e1 hg ht _ _ hP ha c0 c1 l.1 l.2 rfl rfl w
      · rename_i l
        subst hq
        by_cases l1 : (gH t 1).toNat ≤ 6
        · exact rgetr_Rb s t out f ans e1 hg ht hP ha c0 c1 l1 (fun l2 => l ⟨l1, l2⟩) w
        · exact rgetr_Ra s t out f ans e1 hg ht hP ha c0 c1 l1 w
    · rename_i c1
      split at hq
      · rename_i c2
        split at hq
        · rename_i l
          subst hq
          exact rgetr_T s t out f ans e1 hg ht _ hP ha c0 c1 c2 l rfl w
        · rename_i l
          subst hq
          exact rgetr_Tn s t out f ans e1 hg ht hP ha c0 c1 c2 l w
      · rename_i c2
        subst hq
        exact rgetr_N s t out f ans e1 hg ht hP ha c0 c1 c2 w
theorem rgetr_any (s : ByteArray) (r : RecV) (e1 : Int) (hA : ansR s r e1) (w : World) :
    Calls Try.prog 16 #[.string s] w fun e w' => e = .returned (.tuple #[r.v, .int .i64 e1]) ∧ Below w.heap.size w w' := by
  rcases hA with ⟨hm, hs, rfl⟩ | ⟨hn, rfl, rfl⟩
  · have hg := putR_get hm
    rw [hs] at hg
    exact rgetr_some s (half32 r) r s 0 r 0 hg (half32_size hm) (takenD_half hm) hs (if_pos hm) (.inl ⟨rfl, rfl, rfl, rfl⟩) w
  · rcases getP_cases s with ⟨t, hg, ht⟩ | ⟨x, hg⟩
    · by_cases hm : mayP (takenD t)
      · exact rgetr_some s t _ _ 0 zeroR 1900 hg ht rfl rfl (if_pos hm) (.inr (.inl ⟨rfl, hn _ hm, rfl, rfl⟩)) w
      · exact rgetr_some s t _ _ 1900 zeroR 1900 hg ht rfl rfl (if_neg hm) (.inr (.inr ⟨rfl, rfl, rfl⟩)) w
    · exact rgetr_none s x hg w
end Go.Proofs.Ytgfldfkgialdlaa
