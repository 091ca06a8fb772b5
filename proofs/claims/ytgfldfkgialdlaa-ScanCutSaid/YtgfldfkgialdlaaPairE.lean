/- The statement PairBits: its walk. -/
import Derived.Test.YtgfldfkgialdlaaPairD
namespace Go.Proofs.Ytgfldfkgialdlaa
set_option linter.unusedVariables false
set_option linter.unusedSimpArgs false
open Go.RowKit
theorem compl_len (bs : List UInt8) : (compl bs).length = bs.length := by simp [compl]
theorem compl_inj {a b : List UInt8} (h : compl a = compl b) : a = b := by
  have := congrArg compl h
  simpa [compl, Function.comp_def] using this
/-- When a slot is whole. -/
theorem getP_eq (t : ByteArray) : getP t = if 32 ≤ t.size ∧ t.data.toList.drop 32 = compl (t.data.toList.take 32) then (t.extract 0 32, 0) else (str [], 200) := by
  have hl := data_len t
  unfold getP
  by_cases h : 32 ≤ t.size
  · have e : (t.extract 0 32).data.toList = t.data.toList.take 32 := by rw [ByteArray.data_extract, Array.toList_extract]; simp
    have hp : (putP (t.extract 0 32)).1 = str (t.data.toList.take 32 ++ compl (t.data.toList.take 32)) := by
      unfold putP
      rw [if_pos (ext_size t h), e]
    have hiff : (32 ≤ t.size ∧ (putP (t.extract 0 32)).1 = t) ↔ (32 ≤ t.size ∧ t.data.toList.drop 32 = compl (t.data.toList.take 32)) := by
      rw [hp]
      refine and_congr_right fun _ => ?_
      constructor
      · intro h2
        have h3 := congrArg (fun x => x.data.toList) h2
        simp only [str_data] at h3
        have h4 : t.data.toList.take 32 ++ t.data.toList.drop 32 = t.data.toList.take 32 ++ compl (t.data.toList.take 32) := by rw [List.take_append_drop, h3]
        exact List.append_cancel_left h4
      · intro h2
        apply ext_str
        rw [str_data, ← h2, List.take_append_drop]
    by_cases hc : 32 ≤ t.size ∧ (putP (t.extract 0 32)).1 = t
    · rw [if_pos hc, if_pos (hiff.1 hc)]
    · rw [if_neg hc, if_neg (fun x => hc (hiff.2 x))]
  · rw [if_neg (fun x => h x.1), if_neg (fun x => h x.1)]

/-- A slot of which a byte was turned is none. -/
theorem flip_get (s : List UInt8) (hs : s.length = 32) (p : Nat) (hp : p < 64) (m : UInt8) (hm : m ≠ 0) :
    getP (str ((s ++ compl s).set p ((s ++ compl s).getD p 0 ^^^ m))) = (str [], 200) := by
  have hc := compl_len s
  rw [getP_eq, if_neg]
  rintro ⟨_, h⟩
  rw [str_data] at h
  have hx : ∀ x : UInt8, x ^^^ m ≠ x := by
    intro x e
    apply hm
    have := congrArg (fun y => x ^^^ y) e
    simpa [← UInt8.xor_assoc] using this
  by_cases h32 : p < 32
  · rw [List.set_append_left _ _ (by omega), List.drop_left' (by simp [hs]), List.take_left' (by simp [hs])] at h
    have h2 := compl_inj h
    have h3 := congrArg (fun l => l.getD p 0) h2
    simp [List.getD_eq_getElem?_getD, List.getElem?_append_left (show p < s.length by omega), show p < s.length by omega] at h3
    exact hx _ h3.symm
  · rw [List.set_append_right _ _ (by omega), List.drop_left' hs, List.take_left' hs] at h
    have h3 := congrArg (fun l => l.getD (p - s.length) 0) h
    simp [List.getD_eq_getElem?_getD, List.getElem?_append_right (show s.length ≤ p by omega), show p - s.length < (compl s).length by omega] at h3
    exact hx _ h3

theorem bit_byte (n : Nat) : ∃ m : UInt8, (2 : Int) ^ (n % 8) % 256 = (m.toNat : Int) ∧ m ≠ 0 := by
  have h : n % 8 < 8 := Nat.mod_lt _ (by decide)
  have : ∀ k : Fin 8, (2 : Int) ^ k.val % 256 = ((UInt8.ofNat (2 ^ k.val)).toNat : Int) ∧ UInt8.ofNat (2 ^ k.val) ≠ 0 := by decide +kernel
  exact ⟨_, this ⟨n % 8, h⟩⟩

end Go.Proofs.Ytgfldfkgialdlaa
