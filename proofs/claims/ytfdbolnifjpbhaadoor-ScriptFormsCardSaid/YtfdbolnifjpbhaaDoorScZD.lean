/- What every program answers that is one (chapter 24). -/
import Derived.Test.YtfdbolnifjpbhaaDoorScZB
namespace Go.Proofs.YtfdbolnifjpbhaaDoor
set_option linter.unusedVariables false
set_option linter.unusedSimpArgs false
open Go.RowKit

theorem num_e (n : Int) (w : World) : Calls Tryd.prog 12 #[.int .i64 n] w fun e w' => e = .returned (.int .i64 n) ∧ w' = w := by
  go_enter Tryd.func12, Tryd.ntmps12
  go_wp2
  go_ret
  exact ⟨rfl, rfl⟩
theorem dec10 (n : Nat) (h : n < 10) : Lib.decDigits n = [UInt8.ofNat (48 + n)] := by rw [Lib.decDigits, dif_pos h]
def aw0 : ActV := ⟨2, ⟨#[97]⟩, ⟨#[49, 58]⟩, 0, 0, 5, ⟨#[109]⟩, [7, 8], [9]⟩
def aw1 : ActV := ⟨6, nilB', nilB', 3, 2, 0, nilB', [], []⟩
def awT : ByteArray := ⟨#[112, 48, 44, 48, 44, 53, 44, 50, 44, 55, 44, 56, 44, 49, 44, 57, 44, 49, 58, 97, 50, 58, 49, 58, 49, 58, 109, 98, 51, 44, 50, 44, 48, 44, 48, 44, 48, 44, 48, 58, 48, 58, 48, 58]⟩
theorem itoa_small (n : Nat) (h : n < 10) : Lib.itoa (n : Int) = [UInt8.ofNat (48 + n)] := by rw [itoa_nat, dec10 n h]
theorem aw_str : str (actsB [aw0, aw1]) = awT := by
  have i0 : Lib.itoa 0 = [48] := itoa_small 0 (by decide)
  have i1 : Lib.itoa 1 = [49] := itoa_small 1 (by decide)
  have i2 : Lib.itoa 2 = [50] := itoa_small 2 (by decide)
  have i3 : Lib.itoa 3 = [51] := itoa_small 3 (by decide)
  have i5 : Lib.itoa 5 = [53] := itoa_small 5 (by decide)
  have i7 : Lib.itoa 7 = [55] := itoa_small 7 (by decide)
  have i8 : Lib.itoa 8 = [56] := itoa_small 8 (by decide)
  have i9 : Lib.itoa 9 = [57] := itoa_small 9 (by decide)
  have e : actsB [aw0, aw1] = awT.data.toList := by
    show actB aw0 ++ (actB aw1 ++ []) = _
    have e0 : actB aw0 = [112, 48, 44, 48, 44, 53, 44, 50, 44, 55, 44, 56, 44, 49, 44, 57, 44, 49, 58, 97, 50, 58, 49, 58, 49, 58, 109] := by
      show kindsB.getD 2 0 :: ((Lib.itoa 0 ++ [44] ++ (Lib.itoa 0 ++ [44] ++ (Lib.itoa 5 ++ [44] ++ (Lib.itoa 2 ++ [44] ++ [])))) ++ ((Lib.itoa 7 ++ [44] ++ (Lib.itoa 8 ++ [44] ++ [])) ++ (Lib.itoa 1 ++ [44] ++ [])) ++ (Lib.itoa 9 ++ [44] ++ []) ++ ((Lib.itoa 1 ++ 58 :: [97]) ++ ((Lib.itoa 2 ++ 58 :: [49, 58]) ++ ((Lib.itoa 1 ++ 58 :: [109]) ++ [])))) = _
      rw [i0, i1, i2, i5, i7, i8, i9]
      rfl
    have e1 : actB aw1 = [98, 51, 44, 50, 44, 48, 44, 48, 44, 48, 44, 48, 58, 48, 58, 48, 58] := by
      show kindsB.getD 6 0 :: ((Lib.itoa 3 ++ [44] ++ (Lib.itoa 2 ++ [44] ++ (Lib.itoa 0 ++ [44] ++ (Lib.itoa 0 ++ [44] ++ [])))) ++ ([] ++ (Lib.itoa 0 ++ [44] ++ [])) ++ [] ++ ((Lib.itoa 0 ++ 58 :: []) ++ ((Lib.itoa 0 ++ 58 :: []) ++ ((Lib.itoa 0 ++ 58 :: []) ++ [])))) = _
      rw [i0, i2, i3]
      rfl
    rw [e0, e1]
    rfl
  rw [e, str_of]
theorem tl_nil : (nilB' : ByteArray).toList.isEmpty = true := by
  unfold ByteArray.toList ByteArray.toList.loop
  rfl
theorem tl_a : (⟨#[97]⟩ : ByteArray).toList.isEmpty = false := by
  unfold ByteArray.toList ByteArray.toList.loop ByteArray.toList.loop
  rfl
theorem aw_ok : showOk [aw0, aw1] := ⟨by decide, fun a ha => by
  simp only [List.mem_cons, List.not_mem_nil, or_false] at ha
  rcases ha with rfl | rfl
  · decide
  · unfold mayR aw1
    rw [tl_nil]
    decide⟩
theorem aw_told : Told awT [aw0, aw1] := ⟨aw_ok, aw_str⟩
theorem told_len {s : ByteArray} {xs : List ActV} (h : Told s xs) : xs = [] ∧ s.size = 0 ∨ 2 ≤ s.size := by
  have h1 : s.size = (actsB xs).length := by rw [← h.2, str_size]
  cases xs with
  | nil => exact .inl ⟨rfl, by rw [h1]; rfl⟩
  | cons a xs =>
    refine .inr ?_
    rw [h1, actsB_cons, List.length_append, actB, List.length_cons, List.length_append, List.length_append, List.length_append]
    have : 0 < (digB [a.pl, a.wd, a.ls, (a.busy.length : Int)]).length := by
      rw [digB_cons, List.length_append]
      simp [digB]
      omega
    omega
theorem aw_f : readL ⟨#[102]⟩ = [] ∧ readE ⟨#[102]⟩ = 2400 := readL_no fun ⟨xs, hx⟩ => by
  rcases told_len hx with h | h
  · have := h.2; contradiction
  · have h2 : (2 : Nat) ≤ 1 := h; omega
def awB : ActV := ⟨1, ⟨#[97]⟩, nilB', 0, 0, 0, nilB', [], []⟩
theorem aw_no : showT [awB] = ⟨#[]⟩ ∧ showE [awB] = 2400 := show_no fun h => by
  have := h.2 awB (by simp)
  unfold mayR awB at this
  simp only [tl_nil, tl_a] at this
  revert this
  decide
theorem aw_may : mayA aw0 = true := by rw [may_eq]; decide
end Go.Proofs.YtfdbolnifjpbhaaDoor
