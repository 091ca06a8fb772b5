/- ScriptForms: acts that may not be, texts that are none: the law. -/
import Derived.Test.YtfdbolnifjpbhaaDoorScZH
namespace Go.Proofs.YtfdbolnifjpbhaaDoor
set_option linter.unusedVariables false
set_option linter.unusedSimpArgs false
open Go.RowKit

def tA : ByteArray := ⟨#[97]⟩
def zerosT (n : Nat) : ByteArray := str (List.replicate n 0)
theorem zerosT_size (n : Nat) : (zerosT n).size = n := by rw [zerosT, str_size, List.length_replicate]
/-- The acts that may not be. -/
def badL (d : Nat) : List ActV :=
  [⟨-(d : Int), nilB', nilB', 0, 0, 0, nilB', [], []⟩, ⟨7 + (d : Int), nilB', nilB', 0, 0, 0, nilB', [], []⟩, ⟨2, ⟨#[49, 50, 51, 52, 53, 54, 55, 56, 57, 48, 49, 50, 51]⟩, nilB', 0, 0, 0, nilB', [], []⟩, ⟨2, nilB', zerosT (40 + d), 0, 0, 0, nilB', [], []⟩,
   ⟨6, nilB', nilB', -(d : Int), 0, 0, nilB', [], []⟩, ⟨6, nilB', nilB', 4095 + (d : Int), 0, 0, nilB', [], []⟩, ⟨6, nilB', nilB', 0, 8 + (d : Int), 0, nilB', [], []⟩, ⟨6, nilB', nilB', 0, -(d : Int), 0, nilB', [], []⟩,
   ⟨0, nilB', nilB', 0, 0, -(d : Int), nilB', [], []⟩, ⟨0, nilB', nilB', 0, 0, 65535 + (d : Int), nilB', [], []⟩, ⟨0, nilB', nilB', 0, 0, 0, zerosT (16 + d), [], []⟩,
   ⟨0, nilB', nilB', 0, 0, 0, nilB', [0], []⟩, ⟨0, nilB', nilB', 0, 0, 0, nilB', [400 + (d : Int)], []⟩, ⟨0, nilB', nilB', 0, 0, 0, nilB', List.replicate (16 + d) 0, []⟩, ⟨0, nilB', nilB', 0, 0, 0, nilB', [], [-(d : Int)]⟩, ⟨0, nilB', nilB', 0, 0, 0, nilB', [], [4095 + (d : Int)]⟩, ⟨0, nilB', nilB', 0, 0, 0, nilB', [], List.replicate (16 + d) 0⟩,
   ⟨0, tA, nilB', 0, 0, 0, nilB', [], []⟩, ⟨0, nilB', tA, 0, 0, 0, nilB', [], []⟩, ⟨0, nilB', nilB', 1, 0, 0, nilB', [], []⟩, ⟨0, nilB', nilB', 0, 1, 0, nilB', [], []⟩, ⟨1, nilB', nilB', 0, 0, 0, nilB', [], [1]⟩, ⟨3, nilB', nilB', 0, 0, 0, nilB', [], [1]⟩, ⟨3, nilB', tA, 0, 0, 0, nilB', [], []⟩, ⟨4, nilB', tA, 0, 0, 0, nilB', [], []⟩, ⟨6, tA, nilB', 0, 0, 0, nilB', [], []⟩, ⟨7, nilB', nilB', 0, 0, (d : Int), nilB', [], []⟩, ⟨7, nilB', nilB', 0, 0, 0, nilB', [1], []⟩]
theorem tl_a' : (tA : ByteArray).toList.isEmpty = false := tl_a
theorem badL_no (d : Nat) (h : 1 ≤ d) : ∀ a ∈ badL d, mayR a = false := by
  intro a ha
  simp only [badL, List.mem_cons, List.not_mem_nil, or_false] at ha
  rcases ha with rfl | rfl | rfl | rfl | rfl | rfl | rfl | rfl | rfl | rfl | rfl | rfl | rfl | rfl | rfl | rfl | rfl | rfl | rfl | rfl | rfl | rfl | rfl | rfl | rfl | rfl | rfl | rfl
  case _ => exact Bool.eq_false_iff.2 fun hm => by have := (mayR_facts hm).k0; simp only at this; omega
  case _ => exact Bool.eq_false_iff.2 fun hm => by have := (mayR_facts hm).k7; simp only at this; omega
  case _ => exact Bool.eq_false_iff.2 fun hm => by have := (mayR_facts hm).key; exact absurd this (by decide)
  case _ => exact Bool.eq_false_iff.2 fun hm => by have := (mayR_facts hm).val; simp only [zerosT_size] at this; omega
  case _ => exact Bool.eq_false_iff.2 fun hm => by have := (mayR_facts hm).pl; simp only at this; omega
  case _ => exact Bool.eq_false_iff.2 fun hm => by have := (mayR_facts hm).pl; simp only at this; omega
  case _ => exact Bool.eq_false_iff.2 fun hm => by have := (mayR_facts hm).wd; simp only at this; omega
  case _ => exact Bool.eq_false_iff.2 fun hm => by have := (mayR_facts hm).wd; simp only at this; omega
  case _ => exact Bool.eq_false_iff.2 fun hm => by have := (mayR_facts hm).ls; simp only at this; omega
  case _ => exact Bool.eq_false_iff.2 fun hm => by have := (mayR_facts hm).ls; simp only at this; omega
  case _ => exact Bool.eq_false_iff.2 fun hm => by have := (mayR_facts hm).mask; simp only [zerosT_size] at this; omega
  case _ => exact Bool.eq_false_iff.2 fun hm => by have := (mayR_facts hm).busy.1 0 (by simp); omega
  case _ => exact Bool.eq_false_iff.2 fun hm => by have := (mayR_facts hm).busy.1 (400 + (d : Int)) (by simp); omega
  case _ => exact Bool.eq_false_iff.2 fun hm => by have := (mayR_facts hm).busy.2; simp only [List.length_replicate] at this; omega
  case _ => exact Bool.eq_false_iff.2 fun hm => by have := (mayR_facts hm).reads.1 (-(d : Int)) (by simp); omega
  case _ => exact Bool.eq_false_iff.2 fun hm => by have := (mayR_facts hm).reads.1 (4095 + (d : Int)) (by simp); omega
  case _ => exact Bool.eq_false_iff.2 fun hm => by have := (mayR_facts hm).reads.2; simp only [List.length_replicate] at this; omega
  case _ => unfold mayR; rw [tl_a', tl_nil]; decide
  case _ => unfold mayR; rw [tl_a', tl_nil]; decide
  case _ => unfold mayR; rw [tl_nil]; decide
  case _ => unfold mayR; rw [tl_nil]; decide
  case _ => unfold mayR; rw [tl_nil]; decide
  case _ => unfold mayR; rw [tl_nil]; decide
  case _ => unfold mayR; rw [tl_a', tl_nil]; decide
  case _ => unfold mayR; rw [tl_a', tl_nil]; decide
  case _ => unfold mayR; rw [tl_a', tl_nil]; decide
  case _ =>
    have e : ((d : Int) == 0) = false := by rw [beq_eq_false_iff_ne]; omega
    unfold mayR
    rw [tl_nil]
    simp only [e]
    rw [Bool.and_eq_false_iff]
    exact .inr (by decide)
  case _ => unfold mayR; rw [tl_nil]; decide
/-- The texts that are none. -/
def noneL : List ByteArray := [⟨#[109]⟩, ⟨#[109, 48, 44, 48, 44, 48, 44, 48, 44, 48, 44, 48, 58, 48, 58]⟩, ⟨#[109, 48, 48, 44, 48, 44, 48, 44, 48, 44, 48, 44, 48, 58, 48, 58, 48, 58]⟩, ⟨#[122, 48, 44, 48, 44, 48, 44, 48, 44, 48, 44, 48, 58, 48, 58, 48, 58]⟩, ⟨#[109, 48, 44, 48, 44, 48, 44, 48, 44, 48, 44, 49, 58, 48, 58, 48, 58]⟩, ⟨#[109, 48, 44, 48, 44, 48, 44, 49, 44, 48, 44, 48, 58, 48, 58, 48, 58]⟩, ⟨#[109, 48, 44, 48, 44, 48, 44, 48, 44, 48, 44, 48, 58, 48, 58, 48, 58, 32]⟩, ⟨#[32, 109, 48, 44, 48, 44, 48, 44, 48, 44, 48, 44, 48, 58, 48, 58, 48, 58]⟩, ⟨#[109, 48, 59, 48, 44, 48, 44, 48, 44, 48, 44, 48, 58, 48, 58, 48, 58]⟩, ⟨#[103, 48, 44, 48, 44, 48, 44, 48, 44, 48, 44, 51, 58, 97, 48, 58, 48, 58]⟩, ⟨#[109, 48, 44, 48, 44, 48, 44, 48, 44, 48, 44, 48, 58, 48, 58, 48, 58, 109]⟩]
theorem told_par {s : ByteArray} {r : Option (List ActV)} (h : parW (walkR s) s 257 0 = r) (hr : ∀ xs, r = some xs → ¬ Told s xs) : readL s = [] ∧ readE s = 2400 := readL_no fun ⟨xs, hx⟩ => hr xs (by rw [← h]; exact (hx.read (walkR_ok s)).1) hx
theorem noneT0 : parW (walkR ⟨#[109]⟩) ⟨#[109]⟩ 257 0 = none := by kernel_rfl
theorem noneT1 : parW (walkR ⟨#[109, 48, 44, 48, 44, 48, 44, 48, 44, 48, 44, 48, 58, 48, 58]⟩) ⟨#[109, 48, 44, 48, 44, 48, 44, 48, 44, 48, 44, 48, 58, 48, 58]⟩ 257 0 = none := by kernel_rfl
theorem someT2 : parW (walkR ⟨#[109, 48, 48, 44, 48, 44, 48, 44, 48, 44, 48, 44, 48, 58, 48, 58, 48, 58]⟩) ⟨#[109, 48, 48, 44, 48, 44, 48, 44, 48, 44, 48, 44, 48, 58, 48, 58, 48, 58]⟩ 257 0 = some [⟨1, nilB', nilB', 0, 0, 0, nilB', [], []⟩] := by kernel_rfl
theorem someT3 : parW (walkR ⟨#[122, 48, 44, 48, 44, 48, 44, 48, 44, 48, 44, 48, 58, 48, 58, 48, 58]⟩) ⟨#[122, 48, 44, 48, 44, 48, 44, 48, 44, 48, 44, 48, 58, 48, 58, 48, 58]⟩ 257 0 = some [⟨-1, nilB', nilB', 0, 0, 0, nilB', [], []⟩] := by kernel_rfl
theorem noneT4 : parW (walkR ⟨#[109, 48, 44, 48, 44, 48, 44, 48, 44, 48, 44, 49, 58, 48, 58, 48, 58]⟩) ⟨#[109, 48, 44, 48, 44, 48, 44, 48, 44, 48, 44, 49, 58, 48, 58, 48, 58]⟩ 257 0 = none := by kernel_rfl
theorem noneT5 : parW (walkR ⟨#[109, 48, 44, 48, 44, 48, 44, 49, 44, 48, 44, 48, 58, 48, 58, 48, 58]⟩) ⟨#[109, 48, 44, 48, 44, 48, 44, 49, 44, 48, 44, 48, 58, 48, 58, 48, 58]⟩ 257 0 = none := by kernel_rfl
theorem noneT6 : parW (walkR ⟨#[109, 48, 44, 48, 44, 48, 44, 48, 44, 48, 44, 48, 58, 48, 58, 48, 58, 32]⟩) ⟨#[109, 48, 44, 48, 44, 48, 44, 48, 44, 48, 44, 48, 58, 48, 58, 48, 58, 32]⟩ 257 0 = none := by kernel_rfl
theorem noneT7 : parW (walkR ⟨#[32, 109, 48, 44, 48, 44, 48, 44, 48, 44, 48, 44, 48, 58, 48, 58, 48, 58]⟩) ⟨#[32, 109, 48, 44, 48, 44, 48, 44, 48, 44, 48, 44, 48, 58, 48, 58, 48, 58]⟩ 257 0 = none := by kernel_rfl
theorem noneT8 : parW (walkR ⟨#[109, 48, 59, 48, 44, 48, 44, 48, 44, 48, 44, 48, 58, 48, 58, 48, 58]⟩) ⟨#[109, 48, 59, 48, 44, 48, 44, 48, 44, 48, 44, 48, 58, 48, 58, 48, 58]⟩ 257 0 = none := by kernel_rfl
theorem noneT9 : parW (walkR ⟨#[103, 48, 44, 48, 44, 48, 44, 48, 44, 48, 44, 51, 58, 97, 48, 58, 48, 58]⟩) ⟨#[103, 48, 44, 48, 44, 48, 44, 48, 44, 48, 44, 51, 58, 97, 48, 58, 48, 58]⟩ 257 0 = none := by kernel_rfl
theorem noneT10 : parW (walkR ⟨#[109, 48, 44, 48, 44, 48, 44, 48, 44, 48, 44, 48, 58, 48, 58, 48, 58, 109]⟩) ⟨#[109, 48, 44, 48, 44, 48, 44, 48, 44, 48, 44, 48, 58, 48, 58, 48, 58, 109]⟩ 257 0 = none := by kernel_rfl
theorem zero_text : actsB [⟨1, nilB', nilB', 0, 0, 0, nilB', [], []⟩] = [109, 48, 44, 48, 44, 48, 44, 48, 44, 48, 44, 48, 58, 48, 58, 48, 58] := by
  have i0 : Lib.itoa 0 = [48] := itoa_small 0 (by decide)
  show (kindsB.getD 1 0 :: ((Lib.itoa 0 ++ [44] ++ (Lib.itoa 0 ++ [44] ++ (Lib.itoa 0 ++ [44] ++ (Lib.itoa 0 ++ [44] ++ [])))) ++ ([] ++ (Lib.itoa 0 ++ [44] ++ [])) ++ [] ++ ((Lib.itoa 0 ++ 58 :: []) ++ ((Lib.itoa 0 ++ 58 :: []) ++ ((Lib.itoa 0 ++ 58 :: []) ++ []))))) ++ [] = _
  rw [i0]
  rfl
theorem noneL_no : ∀ s ∈ noneL, readL s = [] ∧ readE s = 2400 := by
  intro s hs
  simp only [noneL, List.mem_cons, List.not_mem_nil, or_false] at hs
  rcases hs with rfl | rfl | rfl | rfl | rfl | rfl | rfl | rfl | rfl | rfl | rfl
  · exact told_par noneT0 fun xs hx => by cases hx
  · exact told_par noneT1 fun xs hx => by cases hx
  · refine told_par someT2 fun xs hx hT => ?_
    obtain rfl := Option.some.inj hx
    have h := hT.2
    rw [zero_text] at h
    have h2 := congrArg ByteArray.size h
    rw [str_size] at h2
    exact absurd h2 (by decide)
  · refine told_par someT3 fun xs hx hT => ?_
    obtain rfl := Option.some.inj hx
    have h := (mayR_facts (hT.1.2 _ (List.mem_singleton.2 rfl))).k0
    exact absurd h (by decide)
  · exact told_par noneT4 fun xs hx => by cases hx
  · exact told_par noneT5 fun xs hx => by cases hx
  · exact told_par noneT6 fun xs hx => by cases hx
  · exact told_par noneT7 fun xs hx => by cases hx
  · exact told_par noneT8 fun xs hx => by cases hx
  · exact told_par noneT9 fun xs hx => by cases hx
  · exact told_par noneT10 fun xs hx => by cases hx
/-- Acts that are nothing. -/
theorem made_acts (n : Nat) : (madeCells (Value.cells (.agg #[.int .i64 0, .string ⟨#[]⟩, .string ⟨#[]⟩, .int .i64 0, .int .i64 0, .int .i64 0, .string ⟨#[]⟩, .slice none 0 0, .slice none 0 0])) (n * 9)).toList = flatA (List.replicate n zeroM) := by
  apply List.ext_getElem?
  intro i
  by_cases hi : i < n * 9
  · have h1 := flatA_at (List.replicate n zeroM) (i / 9) (by rw [List.length_replicate]; omega) (i % 9) (by omega)
    rw [show i / 9 * 9 + i % 9 = i by omega] at h1
    have h2 : (List.replicate n zeroM).getD (i / 9) zeroM = zeroM := by
      rw [List.getD_eq_getElem?_getD, List.getElem?_replicate]
      split <;> rfl
    rw [h1, h2, Array.getElem?_toList, madeCells, Array.getElem?_map, Array.getElem?_range, if_pos hi, Option.map_some]
    have h9 : i % 9 < 9 := Nat.mod_lt _ (by decide)
    show some ((Value.cells (.agg #[.int .i64 0, .string ⟨#[]⟩, .string ⟨#[]⟩, .int .i64 0, .int .i64 0, .int .i64 0, .string ⟨#[]⟩, .slice none 0 0, .slice none 0 0]))[i % 9]!) = (cellsA zeroM)[i % 9]?
    generalize i % 9 = j at h9
    have : j = 0 ∨ j = 1 ∨ j = 2 ∨ j = 3 ∨ j = 4 ∨ j = 5 ∨ j = 6 ∨ j = 7 ∨ j = 8 := by omega
    rcases this with rfl | rfl | rfl | rfl | rfl | rfl | rfl | rfl | rfl <;> rfl
  · rw [List.getElem?_eq_none (by rw [Array.length_toList, size_madeCells]; omega), List.getElem?_eq_none (by rw [flatA_len, List.length_replicate]; omega)]
theorem many_no : showT ((List.replicate 257 zeroM).map (·.a)) = ⟨#[]⟩ ∧ showE ((List.replicate 257 zeroM).map (·.a)) = 2400 := show_no fun h => by
  have := h.1
  rw [List.length_map, List.length_replicate] at this
  exact absurd this (by decide)
end Go.Proofs.YtfdbolnifjpbhaaDoor
