/- The document's row, str, ShowActs. -/
import Derived.Test.YtfdbolnifjpbhaaDoorScC
import Derived.Test.YtfdbolnifjpbhaaDoorScG
import Derived.Test.YtfdbolnifjpbhaaDoorScH
namespace Go.Proofs.YtfdbolnifjpbhaaDoor
set_option linter.unusedVariables false
set_option linter.unusedSimpArgs false
open Go.RowKit

theorem ret_st {a b : ByteArray} (h : a = b) : Ending.returned (.string a) = Ending.returned (.string b) := by rw [h]
theorem str_app (a b : List UInt8) : str a ++ str b = str (a ++ b) := by rw [app_str, str_data]
set_option maxRecDepth 100000 in
set_option maxHeartbeats 4000000 in
theorem rstr_any (s : ByteArray) (hs : s.size ≤ 1000) (w : World) :
    Calls Tryd.prog 23 #[.string s] w fun e w' => e = .returned (.string (str (wordB [s]))) ∧ Below w.heap.size w w' := by
  obtain ⟨t, ht⟩ : ∃ t, str (Lib.decDigits s.size) = t := ⟨_, rfl⟩
  have htz : t.size ≤ 21 := by rw [← ht, str_size]; exact dec_len _ (by omega)
  have D := Lib.hid (fun (W : World) => decimal_any s.size (by omega) W)
  rw [ht] at D
  have HT := Lib.hid ht
  have z1 : ¬ 9223372036854775807 < t.size + 1 := by omega
  have z2 : ¬ 9223372036854775807 < t.size + 1 + s.size := by omega
  have hs9 : s.size ≤ 9223372036854775807 := by omega
  clear ht htz hs
  go_enter Tryd.func23, Tryd.ntmps23
  go_wp2_with (go_at_call 21; refine (D.out _).mono ?_; rintro e w1 ⟨rfl, hb⟩; have HB := Lib.hid hb; clear hb)
  go_ret
  refine ⟨ret_st ?_, HB.out⟩
  rw [← HT.out, show (⟨#[58]⟩ : ByteArray) = str [58] from rfl, ← str_of s, str_app, str_app]
  congr 1
  rw [wordB, List.flatMap_cons, List.flatMap_nil, List.append_nil, itoa_nat, str_of, List.append_assoc]
  rfl
set_option maxRecDepth 100000 in
set_option maxHeartbeats 4000000 in
theorem rrow_any (v : Value) (xs : List Int) (h : ∀ x ∈ xs, 0 ≤ x ∧ x ≤ 100000) (hl : xs.length ≤ 16) (w : World) (hr : Rd w v xs) :
    Calls Tryd.prog 22 #[v] w fun e w' => e = .returned (.string (str (digB [(xs.length : Int)] ++ digB xs))) ∧ Below w.heap.size w w' := by
  obtain ⟨A, c, rfl⟩ := hr.form
  have HR := Lib.hid hr
  have HH := Lib.hid h
  obtain ⟨n, hn⟩ : ∃ n, xs.length = n := ⟨_, rfl⟩
  rw [hn] at hl HR ⊢
  have HN := Lib.hid hn
  have D0 := Lib.hid (fun (W : World) => decimal_any n (by omega) W)
  obtain ⟨t, ht⟩ : ∃ t, str (Lib.decDigits n) = t := ⟨_, rfl⟩
  have htz : t.size ≤ 21 := by rw [← ht, str_size]; exact dec_len _ (by omega)
  rw [ht] at D0
  have HT := Lib.hid (show t ++ (⟨#[44]⟩ : ByteArray) = str (digB [(n : Int)] ++ digB (xs.take 0)) from by rw [← ht, show (⟨#[44]⟩ : ByteArray) = str [44] from rfl, str_app]; congr 1; simp [digB, itoa_nat])
  have z1 : ¬ 9223372036854775807 < t.size + 1 := by omega
  have DL := Lib.hid (fun k => digB_len (xs := xs.take k) (fun x hx => ⟨by have := h x (List.mem_of_mem_take hx); omega, by have := h x (List.mem_of_mem_take hx); omega⟩))
  have DL0 := Lib.hid (digB_len (xs := [(n : Int)]) (fun x hx => by simp at hx; subst hx; exact ⟨by omega, by omega⟩))
  have hn9 : n ≤ 9223372036854775807 := by omega
  clear ht htz hr h hn
  go_enter Tryd.func22, Tryd.ntmps22
  go_wp2_with (go_at_call 21; refine (D0.out _).mono ?_; rintro e w1 ⟨rfl, hb⟩; have HB0 := Lib.hid hb; clear hb)
  clear z1
  go_loopw [3, 4] (fun v3 i wr => ∃ k : Nat, k ≤ n ∧ i = .int .i64 k ∧ v3 = .string (str (digB [(n : Int)] ++ digB (xs.take k))) ∧ Below w.heap.size w wr) (fun _ i _ => (n - intOf i).toNat)
  case atStart => exact ⟨0, by omega, rfl, by rw [HT.out], HB0.out⟩
  case round =>
    obtain ⟨k, hk, rfl, rfl, hb⟩ := hrel
    have HB := Lib.hid hb
    clear hb HB0
    obtain ⟨p, hp⟩ : ∃ p, str (digB [(n : Int)] ++ digB (xs.take k)) = p := ⟨_, rfl⟩
    have HP := Lib.hid hp
    have hpz : p.size ≤ 1000 := by
      rw [← hp, str_size, List.length_append]
      have h1 := DL.out k
      have h2 := DL0.out
      rw [List.length_take, HN.out] at h1
      simp only [List.length_cons, List.length_nil] at h2
      omega
    rw [hp]
    clear hp
    by_cases hlt : k < n
    · have hlt2 : (k : Int) < (n : Int) := by omega
      obtain ⟨b, o, c', hv, _, _, hcc⟩ := (HR.out.below HB.out).pos (by rw [HN.out]; omega)
      rw [HN.out] at hv hcc
      obtain ⟨rfl, rfl⟩ := Value.slice.inj hv |> fun h => And.intro h.1 h.2.2
      have g0 := hcc k hlt
      have hx0 := HH.out (xs.getD k 0) (by rw [List.getD_eq_getElem?_getD, List.getElem?_eq_getElem (by rw [HN.out]; exact hlt), Option.getD_some]; exact List.getElem_mem _)
      have hsn := digB_snoc (xs := xs) (k := k) (by rw [HN.out]; exact hlt)
      obtain ⟨x, hx⟩ : ∃ x : Nat, xs.getD k 0 = (x : Int) := ⟨(xs.getD k 0).toNat, by omega⟩
      rw [hx] at g0 hx0 hsn
      have D1 := Lib.hid (fun (W : World) => decimal_any x (by omega) W)
      obtain ⟨q, hq⟩ : ∃ q, str (Lib.decDigits x) = q := ⟨_, rfl⟩
      have hqz : q.size ≤ 21 := by rw [← hq, str_size]; exact dec_len _ (by omega)
      rw [hq] at D1
      have HS := Lib.hid (show p ++ q ++ (⟨#[44]⟩ : ByteArray) = str (digB [(n : Int)] ++ digB (xs.take (k + 1))) from by
        rw [hsn, ← HP.out, ← hq, show (⟨#[44]⟩ : ByteArray) = str [44] from rfl, str_app, str_app, itoa_nat]
        congr 1
        simp)
      have z1 : ¬ 9223372036854775807 < p.size + q.size := by omega
      have z2 : ¬ 9223372036854775807 < p.size + q.size + 1 := by omega
      clear hv hcc hx hx0 hsn hq hqz hpz
      go_wp2_with (go_at_call 21; refine (D1.out _).mono ?_; rintro e w2 ⟨rfl, hb⟩; have HB1 := Lib.hid (Bl.then HB.out hb); clear hb)
      go_roundw
      case rel => exact ⟨k + 1, by omega, by first | go_num | rfl, by rw [HS.out], HB1.out⟩
      case measure => clear z1 z2; simp [intOf]; omega
    · have hd : decide ((k : Int) < (n : Int)) = false := decide_eq_false (by omega)
      obtain rfl : k = n := by omega
      have HE := Lib.hid (show p = str (digB [(k : Int)] ++ digB xs) by rw [← HP.out, List.take_of_length_le (by rw [HN.out]; exact Nat.le_refl _)])
      clear hpz
      go_wp2
      go_ret
      exact ⟨ret_st HE.out, HB.out⟩

/-- The letters of the kinds. -/
def kindsB : List UInt8 := [102, 109, 112, 103, 100, 108, 98, 120]
/-- The text of an act. -/
def actB (a : ActV) : List UInt8 := kindsB.getD a.k.toNat 0 :: (digB [a.pl, a.wd, a.ls, (a.busy.length : Int)] ++ (digB a.busy ++ digB [(a.reads.length : Int)]) ++ digB a.reads ++ wordB [a.key, a.val, a.mask])
def actsB (xs : List ActV) : List UInt8 := xs.flatMap actB
end Go.Proofs.YtfdbolnifjpbhaaDoor
