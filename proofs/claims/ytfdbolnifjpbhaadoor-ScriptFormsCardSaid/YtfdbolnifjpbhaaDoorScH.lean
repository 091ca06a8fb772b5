/- The document's Decimal, row, str. -/
import Derived.Test.YtfdbolnifjpbhaaDoorScB
import Derived.Lib.ItoaLen
import Derived.Laws.IdiomStrings
namespace Go.Proofs.YtfdbolnifjpbhaaDoor
set_option linter.unusedVariables false
set_option linter.unusedSimpArgs false
open Go.RowKit

theorem infoByteH : (Tryd.prog.info? 5).map (fun i => (i.zero, i.size, i.bytes)) = some (some (.int .u8 0), 1, 1) := by kernel_rfl
/-- A row of one's own as what is appended. -/
theorem Own.news' {w : World} {B n : Nat} {e : TypeId} {size : Nat} {v : Value} {xs : List Value} (h : Own w B e size v n xs) : ∃ A c, v = .slice A n c ∧ (A = none → n = 0 ∧ c = 0) ∧ ∀ ad, A = some ad → ∀ j u, xs[j]? = some u → w.cell? (ad.add j) = some u := by
  rcases h.2 with ⟨rfl, rfl⟩ | ⟨g, cap, cur, fz, rfl, hh⟩
  · exact ⟨none, 0, rfl, fun _ => ⟨rfl, rfl⟩, fun ad h => by cases h⟩
  · refine ⟨_, cap, rfl, (fun h => by cases h), fun ad had j u hu => ?_⟩
    obtain rfl := Option.some.inj had
    rw [Addr.add_lit, Nat.zero_add]
    exact h.at' hu
theorem Own.one (w : World) (u : Value) (t : TypeId) : Own (w.alloc (Obj.cells #[u] t)) w.heap.size t 1 (.slice (some ⟨w.heap.size, 0, none⟩) 1 1) 1 [u] :=
  ⟨rfl, .inr ⟨w.heap.size, 1, #[u], (0, 0), rfl, Nat.le_refl _, heap_alloc_new w _, .inr rfl, Nat.le_refl _, by decide, rfl, rfl⟩⟩
/-- What is known as digits are put ahead. -/
def DecI (n s : Nat) (l : List UInt8) : Prop := (l = [] ∧ s = n) ∨ (l ≠ [] ∧ s = 0 ∧ l = Lib.decDigits n) ∨ (l ≠ [] ∧ s ≠ 0 ∧ Lib.decDigits s ++ l = Lib.decDigits n)
theorem DecI.step {n s : Nat} {l : List UInt8} (h : DecI n s l) (hc : s ≠ 0 ∨ l = []) : DecI n (s / 10) (UInt8.ofNat (48 + s % 10) :: l) := by
  have key : Lib.decDigits s ++ l = Lib.decDigits n := by
    rcases h with ⟨rfl, rfl⟩ | ⟨h1, h2, h3⟩ | ⟨_, _, h⟩
    · simp
    · exact absurd h2 (hc.resolve_right h1)
    · exact h
  by_cases hs : s < 10
  · refine .inr (.inl ⟨by simp, by omega, ?_⟩)
    rw [← key, Lib.decDigits_one hs, Nat.mod_eq_of_lt hs]
    rfl
  · refine .inr (.inr ⟨by simp, by omega, ?_⟩)
    rw [← key]
    conv => rhs; rw [Lib.decDigits, dif_neg hs]
    simp
theorem DecI.len {n s : Nat} {l : List UInt8} (h : DecI n s l) : l.length ≤ (Lib.decDigits n).length := by
  rcases h with ⟨rfl, _⟩ | ⟨_, _, rfl⟩ | ⟨_, _, h⟩
  · simp
  · exact Nat.le_refl _
  · rw [← h, List.length_append]; omega
theorem dec_len (n : Nat) (h : n ≤ 9223372036854775807) : (Lib.decDigits n).length ≤ 21 := by
  have := Lib.itoa_length_le (n : Int) (by omega) (by omega)
  unfold Lib.itoa at this
  rw [if_neg (by omega)] at this
  simpa using this
theorem itoa_nat (n : Nat) : Lib.itoa (n : Int) = Lib.decDigits n := by
  unfold Lib.itoa
  rw [if_neg (by omega)]
  simp
def emptyN : Value → Nat
  | .slice _ 0 _ => 1
  | _ => 0
theorem byts_cons (b : UInt8) (l : List UInt8) : byts (b :: l) = .int .u8 (b.toNat : Int) :: byts l := rfl
theorem digit_val (s : Nat) : ((UInt8.ofNat (48 + s % 10)).toNat : Int) = (48 + s % 10 : Nat) := by
  have : s % 10 < 10 := Nat.mod_lt _ (by decide)
  rw [UInt8.toNat_ofNat_of_lt' (by show _ < 256; omega)]
set_option maxRecDepth 100000 in
set_option maxHeartbeats 4000000 in
theorem decimal_any (n : Nat) (h : n ≤ 9223372036854775807) (w : World) :
    Calls Tryd.prog 21 #[.int .i64 (n : Int)] w fun e w' => e = .returned (.string (str (Lib.decDigits n))) ∧ Below w.heap.size w w' := by
  have hw : IntKind.u64.wrap (n : Int) = (n : Int) := by
    simp only [IntKind.wrap, IntKind.signed, IntKind.bits]
    exact Int.emod_eq_of_lt (by omega) (by omega)
  have hd : decide ((n : Int) < 0) = false := decide_eq_false (by omega)
  have DL := Lib.hid (dec_len n h)
  go_enter Tryd.func21, Tryd.ntmps21
  go_wp2_with fail
  try simp only [hw]
  clear hw
  go_loopw [3, 4] (fun v3 v4 wr => ∃ (s : Nat) (l : List UInt8), s ≤ n ∧ v3 = .int .u64 (s : Int) ∧ DecI n s l ∧ Own wr w.heap.size 5 1 v4 l.length (byts l) ∧ Below w.heap.size w wr) (fun v3 v4 _ => 2 * (intOf v3).toNat + emptyN v4)
  case atStart => exact ⟨n, [], Nat.le_refl _, rfl, .inl ⟨rfl, rfl⟩, Own.nil _ _ _ _, Below.refl _ _⟩
  case round =>
    obtain ⟨s, l, hsn, rfl, hi, ho, hb⟩ := hrel
    obtain ⟨A, c, rfl⟩ := ho.slice
    obtain ⟨A', c', hv, hA, hnews⟩ := ho.news'
    obtain ⟨rfl, _, rfl⟩ := Value.slice.inj hv
    have HA := Lib.hid hA
    have HNW := Lib.hid hnews
    have HO := Lib.hid ho
    have HB := Lib.hid hb
    have HI := Lib.hid hi
    have HLN := Lib.hid (show l.length ≤ 21 from Nat.le_trans hi.len DL.out)
    clear hv hA hnews ho hb hi
    have hs9 : s ≤ 9223372036854775807 := by omega
    by_cases hc : s ≠ 0 ∨ l = []
    · have HST := Lib.hid (HI.out.step hc)
      have hrem : (s : Int).tmod 10 = ((s % 10 : Nat) : Int) := by rw [Int.tmod_eq_emod_of_nonneg (by omega)]; rfl
      have hquo : (s : Int).tdiv 10 = ((s / 10 : Nat) : Int) := by rw [Int.tdiv_eq_ediv_of_nonneg (by omega)]; rfl
      have hm10 : s % 10 < 10 := Nat.mod_lt _ (by decide)
      obtain ⟨d, hdd⟩ : ∃ d, s % 10 = d := ⟨_, rfl⟩
      obtain ⟨q, hqq⟩ : ∃ q, s / 10 = q := ⟨_, rfl⟩
      rw [hdd] at hrem HST hm10
      rw [hqq] at hquo HST
      have HDV := Lib.hid (show ((UInt8.ofNat (48 + d)).toNat : Int) = 48 + (d : Int) from by rw [← hdd]; have := digit_val s; omega)
      have HQ := Lib.hid (show q ≤ n ∧ (s ≠ 0 → q < s) from ⟨by omega, fun h => by omega⟩)
      have hadd : IntKind.u64.wrap (48 + (d : Int)) = 48 + (d : Int) := by
        simp only [IntKind.wrap, IntKind.signed, IntKind.bits]
        exact Int.emod_eq_of_lt (by omega) (by omega)
      have hcv : IntKind.u8.wrap (48 + (d : Int)) = 48 + (d : Int) := by
        simp only [IntKind.wrap, IntKind.signed, IntKind.bits]
        exact Int.emod_eq_of_lt (by omega) (by omega)
      have huq : IntKind.u64.wrap (q : Int) = (q : Int) := by
        simp only [IntKind.wrap, IntKind.signed, IntKind.bits]
        exact Int.emod_eq_of_lt (by omega) (by omega)
      have hud : IntKind.u64.wrap (d : Int) = (d : Int) := by
        simp only [IntKind.wrap, IntKind.signed, IntKind.bits]
        exact Int.emod_eq_of_lt (by omega) (by omega)
      have HZ := Lib.hid (show s = 0 → d = 0 ∧ q = 0 from fun h => by subst h; exact ⟨hdd.symm, hqq.symm⟩)
      have BL := Lib.hid (show (byts l).length = l.length * 1 by rw [byts_length, Nat.mul_one])
      have B1 := Lib.hid (show ∀ u ∈ byts l, u.oneCell' = true from fun u hu => by obtain ⟨_, _, rfl⟩ := List.mem_map.1 hu; rfl)
      have HNA := Lib.hid (fun (o : Obj) => show ∀ ad, A = some ad → ∀ j u, (byts l)[j]? = some u → (wr.alloc o).cell? (ad.add j) = some u from fun ad had j u hu => by
        have h := HNW.out ad had j u hu
        exact (((Bl.alloc (Below.refl wr.heap.size wr) o).cell (World.block_lt_of_cell? _ _ h)).trans h))
      have HBY := Lib.hid (show (1 + l.length) * 1 ≤ 140737488355328 by have := HLN.out; omega)
      have HF := Lib.hid (fun (v1 : Value) (w7 : World) (ho : Own w7 w.heap.size 5 1 v1 (1 + l.length) ([.int .u8 (48 + (d : Int))] ++ byts l)) => show Own w7 w.heap.size 5 1 v1 (UInt8.ofNat (48 + d) :: l).length (byts (UInt8.ofNat (48 + d) :: l)) from by
        rw [List.length_cons, Nat.add_comm, byts_cons, HDV.out]
        exact ho)
      clear hdd hqq
      by_cases hs0 : s = 0
      · have hl0 : l = [] := hc.resolve_left (fun h => h hs0)
        subst hs0
        subst hl0
        have HZ := Lib.hid (HZ.out rfl)
        obtain ⟨hd0, hq0⟩ := HZ.out
        subst hd0
        have hg1 : decide ((0 : Int) < ((0 : Nat) : Int)) = false := by decide
        go_wp2_with (at_builtin; refine appO w.heap.size rfl (.tmp 25) (.tmp 26) 42 5 (.int .u8 0) 1 1 rfl Tryd.underlying42 infoByteH rfl (by decide) (by decide) _ 1 [.int .u8 48] rfl A 0 c (byts []) rfl BL.out B1.out HA.out (HNA.out _) ((Own.one wr _ _).lower HB.out.size) (Nat.le_trans HB.out.size (Bl.alloc (Below.refl _ _) _).size) HBY.out ?_; intro v1 w7 ho hg ha; have HR := Lib.hid (HF.out v1 w7 ho); have HB2 := Lib.hid (Below.grown (Bl.alloc HB.out _) hg (Bl.alloc HB.out _).size (fun q hq => by cases hq; exact HB.out.size)); obtain ⟨D3, c3, hv3⟩ : ∃ A c, v1 = .slice A (0 + 1) c := (by have h := ho.slice; rwa [Nat.add_comm] at h); subst hv3; clear ho hg ha)
        go_roundw
        case rel => exact ⟨q, [UInt8.ofNat (48 + 0)], HQ.out.1, by rw [HZ.out.2]; rfl, HST.out, HR.out, HB2.out⟩
        case measure => simp [intOf, emptyN]
      · have hg1 : decide ((0 : Int) < (s : Int)) = true := decide_eq_true (by omega)
        have hg2 : decide (0 < s) = true := decide_eq_true (by omega)
        have HLT := Lib.hid (HQ.out.2 hs0)
        go_wp2_with (at_builtin; refine appO w.heap.size rfl (.tmp 25) (.tmp 26) 42 5 (.int .u8 0) 1 1 rfl Tryd.underlying42 infoByteH rfl (by decide) (by decide) _ 1 [.int .u8 (48 + (d : Int))] rfl A l.length c (byts l) rfl BL.out B1.out HA.out (HNA.out _) ((Own.one wr _ _).lower HB.out.size) (Nat.le_trans HB.out.size (Bl.alloc (Below.refl _ _) _).size) HBY.out ?_; intro v1 w7 ho hg ha; have HR := Lib.hid (HF.out v1 w7 ho); have HB2 := Lib.hid (Below.grown (Bl.alloc HB.out _) hg (Bl.alloc HB.out _).size (fun q hq => by cases hq; exact HB.out.size)); obtain ⟨D3, c3, hv3⟩ : ∃ A c, v1 = .slice A (l.length + 1) c := (by have h := ho.slice; rwa [Nat.add_comm] at h); subst hv3; clear ho hg ha)
        go_roundw
        case rel => exact ⟨q, UInt8.ofNat (48 + d) :: l, HQ.out.1, rfl, HST.out, HR.out, HB2.out⟩
        case measure =>
          have h1 := HLT.out
          simp only [intOf, emptyN]
          omega
    · have hs0 : s = 0 := Classical.byContradiction fun h => hc (.inl h)
      have hl0 : l ≠ [] := fun h => hc (.inr h)
      subst hs0
      have hlp : 0 < l.length := List.length_pos_iff.2 hl0
      obtain rfl : l = Lib.decDigits n := by
        rcases HI.out with ⟨h1, _⟩ | ⟨_, _, h⟩ | ⟨_, h, _⟩
        · exact absurd h1 hl0
        · exact h
        · exact absurd rfl h
      have kc := HO.out.string (P := Tryd.prog) Tryd.underlying42 Tryd.underlying5 Tryd.underlying9
      have hd2 : (((Lib.decDigits n).length : Int) == 0) = false := by rw [beq_eq_false_iff_ne]; omega
      have hd3 : ((Lib.decDigits n).length == 0) = false := by rw [beq_eq_false_iff_ne]; omega
      have hd4 : ((Lib.decDigits n).length = 0) = False := eq_false (by omega)
      go_wp2
      go_ret
      exact ⟨rfl, HB.out⟩
end Go.Proofs.YtfdbolnifjpbhaaDoor
