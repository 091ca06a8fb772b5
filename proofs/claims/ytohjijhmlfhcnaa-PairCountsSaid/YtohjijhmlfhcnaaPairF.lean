/- The statement PairCounts: its walk. -/
import Derived.Test.YtohjijhmlfhcnaaPairE
namespace Go.Proofs.Ytohjijhmlfhcnaa
set_option linter.unusedVariables false
set_option linter.unusedSimpArgs false
open Go.RowKit
/-- How many of a byte's first bits are set. -/
def pc (b : UInt8) : Nat → Int
  | 0 => 0
  | j + 1 => pc b j + bits .and .u8 ((b.toNat : Int) / 2 ^ j) 1
theorem pc_all : ∀ n : Fin 256, (∀ j : Fin 9, 0 ≤ pc (UInt8.ofNat n.val) j.val ∧ pc (UInt8.ofNat n.val) j.val ≤ 8) ∧ (∀ j : Fin 8, 0 ≤ bits .and .u8 (((UInt8.ofNat n.val).toNat : Int) / 2 ^ j.val) 1 ∧ bits .and .u8 (((UInt8.ofNat n.val).toNat : Int) / 2 ^ j.val) 1 ≤ 1) ∧ pc (UInt8.ofNat n.val) 8 + pc (~~~(UInt8.ofNat n.val)) 8 = 8 := by decide +kernel
theorem of_fin (b : UInt8) : ∃ n : Fin 256, UInt8.ofNat n.val = b := ⟨⟨b.toNat, b.toNat_lt⟩, by simp⟩
theorem pc_le (b : UInt8) (j : Nat) (h : j ≤ 8) : 0 ≤ pc b j ∧ pc b j ≤ 8 := by
  obtain ⟨n, rfl⟩ := of_fin b
  exact (pc_all n).1 ⟨j, by omega⟩
theorem pc_bit (b : UInt8) (j : Nat) (h : j < 8) : 0 ≤ bits .and .u8 ((b.toNat : Int) / 2 ^ j) 1 ∧ bits .and .u8 ((b.toNat : Int) / 2 ^ j) 1 ≤ 1 := by
  obtain ⟨n, rfl⟩ := of_fin b
  exact (pc_all n).2.1 ⟨j, h⟩
theorem pc_not (b : UInt8) : pc b 8 + pc (~~~b) 8 = 8 := by
  obtain ⟨n, rfl⟩ := of_fin b
  exact (pc_all n).2.2
/-- How many bits of bytes are set. -/
def pcs : List UInt8 → Int
  | [] => 0
  | b :: bs => pc b 8 + pcs bs
theorem pcs_app (a b : List UInt8) : pcs (a ++ b) = pcs a + pcs b := by
  induction a with
  | nil => simp [pcs]
  | cons x xs ih => simp only [List.cons_append, pcs, ih]; omega
theorem pcs_compl (a : List UInt8) : pcs a + pcs (compl a) = 8 * a.length := by
  induction a with
  | nil => simp [pcs, compl]
  | cons x xs ih =>
    have h := pc_not x
    simp only [compl, List.map_cons, pcs, List.length_cons] at *
    omega
theorem pcs_le (a : List UInt8) : 0 ≤ pcs a ∧ pcs a ≤ 8 * a.length := by
  induction a with
  | nil => simp [pcs]
  | cons x xs ih =>
    have h := pc_le x 8 (Nat.le_refl _)
    simp only [pcs, List.length_cons]
    omega
theorem pcs_snoc (a : List UInt8) (i : Nat) (h : i < a.length) : pcs (a.take (i + 1)) = pcs (a.take i) + pc (a.getD i 0) 8 := by
  rw [List.take_succ_eq_append_getElem h, pcs_app]
  simp [pcs, List.getD_eq_getElem?_getD, h]

theorem PairCounts_walk (s : ByteArray) (_ : s.size ≤ 140737488351232) (w : World) :
    Calls Try.prog 6 #[.string s] w fun e w' => e = .returned (.bool true) ∧ Below w.heap.size w w' := by
  obtain ⟨x, hx⟩ : ∃ x, textL s.data.toList 32 = x := ⟨_, rfl⟩
  have hxl : x.length = 32 := by rw [← hx, textL_len]
  obtain ⟨t, ht⟩ : ∃ t, str (x ++ compl x) = t := ⟨_, rfl⟩
  have h1 : putP (str x) = (t, 0) := by unfold putP; rw [if_pos (by rw [str_size, hxl]), str_data, ht]
  have hz : t.size = 64 := by rw [← ht, str_size, List.length_append, compl_len, hxl]
  have hd : t.data.toList = x ++ compl x := by rw [← ht, str_data]
  have HT := Lib.hid (show str (textL s.data.toList (32 : Int).toNat) = str x by rw [← hx]; rfl)
  have H1 := Lib.hid h1
  have HS := Lib.hid (show pcs t.data.toList = 256 by have h := pcs_compl x; rw [hd, pcs_app]; omega)
  have HL := Lib.hid (show t.data.toList.length = 64 by rw [data_len, hz])
  clear hx hxl ht h1 hd
  go_enter Try.func6, Try.ntmps6
  go_wp2_with fail
  with_reducible refine (awake2 _).mono ?_
  rintro e w1 ⟨rfl, hb⟩
  have B1 := Lib.hid (hb)
  clear hb
  go_wp2_with fail
  with_reducible refine (text_int _ _ _ (by omega) (by omega)).mono ?_
  rw [HT.out]
  rintro e w2 ⟨rfl, hb⟩
  have B2 := Lib.hid (Bl.then B1.out hb)
  clear hb B1
  go_wp2_with fail
  with_reducible refine (put_any _ _).mono ?_
  rw [H1.out]
  rintro e w3 ⟨rfl, hb⟩
  have B3 := Lib.hid (Bl.then B2.out hb)
  clear hb B2
  go_wp2_with (go_at_call 19; refine (num_any _ _).mono ?_; rintro e w' ⟨rfl, rfl⟩)
  go_loop [5, 6] (fun k i => ∃ n : Nat, n ≤ 64 ∧ i = .int .i64 n ∧ k = .int .i64 (pcs (t.data.toList.take n))) (fun _ i => (64 - intOf i).toNat)
  case atStart => exact ⟨0, by omega, rfl, rfl⟩
  case round =>
    obtain ⟨n, hn, rfl, rfl⟩ := hrel
    by_cases hlt : n < 64
    · have hb := pcs_le (t.data.toList.take n)
      have hlen : (t.data.toList.take n).length ≤ n := List.length_take_le _ _
      have HS2 := Lib.hid (pcs_snoc t.data.toList n (by rw [HL.out]; exact hlt))
      have HG := Lib.hid (get_data t n (by omega))
      generalize hp : pcs (t.data.toList.take n) = p at *
      have HP := Lib.hid hp
      clear hp
      obtain ⟨hb0, hb1⟩ := hb
      have hb2 : p ≤ 512 := by omega
      clear hb1 hlen
      go_wp2_with fail
      go_loop [5, 7] (fun k j => ∃ m : Nat, m ≤ 8 ∧ j = .int .i64 m ∧ k = .int .i64 (p + pc (t.data.toList.getD n 0) m)) (fun _ j => (8 - intOf j).toNat)
      case atStart => exact ⟨0, by omega, rfl, by simp [pc]⟩
      case round =>
        obtain ⟨m, hm, rfl, rfl⟩ := hrel
        have hc := pc_le (t.data.toList.getD n 0) m hm
        generalize hq : pc (t.data.toList.getD n 0) m = q at *
        have HQ := Lib.hid hq
        clear hq
        by_cases hlt2 : m < 8
        · have hbit := pc_bit (t.data.toList.getD n 0) m hlt2
          rw [← HG.out] at hbit
          go_wp2
          go_round
          case rel =>
            refine ⟨m + 1, by omega, by go_num, ?_⟩
            have h : p + q + bits .and .u8 (((t[n]'(by omega)).toNat : Int) / 2 ^ m) 1 = p + pc (t.data.toList.getD n 0) (m + 1) := by
              rw [HG.out]
              simp only [pc]
              rw [HQ.out]
              omega
            rw [← h]
          case measure => simp [intOf]; omega
        · go_wp2
          go_round
          case rel =>
            refine ⟨n + 1, by omega, by go_num, ?_⟩
            have h : p + q = pcs (t.data.toList.take (n + 1)) := by
              rw [HS2.out, ← HQ.out, show m = 8 by omega]
            rw [← h]
          case measure => simp [intOf]; omega
    · have e : n = 64 := by omega
      have h : pcs (t.data.toList.take n) = 256 := by rw [List.take_of_length_le (by rw [HL.out]; omega)]; exact HS.out
      rw [h]
      go_wp2
      go_ret
      exact ⟨rfl, B3.out⟩
end Go.Proofs.Ytohjijhmlfhcnaa
