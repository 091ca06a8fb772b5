/- The statements over cell: cells, the plain law. -/
import Derived.Test.YtohjijhmlfhcnaaCellC
namespace Go.Proofs.Ytohjijhmlfhcnaa
set_option linter.unusedVariables false
set_option linter.unusedSimpArgs false
open Go.RowKit

def cellF (s : List UInt8) (i : Nat) (_ : UInt8) : UInt8 := maskB s i
/-- A text, over and over. -/
def cellsP (s : ByteArray) : ByteArray := if s.size = 0 then str blankL else str (turnN blankL 0 (cellF s.data.toList) 4096)
theorem cellsP_size (s : ByteArray) : (cellsP s).size = 4096 := by
  unfold cellsP
  split
  · rw [str_size, blankL_len]
  · rw [str_size, turnN_len, blankL_len]

theorem lcells_none (s : ByteArray) (w : World) (h0 : s.size = 0) :
    Calls Try.prog 22 #[.string s] w fun e w' => e = .returned (.string (str blankL)) ∧ Below w.heap.size w w' := by
  obtain ⟨a, ha⟩ : ∃ a, str blankL = a := ⟨_, rfl⟩
  have hz : a.size = 4096 := by rw [← ha, str_size, blankL_len]
  have kb := fun W => Lib.run_convert_string_bytes (P := Try.prog) W 9 31 5 a Try.underlying9 Try.underlying31 Try.underlying5
  have HA := Lib.hid ha
  have hd := congrArg (fun b : ByteArray => b.data.toList) ha
  rw [ha]
  clear ha
  have hs : (s.size : Int) = 0 := by omega
  go_enter Try.func22, Try.ntmps22
  go_wp2_with (go_at_call 35; refine (rblank_any _).mono ?_; rw [HA.out]; rintro e w1 ⟨rfl, hb⟩; have B1 := Lib.hid hb; clear hb)
  have hO := Own.bytes w1 a 5 (by omega)
  rw [hz] at hO
  obtain ⟨hc1, hc2⟩ := hO.caps
  generalize grownCap w1 4096 0 5 = cap at *
  have HO := Lib.hid hO
  have HD := Lib.hid hd
  have HB := Lib.hid (Bl.bytes B1.out 5 a)
  have HW := Lib.hid (Below.refl w1.heap.size w1)
  clear hO hd B1
  generalize Lib.bytesWorld w1 5 a = w2 at *
  go_loopw [4] (fun i wr => i = .int .i64 0 ∧ wr = w2) (fun i _ => (1 - intOf i).toNat)
  case atStart => exact ⟨rfl, rfl⟩
  case round =>
    obtain ⟨rfl, rfl⟩ := hrel
    have kc := HO.out.string (P := Try.prog) Try.underlying31 Try.underlying5 Try.underlying9
    rw [str_of] at kc
    go_wp2
    go_ret
    exact ⟨rfl, HB.out⟩

set_option maxRecDepth 100000 in
theorem lcells_some (s : ByteArray) (w : World) (h0 : 0 < s.size) (hs : s.size ≤ 140737488351232) :
    Calls Try.prog 22 #[.string s] w fun e w' => e = .returned (.string (str (turnN blankL 0 (cellF s.data.toList) 4096))) ∧ Below w.heap.size w w' := by
  obtain ⟨a, ha⟩ : ∃ a, str blankL = a := ⟨_, rfl⟩
  have hz : a.size = 4096 := by rw [← ha, str_size, blankL_len]
  have kb := fun W => Lib.run_convert_string_bytes (P := Try.prog) W 9 31 5 a Try.underlying9 Try.underlying31 Try.underlying5
  have HA := Lib.hid ha
  have hd : a.data.toList = blankL := by rw [← ha, str_data]
  clear ha
  go_enter Try.func22, Try.ntmps22
  go_wp2_with (go_at_call 35; refine (rblank_any _).mono ?_; rw [HA.out]; rintro e w1 ⟨rfl, hb⟩; have B1 := Lib.hid hb; clear hb)
  have hO := Own.bytes w1 a 5 (by omega)
  rw [hz, hd] at hO
  obtain ⟨hc1, hc2⟩ := hO.caps
  generalize grownCap w1 4096 0 5 = cap at *
  have HO := Lib.hid hO
  have HB := Lib.hid (Bl.bytes B1.out 5 a)
  have HW := Lib.hid (show w.heap.size ≤ w1.heap.size from B1.out.size)
  clear hO hd
  generalize Lib.bytesWorld w1 5 a = w2 at *
  go_loopw [4] (fun i wr => ∃ k : Nat, k ≤ 4096 ∧ i = .int .i64 k ∧ Own wr w1.heap.size 5 1 (.slice (some ⟨w1.heap.size, 0, none⟩) 4096 cap) 4096 (byts (turnN blankL 0 (cellF s.data.toList) k)) ∧ Below w.heap.size w wr) (fun i _ => (4096 - intOf i).toNat)
  case atStart => exact ⟨0, by omega, rfl, HO.out, HB.out⟩
  case round =>
    obtain ⟨k, hk, rfl, ho, hb⟩ := hrel
    have HR := Lib.hid ho
    have HC := Lib.hid hb
    clear ho hb
    by_cases hlt : k < 4096
    · have hT := turnN_len blankL 0 (cellF s.data.toList) k
      have hm : k % s.size < s.size := Nat.mod_lt _ h0
      have hg := get_data s (k % s.size) hm
      have e2 : maskB s.data.toList k = s[k % s.size] := by rw [hg, maskB, data_len]
      have E2 := Lib.hid e2
      have g1 : wr.cell? ⟨w1.heap.size, k, none⟩ = some (.int .u8 (((turnN blankL 0 (cellF s.data.toList) k).getD k 0).toNat : Int)) := HR.out.at' (byts_at (by rw [hT, blankL_len]; omega))
      have g2 : wr.frozen? ⟨w1.heap.size, k, none⟩ = false := HR.out.free (by omega)
      clear hT hg e2
      generalize (turnN blankL 0 (cellF s.data.toList) k).getD k 0 = x at g1
      go_wp2
      go_roundw
      case rel =>
        refine ⟨k + 1, by omega, by go_num, ?_, HC.out.setCell HW.out _⟩
        have e3 : turnN blankL 0 (cellF s.data.toList) (k + 1) = (turnN blankL 0 (cellF s.data.toList) k).set k (maskB s.data.toList k) := by rw [turnN, cellF, Nat.zero_add]
        rw [e3, E2.out, byts_set]
        exact (HR.out.stored k _).1
      case measure => simp [intOf]; omega
    · have h4 : k = 4096 := by omega
      have h5 : (4096 : Int) ≤ k := by omega
      have kc := HR.out.string (P := Try.prog) Try.underlying31 Try.underlying5 Try.underlying9
      have e4 : str (turnN blankL 0 (cellF s.data.toList) k) = str (turnN blankL 0 (cellF s.data.toList) 4096) := congrArg (fun k => str (turnN blankL 0 (cellF s.data.toList) k)) h4
      have E4 := Lib.hid e4
      clear h4 e4 HR
      generalize str (turnN blankL 0 (cellF s.data.toList) k) = y at *
      go_wp2
      go_ret
      exact ⟨congrArg (fun y => Ending.returned (.string y)) E4.out, HC.out⟩

theorem lcells_any (s : ByteArray) (w : World) (hs : s.size ≤ 140737488351232) :
    Calls Try.prog 22 #[.string s] w fun e w' => e = .returned (.string (cellsP s)) ∧ Below w.heap.size w w' := by
  unfold cellsP
  split
  · exact lcells_none s w (by omega)
  · exact lcells_some s w (by omega) hs
end Go.Proofs.Ytohjijhmlfhcnaa
