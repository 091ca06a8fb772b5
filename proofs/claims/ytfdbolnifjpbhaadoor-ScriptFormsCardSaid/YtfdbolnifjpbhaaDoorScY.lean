/- The document's ParseActs: the walk (printed by gen_scy.py). -/
import Derived.Test.YtfdbolnifjpbhaaDoorScX
import Derived.Test.YtfdbolnifjpbhaaDoorScU
import Derived.Test.YtfdbolnifjpbhaaDoorScK
namespace Go.Proofs.YtfdbolnifjpbhaaDoor
set_option linter.unusedVariables false
set_option linter.unusedSimpArgs false
open Go.RowKit

/-- The kind that the first k letters tell. -/
def kndN (c : UInt8) : Nat → Int
  | 0 => -1
  | k + 1 => if c = kindsB.getD k 0 then (k : Int) else kndN c k
theorem kndN_all (c : UInt8) : kndN c 8 = kindOf c := by
  by_cases h0 : c = 102
  · subst h0; decide
  by_cases h1 : c = 109
  · subst h1; decide
  by_cases h2 : c = 112
  · subst h2; decide
  by_cases h3 : c = 103
  · subst h3; decide
  by_cases h4 : c = 100
  · subst h4; decide
  by_cases h5 : c = 108
  · subst h5; decide
  by_cases h6 : c = 98
  · subst h6; decide
  by_cases h7 : c = 120
  · subst h7; decide
  have e1 : kndN c 8 = -1 := by
    simp only [kndN, kindsB, List.getD_cons_zero, List.getD_cons_succ, if_neg h0, if_neg h1, if_neg h2, if_neg h3, if_neg h4, if_neg h5, if_neg h6, if_neg h7]
  rw [e1, kindOf]
  symm
  simp [kindsB, Lib.indexByte, Ne.symm h0, Ne.symm h1, Ne.symm h2, Ne.symm h3, Ne.symm h4, Ne.symm h5, Ne.symm h6, Ne.symm h7, h0, h1, h2, h3, h4, h5, h6, h7]
/-- What stands between the acts that ParseActs reads. -/
structure ParT (w : World) (s : ByteArray) (ms : List ActM) (v : Value) (g i : Nat) (l : Bool) (W : World) : Prop where
  own : OwnA W w.heap.size v ms
  tk : TkB W w.heap.size g s i l
  bl : Below w.heap.size w W
/-- What stands as an act is read. -/
structure TkI (w : World) (s : ByteArray) (ms : List ActM) (v : Value) (g ga : Nat) (m : ActM) (j : Nat) (l : Bool) (W : World) : Prop where
  par : ParT w s ms v g j l W
  sep : v.ownBlock = none ∨ v.ownBlock ≠ some ga
  box : Own W w.heap.size 38 1 (.slice (some ⟨ga, 0, none⟩) 9 9) 9 (cellsA m)
  bv : Own W w.heap.size 3 1 m.bv m.a.busy.length (nums m.a.busy)
  rv : Own W w.heap.size 3 1 m.rv m.a.reads.length (nums m.a.reads)
section
variable {w W W' : World} {s : ByteArray} {ms : List ActM} {v v' : Value} {g ga j j' : Nat} {l l' : Bool} {m : ActM}
theorem ParT.alloc (h : ParT w s ms v g j l W) (o : Obj) : ParT w s ms v g j l (W.alloc o) := ⟨h.own.alloc o, Own.alloc h.tk o, Bl.alloc h.bl o⟩
theorem ParT.drewN (h : ParT w s ms v g j l W) (n : Nat) : ParT w s ms v g j l (W.drewN n) := ⟨h.own, h.tk, Bl.drewN h.bl n⟩
theorem TkI.alloc (h : TkI w s ms v g ga m j l W) (o : Obj) : TkI w s ms v g ga m j l (W.alloc o) := ⟨h.par.alloc o, h.sep, h.box.alloc o, h.bv.alloc o, h.rv.alloc o⟩
theorem TkI.drewN (h : TkI w s ms v g ga m j l W) (n : Nat) : TkI w s ms v g ga m j l (W.drewN n) := ⟨h.par.drewN n, h.sep, h.box, h.bv, h.rv⟩
theorem ParT.act (h : ParT w s ms v g j l W) : TkI w s ms v g W.heap.size ⟨⟨-1, nilB', nilB', 0, 0, 0, nilB', [], []⟩, .slice none 0 0, .slice none 0 0⟩ j l (W.alloc (Obj.cells #[.int .i64 (-1), .string ⟨#[]⟩, .string ⟨#[]⟩, .int .i64 0, .int .i64 0, .int .i64 0, .string ⟨#[]⟩, .slice none 0 0, .slice none 0 0] 38)) := by
  refine ⟨h.alloc _, ?_, ⟨rfl, .inr ⟨W.heap.size, 9, _, (0, 0), rfl, h.bl.size, heap_alloc_new W _, .inr rfl, Nat.le_refl _, by decide, rfl, rfl⟩⟩, Own.nil _ _ _ _, Own.nil _ _ _ _⟩
  refine .inr fun e => ?_
  have := h.own.1.lt _ e
  omega
theorem TkI.step (h : TkI w s ms v g ga m j l W) (hb : TkB W' w.heap.size g s j' l') (hg : W.grownBy W' (some g)) : TkI w s ms v g ga m j' l' W' :=
  ⟨⟨h.par.own.kept hg h.par.tk rfl (by decide) (by decide), hb, Bl.grown h.par.bl hg (fun k hk => h.par.tk.base k hk)⟩, h.sep, h.box.kept hg (Own.neS (by decide) h.box h.par.tk), h.bv.kept hg (Own.neS (by decide) h.bv h.par.tk), h.rv.kept hg (Own.neS (by decide) h.rv h.par.tk)⟩
theorem TkI.put (h : TkI w s ms v g ga m j l W) (o : Nat) (u : Value) (m' : ActM) (hc : cellsA m' = (cellsA m).set o u) (hb : Own W w.heap.size 3 1 m'.bv m'.a.busy.length (nums m'.a.busy)) (hr : Own W w.heap.size 3 1 m'.rv m'.a.reads.length (nums m'.a.reads)) : TkI w s ms v g ga m' j l (W.setCell ⟨ga, o, none⟩ u) := by
  obtain ⟨k1, k2⟩ := h.box.stored o u
  refine ⟨⟨⟨h.par.own.1.kept k2 h.sep, fun a ha => ⟨(h.par.own.2 a ha).1.kept k2 (Own.neS (by decide) (h.par.own.2 a ha).1 h.box), (h.par.own.2 a ha).2.kept k2 (Own.neS (by decide) (h.par.own.2 a ha).2 h.box)⟩⟩, Own.kept h.par.tk k2 (Own.neS (by decide) h.par.tk h.box), Bl.grown h.par.bl k2 (fun k hk => h.box.base k hk)⟩, h.sep, by rw [hc]; exact k1, hb.kept k2 (Own.neS (by decide) hb h.box), hr.kept k2 (Own.neS (by decide) hr h.box)⟩
theorem TkI.app (h : TkI w s ms v g ga m j l W) (ho : Own W' w.heap.size 38 9 v' (ms.length + 1) (flatA ms ++ cellsA m)) (hg : W.grownBy W' v.ownBlock) : ParT w s (ms ++ [m]) v' g j l W' := by
  refine ⟨⟨by rw [flatA_snoc, List.length_append]; exact ho, fun a ha => ?_⟩, Own.kept h.par.tk hg (Own.neS (by decide) h.par.tk h.par.own.1), Bl.grown h.par.bl hg (fun k hk => h.par.own.1.base k hk)⟩
  rcases List.mem_append.1 ha with ha | ha
  · exact ⟨(h.par.own.2 a ha).1.kept hg (Own.neS (by decide) (h.par.own.2 a ha).1 h.par.own.1), (h.par.own.2 a ha).2.kept hg (Own.neS (by decide) (h.par.own.2 a ha).2 h.par.own.1)⟩
  · obtain rfl := List.mem_singleton.1 ha
    exact ⟨h.bv.kept hg (Own.neS (by decide) h.bv h.par.own.1), h.rv.kept hg (Own.neS (by decide) h.rv h.par.own.1)⟩
end
/-! ### The law -/
theorem parT_end {R : Rdr} {s : ByteArray} {n i : Nat} {l : Bool} (h : s.size ≤ i ∨ l = true ∨ n = 257) : (if l = true then [] else parT R s (257 - n) i) = [] := by
  cases l with
  | true => rfl
  | false =>
    rw [if_neg (by decide)]
    rcases h with h | h | rfl
    · cases hk : 257 - n with
      | zero => rfl
      | succ k => rw [parT, if_pos h]
    · cases h
    · rfl
theorem parT_go {R : Rdr} {s : ByteArray} {n i : Nat} (hn : n ≤ 256) (h : i < s.size) : parT R s (257 - n) i = (oneR R s i).1 :: (if (oneR R s i).2.2 = true then [] else parT R s (257 - (n + 1)) (oneR R s i).2.1) := by
  rw [show 257 - n = (256 - n) + 1 by omega, parT, if_neg (by omega), show 257 - (n + 1) = 256 - n by omega]
  split <;> rfl
theorem parset_no {s : ByteArray} (h : ¬ Told s (parT (takeR s) s 257 0)) : readL s = [] ∧ readE s = 2400 :=
  readL_no fun ⟨xs, hx⟩ => h (by rw [(hx.read (takeR_ok s)).2]; exact hx)
theorem next_in (s : ByteArray) (i : Nat) (h : i < s.size) : nextB s i = s[i] := by rw [nextB, if_pos h, getD_byte s i h]
set_option maxRecDepth 100000 in
set_option maxHeartbeats 16000000 in
theorem parset_any (s : ByteArray) (hs : s.size ≤ 140737488351232) (w : World) :
    Calls Tryd.prog 11 #[.string s] w fun e w' => ∃ v ms, e = .returned (.tuple #[v, .int .i64 (readE s)]) ∧ OwnA w' w.heap.size v ms ∧ ms.map (·.a) = readL s ∧ Below w.heap.size w w' := by
  have SZ := Lib.hid (fun (i : Nat) => show SzA (oneR (takeR s) s i).1 from ⟨Nat.le_trans (wordG_le s _ _ _) hs, Nat.le_trans (wordG_le s _ _ _) hs, Nat.le_trans (wordG_le s _ _ _) hs⟩)
  obtain ⟨R, hR⟩ : ∃ R, parT (takeR s) s 257 0 = R := ⟨_, rfl⟩
  have HR := Lib.hid hR
  have I0 := Lib.hid (show ParT w s [] (.slice none 0 0) w.heap.size 0 false (w.alloc (Obj.cells #[.string s, .int .i64 ((0 : Nat) : Int), .bool false] 58)) from ⟨OwnA.nil _ _, ⟨rfl, .inr ⟨w.heap.size, 3, _, (0, 0), rfl, Nat.le_refl _, heap_alloc_new w _, .inr rfl, Nat.le_refl _, by decide, rfl, rfl⟩⟩, Bl.alloc (Below.refl _ _) _⟩)
  have hs9 : s.size ≤ 9223372036854775807 := by omega
  clear hR
  go_enter Tryd.func11, Tryd.ntmps11
  go_wp2_with fail
  go_loopw [4] (fun v4 wr => ∃ (ms : List ActM) (i : Nat) (l : Bool), ParT w s ms v4 w.heap.size i l wr ∧ ms.length ≤ 257 ∧ (∀ m ∈ ms, SzA m.a) ∧ ms.map (·.a) ++ (if l = true then [] else parT (takeR s) s (257 - ms.length) i) = R) (fun v4 wr => 257 - lenV v4)
  case atStart => exact ⟨[], 0, false, I0.out, Nat.zero_le _, fun m hm => by simp at hm, by rw [← HR.out]; simp⟩
  case round =>
    obtain ⟨ms, i, l, hI, hle, hsz, hRR⟩ := hrel
    obtain ⟨A, c, rfl⟩ := hI.own.1.slice
    obtain ⟨n, hn⟩ : ∃ n, ms.length = n := ⟨_, rfl⟩
    have HN := Lib.hid hn
    have HI := Lib.hid hI
    have HSZ := Lib.hid hsz
    have c1 := hI.tk.at' (j := 1) rfl
    have c2 := hI.tk.at' (j := 2) rfl
    clear hI hsz I0
    by_cases hc : i < s.size ∧ l = false ∧ n ≤ 256
    · obtain ⟨hi, rfl, hn6⟩ := hc
      have hi2 : (i : Int) < (s.size : Int) := by omega
      have d1 : decide ((i : Int) < (s.size : Int)) = true := decide_eq_true hi2
      have d2 : decide (i < s.size) = true := decide_eq_true hi
      have d3 : decide ((n : Int) ≤ 256) = true := decide_eq_true (by omega)
      have d4 : decide (n ≤ 256) = true := decide_eq_true hn6
      have FA := takeR_far s
      obtain ⟨⟨x1, j1, l1⟩, e1⟩ : ∃ t, numT s (i + 1) false = t := ⟨_, rfl⟩
      have a1 : (numT s (i + 1) false).2.1 ≤ i + 1 + 7 := (FA.num _ _).2
      obtain ⟨⟨x2, j2, l2⟩, e2⟩ : ∃ t, numT s j1 l1 = t := ⟨_, rfl⟩
      have a2 : (numT s j1 l1).2.1 ≤ j1 + 7 := (FA.num _ _).2
      obtain ⟨⟨x3, j3, l3⟩, e3⟩ : ∃ t, numT s j2 l2 = t := ⟨_, rfl⟩
      have a3 : (numT s j2 l2).2.1 ≤ j2 + 7 := (FA.num _ _).2
      obtain ⟨⟨bs, j4, l4⟩, e4⟩ : ∃ t, rowT s j3 l3 = t := ⟨_, rfl⟩
      have a4 : (rowT s j3 l3).2.1 ≤ j3 + 126 := (FA.row _ _).2
      obtain ⟨⟨rs, j5, l5⟩, e5⟩ : ∃ t, rowT s j4 l4 = t := ⟨_, rfl⟩
      have a5 : (rowT s j4 l4).2.1 ≤ j4 + 126 := (FA.row _ _).2
      obtain ⟨⟨t6, j6, l6⟩, e6⟩ : ∃ t, wordG s (numT s) j5 l5 = t := ⟨_, rfl⟩
      have a6 : (wordG s (numT s) j5 l5).2.1 ≤ max (j5 + 7) s.size := (FA.word _ _).2
      obtain ⟨⟨t7, j7, l7⟩, e7⟩ : ∃ t, wordG s (numT s) j6 l6 = t := ⟨_, rfl⟩
      have a7 : (wordG s (numT s) j6 l6).2.1 ≤ max (j6 + 7) s.size := (FA.word _ _).2
      obtain ⟨⟨t8, j8, l8⟩, e8⟩ : ∃ t, wordG s (numT s) j7 l7 = t := ⟨_, rfl⟩
      obtain ⟨kd, hkd⟩ : ∃ kd, kindOf (nextB s i) = kd := ⟨_, rfl⟩
      have hone : oneR (takeR s) s i = (⟨kd, t6, t7, x1, x2, x3, t8, bs, rs⟩, j8, l8) := by
        unfold oneR takeR
        simp only [e1, e2, e3, e4, e5, e6, e7, e8, hkd]
      have hszi := SZ.out i
      have hgo := parT_go (R := takeR s) (n := n) hn6 hi
      rw [hone] at hszi hgo
      simp only at hszi hgo
      have HSA := Lib.hid hszi
      have GO := Lib.hid (show (ms.map (·.a) ++ [(⟨kd, t6, t7, x1, x2, x3, t8, bs, rs⟩ : ActV)]) ++ (if l8 = true then [] else parT (takeR s) s (257 - (n + 1)) j8) = R from by
        rw [← hRR, hn, if_neg (show ¬ (false = true) from by decide), hgo, List.append_assoc]
        rfl)
      rw [e1] at a1; rw [e2] at a2; rw [e3] at a3; rw [e4] at a4; rw [e5] at a5; rw [e6] at a6; rw [e7] at a7
      simp only at a1 a2 a3 a4 a5 a6 a7
      have N1 := Lib.hid (fun (W : World) (hb : TkB W w.heap.size w.heap.size s (i + 1) false) => num_t w.heap.size w.heap.size s (i + 1) false W hb (by omega) (by omega))
      have N2 := Lib.hid (fun (W : World) (hb : TkB W w.heap.size w.heap.size s j1 l1) => num_t w.heap.size w.heap.size s j1 l1 W hb (by omega) (by omega))
      have N3 := Lib.hid (fun (W : World) (hb : TkB W w.heap.size w.heap.size s j2 l2) => num_t w.heap.size w.heap.size s j2 l2 W hb (by omega) (by omega))
      have N4 := Lib.hid (fun (W : World) (hb : TkB W w.heap.size w.heap.size s j3 l3) => row_t w.heap.size w.heap.size s j3 l3 W hb (by omega) (by omega))
      have N5 := Lib.hid (fun (W : World) (hb : TkB W w.heap.size w.heap.size s j4 l4) => row_t w.heap.size w.heap.size s j4 l4 W hb (by omega) (by omega))
      have N6 := Lib.hid (fun (W : World) (hb : TkB W w.heap.size w.heap.size s j5 l5) => str_t w.heap.size w.heap.size s j5 l5 W hb (by omega) (by omega))
      have N7 := Lib.hid (fun (W : World) (hb : TkB W w.heap.size w.heap.size s j6 l6) => str_t w.heap.size w.heap.size s j6 l6 W hb (by omega) (by omega))
      have N8 := Lib.hid (fun (W : World) (hb : TkB W w.heap.size w.heap.size s j7 l7) => str_t w.heap.size w.heap.size s j7 l7 W hb (by omega) (by omega))
      rw [e1] at N1; rw [e2] at N2; rw [e3] at N3; rw [e4] at N4; rw [e5] at N5; rw [e6] at N6; rw [e7] at N7; rw [e8] at N8
      simp only at N1 N2 N3 N4 N5 N6 N7 N8
      have hbytes : (n + 1) * 128 ≤ 140737488355328 := by omega
      obtain ⟨ch, hch⟩ : ∃ ch, s[i] = ch := ⟨_, rfl⟩
      have HKD := Lib.hid (show kndN ch 8 = kd from by rw [kndN_all, ← hch, ← next_in s i hi]; exact hkd)
      have w5 : wrap64 ((i : Int) + 1) = (i : Int) + 1 := IntWalk.wrap64_in _ ⟨by omega, by omega⟩
      have HM := Lib.hid (show 257 - (n + 1) < 257 - n from by omega)
      have HN6 := Lib.hid (show n + 1 ≤ 257 from by omega)
      have TK0 := Lib.hid HI.out.act
      rw [hn] at TK0
      rw [hn]
      clear FA a1 a2 a3 a4 a5 a6 a7 e1 e2 e3 e4 e5 e6 e7 e8 hone hkd hgo hszi hRR hle hn hn6
      go_wp2_with fail
      generalize wr.alloc (Obj.cells #[.int .i64 (-1), .string ⟨#[]⟩, .string ⟨#[]⟩, .int .i64 0, .int .i64 0, .int .i64 0, .string ⟨#[]⟩, .slice none 0 0, .slice none 0 0] 38) = W1 at TK0 ⊢
      generalize wr.heap.size = ga at TK0 ⊢
      clear c1 c2 d1 d2 d3 d4
      go_loopw [7] (fun v7 wk => ∃ k : Nat, k ≤ 8 ∧ v7 = .int .i64 (k : Int) ∧ TkI w s ms (.slice A n c) w.heap.size ga ⟨⟨kndN ch k, nilB', nilB', 0, 0, 0, nilB', [], []⟩, .slice none 0 0, .slice none 0 0⟩ i false wk) (fun v7 wk => 8 - (intOf v7).toNat)
      case atStart => exact ⟨0, by omega, rfl, TK0.out⟩
      case round =>
        obtain ⟨k, hk, rfl, hT⟩ := hrel
        have HT := Lib.hid hT
        clear hT TK0
        have c1 := HT.out.par.tk.at' (j := 1) rfl
        have y0 := HT.out.box.at' (j := 0) rfl
        have f0 := HT.out.box.free (j := 0) (by decide)
        have hk8 : k = 0 ∨ k = 1 ∨ k = 2 ∨ k = 3 ∨ k = 4 ∨ k = 5 ∨ k = 6 ∨ k = 7 ∨ k = 8 := by omega
        rcases hk8 with rfl | rfl | rfl | rfl | rfl | rfl | rfl | rfl | rfl
        · cases hd : ((ch.toNat : Int) == (((⟨#[102, 109, 112, 103, 100, 108, 98, 120]⟩ : ByteArray)[0]'(by decide)).toNat : Int)) with
          | true =>
            have HK1 := Lib.hid (show kndN ch (0 + 1) = 0 from if_pos (UInt8.toNat_inj.1 (by have := eq_of_beq hd; change (ch.toNat : Int) = 102 at this; show ch.toNat = 102; omega)))
            go_wp2_with fail
            go_quiet (fail)
            have HT2 := Lib.hid (HT.out.drewN nq)
            clear c1 y0 f0
            generalize wr.drewN nq = W5 at HT2 ⊢
            have y0 := HT2.out.box.at' (j := 0) rfl
            have f0 := HT2.out.box.free (j := 0) (by decide)
            go_wp2_with fail
            go_roundw
            case rel =>
              have h := HT2.out.put 0 (.int .i64 0) (⟨⟨kndN ch (0 + 1), nilB', nilB', 0, 0, 0, nilB', [], []⟩, .slice none 0 0, .slice none 0 0⟩ : ActM) (by rw [HK1.out]; rfl) HT2.out.bv HT2.out.rv
              exact ⟨0 + 1, by omega, rfl, h⟩
            case measure => simp [intOf]
          | false =>
            have HK1 := Lib.hid (show kndN ch (0 + 1) = kndN ch 0 from if_neg (fun e => by subst e; exact absurd hd (by decide)))
            go_wp2_with fail
            go_quiet (fail)
            have HT2 := Lib.hid (HT.out.drewN nq)
            clear c1 y0 f0
            generalize wr.drewN nq = W5 at HT2 ⊢
            go_wp2_with fail
            go_roundw
            case rel => exact ⟨0 + 1, by omega, rfl, by rw [HK1.out]; exact HT2.out⟩
            case measure => simp [intOf]
        · cases hd : ((ch.toNat : Int) == (((⟨#[102, 109, 112, 103, 100, 108, 98, 120]⟩ : ByteArray)[1]'(by decide)).toNat : Int)) with
          | true =>
            have HK1 := Lib.hid (show kndN ch (1 + 1) = 1 from if_pos (UInt8.toNat_inj.1 (by have := eq_of_beq hd; change (ch.toNat : Int) = 109 at this; show ch.toNat = 109; omega)))
            go_wp2_with fail
            go_quiet (fail)
            have HT2 := Lib.hid (HT.out.drewN nq)
            clear c1 y0 f0
            generalize wr.drewN nq = W5 at HT2 ⊢
            have y0 := HT2.out.box.at' (j := 0) rfl
            have f0 := HT2.out.box.free (j := 0) (by decide)
            go_wp2_with fail
            go_roundw
            case rel =>
              have h := HT2.out.put 0 (.int .i64 1) (⟨⟨kndN ch (1 + 1), nilB', nilB', 0, 0, 0, nilB', [], []⟩, .slice none 0 0, .slice none 0 0⟩ : ActM) (by rw [HK1.out]; rfl) HT2.out.bv HT2.out.rv
              exact ⟨1 + 1, by omega, rfl, h⟩
            case measure => simp [intOf]
          | false =>
            have HK1 := Lib.hid (show kndN ch (1 + 1) = kndN ch 1 from if_neg (fun e => by subst e; exact absurd hd (by decide)))
            go_wp2_with fail
            go_quiet (fail)
            have HT2 := Lib.hid (HT.out.drewN nq)
            clear c1 y0 f0
            generalize wr.drewN nq = W5 at HT2 ⊢
            go_wp2_with fail
            go_roundw
            case rel => exact ⟨1 + 1, by omega, rfl, by rw [HK1.out]; exact HT2.out⟩
            case measure => simp [intOf]
        · cases hd : ((ch.toNat : Int) == (((⟨#[102, 109, 112, 103, 100, 108, 98, 120]⟩ : ByteArray)[2]'(by decide)).toNat : Int)) with
          | true =>
            have HK1 := Lib.hid (show kndN ch (2 + 1) = 2 from if_pos (UInt8.toNat_inj.1 (by have := eq_of_beq hd; change (ch.toNat : Int) = 112 at this; show ch.toNat = 112; omega)))
            go_wp2_with fail
            go_quiet (fail)
            have HT2 := Lib.hid (HT.out.drewN nq)
            clear c1 y0 f0
            generalize wr.drewN nq = W5 at HT2 ⊢
            have y0 := HT2.out.box.at' (j := 0) rfl
            have f0 := HT2.out.box.free (j := 0) (by decide)
            go_wp2_with fail
            go_roundw
            case rel =>
              have h := HT2.out.put 0 (.int .i64 2) (⟨⟨kndN ch (2 + 1), nilB', nilB', 0, 0, 0, nilB', [], []⟩, .slice none 0 0, .slice none 0 0⟩ : ActM) (by rw [HK1.out]; rfl) HT2.out.bv HT2.out.rv
              exact ⟨2 + 1, by omega, rfl, h⟩
            case measure => simp [intOf]
          | false =>
            have HK1 := Lib.hid (show kndN ch (2 + 1) = kndN ch 2 from if_neg (fun e => by subst e; exact absurd hd (by decide)))
            go_wp2_with fail
            go_quiet (fail)
            have HT2 := Lib.hid (HT.out.drewN nq)
            clear c1 y0 f0
            generalize wr.drewN nq = W5 at HT2 ⊢
            go_wp2_with fail
            go_roundw
            case rel => exact ⟨2 + 1, by omega, rfl, by rw [HK1.out]; exact HT2.out⟩
            case measure => simp [intOf]
        · cases hd : ((ch.toNat : Int) == (((⟨#[102, 109, 112, 103, 100, 108, 98, 120]⟩ : ByteArray)[3]'(by decide)).toNat : Int)) with
          | true =>
            have HK1 := Lib.hid (show kndN ch (3 + 1) = 3 from if_pos (UInt8.toNat_inj.1 (by have := eq_of_beq hd; change (ch.toNat : Int) = 103 at this; show ch.toNat = 103; omega)))
            go_wp2_with fail
            go_quiet (fail)
            have HT2 := Lib.hid (HT.out.drewN nq)
            clear c1 y0 f0
            generalize wr.drewN nq = W5 at HT2 ⊢
            have y0 := HT2.out.box.at' (j := 0) rfl
            have f0 := HT2.out.box.free (j := 0) (by decide)
            go_wp2_with fail
            go_roundw
            case rel =>
              have h := HT2.out.put 0 (.int .i64 3) (⟨⟨kndN ch (3 + 1), nilB', nilB', 0, 0, 0, nilB', [], []⟩, .slice none 0 0, .slice none 0 0⟩ : ActM) (by rw [HK1.out]; rfl) HT2.out.bv HT2.out.rv
              exact ⟨3 + 1, by omega, rfl, h⟩
            case measure => simp [intOf]
          | false =>
            have HK1 := Lib.hid (show kndN ch (3 + 1) = kndN ch 3 from if_neg (fun e => by subst e; exact absurd hd (by decide)))
            go_wp2_with fail
            go_quiet (fail)
            have HT2 := Lib.hid (HT.out.drewN nq)
            clear c1 y0 f0
            generalize wr.drewN nq = W5 at HT2 ⊢
            go_wp2_with fail
            go_roundw
            case rel => exact ⟨3 + 1, by omega, rfl, by rw [HK1.out]; exact HT2.out⟩
            case measure => simp [intOf]
        · cases hd : ((ch.toNat : Int) == (((⟨#[102, 109, 112, 103, 100, 108, 98, 120]⟩ : ByteArray)[4]'(by decide)).toNat : Int)) with
          | true =>
            have HK1 := Lib.hid (show kndN ch (4 + 1) = 4 from if_pos (UInt8.toNat_inj.1 (by have := eq_of_beq hd; change (ch.toNat : Int) = 100 at this; show ch.toNat = 100; omega)))
            go_wp2_with fail
            go_quiet (fail)
            have HT2 := Lib.hid (HT.out.drewN nq)
            clear c1 y0 f0
            generalize wr.drewN nq = W5 at HT2 ⊢
            have y0 := HT2.out.box.at' (j := 0) rfl
            have f0 := HT2.out.box.free (j := 0) (by decide)
            go_wp2_with fail
            go_roundw
            case rel =>
              have h := HT2.out.put 0 (.int .i64 4) (⟨⟨kndN ch (4 + 1), nilB', nilB', 0, 0, 0, nilB', [], []⟩, .slice none 0 0, .slice none 0 0⟩ : ActM) (by rw [HK1.out]; rfl) HT2.out.bv HT2.out.rv
              exact ⟨4 + 1, by omega, rfl, h⟩
            case measure => simp [intOf]
          | false =>
            have HK1 := Lib.hid (show kndN ch (4 + 1) = kndN ch 4 from if_neg (fun e => by subst e; exact absurd hd (by decide)))
            go_wp2_with fail
            go_quiet (fail)
            have HT2 := Lib.hid (HT.out.drewN nq)
            clear c1 y0 f0
            generalize wr.drewN nq = W5 at HT2 ⊢
            go_wp2_with fail
            go_roundw
            case rel => exact ⟨4 + 1, by omega, rfl, by rw [HK1.out]; exact HT2.out⟩
            case measure => simp [intOf]
        · cases hd : ((ch.toNat : Int) == (((⟨#[102, 109, 112, 103, 100, 108, 98, 120]⟩ : ByteArray)[5]'(by decide)).toNat : Int)) with
          | true =>
            have HK1 := Lib.hid (show kndN ch (5 + 1) = 5 from if_pos (UInt8.toNat_inj.1 (by have := eq_of_beq hd; change (ch.toNat : Int) = 108 at this; show ch.toNat = 108; omega)))
            go_wp2_with fail
            go_quiet (fail)
            have HT2 := Lib.hid (HT.out.drewN nq)
            clear c1 y0 f0
            generalize wr.drewN nq = W5 at HT2 ⊢
            have y0 := HT2.out.box.at' (j := 0) rfl
            have f0 := HT2.out.box.free (j := 0) (by decide)
            go_wp2_with fail
            go_roundw
            case rel =>
              have h := HT2.out.put 0 (.int .i64 5) (⟨⟨kndN ch (5 + 1), nilB', nilB', 0, 0, 0, nilB', [], []⟩, .slice none 0 0, .slice none 0 0⟩ : ActM) (by rw [HK1.out]; rfl) HT2.out.bv HT2.out.rv
              exact ⟨5 + 1, by omega, rfl, h⟩
            case measure => simp [intOf]
          | false =>
            have HK1 := Lib.hid (show kndN ch (5 + 1) = kndN ch 5 from if_neg (fun e => by subst e; exact absurd hd (by decide)))
            go_wp2_with fail
            go_quiet (fail)
            have HT2 := Lib.hid (HT.out.drewN nq)
            clear c1 y0 f0
            generalize wr.drewN nq = W5 at HT2 ⊢
            go_wp2_with fail
            go_roundw
            case rel => exact ⟨5 + 1, by omega, rfl, by rw [HK1.out]; exact HT2.out⟩
            case measure => simp [intOf]
        · cases hd : ((ch.toNat : Int) == (((⟨#[102, 109, 112, 103, 100, 108, 98, 120]⟩ : ByteArray)[6]'(by decide)).toNat : Int)) with
          | true =>
            have HK1 := Lib.hid (show kndN ch (6 + 1) = 6 from if_pos (UInt8.toNat_inj.1 (by have := eq_of_beq hd; change (ch.toNat : Int) = 98 at this; show ch.toNat = 98; omega)))
            go_wp2_with fail
            go_quiet (fail)
            have HT2 := Lib.hid (HT.out.drewN nq)
            clear c1 y0 f0
            generalize wr.drewN nq = W5 at HT2 ⊢
            have y0 := HT2.out.box.at' (j := 0) rfl
            have f0 := HT2.out.box.free (j := 0) (by decide)
            go_wp2_with fail
            go_roundw
            case rel =>
              have h := HT2.out.put 0 (.int .i64 6) (⟨⟨kndN ch (6 + 1), nilB', nilB', 0, 0, 0, nilB', [], []⟩, .slice none 0 0, .slice none 0 0⟩ : ActM) (by rw [HK1.out]; rfl) HT2.out.bv HT2.out.rv
              exact ⟨6 + 1, by omega, rfl, h⟩
            case measure => simp [intOf]
          | false =>
            have HK1 := Lib.hid (show kndN ch (6 + 1) = kndN ch 6 from if_neg (fun e => by subst e; exact absurd hd (by decide)))
            go_wp2_with fail
            go_quiet (fail)
            have HT2 := Lib.hid (HT.out.drewN nq)
            clear c1 y0 f0
            generalize wr.drewN nq = W5 at HT2 ⊢
            go_wp2_with fail
            go_roundw
            case rel => exact ⟨6 + 1, by omega, rfl, by rw [HK1.out]; exact HT2.out⟩
            case measure => simp [intOf]
        · cases hd : ((ch.toNat : Int) == (((⟨#[102, 109, 112, 103, 100, 108, 98, 120]⟩ : ByteArray)[7]'(by decide)).toNat : Int)) with
          | true =>
            have HK1 := Lib.hid (show kndN ch (7 + 1) = 7 from if_pos (UInt8.toNat_inj.1 (by have := eq_of_beq hd; change (ch.toNat : Int) = 120 at this; show ch.toNat = 120; omega)))
            go_wp2_with fail
            go_quiet (fail)
            have HT2 := Lib.hid (HT.out.drewN nq)
            clear c1 y0 f0
            generalize wr.drewN nq = W5 at HT2 ⊢
            have y0 := HT2.out.box.at' (j := 0) rfl
            have f0 := HT2.out.box.free (j := 0) (by decide)
            go_wp2_with fail
            go_roundw
            case rel =>
              have h := HT2.out.put 0 (.int .i64 7) (⟨⟨kndN ch (7 + 1), nilB', nilB', 0, 0, 0, nilB', [], []⟩, .slice none 0 0, .slice none 0 0⟩ : ActM) (by rw [HK1.out]; rfl) HT2.out.bv HT2.out.rv
              exact ⟨7 + 1, by omega, rfl, h⟩
            case measure => simp [intOf]
          | false =>
            have HK1 := Lib.hid (show kndN ch (7 + 1) = kndN ch 7 from if_neg (fun e => by subst e; exact absurd hd (by decide)))
            go_wp2_with fail
            go_quiet (fail)
            have HT2 := Lib.hid (HT.out.drewN nq)
            clear c1 y0 f0
            generalize wr.drewN nq = W5 at HT2 ⊢
            go_wp2_with fail
            go_roundw
            case rel => exact ⟨7 + 1, by omega, rfl, by rw [HK1.out]; exact HT2.out⟩
            case measure => simp [intOf]
        · rw [HKD.out] at HT
          have f1 := HT.out.par.tk.free (j := 1) (by decide)
          have K0 := Lib.hid (show TkB (wr.setCell ⟨w.heap.size, 1, none⟩ (.int .i64 ((i : Int) + 1))) w.heap.size w.heap.size s (i + 1) false from (HT.out.par.tk.stored 1 (.int .i64 ((i : Int) + 1))).1)
          have S0 := Lib.hid (HT.out.step (j' := i + 1) (l' := false) K0.out (HT.out.par.tk.stored 1 (.int .i64 ((i : Int) + 1))).2)
          clear y0 f0
          go_wp2_with fail
          clear c1 f1
          with_reducible refine (N1.out _ S0.out.par.tk).mono ?_
          rintro e w1 ⟨rfl, hb, hg⟩
          have P1 := Lib.hid (S0.out.step hb hg)
          clear hb hg
          have y := P1.out.box.at' (j := 3) rfl
          have f := P1.out.box.free (j := 3) (by decide)
          have S1 := Lib.hid (P1.out.put 3 (.int .i64 (x1 : Int)) (⟨⟨kd, nilB', nilB', (x1 : Int), 0, 0, nilB', [], []⟩, .slice none 0 0, .slice none 0 0⟩ : ActM) rfl P1.out.bv P1.out.rv)
          go_wp2_with fail
          clear y f
          with_reducible refine (N2.out _ S1.out.par.tk).mono ?_
          rintro e w2 ⟨rfl, hb, hg⟩
          have P2 := Lib.hid (S1.out.step hb hg)
          clear hb hg
          have y := P2.out.box.at' (j := 4) rfl
          have f := P2.out.box.free (j := 4) (by decide)
          have S2 := Lib.hid (P2.out.put 4 (.int .i64 (x2 : Int)) (⟨⟨kd, nilB', nilB', (x1 : Int), (x2 : Int), 0, nilB', [], []⟩, .slice none 0 0, .slice none 0 0⟩ : ActM) rfl P2.out.bv P2.out.rv)
          go_wp2_with fail
          clear y f
          with_reducible refine (N3.out _ S2.out.par.tk).mono ?_
          rintro e w3 ⟨rfl, hb, hg⟩
          have P3 := Lib.hid (S2.out.step hb hg)
          clear hb hg
          have y := P3.out.box.at' (j := 5) rfl
          have f := P3.out.box.free (j := 5) (by decide)
          have S3 := Lib.hid (P3.out.put 5 (.int .i64 (x3 : Int)) (⟨⟨kd, nilB', nilB', (x1 : Int), (x2 : Int), (x3 : Int), nilB', [], []⟩, .slice none 0 0, .slice none 0 0⟩ : ActM) rfl P3.out.bv P3.out.rv)
          go_wp2_with fail
          clear y f
          with_reducible refine (N4.out _ S3.out.par.tk).mono ?_
          rintro e w4 ⟨b4, rfl, hR⟩
          have P4 := Lib.hid (S3.out.step hR.box hR.gr)
          have R4 := Lib.hid (hR.own.lower S3.out.par.bl.size)
          obtain ⟨A1, c1, rfl⟩ := hR.own.slice
          clear hR
          have y := P4.out.box.at' (j := 7) rfl
          have f := P4.out.box.free (j := 7) (by decide)
          have S4 := Lib.hid (P4.out.put 7 (.slice A1 bs.length c1) (⟨⟨kd, nilB', nilB', (x1 : Int), (x2 : Int), (x3 : Int), nilB', bs, []⟩, .slice A1 bs.length c1, .slice none 0 0⟩ : ActM) rfl R4.out P4.out.rv)
          go_wp2_with fail
          clear y f
          with_reducible refine (N5.out _ S4.out.par.tk).mono ?_
          rintro e w5 ⟨b5, rfl, hR⟩
          have P5 := Lib.hid (S4.out.step hR.box hR.gr)
          have R5 := Lib.hid (hR.own.lower S4.out.par.bl.size)
          obtain ⟨A2, c2, rfl⟩ := hR.own.slice
          clear hR
          have y := P5.out.box.at' (j := 8) rfl
          have f := P5.out.box.free (j := 8) (by decide)
          have S5 := Lib.hid (P5.out.put 8 (.slice A2 rs.length c2) (⟨⟨kd, nilB', nilB', (x1 : Int), (x2 : Int), (x3 : Int), nilB', bs, rs⟩, .slice A1 bs.length c1, .slice A2 rs.length c2⟩ : ActM) rfl P5.out.bv R5.out)
          go_wp2_with fail
          clear y f
          with_reducible refine (N6.out _ S5.out.par.tk).mono ?_
          rintro e w6 ⟨rfl, hb, hg⟩
          have P6 := Lib.hid (S5.out.step hb hg)
          clear hb hg
          have y := P6.out.box.at' (j := 1) rfl
          have f := P6.out.box.free (j := 1) (by decide)
          have S6 := Lib.hid (P6.out.put 1 (.string t6) (⟨⟨kd, t6, nilB', (x1 : Int), (x2 : Int), (x3 : Int), nilB', bs, rs⟩, .slice A1 bs.length c1, .slice A2 rs.length c2⟩ : ActM) rfl P6.out.bv P6.out.rv)
          go_wp2_with fail
          clear y f
          with_reducible refine (N7.out _ S6.out.par.tk).mono ?_
          rintro e w7 ⟨rfl, hb, hg⟩
          have P7 := Lib.hid (S6.out.step hb hg)
          clear hb hg
          have y := P7.out.box.at' (j := 2) rfl
          have f := P7.out.box.free (j := 2) (by decide)
          have S7 := Lib.hid (P7.out.put 2 (.string t7) (⟨⟨kd, t6, t7, (x1 : Int), (x2 : Int), (x3 : Int), nilB', bs, rs⟩, .slice A1 bs.length c1, .slice A2 rs.length c2⟩ : ActM) rfl P7.out.bv P7.out.rv)
          go_wp2_with fail
          clear y f
          with_reducible refine (N8.out _ S7.out.par.tk).mono ?_
          rintro e w8 ⟨rfl, hb, hg⟩
          have P8 := Lib.hid (S7.out.step hb hg)
          clear hb hg
          have y := P8.out.box.at' (j := 6) rfl
          have f := P8.out.box.free (j := 6) (by decide)
          have S8 := Lib.hid (P8.out.put 6 (.string t8) (⟨⟨kd, t6, t7, (x1 : Int), (x2 : Int), (x3 : Int), t8, bs, rs⟩, .slice A1 bs.length c1, .slice A2 rs.length c2⟩ : ActM) rfl P8.out.bv P8.out.rv)
          obtain ⟨g0, g1, g2, g3, g4, g5, g6, g7, g8⟩ := Box9.at9 S8.out.box
          simp only at g0 g1 g2 g3 g4 g5 g6 g7 g8
          clear y f
          have y := P8.out.box.at' (j := 6) rfl
          have f := P8.out.box.free (j := 6) (by decide)
          have MM := Lib.hid (S8.out.alloc (Obj.cells (cellsA (⟨⟨kd, t6, t7, (x1 : Int), (x2 : Int), (x3 : Int), t8, bs, rs⟩, .slice A1 bs.length c1, .slice A2 rs.length c2⟩ : ActM)).toArray 38))
          have OW := Lib.hid (show Own ((w8.setCell ⟨ga, 6, none⟩ (.string t8)).alloc (Obj.cells (cellsA (⟨⟨kd, t6, t7, (x1 : Int), (x2 : Int), (x3 : Int), t8, bs, rs⟩, .slice A1 bs.length c1, .slice A2 rs.length c2⟩ : ActM)).toArray 38)) w.heap.size 38 9 (.slice A n c) n (flatA ms) from by have h := MM.out.par.own.1; rw [HN.out] at h; exact h)
          have GS := Lib.hid (show w.heap.size ≤ ((w8.setCell ⟨ga, 6, none⟩ (.string t8)).alloc (Obj.cells (cellsA (⟨⟨kd, t6, t7, (x1 : Int), (x2 : Int), (x3 : Int), t8, bs, rs⟩, .slice A1 bs.length c1, .slice A2 rs.length c2⟩ : ActM)).toArray 38)).heap.size from MM.out.par.bl.size)
          have W8 := Lib.hid (show (w8.setCell ⟨ga, 6, none⟩ (.string t8)).heap.size = w8.heap.size from by simp)
          go_wp2_with (at_builtin; refine appO w.heap.size rfl (.tmp 79) (.tmp 81) 22 38 (.agg #[.int .i64 0, .string ⟨#[]⟩, .string ⟨#[]⟩, .int .i64 0, .int .i64 0, .int .i64 0, .string ⟨#[]⟩, .slice none 0 0, .slice none 0 0]) 9 128 rfl Tryd.underlying22 infoAct rfl (by decide) (by decide) (.slice A n c) n (flatA ms) rfl (some ⟨w8.heap.size, 0, none⟩) 1 1 (cellsA (⟨⟨kd, t6, t7, (x1 : Int), (x2 : Int), (x3 : Int), t8, bs, rs⟩, .slice A1 bs.length c1, .slice A2 rs.length c2⟩ : ActM)) rfl rfl (cellsA_one rfl rfl) (fun h => by cases h) (box_new _ _ _ _ W8.out) OW.out GS.out hbytes ?_; intro v9 w9 ho hgw ha; have I9 := Lib.hid (MM.out.app (by rw [HN.out]; exact ho) hgw); obtain ⟨A9, c9, rfl⟩ := ho.slice; clear ho hgw ha)
          go_roundw
          case rel => exact ⟨ms ++ [(⟨⟨kd, t6, t7, (x1 : Int), (x2 : Int), (x3 : Int), t8, bs, rs⟩, .slice A1 bs.length c1, .slice A2 rs.length c2⟩ : ActM)], j8, l8, I9.out, by rw [List.length_append, HN.out]; exact HN6.out, fun m hm => by
            rcases List.mem_append.1 hm with hm | hm
            · exact HSZ.out m hm
            · obtain rfl := List.mem_singleton.1 hm
              exact HSA.out, by
            rw [List.length_append, HN.out, List.map_append, List.map_singleton]
            exact GO.out⟩
          case measure => exact HM.out

    · have hex : s.size ≤ i ∨ l = true ∨ n = 257 := by
        by_cases h1 : i < s.size
        · cases l with
          | true => exact .inr (.inl rfl)
          | false => exact .inr (.inr (by
              by_cases h2 : n ≤ 256
              · exact absurd ⟨h1, rfl, h2⟩ hc
              · omega))
        · exact .inl (by omega)
      have hE : parT (takeR s) s 257 0 = ms.map (·.a) := by
        rw [HR.out, ← hRR, hn, parT_end hex, List.append_nil]
      obtain ⟨acts, hacts⟩ : ∃ acts, ms.map (·.a) = acts := ⟨_, rfl⟩
      have HA := Lib.hid hacts
      have SH := Lib.hid (rshow_any (.slice A ms.length c) ms wr (OwnA.rd HI.out.own) HSZ.out)
      rw [hacts] at SH hE
      have HE := Lib.hid hE
      rw [hn] at SH
      rw [hn]
      have hcase : (decide ((i : Int) < (s.size : Int)) = false ∧ decide (i < s.size) = false) ∨ ((decide ((i : Int) < (s.size : Int)) = true ∧ decide (i < s.size) = true) ∧ (l = true ∨ (l = false ∧ decide ((n : Int) ≤ 256) = false ∧ decide (n ≤ 256) = false))) := by
        by_cases h1 : i < s.size
        · refine .inr ⟨⟨decide_eq_true (by omega), decide_eq_true h1⟩, ?_⟩
          cases l with
          | true => exact .inl rfl
          | false =>
            rcases hex with h | h | h
            · omega
            · cases h
            · exact .inr ⟨rfl, decide_eq_false (by omega), decide_eq_false (by omega)⟩
        · exact .inl ⟨decide_eq_false (by omega), decide_eq_false h1⟩
      clear hE hRR hle hn hc hacts hex
      rcases hcase with ⟨d1, d2⟩ | ⟨⟨d1, d2⟩, rfl | ⟨rfl, d3, d4⟩⟩
      all_goals
        by_cases ho : showOk acts
        · have h1 := show_yes ho
          obtain ⟨t, ht⟩ : ∃ t, showT acts = t := ⟨_, rfl⟩
          rw [h1.2, ht] at SH
          by_cases hts : t = s
          · have TT := Lib.hid (told_of h1.2 (ht.trans hts)).eq
            clear ho h1 ht
            subst hts
            go_wp2_with (go_at_call 9; refine SH.out.mono ?_; rintro e w2 ⟨rfl, hb2⟩; have HB2 := Lib.hid hb2; clear hb2)
            go_ret2
            exact ⟨.slice A n c, ms, by rw [TT.out.2]; rfl, by have h := HI.out.own.below' HB2.out; rw [HN.out] at h; exact h, by rw [HA.out]; exact TT.out.1.symm, Bl.then HI.out.bl HB2.out⟩
          · have PN := Lib.hid (parset_no (fun hT => hts (by rw [HE.out] at hT; rw [← ht]; exact hT.show.2)))
            have hne : (t.toList == s.toList) = false := by rw [eqS]; exact decide_eq_false hts
            clear ho h1 ht hts
            go_wp2_with (go_at_call 9; refine SH.out.mono ?_; rintro e w2 ⟨rfl, hb2⟩; have HB2 := Lib.hid hb2; clear hb2)
            go_ret2
            exact ⟨_, [], by rw [PN.out.2]; rfl, OwnA.nil _ _, PN.out.1.symm, Bl.then HI.out.bl HB2.out⟩
        · have h1 := show_no ho
          obtain ⟨t, ht⟩ : ∃ t, showT acts = t := ⟨_, rfl⟩
          rw [h1.2, ht] at SH
          have PN := Lib.hid (parset_no (fun hT => ho (by rw [HE.out] at hT; exact hT.1)))
          clear ho h1 ht
          go_wp2_with (go_at_call 9; refine SH.out.mono ?_; rintro e w2 ⟨rfl, hb2⟩; have HB2 := Lib.hid hb2; clear hb2)
          go_ret2
          exact ⟨_, [], by rw [PN.out.2]; rfl, OwnA.nil _ _, PN.out.1.symm, Bl.then HI.out.bl HB2.out⟩

end Go.Proofs.YtfdbolnifjpbhaaDoor
