/- The statement IndexSame: the walk. -/
import Derived.Test.YtdgnpoapkjoknaaIdxN
import Derived.Test.YtdgnpoapkjoknaaIdxO
namespace Go.Proofs.Ytdgnpoapkjoknaa
set_option linter.unusedVariables false
set_option linter.unusedSimpArgs false
open Go.RowKit
theorem withL_len1 (ps : List PairV) (r : RecV) (n : Nat) (h : ps.length ≤ n) : (withL ps r).length ≤ n + 1 := Nat.le_trans (withL_len ps r) (Nat.succ_le_succ h)

set_option maxRecDepth 100000 in
set_option maxHeartbeats 4000000 in
theorem IndexSame_walk (w : World) (v : Value) (ps : List PairV) (hp : RdP w v ps) (hb : ps.length * 32 ≤ 140737488351232) (_ : ∀ p ∈ ps, p.key.size ≤ 9223372036854775807 ∧ p.val.size ≤ 9223372036854775807) (key : ByteArray) (hk : key.size ≤ 140737488351232) (val : ByteArray) (hv : val.size ≤ 140737488351232) :
    Calls Try.prog 6 #[v, .string key, .string val] w fun e w' => e = .returned (.bool true) ∧ Below w.heap.size w w' := by
  obtain ⟨n, hn⟩ : ∃ n, ps.length = n := ⟨_, rfl⟩
  have hz0 : nilB.size ≤ 9223372036854775807 := by decide
  have hnb : n ≤ 4398046511104 := by omega
  have W1 := fun (w : World) (v : Value) (qs : List PairV) (h : RdP w v qs) (hq : qs.length ≤ n + 1) => with_any w v qs ⟨1, 0, key, val⟩ h (by omega) (by show key.size ≤ _; omega) (by show val.size ≤ _; omega)
  have W2 := fun (w : World) (v : Value) (qs : List PairV) (h : RdP w v qs) (hq : qs.length ≤ n + 1) => with_any w v qs ⟨2, 0, key, nilB⟩ h (by omega) (by show key.size ≤ _; omega) hz0
  have F1 := fun (w : World) (v : Value) (qs : List PairV) (h : RdP w v qs) (hq : qs.length ≤ n + 2) => find_any w v qs key h (by omega)
  change ∀ (w : World) (v : Value) (qs : List PairV), RdP w v qs → qs.length ≤ n + 1 → Calls Try.prog 17 #[v, .agg #[.int .i64 1, .int .i64 0, .string key, .string val]] w _ at W1
  change ∀ (w : World) (v : Value) (qs : List PairV), RdP w v qs → qs.length ≤ n + 1 → Calls Try.prog 17 #[v, .agg #[.int .i64 2, .int .i64 0, .string key, .string nilB]] w _ at W2
  obtain ⟨A0, c0, rfl⟩ := hp.form
  rw [hn]
  have HP := Lib.hid (show RdP w (.slice A0 n c0) ps by rw [← hn]; exact hp)
  have HW1 := Lib.hid W1
  have HW2 := Lib.hid W2
  have HF := Lib.hid F1
  have HN := Lib.hid hn
  clear W1 W2 F1 hp hb hk hv hn hz0
  go_enter Try.func6, Try.ntmps6
  go_wp2_with fail
  refine (awake21 _).mono ?_
  rintro e w1 ⟨rfl, hb⟩
  have B1 := Lib.hid hb
  have HP1 := Lib.hid (HP.out.below hb)
  clear hb HP
  have X1 := Lib.hid (Bx.new w1 (.int .i64 1) (.int .i64 0) (.string key) (.string val) 25)
  have Y1 := Lib.hid (Bx.new (w1.alloc (Obj.cells #[.int .i64 1, .int .i64 0, .string key, .string val] 25)) (.int .i64 2) (.int .i64 0) (.string key) (.string ⟨#[]⟩) 25)
  have XX := Lib.hid (Bx.below X1.out (Bl.alloc (Below.refl _ _) (Obj.cells #[.int .i64 2, .int .i64 0, .string key, .string ⟨#[]⟩] 25)))
  have BX := Lib.hid (Bl.alloc (Bl.alloc B1.out (Obj.cells #[.int .i64 1, .int .i64 0, .string key, .string val] 25)) (Obj.cells #[.int .i64 2, .int .i64 0, .string key, .string ⟨#[]⟩] 25))
  have PX := Lib.hid (HP1.out.below (Bl.alloc (Bl.alloc (Below.refl _ _) (Obj.cells #[.int .i64 1, .int .i64 0, .string key, .string val] 25)) (Obj.cells #[.int .i64 2, .int .i64 0, .string key, .string ⟨#[]⟩] 25)))
  obtain ⟨⟨x0, x1, x2, x3⟩, -⟩ := XX.out
  go_wp2_with fail
  generalize (w1.alloc (Obj.cells #[.int .i64 1, .int .i64 0, .string key, .string val] 25)).alloc (Obj.cells #[.int .i64 2, .int .i64 0, .string key, .string ⟨#[]⟩] 25) = w2 at *
  have Y1 := Lib.hid (show Bx w2 (w1.heap.size + 1) (.int .i64 2) (.int .i64 0) (.string key) (.string ⟨#[]⟩) by have h := Y1.out; simpa using h)
  generalize w1.heap.size = g1 at *
  clear x0 x1 x2 x3 X1 HP1 B1
  refine (HW1.out _ _ ps PX.out (by rw [HN.out]; omega)).mono ?_
  rintro e w3 ⟨va, rfl, oa, hb⟩
  have B3 := Lib.hid (Bl.then BX.out hb)
  have P3 := Lib.hid (PX.out.below hb)
  have X3 := Lib.hid (Bx.below XX.out hb)
  have Y3 := Lib.hid (Bx.below Y1.out hb)
  clear hb BX PX XX Y1
  by_cases hok : withOk ps ⟨1, 0, key, val⟩
  · have SF := same_facts hok
    obtain ⟨qa, hqa⟩ : ∃ z, putL ps ⟨1, 0, key, val⟩ = z := ⟨_, rfl⟩
    obtain ⟨qc, hqc⟩ : ∃ z, putL ps ⟨2, 0, key, nilB⟩ = z := ⟨_, rfl⟩
    rw [hqa, hqc] at SF
    obtain ⟨s1, s2, s3, s4, s5, s6, s7, s8, s9, s10⟩ := SF
    have ea : withE ps ⟨1, 0, key, val⟩ = 0 := if_pos hok
    have wa : withL ps ⟨1, 0, key, val⟩ = qa := (if_pos hok).trans hqa
    rw [ea]
    rw [wa] at oa
    have eb : withE qa ⟨1, 0, key, val⟩ = 0 := if_pos s1
    have wb : withL qa ⟨1, 0, key, val⟩ = qa := (if_pos s1).trans s2
    have ec : withE qa ⟨2, 0, key, nilB⟩ = 0 := if_pos s3
    have wc : withL qa ⟨2, 0, key, nilB⟩ = qc := (if_pos s3).trans s5
    have ed : withE ps ⟨2, 0, key, nilB⟩ = 0 := if_pos s4
    have wd : withL ps ⟨2, 0, key, nilB⟩ = qc := (if_pos s4).trans hqc
    have la : qa.length ≤ n + 1 := by rw [s10, HN.out]; split <;> omega
    have lc : qc.length ≤ n + 1 := by rw [← wd]; exact withL_len1 _ _ n (by rw [HN.out]; exact Nat.le_refl _)
    have C1 := fun (w : World) (v : Value) (h : RdP w v qa) => HW1.out w v qa h la
    rw [eb, wb] at C1
    have C2 := fun (w : World) (v : Value) (h : RdP w v qa) => HW2.out w v qa h la
    rw [ec, wc] at C2
    have C3 := fun (w : World) (v : Value) (h : RdP w v ps) => HW2.out w v ps h (by rw [HN.out]; omega)
    rw [ed, wd] at C3
    have D1 := fun (w : World) (v : Value) (h : RdP w v qa) => HF.out w v qa h (by omega)
    rw [s6, s7] at D1
    have D2 := fun (w : World) (v : Value) (h : RdP w v qc) => HF.out w v qc h (by omega)
    rw [s8] at D2
    have D3 := fun (w : World) (v : Value) (h : RdP w v ps) => HF.out w v ps h (by rw [HN.out]; omega)
    obtain ⟨xv, hxv⟩ : ∃ z, findV qc key = z := ⟨_, rfl⟩
    obtain ⟨yv, hyv⟩ : ∃ z, findV ps key = z := ⟨_, rfl⟩
    obtain ⟨wb9, hwb⟩ : ∃ z, findB ps key = z := ⟨_, rfl⟩
    rw [hxv] at D2
    rw [hyv, hwb] at D3
    rw [hwb] at s9 s10
    obtain ⟨Aa, ca, rfl⟩ := Own.slice oa
    have OA := Lib.hid (OwnP.rd oa)
    obtain ⟨m, hm⟩ : ∃ m, qa.length = m := ⟨_, rfl⟩
    rw [hm] at OA s10 ⊢
    have K1 := Lib.hid C1
    have K2 := Lib.hid C2
    have K3 := Lib.hid C3
    have L1 := Lib.hid D1
    have L2 := Lib.hid D2
    have L3 := Lib.hid D3
    have S9 := Lib.hid s9
    have S10 := Lib.hid s10
    have hmn : m ≤ n + 1 := by rw [← hm]; exact la
    clear C1 C2 C3 D1 D2 D3 s1 s2 s3 s4 s5 s6 s7 s8 s9 s10 ea wa eb wb ec wc ed wd la lc hqa hqc hxv hyv hwb hm oa HW1 HW2 HF hok
    obtain ⟨⟨x0, x1, x2, x3⟩, -⟩ := X3.out
    obtain ⟨⟨y0, y1, y2, y3⟩, -⟩ := Y3.out
    go_wp2_with (go_at_call 22; refine (num_any _ _).mono ?_; rintro e w' ⟨rfl, rfl⟩)
    refine (K1.out _ _ OA.out).mono ?_
    rintro e w4 ⟨vb, rfl, ob, hb⟩
    obtain ⟨Ab, cb, rfl⟩ := Own.slice ob
    have OB := Lib.hid (OwnP.rd ob)
    have OA4 := Lib.hid (OA.out.below hb)
    have P4 := Lib.hid (P3.out.below hb)
    have Y4 := Lib.hid (Bx.below Y3.out hb)
    have B4 := Lib.hid (Bl.then B3.out hb)
    clear hb ob OA P3 Y3 B3 x0 x1 x2 x3 y0 y1 y2 y3 X3 K1
    obtain ⟨⟨y0, y1, y2, y3⟩, -⟩ := Y4.out
    go_wp2_with fail
    refine (K2.out _ _ OA4.out).mono ?_
    rintro e w5 ⟨vc, rfl, oc, hb⟩
    obtain ⟨Ac, cc, rfl⟩ := Own.slice oc
    have OC := Lib.hid (OwnP.rd oc)
    have OA5 := Lib.hid (OA4.out.below hb)
    have OB5 := Lib.hid (OB.out.below hb)
    have P5 := Lib.hid (P4.out.below hb)
    have Y5 := Lib.hid (Bx.below Y4.out hb)
    have B5 := Lib.hid (Bl.then B4.out hb)
    clear hb oc OA4 OB P4 Y4 B4 y0 y1 y2 y3 K2
    obtain ⟨⟨y0, y1, y2, y3⟩, -⟩ := Y5.out
    go_wp2_with fail
    refine (K3.out _ _ P5.out).mono ?_
    rintro e w6 ⟨vd, rfl, od, hb⟩
    obtain ⟨Ad, cd, rfl⟩ := Own.slice od
    have OD := Lib.hid (OwnP.rd od)
    have OA6 := Lib.hid (OA5.out.below hb)
    have OB6 := Lib.hid (OB5.out.below hb)
    have OC6 := Lib.hid (OC.out.below hb)
    have P6 := Lib.hid (P5.out.below hb)
    have B6 := Lib.hid (Bl.then B5.out hb)
    clear hb od OA5 OB5 OC P5 Y5 B5 y0 y1 y2 y3 K3
    go_wp2_with fail
    refine (L1.out _ _ OA6.out).mono ?_
    rintro e w7 ⟨rfl, hb⟩
    have OD7 := Lib.hid (OD.out.below hb)
    have OA7 := Lib.hid (OA6.out.below hb)
    have OB7 := Lib.hid (OB6.out.below hb)
    have OC7 := Lib.hid (OC6.out.below hb)
    have P7 := Lib.hid (P6.out.below hb)
    have B7 := Lib.hid (Bl.then B6.out hb)
    clear hb OD OA6 OB6 OC6 P6 B6 L1
    go_wp2_with fail
    refine (L2.out _ _ OC7.out).mono ?_
    rintro e w8 ⟨rfl, hb⟩
    have OD8 := Lib.hid (OD7.out.below hb)
    have OA8 := Lib.hid (OA7.out.below hb)
    have OB8 := Lib.hid (OB7.out.below hb)
    have OC8 := Lib.hid (OC7.out.below hb)
    have P8 := Lib.hid (P7.out.below hb)
    have B8 := Lib.hid (Bl.then B7.out hb)
    clear hb OD7 OA7 OB7 OC7 P7 B7 L2
    go_wp2_with fail
    refine (L3.out _ _ P8.out).mono ?_
    rintro e w9 ⟨rfl, hb⟩
    have OD9 := Lib.hid (OD8.out.below hb)
    have OA9 := Lib.hid (OA8.out.below hb)
    have OB9 := Lib.hid (OB8.out.below hb)
    have OC9 := Lib.hid (OC8.out.below hb)
    have P9 := Lib.hid (P8.out.below hb)
    have B9 := Lib.hid (Bl.then B8.out hb)
    clear hb OD8 OA8 OB8 OC8 P8 B8 L3
    go_wp2_with (go_at_call 22; refine (num_any _ _).mono ?_; rintro e w' ⟨rfl, rfl⟩)
    refine (same_pairs _ _ qa qa _ OA9.out OB9.out).mono ?_
    rw [decide_eq_true (rfl : qa = qa)]
    rintro e w10 ⟨rfl, q, rfl⟩
    go_wp2_with (go_at_call 22; refine (num_any _ _).mono ?_; rintro e w' ⟨rfl, rfl⟩)
    refine (same_pairs _ _ qc qc _ (OC9.out.below (Bl.self _ _)) (OD9.out.below (Bl.self _ _))).mono ?_
    rw [decide_eq_true (rfl : qc = qc)]
    rintro e w11 ⟨rfl, q', rfl⟩
    cases wb9 with
    | true =>
      have hm2 : m = n := by have h := S10.out; rw [if_pos rfl, HN.out] at h; exact h
      subst hm2
      go_wp2_with fail
      all_goals (go_ret; exact ⟨rfl, Bl.drewN B9.out _⟩)
    | false =>
      have hm2 : m = n + 1 := by have h := S10.out; rw [if_neg (by decide), HN.out] at h; exact h
      have hq := S9.out rfl
      subst hq
      subst hm2
      have i1 : (((n + 1 : Nat) : Int) == (n : Int) + 1) = true := by rw [beq_iff_eq]; omega
      go_wp2_with fail
      refine (same_pairs _ _ qc qc _ (OC9.out.below (Bl.self _ _)) (P9.out.below (Bl.self _ _))).mono ?_
      rw [decide_eq_true (rfl : qc = qc)]
      rintro e w12 ⟨rfl, q2, rfl⟩
      go_wp2_with fail
      all_goals (go_ret; exact ⟨rfl, Bl.drewN B9.out _⟩)
  · have ea : withE ps ⟨1, 0, key, val⟩ = 2100 := if_neg hok
    have wa : withL ps ⟨1, 0, key, val⟩ = [] := if_neg hok
    rw [ea]
    rw [wa] at oa
    obtain ⟨Aa, ca, rfl⟩ := Own.slice oa
    clear ea wa oa hok
    go_wp2_with (go_at_call 22; refine (num_any _ _).mono ?_; rintro e w' ⟨rfl, rfl⟩)
    go_ret
    exact ⟨rfl, B3.out⟩
end Go.Proofs.Ytdgnpoapkjoknaa
