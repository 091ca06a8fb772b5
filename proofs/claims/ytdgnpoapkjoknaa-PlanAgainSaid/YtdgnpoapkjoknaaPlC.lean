/- What lives of a view, and behind a record: the walk. -/
import Derived.Test.YtdgnpoapkjoknaaPlB
import Derived.BigQuiet
namespace Go.Proofs.Ytdgnpoapkjoknaa
set_option linter.unusedVariables false
set_option linter.unusedSimpArgs false
open Go.RowKit

def lvN (v : ViewV) (r : RecV) : List PairV := if lvOk v r then buildL v.recs else []
def lvT (v : ViewV) (r : RecV) : List PairV := if lvOk v r then putL (buildL v.recs) r else []
def lvE (v : ViewV) (r : RecV) : Int := if lvOk v r then 0 else 2200
theorem lv_no {v : ViewV} {r : RecV} (h : ¬ lvOk v r) : lvN v r = [] ∧ lvT v r = [] ∧ lvE v r = 2200 := ⟨if_neg h, if_neg h, if_neg h⟩

set_option maxRecDepth 100000 in
set_option maxHeartbeats 4000000 in
theorem live_any (w : World) (g : Nat) (v : ViewV) (F : Value) (r : RecV) (hB : Bx w g (.bool v.good) (.int .i64 v.ep) F (.int .i64 v.free)) (h : RdR w F v.recs) (hb : (v.recs.length + 1) * 48 ≤ 140737488355328) (hz : ∀ r ∈ v.recs, r.key.size ≤ 9223372036854775807 ∧ r.val.size ≤ 9223372036854775807)
    (z1 : r.key.size ≤ 9223372036854775807) (z2 : r.val.size ≤ 9223372036854775807) :
    Calls Try.prog 46 #[.pointer (some ⟨g, 0, none⟩), r.v] w fun e w' => ∃ a b, e = .returned (.tuple #[a, b, .int .i64 (lvE v r)]) ∧ OwnP w' w.heap.size a (lvN v r) ∧ OwnP w' w.heap.size b (lvT v r) ∧ Below w.heap.size w w' := by
  have EP := Lib.hid (fun w => epoch_any v.ep w)
  have BA := Lib.hid (fun (W : World) (h : RdR W F v.recs) => build_any W F v.recs h (by omega) hz)
  have WA := Lib.hid (fun (W : World) (u : Value) (h : RdP W u (buildL v.recs)) => with_any W u (buildL v.recs) r h (by have := buildL_len v.recs; omega) z1 z2)
  obtain ⟨wn, hwn⟩ : ∃ z, lvN v r = z := ⟨_, rfl⟩
  obtain ⟨wt, hwt⟩ : ∃ z, lvT v r = z := ⟨_, rfl⟩
  obtain ⟨we, hwe⟩ : ∃ z, lvE v r = z := ⟨_, rfl⟩
  have HNO := Lib.hid (show ¬ lvOk v r → wn = [] ∧ wt = [] ∧ we = 2200 from fun h => by rw [← hwn, ← hwt, ← hwe]; exact lv_no h)
  have HYES := Lib.hid (show lvOk v r → wn = buildL v.recs ∧ wt = putL (buildL v.recs) r ∧ we = 0 from fun h => by rw [← hwn, ← hwt, ← hwe]; exact ⟨if_pos h, if_pos h, if_pos h⟩)
  have OKI := Lib.hid (show lvOk v r ↔ v.good = true ∧ epochB v.ep = true ∧ 1 ≤ v.free ∧ v.free ≤ 8 ∧ bldOk v.recs ∧ withOk (buildL v.recs) r from Iff.rfl)
  rw [hwn, hwt, hwe]
  generalize hLV : lvOk v r = LV at *
  obtain ⟨good, ep, rs, free⟩ := v
  simp only at hB h EP BA WA OKI HYES
  obtain ⟨L, hL⟩ : ∃ L, buildL rs = L := ⟨_, rfl⟩
  rw [hL] at WA OKI HYES BA
  obtain ⟨k, e0, key, val⟩ := r
  have HX := Lib.hid hB
  have HR := Lib.hid h
  show Calls Try.prog 46 #[_, .agg #[.int .i64 k, .int .i64 e0, .string key, .string val]] w _
  change Hid (∀ (W : World) (u : Value), RdP W u L → Calls Try.prog 17 #[u, .agg #[.int .i64 k, .int .i64 e0, .string key, .string val]] W _) at WA
  have RB := Lib.hid (Bx.new w (.int .i64 k) (.int .i64 e0) (.string key) (.string val) 25)
  have B0 := Lib.hid (Bl.alloc (Below.refl w.heap.size w) (Obj.cells #[.int .i64 k, .int .i64 e0, .string key, .string val] 25))
  have VX := Lib.hid (HX.out.below (Bl.alloc (Below.refl w.heap.size w) (Obj.cells #[.int .i64 k, .int .i64 e0, .string key, .string val] 25)))
  have HR0 := Lib.hid (HR.out.below B0.out)
  clear hB h hb hz z1 z2 hwn hwt hwe hLV hL HX HR
  obtain ⟨⟨x0, x1, x2, x3⟩, -⟩ := VX.out
  go_enter Try.func46, Try.ntmps46
  cases hg : good with
  | false =>
    rw [hg] at x0
    obtain ⟨q1, q2, q3⟩ := HNO.out (fun h => by have h := OKI.out.1 h; exact absurd (hg.symm.trans h.1) (by decide))
    subst q1 q2 q3
    clear hg
    go_wp2_with fail
    go_ret3
    exact ⟨_, _, rfl, OwnP.nil _ _, OwnP.nil _ _, B0.out⟩
  | true =>
    rw [hg] at x0
    have HG := Lib.hid hg
    clear hg
    cases he : epochB ep with
    | false =>
      have HE := Lib.hid he
      obtain ⟨q1, q2, q3⟩ := HNO.out (fun h => by have h := OKI.out.1 h; exact absurd (he.symm.trans h.2.1) (by decide))
      subst q1 q2 q3
      clear he
      go_wp2_with (go_at_call 59; refine (EP.out _).mono ?_; rw [HE.out]; rintro e w' ⟨rfl, rfl⟩)
      go_ret3
      exact ⟨_, _, rfl, OwnP.nil _ _, OwnP.nil _ _, B0.out⟩
    | true =>
      have HE := Lib.hid he
      clear he
      by_cases f1 : free < 1
      · have hd1 : decide (free < 1) = true := decide_eq_true f1
        obtain ⟨q1, q2, q3⟩ := HNO.out (fun h => by have h := OKI.out.1 h; exact absurd h.2.2.1 (by omega))
        subst q1 q2 q3
        clear f1
        go_wp2_with (go_at_call 59; refine (EP.out _).mono ?_; rw [HE.out]; rintro e w' ⟨rfl, rfl⟩)
        go_ret3
        exact ⟨_, _, rfl, OwnP.nil _ _, OwnP.nil _ _, B0.out⟩
      · have hd1 : decide (free < 1) = false := decide_eq_false f1
        have F1 := Lib.hid f1
        clear f1
        by_cases f2 : (8 : Int) < free
        · have hd2 : decide ((8 : Int) < free) = true := decide_eq_true f2
          obtain ⟨q1, q2, q3⟩ := HNO.out (fun h => by have h := OKI.out.1 h; exact absurd h.2.2.2.1 (by omega))
          subst q1 q2 q3
          clear f2
          go_wp2_with (go_at_call 59; refine (EP.out _).mono ?_; rw [HE.out]; rintro e w' ⟨rfl, rfl⟩)
          go_ret3
          exact ⟨_, _, rfl, OwnP.nil _ _, OwnP.nil _ _, B0.out⟩
        · have hd2 : decide ((8 : Int) < free) = false := decide_eq_false f2
          have F2 := Lib.hid f2
          clear f2
          go_wp2_with (go_at_call 59; refine (EP.out _).mono ?_; rw [HE.out]; rintro e w' ⟨rfl, rfl⟩)
          with_reducible refine (BA.out _ HR0.out).mono ?_
          rintro e w1 ⟨va, rfl, oa, hb⟩
          obtain ⟨Aa, ca, rfl⟩ := Own.slice oa
          have OA := Lib.hid oa
          have B1 := Lib.hid (Bl.then B0.out hb)
          have RB1 := Lib.hid (RB.out.below hb)
          have HB := Lib.hid hb
          clear oa hb x0 x1 x2 x3 hd1 hd2
          by_cases hk : bldOk rs
          · have he : buildE rs = 0 := if_pos hk
            rw [he]
            have HK := Lib.hid hk
            clear hk he
            obtain ⟨⟨y0, y1, y2, y3⟩, -⟩ := RB1.out
            go_wp2_with fail
            with_reducible refine (WA.out _ _ (OwnP.rd OA.out)).mono ?_
            rintro e w2 ⟨vb, rfl, ob, hb⟩
            obtain ⟨Ab, cb, rfl⟩ := Own.slice ob
            have B2 := Lib.hid (Bl.then B1.out hb)
            have OA2 := Lib.hid (OA.out.below hb)
            have OB2 := Lib.hid ob
            clear hb y0 y1 y2 y3 ob
            by_cases ho : withOk L ⟨k, e0, key, val⟩
            · obtain ⟨q1, q2, q3⟩ := HYES.out (OKI.out.2 ⟨HG.out, HE.out, by have := F1.out; omega, by have := F2.out; omega, HK.out, ho⟩)
              subst q1 q2 q3
              have e1 : withE wn ⟨k, e0, key, val⟩ = 0 := if_pos ho
              have e2 : withL wn ⟨k, e0, key, val⟩ = putL wn ⟨k, e0, key, val⟩ := if_pos ho
              rw [e1]
              rw [e2] at OB2 ⊢
              clear e1 e2 ho
              go_wp2_with fail
              go_ret3
              exact ⟨_, _, rfl, OwnP.lower OA2.out (Bl.alloc (Below.refl w.heap.size w) _).size, OwnP.lower OB2.out B1.out.size, B2.out⟩
            · have e1 : withE L ⟨k, e0, key, val⟩ = 2100 := if_neg ho
              obtain ⟨q1, q2, q3⟩ := HNO.out (fun h => by have h := OKI.out.1 h; exact absurd h.2.2.2.2.2 ho)
              subst q1 q2 q3
              rw [e1]
              clear e1 ho
              go_wp2_with fail
              go_ret3
              exact ⟨_, _, rfl, OwnP.nil _ _, OwnP.nil _ _, B2.out⟩
          · have he : buildE rs = 2100 := if_neg hk
            obtain ⟨q1, q2, q3⟩ := HNO.out (fun h => by have h := OKI.out.1 h; exact absurd h.2.2.2.2.1 hk)
            subst q1 q2 q3
            rw [he]
            clear hk he
            go_wp2_with fail
            go_ret3
            exact ⟨_, _, rfl, OwnP.nil _ _, OwnP.nil _ _, B1.out⟩
end Go.Proofs.Ytdgnpoapkjoknaa
