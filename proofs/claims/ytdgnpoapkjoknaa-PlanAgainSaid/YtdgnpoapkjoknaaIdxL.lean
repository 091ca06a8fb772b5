/- Build, the program's and the document's: the law, the walks. -/
import Derived.Test.YtdgnpoapkjoknaaIdxK
import Derived.Test.YtdgnpoapkjoknaaIdxH
import Derived.Test.YtdgnpoapkjoknaaIdxJ
namespace Go.Proofs.Ytdgnpoapkjoknaa
set_option linter.unusedVariables false
set_option linter.unusedSimpArgs false
open Go.RowKit

theorem putL_len (ps : List PairV) (r : RecV) : (putL ps r).length ≤ ps.length + 1 := by
  have h := posK_le ps r.key
  unfold putL
  split
  · rw [List.length_append, List.length_cons, List.length_take, List.length_drop]
    split <;> omega
  · split
    · rw [List.length_eraseIdx]
      split <;> omega
    · omega
theorem withL_len (ps : List PairV) (r : RecV) : (withL ps r).length ≤ ps.length + 1 := by
  unfold withL
  split
  · exact putL_len ps r
  · simp
/-- What lives behind so many records. -/
def bldN (rs : List RecV) : Nat → List PairV
  | 0 => []
  | a + 1 => withL (bldN rs a) (rs.getD a zeroR)
def bldOk (rs : List RecV) : Prop := ∀ a, a < rs.length → withOk (bldN rs a) (rs.getD a zeroR)
instance (rs : List RecV) : Decidable (bldOk rs) := by unfold bldOk; infer_instance
def buildL (rs : List RecV) : List PairV := if bldOk rs then bldN rs rs.length else []
def buildE (rs : List RecV) : Int := if bldOk rs then 0 else 2100
theorem bldN_len (rs : List RecV) : ∀ a, (bldN rs a).length ≤ a
  | 0 => Nat.le_refl _
  | a + 1 => by
    have h1 := bldN_len rs a
    have h2 := withL_len (bldN rs a) (rs.getD a zeroR)
    rw [bldN]
    omega
theorem sizes_at {rs : List RecV} (hz : ∀ r ∈ rs, r.key.size ≤ 9223372036854775807 ∧ r.val.size ≤ 9223372036854775807) {a : Nat} (h : a < rs.length) : (rs.getD a zeroR).key.size ≤ 9223372036854775807 ∧ (rs.getD a zeroR).val.size ≤ 9223372036854775807 := by
  rw [List.getD_eq_getElem?_getD, List.getElem?_eq_getElem h]
  exact hz _ (List.getElem_mem h)

set_option maxRecDepth 100000 in
set_option maxHeartbeats 4000000 in
theorem build_any (w : World) (v : Value) (rs : List RecV) (h : RdR w v rs) (hb : (rs.length + 1) * 32 ≤ 140737488355328) (hz : ∀ r ∈ rs, r.key.size ≤ 9223372036854775807 ∧ r.val.size ≤ 9223372036854775807) :
    Calls Try.prog 15 #[v] w fun e w' => ∃ v', e = .returned (.tuple #[v', .int .i64 (buildE rs)]) ∧ OwnP w' w.heap.size v' (buildL rs) ∧ Below w.heap.size w w' := by
  obtain ⟨n, hn⟩ : ∃ n, rs.length = n := ⟨_, rfl⟩
  have hmax : (n + 1) * 32 ≤ 140737488355328 := by omega
  obtain ⟨A, c, rfl⟩ := h.form
  have HP := Lib.hid (show RdR w (.slice A n c) rs by rw [← hn]; exact h)
  obtain ⟨we, hwe⟩ : ∃ z, buildE rs = z := ⟨_, rfl⟩
  obtain ⟨wl, hwl⟩ : ∃ z, buildL rs = z := ⟨_, rfl⟩
  rw [hn, hwe, hwl]
  have HN := Lib.hid hn
  have HWE := Lib.hid hwe
  have HWL := Lib.hid hwl
  have HZ := Lib.hid hz
  clear h hb hn hwe hwl hz
  go_enter Try.func15, Try.ntmps15
  go_wp2_with fail
  go_loopw [4, 11] (fun v4 i wr => ∃ a : Nat, a ≤ n ∧ i = .int .i64 (a : Int) ∧ (∀ j, j < a → withOk (bldN rs j) (rs.getD j zeroR)) ∧ OwnP wr w.heap.size v4 (bldN rs a) ∧ Below w.heap.size w wr) (fun _ i _ => (n - intOf i).toNat)
  case atStart => exact ⟨0, by omega, rfl, fun j hj => absurd hj (by omega), OwnP.nil _ _, Below.refl _ _⟩
  case round =>
    obtain ⟨a, han, rfl, hok, o4, hbl⟩ := hrel
    obtain ⟨D, dc, rfl⟩ := Own.slice o4
    have O4 := Lib.hid o4
    have HQ := Lib.hid hbl
    have HO := Lib.hid hok
    clear o4 hbl hok
    by_cases hlt : a < n
    · have hlt2 : (a : Int) < (n : Int) := by omega
      obtain ⟨B, o, c', hv, _, _, hcc⟩ := (HP.out.below HQ.out).pos (by rw [HN.out]; omega)
      rw [HN.out] at hv hcc
      obtain ⟨h1, _, h2⟩ := Value.slice.inj hv
      subst h1 h2
      obtain ⟨g0, g1, g2, g3⟩ := hcc a hlt
      have hs := sizes_at HZ.out (show a < rs.length by rw [HN.out]; exact hlt)
      obtain ⟨r, hr⟩ : ∃ z, rs.getD a zeroR = z := ⟨_, rfl⟩
      rw [hr] at g0 g1 g2 g3 hs
      have hl32 : ((bldN rs a).length + 1) * 32 ≤ 140737488355328 := Nat.le_trans (Nat.mul_le_mul_right 32 (Nat.succ_le_succ (Nat.le_trans (bldN_len rs a) han))) hmax
      have WA := Lib.hid (fun (W : World) (h : RdP W (.slice D (bldN rs a).length dc) (bldN rs a)) => with_any W _ (bldN rs a) r h hl32 hs.1 hs.2)
      have HR := Lib.hid hr
      obtain ⟨k, e0, key, val⟩ := r
      simp only at g0 g1 g2 g3
      change Hid (∀ (W : World), _ → Calls Try.prog _ #[_, .agg #[.int .i64 k, .int .i64 e0, .string key, .string val]] W _) at WA
      clear hcc hv hr hs hl32
      go_wp2_with fail
      refine (WA.out _ (OwnP.rd (O4.out.below (Bl.alloc (Below.refl _ _) (Obj.cells #[.int .i64 k, .int .i64 e0, .string key, .string val] 25))))).mono ?_
      rintro e w1 ⟨v1, rfl, o1, hb⟩
      obtain ⟨E, ec, rfl⟩ := Own.slice o1
      have O1 := Lib.hid (o1.lower (Nat.le_trans HQ.out.size (Bl.alloc (Below.refl _ _) (Obj.cells #[.int .i64 k, .int .i64 e0, .string key, .string val] 25)).size))
      have B1 := Lib.hid (Bl.then (Bl.alloc HQ.out (Obj.cells #[.int .i64 k, .int .i64 e0, .string key, .string val] 25)) hb)
      clear o1 hb
      by_cases hw : withOk (bldN rs a) ⟨k, e0, key, val⟩
      · have he : withE (bldN rs a) ⟨k, e0, key, val⟩ = 0 := if_pos hw
        rw [he]
        have HW := Lib.hid hw
        clear hw he
        go_wp2_with fail
        go_roundw
        case rel =>
          refine ⟨a + 1, by omega, by first | go_num | (congr 1; omega), fun j hj => ?_, by rw [bldN, HR.out]; exact O1.out, B1.out⟩
          by_cases hja : j = a
          · subst hja; rw [HR.out]; exact HW.out
          · exact HO.out j (by omega)
        case measure => simp [intOf]; omega
      · have he : withE (bldN rs a) ⟨k, e0, key, val⟩ = 2100 := if_neg hw
        have hno : ¬ bldOk rs := fun h => hw (by have := h a (by rw [HN.out]; exact hlt); rwa [HR.out] at this)
        have e1 := HWE.out
        have e2 := HWL.out
        rw [buildE, if_neg hno] at e1
        rw [buildL, if_neg hno] at e2
        subst e1 e2
        rw [he]
        clear hw he hno
        go_wp2_with fail
        go_ret2
        exact ⟨_, rfl, OwnP.nil _ _, B1.out⟩
    · obtain rfl : a = n := by omega
      have hd : decide ((a : Int) < (a : Int)) = false := decide_eq_false (by omega)
      have hok : bldOk rs := fun j hj => HO.out j (by rw [HN.out] at hj; exact hj)
      have e1 := HWE.out
      have e2 := HWL.out
      rw [buildE, if_pos hok] at e1
      rw [buildL, if_pos hok, HN.out] at e2
      subst e1 e2
      clear hok
      go_wp2_with fail
      go_ret2
      exact ⟨_, rfl, O4.out, HQ.out⟩

set_option maxRecDepth 100000 in
set_option maxHeartbeats 4000000 in
theorem rbuild_any (w : World) (v : Value) (rs : List RecV) (h : RdR w v rs) (hb : (rs.length + 1) * 32 ≤ 140737488355328) (hz : ∀ r ∈ rs, r.key.size ≤ 9223372036854775807 ∧ r.val.size ≤ 9223372036854775807) :
    Calls Try.prog 16 #[v] w fun e w' => ∃ v', e = .returned (.tuple #[v', .int .i64 (buildE rs)]) ∧ OwnP w' w.heap.size v' (buildL rs) ∧ Below w.heap.size w w' := by
  obtain ⟨n, hn⟩ : ∃ n, rs.length = n := ⟨_, rfl⟩
  have hmax : (n + 1) * 32 ≤ 140737488355328 := by omega
  obtain ⟨A, c, rfl⟩ := h.form
  have HP := Lib.hid (show RdR w (.slice A n c) rs by rw [← hn]; exact h)
  obtain ⟨we, hwe⟩ : ∃ z, buildE rs = z := ⟨_, rfl⟩
  obtain ⟨wl, hwl⟩ : ∃ z, buildL rs = z := ⟨_, rfl⟩
  rw [hn, hwe, hwl]
  have HN := Lib.hid hn
  have HWE := Lib.hid hwe
  have HWL := Lib.hid hwl
  have HZ := Lib.hid hz
  clear h hb hn hwe hwl hz
  go_enter Try.func16, Try.ntmps16
  go_wp2_with fail
  go_loopw [4, 5] (fun v4 i wr => ∃ a : Nat, a ≤ n ∧ i = .int .i64 (a : Int) ∧ (∀ j, j < a → withOk (bldN rs j) (rs.getD j zeroR)) ∧ OwnP wr w.heap.size v4 (bldN rs a) ∧ Below w.heap.size w wr) (fun _ i _ => (n - intOf i).toNat)
  case atStart => exact ⟨0, by omega, rfl, fun j hj => absurd hj (by omega), OwnP.nil _ _, Below.refl _ _⟩
  case round =>
    obtain ⟨a, han, rfl, hok, o4, hbl⟩ := hrel
    obtain ⟨D, dc, rfl⟩ := Own.slice o4
    have O4 := Lib.hid o4
    have HQ := Lib.hid hbl
    have HO := Lib.hid hok
    clear o4 hbl hok
    by_cases hlt : a < n
    · have hlt2 : (a : Int) < (n : Int) := by omega
      obtain ⟨B, o, c', hv, _, _, hcc⟩ := (HP.out.below HQ.out).pos (by rw [HN.out]; omega)
      rw [HN.out] at hv hcc
      obtain ⟨h1, _, h2⟩ := Value.slice.inj hv
      subst h1 h2
      obtain ⟨g0, g1, g2, g3⟩ := hcc a hlt
      have hs := sizes_at HZ.out (show a < rs.length by rw [HN.out]; exact hlt)
      obtain ⟨r, hr⟩ : ∃ z, rs.getD a zeroR = z := ⟨_, rfl⟩
      rw [hr] at g0 g1 g2 g3 hs
      have hl32 : ((bldN rs a).length + 1) * 32 ≤ 140737488355328 := Nat.le_trans (Nat.mul_le_mul_right 32 (Nat.succ_le_succ (Nat.le_trans (bldN_len rs a) han))) hmax
      have WA := Lib.hid (fun (W : World) (h : RdP W (.slice D (bldN rs a).length dc) (bldN rs a)) => rwith_any W _ (bldN rs a) r h hl32 hs.1 hs.2)
      have HR := Lib.hid hr
      obtain ⟨k, e0, key, val⟩ := r
      simp only at g0 g1 g2 g3
      change Hid (∀ (W : World), _ → Calls Try.prog _ #[_, .agg #[.int .i64 k, .int .i64 e0, .string key, .string val]] W _) at WA
      clear hcc hv hr hs hl32
      go_wp2_with fail
      refine (WA.out _ (OwnP.rd (O4.out.below (Below.refl _ _)))).mono ?_
      rintro e w1 ⟨v1, rfl, o1, hb⟩
      obtain ⟨E, ec, rfl⟩ := Own.slice o1
      have O1 := Lib.hid (o1.lower (Nat.le_trans HQ.out.size (Nat.le_refl _)))
      have B1 := Lib.hid (Bl.then HQ.out hb)
      clear o1 hb
      by_cases hw : withOk (bldN rs a) ⟨k, e0, key, val⟩
      · have he : withE (bldN rs a) ⟨k, e0, key, val⟩ = 0 := if_pos hw
        rw [he]
        have HW := Lib.hid hw
        clear hw he
        go_wp2_with fail
        go_roundw
        case rel =>
          refine ⟨a + 1, by omega, by first | go_num | (congr 1; omega), fun j hj => ?_, by rw [bldN, HR.out]; exact O1.out, B1.out⟩
          by_cases hja : j = a
          · subst hja; rw [HR.out]; exact HW.out
          · exact HO.out j (by omega)
        case measure => simp [intOf]; omega
      · have he : withE (bldN rs a) ⟨k, e0, key, val⟩ = 2100 := if_neg hw
        have hno : ¬ bldOk rs := fun h => hw (by have := h a (by rw [HN.out]; exact hlt); rwa [HR.out] at this)
        have e1 := HWE.out
        have e2 := HWL.out
        rw [buildE, if_neg hno] at e1
        rw [buildL, if_neg hno] at e2
        subst e1 e2
        rw [he]
        clear hw he hno
        go_wp2_with fail
        go_ret2
        exact ⟨_, rfl, OwnP.nil _ _, B1.out⟩
    · obtain rfl : a = n := by omega
      have hd : decide ((a : Int) < (a : Int)) = false := decide_eq_false (by omega)
      have hok : bldOk rs := fun j hj => HO.out j (by rw [HN.out] at hj; exact hj)
      have e1 := HWE.out
      have e2 := HWL.out
      rw [buildE, if_pos hok] at e1
      rw [buildL, if_pos hok, HN.out] at e2
      subst e1 e2
      clear hok
      go_wp2_with fail
      go_ret2
      exact ⟨_, rfl, O4.out, HQ.out⟩
end Go.Proofs.Ytdgnpoapkjoknaa
