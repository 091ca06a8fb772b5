/- Records: their slices, that are read; whether two are the same (of ScanA, RecK, RecN). -/
import Derived.Test.YtdgnpoapkjoknaaIdxG
namespace Go.Proofs.Ytdgnpoapkjoknaa
set_option linter.unusedVariables false
set_option linter.unusedSimpArgs false
open Go.RowKit

set_option maxRecDepth 100000 in
theorem eql_rec (k e : Int) (key v : ByteArray) (k' e' : Int) (key' v' : ByteArray) (W : World) :
    (binOp .eql 25 (.agg #[.int .i64 k, .int .i64 e, .string key, .string v]) (.agg #[.int .i64 k', .int .i64 e', .string key', .string v'])).run Try.prog W = .ok (.bool (k == k' && e == e' && key.toList == key'.toList && v.toList == v'.toList)) W := by
  have hS : Try.prog.underlying 25 = some (.struct (Try.prog.fieldsOf 25)) := by kernel_rfl
  have hp : Try.prog.stoodInHeld 25 = false := by kernel_rfl
  rw [run_eql_struct, show (10000 : Nat) = 9999 + 1 from rfl, run_equalIn_agg W 9999 25 _ _ hS hp]
  simp only [Program.fieldsOf, Try.underlying25]
  go_simp
  by_cases h1 : k = k' <;> by_cases h2 : e = e' <;> by_cases h3 : key.toList = key'.toList <;> by_cases h4 : v.toList = v'.toList <;> simp [h1, h2, h3, h4]
theorem neq_rec (k e : Int) (key v : ByteArray) (k' e' : Int) (key' v' : ByteArray) (W : World) :
    (binOp .neq 25 (.agg #[.int .i64 k, .int .i64 e, .string key, .string v]) (.agg #[.int .i64 k', .int .i64 e', .string key', .string v'])).run Try.prog W = .ok (.bool (!(k == k' && e == e' && key.toList == key'.toList && v.toList == v'.toList))) W := by
  have h := eql_rec k e key v k' e' key' v' W
  rw [run_eql_struct] at h
  rw [run_neq_struct]
  generalize (Op.equalIn 10000 25 (.agg #[.int .i64 k, .int .i64 e, .string key, .string v]) (.agg #[.int .i64 k', .int .i64 e', .string key', .string v'])).run Try.prog W = r at *
  cases r with
  | ok b w2 =>
    simp only [Result.andThen_ok, Result.ok.injEq, Value.bool.injEq] at h ⊢
    exact ⟨by rw [h.1], h.2⟩
  | halt x w2 => simp [Result.andThen] at h
theorem neq_same (k e : Int) (key v : ByteArray) (W : World) : (binOp .neq 25 (.agg #[.int .i64 k, .int .i64 e, .string key, .string v]) (.agg #[.int .i64 k, .int .i64 e, .string key, .string v])).run Try.prog W = .ok (.bool false) W := by
  rw [neq_rec]; simp
theorem eql_same (k e : Int) (key v : ByteArray) (W : World) : (binOp .eql 25 (.agg #[.int .i64 k, .int .i64 e, .string key, .string v]) (.agg #[.int .i64 k, .int .i64 e, .string key, .string v])).run Try.prog W = .ok (.bool true) W := by
  rw [eql_rec]; simp
def cellsR (r : RecV) : List Value := [.int .i64 r.k, .int .i64 r.e, .string r.key, .string r.val]
def flat (rs : List RecV) : List Value := rs.flatMap cellsR
theorem flat_cons (r : RecV) (rs : List RecV) : flat (r :: rs) = cellsR r ++ flat rs := rfl
theorem flat_snoc (rs : List RecV) (r : RecV) : flat (rs ++ [r]) = flat rs ++ cellsR r := by simp [flat]
theorem flat_len (rs : List RecV) : (flat rs).length = rs.length * 4 := by
  induction rs with
  | nil => rfl
  | cons r rs ih => rw [flat_cons, List.length_append, ih, List.length_cons]; show 4 + _ = _; omega
theorem flat_at : ∀ (rs : List RecV) (j : Nat), j < rs.length → ∀ i, i < 4 → (flat rs)[j * 4 + i]? = (cellsR (rs.getD j zeroR))[i]?
  | [], j, h, _, _ => by simp at h
  | r :: rs, 0, _, i, hi => by
    rw [flat_cons, Nat.zero_mul, Nat.zero_add, List.getElem?_append_left (by show i < 4; exact hi)]
    rfl
  | r :: rs, j + 1, h, i, hi => by
    have ih := flat_at rs j (by simpa using h) i hi
    rw [flat_cons, List.getElem?_append_right (by show 4 ≤ _; omega)]
    show (flat rs)[(j + 1) * 4 + i - 4]? = _
    rw [show (j + 1) * 4 + i - 4 = j * 4 + i by omega, ih]
    simp
theorem cellsR_one (r : RecV) : ∀ u ∈ cellsR r, u.oneCell' = true := by
  intro u hu
  simp [cellsR] at hu
  rcases hu with rfl | rfl | rfl | rfl <;> rfl
theorem flat_one (rs : List RecV) : ∀ u ∈ flat rs, u.oneCell' = true := by
  intro u hu
  obtain ⟨r, _, hr⟩ := List.mem_flatMap.1 hu
  exact cellsR_one r u hr

/-- A slice of records that is read. -/
def RdR (w : World) (v : Value) (rs : List RecV) : Prop :=
  (rs = [] ∧ ∃ A c, v = .slice A 0 c ∧ (A = none → c = 0)) ∨
  ∃ b o c, v = .slice (some ⟨b, o, none⟩) rs.length c ∧ rs.length ≤ c ∧ c ≤ maxLen ∧ ∀ j u, (flat rs)[j]? = some u → w.cell? ⟨b, o + j, none⟩ = some u
theorem RdR.form {w : World} {v : Value} {rs : List RecV} (h : RdR w v rs) : ∃ A c, v = .slice A rs.length c := by
  rcases h with ⟨rfl, A, c, rfl, _⟩ | ⟨b, o, c, rfl, _⟩
  · exact ⟨A, c, rfl⟩
  · exact ⟨_, _, rfl⟩
theorem RdR.pos {w : World} {v : Value} {rs : List RecV} (h : RdR w v rs) (hp : 0 < rs.length) : ∃ b o c, v = .slice (some ⟨b, o, none⟩) rs.length c ∧ rs.length ≤ c ∧ c ≤ maxLen ∧
    ∀ j, j < rs.length → w.cell? ⟨b, o + j * 4, none⟩ = some (.int .i64 (rs.getD j zeroR).k) ∧ w.cell? ⟨b, o + j * 4 + 1, none⟩ = some (.int .i64 (rs.getD j zeroR).e) ∧ w.cell? ⟨b, o + j * 4 + 2, none⟩ = some (.string (rs.getD j zeroR).key) ∧ w.cell? ⟨b, o + j * 4 + 3, none⟩ = some (.string (rs.getD j zeroR).val) := by
  rcases h with ⟨rfl, _⟩ | ⟨b, o, c, h1, h2, h3, h4⟩
  · simp at hp
  · refine ⟨b, o, c, h1, h2, h3, fun j hj => ?_⟩
    exact ⟨h4 _ _ (flat_at rs j hj 0 (by decide)), h4 _ _ (flat_at rs j hj 1 (by decide)), h4 _ _ (flat_at rs j hj 2 (by decide)), h4 _ _ (flat_at rs j hj 3 (by decide))⟩
theorem RdR.mono {w w' : World} {v : Value} {rs : List RecV} (h : RdR w v rs) (hm : ∀ a u, w.cell? a = some u → w'.cell? a = some u) : RdR w' v rs := by
  rcases h with h | ⟨b, o, c, h1, h2, h3, h4⟩
  · exact .inl h
  · exact .inr ⟨b, o, c, h1, h2, h3, fun j u hu => hm _ _ (h4 j u hu)⟩
theorem RdR.below {w w' : World} {v : Value} {rs : List RecV} (h : RdR w v rs) (hb : Below w.heap.size w w') : RdR w' v rs :=
  h.mono fun a u hc => (hb.cell (World.block_lt_of_cell? w a hc)).trans hc
theorem RdR.own {w : World} {B : Nat} {v : Value} {n : Nat} {rs : List RecV} (h : Own w B 25 4 v n (flat rs)) : RdR w v rs := by
  have hl : rs.length = n := by have := h.1; rw [flat_len] at this; omega
  rcases h.2 with ⟨rfl, rfl⟩ | ⟨g, cap, cur, fz, rfl, _, hg, _, h1, h2, h3, h4⟩
  · exact .inl ⟨List.eq_nil_of_length_eq_zero hl, none, 0, rfl, fun _ => rfl⟩
  · subst hl
    refine .inr ⟨g, 0, cap, rfl, h1, h2, fun j u hu => ?_⟩
    rw [Nat.zero_add]
    exact h.at' hu
theorem RdR.nil (w : World) : RdR w (.slice none 0 0) [] := .inl ⟨rfl, none, 0, rfl, fun _ => rfl⟩
theorem RdR.news {w : World} {v : Value} {rs : List RecV} (h : RdR w v rs) : ∃ A c, v = .slice A rs.length c ∧ (A = none → rs.length = 0 ∧ c = 0) ∧ ∀ ad, A = some ad → ∀ j u, (flat rs)[j]? = some u → w.cell? (ad.add j) = some u := by
  rcases h with ⟨rfl, A, c, rfl, hA⟩ | ⟨b, o, c, rfl, h1, h2, h3⟩
  · exact ⟨A, c, rfl, fun h => ⟨rfl, hA h⟩, fun ad _ j u hu => by simp [flat] at hu⟩
  · refine ⟨_, c, rfl, fun h => by simp at h, fun ad had j u hu => ?_⟩
    obtain rfl := Option.some.inj had
    rw [Addr.add_lit]
    exact h3 j u hu

/-- The first k are alike. -/
def AlikeR (xs ys : List RecV) (k : Nat) : Prop := ∀ j, j < k → xs.getD j zeroR = ys.getD j zeroR
theorem AlikeR.all {xs ys : List RecV} (h : AlikeR xs ys xs.length) (hl : xs.length = ys.length) : decide (xs = ys) = true := by
  rw [decide_eq_true_eq]
  apply List.ext_getElem hl
  intro j h1 h2
  have := h j h1
  simpa [List.getD_eq_getElem?_getD, h1, h2] using this
theorem AlikeR.not {xs ys : List RecV} {k : Nat} (h : xs.getD k zeroR ≠ ys.getD k zeroR) : decide (xs = ys) = false := by
  rw [decide_eq_false_iff_not]
  rintro rfl
  exact h rfl
theorem neq_dec (x y : RecV) (W : World) : (binOp .neq 25 (.agg #[.int .i64 x.k, .int .i64 x.e, .string x.key, .string x.val]) (.agg #[.int .i64 y.k, .int .i64 y.e, .string y.key, .string y.val])).run Try.prog W = .ok (.bool (!decide (x = y))) W := by
  rw [neq_rec]
  have e : ∀ a b : ByteArray, (a.toList == b.toList) = decide (a = b) := fun a b => by
    by_cases h : a = b
    · subst h; simp
    · rw [ne_tl h, decide_eq_false h]
  have e2 : (x.k == y.k && x.e == y.e && x.key.toList == y.key.toList && x.val.toList == y.val.toList) = decide (x = y) := by
    rw [e, e, Bool.eq_iff_iff]
    simp only [decide_eq_true_eq, Bool.and_eq_true, beq_iff_eq]
    obtain ⟨k, e, key, v⟩ := x
    obtain ⟨k', e', key', v'⟩ := y
    simp [and_assoc]
  rw [e2]

set_option maxRecDepth 100000 in
set_option maxHeartbeats 4000000 in
theorem same_recs (va vb : Value) (xs ys : List RecV) (w : World) (ha : RdR w va xs) (hb : RdR w vb ys) :
    Calls Try.prog 45 #[va, vb] w fun e w' => e = .returned (.bool (decide (xs = ys))) ∧ ∃ q, w' = w.drewN q := by
  by_cases hl : xs.length = ys.length
  · by_cases hp : 0 < xs.length
    · obtain ⟨b, o, c, rfl, h1, h2, h3⟩ := ha.pos hp
      obtain ⟨b', o', c', rfl, h1', h2', h3'⟩ := hb.pos (by omega)
      clear ha hb
      have HL := Lib.hid hl
      rw [← hl] at h1' h3' ⊢
      clear hl
      have hn : xs.length ≤ 9223372036854775807 := by unfold maxLen at h2; omega
      clear h1 h2 h1' h2'
      have HC := Lib.hid h3
      have HC' := Lib.hid h3'
      clear h3 h3'
      generalize hnn : xs.length = n at *
      have HN := Lib.hid hnn
      clear hnn
      go_enter Try.func45, Try.ntmps45
      go_wp2_with fail
      go_loopw [5] (fun i wr => ∃ (k q : Nat), k ≤ n ∧ i = .int .i64 k ∧ AlikeR xs ys k ∧ wr = w.drewN q) (fun i _ => (n - intOf i).toNat)
      case atStart => exact ⟨0, 0, by omega, rfl, fun j hj => absurd hj (by omega), rfl⟩
      case round =>
        obtain ⟨k, q, hk, rfl, hal, rfl⟩ := hrel
        have HA := Lib.hid hal
        clear hal
        by_cases hlt : k < n
        · obtain ⟨g0, g1, g2, g3⟩ := HC.out k hlt
          obtain ⟨f0, f1, f2, f3⟩ := HC'.out k hlt
          have kn := neq_dec (xs.getD k zeroR) (ys.getD k zeroR)
          generalize hx : xs.getD k zeroR = x at g0 g1 g2 g3 kn
          generalize hy : ys.getD k zeroR = y at f0 f1 f2 f3 kn
          have HX := Lib.hid hx
          have HY := Lib.hid hy
          clear hx hy
          have hlt2 : (k : Int) < (n : Int) := by omega
          by_cases hxy : x = y
          · rw [decide_eq_true hxy, Bool.not_true] at kn
            have HXY := Lib.hid hxy
            clear hxy
            go_wp2_with fail
            go_quiet (fail)
            go_wp2
            go_roundw
            case rel =>
              refine ⟨k + 1, _, by omega, by go_num, fun j hj => ?_, by first | rfl | exact World.drewN_drewN ..⟩
              rcases Nat.lt_or_ge j k with h | h
              · exact HA.out j h
              · obtain rfl : j = k := by omega
                rw [HX.out, HY.out, HXY.out]
            case measure => simp [intOf]; omega
          · rw [decide_eq_false hxy, Bool.not_false] at kn
            have HXY := Lib.hid hxy
            clear hxy
            go_wp2_with fail
            go_quiet (fail)
            go_wp2
            go_ret
            refine ⟨by rw [AlikeR.not (k := k) (by rw [HX.out, HY.out]; exact HXY.out)]; rfl, _, by first | rfl | exact World.drewN_drewN ..⟩
        · go_wp2
          go_ret
          obtain rfl : k = n := by omega
          refine ⟨?_, _, rfl⟩
          rw [AlikeR.all (by rw [HN.out]; exact HA.out) (by rw [HN.out]; exact HL.out)]
          rfl
    · obtain ⟨A, c, rfl⟩ := ha.form
      obtain ⟨B, d, rfl⟩ := hb.form
      obtain rfl : xs = [] := List.eq_nil_of_length_eq_zero (by omega)
      obtain rfl : ys = [] := List.eq_nil_of_length_eq_zero (by simp at hl; omega)
      clear ha hb hl hp
      go_enter Try.func45, Try.ntmps45
      go_wp2_with fail
      go_loopw [5] (fun i wr => i = .int .i64 0 ∧ wr = w) (fun _ _ => 0)
      case atStart => exact ⟨rfl, rfl⟩
      case round =>
        obtain ⟨rfl, rfl⟩ := hrel
        go_wp2
        go_ret
        exact ⟨rfl, 0, rfl⟩
  · obtain ⟨A, c, rfl⟩ := ha.form
    obtain ⟨B, d, rfl⟩ := hb.form
    have hd : ((xs.length : Int) != (ys.length : Int)) = true := by simp; omega
    have hne : decide (xs = ys) = false := by
      rw [decide_eq_false_iff_not]
      rintro rfl
      exact hl rfl
    rw [hne]
    clear ha hb hl hne
    go_enter Try.func45, Try.ntmps45
    go_wp2
    go_ret
    exact ⟨rfl, 0, rfl⟩
end Go.Proofs.Ytdgnpoapkjoknaa
