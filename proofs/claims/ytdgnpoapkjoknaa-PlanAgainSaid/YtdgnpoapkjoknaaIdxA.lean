/- Pairs: their slices, that are read; a row of the call's own, or an empty slice; whether two are the same. -/
import Derived.Test.YtdgnpoapkjoknaaIdxR
import Derived.Laws.StructEq
import Derived.BigQuiet
namespace Go.Proofs.Ytdgnpoapkjoknaa
set_option linter.unusedVariables false
set_option linter.unusedSimpArgs false
open Go.RowKit

/-- A pair. -/
structure PairV where
  key : ByteArray
  val : ByteArray
deriving DecidableEq
def PairV.v (p : PairV) : Value := .agg #[.string p.key, .string p.val]
def zeroP : PairV := ⟨nilB, nilB⟩
def cellsP2 (p : PairV) : List Value := [.string p.key, .string p.val]
def flatP (ps : List PairV) : List Value := ps.flatMap cellsP2
theorem flatP_cons (p : PairV) (ps : List PairV) : flatP (p :: ps) = cellsP2 p ++ flatP ps := rfl
theorem flatP_app (ps qs : List PairV) : flatP (ps ++ qs) = flatP ps ++ flatP qs := by simp [flatP]
theorem flatP_snoc (ps : List PairV) (p : PairV) : flatP (ps ++ [p]) = flatP ps ++ cellsP2 p := by simp [flatP]
theorem flatP_len (ps : List PairV) : (flatP ps).length = ps.length * 2 := by
  induction ps with
  | nil => rfl
  | cons p ps ih => rw [flatP_cons, List.length_append, ih, List.length_cons]; show 2 + _ = _; omega
theorem flatP_at : ∀ (ps : List PairV) (j : Nat), j < ps.length → ∀ i, i < 2 → (flatP ps)[j * 2 + i]? = (cellsP2 (ps.getD j zeroP))[i]?
  | [], j, h, _, _ => by simp at h
  | p :: ps, 0, _, i, hi => by
    rw [flatP_cons, List.getElem?_append_left (by show 0 * 2 + i < 2; omega), Nat.zero_mul, Nat.zero_add]
    rfl
  | p :: ps, j + 1, h, i, hi => by
    rw [flatP_cons, List.getElem?_append_right (by show 2 ≤ (j + 1) * 2 + i; omega)]
    have e : (j + 1) * 2 + i - (cellsP2 p).length = j * 2 + i := by show (j + 1) * 2 + i - 2 = _; omega
    rw [e, flatP_at ps j (by simpa using h) i hi]
    rfl
theorem cellsP2_one (p : PairV) : ∀ u ∈ cellsP2 p, u.oneCell' = true := by
  intro u hu
  simp [cellsP2] at hu
  rcases hu with rfl | rfl <;> rfl
theorem flatP_one (ps : List PairV) : ∀ u ∈ flatP ps, u.oneCell' = true := by
  intro u hu
  obtain ⟨p, _, hp⟩ := List.mem_flatMap.1 hu
  exact cellsP2_one p u hp
theorem flatP_take (ps : List PairV) (i : Nat) : (flatP ps).take (i * 2) = flatP (ps.take i) := by
  induction ps generalizing i with
  | nil => simp [flatP]
  | cons p ps ih =>
    cases i with
    | zero => simp [flatP]
    | succ i =>
      rw [flatP_cons, List.take_succ_cons, flatP_cons, show (i + 1) * 2 = (cellsP2 p).length + i * 2 by show _ = 2 + i * 2; omega, List.take_length_add_append, ih]
theorem flatP_drop (ps : List PairV) (i : Nat) : (flatP ps).drop (i * 2) = flatP (ps.drop i) := by
  induction ps generalizing i with
  | nil => simp [flatP]
  | cons p ps ih =>
    cases i with
    | zero => simp [flatP]
    | succ i =>
      rw [flatP_cons, List.drop_succ_cons, show (i + 1) * 2 = (cellsP2 p).length + i * 2 by show _ = 2 + i * 2; omega, List.drop_length_add_append, ih]

/-- A slice of pairs that is read. -/
def RdP (w : World) (v : Value) (ps : List PairV) : Prop :=
  (ps = [] ∧ ∃ A c, v = .slice A 0 c ∧ (A = none → c = 0)) ∨
  ∃ b o c, v = .slice (some ⟨b, o, none⟩) ps.length c ∧ ps.length ≤ c ∧ c ≤ maxLen ∧ ∀ j u, (flatP ps)[j]? = some u → w.cell? ⟨b, o + j, none⟩ = some u
theorem RdP.form {w : World} {v : Value} {ps : List PairV} (h : RdP w v ps) : ∃ A c, v = .slice A ps.length c := by
  rcases h with ⟨rfl, A, c, rfl, _⟩ | ⟨b, o, c, rfl, _⟩
  · exact ⟨A, c, rfl⟩
  · exact ⟨_, _, rfl⟩
theorem RdP.pos {w : World} {v : Value} {ps : List PairV} (h : RdP w v ps) (hp : 0 < ps.length) : ∃ b o c, v = .slice (some ⟨b, o, none⟩) ps.length c ∧ ps.length ≤ c ∧ c ≤ maxLen ∧
    ∀ j, j < ps.length → w.cell? ⟨b, o + j * 2, none⟩ = some (.string (ps.getD j zeroP).key) ∧ w.cell? ⟨b, o + j * 2 + 1, none⟩ = some (.string (ps.getD j zeroP).val) := by
  rcases h with ⟨rfl, _⟩ | ⟨b, o, c, h1, h2, h3, h4⟩
  · simp at hp
  · exact ⟨b, o, c, h1, h2, h3, fun j hj => ⟨h4 _ _ (flatP_at ps j hj 0 (by decide)), h4 _ _ (flatP_at ps j hj 1 (by decide))⟩⟩
theorem RdP.mono {w w' : World} {v : Value} {ps : List PairV} (h : RdP w v ps) (hm : ∀ a u, w.cell? a = some u → w'.cell? a = some u) : RdP w' v ps := by
  rcases h with h | ⟨b, o, c, h1, h2, h3, h4⟩
  · exact .inl h
  · exact .inr ⟨b, o, c, h1, h2, h3, fun j u hu => hm _ _ (h4 j u hu)⟩
theorem RdP.below {w w' : World} {v : Value} {ps : List PairV} (h : RdP w v ps) (hb : Below w.heap.size w w') : RdP w' v ps :=
  h.mono fun a u hc => (hb.cell (World.block_lt_of_cell? w a hc)).trans hc
theorem RdP.nil (w : World) : RdP w (.slice none 0 0) [] := .inl ⟨rfl, none, 0, rfl, fun _ => rfl⟩
theorem RdP.news {w : World} {v : Value} {ps : List PairV} (h : RdP w v ps) : ∃ A c, v = .slice A ps.length c ∧ (A = none → ps.length = 0 ∧ c = 0) ∧ ∀ ad, A = some ad → ∀ j u, (flatP ps)[j]? = some u → w.cell? (ad.add j) = some u := by
  rcases h with ⟨rfl, A, c, rfl, hA⟩ | ⟨b, o, c, rfl, h1, h2, h3⟩
  · exact ⟨A, c, rfl, fun h => ⟨rfl, hA h⟩, fun ad _ j u hu => by simp [flatP] at hu⟩
  · refine ⟨_, c, rfl, fun h => by simp at h, fun ad had j u hu => ?_⟩
    obtain rfl := Option.some.inj had
    rw [Addr.add_lit]
    exact h3 j u hu

/-- A row of the call's own. -/
def OwnP (w : World) (B : Nat) (v : Value) (ps : List PairV) : Prop := Own w B 48 2 v ps.length (flatP ps)
theorem OwnP.rd {w : World} {B : Nat} {v : Value} {ps : List PairV} (h : OwnP w B v ps) : RdP w v ps := by
  rcases h.2 with ⟨rfl, hn⟩ | ⟨g, cap, cur, fz, rfl, _, hg, _, h1, h2, h3, h4⟩
  · exact .inl ⟨List.eq_nil_of_length_eq_zero hn, none, 0, rfl, fun _ => rfl⟩
  · refine .inr ⟨g, 0, cap, rfl, h1, h2, fun j u hu => ?_⟩
    rw [Nat.zero_add]
    exact Own.at' h hu
theorem OwnP.below {w w' : World} {B : Nat} {v : Value} {ps : List PairV} (h : OwnP w B v ps) (hb : Below w.heap.size w w') : OwnP w' B v ps := Own.below h hb
theorem OwnP.lower {w : World} {B B' : Nat} {v : Value} {ps : List PairV} (h : OwnP w B v ps) (hb : B' ≤ B) : OwnP w B' v ps := Own.lower h hb
theorem OwnP.nil (w : World) (B : Nat) : OwnP w B (.slice none 0 0) [] := Own.nil _ _ _ _

set_option maxRecDepth 100000 in
theorem eql_pair (key v key' v' : ByteArray) (W : World) :
    (binOp .eql 48 (.agg #[.string key, .string v]) (.agg #[.string key', .string v'])).run Try.prog W = .ok (.bool (key.toList == key'.toList && v.toList == v'.toList)) W := by
  have hS : Try.prog.underlying 48 = some (.struct (Try.prog.fieldsOf 48)) := by kernel_rfl
  have hp : Try.prog.stoodInHeld 48 = false := by kernel_rfl
  rw [run_eql_struct, show (10000 : Nat) = 9999 + 1 from rfl, run_equalIn_agg W 9999 48 _ _ hS hp]
  simp only [Program.fieldsOf, Try.underlying48]
  go_simp
  by_cases h3 : key.toList = key'.toList <;> by_cases h4 : v.toList = v'.toList <;> simp [h3, h4]
theorem neq_pair (x y : PairV) (W : World) :
    (binOp .neq 48 (.agg #[.string x.key, .string x.val]) (.agg #[.string y.key, .string y.val])).run Try.prog W = .ok (.bool (!decide (x = y))) W := by
  have h := eql_pair x.key x.val y.key y.val W
  have e : ∀ a b : ByteArray, (a.toList == b.toList) = decide (a = b) := fun a b => by
    by_cases h : a = b
    · subst h; simp
    · rw [ne_tl h, decide_eq_false h]
  have e2 : (x.key.toList == y.key.toList && x.val.toList == y.val.toList) = decide (x = y) := by
    rw [e, e, Bool.eq_iff_iff]
    simp only [decide_eq_true_eq, Bool.and_eq_true]
    obtain ⟨k, v⟩ := x
    obtain ⟨k', v'⟩ := y
    simp
  rw [e2] at h
  rw [run_eql_struct] at h
  rw [run_neq_struct]
  generalize (Op.equalIn 10000 48 (.agg #[.string x.key, .string x.val]) (.agg #[.string y.key, .string y.val])).run Try.prog W = r at *
  cases r with
  | ok b w2 =>
    simp only [Result.andThen_ok, Result.ok.injEq, Value.bool.injEq] at h ⊢
    exact ⟨by rw [h.1], h.2⟩
  | halt x w2 => simp [Result.andThen] at h

/-- The first k are alike. -/
def AlikeP (xs ys : List PairV) (k : Nat) : Prop := ∀ j, j < k → xs.getD j zeroP = ys.getD j zeroP
theorem AlikeP.all {xs ys : List PairV} (h : AlikeP xs ys xs.length) (hl : xs.length = ys.length) : decide (xs = ys) = true := by
  rw [decide_eq_true_eq]
  apply List.ext_getElem hl
  intro j h1 h2
  have := h j h1
  simpa [List.getD_eq_getElem?_getD, h1, h2] using this
theorem AlikeP.not {xs ys : List PairV} {k : Nat} (h : xs.getD k zeroP ≠ ys.getD k zeroP) : decide (xs = ys) = false := by
  rw [decide_eq_false_iff_not]
  rintro rfl
  exact h rfl
set_option maxRecDepth 100000 in
set_option maxHeartbeats 4000000 in
theorem same_pairs (va vb : Value) (xs ys : List PairV) (w : World) (ha : RdP w va xs) (hb : RdP w vb ys) :
    Calls Try.prog 21 #[va, vb] w fun e w' => e = .returned (.bool (decide (xs = ys))) ∧ ∃ q, w' = w.drewN q := by
  by_cases hl : xs.length = ys.length
  · by_cases hp : 0 < xs.length
    · obtain ⟨b, o, c, rfl, h1, h2, h3⟩ := ha.pos hp
      obtain ⟨b', o', c', rfl, h1', h2', h3'⟩ := hb.pos (by omega)
      clear ha hb
      have HL := Lib.hid hl
      rw [← hl] at h1' h3' ⊢
      clear hl
      have hn : xs.length ≤ 9223372036854775807 := by unfold maxLen at h2; omega
      clear h1 h2 h1' h2'
      have HC := Lib.hid h3
      have HC' := Lib.hid h3'
      clear h3 h3'
      generalize hnn : xs.length = n at *
      have HN := Lib.hid hnn
      clear hnn
      go_enter Try.func21, Try.ntmps21
      go_wp2_with fail
      go_loopw [5] (fun i wr => ∃ (k q : Nat), k ≤ n ∧ i = .int .i64 k ∧ AlikeP xs ys k ∧ wr = w.drewN q) (fun i _ => (n - intOf i).toNat)
      case atStart => exact ⟨0, 0, by omega, rfl, fun j hj => absurd hj (by omega), rfl⟩
      case round =>
        obtain ⟨k, q, hk, rfl, hal, rfl⟩ := hrel
        have HA := Lib.hid hal
        clear hal
        by_cases hlt : k < n
        · obtain ⟨g0, g1⟩ := HC.out k hlt
          obtain ⟨f0, f1⟩ := HC'.out k hlt
          have kn := neq_pair (xs.getD k zeroP) (ys.getD k zeroP)
          generalize hx : xs.getD k zeroP = x at g0 g1 kn
          generalize hy : ys.getD k zeroP = y at f0 f1 kn
          have HX := Lib.hid hx
          have HY := Lib.hid hy
          clear hx hy
          have hlt2 : (k : Int) < (n : Int) := by omega
          by_cases hxy : x = y
          · rw [decide_eq_true hxy, Bool.not_true] at kn
            have HXY := Lib.hid hxy
            clear hxy
            go_wp2_with fail
            go_quiet (fail)
            go_wp2
            go_roundw
            case rel =>
              refine ⟨k + 1, _, by omega, by go_num, fun j hj => ?_, by first | rfl | exact World.drewN_drewN ..⟩
              rcases Nat.lt_or_ge j k with h | h
              · exact HA.out j h
              · obtain rfl : j = k := by omega
                rw [HX.out, HY.out, HXY.out]
            case measure => simp [intOf]; omega
          · rw [decide_eq_false hxy, Bool.not_false] at kn
            have HXY := Lib.hid hxy
            clear hxy
            go_wp2_with fail
            go_quiet (fail)
            go_wp2
            go_ret
            refine ⟨by rw [AlikeP.not (k := k) (by rw [HX.out, HY.out]; exact HXY.out)]; rfl, _, by first | rfl | exact World.drewN_drewN ..⟩
        · go_wp2
          go_ret
          obtain rfl : k = n := by omega
          refine ⟨?_, _, rfl⟩
          rw [AlikeP.all (by rw [HN.out]; exact HA.out) (by rw [HN.out]; exact HL.out)]
          rfl
    · obtain ⟨A, c, rfl⟩ := ha.form
      obtain ⟨B, d, rfl⟩ := hb.form
      obtain rfl : xs = [] := List.eq_nil_of_length_eq_zero (by omega)
      obtain rfl : ys = [] := List.eq_nil_of_length_eq_zero (by simp at hl; omega)
      clear ha hb hl hp
      go_enter Try.func21, Try.ntmps21
      go_wp2_with fail
      go_loopw [5] (fun i wr => i = .int .i64 0 ∧ wr = w) (fun _ _ => 0)
      case atStart => exact ⟨rfl, rfl⟩
      case round =>
        obtain ⟨rfl, rfl⟩ := hrel
        go_wp2
        go_ret
        exact ⟨rfl, 0, rfl⟩
  · obtain ⟨A, c, rfl⟩ := ha.form
    obtain ⟨B, d, rfl⟩ := hb.form
    have hd : ((xs.length : Int) != (ys.length : Int)) = true := by simp; omega
    have hne : decide (xs = ys) = false := by
      rw [decide_eq_false_iff_not]
      rintro rfl
      exact hl rfl
    rw [hne]
    clear ha hb hl hne
    go_enter Try.func21, Try.ntmps21
    go_wp2
    go_ret
    exact ⟨rfl, 0, rfl⟩
end Go.Proofs.Ytdgnpoapkjoknaa
