/- A map of five letters, filled in whatever order: what is known of it then. -/
import Derived.Test.YtfdbolnifjpbhaaDoorScB
import Derived.Maps.RangeWalk
import Derived.Maps.Ext
import Derived.Deep.RegionHeld
namespace Go.Proofs.YtfdbolnifjpbhaaDoor
set_option linter.unusedVariables false
set_option linter.unusedSimpArgs false
open Go.RowKit Go.Maps

/-- Which operations of the region have come up. -/
def lst5 (b1 b2 b3 b4 b5 : Bool) : Array Bool :=
  #[true, true, true, true, true, true, b1, true, true, true, true, true, b2, true, true, true, true, true, true, b3, true, true, true, true, true, true, true, true, true, true, true, true, b4, true, true, true, true, true, true, true, true, true, true, true, true, true, b5, false, false]
def pick5 (b1 b2 b3 b4 b5 : Bool) : List Nat := (if b1 then [] else [6]) ++ (if b2 then [] else [12]) ++ (if b3 then [] else [19]) ++ (if b4 then [] else [32]) ++ (if b5 then [] else [46])
def cnt5 (b1 b2 b3 b4 b5 : Bool) : Nat := b1.not.toNat + b2.not.toNat + b3.not.toNat + b4.not.toNat + b5.not.toNat
theorem fill5 {P : Program} {ops : Array Oper} {Q : Exit → Act → World → Prop} {S : World → Prop} {a : Act} (M : Bool → Bool → Bool → Bool → Bool → World → Prop)
    (hr : ∀ b1 b2 b3 b4 b5, pick5 b1 b2 b3 b4 b5 ≠ [] → Region.ready .any ops (lst5 b1 b2 b3 b4 b5) = pick5 b1 b2 b3 b4 b5)
    (hM : ∀ b1 b2 b3 b4 b5 W, M b1 b2 b3 b4 b5 W → S W)
    (h1 : ∀ b2 b3 b4 b5 W K, M false b2 b3 b4 b5 W → (∀ W', M true b2 b3 b4 b5 W' → K a W') → wpOp P ops Q 6 K a W)
    (h2 : ∀ b1 b3 b4 b5 W K, M b1 false b3 b4 b5 W → (∀ W', M b1 true b3 b4 b5 W' → K a W') → wpOp P ops Q 12 K a W)
    (h3 : ∀ b1 b2 b4 b5 W K, M b1 b2 false b4 b5 W → (∀ W', M b1 b2 true b4 b5 W' → K a W') → wpOp P ops Q 19 K a W)
    (h4 : ∀ b1 b2 b3 b5 W K, M b1 b2 b3 false b5 W → (∀ W', M b1 b2 b3 true b5 W' → K a W') → wpOp P ops Q 32 K a W)
    (h5 : ∀ b1 b2 b3 b4 W K, M b1 b2 b3 b4 false W → (∀ W', M b1 b2 b3 b4 true W' → K a W') → wpOp P ops Q 46 K a W)
    (he : ∀ W, M true true true true true W → wpAnyH P .any ops Q S 2 (lst5 true true true true true) a W) :
    ∀ n b1 b2 b3 b4 b5, cnt5 b1 b2 b3 b4 b5 = n → ∀ W, M b1 b2 b3 b4 b5 W → wpAnyH P .any ops Q S (n + 2) (lst5 b1 b2 b3 b4 b5) a W := by
  intro n
  induction n with
  | zero =>
    intro b1 b2 b3 b4 b5 hc W hm
    cases b1 <;> cases b2 <;> cases b3 <;> cases b4 <;> cases b5 <;> first | exact he W hm | exact absurd hc (by decide)
  | succ n ih =>
    intro b1 b2 b3 b4 b5 hc W hm
    have hne : pick5 b1 b2 b3 b4 b5 ≠ [] := by
      cases b1 <;> cases b2 <;> cases b3 <;> cases b4 <;> cases b5 <;> first | (simp [pick5]; done) | (simp [cnt5] at hc)
    refine wpAnyH_all (hr b1 b2 b3 b4 b5 hne) hne fun i hi => ?_
    simp only [pick5, List.mem_append] at hi
    rcases hi with (((hi | hi) | hi) | hi) | hi
    · cases b1 with
      | true => simp at hi
      | false =>
        obtain rfl : i = 6 := by simpa using hi
        refine h1 _ _ _ _ _ _ hm fun W' hm' => ⟨hM _ _ _ _ _ _ hm', ?_⟩
        exact ih true b2 b3 b4 b5 (by simp [cnt5] at hc ⊢; omega) W' hm'
    · cases b2 with
      | true => simp at hi
      | false =>
        obtain rfl : i = 12 := by simpa using hi
        refine h2 _ _ _ _ _ _ hm fun W' hm' => ⟨hM _ _ _ _ _ _ hm', ?_⟩
        exact ih b1 true b3 b4 b5 (by simp [cnt5] at hc ⊢; omega) W' hm'
    · cases b3 with
      | true => simp at hi
      | false =>
        obtain rfl : i = 19 := by simpa using hi
        refine h3 _ _ _ _ _ _ hm fun W' hm' => ⟨hM _ _ _ _ _ _ hm', ?_⟩
        exact ih b1 b2 true b4 b5 (by simp [cnt5] at hc ⊢; omega) W' hm'
    · cases b4 with
      | true => simp at hi
      | false =>
        obtain rfl : i = 32 := by simpa using hi
        refine h4 _ _ _ _ _ _ hm fun W' hm' => ⟨hM _ _ _ _ _ _ hm', ?_⟩
        exact ih b1 b2 b3 true b5 (by simp [cnt5] at hc ⊢; omega) W' hm'
    · cases b5 with
      | true => simp at hi
      | false =>
        obtain rfl : i = 46 := by simpa using hi
        refine h5 _ _ _ _ _ _ hm fun W' hm' => ⟨hM _ _ _ _ _ _ hm', ?_⟩
        exact ih b1 b2 b3 b4 true (by simp [cnt5] at hc ⊢; omega) W' hm'

/-- The map holds the letters of T, each with what sp says. -/
def Fill (sp : UInt8 → Bool) (T : List UInt8) (D : DataW Unit) : Prop :=
  IsMap D ∧ (∀ c ∈ T, Maps.has D (.string [c]) = true ∧ ∀ z, D.atKey (.string [c]) z = .lit (.bool (sp c))) ∧ ∀ kl, Maps.has D kl = true → ∃ c ∈ T, kl = .string [c]
theorem Fill.nil (sp : UInt8 → Bool) : Fill sp [] (.map []) := ⟨isMap_empty, fun c h => by simp at h, fun kl h => by simp [Maps.has_eq] at h⟩
theorem Fill.put {sp : UInt8 → Bool} {T : List UInt8} {D : DataW Unit} (h : Fill sp T D) (c : UInt8) : Fill sp (c :: T) (D.put (.string [c]) (.lit (.bool (sp c)))) := by
  obtain ⟨h1, h2, h3⟩ := h
  refine ⟨h1.put _ _, fun d hd => ?_, fun kl hk => ?_⟩
  · by_cases hdc : d = c
    · subst hdc
      exact ⟨has_put_same h1 (by simp [WideAt.IsKeyLit]) _, fun z => atKey_put_same h1 (by simp [WideAt.IsKeyLit]) _ z⟩
    · have hne : (Lit.string [d]) ≠ .string [c] := fun e => hdc (by simpa using e)
      rcases List.mem_cons.1 hd with rfl | hd
      · exact absurd rfl hdc
      · rw [has_put_other hne]
        exact ⟨(h2 d hd).1, fun z => by rw [atKey_put_other hne]; exact (h2 d hd).2 z⟩
  · by_cases he : kl = .string [c]
    · exact ⟨c, by simp, he⟩
    · rw [has_put_other he] at hk
      obtain ⟨d, hd, e⟩ := h3 kl hk
      exact ⟨d, by simp [hd], e⟩
/-- The letters that have been put. -/
def let5 (b1 b2 b3 b4 b5 : Bool) : List UInt8 := (if b1 then [107] else []) ++ (if b2 then [118] else []) ++ (if b3 then [114] else []) ++ (if b4 then [98] else []) ++ (if b5 then [108] else [])
theorem Fill.perm {sp : UInt8 → Bool} {T T' : List UInt8} {D : DataW Unit} (h : Fill sp T D) (hp : ∀ c, c ∈ T ↔ c ∈ T') : Fill sp T' D :=
  ⟨h.1, fun c hc => h.2.1 c ((hp c).2 hc), fun kl hk => by obtain ⟨c, hc, e⟩ := h.2.2 kl hk; exact ⟨c, (hp c).1 hc, e⟩⟩
/-- What is known as the map is filled. -/
def M5 (P : Program) (k e : TypeId) (sp : UInt8 → Bool) (w0 : World) (b1 b2 b3 b4 b5 : Bool) (W : World) : Prop :=
  (∃ D n, W.ownsMap P k (plainElem (H := Unit) P e) w0.heap.size n D ∧ n ≤ (let5 b1 b2 b3 b4 b5).length ∧ Fill sp (let5 b1 b2 b3 b4 b5) D) ∧ Below w0.heap.size w0 W
theorem let5_len (b1 b2 b3 b4 b5 : Bool) : (let5 b1 b2 b3 b4 b5).length ≤ 5 := by
  cases b1 <;> cases b2 <;> cases b3 <;> cases b4 <;> cases b5 <;> decide
/-- One letter more. -/
theorem M5.step {P : Program} {k e t : TypeId} {sp : UInt8 → Bool} {w0 W : World} {b1 b2 b3 b4 b5 c1 c2 c3 c4 c5 : Bool} {c : UInt8} (hk : P.underlying k = some .string) (he : P.underlying e = some .bool) (ht : P.underlying t = some (.map k e))
    (h : M5 P k e sp w0 b1 b2 b3 b4 b5 W) (hl : (let5 c1 c2 c3 c4 c5).length = (let5 b1 b2 b3 b4 b5).length + 1) (hp : ∀ d, d ∈ c :: let5 b1 b2 b3 b4 b5 ↔ d ∈ let5 c1 c2 c3 c4 c5) :
    ∃ W', (Instr.mapUpdate t (.map (some w0.heap.size)) (.string ⟨#[c]⟩) (.bool (sp c))).run P W = .ok () W' ∧ M5 P k e sp w0 c1 c2 c3 c4 c5 W' := by
  obtain ⟨⟨D, n, h1, h2, h3⟩, h4⟩ := h
  have hln := let5_len b1 b2 b3 b4 b5
  obtain ⟨W', hrun, r1, r2⟩ := h1.update (string_keyed hk) ht (by unfold maxLen; omega) (key := .string ⟨#[c]⟩) (val := .bool (sp c)) (kl := .string [c]) (WideMaps.keyOf_string_mk hk (by show 1 ≤ maxLen; decide)) (plainElem_bool he (sp c))
  exact ⟨W', hrun, ⟨_, _, r1, by omega, (h3.put c).perm hp⟩, h4.grown r2 h4.size (fun q hq => by cases hq; exact Nat.le_refl _)⟩
/-- The same, at the operation. -/
theorem step_ins {P : Program} {ops : Array Oper} {o : Oper} {a : Act} {i : Nat} {k e t : TypeId} {sp : UInt8 → Bool} {w0 W : World} {b1 b2 b3 b4 b5 c1 c2 c3 c4 c5 : Bool} {c : UInt8} {K : Act → World → Prop} {Q : Exit → Act → World → Prop}
    (hk : P.underlying k = some .string) (he : P.underlying e = some .bool) (ht : P.underlying t = some (.map k e)) (ho : ops[i]? = some o) (hg : o.guard = none) (m v : Operand) (hop : o.op = .insert t m (.const (.string ⟨#[c]⟩)) v) (hd : o.dst = none)
    (hm : a.eval m = .map (some w0.heap.size)) (hv : a.eval v = .bool (sp c))
    (h : M5 P k e sp w0 b1 b2 b3 b4 b5 W) (hl : (let5 c1 c2 c3 c4 c5).length = (let5 b1 b2 b3 b4 b5).length + 1) (hp : ∀ d, d ∈ c :: let5 b1 b2 b3 b4 b5 ↔ d ∈ let5 c1 c2 c3 c4 c5)
    (hK : ∀ W', M5 P k e sp w0 c1 c2 c3 c4 c5 W' → K a W') : wpOp P ops Q i K a W := by
  refine wpOp_step ho fun K' hK' => ?_
  rw [if_pos (by simp [Region.wanted, hg])]
  obtain ⟨W', hrun, hM⟩ := h.step hk he ht hl hp
  have hx : a.eval (.const (.string ⟨#[c]⟩)) = .string ⟨#[c]⟩ := rfl
  unfold Oper.wp
  simp [execOp, hop, hm, hv, hx, hrun, Result.andThen]
  have e : a.put o.dst undef = a := by rw [hd]; rfl
  have := hK' _ _ (hK W' hM)
  simp only [Oper.upon, e]
  first | exact this | (rw [e]; exact this)
theorem let5_p1 (b2 b3 b4 b5 : Bool) (d : UInt8) : d ∈ 107 :: let5 false b2 b3 b4 b5 ↔ d ∈ let5 true b2 b3 b4 b5 := by
  simp only [let5, List.mem_cons, List.mem_append, Bool.false_eq_true, if_false, if_true, List.not_mem_nil, or_false, false_or]
  constructor
  · intro h; rcases h with h | h
    · simp [h]
    · simp only [or_assoc] at h ⊢; rcases h with h | h | h | h <;> simp [h]
  · intro h; simp only [or_assoc] at h ⊢; rcases h with h | h | h | h | h <;> simp [h]
theorem let5_l1 (b2 b3 b4 b5 : Bool) : (let5 true b2 b3 b4 b5).length = (let5 false b2 b3 b4 b5).length + 1 := by
  cases b2 <;> cases b3 <;> cases b4 <;> cases b5 <;> rfl
theorem let5_p2 (b1 b3 b4 b5 : Bool) (d : UInt8) : d ∈ 118 :: let5 b1 false b3 b4 b5 ↔ d ∈ let5 b1 true b3 b4 b5 := by
  simp only [let5, List.mem_cons, List.mem_append, Bool.false_eq_true, if_false, if_true, List.not_mem_nil, or_false, false_or]
  constructor
  · intro h; rcases h with h | h
    · simp [h]
    · simp only [or_assoc] at h ⊢; rcases h with h | h | h | h <;> simp [h]
  · intro h; simp only [or_assoc] at h ⊢; rcases h with h | h | h | h | h <;> simp [h]
theorem let5_l2 (b1 b3 b4 b5 : Bool) : (let5 b1 true b3 b4 b5).length = (let5 b1 false b3 b4 b5).length + 1 := by
  cases b1 <;> cases b3 <;> cases b4 <;> cases b5 <;> rfl
theorem let5_p3 (b1 b2 b4 b5 : Bool) (d : UInt8) : d ∈ 114 :: let5 b1 b2 false b4 b5 ↔ d ∈ let5 b1 b2 true b4 b5 := by
  simp only [let5, List.mem_cons, List.mem_append, Bool.false_eq_true, if_false, if_true, List.not_mem_nil, or_false, false_or]
  constructor
  · intro h; rcases h with h | h
    · simp [h]
    · simp only [or_assoc] at h ⊢; rcases h with h | h | h | h <;> simp [h]
  · intro h; simp only [or_assoc] at h ⊢; rcases h with h | h | h | h | h <;> simp [h]
theorem let5_l3 (b1 b2 b4 b5 : Bool) : (let5 b1 b2 true b4 b5).length = (let5 b1 b2 false b4 b5).length + 1 := by
  cases b1 <;> cases b2 <;> cases b4 <;> cases b5 <;> rfl
theorem let5_p4 (b1 b2 b3 b5 : Bool) (d : UInt8) : d ∈ 98 :: let5 b1 b2 b3 false b5 ↔ d ∈ let5 b1 b2 b3 true b5 := by
  simp only [let5, List.mem_cons, List.mem_append, Bool.false_eq_true, if_false, if_true, List.not_mem_nil, or_false, false_or]
  constructor
  · intro h; rcases h with h | h
    · simp [h]
    · simp only [or_assoc] at h ⊢; rcases h with h | h | h | h <;> simp [h]
  · intro h; simp only [or_assoc] at h ⊢; rcases h with h | h | h | h | h <;> simp [h]
theorem let5_l4 (b1 b2 b3 b5 : Bool) : (let5 b1 b2 b3 true b5).length = (let5 b1 b2 b3 false b5).length + 1 := by
  cases b1 <;> cases b2 <;> cases b3 <;> cases b5 <;> rfl
theorem let5_p5 (b1 b2 b3 b4 : Bool) (d : UInt8) : d ∈ 108 :: let5 b1 b2 b3 b4 false ↔ d ∈ let5 b1 b2 b3 b4 true := by
  simp only [let5, List.mem_cons, List.mem_append, Bool.false_eq_true, if_false, if_true, List.not_mem_nil, or_false, false_or]
  constructor
  · intro h; rcases h with h | h
    · simp [h]
    · simp only [or_assoc] at h ⊢; rcases h with h | h | h | h <;> simp [h]
  · intro h; simp only [or_assoc] at h ⊢; rcases h with h | h | h | h | h <;> simp [h]
theorem let5_l5 (b1 b2 b3 b4 : Bool) : (let5 b1 b2 b3 b4 true).length = (let5 b1 b2 b3 b4 false).length + 1 := by
  cases b1 <;> cases b2 <;> cases b3 <;> cases b4 <;> rfl
end Go.Proofs.YtfdbolnifjpbhaaDoor
