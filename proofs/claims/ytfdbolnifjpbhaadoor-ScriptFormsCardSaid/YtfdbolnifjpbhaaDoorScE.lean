/- script: lean. -/
import Derived.Test.YtfdbolnifjpbhaaDoorScD
import Derived.Test.YtfdbolnifjpbhaaDoorShelf
namespace Go.Proofs.YtfdbolnifjpbhaaDoor
set_option linter.unusedVariables false
set_option linter.unusedSimpArgs false
open Go.RowKit Go.Maps

/-- Is there something of what a letter stands for? -/
def spareB (a : ActV) (c : UInt8) : Bool :=
  if c = 107 then (!a.key.toList.isEmpty) else if c = 118 then (!a.val.toList.isEmpty) else if c = 114 then decide (0 < a.reads.length) else if c = 98 then (a.pl != 0 || a.wd != 0) else if c = 108 then (a.ls != 0 || decide (0 < a.busy.length)) else false
/-- A letter is as it should be. -/
def okB (a : ActV) (c : UInt8) : Bool := !spareB a c || decide (0 ≤ Lib.indexByte (namedL a.k) c)
def leanB (a : ActV) : Bool := okB a 107 && okB a 118 && okB a 114 && okB a 98 && okB a 108
theorem lean_all {a : ActV} (h : ∀ c ∈ ([107, 118, 114, 98, 108] : List UInt8), okB a c = true) : leanB a = true := by
  unfold leanB
  rw [h 107 (by decide), h 118 (by decide), h 114 (by decide), h 98 (by decide), h 108 (by decide)]
  rfl
theorem lean_not {a : ActV} {c : UInt8} (h : c ∈ ([107, 118, 114, 98, 108] : List UInt8)) (hc : okB a c = false) : leanB a = false := by
  unfold leanB
  simp only [List.mem_cons, List.not_mem_nil, or_false] at h
  rcases h with rfl | rfl | rfl | rfl | rfl <;> simp [hc]
theorem law9 : Keyed Tryd.prog 9 := string_keyed Tryd.underlying9
theorem plainElem_bool_inv {P : Program} {e : TypeId} (he : P.underlying e = some .bool) {v : Value} {z : DataW Unit × List MemPlace} (h : plainElem (H := Unit) P e v = some z) : ∃ c, v = .bool c ∧ z = (.lit (.bool c), []) := by
  unfold plainElem at h
  rw [he] at h
  cases v <;> simp at h
  exact ⟨_, rfl, h.symm⟩
theorem key_inv {P : Program} {k : TypeId} (hk : P.underlying k = some .string) {key : Value} {kl : Lit} (h : keyOf P k key = some kl) : ∃ s, key = .string s := by
  simp only [keyOf_string hk, mapKey, hk] at h
  cases key <;> simp_all
theorem keyOf_string_lit {P : Program} {k : TypeId} (hk : P.underlying k = some .string) {x : ByteArray} {c : UInt8} (h : keyOf P k (.string x) = some (.string [c])) : x = ⟨#[c]⟩ := by
  by_cases hs : x.size ≤ maxLen
  · rw [WideMaps.keyOf_string_mk hk hs] at h
    simp only [Option.some.injEq, Lit.string.injEq] at h
    obtain ⟨⟨l⟩⟩ := x
    simp only at h
    rw [h]
  · exfalso
    obtain ⟨hs', _⟩ : x.size ≤ maxLen ∧ True := by
      simp only [keyOf_string hk, mapKey, hk] at h
      split at h <;> simp_all
    exact hs hs'
/-- What is known as a letter has come. -/
structure NextL (P : Program) (k e : TypeId) (T : List UInt8) (sp : UInt8 → Bool) (b r n : Nat) (D : DataW Unit) (left : Lit → Bool) (cnt : Nat) (w : World) (ch : UInt8) (w' : World) (cnt' : Nat) : Prop where
  mem : ch ∈ T
  rg : w'.ranges P k (plainElem (H := Unit) P e) b r n D (fun z => left z && !z.sameKey (.string [ch])) cnt'
  lt : cnt' < cnt
  gr : w.grownBy w' (some r)
  en : (Instr.entry (.pointer (some ⟨r, 0, none⟩))).run P w' = .ok (.tuple #[.string ⟨#[ch]⟩, .bool (sp ch)]) w'
theorem wpList_next_letter {P : Program} {ops : Array Oper} {rest : List Oper} {o : Oper} {a : Act} {Q : Exit → Act → World → Prop} {w : World} {k e : TypeId} (hk : P.underlying k = some .string) (he : P.underlying e = some .bool) (hg : o.guard = none) (it : Operand) (hop : o.op = Op.next it false)
    (sp : UInt8 → Bool) (T : List UInt8) (b r n : Nat) (D : DataW Unit) (left : Lit → Bool) (cnt : Nat) (hF : Fill sp T D) (hlh : ∀ kl, left kl = true → Maps.has D kl = true)
    (hit : a.eval it = .pointer (some ⟨r, 0, none⟩)) (h : w.ranges P k (plainElem (H := Unit) P e) b r n D left cnt)
    (hDone : (∀ kl, left kl = false) → wpList P ops Q rest (a.put o.dst (.tuple #[.bool false])) w)
    (hMore : ∀ (ch : UInt8) (w' : World) (cnt' : Nat), NextL P k e T sp b r n D left cnt w ch w' cnt' → wpList P ops Q rest (a.put o.dst (.tuple #[.bool true, .string ⟨#[ch]⟩, .bool (sp ch)])) w') :
    wpList P ops Q (o :: rest) a w := by
  refine wpList_next_ranges (α := ByteArray) (β := Bool) _ hg it hop k (string_keyed hk) _ Value.string Value.bool (fun key kl h => key_inv hk h) (fun v y h => by obtain ⟨c, rfl, _⟩ := plainElem_bool_inv he h; exact ⟨c, rfl⟩) b r n D left cnt hit h (fun _ hl => hDone hl) ?_
  intro x c kl y w1 cnt1 hkey hlx hRv hat hrg1 hlt hg1 hs1 hen
  obtain ⟨ch, hch, rfl⟩ := hF.2.2 kl (hlh kl hlx)
  obtain rfl := keyOf_string_lit hk hkey
  obtain ⟨c', hc', hy⟩ := plainElem_bool_inv he hRv
  have hcs : c = sp ch := by
    have h1 := hat (.lit (.bool true))
    rw [hy, (hF.2.1 ch hch).2] at h1
    simp only [DataW.lit.injEq, Lit.bool.injEq] at h1
    simp only [Value.bool.injEq] at hc'
    rw [hc', h1]
  subst hcs
  exact hMore ch w1 cnt1 ⟨hch, hrg1, hlt, hg1, hen⟩

set_option maxRecDepth 100000 in
set_option maxHeartbeats 16000000 in
theorem lean_any (g : Nat) (m : ActM) (w : World) (h : At9 w g 0 m) (hok : OkM w m) :
    Calls Tryd.prog 31 #[.pointer (some ⟨g, 0, none⟩)] w fun e w' => e = .returned (.bool (leanB m.a)) ∧ Below w.heap.size w w' := by
  obtain ⟨⟨k, key, val, pl, wd, ls, mask, busy, reads⟩, bv, rv⟩ := m
  obtain ⟨hb1, hr1⟩ := hok
  simp only at hb1 hr1
  obtain ⟨bA, bc, rfl⟩ := hb1.form
  obtain ⟨rA, rc, rfl⟩ := hr1.form
  obtain ⟨g0, g1, g2, g3, g4, g5, g6, g7, g8⟩ := h
  simp only at g0 g1 g2 g3 g4 g5 g6 g7 g8
  have YES := Lib.hid (fun (h : ∀ c ∈ ([107, 118, 114, 98, 108] : List UInt8), okB ⟨k, key, val, pl, wd, ls, mask, busy, reads⟩ c = true) => lean_all h)
  have NO := Lib.hid (fun (c : UInt8) (h : c ∈ ([107, 118, 114, 98, 108] : List UInt8)) (hc : okB ⟨k, key, val, pl, wd, ls, mask, busy, reads⟩ c = false) => lean_not h hc)
  have OKS := Lib.hid (fun (c : UInt8) => show okB ⟨k, key, val, pl, wd, ls, mask, busy, reads⟩ c = (!spareB ⟨k, key, val, pl, wd, ls, mask, busy, reads⟩ c || decide (0 ≤ Lib.indexByte (namedL k) c)) from rfl)
  obtain ⟨sp, hsp⟩ : ∃ sp : UInt8 → Bool, spareB ⟨k, key, val, pl, wd, ls, mask, busy, reads⟩ = sp := ⟨_, rfl⟩
  obtain ⟨bn, hbn⟩ : ∃ n, busy.length = n := ⟨_, rfl⟩
  obtain ⟨rn, hrn⟩ : ∃ n, reads.length = n := ⟨_, rfl⟩
  have s1 : sp 107 = (!key.toList.isEmpty) := by rw [← hsp]; rfl
  have s2 : sp 118 = (!val.toList.isEmpty) := by rw [← hsp]; rfl
  have s3 : sp 114 = decide (0 < rn) := by rw [← hsp, ← hrn]; rfl
  have s4 : sp 98 = (pl != 0 || wd != 0) := by rw [← hsp]; rfl
  have s5 : sp 108 = (ls != 0 || decide (0 < bn)) := by rw [← hsp, ← hbn]; rfl
  rw [hsp] at OKS
  rw [hbn] at g7
  rw [hrn] at g8
  obtain ⟨nm, hnm⟩ : ∃ nm, namedL k = nm := ⟨_, rfl⟩
  have NM := Lib.hid (fun (W : World) => named_any k W)
  rw [hnm] at NM OKS
  have CT := Lib.hid (fun (ch : UInt8) (W : World) => show Calls Tryd.prog 41 #[.string ⟨nm.toArray⟩, .string ⟨#[ch]⟩] W fun e w' => e = .returned (.bool (decide (0 ≤ Lib.indexByte nm ch))) ∧ w' = W from Tryd.strings_Contains_one ⟨nm.toArray⟩ ch W)
  have HS1 := Lib.hid s1
  have HS2 := Lib.hid s2
  have HS3 := Lib.hid s3
  have HS4 := Lib.hid s4
  have HS5 := Lib.hid s5
  obtain ⟨lB, hlB⟩ : ∃ b, leanB ⟨k, key, val, pl, wd, ls, mask, busy, reads⟩ = b := ⟨_, rfl⟩
  simp only [hlB]
  rw [hlB] at YES NO
  clear hsp hb1 hr1 s1 s2 s3 s4 s5 hbn hrn hnm hlB g6
  go_enter Tryd.func31, Tryd.ntmps31
  go_wp2_with (go_at_call 40; refine (NM.out _).mono ?_; rintro e w' ⟨rfl, rfl⟩)
  have SH := Lib.hid (show (w'.cell? ⟨g, 1, none⟩ = some (.string key) ∧ w'.cell? ⟨g, 2, none⟩ = some (.string val) ∧ w'.cell? ⟨g, 3, none⟩ = some (.int .i64 pl) ∧ w'.cell? ⟨g, 4, none⟩ = some (.int .i64 wd) ∧ w'.cell? ⟨g, 5, none⟩ = some (.int .i64 ls) ∧ w'.cell? ⟨g, 7, none⟩ = some (.slice bA bn bc) ∧ w'.cell? ⟨g, 8, none⟩ = some (.slice rA rn rc)) from ⟨g1, g2, g3, g4, g5, g7, g8⟩)
  clear g0 g1 g2 g3 g4 g5 g7 g8
  have KB := Lib.hid (fun (W : World) (hb : Below w'.heap.size w' W) => show W.cell? ⟨g, 1, none⟩ = some (.string key) ∧ W.cell? ⟨g, 2, none⟩ = some (.string val) ∧ W.cell? ⟨g, 3, none⟩ = some (.int .i64 pl) ∧ W.cell? ⟨g, 4, none⟩ = some (.int .i64 wd) ∧ W.cell? ⟨g, 5, none⟩ = some (.int .i64 ls) ∧ W.cell? ⟨g, 7, none⟩ = some (.slice bA bn bc) ∧ W.cell? ⟨g, 8, none⟩ = some (.slice rA rn rc) from by
    have kb := fun (q : Nat) (v : Value) (h : w'.cell? ⟨g, q, none⟩ = some v) => (hb.cell (World.block_lt_of_cell? _ _ h)).trans h
    obtain ⟨h1, h2, h3, h4, h5, h6, h7⟩ := SH.out
    exact ⟨kb _ _ h1, kb _ _ h2, kb _ _ h3, kb _ _ h4, kb _ _ h5, kb _ _ h6, kb _ _ h7⟩)
  obtain ⟨q4, hq4⟩ : ∃ q, (pl != 0) = q := ⟨_, rfl⟩
  obtain ⟨q5, hq5⟩ : ∃ q, (ls != 0) = q := ⟨_, rfl⟩
  have hS4 := HS4.out
  have hS5 := HS5.out
  rw [hq4] at hS4
  rw [hq5] at hS5
  have HS4 := Lib.hid hS4
  have HS5 := Lib.hid hS5
  clear hS4 hS5
  cases q4 with
  | true =>
    cases q5 with
    | true =>
      refine wp_region_held_drew (S := fun W => W.cell? ⟨g, 1, none⟩ = some (.string key) ∧ W.cell? ⟨g, 2, none⟩ = some (.string val) ∧ W.cell? ⟨g, 3, none⟩ = some (.int .i64 pl) ∧ W.cell? ⟨g, 4, none⟩ = some (.int .i64 wd) ∧ W.cell? ⟨g, 5, none⟩ = some (.int .i64 ls) ∧ W.cell? ⟨g, 7, none⟩ = some (.slice bA bn bc) ∧ W.cell? ⟨g, 8, none⟩ = some (.slice rA rn rc)) (by kernel_rfl) (KB.out _ (Bl.self _ 1)) (fun hH => ?_)
      refine wpAnyH_take (i := 1) (v := .pointer (some ⟨g, 0, none⟩)) rfl (by kernel_rfl) (by kernel_rfl) (by kernel_rfl) (fun _ _ _ h => h) (Or.inl ⟨by kernel_rfl, ?_⟩) (by assumption) ?_
      · (intro w hSw; (try dsimp only at hSw); go_simp)
      try simp only [Act.put, List.setIfInBounds_toArray, List.set_cons_zero, List.set_cons_succ]
      refine wpAnyH_take (i := 2) (v := .pointer (some ⟨g, 0, none⟩)) rfl (by kernel_rfl) (by kernel_rfl) (by kernel_rfl) (fun _ _ _ h => h) (Or.inl ⟨by kernel_rfl, ?_⟩) (by assumption) ?_
      · (intro w hSw; (try dsimp only at hSw); go_simp)
      try simp only [Act.put, List.setIfInBounds_toArray, List.set_cons_zero, List.set_cons_succ]
      refine wpAnyH_take (i := 3) (v := .pointer (some ⟨g, 1, none⟩)) rfl (by kernel_rfl) (by kernel_rfl) (by kernel_rfl) (fun _ _ _ h => h) (Or.inl ⟨by kernel_rfl, ?_⟩) (by assumption) ?_
      · (intro w hSw; (try dsimp only at hSw); go_simp)
      try simp only [Act.put, List.setIfInBounds_toArray, List.set_cons_zero, List.set_cons_succ]
      refine wpAnyH_take (i := 4) (v := .string key) rfl (by kernel_rfl) (by kernel_rfl) (by kernel_rfl) (fun _ _ _ h => h) (Or.inl ⟨by kernel_rfl, ?_⟩) (by assumption) ?_
      · (intro w hSw; (try dsimp only at hSw); go_simp)
      try simp only [Act.put, List.setIfInBounds_toArray, List.set_cons_zero, List.set_cons_succ]
      refine wpAnyH_take (i := 5) (v := .bool (!key.toList.isEmpty)) rfl (by kernel_rfl) (by kernel_rfl) (by kernel_rfl) (fun _ _ _ h => h) (Or.inl ⟨by kernel_rfl, ?_⟩) (by assumption) ?_
      · (intro w hSw; (try dsimp only at hSw); go_simp)
      try simp only [Act.put, List.setIfInBounds_toArray, List.set_cons_zero, List.set_cons_succ]
      refine wpAnyH_take (i := 7) (v := .pointer (some ⟨g, 0, none⟩)) rfl (by kernel_rfl) (by kernel_rfl) (by kernel_rfl) (fun _ _ _ h => h) (Or.inl ⟨by kernel_rfl, ?_⟩) (by assumption) ?_
      · (intro w hSw; (try dsimp only at hSw); go_simp)
      try simp only [Act.put, List.setIfInBounds_toArray, List.set_cons_zero, List.set_cons_succ]
      refine wpAnyH_take (i := 8) (v := .pointer (some ⟨g, 0, none⟩)) rfl (by kernel_rfl) (by kernel_rfl) (by kernel_rfl) (fun _ _ _ h => h) (Or.inl ⟨by kernel_rfl, ?_⟩) (by assumption) ?_
      · (intro w hSw; (try dsimp only at hSw); go_simp)
      try simp only [Act.put, List.setIfInBounds_toArray, List.set_cons_zero, List.set_cons_succ]
      refine wpAnyH_take (i := 9) (v := .pointer (some ⟨g, 2, none⟩)) rfl (by kernel_rfl) (by kernel_rfl) (by kernel_rfl) (fun _ _ _ h => h) (Or.inl ⟨by kernel_rfl, ?_⟩) (by assumption) ?_
      · (intro w hSw; (try dsimp only at hSw); go_simp)
      try simp only [Act.put, List.setIfInBounds_toArray, List.set_cons_zero, List.set_cons_succ]
      refine wpAnyH_take (i := 10) (v := .string val) rfl (by kernel_rfl) (by kernel_rfl) (by kernel_rfl) (fun _ _ _ h => h) (Or.inl ⟨by kernel_rfl, ?_⟩) (by assumption) ?_
      · (intro w hSw; (try dsimp only at hSw); go_simp)
      try simp only [Act.put, List.setIfInBounds_toArray, List.set_cons_zero, List.set_cons_succ]
      refine wpAnyH_take (i := 11) (v := .bool (!val.toList.isEmpty)) rfl (by kernel_rfl) (by kernel_rfl) (by kernel_rfl) (fun _ _ _ h => h) (Or.inl ⟨by kernel_rfl, ?_⟩) (by assumption) ?_
      · (intro w hSw; (try dsimp only at hSw); go_simp)
      try simp only [Act.put, List.setIfInBounds_toArray, List.set_cons_zero, List.set_cons_succ]
      refine wpAnyH_take (i := 13) (v := .pointer (some ⟨g, 0, none⟩)) rfl (by kernel_rfl) (by kernel_rfl) (by kernel_rfl) (fun _ _ _ h => h) (Or.inl ⟨by kernel_rfl, ?_⟩) (by assumption) ?_
      · (intro w hSw; (try dsimp only at hSw); go_simp)
      try simp only [Act.put, List.setIfInBounds_toArray, List.set_cons_zero, List.set_cons_succ]
      refine wpAnyH_take (i := 14) (v := .pointer (some ⟨g, 0, none⟩)) rfl (by kernel_rfl) (by kernel_rfl) (by kernel_rfl) (fun _ _ _ h => h) (Or.inl ⟨by kernel_rfl, ?_⟩) (by assumption) ?_
      · (intro w hSw; (try dsimp only at hSw); go_simp)
      try simp only [Act.put, List.setIfInBounds_toArray, List.set_cons_zero, List.set_cons_succ]
      refine wpAnyH_take (i := 15) (v := .pointer (some ⟨g, 8, none⟩)) rfl (by kernel_rfl) (by kernel_rfl) (by kernel_rfl) (fun _ _ _ h => h) (Or.inl ⟨by kernel_rfl, ?_⟩) (by assumption) ?_
      · (intro w hSw; (try dsimp only at hSw); go_simp)
      try simp only [Act.put, List.setIfInBounds_toArray, List.set_cons_zero, List.set_cons_succ]
      refine wpAnyH_take (i := 16) (v := .slice rA rn rc) rfl (by kernel_rfl) (by kernel_rfl) (by kernel_rfl) (fun _ _ _ h => h) (Or.inl ⟨by kernel_rfl, ?_⟩) (by assumption) ?_
      · (intro w hSw; (try dsimp only at hSw); go_simp)
      try simp only [Act.put, List.setIfInBounds_toArray, List.set_cons_zero, List.set_cons_succ]
      refine wpAnyH_take (i := 17) (v := .int .i64 rn) rfl (by kernel_rfl) (by kernel_rfl) (by kernel_rfl) (fun _ _ _ h => h) (Or.inl ⟨by kernel_rfl, ?_⟩) (by assumption) ?_
      · (intro w hSw; (try dsimp only at hSw); go_simp)
      try simp only [Act.put, List.setIfInBounds_toArray, List.set_cons_zero, List.set_cons_succ]
      refine wpAnyH_take (i := 18) (v := .bool (decide (0 < rn))) rfl (by kernel_rfl) (by kernel_rfl) (by kernel_rfl) (fun _ _ _ h => h) (Or.inl ⟨by kernel_rfl, ?_⟩) (by assumption) ?_
      · (intro w hSw; (try dsimp only at hSw); go_simp)
      try simp only [Act.put, List.setIfInBounds_toArray, List.set_cons_zero, List.set_cons_succ]
      refine wpAnyH_take (i := 20) (v := .pointer (some ⟨g, 0, none⟩)) rfl (by kernel_rfl) (by kernel_rfl) (by kernel_rfl) (fun _ _ _ h => h) (Or.inl ⟨by kernel_rfl, ?_⟩) (by assumption) ?_
      · (intro w hSw; (try dsimp only at hSw); go_simp)
      try simp only [Act.put, List.setIfInBounds_toArray, List.set_cons_zero, List.set_cons_succ]
      refine wpAnyH_take (i := 21) (v := .pointer (some ⟨g, 0, none⟩)) rfl (by kernel_rfl) (by kernel_rfl) (by kernel_rfl) (fun _ _ _ h => h) (Or.inl ⟨by kernel_rfl, ?_⟩) (by assumption) ?_
      · (intro w hSw; (try dsimp only at hSw); go_simp)
      try simp only [Act.put, List.setIfInBounds_toArray, List.set_cons_zero, List.set_cons_succ]
      refine wpAnyH_take (i := 22) (v := .pointer (some ⟨g, 3, none⟩)) rfl (by kernel_rfl) (by kernel_rfl) (by kernel_rfl) (fun _ _ _ h => h) (Or.inl ⟨by kernel_rfl, ?_⟩) (by assumption) ?_
      · (intro w hSw; (try dsimp only at hSw); go_simp)
      try simp only [Act.put, List.setIfInBounds_toArray, List.set_cons_zero, List.set_cons_succ]
      refine wpAnyH_take (i := 23) (v := .int .i64 pl) rfl (by kernel_rfl) (by kernel_rfl) (by kernel_rfl) (fun _ _ _ h => h) (Or.inl ⟨by kernel_rfl, ?_⟩) (by assumption) ?_
      · (intro w hSw; (try dsimp only at hSw); go_simp)
      try simp only [Act.put, List.setIfInBounds_toArray, List.set_cons_zero, List.set_cons_succ]
      refine wpAnyH_take (i := 24) (v := .bool true) rfl (by kernel_rfl) (by kernel_rfl) (by kernel_rfl) (fun _ _ _ h => h) (Or.inl ⟨by kernel_rfl, ?_⟩) (by assumption) ?_
      · (intro w hSw; (try dsimp only at hSw); go_simp)
      try simp only [Act.put, List.setIfInBounds_toArray, List.set_cons_zero, List.set_cons_succ]
      refine wpAnyH_take (i := 25) (v := .bool true) rfl (by kernel_rfl) (by kernel_rfl) (by kernel_rfl) (fun _ _ _ h => h) (Or.inl ⟨by kernel_rfl, ?_⟩) (by assumption) ?_
      · (intro w hSw; (try dsimp only at hSw); go_simp)
      try simp only [Act.put, List.setIfInBounds_toArray, List.set_cons_zero, List.set_cons_succ]
      refine wpAnyH_take (i := 26) (v := undef) rfl (by kernel_rfl) (by kernel_rfl) (by kernel_rfl) (fun _ _ _ h => h) (Or.inr ⟨by kernel_rfl, rfl⟩) (by assumption) ?_
      try simp only [Act.put, List.setIfInBounds_toArray, List.set_cons_zero, List.set_cons_succ]
      refine wpAnyH_take (i := 27) (v := undef) rfl (by kernel_rfl) (by kernel_rfl) (by kernel_rfl) (fun _ _ _ h => h) (Or.inr ⟨by kernel_rfl, rfl⟩) (by assumption) ?_
      try simp only [Act.put, List.setIfInBounds_toArray, List.set_cons_zero, List.set_cons_succ]
      refine wpAnyH_take (i := 28) (v := undef) rfl (by kernel_rfl) (by kernel_rfl) (by kernel_rfl) (fun _ _ _ h => h) (Or.inr ⟨by kernel_rfl, rfl⟩) (by assumption) ?_
      try simp only [Act.put, List.setIfInBounds_toArray, List.set_cons_zero, List.set_cons_succ]
      refine wpAnyH_take (i := 29) (v := undef) rfl (by kernel_rfl) (by kernel_rfl) (by kernel_rfl) (fun _ _ _ h => h) (Or.inr ⟨by kernel_rfl, rfl⟩) (by assumption) ?_
      try simp only [Act.put, List.setIfInBounds_toArray, List.set_cons_zero, List.set_cons_succ]
      refine wpAnyH_take (i := 30) (v := undef) rfl (by kernel_rfl) (by kernel_rfl) (by kernel_rfl) (fun _ _ _ h => h) (Or.inr ⟨by kernel_rfl, rfl⟩) (by assumption) ?_
      try simp only [Act.put, List.setIfInBounds_toArray, List.set_cons_zero, List.set_cons_succ]
      refine wpAnyH_take (i := 31) (v := .bool true) rfl (by kernel_rfl) (by kernel_rfl) (by kernel_rfl) (fun _ _ _ h => h) (Or.inl ⟨by kernel_rfl, ?_⟩) (by assumption) ?_
      · (intro w hSw; (try dsimp only at hSw); go_simp)
      try simp only [Act.put, List.setIfInBounds_toArray, List.set_cons_zero, List.set_cons_succ]
      refine wpAnyH_take (i := 33) (v := .pointer (some ⟨g, 0, none⟩)) rfl (by kernel_rfl) (by kernel_rfl) (by kernel_rfl) (fun _ _ _ h => h) (Or.inl ⟨by kernel_rfl, ?_⟩) (by assumption) ?_
      · (intro w hSw; (try dsimp only at hSw); go_simp)
      try simp only [Act.put, List.setIfInBounds_toArray, List.set_cons_zero, List.set_cons_succ]
      refine wpAnyH_take (i := 34) (v := .pointer (some ⟨g, 0, none⟩)) rfl (by kernel_rfl) (by kernel_rfl) (by kernel_rfl) (fun _ _ _ h => h) (Or.inl ⟨by kernel_rfl, ?_⟩) (by assumption) ?_
      · (intro w hSw; (try dsimp only at hSw); go_simp)
      try simp only [Act.put, List.setIfInBounds_toArray, List.set_cons_zero, List.set_cons_succ]
      refine wpAnyH_take (i := 35) (v := .pointer (some ⟨g, 5, none⟩)) rfl (by kernel_rfl) (by kernel_rfl) (by kernel_rfl) (fun _ _ _ h => h) (Or.inl ⟨by kernel_rfl, ?_⟩) (by assumption) ?_
      · (intro w hSw; (try dsimp only at hSw); go_simp)
      try simp only [Act.put, List.setIfInBounds_toArray, List.set_cons_zero, List.set_cons_succ]
      refine wpAnyH_take (i := 36) (v := .int .i64 ls) rfl (by kernel_rfl) (by kernel_rfl) (by kernel_rfl) (fun _ _ _ h => h) (Or.inl ⟨by kernel_rfl, ?_⟩) (by assumption) ?_
      · (intro w hSw; (try dsimp only at hSw); go_simp)
      try simp only [Act.put, List.setIfInBounds_toArray, List.set_cons_zero, List.set_cons_succ]
      refine wpAnyH_take (i := 37) (v := .bool true) rfl (by kernel_rfl) (by kernel_rfl) (by kernel_rfl) (fun _ _ _ h => h) (Or.inl ⟨by kernel_rfl, ?_⟩) (by assumption) ?_
      · (intro w hSw; (try dsimp only at hSw); go_simp)
      try simp only [Act.put, List.setIfInBounds_toArray, List.set_cons_zero, List.set_cons_succ]
      refine wpAnyH_take (i := 38) (v := .bool true) rfl (by kernel_rfl) (by kernel_rfl) (by kernel_rfl) (fun _ _ _ h => h) (Or.inl ⟨by kernel_rfl, ?_⟩) (by assumption) ?_
      · (intro w hSw; (try dsimp only at hSw); go_simp)
      try simp only [Act.put, List.setIfInBounds_toArray, List.set_cons_zero, List.set_cons_succ]
      refine wpAnyH_take (i := 39) (v := undef) rfl (by kernel_rfl) (by kernel_rfl) (by kernel_rfl) (fun _ _ _ h => h) (Or.inr ⟨by kernel_rfl, rfl⟩) (by assumption) ?_
      try simp only [Act.put, List.setIfInBounds_toArray, List.set_cons_zero, List.set_cons_succ]
      refine wpAnyH_take (i := 40) (v := undef) rfl (by kernel_rfl) (by kernel_rfl) (by kernel_rfl) (fun _ _ _ h => h) (Or.inr ⟨by kernel_rfl, rfl⟩) (by assumption) ?_
      try simp only [Act.put, List.setIfInBounds_toArray, List.set_cons_zero, List.set_cons_succ]
      refine wpAnyH_take (i := 41) (v := undef) rfl (by kernel_rfl) (by kernel_rfl) (by kernel_rfl) (fun _ _ _ h => h) (Or.inr ⟨by kernel_rfl, rfl⟩) (by assumption) ?_
      try simp only [Act.put, List.setIfInBounds_toArray, List.set_cons_zero, List.set_cons_succ]
      refine wpAnyH_take (i := 42) (v := undef) rfl (by kernel_rfl) (by kernel_rfl) (by kernel_rfl) (fun _ _ _ h => h) (Or.inr ⟨by kernel_rfl, rfl⟩) (by assumption) ?_
      try simp only [Act.put, List.setIfInBounds_toArray, List.set_cons_zero, List.set_cons_succ]
      refine wpAnyH_take (i := 43) (v := undef) rfl (by kernel_rfl) (by kernel_rfl) (by kernel_rfl) (fun _ _ _ h => h) (Or.inr ⟨by kernel_rfl, rfl⟩) (by assumption) ?_
      try simp only [Act.put, List.setIfInBounds_toArray, List.set_cons_zero, List.set_cons_succ]
      refine wpAnyH_take (i := 44) (v := undef) rfl (by kernel_rfl) (by kernel_rfl) (by kernel_rfl) (fun _ _ _ h => h) (Or.inr ⟨by kernel_rfl, rfl⟩) (by assumption) ?_
      try simp only [Act.put, List.setIfInBounds_toArray, List.set_cons_zero, List.set_cons_succ]
      refine wpAnyH_take (i := 45) (v := .bool true) rfl (by kernel_rfl) (by kernel_rfl) (by kernel_rfl) (fun _ _ _ h => h) (Or.inl ⟨by kernel_rfl, ?_⟩) (by assumption) ?_
      · (intro w hSw; (try dsimp only at hSw); go_simp)
      try simp only [Act.put, List.setIfInBounds_toArray, List.set_cons_zero, List.set_cons_succ]
      refine wpAnyH_ready (rs := [0]) (by kernel_rfl) (by simp) ?_
      refine AllReadyH.cons rfl (fun K hK => ?_) AllReadyH.nil
      rw [if_pos (by rfl)]
      have hmm := @run_makeMap Tryd.prog
      go_simp
      refine hK.out _ _ ?_ (fun hHeld => ?_)
      · exact KB.out _ (Bl.alloc (Bl.self _ 1) _)
      clear hK K hmm
      try simp only [Act.put, List.setIfInBounds_toArray, List.set_cons_zero, List.set_cons_succ]
      refine fill5 (M := M5 Tryd.prog 9 4 sp w'.drew) (by intro b1 b2 b3 b4 b5 hne; cases b1 <;> cases b2 <;> cases b3 <;> cases b4 <;> cases b5 <;> first | exact absurd rfl hne | kernel_rfl) (fun _ _ _ _ _ W hm => KB.out _ (Bl.then (Bl.self _ 1) hm.2)) ?i1 ?i2 ?i3 ?i4 ?i5 ?fin 5 false false false false false rfl _ ?st
      case i1 => exact fun b2 b3 b4 b5 W K hm hk => step_ins (c := 107) (sp := sp) (w0 := w'.drew) Tryd.underlying9 Tryd.underlying4 Tryd.underlying80 rfl rfl (.tmp 12) (.tmp 17) rfl rfl rfl (by rw [HS1.out]; rfl) hm (let5_l1 b2 b3 b4 b5) (let5_p1 b2 b3 b4 b5) hk
      case i2 => exact fun b1 b3 b4 b5 W K hm hk => step_ins (c := 118) (sp := sp) (w0 := w'.drew) Tryd.underlying9 Tryd.underlying4 Tryd.underlying80 rfl rfl (.tmp 12) (.tmp 22) rfl rfl rfl (by rw [HS2.out]; rfl) hm (let5_l2 b1 b3 b4 b5) (let5_p2 b1 b3 b4 b5) hk
      case i3 => exact fun b1 b2 b4 b5 W K hm hk => step_ins (c := 114) (sp := sp) (w0 := w'.drew) Tryd.underlying9 Tryd.underlying4 Tryd.underlying80 rfl rfl (.tmp 12) (.tmp 28) rfl rfl rfl (by rw [HS3.out]; rfl) hm (let5_l3 b1 b2 b4 b5) (let5_p3 b1 b2 b4 b5) hk
      case i4 => exact fun b1 b2 b3 b5 W K hm hk => step_ins (c := 98) (sp := sp) (w0 := w'.drew) Tryd.underlying9 Tryd.underlying4 Tryd.underlying80 rfl rfl (.tmp 12) (.tmp 40) rfl rfl rfl (by rw [HS4.out]; rfl) hm (let5_l4 b1 b2 b3 b5) (let5_p4 b1 b2 b3 b5) hk
      case i5 => exact fun b1 b2 b3 b4 W K hm hk => step_ins (c := 108) (sp := sp) (w0 := w'.drew) Tryd.underlying9 Tryd.underlying4 Tryd.underlying80 rfl rfl (.tmp 12) (.tmp 53) rfl rfl rfl (by rw [HS5.out]; rfl) hm (let5_l5 b1 b2 b3 b4) (let5_p5 b1 b2 b3 b4) hk
      case st => exact ⟨⟨.map [], 0, World.ownsMap_made _ _ _ _, Nat.zero_le _, Fill.nil _⟩, Bl.alloc (Below.refl _ _) _⟩
      case fin =>
        intro W2 hm
        have hS2 := KB.out _ (Bl.then (Bl.self _ 1) hm.2)
        obtain ⟨⟨D, n, hown, hn5, hF⟩, hbl⟩ := hm
        refine wpAnyH_take (i := 47) (v := .map (some w'.drew.heap.size)) rfl (by kernel_rfl) (by kernel_rfl) (by kernel_rfl) (fun _ _ _ h => h) (Or.inl ⟨by kernel_rfl, ?_⟩) (by assumption) ?_
        · (intro w hSw; (try dsimp only at hSw); go_simp)
        try simp only [Act.put, List.setIfInBounds_toArray, List.set_cons_zero, List.set_cons_succ]
        refine wpAnyH_take (i := 48) (v := .map (some w'.drew.heap.size)) rfl (by kernel_rfl) (by kernel_rfl) (by kernel_rfl) (fun _ _ _ h => h) (Or.inl ⟨by kernel_rfl, ?_⟩) (by assumption) ?_
        · (intro w hSw; (try dsimp only at hSw); go_simp)
        try simp only [Act.put, List.setIfInBounds_toArray, List.set_cons_zero, List.set_cons_succ]
        refine wpAnyH_done (by kernel_rfl) ?_ _
        have HBL := Lib.hid (Bl.then (Bl.self w' 1) hbl)
        have HF := Lib.hid hF
        generalize w'.drew.heap.size = mb at *
        clear hS2 hbl hF hH hHeld
        go_wp2_with (first | (at_range; refine wpList_range_own _ rfl _ 80 rfl 9 4 law9 Tryd.underlying80 _ mb n _ rfl hown ?_; intro w0 hrg0 hg0 hs0) | go_in)
        go_frame
        have HR0 := Lib.hid hrg0
        have HB0 := Lib.hid (Below.grown HBL.out hg0 HBL.out.size (fun q hq => by cases hq))
        clear hrg0 hg0 hs0 hown
        have HRB := Lib.hid (HBL.out.size)
        generalize W2.heap.size = rb at *
        go_loopw [5] (fun _ wr => ∃ (left : Lit → Bool) (cnt : Nat), wr.ranges Tryd.prog 9 (plainElem (H := Unit) Tryd.prog 4) mb rb n D left cnt ∧ Below w'.heap.size w' wr ∧ (∀ kl, left kl = true → Maps.has D kl = true) ∧ ∀ c ∈ ([107, 118, 114, 98, 108] : List UInt8), left (.string [c]) = false → okB ⟨k, key, val, pl, wd, ls, mask, busy, reads⟩ c = true) (fun _ wr => wr.rangeLeft mb rb)
        case atStart => exact ⟨_, _, HR0.out, HB0.out, fun kl h => h, fun c hc h => absurd ((HF.out.2.1 c (by exact hc)).1.symm.trans h) (by decide)⟩
        case round =>
          obtain ⟨left, cnt, hrg, hbw, hlh, hlo⟩ := hrel
          have HB := Lib.hid hbw
          have HLH := Lib.hid hlh
          have HLO := Lib.hid hlo
          have HRG := Lib.hid hrg
          clear hbw hlh hlo hrg HR0 HB0
          go_wp2_with (first | (at_next; refine wpList_next_letter Tryd.underlying9 Tryd.underlying4 rfl _ rfl sp [107, 118, 114, 98, 108] mb rb n D left cnt HF.out HLH.out rfl HRG.out ?_ ?_) | go_in)
          · intro hl0
            have HA := Lib.hid (YES.out (fun c hc => HLO.out c hc (hl0 _)))
            clear hl0
            go_wp2
            go_ret
            exact ⟨by rw [HA.out]; rfl, HB.out⟩
          · intro ch w1 cnt1 hN
            obtain ⟨hchl, hrg1, hlt, hg1, hen⟩ := hN
            obtain ⟨c, hcs⟩ : ∃ c, sp ch = c := ⟨_, rfl⟩
            rw [hcs] at hen
            have hcs := hcs.symm
            have HB1 := Lib.hid (Below.grown HB.out hg1 HB.out.size (fun q hq => by cases hq; exact HRB.out))
            have HRG1 := Lib.hid hrg1
            have HLT := Lib.hid hlt
            have HCH := Lib.hid hchl
            have NXT := Lib.hid (fun (hok : okB ⟨k, key, val, pl, wd, ls, mask, busy, reads⟩ ch = true) => show (∀ kl, (left kl && !kl.sameKey (.string [ch])) = true → Maps.has D kl = true) ∧ ∀ c ∈ ([107, 118, 114, 98, 108] : List UInt8), (left (.string [c]) && !(Lit.string [c]).sameKey (.string [ch])) = false → okB ⟨k, key, val, pl, wd, ls, mask, busy, reads⟩ c = true from ⟨fun kl h => HLH.out kl (by simp only [Bool.and_eq_true] at h; exact h.1), fun d hd h => by
              by_cases hdc : d = ch
              · rw [hdc]; exact hok
              · have hsk : (Lit.string [d]).sameKey (.string [ch]) = false := sameKey_ne (fun e => hdc (by simpa using e))
                rw [hsk, Bool.not_false, Bool.and_true] at h
                exact HLO.out d hd h⟩)
            have HOK := Lib.hid (OKS.out ch)
            have HCS := Lib.hid hcs
            try rw [← hcs]
            clear hrg1 hlt hg1 hcs hchl
            cases c with
            | false =>
              go_wp2
              go_roundw
              case rel => exact ⟨_, cnt1, HRG1.out, HB1.out, (NXT.out (by rw [HOK.out, ← HCS.out]; rfl)).1, (NXT.out (by rw [HOK.out, ← HCS.out]; rfl)).2⟩
              case measure => rw [HRG1.out.left_eq, HRG.out.left_eq]; exact HLT.out
            | true =>
              obtain ⟨z, hz⟩ : ∃ z, decide (0 ≤ Lib.indexByte nm ch) = z := ⟨_, rfl⟩
              have CT1 := Lib.hid (CT.out ch w1)
              rw [hz] at CT1 HOK
              clear hz
              cases z with
              | true =>
                go_wp2_with (go_at_call 41; refine CT1.out.mono ?_; rintro e w9 ⟨rfl, rfl⟩)
                go_roundw
                case rel => exact ⟨_, cnt1, HRG1.out, HB1.out, (NXT.out (by rw [HOK.out, Bool.or_true])).1, (NXT.out (by rw [HOK.out, Bool.or_true])).2⟩
                case measure => rw [HRG1.out.left_eq, HRG.out.left_eq]; exact HLT.out
              | false =>
                have HA := Lib.hid (NO.out ch HCH.out (by rw [HOK.out, ← HCS.out]; rfl))
                go_wp2_with (go_at_call 41; refine CT1.out.mono ?_; rintro e w9 ⟨rfl, rfl⟩)
                go_ret
                exact ⟨by rw [HA.out]; rfl, HB1.out⟩
    | false =>
      refine wp_region_held_drew (S := fun W => W.cell? ⟨g, 1, none⟩ = some (.string key) ∧ W.cell? ⟨g, 2, none⟩ = some (.string val) ∧ W.cell? ⟨g, 3, none⟩ = some (.int .i64 pl) ∧ W.cell? ⟨g, 4, none⟩ = some (.int .i64 wd) ∧ W.cell? ⟨g, 5, none⟩ = some (.int .i64 ls) ∧ W.cell? ⟨g, 7, none⟩ = some (.slice bA bn bc) ∧ W.cell? ⟨g, 8, none⟩ = some (.slice rA rn rc)) (by kernel_rfl) (KB.out _ (Bl.self _ 1)) (fun hH => ?_)
      refine wpAnyH_take (i := 1) (v := .pointer (some ⟨g, 0, none⟩)) rfl (by kernel_rfl) (by kernel_rfl) (by kernel_rfl) (fun _ _ _ h => h) (Or.inl ⟨by kernel_rfl, ?_⟩) (by assumption) ?_
      · (intro w hSw; (try dsimp only at hSw); go_simp)
      try simp only [Act.put, List.setIfInBounds_toArray, List.set_cons_zero, List.set_cons_succ]
      refine wpAnyH_take (i := 2) (v := .pointer (some ⟨g, 0, none⟩)) rfl (by kernel_rfl) (by kernel_rfl) (by kernel_rfl) (fun _ _ _ h => h) (Or.inl ⟨by kernel_rfl, ?_⟩) (by assumption) ?_
      · (intro w hSw; (try dsimp only at hSw); go_simp)
      try simp only [Act.put, List.setIfInBounds_toArray, List.set_cons_zero, List.set_cons_succ]
      refine wpAnyH_take (i := 3) (v := .pointer (some ⟨g, 1, none⟩)) rfl (by kernel_rfl) (by kernel_rfl) (by kernel_rfl) (fun _ _ _ h => h) (Or.inl ⟨by kernel_rfl, ?_⟩) (by assumption) ?_
      · (intro w hSw; (try dsimp only at hSw); go_simp)
      try simp only [Act.put, List.setIfInBounds_toArray, List.set_cons_zero, List.set_cons_succ]
      refine wpAnyH_take (i := 4) (v := .string key) rfl (by kernel_rfl) (by kernel_rfl) (by kernel_rfl) (fun _ _ _ h => h) (Or.inl ⟨by kernel_rfl, ?_⟩) (by assumption) ?_
      · (intro w hSw; (try dsimp only at hSw); go_simp)
      try simp only [Act.put, List.setIfInBounds_toArray, List.set_cons_zero, List.set_cons_succ]
      refine wpAnyH_take (i := 5) (v := .bool (!key.toList.isEmpty)) rfl (by kernel_rfl) (by kernel_rfl) (by kernel_rfl) (fun _ _ _ h => h) (Or.inl ⟨by kernel_rfl, ?_⟩) (by assumption) ?_
      · (intro w hSw; (try dsimp only at hSw); go_simp)
      try simp only [Act.put, List.setIfInBounds_toArray, List.set_cons_zero, List.set_cons_succ]
      refine wpAnyH_take (i := 7) (v := .pointer (some ⟨g, 0, none⟩)) rfl (by kernel_rfl) (by kernel_rfl) (by kernel_rfl) (fun _ _ _ h => h) (Or.inl ⟨by kernel_rfl, ?_⟩) (by assumption) ?_
      · (intro w hSw; (try dsimp only at hSw); go_simp)
      try simp only [Act.put, List.setIfInBounds_toArray, List.set_cons_zero, List.set_cons_succ]
      refine wpAnyH_take (i := 8) (v := .pointer (some ⟨g, 0, none⟩)) rfl (by kernel_rfl) (by kernel_rfl) (by kernel_rfl) (fun _ _ _ h => h) (Or.inl ⟨by kernel_rfl, ?_⟩) (by assumption) ?_
      · (intro w hSw; (try dsimp only at hSw); go_simp)
      try simp only [Act.put, List.setIfInBounds_toArray, List.set_cons_zero, List.set_cons_succ]
      refine wpAnyH_take (i := 9) (v := .pointer (some ⟨g, 2, none⟩)) rfl (by kernel_rfl) (by kernel_rfl) (by kernel_rfl) (fun _ _ _ h => h) (Or.inl ⟨by kernel_rfl, ?_⟩) (by assumption) ?_
      · (intro w hSw; (try dsimp only at hSw); go_simp)
      try simp only [Act.put, List.setIfInBounds_toArray, List.set_cons_zero, List.set_cons_succ]
      refine wpAnyH_take (i := 10) (v := .string val) rfl (by kernel_rfl) (by kernel_rfl) (by kernel_rfl) (fun _ _ _ h => h) (Or.inl ⟨by kernel_rfl, ?_⟩) (by assumption) ?_
      · (intro w hSw; (try dsimp only at hSw); go_simp)
      try simp only [Act.put, List.setIfInBounds_toArray, List.set_cons_zero, List.set_cons_succ]
      refine wpAnyH_take (i := 11) (v := .bool (!val.toList.isEmpty)) rfl (by kernel_rfl) (by kernel_rfl) (by kernel_rfl) (fun _ _ _ h => h) (Or.inl ⟨by kernel_rfl, ?_⟩) (by assumption) ?_
      · (intro w hSw; (try dsimp only at hSw); go_simp)
      try simp only [Act.put, List.setIfInBounds_toArray, List.set_cons_zero, List.set_cons_succ]
      refine wpAnyH_take (i := 13) (v := .pointer (some ⟨g, 0, none⟩)) rfl (by kernel_rfl) (by kernel_rfl) (by kernel_rfl) (fun _ _ _ h => h) (Or.inl ⟨by kernel_rfl, ?_⟩) (by assumption) ?_
      · (intro w hSw; (try dsimp only at hSw); go_simp)
      try simp only [Act.put, List.setIfInBounds_toArray, List.set_cons_zero, List.set_cons_succ]
      refine wpAnyH_take (i := 14) (v := .pointer (some ⟨g, 0, none⟩)) rfl (by kernel_rfl) (by kernel_rfl) (by kernel_rfl) (fun _ _ _ h => h) (Or.inl ⟨by kernel_rfl, ?_⟩) (by assumption) ?_
      · (intro w hSw; (try dsimp only at hSw); go_simp)
      try simp only [Act.put, List.setIfInBounds_toArray, List.set_cons_zero, List.set_cons_succ]
      refine wpAnyH_take (i := 15) (v := .pointer (some ⟨g, 8, none⟩)) rfl (by kernel_rfl) (by kernel_rfl) (by kernel_rfl) (fun _ _ _ h => h) (Or.inl ⟨by kernel_rfl, ?_⟩) (by assumption) ?_
      · (intro w hSw; (try dsimp only at hSw); go_simp)
      try simp only [Act.put, List.setIfInBounds_toArray, List.set_cons_zero, List.set_cons_succ]
      refine wpAnyH_take (i := 16) (v := .slice rA rn rc) rfl (by kernel_rfl) (by kernel_rfl) (by kernel_rfl) (fun _ _ _ h => h) (Or.inl ⟨by kernel_rfl, ?_⟩) (by assumption) ?_
      · (intro w hSw; (try dsimp only at hSw); go_simp)
      try simp only [Act.put, List.setIfInBounds_toArray, List.set_cons_zero, List.set_cons_succ]
      refine wpAnyH_take (i := 17) (v := .int .i64 rn) rfl (by kernel_rfl) (by kernel_rfl) (by kernel_rfl) (fun _ _ _ h => h) (Or.inl ⟨by kernel_rfl, ?_⟩) (by assumption) ?_
      · (intro w hSw; (try dsimp only at hSw); go_simp)
      try simp only [Act.put, List.setIfInBounds_toArray, List.set_cons_zero, List.set_cons_succ]
      refine wpAnyH_take (i := 18) (v := .bool (decide (0 < rn))) rfl (by kernel_rfl) (by kernel_rfl) (by kernel_rfl) (fun _ _ _ h => h) (Or.inl ⟨by kernel_rfl, ?_⟩) (by assumption) ?_
      · (intro w hSw; (try dsimp only at hSw); go_simp)
      try simp only [Act.put, List.setIfInBounds_toArray, List.set_cons_zero, List.set_cons_succ]
      refine wpAnyH_take (i := 20) (v := .pointer (some ⟨g, 0, none⟩)) rfl (by kernel_rfl) (by kernel_rfl) (by kernel_rfl) (fun _ _ _ h => h) (Or.inl ⟨by kernel_rfl, ?_⟩) (by assumption) ?_
      · (intro w hSw; (try dsimp only at hSw); go_simp)
      try simp only [Act.put, List.setIfInBounds_toArray, List.set_cons_zero, List.set_cons_succ]
      refine wpAnyH_take (i := 21) (v := .pointer (some ⟨g, 0, none⟩)) rfl (by kernel_rfl) (by kernel_rfl) (by kernel_rfl) (fun _ _ _ h => h) (Or.inl ⟨by kernel_rfl, ?_⟩) (by assumption) ?_
      · (intro w hSw; (try dsimp only at hSw); go_simp)
      try simp only [Act.put, List.setIfInBounds_toArray, List.set_cons_zero, List.set_cons_succ]
      refine wpAnyH_take (i := 22) (v := .pointer (some ⟨g, 3, none⟩)) rfl (by kernel_rfl) (by kernel_rfl) (by kernel_rfl) (fun _ _ _ h => h) (Or.inl ⟨by kernel_rfl, ?_⟩) (by assumption) ?_
      · (intro w hSw; (try dsimp only at hSw); go_simp)
      try simp only [Act.put, List.setIfInBounds_toArray, List.set_cons_zero, List.set_cons_succ]
      refine wpAnyH_take (i := 23) (v := .int .i64 pl) rfl (by kernel_rfl) (by kernel_rfl) (by kernel_rfl) (fun _ _ _ h => h) (Or.inl ⟨by kernel_rfl, ?_⟩) (by assumption) ?_
      · (intro w hSw; (try dsimp only at hSw); go_simp)
      try simp only [Act.put, List.setIfInBounds_toArray, List.set_cons_zero, List.set_cons_succ]
      refine wpAnyH_take (i := 24) (v := .bool true) rfl (by kernel_rfl) (by kernel_rfl) (by kernel_rfl) (fun _ _ _ h => h) (Or.inl ⟨by kernel_rfl, ?_⟩) (by assumption) ?_
      · (intro w hSw; (try dsimp only at hSw); go_simp)
      try simp only [Act.put, List.setIfInBounds_toArray, List.set_cons_zero, List.set_cons_succ]
      refine wpAnyH_take (i := 25) (v := .bool true) rfl (by kernel_rfl) (by kernel_rfl) (by kernel_rfl) (fun _ _ _ h => h) (Or.inl ⟨by kernel_rfl, ?_⟩) (by assumption) ?_
      · (intro w hSw; (try dsimp only at hSw); go_simp)
      try simp only [Act.put, List.setIfInBounds_toArray, List.set_cons_zero, List.set_cons_succ]
      refine wpAnyH_take (i := 26) (v := undef) rfl (by kernel_rfl) (by kernel_rfl) (by kernel_rfl) (fun _ _ _ h => h) (Or.inr ⟨by kernel_rfl, rfl⟩) (by assumption) ?_
      try simp only [Act.put, List.setIfInBounds_toArray, List.set_cons_zero, List.set_cons_succ]
      refine wpAnyH_take (i := 27) (v := undef) rfl (by kernel_rfl) (by kernel_rfl) (by kernel_rfl) (fun _ _ _ h => h) (Or.inr ⟨by kernel_rfl, rfl⟩) (by assumption) ?_
      try simp only [Act.put, List.setIfInBounds_toArray, List.set_cons_zero, List.set_cons_succ]
      refine wpAnyH_take (i := 28) (v := undef) rfl (by kernel_rfl) (by kernel_rfl) (by kernel_rfl) (fun _ _ _ h => h) (Or.inr ⟨by kernel_rfl, rfl⟩) (by assumption) ?_
      try simp only [Act.put, List.setIfInBounds_toArray, List.set_cons_zero, List.set_cons_succ]
      refine wpAnyH_take (i := 29) (v := undef) rfl (by kernel_rfl) (by kernel_rfl) (by kernel_rfl) (fun _ _ _ h => h) (Or.inr ⟨by kernel_rfl, rfl⟩) (by assumption) ?_
      try simp only [Act.put, List.setIfInBounds_toArray, List.set_cons_zero, List.set_cons_succ]
      refine wpAnyH_take (i := 30) (v := undef) rfl (by kernel_rfl) (by kernel_rfl) (by kernel_rfl) (fun _ _ _ h => h) (Or.inr ⟨by kernel_rfl, rfl⟩) (by assumption) ?_
      try simp only [Act.put, List.setIfInBounds_toArray, List.set_cons_zero, List.set_cons_succ]
      refine wpAnyH_take (i := 31) (v := .bool true) rfl (by kernel_rfl) (by kernel_rfl) (by kernel_rfl) (fun _ _ _ h => h) (Or.inl ⟨by kernel_rfl, ?_⟩) (by assumption) ?_
      · (intro w hSw; (try dsimp only at hSw); go_simp)
      try simp only [Act.put, List.setIfInBounds_toArray, List.set_cons_zero, List.set_cons_succ]
      refine wpAnyH_take (i := 33) (v := .pointer (some ⟨g, 0, none⟩)) rfl (by kernel_rfl) (by kernel_rfl) (by kernel_rfl) (fun _ _ _ h => h) (Or.inl ⟨by kernel_rfl, ?_⟩) (by assumption) ?_
      · (intro w hSw; (try dsimp only at hSw); go_simp)
      try simp only [Act.put, List.setIfInBounds_toArray, List.set_cons_zero, List.set_cons_succ]
      refine wpAnyH_take (i := 34) (v := .pointer (some ⟨g, 0, none⟩)) rfl (by kernel_rfl) (by kernel_rfl) (by kernel_rfl) (fun _ _ _ h => h) (Or.inl ⟨by kernel_rfl, ?_⟩) (by assumption) ?_
      · (intro w hSw; (try dsimp only at hSw); go_simp)
      try simp only [Act.put, List.setIfInBounds_toArray, List.set_cons_zero, List.set_cons_succ]
      refine wpAnyH_take (i := 35) (v := .pointer (some ⟨g, 5, none⟩)) rfl (by kernel_rfl) (by kernel_rfl) (by kernel_rfl) (fun _ _ _ h => h) (Or.inl ⟨by kernel_rfl, ?_⟩) (by assumption) ?_
      · (intro w hSw; (try dsimp only at hSw); go_simp)
      try simp only [Act.put, List.setIfInBounds_toArray, List.set_cons_zero, List.set_cons_succ]
      refine wpAnyH_take (i := 36) (v := .int .i64 ls) rfl (by kernel_rfl) (by kernel_rfl) (by kernel_rfl) (fun _ _ _ h => h) (Or.inl ⟨by kernel_rfl, ?_⟩) (by assumption) ?_
      · (intro w hSw; (try dsimp only at hSw); go_simp)
      try simp only [Act.put, List.setIfInBounds_toArray, List.set_cons_zero, List.set_cons_succ]
      refine wpAnyH_take (i := 37) (v := .bool false) rfl (by kernel_rfl) (by kernel_rfl) (by kernel_rfl) (fun _ _ _ h => h) (Or.inl ⟨by kernel_rfl, ?_⟩) (by assumption) ?_
      · (intro w hSw; (try dsimp only at hSw); go_simp)
      try simp only [Act.put, List.setIfInBounds_toArray, List.set_cons_zero, List.set_cons_succ]
      refine wpAnyH_take (i := 38) (v := .bool false) rfl (by kernel_rfl) (by kernel_rfl) (by kernel_rfl) (fun _ _ _ h => h) (Or.inl ⟨by kernel_rfl, ?_⟩) (by assumption) ?_
      · (intro w hSw; (try dsimp only at hSw); go_simp)
      try simp only [Act.put, List.setIfInBounds_toArray, List.set_cons_zero, List.set_cons_succ]
      refine wpAnyH_take (i := 39) (v := .pointer (some ⟨g, 0, none⟩)) rfl (by kernel_rfl) (by kernel_rfl) (by kernel_rfl) (fun _ _ _ h => h) (Or.inl ⟨by kernel_rfl, ?_⟩) (by assumption) ?_
      · (intro w hSw; (try dsimp only at hSw); go_simp)
      try simp only [Act.put, List.setIfInBounds_toArray, List.set_cons_zero, List.set_cons_succ]
      refine wpAnyH_take (i := 40) (v := .pointer (some ⟨g, 0, none⟩)) rfl (by kernel_rfl) (by kernel_rfl) (by kernel_rfl) (fun _ _ _ h => h) (Or.inl ⟨by kernel_rfl, ?_⟩) (by assumption) ?_
      · (intro w hSw; (try dsimp only at hSw); go_simp)
      try simp only [Act.put, List.setIfInBounds_toArray, List.set_cons_zero, List.set_cons_succ]
      refine wpAnyH_take (i := 41) (v := .pointer (some ⟨g, 7, none⟩)) rfl (by kernel_rfl) (by kernel_rfl) (by kernel_rfl) (fun _ _ _ h => h) (Or.inl ⟨by kernel_rfl, ?_⟩) (by assumption) ?_
      · (intro w hSw; (try dsimp only at hSw); go_simp)
      try simp only [Act.put, List.setIfInBounds_toArray, List.set_cons_zero, List.set_cons_succ]
      refine wpAnyH_take (i := 42) (v := .slice bA bn bc) rfl (by kernel_rfl) (by kernel_rfl) (by kernel_rfl) (fun _ _ _ h => h) (Or.inl ⟨by kernel_rfl, ?_⟩) (by assumption) ?_
      · (intro w hSw; (try dsimp only at hSw); go_simp)
      try simp only [Act.put, List.setIfInBounds_toArray, List.set_cons_zero, List.set_cons_succ]
      refine wpAnyH_take (i := 43) (v := .int .i64 bn) rfl (by kernel_rfl) (by kernel_rfl) (by kernel_rfl) (fun _ _ _ h => h) (Or.inl ⟨by kernel_rfl, ?_⟩) (by assumption) ?_
      · (intro w hSw; (try dsimp only at hSw); go_simp)
      try simp only [Act.put, List.setIfInBounds_toArray, List.set_cons_zero, List.set_cons_succ]
      refine wpAnyH_take (i := 44) (v := .bool (decide (0 < bn))) rfl (by kernel_rfl) (by kernel_rfl) (by kernel_rfl) (fun _ _ _ h => h) (Or.inl ⟨by kernel_rfl, ?_⟩) (by assumption) ?_
      · (intro w hSw; (try dsimp only at hSw); go_simp)
      try simp only [Act.put, List.setIfInBounds_toArray, List.set_cons_zero, List.set_cons_succ]
      refine wpAnyH_take (i := 45) (v := .bool (decide (0 < bn))) rfl (by kernel_rfl) (by kernel_rfl) (by kernel_rfl) (fun _ _ _ h => h) (Or.inl ⟨by kernel_rfl, ?_⟩) (by assumption) ?_
      · (intro w hSw; (try dsimp only at hSw); go_simp)
      try simp only [Act.put, List.setIfInBounds_toArray, List.set_cons_zero, List.set_cons_succ]
      refine wpAnyH_ready (rs := [0]) (by kernel_rfl) (by simp) ?_
      refine AllReadyH.cons rfl (fun K hK => ?_) AllReadyH.nil
      rw [if_pos (by rfl)]
      have hmm := @run_makeMap Tryd.prog
      go_simp
      refine hK.out _ _ ?_ (fun hHeld => ?_)
      · exact KB.out _ (Bl.alloc (Bl.self _ 1) _)
      clear hK K hmm
      try simp only [Act.put, List.setIfInBounds_toArray, List.set_cons_zero, List.set_cons_succ]
      refine fill5 (M := M5 Tryd.prog 9 4 sp w'.drew) (by intro b1 b2 b3 b4 b5 hne; cases b1 <;> cases b2 <;> cases b3 <;> cases b4 <;> cases b5 <;> first | exact absurd rfl hne | kernel_rfl) (fun _ _ _ _ _ W hm => KB.out _ (Bl.then (Bl.self _ 1) hm.2)) ?i1 ?i2 ?i3 ?i4 ?i5 ?fin 5 false false false false false rfl _ ?st
      case i1 => exact fun b2 b3 b4 b5 W K hm hk => step_ins (c := 107) (sp := sp) (w0 := w'.drew) Tryd.underlying9 Tryd.underlying4 Tryd.underlying80 rfl rfl (.tmp 12) (.tmp 17) rfl rfl rfl (by rw [HS1.out]; rfl) hm (let5_l1 b2 b3 b4 b5) (let5_p1 b2 b3 b4 b5) hk
      case i2 => exact fun b1 b3 b4 b5 W K hm hk => step_ins (c := 118) (sp := sp) (w0 := w'.drew) Tryd.underlying9 Tryd.underlying4 Tryd.underlying80 rfl rfl (.tmp 12) (.tmp 22) rfl rfl rfl (by rw [HS2.out]; rfl) hm (let5_l2 b1 b3 b4 b5) (let5_p2 b1 b3 b4 b5) hk
      case i3 => exact fun b1 b2 b4 b5 W K hm hk => step_ins (c := 114) (sp := sp) (w0 := w'.drew) Tryd.underlying9 Tryd.underlying4 Tryd.underlying80 rfl rfl (.tmp 12) (.tmp 28) rfl rfl rfl (by rw [HS3.out]; rfl) hm (let5_l3 b1 b2 b4 b5) (let5_p3 b1 b2 b4 b5) hk
      case i4 => exact fun b1 b2 b3 b5 W K hm hk => step_ins (c := 98) (sp := sp) (w0 := w'.drew) Tryd.underlying9 Tryd.underlying4 Tryd.underlying80 rfl rfl (.tmp 12) (.tmp 40) rfl rfl rfl (by rw [HS4.out]; rfl) hm (let5_l4 b1 b2 b3 b5) (let5_p4 b1 b2 b3 b5) hk
      case i5 => exact fun b1 b2 b3 b4 W K hm hk => step_ins (c := 108) (sp := sp) (w0 := w'.drew) Tryd.underlying9 Tryd.underlying4 Tryd.underlying80 rfl rfl (.tmp 12) (.tmp 53) rfl rfl rfl (by rw [HS5.out]; rfl) hm (let5_l5 b1 b2 b3 b4) (let5_p5 b1 b2 b3 b4) hk
      case st => exact ⟨⟨.map [], 0, World.ownsMap_made _ _ _ _, Nat.zero_le _, Fill.nil _⟩, Bl.alloc (Below.refl _ _) _⟩
      case fin =>
        intro W2 hm
        have hS2 := KB.out _ (Bl.then (Bl.self _ 1) hm.2)
        obtain ⟨⟨D, n, hown, hn5, hF⟩, hbl⟩ := hm
        refine wpAnyH_take (i := 47) (v := .map (some w'.drew.heap.size)) rfl (by kernel_rfl) (by kernel_rfl) (by kernel_rfl) (fun _ _ _ h => h) (Or.inl ⟨by kernel_rfl, ?_⟩) (by assumption) ?_
        · (intro w hSw; (try dsimp only at hSw); go_simp)
        try simp only [Act.put, List.setIfInBounds_toArray, List.set_cons_zero, List.set_cons_succ]
        refine wpAnyH_take (i := 48) (v := .map (some w'.drew.heap.size)) rfl (by kernel_rfl) (by kernel_rfl) (by kernel_rfl) (fun _ _ _ h => h) (Or.inl ⟨by kernel_rfl, ?_⟩) (by assumption) ?_
        · (intro w hSw; (try dsimp only at hSw); go_simp)
        try simp only [Act.put, List.setIfInBounds_toArray, List.set_cons_zero, List.set_cons_succ]
        refine wpAnyH_done (by kernel_rfl) ?_ _
        have HBL := Lib.hid (Bl.then (Bl.self w' 1) hbl)
        have HF := Lib.hid hF
        generalize w'.drew.heap.size = mb at *
        clear hS2 hbl hF hH hHeld
        go_wp2_with (first | (at_range; refine wpList_range_own _ rfl _ 80 rfl 9 4 law9 Tryd.underlying80 _ mb n _ rfl hown ?_; intro w0 hrg0 hg0 hs0) | go_in)
        go_frame
        have HR0 := Lib.hid hrg0
        have HB0 := Lib.hid (Below.grown HBL.out hg0 HBL.out.size (fun q hq => by cases hq))
        clear hrg0 hg0 hs0 hown
        have HRB := Lib.hid (HBL.out.size)
        generalize W2.heap.size = rb at *
        go_loopw [5] (fun _ wr => ∃ (left : Lit → Bool) (cnt : Nat), wr.ranges Tryd.prog 9 (plainElem (H := Unit) Tryd.prog 4) mb rb n D left cnt ∧ Below w'.heap.size w' wr ∧ (∀ kl, left kl = true → Maps.has D kl = true) ∧ ∀ c ∈ ([107, 118, 114, 98, 108] : List UInt8), left (.string [c]) = false → okB ⟨k, key, val, pl, wd, ls, mask, busy, reads⟩ c = true) (fun _ wr => wr.rangeLeft mb rb)
        case atStart => exact ⟨_, _, HR0.out, HB0.out, fun kl h => h, fun c hc h => absurd ((HF.out.2.1 c (by exact hc)).1.symm.trans h) (by decide)⟩
        case round =>
          obtain ⟨left, cnt, hrg, hbw, hlh, hlo⟩ := hrel
          have HB := Lib.hid hbw
          have HLH := Lib.hid hlh
          have HLO := Lib.hid hlo
          have HRG := Lib.hid hrg
          clear hbw hlh hlo hrg HR0 HB0
          go_wp2_with (first | (at_next; refine wpList_next_letter Tryd.underlying9 Tryd.underlying4 rfl _ rfl sp [107, 118, 114, 98, 108] mb rb n D left cnt HF.out HLH.out rfl HRG.out ?_ ?_) | go_in)
          · intro hl0
            have HA := Lib.hid (YES.out (fun c hc => HLO.out c hc (hl0 _)))
            clear hl0
            go_wp2
            go_ret
            exact ⟨by rw [HA.out]; rfl, HB.out⟩
          · intro ch w1 cnt1 hN
            obtain ⟨hchl, hrg1, hlt, hg1, hen⟩ := hN
            obtain ⟨c, hcs⟩ : ∃ c, sp ch = c := ⟨_, rfl⟩
            rw [hcs] at hen
            have hcs := hcs.symm
            have HB1 := Lib.hid (Below.grown HB.out hg1 HB.out.size (fun q hq => by cases hq; exact HRB.out))
            have HRG1 := Lib.hid hrg1
            have HLT := Lib.hid hlt
            have HCH := Lib.hid hchl
            have NXT := Lib.hid (fun (hok : okB ⟨k, key, val, pl, wd, ls, mask, busy, reads⟩ ch = true) => show (∀ kl, (left kl && !kl.sameKey (.string [ch])) = true → Maps.has D kl = true) ∧ ∀ c ∈ ([107, 118, 114, 98, 108] : List UInt8), (left (.string [c]) && !(Lit.string [c]).sameKey (.string [ch])) = false → okB ⟨k, key, val, pl, wd, ls, mask, busy, reads⟩ c = true from ⟨fun kl h => HLH.out kl (by simp only [Bool.and_eq_true] at h; exact h.1), fun d hd h => by
              by_cases hdc : d = ch
              · rw [hdc]; exact hok
              · have hsk : (Lit.string [d]).sameKey (.string [ch]) = false := sameKey_ne (fun e => hdc (by simpa using e))
                rw [hsk, Bool.not_false, Bool.and_true] at h
                exact HLO.out d hd h⟩)
            have HOK := Lib.hid (OKS.out ch)
            have HCS := Lib.hid hcs
            try rw [← hcs]
            clear hrg1 hlt hg1 hcs hchl
            cases c with
            | false =>
              go_wp2
              go_roundw
              case rel => exact ⟨_, cnt1, HRG1.out, HB1.out, (NXT.out (by rw [HOK.out, ← HCS.out]; rfl)).1, (NXT.out (by rw [HOK.out, ← HCS.out]; rfl)).2⟩
              case measure => rw [HRG1.out.left_eq, HRG.out.left_eq]; exact HLT.out
            | true =>
              obtain ⟨z, hz⟩ : ∃ z, decide (0 ≤ Lib.indexByte nm ch) = z := ⟨_, rfl⟩
              have CT1 := Lib.hid (CT.out ch w1)
              rw [hz] at CT1 HOK
              clear hz
              cases z with
              | true =>
                go_wp2_with (go_at_call 41; refine CT1.out.mono ?_; rintro e w9 ⟨rfl, rfl⟩)
                go_roundw
                case rel => exact ⟨_, cnt1, HRG1.out, HB1.out, (NXT.out (by rw [HOK.out, Bool.or_true])).1, (NXT.out (by rw [HOK.out, Bool.or_true])).2⟩
                case measure => rw [HRG1.out.left_eq, HRG.out.left_eq]; exact HLT.out
              | false =>
                have HA := Lib.hid (NO.out ch HCH.out (by rw [HOK.out, ← HCS.out]; rfl))
                go_wp2_with (go_at_call 41; refine CT1.out.mono ?_; rintro e w9 ⟨rfl, rfl⟩)
                go_ret
                exact ⟨by rw [HA.out]; rfl, HB1.out⟩
  | false =>
    cases q5 with
    | true =>
      refine wp_region_held_drew (S := fun W => W.cell? ⟨g, 1, none⟩ = some (.string key) ∧ W.cell? ⟨g, 2, none⟩ = some (.string val) ∧ W.cell? ⟨g, 3, none⟩ = some (.int .i64 pl) ∧ W.cell? ⟨g, 4, none⟩ = some (.int .i64 wd) ∧ W.cell? ⟨g, 5, none⟩ = some (.int .i64 ls) ∧ W.cell? ⟨g, 7, none⟩ = some (.slice bA bn bc) ∧ W.cell? ⟨g, 8, none⟩ = some (.slice rA rn rc)) (by kernel_rfl) (KB.out _ (Bl.self _ 1)) (fun hH => ?_)
      refine wpAnyH_take (i := 1) (v := .pointer (some ⟨g, 0, none⟩)) rfl (by kernel_rfl) (by kernel_rfl) (by kernel_rfl) (fun _ _ _ h => h) (Or.inl ⟨by kernel_rfl, ?_⟩) (by assumption) ?_
      · (intro w hSw; (try dsimp only at hSw); go_simp)
      try simp only [Act.put, List.setIfInBounds_toArray, List.set_cons_zero, List.set_cons_succ]
      refine wpAnyH_take (i := 2) (v := .pointer (some ⟨g, 0, none⟩)) rfl (by kernel_rfl) (by kernel_rfl) (by kernel_rfl) (fun _ _ _ h => h) (Or.inl ⟨by kernel_rfl, ?_⟩) (by assumption) ?_
      · (intro w hSw; (try dsimp only at hSw); go_simp)
      try simp only [Act.put, List.setIfInBounds_toArray, List.set_cons_zero, List.set_cons_succ]
      refine wpAnyH_take (i := 3) (v := .pointer (some ⟨g, 1, none⟩)) rfl (by kernel_rfl) (by kernel_rfl) (by kernel_rfl) (fun _ _ _ h => h) (Or.inl ⟨by kernel_rfl, ?_⟩) (by assumption) ?_
      · (intro w hSw; (try dsimp only at hSw); go_simp)
      try simp only [Act.put, List.setIfInBounds_toArray, List.set_cons_zero, List.set_cons_succ]
      refine wpAnyH_take (i := 4) (v := .string key) rfl (by kernel_rfl) (by kernel_rfl) (by kernel_rfl) (fun _ _ _ h => h) (Or.inl ⟨by kernel_rfl, ?_⟩) (by assumption) ?_
      · (intro w hSw; (try dsimp only at hSw); go_simp)
      try simp only [Act.put, List.setIfInBounds_toArray, List.set_cons_zero, List.set_cons_succ]
      refine wpAnyH_take (i := 5) (v := .bool (!key.toList.isEmpty)) rfl (by kernel_rfl) (by kernel_rfl) (by kernel_rfl) (fun _ _ _ h => h) (Or.inl ⟨by kernel_rfl, ?_⟩) (by assumption) ?_
      · (intro w hSw; (try dsimp only at hSw); go_simp)
      try simp only [Act.put, List.setIfInBounds_toArray, List.set_cons_zero, List.set_cons_succ]
      refine wpAnyH_take (i := 7) (v := .pointer (some ⟨g, 0, none⟩)) rfl (by kernel_rfl) (by kernel_rfl) (by kernel_rfl) (fun _ _ _ h => h) (Or.inl ⟨by kernel_rfl, ?_⟩) (by assumption) ?_
      · (intro w hSw; (try dsimp only at hSw); go_simp)
      try simp only [Act.put, List.setIfInBounds_toArray, List.set_cons_zero, List.set_cons_succ]
      refine wpAnyH_take (i := 8) (v := .pointer (some ⟨g, 0, none⟩)) rfl (by kernel_rfl) (by kernel_rfl) (by kernel_rfl) (fun _ _ _ h => h) (Or.inl ⟨by kernel_rfl, ?_⟩) (by assumption) ?_
      · (intro w hSw; (try dsimp only at hSw); go_simp)
      try simp only [Act.put, List.setIfInBounds_toArray, List.set_cons_zero, List.set_cons_succ]
      refine wpAnyH_take (i := 9) (v := .pointer (some ⟨g, 2, none⟩)) rfl (by kernel_rfl) (by kernel_rfl) (by kernel_rfl) (fun _ _ _ h => h) (Or.inl ⟨by kernel_rfl, ?_⟩) (by assumption) ?_
      · (intro w hSw; (try dsimp only at hSw); go_simp)
      try simp only [Act.put, List.setIfInBounds_toArray, List.set_cons_zero, List.set_cons_succ]
      refine wpAnyH_take (i := 10) (v := .string val) rfl (by kernel_rfl) (by kernel_rfl) (by kernel_rfl) (fun _ _ _ h => h) (Or.inl ⟨by kernel_rfl, ?_⟩) (by assumption) ?_
      · (intro w hSw; (try dsimp only at hSw); go_simp)
      try simp only [Act.put, List.setIfInBounds_toArray, List.set_cons_zero, List.set_cons_succ]
      refine wpAnyH_take (i := 11) (v := .bool (!val.toList.isEmpty)) rfl (by kernel_rfl) (by kernel_rfl) (by kernel_rfl) (fun _ _ _ h => h) (Or.inl ⟨by kernel_rfl, ?_⟩) (by assumption) ?_
      · (intro w hSw; (try dsimp only at hSw); go_simp)
      try simp only [Act.put, List.setIfInBounds_toArray, List.set_cons_zero, List.set_cons_succ]
      refine wpAnyH_take (i := 13) (v := .pointer (some ⟨g, 0, none⟩)) rfl (by kernel_rfl) (by kernel_rfl) (by kernel_rfl) (fun _ _ _ h => h) (Or.inl ⟨by kernel_rfl, ?_⟩) (by assumption) ?_
      · (intro w hSw; (try dsimp only at hSw); go_simp)
      try simp only [Act.put, List.setIfInBounds_toArray, List.set_cons_zero, List.set_cons_succ]
      refine wpAnyH_take (i := 14) (v := .pointer (some ⟨g, 0, none⟩)) rfl (by kernel_rfl) (by kernel_rfl) (by kernel_rfl) (fun _ _ _ h => h) (Or.inl ⟨by kernel_rfl, ?_⟩) (by assumption) ?_
      · (intro w hSw; (try dsimp only at hSw); go_simp)
      try simp only [Act.put, List.setIfInBounds_toArray, List.set_cons_zero, List.set_cons_succ]
      refine wpAnyH_take (i := 15) (v := .pointer (some ⟨g, 8, none⟩)) rfl (by kernel_rfl) (by kernel_rfl) (by kernel_rfl) (fun _ _ _ h => h) (Or.inl ⟨by kernel_rfl, ?_⟩) (by assumption) ?_
      · (intro w hSw; (try dsimp only at hSw); go_simp)
      try simp only [Act.put, List.setIfInBounds_toArray, List.set_cons_zero, List.set_cons_succ]
      refine wpAnyH_take (i := 16) (v := .slice rA rn rc) rfl (by kernel_rfl) (by kernel_rfl) (by kernel_rfl) (fun _ _ _ h => h) (Or.inl ⟨by kernel_rfl, ?_⟩) (by assumption) ?_
      · (intro w hSw; (try dsimp only at hSw); go_simp)
      try simp only [Act.put, List.setIfInBounds_toArray, List.set_cons_zero, List.set_cons_succ]
      refine wpAnyH_take (i := 17) (v := .int .i64 rn) rfl (by kernel_rfl) (by kernel_rfl) (by kernel_rfl) (fun _ _ _ h => h) (Or.inl ⟨by kernel_rfl, ?_⟩) (by assumption) ?_
      · (intro w hSw; (try dsimp only at hSw); go_simp)
      try simp only [Act.put, List.setIfInBounds_toArray, List.set_cons_zero, List.set_cons_succ]
      refine wpAnyH_take (i := 18) (v := .bool (decide (0 < rn))) rfl (by kernel_rfl) (by kernel_rfl) (by kernel_rfl) (fun _ _ _ h => h) (Or.inl ⟨by kernel_rfl, ?_⟩) (by assumption) ?_
      · (intro w hSw; (try dsimp only at hSw); go_simp)
      try simp only [Act.put, List.setIfInBounds_toArray, List.set_cons_zero, List.set_cons_succ]
      refine wpAnyH_take (i := 20) (v := .pointer (some ⟨g, 0, none⟩)) rfl (by kernel_rfl) (by kernel_rfl) (by kernel_rfl) (fun _ _ _ h => h) (Or.inl ⟨by kernel_rfl, ?_⟩) (by assumption) ?_
      · (intro w hSw; (try dsimp only at hSw); go_simp)
      try simp only [Act.put, List.setIfInBounds_toArray, List.set_cons_zero, List.set_cons_succ]
      refine wpAnyH_take (i := 21) (v := .pointer (some ⟨g, 0, none⟩)) rfl (by kernel_rfl) (by kernel_rfl) (by kernel_rfl) (fun _ _ _ h => h) (Or.inl ⟨by kernel_rfl, ?_⟩) (by assumption) ?_
      · (intro w hSw; (try dsimp only at hSw); go_simp)
      try simp only [Act.put, List.setIfInBounds_toArray, List.set_cons_zero, List.set_cons_succ]
      refine wpAnyH_take (i := 22) (v := .pointer (some ⟨g, 3, none⟩)) rfl (by kernel_rfl) (by kernel_rfl) (by kernel_rfl) (fun _ _ _ h => h) (Or.inl ⟨by kernel_rfl, ?_⟩) (by assumption) ?_
      · (intro w hSw; (try dsimp only at hSw); go_simp)
      try simp only [Act.put, List.setIfInBounds_toArray, List.set_cons_zero, List.set_cons_succ]
      refine wpAnyH_take (i := 23) (v := .int .i64 pl) rfl (by kernel_rfl) (by kernel_rfl) (by kernel_rfl) (fun _ _ _ h => h) (Or.inl ⟨by kernel_rfl, ?_⟩) (by assumption) ?_
      · (intro w hSw; (try dsimp only at hSw); go_simp)
      try simp only [Act.put, List.setIfInBounds_toArray, List.set_cons_zero, List.set_cons_succ]
      refine wpAnyH_take (i := 24) (v := .bool false) rfl (by kernel_rfl) (by kernel_rfl) (by kernel_rfl) (fun _ _ _ h => h) (Or.inl ⟨by kernel_rfl, ?_⟩) (by assumption) ?_
      · (intro w hSw; (try dsimp only at hSw); go_simp)
      try simp only [Act.put, List.setIfInBounds_toArray, List.set_cons_zero, List.set_cons_succ]
      refine wpAnyH_take (i := 25) (v := .bool false) rfl (by kernel_rfl) (by kernel_rfl) (by kernel_rfl) (fun _ _ _ h => h) (Or.inl ⟨by kernel_rfl, ?_⟩) (by assumption) ?_
      · (intro w hSw; (try dsimp only at hSw); go_simp)
      try simp only [Act.put, List.setIfInBounds_toArray, List.set_cons_zero, List.set_cons_succ]
      refine wpAnyH_take (i := 26) (v := .pointer (some ⟨g, 0, none⟩)) rfl (by kernel_rfl) (by kernel_rfl) (by kernel_rfl) (fun _ _ _ h => h) (Or.inl ⟨by kernel_rfl, ?_⟩) (by assumption) ?_
      · (intro w hSw; (try dsimp only at hSw); go_simp)
      try simp only [Act.put, List.setIfInBounds_toArray, List.set_cons_zero, List.set_cons_succ]
      refine wpAnyH_take (i := 27) (v := .pointer (some ⟨g, 0, none⟩)) rfl (by kernel_rfl) (by kernel_rfl) (by kernel_rfl) (fun _ _ _ h => h) (Or.inl ⟨by kernel_rfl, ?_⟩) (by assumption) ?_
      · (intro w hSw; (try dsimp only at hSw); go_simp)
      try simp only [Act.put, List.setIfInBounds_toArray, List.set_cons_zero, List.set_cons_succ]
      refine wpAnyH_take (i := 28) (v := .pointer (some ⟨g, 4, none⟩)) rfl (by kernel_rfl) (by kernel_rfl) (by kernel_rfl) (fun _ _ _ h => h) (Or.inl ⟨by kernel_rfl, ?_⟩) (by assumption) ?_
      · (intro w hSw; (try dsimp only at hSw); go_simp)
      try simp only [Act.put, List.setIfInBounds_toArray, List.set_cons_zero, List.set_cons_succ]
      refine wpAnyH_take (i := 29) (v := .int .i64 wd) rfl (by kernel_rfl) (by kernel_rfl) (by kernel_rfl) (fun _ _ _ h => h) (Or.inl ⟨by kernel_rfl, ?_⟩) (by assumption) ?_
      · (intro w hSw; (try dsimp only at hSw); go_simp)
      try simp only [Act.put, List.setIfInBounds_toArray, List.set_cons_zero, List.set_cons_succ]
      refine wpAnyH_take (i := 30) (v := .bool (wd != 0)) rfl (by kernel_rfl) (by kernel_rfl) (by kernel_rfl) (fun _ _ _ h => h) (Or.inl ⟨by kernel_rfl, ?_⟩) (by assumption) ?_
      · (intro w hSw; (try dsimp only at hSw); go_simp)
      try simp only [Act.put, List.setIfInBounds_toArray, List.set_cons_zero, List.set_cons_succ]
      refine wpAnyH_take (i := 31) (v := .bool (wd != 0)) rfl (by kernel_rfl) (by kernel_rfl) (by kernel_rfl) (fun _ _ _ h => h) (Or.inl ⟨by kernel_rfl, ?_⟩) (by assumption) ?_
      · (intro w hSw; (try dsimp only at hSw); go_simp)
      try simp only [Act.put, List.setIfInBounds_toArray, List.set_cons_zero, List.set_cons_succ]
      refine wpAnyH_take (i := 33) (v := .pointer (some ⟨g, 0, none⟩)) rfl (by kernel_rfl) (by kernel_rfl) (by kernel_rfl) (fun _ _ _ h => h) (Or.inl ⟨by kernel_rfl, ?_⟩) (by assumption) ?_
      · (intro w hSw; (try dsimp only at hSw); go_simp)
      try simp only [Act.put, List.setIfInBounds_toArray, List.set_cons_zero, List.set_cons_succ]
      refine wpAnyH_take (i := 34) (v := .pointer (some ⟨g, 0, none⟩)) rfl (by kernel_rfl) (by kernel_rfl) (by kernel_rfl) (fun _ _ _ h => h) (Or.inl ⟨by kernel_rfl, ?_⟩) (by assumption) ?_
      · (intro w hSw; (try dsimp only at hSw); go_simp)
      try simp only [Act.put, List.setIfInBounds_toArray, List.set_cons_zero, List.set_cons_succ]
      refine wpAnyH_take (i := 35) (v := .pointer (some ⟨g, 5, none⟩)) rfl (by kernel_rfl) (by kernel_rfl) (by kernel_rfl) (fun _ _ _ h => h) (Or.inl ⟨by kernel_rfl, ?_⟩) (by assumption) ?_
      · (intro w hSw; (try dsimp only at hSw); go_simp)
      try simp only [Act.put, List.setIfInBounds_toArray, List.set_cons_zero, List.set_cons_succ]
      refine wpAnyH_take (i := 36) (v := .int .i64 ls) rfl (by kernel_rfl) (by kernel_rfl) (by kernel_rfl) (fun _ _ _ h => h) (Or.inl ⟨by kernel_rfl, ?_⟩) (by assumption) ?_
      · (intro w hSw; (try dsimp only at hSw); go_simp)
      try simp only [Act.put, List.setIfInBounds_toArray, List.set_cons_zero, List.set_cons_succ]
      refine wpAnyH_take (i := 37) (v := .bool true) rfl (by kernel_rfl) (by kernel_rfl) (by kernel_rfl) (fun _ _ _ h => h) (Or.inl ⟨by kernel_rfl, ?_⟩) (by assumption) ?_
      · (intro w hSw; (try dsimp only at hSw); go_simp)
      try simp only [Act.put, List.setIfInBounds_toArray, List.set_cons_zero, List.set_cons_succ]
      refine wpAnyH_take (i := 38) (v := .bool true) rfl (by kernel_rfl) (by kernel_rfl) (by kernel_rfl) (fun _ _ _ h => h) (Or.inl ⟨by kernel_rfl, ?_⟩) (by assumption) ?_
      · (intro w hSw; (try dsimp only at hSw); go_simp)
      try simp only [Act.put, List.setIfInBounds_toArray, List.set_cons_zero, List.set_cons_succ]
      refine wpAnyH_take (i := 39) (v := undef) rfl (by kernel_rfl) (by kernel_rfl) (by kernel_rfl) (fun _ _ _ h => h) (Or.inr ⟨by kernel_rfl, rfl⟩) (by assumption) ?_
      try simp only [Act.put, List.setIfInBounds_toArray, List.set_cons_zero, List.set_cons_succ]
      refine wpAnyH_take (i := 40) (v := undef) rfl (by kernel_rfl) (by kernel_rfl) (by kernel_rfl) (fun _ _ _ h => h) (Or.inr ⟨by kernel_rfl, rfl⟩) (by assumption) ?_
      try simp only [Act.put, List.setIfInBounds_toArray, List.set_cons_zero, List.set_cons_succ]
      refine wpAnyH_take (i := 41) (v := undef) rfl (by kernel_rfl) (by kernel_rfl) (by kernel_rfl) (fun _ _ _ h => h) (Or.inr ⟨by kernel_rfl, rfl⟩) (by assumption) ?_
      try simp only [Act.put, List.setIfInBounds_toArray, List.set_cons_zero, List.set_cons_succ]
      refine wpAnyH_take (i := 42) (v := undef) rfl (by kernel_rfl) (by kernel_rfl) (by kernel_rfl) (fun _ _ _ h => h) (Or.inr ⟨by kernel_rfl, rfl⟩) (by assumption) ?_
      try simp only [Act.put, List.setIfInBounds_toArray, List.set_cons_zero, List.set_cons_succ]
      refine wpAnyH_take (i := 43) (v := undef) rfl (by kernel_rfl) (by kernel_rfl) (by kernel_rfl) (fun _ _ _ h => h) (Or.inr ⟨by kernel_rfl, rfl⟩) (by assumption) ?_
      try simp only [Act.put, List.setIfInBounds_toArray, List.set_cons_zero, List.set_cons_succ]
      refine wpAnyH_take (i := 44) (v := undef) rfl (by kernel_rfl) (by kernel_rfl) (by kernel_rfl) (fun _ _ _ h => h) (Or.inr ⟨by kernel_rfl, rfl⟩) (by assumption) ?_
      try simp only [Act.put, List.setIfInBounds_toArray, List.set_cons_zero, List.set_cons_succ]
      refine wpAnyH_take (i := 45) (v := .bool true) rfl (by kernel_rfl) (by kernel_rfl) (by kernel_rfl) (fun _ _ _ h => h) (Or.inl ⟨by kernel_rfl, ?_⟩) (by assumption) ?_
      · (intro w hSw; (try dsimp only at hSw); go_simp)
      try simp only [Act.put, List.setIfInBounds_toArray, List.set_cons_zero, List.set_cons_succ]
      refine wpAnyH_ready (rs := [0]) (by kernel_rfl) (by simp) ?_
      refine AllReadyH.cons rfl (fun K hK => ?_) AllReadyH.nil
      rw [if_pos (by rfl)]
      have hmm := @run_makeMap Tryd.prog
      go_simp
      refine hK.out _ _ ?_ (fun hHeld => ?_)
      · exact KB.out _ (Bl.alloc (Bl.self _ 1) _)
      clear hK K hmm
      try simp only [Act.put, List.setIfInBounds_toArray, List.set_cons_zero, List.set_cons_succ]
      refine fill5 (M := M5 Tryd.prog 9 4 sp w'.drew) (by intro b1 b2 b3 b4 b5 hne; cases b1 <;> cases b2 <;> cases b3 <;> cases b4 <;> cases b5 <;> first | exact absurd rfl hne | kernel_rfl) (fun _ _ _ _ _ W hm => KB.out _ (Bl.then (Bl.self _ 1) hm.2)) ?i1 ?i2 ?i3 ?i4 ?i5 ?fin 5 false false false false false rfl _ ?st
      case i1 => exact fun b2 b3 b4 b5 W K hm hk => step_ins (c := 107) (sp := sp) (w0 := w'.drew) Tryd.underlying9 Tryd.underlying4 Tryd.underlying80 rfl rfl (.tmp 12) (.tmp 17) rfl rfl rfl (by rw [HS1.out]; rfl) hm (let5_l1 b2 b3 b4 b5) (let5_p1 b2 b3 b4 b5) hk
      case i2 => exact fun b1 b3 b4 b5 W K hm hk => step_ins (c := 118) (sp := sp) (w0 := w'.drew) Tryd.underlying9 Tryd.underlying4 Tryd.underlying80 rfl rfl (.tmp 12) (.tmp 22) rfl rfl rfl (by rw [HS2.out]; rfl) hm (let5_l2 b1 b3 b4 b5) (let5_p2 b1 b3 b4 b5) hk
      case i3 => exact fun b1 b2 b4 b5 W K hm hk => step_ins (c := 114) (sp := sp) (w0 := w'.drew) Tryd.underlying9 Tryd.underlying4 Tryd.underlying80 rfl rfl (.tmp 12) (.tmp 28) rfl rfl rfl (by rw [HS3.out]; rfl) hm (let5_l3 b1 b2 b4 b5) (let5_p3 b1 b2 b4 b5) hk
      case i4 => exact fun b1 b2 b3 b5 W K hm hk => step_ins (c := 98) (sp := sp) (w0 := w'.drew) Tryd.underlying9 Tryd.underlying4 Tryd.underlying80 rfl rfl (.tmp 12) (.tmp 40) rfl rfl rfl (by rw [HS4.out]; rfl) hm (let5_l4 b1 b2 b3 b5) (let5_p4 b1 b2 b3 b5) hk
      case i5 => exact fun b1 b2 b3 b4 W K hm hk => step_ins (c := 108) (sp := sp) (w0 := w'.drew) Tryd.underlying9 Tryd.underlying4 Tryd.underlying80 rfl rfl (.tmp 12) (.tmp 53) rfl rfl rfl (by rw [HS5.out]; rfl) hm (let5_l5 b1 b2 b3 b4) (let5_p5 b1 b2 b3 b4) hk
      case st => exact ⟨⟨.map [], 0, World.ownsMap_made _ _ _ _, Nat.zero_le _, Fill.nil _⟩, Bl.alloc (Below.refl _ _) _⟩
      case fin =>
        intro W2 hm
        have hS2 := KB.out _ (Bl.then (Bl.self _ 1) hm.2)
        obtain ⟨⟨D, n, hown, hn5, hF⟩, hbl⟩ := hm
        refine wpAnyH_take (i := 47) (v := .map (some w'.drew.heap.size)) rfl (by kernel_rfl) (by kernel_rfl) (by kernel_rfl) (fun _ _ _ h => h) (Or.inl ⟨by kernel_rfl, ?_⟩) (by assumption) ?_
        · (intro w hSw; (try dsimp only at hSw); go_simp)
        try simp only [Act.put, List.setIfInBounds_toArray, List.set_cons_zero, List.set_cons_succ]
        refine wpAnyH_take (i := 48) (v := .map (some w'.drew.heap.size)) rfl (by kernel_rfl) (by kernel_rfl) (by kernel_rfl) (fun _ _ _ h => h) (Or.inl ⟨by kernel_rfl, ?_⟩) (by assumption) ?_
        · (intro w hSw; (try dsimp only at hSw); go_simp)
        try simp only [Act.put, List.setIfInBounds_toArray, List.set_cons_zero, List.set_cons_succ]
        refine wpAnyH_done (by kernel_rfl) ?_ _
        have HBL := Lib.hid (Bl.then (Bl.self w' 1) hbl)
        have HF := Lib.hid hF
        generalize w'.drew.heap.size = mb at *
        clear hS2 hbl hF hH hHeld
        go_wp2_with (first | (at_range; refine wpList_range_own _ rfl _ 80 rfl 9 4 law9 Tryd.underlying80 _ mb n _ rfl hown ?_; intro w0 hrg0 hg0 hs0) | go_in)
        go_frame
        have HR0 := Lib.hid hrg0
        have HB0 := Lib.hid (Below.grown HBL.out hg0 HBL.out.size (fun q hq => by cases hq))
        clear hrg0 hg0 hs0 hown
        have HRB := Lib.hid (HBL.out.size)
        generalize W2.heap.size = rb at *
        go_loopw [5] (fun _ wr => ∃ (left : Lit → Bool) (cnt : Nat), wr.ranges Tryd.prog 9 (plainElem (H := Unit) Tryd.prog 4) mb rb n D left cnt ∧ Below w'.heap.size w' wr ∧ (∀ kl, left kl = true → Maps.has D kl = true) ∧ ∀ c ∈ ([107, 118, 114, 98, 108] : List UInt8), left (.string [c]) = false → okB ⟨k, key, val, pl, wd, ls, mask, busy, reads⟩ c = true) (fun _ wr => wr.rangeLeft mb rb)
        case atStart => exact ⟨_, _, HR0.out, HB0.out, fun kl h => h, fun c hc h => absurd ((HF.out.2.1 c (by exact hc)).1.symm.trans h) (by decide)⟩
        case round =>
          obtain ⟨left, cnt, hrg, hbw, hlh, hlo⟩ := hrel
          have HB := Lib.hid hbw
          have HLH := Lib.hid hlh
          have HLO := Lib.hid hlo
          have HRG := Lib.hid hrg
          clear hbw hlh hlo hrg HR0 HB0
          go_wp2_with (first | (at_next; refine wpList_next_letter Tryd.underlying9 Tryd.underlying4 rfl _ rfl sp [107, 118, 114, 98, 108] mb rb n D left cnt HF.out HLH.out rfl HRG.out ?_ ?_) | go_in)
          · intro hl0
            have HA := Lib.hid (YES.out (fun c hc => HLO.out c hc (hl0 _)))
            clear hl0
            go_wp2
            go_ret
            exact ⟨by rw [HA.out]; rfl, HB.out⟩
          · intro ch w1 cnt1 hN
            obtain ⟨hchl, hrg1, hlt, hg1, hen⟩ := hN
            obtain ⟨c, hcs⟩ : ∃ c, sp ch = c := ⟨_, rfl⟩
            rw [hcs] at hen
            have hcs := hcs.symm
            have HB1 := Lib.hid (Below.grown HB.out hg1 HB.out.size (fun q hq => by cases hq; exact HRB.out))
            have HRG1 := Lib.hid hrg1
            have HLT := Lib.hid hlt
            have HCH := Lib.hid hchl
            have NXT := Lib.hid (fun (hok : okB ⟨k, key, val, pl, wd, ls, mask, busy, reads⟩ ch = true) => show (∀ kl, (left kl && !kl.sameKey (.string [ch])) = true → Maps.has D kl = true) ∧ ∀ c ∈ ([107, 118, 114, 98, 108] : List UInt8), (left (.string [c]) && !(Lit.string [c]).sameKey (.string [ch])) = false → okB ⟨k, key, val, pl, wd, ls, mask, busy, reads⟩ c = true from ⟨fun kl h => HLH.out kl (by simp only [Bool.and_eq_true] at h; exact h.1), fun d hd h => by
              by_cases hdc : d = ch
              · rw [hdc]; exact hok
              · have hsk : (Lit.string [d]).sameKey (.string [ch]) = false := sameKey_ne (fun e => hdc (by simpa using e))
                rw [hsk, Bool.not_false, Bool.and_true] at h
                exact HLO.out d hd h⟩)
            have HOK := Lib.hid (OKS.out ch)
            have HCS := Lib.hid hcs
            try rw [← hcs]
            clear hrg1 hlt hg1 hcs hchl
            cases c with
            | false =>
              go_wp2
              go_roundw
              case rel => exact ⟨_, cnt1, HRG1.out, HB1.out, (NXT.out (by rw [HOK.out, ← HCS.out]; rfl)).1, (NXT.out (by rw [HOK.out, ← HCS.out]; rfl)).2⟩
              case measure => rw [HRG1.out.left_eq, HRG.out.left_eq]; exact HLT.out
            | true =>
              obtain ⟨z, hz⟩ : ∃ z, decide (0 ≤ Lib.indexByte nm ch) = z := ⟨_, rfl⟩
              have CT1 := Lib.hid (CT.out ch w1)
              rw [hz] at CT1 HOK
              clear hz
              cases z with
              | true =>
                go_wp2_with (go_at_call 41; refine CT1.out.mono ?_; rintro e w9 ⟨rfl, rfl⟩)
                go_roundw
                case rel => exact ⟨_, cnt1, HRG1.out, HB1.out, (NXT.out (by rw [HOK.out, Bool.or_true])).1, (NXT.out (by rw [HOK.out, Bool.or_true])).2⟩
                case measure => rw [HRG1.out.left_eq, HRG.out.left_eq]; exact HLT.out
              | false =>
                have HA := Lib.hid (NO.out ch HCH.out (by rw [HOK.out, ← HCS.out]; rfl))
                go_wp2_with (go_at_call 41; refine CT1.out.mono ?_; rintro e w9 ⟨rfl, rfl⟩)
                go_ret
                exact ⟨by rw [HA.out]; rfl, HB1.out⟩
    | false =>
      refine wp_region_held_drew (S := fun W => W.cell? ⟨g, 1, none⟩ = some (.string key) ∧ W.cell? ⟨g, 2, none⟩ = some (.string val) ∧ W.cell? ⟨g, 3, none⟩ = some (.int .i64 pl) ∧ W.cell? ⟨g, 4, none⟩ = some (.int .i64 wd) ∧ W.cell? ⟨g, 5, none⟩ = some (.int .i64 ls) ∧ W.cell? ⟨g, 7, none⟩ = some (.slice bA bn bc) ∧ W.cell? ⟨g, 8, none⟩ = some (.slice rA rn rc)) (by kernel_rfl) (KB.out _ (Bl.self _ 1)) (fun hH => ?_)
      refine wpAnyH_take (i := 1) (v := .pointer (some ⟨g, 0, none⟩)) rfl (by kernel_rfl) (by kernel_rfl) (by kernel_rfl) (fun _ _ _ h => h) (Or.inl ⟨by kernel_rfl, ?_⟩) (by assumption) ?_
      · (intro w hSw; (try dsimp only at hSw); go_simp)
      try simp only [Act.put, List.setIfInBounds_toArray, List.set_cons_zero, List.set_cons_succ]
      refine wpAnyH_take (i := 2) (v := .pointer (some ⟨g, 0, none⟩)) rfl (by kernel_rfl) (by kernel_rfl) (by kernel_rfl) (fun _ _ _ h => h) (Or.inl ⟨by kernel_rfl, ?_⟩) (by assumption) ?_
      · (intro w hSw; (try dsimp only at hSw); go_simp)
      try simp only [Act.put, List.setIfInBounds_toArray, List.set_cons_zero, List.set_cons_succ]
      refine wpAnyH_take (i := 3) (v := .pointer (some ⟨g, 1, none⟩)) rfl (by kernel_rfl) (by kernel_rfl) (by kernel_rfl) (fun _ _ _ h => h) (Or.inl ⟨by kernel_rfl, ?_⟩) (by assumption) ?_
      · (intro w hSw; (try dsimp only at hSw); go_simp)
      try simp only [Act.put, List.setIfInBounds_toArray, List.set_cons_zero, List.set_cons_succ]
      refine wpAnyH_take (i := 4) (v := .string key) rfl (by kernel_rfl) (by kernel_rfl) (by kernel_rfl) (fun _ _ _ h => h) (Or.inl ⟨by kernel_rfl, ?_⟩) (by assumption) ?_
      · (intro w hSw; (try dsimp only at hSw); go_simp)
      try simp only [Act.put, List.setIfInBounds_toArray, List.set_cons_zero, List.set_cons_succ]
      refine wpAnyH_take (i := 5) (v := .bool (!key.toList.isEmpty)) rfl (by kernel_rfl) (by kernel_rfl) (by kernel_rfl) (fun _ _ _ h => h) (Or.inl ⟨by kernel_rfl, ?_⟩) (by assumption) ?_
      · (intro w hSw; (try dsimp only at hSw); go_simp)
      try simp only [Act.put, List.setIfInBounds_toArray, List.set_cons_zero, List.set_cons_succ]
      refine wpAnyH_take (i := 7) (v := .pointer (some ⟨g, 0, none⟩)) rfl (by kernel_rfl) (by kernel_rfl) (by kernel_rfl) (fun _ _ _ h => h) (Or.inl ⟨by kernel_rfl, ?_⟩) (by assumption) ?_
      · (intro w hSw; (try dsimp only at hSw); go_simp)
      try simp only [Act.put, List.setIfInBounds_toArray, List.set_cons_zero, List.set_cons_succ]
      refine wpAnyH_take (i := 8) (v := .pointer (some ⟨g, 0, none⟩)) rfl (by kernel_rfl) (by kernel_rfl) (by kernel_rfl) (fun _ _ _ h => h) (Or.inl ⟨by kernel_rfl, ?_⟩) (by assumption) ?_
      · (intro w hSw; (try dsimp only at hSw); go_simp)
      try simp only [Act.put, List.setIfInBounds_toArray, List.set_cons_zero, List.set_cons_succ]
      refine wpAnyH_take (i := 9) (v := .pointer (some ⟨g, 2, none⟩)) rfl (by kernel_rfl) (by kernel_rfl) (by kernel_rfl) (fun _ _ _ h => h) (Or.inl ⟨by kernel_rfl, ?_⟩) (by assumption) ?_
      · (intro w hSw; (try dsimp only at hSw); go_simp)
      try simp only [Act.put, List.setIfInBounds_toArray, List.set_cons_zero, List.set_cons_succ]
      refine wpAnyH_take (i := 10) (v := .string val) rfl (by kernel_rfl) (by kernel_rfl) (by kernel_rfl) (fun _ _ _ h => h) (Or.inl ⟨by kernel_rfl, ?_⟩) (by assumption) ?_
      · (intro w hSw; (try dsimp only at hSw); go_simp)
      try simp only [Act.put, List.setIfInBounds_toArray, List.set_cons_zero, List.set_cons_succ]
      refine wpAnyH_take (i := 11) (v := .bool (!val.toList.isEmpty)) rfl (by kernel_rfl) (by kernel_rfl) (by kernel_rfl) (fun _ _ _ h => h) (Or.inl ⟨by kernel_rfl, ?_⟩) (by assumption) ?_
      · (intro w hSw; (try dsimp only at hSw); go_simp)
      try simp only [Act.put, List.setIfInBounds_toArray, List.set_cons_zero, List.set_cons_succ]
      refine wpAnyH_take (i := 13) (v := .pointer (some ⟨g, 0, none⟩)) rfl (by kernel_rfl) (by kernel_rfl) (by kernel_rfl) (fun _ _ _ h => h) (Or.inl ⟨by kernel_rfl, ?_⟩) (by assumption) ?_
      · (intro w hSw; (try dsimp only at hSw); go_simp)
      try simp only [Act.put, List.setIfInBounds_toArray, List.set_cons_zero, List.set_cons_succ]
      refine wpAnyH_take (i := 14) (v := .pointer (some ⟨g, 0, none⟩)) rfl (by kernel_rfl) (by kernel_rfl) (by kernel_rfl) (fun _ _ _ h => h) (Or.inl ⟨by kernel_rfl, ?_⟩) (by assumption) ?_
      · (intro w hSw; (try dsimp only at hSw); go_simp)
      try simp only [Act.put, List.setIfInBounds_toArray, List.set_cons_zero, List.set_cons_succ]
      refine wpAnyH_take (i := 15) (v := .pointer (some ⟨g, 8, none⟩)) rfl (by kernel_rfl) (by kernel_rfl) (by kernel_rfl) (fun _ _ _ h => h) (Or.inl ⟨by kernel_rfl, ?_⟩) (by assumption) ?_
      · (intro w hSw; (try dsimp only at hSw); go_simp)
      try simp only [Act.put, List.setIfInBounds_toArray, List.set_cons_zero, List.set_cons_succ]
      refine wpAnyH_take (i := 16) (v := .slice rA rn rc) rfl (by kernel_rfl) (by kernel_rfl) (by kernel_rfl) (fun _ _ _ h => h) (Or.inl ⟨by kernel_rfl, ?_⟩) (by assumption) ?_
      · (intro w hSw; (try dsimp only at hSw); go_simp)
      try simp only [Act.put, List.setIfInBounds_toArray, List.set_cons_zero, List.set_cons_succ]
      refine wpAnyH_take (i := 17) (v := .int .i64 rn) rfl (by kernel_rfl) (by kernel_rfl) (by kernel_rfl) (fun _ _ _ h => h) (Or.inl ⟨by kernel_rfl, ?_⟩) (by assumption) ?_
      · (intro w hSw; (try dsimp only at hSw); go_simp)
      try simp only [Act.put, List.setIfInBounds_toArray, List.set_cons_zero, List.set_cons_succ]
      refine wpAnyH_take (i := 18) (v := .bool (decide (0 < rn))) rfl (by kernel_rfl) (by kernel_rfl) (by kernel_rfl) (fun _ _ _ h => h) (Or.inl ⟨by kernel_rfl, ?_⟩) (by assumption) ?_
      · (intro w hSw; (try dsimp only at hSw); go_simp)
      try simp only [Act.put, List.setIfInBounds_toArray, List.set_cons_zero, List.set_cons_succ]
      refine wpAnyH_take (i := 20) (v := .pointer (some ⟨g, 0, none⟩)) rfl (by kernel_rfl) (by kernel_rfl) (by kernel_rfl) (fun _ _ _ h => h) (Or.inl ⟨by kernel_rfl, ?_⟩) (by assumption) ?_
      · (intro w hSw; (try dsimp only at hSw); go_simp)
      try simp only [Act.put, List.setIfInBounds_toArray, List.set_cons_zero, List.set_cons_succ]
      refine wpAnyH_take (i := 21) (v := .pointer (some ⟨g, 0, none⟩)) rfl (by kernel_rfl) (by kernel_rfl) (by kernel_rfl) (fun _ _ _ h => h) (Or.inl ⟨by kernel_rfl, ?_⟩) (by assumption) ?_
      · (intro w hSw; (try dsimp only at hSw); go_simp)
      try simp only [Act.put, List.setIfInBounds_toArray, List.set_cons_zero, List.set_cons_succ]
      refine wpAnyH_take (i := 22) (v := .pointer (some ⟨g, 3, none⟩)) rfl (by kernel_rfl) (by kernel_rfl) (by kernel_rfl) (fun _ _ _ h => h) (Or.inl ⟨by kernel_rfl, ?_⟩) (by assumption) ?_
      · (intro w hSw; (try dsimp only at hSw); go_simp)
      try simp only [Act.put, List.setIfInBounds_toArray, List.set_cons_zero, List.set_cons_succ]
      refine wpAnyH_take (i := 23) (v := .int .i64 pl) rfl (by kernel_rfl) (by kernel_rfl) (by kernel_rfl) (fun _ _ _ h => h) (Or.inl ⟨by kernel_rfl, ?_⟩) (by assumption) ?_
      · (intro w hSw; (try dsimp only at hSw); go_simp)
      try simp only [Act.put, List.setIfInBounds_toArray, List.set_cons_zero, List.set_cons_succ]
      refine wpAnyH_take (i := 24) (v := .bool false) rfl (by kernel_rfl) (by kernel_rfl) (by kernel_rfl) (fun _ _ _ h => h) (Or.inl ⟨by kernel_rfl, ?_⟩) (by assumption) ?_
      · (intro w hSw; (try dsimp only at hSw); go_simp)
      try simp only [Act.put, List.setIfInBounds_toArray, List.set_cons_zero, List.set_cons_succ]
      refine wpAnyH_take (i := 25) (v := .bool false) rfl (by kernel_rfl) (by kernel_rfl) (by kernel_rfl) (fun _ _ _ h => h) (Or.inl ⟨by kernel_rfl, ?_⟩) (by assumption) ?_
      · (intro w hSw; (try dsimp only at hSw); go_simp)
      try simp only [Act.put, List.setIfInBounds_toArray, List.set_cons_zero, List.set_cons_succ]
      refine wpAnyH_take (i := 26) (v := .pointer (some ⟨g, 0, none⟩)) rfl (by kernel_rfl) (by kernel_rfl) (by kernel_rfl) (fun _ _ _ h => h) (Or.inl ⟨by kernel_rfl, ?_⟩) (by assumption) ?_
      · (intro w hSw; (try dsimp only at hSw); go_simp)
      try simp only [Act.put, List.setIfInBounds_toArray, List.set_cons_zero, List.set_cons_succ]
      refine wpAnyH_take (i := 27) (v := .pointer (some ⟨g, 0, none⟩)) rfl (by kernel_rfl) (by kernel_rfl) (by kernel_rfl) (fun _ _ _ h => h) (Or.inl ⟨by kernel_rfl, ?_⟩) (by assumption) ?_
      · (intro w hSw; (try dsimp only at hSw); go_simp)
      try simp only [Act.put, List.setIfInBounds_toArray, List.set_cons_zero, List.set_cons_succ]
      refine wpAnyH_take (i := 28) (v := .pointer (some ⟨g, 4, none⟩)) rfl (by kernel_rfl) (by kernel_rfl) (by kernel_rfl) (fun _ _ _ h => h) (Or.inl ⟨by kernel_rfl, ?_⟩) (by assumption) ?_
      · (intro w hSw; (try dsimp only at hSw); go_simp)
      try simp only [Act.put, List.setIfInBounds_toArray, List.set_cons_zero, List.set_cons_succ]
      refine wpAnyH_take (i := 29) (v := .int .i64 wd) rfl (by kernel_rfl) (by kernel_rfl) (by kernel_rfl) (fun _ _ _ h => h) (Or.inl ⟨by kernel_rfl, ?_⟩) (by assumption) ?_
      · (intro w hSw; (try dsimp only at hSw); go_simp)
      try simp only [Act.put, List.setIfInBounds_toArray, List.set_cons_zero, List.set_cons_succ]
      refine wpAnyH_take (i := 30) (v := .bool (wd != 0)) rfl (by kernel_rfl) (by kernel_rfl) (by kernel_rfl) (fun _ _ _ h => h) (Or.inl ⟨by kernel_rfl, ?_⟩) (by assumption) ?_
      · (intro w hSw; (try dsimp only at hSw); go_simp)
      try simp only [Act.put, List.setIfInBounds_toArray, List.set_cons_zero, List.set_cons_succ]
      refine wpAnyH_take (i := 31) (v := .bool (wd != 0)) rfl (by kernel_rfl) (by kernel_rfl) (by kernel_rfl) (fun _ _ _ h => h) (Or.inl ⟨by kernel_rfl, ?_⟩) (by assumption) ?_
      · (intro w hSw; (try dsimp only at hSw); go_simp)
      try simp only [Act.put, List.setIfInBounds_toArray, List.set_cons_zero, List.set_cons_succ]
      refine wpAnyH_take (i := 33) (v := .pointer (some ⟨g, 0, none⟩)) rfl (by kernel_rfl) (by kernel_rfl) (by kernel_rfl) (fun _ _ _ h => h) (Or.inl ⟨by kernel_rfl, ?_⟩) (by assumption) ?_
      · (intro w hSw; (try dsimp only at hSw); go_simp)
      try simp only [Act.put, List.setIfInBounds_toArray, List.set_cons_zero, List.set_cons_succ]
      refine wpAnyH_take (i := 34) (v := .pointer (some ⟨g, 0, none⟩)) rfl (by kernel_rfl) (by kernel_rfl) (by kernel_rfl) (fun _ _ _ h => h) (Or.inl ⟨by kernel_rfl, ?_⟩) (by assumption) ?_
      · (intro w hSw; (try dsimp only at hSw); go_simp)
      try simp only [Act.put, List.setIfInBounds_toArray, List.set_cons_zero, List.set_cons_succ]
      refine wpAnyH_take (i := 35) (v := .pointer (some ⟨g, 5, none⟩)) rfl (by kernel_rfl) (by kernel_rfl) (by kernel_rfl) (fun _ _ _ h => h) (Or.inl ⟨by kernel_rfl, ?_⟩) (by assumption) ?_
      · (intro w hSw; (try dsimp only at hSw); go_simp)
      try simp only [Act.put, List.setIfInBounds_toArray, List.set_cons_zero, List.set_cons_succ]
      refine wpAnyH_take (i := 36) (v := .int .i64 ls) rfl (by kernel_rfl) (by kernel_rfl) (by kernel_rfl) (fun _ _ _ h => h) (Or.inl ⟨by kernel_rfl, ?_⟩) (by assumption) ?_
      · (intro w hSw; (try dsimp only at hSw); go_simp)
      try simp only [Act.put, List.setIfInBounds_toArray, List.set_cons_zero, List.set_cons_succ]
      refine wpAnyH_take (i := 37) (v := .bool false) rfl (by kernel_rfl) (by kernel_rfl) (by kernel_rfl) (fun _ _ _ h => h) (Or.inl ⟨by kernel_rfl, ?_⟩) (by assumption) ?_
      · (intro w hSw; (try dsimp only at hSw); go_simp)
      try simp only [Act.put, List.setIfInBounds_toArray, List.set_cons_zero, List.set_cons_succ]
      refine wpAnyH_take (i := 38) (v := .bool false) rfl (by kernel_rfl) (by kernel_rfl) (by kernel_rfl) (fun _ _ _ h => h) (Or.inl ⟨by kernel_rfl, ?_⟩) (by assumption) ?_
      · (intro w hSw; (try dsimp only at hSw); go_simp)
      try simp only [Act.put, List.setIfInBounds_toArray, List.set_cons_zero, List.set_cons_succ]
      refine wpAnyH_take (i := 39) (v := .pointer (some ⟨g, 0, none⟩)) rfl (by kernel_rfl) (by kernel_rfl) (by kernel_rfl) (fun _ _ _ h => h) (Or.inl ⟨by kernel_rfl, ?_⟩) (by assumption) ?_
      · (intro w hSw; (try dsimp only at hSw); go_simp)
      try simp only [Act.put, List.setIfInBounds_toArray, List.set_cons_zero, List.set_cons_succ]
      refine wpAnyH_take (i := 40) (v := .pointer (some ⟨g, 0, none⟩)) rfl (by kernel_rfl) (by kernel_rfl) (by kernel_rfl) (fun _ _ _ h => h) (Or.inl ⟨by kernel_rfl, ?_⟩) (by assumption) ?_
      · (intro w hSw; (try dsimp only at hSw); go_simp)
      try simp only [Act.put, List.setIfInBounds_toArray, List.set_cons_zero, List.set_cons_succ]
      refine wpAnyH_take (i := 41) (v := .pointer (some ⟨g, 7, none⟩)) rfl (by kernel_rfl) (by kernel_rfl) (by kernel_rfl) (fun _ _ _ h => h) (Or.inl ⟨by kernel_rfl, ?_⟩) (by assumption) ?_
      · (intro w hSw; (try dsimp only at hSw); go_simp)
      try simp only [Act.put, List.setIfInBounds_toArray, List.set_cons_zero, List.set_cons_succ]
      refine wpAnyH_take (i := 42) (v := .slice bA bn bc) rfl (by kernel_rfl) (by kernel_rfl) (by kernel_rfl) (fun _ _ _ h => h) (Or.inl ⟨by kernel_rfl, ?_⟩) (by assumption) ?_
      · (intro w hSw; (try dsimp only at hSw); go_simp)
      try simp only [Act.put, List.setIfInBounds_toArray, List.set_cons_zero, List.set_cons_succ]
      refine wpAnyH_take (i := 43) (v := .int .i64 bn) rfl (by kernel_rfl) (by kernel_rfl) (by kernel_rfl) (fun _ _ _ h => h) (Or.inl ⟨by kernel_rfl, ?_⟩) (by assumption) ?_
      · (intro w hSw; (try dsimp only at hSw); go_simp)
      try simp only [Act.put, List.setIfInBounds_toArray, List.set_cons_zero, List.set_cons_succ]
      refine wpAnyH_take (i := 44) (v := .bool (decide (0 < bn))) rfl (by kernel_rfl) (by kernel_rfl) (by kernel_rfl) (fun _ _ _ h => h) (Or.inl ⟨by kernel_rfl, ?_⟩) (by assumption) ?_
      · (intro w hSw; (try dsimp only at hSw); go_simp)
      try simp only [Act.put, List.setIfInBounds_toArray, List.set_cons_zero, List.set_cons_succ]
      refine wpAnyH_take (i := 45) (v := .bool (decide (0 < bn))) rfl (by kernel_rfl) (by kernel_rfl) (by kernel_rfl) (fun _ _ _ h => h) (Or.inl ⟨by kernel_rfl, ?_⟩) (by assumption) ?_
      · (intro w hSw; (try dsimp only at hSw); go_simp)
      try simp only [Act.put, List.setIfInBounds_toArray, List.set_cons_zero, List.set_cons_succ]
      refine wpAnyH_ready (rs := [0]) (by kernel_rfl) (by simp) ?_
      refine AllReadyH.cons rfl (fun K hK => ?_) AllReadyH.nil
      rw [if_pos (by rfl)]
      have hmm := @run_makeMap Tryd.prog
      go_simp
      refine hK.out _ _ ?_ (fun hHeld => ?_)
      · exact KB.out _ (Bl.alloc (Bl.self _ 1) _)
      clear hK K hmm
      try simp only [Act.put, List.setIfInBounds_toArray, List.set_cons_zero, List.set_cons_succ]
      refine fill5 (M := M5 Tryd.prog 9 4 sp w'.drew) (by intro b1 b2 b3 b4 b5 hne; cases b1 <;> cases b2 <;> cases b3 <;> cases b4 <;> cases b5 <;> first | exact absurd rfl hne | kernel_rfl) (fun _ _ _ _ _ W hm => KB.out _ (Bl.then (Bl.self _ 1) hm.2)) ?i1 ?i2 ?i3 ?i4 ?i5 ?fin 5 false false false false false rfl _ ?st
      case i1 => exact fun b2 b3 b4 b5 W K hm hk => step_ins (c := 107) (sp := sp) (w0 := w'.drew) Tryd.underlying9 Tryd.underlying4 Tryd.underlying80 rfl rfl (.tmp 12) (.tmp 17) rfl rfl rfl (by rw [HS1.out]; rfl) hm (let5_l1 b2 b3 b4 b5) (let5_p1 b2 b3 b4 b5) hk
      case i2 => exact fun b1 b3 b4 b5 W K hm hk => step_ins (c := 118) (sp := sp) (w0 := w'.drew) Tryd.underlying9 Tryd.underlying4 Tryd.underlying80 rfl rfl (.tmp 12) (.tmp 22) rfl rfl rfl (by rw [HS2.out]; rfl) hm (let5_l2 b1 b3 b4 b5) (let5_p2 b1 b3 b4 b5) hk
      case i3 => exact fun b1 b2 b4 b5 W K hm hk => step_ins (c := 114) (sp := sp) (w0 := w'.drew) Tryd.underlying9 Tryd.underlying4 Tryd.underlying80 rfl rfl (.tmp 12) (.tmp 28) rfl rfl rfl (by rw [HS3.out]; rfl) hm (let5_l3 b1 b2 b4 b5) (let5_p3 b1 b2 b4 b5) hk
      case i4 => exact fun b1 b2 b3 b5 W K hm hk => step_ins (c := 98) (sp := sp) (w0 := w'.drew) Tryd.underlying9 Tryd.underlying4 Tryd.underlying80 rfl rfl (.tmp 12) (.tmp 40) rfl rfl rfl (by rw [HS4.out]; rfl) hm (let5_l4 b1 b2 b3 b5) (let5_p4 b1 b2 b3 b5) hk
      case i5 => exact fun b1 b2 b3 b4 W K hm hk => step_ins (c := 108) (sp := sp) (w0 := w'.drew) Tryd.underlying9 Tryd.underlying4 Tryd.underlying80 rfl rfl (.tmp 12) (.tmp 53) rfl rfl rfl (by rw [HS5.out]; rfl) hm (let5_l5 b1 b2 b3 b4) (let5_p5 b1 b2 b3 b4) hk
      case st => exact ⟨⟨.map [], 0, World.ownsMap_made _ _ _ _, Nat.zero_le _, Fill.nil _⟩, Bl.alloc (Below.refl _ _) _⟩
      case fin =>
        intro W2 hm
        have hS2 := KB.out _ (Bl.then (Bl.self _ 1) hm.2)
        obtain ⟨⟨D, n, hown, hn5, hF⟩, hbl⟩ := hm
        refine wpAnyH_take (i := 47) (v := .map (some w'.drew.heap.size)) rfl (by kernel_rfl) (by kernel_rfl) (by kernel_rfl) (fun _ _ _ h => h) (Or.inl ⟨by kernel_rfl, ?_⟩) (by assumption) ?_
        · (intro w hSw; (try dsimp only at hSw); go_simp)
        try simp only [Act.put, List.setIfInBounds_toArray, List.set_cons_zero, List.set_cons_succ]
        refine wpAnyH_take (i := 48) (v := .map (some w'.drew.heap.size)) rfl (by kernel_rfl) (by kernel_rfl) (by kernel_rfl) (fun _ _ _ h => h) (Or.inl ⟨by kernel_rfl, ?_⟩) (by assumption) ?_
        · (intro w hSw; (try dsimp only at hSw); go_simp)
        try simp only [Act.put, List.setIfInBounds_toArray, List.set_cons_zero, List.set_cons_succ]
        refine wpAnyH_done (by kernel_rfl) ?_ _
        have HBL := Lib.hid (Bl.then (Bl.self w' 1) hbl)
        have HF := Lib.hid hF
        generalize w'.drew.heap.size = mb at *
        clear hS2 hbl hF hH hHeld
        go_wp2_with (first | (at_range; refine wpList_range_own _ rfl _ 80 rfl 9 4 law9 Tryd.underlying80 _ mb n _ rfl hown ?_; intro w0 hrg0 hg0 hs0) | go_in)
        go_frame
        have HR0 := Lib.hid hrg0
        have HB0 := Lib.hid (Below.grown HBL.out hg0 HBL.out.size (fun q hq => by cases hq))
        clear hrg0 hg0 hs0 hown
        have HRB := Lib.hid (HBL.out.size)
        generalize W2.heap.size = rb at *
        go_loopw [5] (fun _ wr => ∃ (left : Lit → Bool) (cnt : Nat), wr.ranges Tryd.prog 9 (plainElem (H := Unit) Tryd.prog 4) mb rb n D left cnt ∧ Below w'.heap.size w' wr ∧ (∀ kl, left kl = true → Maps.has D kl = true) ∧ ∀ c ∈ ([107, 118, 114, 98, 108] : List UInt8), left (.string [c]) = false → okB ⟨k, key, val, pl, wd, ls, mask, busy, reads⟩ c = true) (fun _ wr => wr.rangeLeft mb rb)
        case atStart => exact ⟨_, _, HR0.out, HB0.out, fun kl h => h, fun c hc h => absurd ((HF.out.2.1 c (by exact hc)).1.symm.trans h) (by decide)⟩
        case round =>
          obtain ⟨left, cnt, hrg, hbw, hlh, hlo⟩ := hrel
          have HB := Lib.hid hbw
          have HLH := Lib.hid hlh
          have HLO := Lib.hid hlo
          have HRG := Lib.hid hrg
          clear hbw hlh hlo hrg HR0 HB0
          go_wp2_with (first | (at_next; refine wpList_next_letter Tryd.underlying9 Tryd.underlying4 rfl _ rfl sp [107, 118, 114, 98, 108] mb rb n D left cnt HF.out HLH.out rfl HRG.out ?_ ?_) | go_in)
          · intro hl0
            have HA := Lib.hid (YES.out (fun c hc => HLO.out c hc (hl0 _)))
            clear hl0
            go_wp2
            go_ret
            exact ⟨by rw [HA.out]; rfl, HB.out⟩
          · intro ch w1 cnt1 hN
            obtain ⟨hchl, hrg1, hlt, hg1, hen⟩ := hN
            obtain ⟨c, hcs⟩ : ∃ c, sp ch = c := ⟨_, rfl⟩
            rw [hcs] at hen
            have hcs := hcs.symm
            have HB1 := Lib.hid (Below.grown HB.out hg1 HB.out.size (fun q hq => by cases hq; exact HRB.out))
            have HRG1 := Lib.hid hrg1
            have HLT := Lib.hid hlt
            have HCH := Lib.hid hchl
            have NXT := Lib.hid (fun (hok : okB ⟨k, key, val, pl, wd, ls, mask, busy, reads⟩ ch = true) => show (∀ kl, (left kl && !kl.sameKey (.string [ch])) = true → Maps.has D kl = true) ∧ ∀ c ∈ ([107, 118, 114, 98, 108] : List UInt8), (left (.string [c]) && !(Lit.string [c]).sameKey (.string [ch])) = false → okB ⟨k, key, val, pl, wd, ls, mask, busy, reads⟩ c = true from ⟨fun kl h => HLH.out kl (by simp only [Bool.and_eq_true] at h; exact h.1), fun d hd h => by
              by_cases hdc : d = ch
              · rw [hdc]; exact hok
              · have hsk : (Lit.string [d]).sameKey (.string [ch]) = false := sameKey_ne (fun e => hdc (by simpa using e))
                rw [hsk, Bool.not_false, Bool.and_true] at h
                exact HLO.out d hd h⟩)
            have HOK := Lib.hid (OKS.out ch)
            have HCS := Lib.hid hcs
            try rw [← hcs]
            clear hrg1 hlt hg1 hcs hchl
            cases c with
            | false =>
              go_wp2
              go_roundw
              case rel => exact ⟨_, cnt1, HRG1.out, HB1.out, (NXT.out (by rw [HOK.out, ← HCS.out]; rfl)).1, (NXT.out (by rw [HOK.out, ← HCS.out]; rfl)).2⟩
              case measure => rw [HRG1.out.left_eq, HRG.out.left_eq]; exact HLT.out
            | true =>
              obtain ⟨z, hz⟩ : ∃ z, decide (0 ≤ Lib.indexByte nm ch) = z := ⟨_, rfl⟩
              have CT1 := Lib.hid (CT.out ch w1)
              rw [hz] at CT1 HOK
              clear hz
              cases z with
              | true =>
                go_wp2_with (go_at_call 41; refine CT1.out.mono ?_; rintro e w9 ⟨rfl, rfl⟩)
                go_roundw
                case rel => exact ⟨_, cnt1, HRG1.out, HB1.out, (NXT.out (by rw [HOK.out, Bool.or_true])).1, (NXT.out (by rw [HOK.out, Bool.or_true])).2⟩
                case measure => rw [HRG1.out.left_eq, HRG.out.left_eq]; exact HLT.out
              | false =>
                have HA := Lib.hid (NO.out ch HCH.out (by rw [HOK.out, ← HCS.out]; rfl))
                go_wp2_with (go_at_call 41; refine CT1.out.mono ?_; rintro e w9 ⟨rfl, rfl⟩)
                go_ret
                exact ⟨by rw [HA.out]; rfl, HB1.out⟩
end Go.Proofs.YtfdbolnifjpbhaaDoor
