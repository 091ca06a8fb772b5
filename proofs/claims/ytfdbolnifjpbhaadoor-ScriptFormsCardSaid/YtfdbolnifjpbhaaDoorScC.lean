/- script: digits, words: texts that are written. -/
import Derived.Test.YtfdbolnifjpbhaaDoorScB
import Derived.Test.YtfdbolnifjpbhaaDoorShelf
import Derived.Lib.AppendStr
import Derived.Lib.ItoaLen
import Derived.Lib.OthersKept
import Derived.Lib.AppendIntMem
namespace Go.Proofs.YtfdbolnifjpbhaaDoor
set_option linter.unusedVariables false
set_option linter.unusedSimpArgs false
open Go.RowKit

theorem infoByte : (Tryd.prog.info? 5).map (fun i => (i.zero, i.size, i.bytes)) = some (some (.int .u8 0), 1, 1) := by kernel_rfl
theorem one_at (W : World) (u : Value) (t : TypeId) : (W.alloc (Obj.cells #[u] t)).cell? ⟨W.heap.size, 0, none⟩ = some u := by
  rw [cell_of_row _ _ _ _ _ _ (heap_alloc_new W _)]; rfl
/-- A text as it is written: the call's own row of bytes; what is not a row of bytes stays. -/
structure Wr (B : Nat) (w : World) (v : Value) (bs : List UInt8) (W : World) : Prop where
  own : W.ownsRow B 5 1 v bs.length (Lib.byteCells bs)
  bl : Below B w W
  ot : Lib.OthersKept 5 none w W
theorem row_kind {w : World} {B : Nat} {e : TypeId} {v : Value} {n : Nat} {xs : List Value} (h : w.ownsRow B e 1 v n xs) : ∀ g, v.ownBlock = some g → ∃ c fz, w.heap[g]? = some (.cells c e fz) := by
  intro g hg
  rcases h.2 with ⟨rfl, _⟩ | ⟨g', cap, cur, rfl, _, hgg, _⟩
  · simp [Value.ownBlock] at hg
  · simp [Value.ownBlock] at hg
    subst hg
    exact ⟨cur, _, hgg⟩
theorem bcells_append (xs ys : List UInt8) : Lib.byteCells (xs ++ ys) = Lib.byteCells xs ++ Lib.byteCells ys := by simp [Lib.byteCells]
section
variable {B : Nat} {w W W' : World} {v v' : Value} {bs cs : List UInt8}
theorem Wr.alloc (h : Wr B w v bs W) (hB : B ≤ W.heap.size) (o : Obj) : Wr B w v bs (W.alloc o) := ⟨h.own.alloc o, h.bl.alloc hB o, h.ot.alloc o⟩
theorem Wr.drew (h : Wr B w v bs W) : Wr B w v bs W.drew := ⟨h.own, ⟨h.bl.os, h.bl.tape, h.bl.output, h.bl.size, h.bl.block⟩, h.ot⟩
/-- A call has written on. -/
theorem Wr.then (h : Wr B w v bs W) (k : Wr B W v' cs W') : Wr B w v' cs W' := ⟨k.own, h.bl.trans k.bl, h.ot.trans k.ot⟩
/-- An append has written on. -/
theorem Wr.grown (h : Wr B w v bs W) (hB : B ≤ W.heap.size) (hg : W.grownBy W' v.ownBlock) (ho : W'.ownsRow B 5 1 v' cs.length (Lib.byteCells cs)) : Wr B w v' cs W' :=
  ⟨ho, h.bl.grown hg hB (fun k hk => (h.own.lt k hk).1), h.ot.grown hg (row_kind h.own)⟩
end
/-- The row of cells stands through what a writer does. -/
def Still (B : Nat) (w : World) (p : World → Prop) : Prop := ∀ W, Below B w W → Lib.OthersKept 5 none w W → p W
/-- Numbers, each with a comma behind. -/
def digB (xs : List Int) : List UInt8 := xs.flatMap fun x => Lib.itoa x ++ [44]
theorem digB_snoc {xs : List Int} {k : Nat} (h : k < xs.length) : digB (xs.take (k + 1)) = digB (xs.take k) ++ (Lib.itoa (xs.getD k 0) ++ [44]) := by
  rw [List.take_succ_eq_append_getElem h, digB, List.flatMap_append, List.getD_eq_getElem?_getD, List.getElem?_eq_getElem h]
  simp [digB]
def OkI (x : Int) : Prop := -9223372036854775808 ≤ x ∧ x ≤ 9223372036854775807
theorem digB_len {xs : List Int} (h : ∀ x ∈ xs, OkI x) : (digB xs).length ≤ 22 * xs.length := by
  induction xs with
  | nil => simp [digB]
  | cons x xs ih =>
    have h1 := Lib.itoa_length_le x (h x (by simp)).1 (h x (by simp)).2
    have h2 := ih (fun y hy => h y (by simp [hy]))
    have e : digB (x :: xs) = Lib.itoa x ++ [44] ++ digB xs := rfl
    rw [e, List.length_append, List.length_append, List.length_cons, List.length_cons, List.length_nil]
    omega
theorem getD_okI {xs : List Int} (h : ∀ x ∈ xs, OkI x) {k : Nat} (hk : k < xs.length) : OkI (xs.getD k 0) := by
  rw [List.getD_eq_getElem?_getD, List.getElem?_eq_getElem hk, Option.getD_some]
  exact h _ (List.getElem_mem hk)

set_option maxRecDepth 100000 in
set_option maxHeartbeats 4000000 in
theorem digits_any (B : Nat) (v0 : Value) (bs : List UInt8) (A : Option Addr) (zs : List Int) (c : Nat) (w : World) (hB : B ≤ w.heap.size) (hown : w.ownsRow B 5 1 v0 bs.length (Lib.byteCells bs)) (hR : Still B w fun W => Rd W (.slice A zs.length c) zs) (hz : ∀ x ∈ zs, OkI x)
    (hlim : bs.length + 22 * zs.length + 21 ≤ 140737488355328) (htab : Lib.TabBelow Tryd.prog B w "internal/strconv.uint64pow10" .u64 Lib.pow10Tab) :
    Calls Tryd.prog 19 #[v0, .slice A zs.length c] w fun e w' => ∃ v', e = .returned v' ∧ Wr B w v' (bs ++ digB zs) w' := by
  have HW0 := Lib.hid (show Wr B w v0 (bs ++ digB (zs.take 0)) w from ⟨by simpa [digB] using hown, Below.refl _ _, Lib.OthersKept.refl _ _ _⟩)
  have HB := Lib.hid hB
  have HR := Lib.hid hR
  have HZ := Lib.hid hz
  have HT := Lib.hid htab
  have HL := Lib.hid hlim
  have DL := Lib.hid (fun k => digB_len (xs := zs.take k) (fun x hx => hz x (List.mem_of_mem_take hx)))
  have hR0 := Lib.hid (hR w (Below.refl _ _) (Lib.OthersKept.refl _ _ _))
  have hmx : zs.length ≤ 9223372036854775807 := by omega
  clear hB hR hz htab hlim hown
  obtain ⟨n, hn⟩ : ∃ n, zs.length = n := ⟨_, rfl⟩
  rw [hn] at hmx hR0 HR ⊢
  have HN := Lib.hid hn
  clear hn
  go_enter Tryd.func19, Tryd.ntmps19
  go_wp2_with fail
  go_loopw [0, 9] (fun v i wr => ∃ k : Nat, k ≤ n ∧ i = .int .i64 k ∧ Wr B w v (bs ++ digB (zs.take k)) wr) (fun _ i _ => (n - intOf i).toNat)
  case atStart => exact ⟨0, by omega, rfl, HW0.out⟩
  case round =>
    obtain ⟨k, hk, rfl, hw⟩ := hrel
    have HW := Lib.hid hw
    have HWB := Lib.hid (Nat.le_trans HB.out hw.bl.size)
    have rd := HR.out _ hw.bl hw.ot
    clear hw HW0 hR0
    by_cases hlt : k < n
    · have hlt2 : (k : Int) < (n : Int) := by omega
      obtain ⟨b, o, c', hv, _, _, hcc⟩ := rd.pos (by rw [HN.out]; omega)
      rw [HN.out] at hv hcc
      obtain ⟨rfl, rfl⟩ := Value.slice.inj hv |> fun h => And.intro h.1 h.2.2
      have g0 := hcc k hlt
      obtain ⟨x, hx⟩ : ∃ x, zs.getD k 0 = x := ⟨_, rfl⟩
      rw [hx] at g0
      have HX := Lib.hid (show OkI x by rw [← hx]; exact getD_okI HZ.out (by rw [HN.out]; exact hlt))
      have HS := Lib.hid (show digB (zs.take (k + 1)) = digB (zs.take k) ++ (Lib.itoa x ++ [44]) by rw [← hx]; exact digB_snoc (by rw [HN.out]; exact hlt))
      have hsz : (bs ++ digB (zs.take k)).length ≤ bs.length + 22 * n := by
        have h1 := DL.out k
        have h2 : (zs.take k).length ≤ n := by rw [List.length_take, HN.out]; omega
        rw [List.length_append]; omega
      have HSZ := Lib.hid (show (bs ++ digB (zs.take k)).length + 21 ≤ 140737488355328 by have h := HL.out; rw [HN.out] at h; omega)
      have HSZ2 := Lib.hid (show ((bs ++ digB (zs.take k)).length + (Lib.itoa x).length + 1) * 1 ≤ 140737488355328 by
        have h := HL.out
        rw [HN.out] at h
        have h3 := DL.out (k + 1)
        have h2 : (zs.take (k + 1)).length ≤ n := by rw [List.length_take, HN.out]; omega
        rw [HS.out, List.length_append, List.length_append, List.length_cons, List.length_nil] at h3
        rw [List.length_append]
        omega)
      clear hv hcc hx hsz rd
      obtain ⟨l0, hl0⟩ : ∃ l, bs ++ digB (zs.take k) = l := ⟨_, rfl⟩
      rw [hl0] at HW HSZ HSZ2
      have HL0 := Lib.hid hl0
      clear hl0
      go_wp2_with (first | (at_builtin; refine app1 B rfl (.tmp 15) (.tmp 16) 42 5 (.int .u8 0) 1 rfl Tryd.underlying42 infoByte rfl (by decide) _ _ _ rfl (.int .u8 44) _ rfl rfl (one_at _ _ _) (HW1.out.alloc _) (HB1.out _) HSZ2.out ?_; intro v2 w2 ho2 hg2 _; obtain ⟨S2, d2, rfl⟩ := (Own.of ho2).slice; have HW2 := Lib.hid (show Wr B w _ (bs ++ digB (zs.take (k + 1))) w2 from (show Wr B w (.slice S1 (l0.length + (Lib.itoa x).length) d1) (l0 ++ Lib.itoa x) _ from ⟨by rw [List.length_append, bcells_append]; exact HW1.out.alloc _, HBL1.out _, HOT1.out _⟩).grown (HB1.out _) hg2 (by rw [HS.out, ← List.append_assoc, HL0.out, ← List.append_assoc, List.length_append, List.length_append, bcells_append, bcells_append]; exact ho2)); clear ho2 hg2) | (go_at_call 34; refine (Tryd.strconv_AppendInt_10 B _ x HX.out.1 HX.out.2 _ _ _ HW.out.own HWB.out HSZ.out (HT.out.on HW.out.bl)).mono ?_; rintro e w1 ⟨v1, rfl, hown1, hb1, ho1⟩; obtain ⟨S1, d1, rfl⟩ := (Own.of hown1).slice; have HW1 := Lib.hid hown1; have HB1 := Lib.hid (fun o => show B ≤ (w1.alloc o).heap.size from Nat.le_trans HWB.out (Nat.le_trans hb1.size (by simp))); have HBL1 := Lib.hid (fun o => show Below B w (w1.alloc o) from (HW.out.bl.trans hb1).alloc (Nat.le_trans HWB.out hb1.size) o); have HOT1 := Lib.hid (fun o => show Lib.OthersKept 5 none w (w1.alloc o) from (HW.out.ot.trans ho1).alloc o); clear hown1 hb1 ho1))
      go_roundw
      case rel => exact ⟨k + 1, by omega, by first | go_num | rfl, HW2.out⟩
      case measure => simp [intOf]; omega
    · have hd : decide ((k : Int) < (n : Int)) = false := decide_eq_false (by omega)
      obtain rfl : k = n := by omega
      clear rd
      have HE := Lib.hid (show bs ++ digB (zs.take k) = bs ++ digB zs by rw [List.take_of_length_le (by rw [HN.out]; exact Nat.le_refl _)])
      rw [HE.out] at HW
      go_wp2
      go_ret
      exact ⟨_, rfl, HW.out⟩

/-- Texts, each with its length ahead. -/
def wordB (ss : List ByteArray) : List UInt8 := ss.flatMap fun s => Lib.itoa (s.size : Int) ++ 58 :: s.data.toList
theorem wordB_snoc {ss : List ByteArray} {k : Nat} (h : k < ss.length) : wordB (ss.take (k + 1)) = wordB (ss.take k) ++ (Lib.itoa ((ss.getD k nilB').size : Int) ++ 58 :: (ss.getD k nilB').data.toList) := by
  rw [List.take_succ_eq_append_getElem h, wordB, List.flatMap_append, List.getD_eq_getElem?_getD, List.getElem?_eq_getElem h]
  simp [wordB]
theorem itoa_len_nat (n : Nat) (h : n ≤ 140737488351232) : (Lib.itoa (n : Int)).length ≤ 21 := Lib.itoa_length_le _ (by omega) (by omega)
theorem word_row {B : Nat} {v3 : Value} {w3 : World} {l0 it l1 : List UInt8} {x : ByteArray} (h : w3.ownsRow B 5 1 v3 (l0.length + it.length + 1 + x.size) (Lib.byteCells l0 ++ Lib.byteCells it ++ [.int .u8 58] ++ Lib.strCells x)) (e : l0 ++ (it ++ 58 :: x.data.toList) = l1) :
    w3.ownsRow B 5 1 v3 l1.length (Lib.byteCells l1) := by
  subst e
  have e1 : (l0 ++ (it ++ 58 :: x.data.toList)).length = l0.length + it.length + 1 + x.size := by
    have h4 : x.data.toList.length = x.size := Array.length_toList
    rw [List.length_append, List.length_append, List.length_cons, h4]
    omega
  have e2 : Lib.byteCells (l0 ++ (it ++ 58 :: x.data.toList)) = Lib.byteCells l0 ++ Lib.byteCells it ++ [.int .u8 58] ++ Lib.strCells x := by
    have : l0 ++ (it ++ 58 :: x.data.toList) = l0 ++ it ++ [58] ++ x.data.toList := by simp
    rw [this, bcells_append, bcells_append, bcells_append]
    rfl
  rw [e1, e2]
  exact h
set_option maxRecDepth 100000 in
set_option maxHeartbeats 4000000 in
theorem words_any (B : Nat) (v0 : Value) (bs : List UInt8) (g : Nat) (ss : List ByteArray) (w : World) (hB : B ≤ w.heap.size) (hown : w.ownsRow B 5 1 v0 bs.length (Lib.byteCells bs)) (hR : Still B w fun W => ∀ j, j < ss.length → W.cell? ⟨g, j, none⟩ = some (.string (ss.getD j nilB')))
    (hm : ss.length ≤ 3) (hz : ∀ s ∈ ss, s.size ≤ 1000) (hlim : bs.length ≤ 140737488000000) (htab : Lib.TabBelow Tryd.prog B w "internal/strconv.uint64pow10" .u64 Lib.pow10Tab) :
    Calls Tryd.prog 20 #[v0, .slice (some ⟨g, 0, none⟩) ss.length ss.length] w fun e w' => ∃ v', e = .returned v' ∧ Wr B w v' (bs ++ wordB ss) w' := by
  have HW0 := Lib.hid (show Wr B w v0 (bs ++ wordB (ss.take 0)) w from ⟨by simpa [wordB] using hown, Below.refl _ _, Lib.OthersKept.refl _ _ _⟩)
  have HB := Lib.hid hB
  have HR := Lib.hid hR
  have HZ := Lib.hid hz
  have HT := Lib.hid htab
  have HL := Lib.hid hlim
  have WL := Lib.hid (show ∀ k, k ≤ 3 → (wordB (ss.take k)).length ≤ 1022 * k from by
    intro k
    induction k with
    | zero => intro _; simp [wordB]
    | succ k ih =>
      intro hk
      by_cases hlt : k < ss.length
      · have h1 := ih (by omega)
        have h2 := hz (ss.getD k nilB') (by rw [List.getD_eq_getElem?_getD, List.getElem?_eq_getElem hlt, Option.getD_some]; exact List.getElem_mem hlt)
        have h3 := itoa_len_nat (ss.getD k nilB').size (by omega)
        have h4 : (ss.getD k nilB').data.toList.length = (ss.getD k nilB').size := Array.length_toList
        rw [wordB_snoc hlt, List.length_append, List.length_append, List.length_cons, h4]
        omega
      · have h1 := ih (by omega)
        rw [List.take_of_length_le (by omega)]
        rw [List.take_of_length_le (by omega)] at h1
        omega)
  have hmx : ss.length ≤ 9223372036854775807 := by omega
  clear hB hR hz htab hlim hown
  obtain ⟨n, hn⟩ : ∃ n, ss.length = n := ⟨_, rfl⟩
  rw [hn] at hmx HR hm ⊢
  have HN := Lib.hid hn
  clear hn
  go_enter Tryd.func20, Tryd.ntmps20
  go_wp2_with fail
  go_loopw [0, 9] (fun v i wr => ∃ k : Nat, k ≤ n ∧ i = .int .i64 k ∧ Wr B w v (bs ++ wordB (ss.take k)) wr) (fun _ i _ => (n - intOf i).toNat)
  case atStart => exact ⟨0, by omega, rfl, HW0.out⟩
  case round =>
    obtain ⟨k, hk, rfl, hw⟩ := hrel
    have HW := Lib.hid hw
    have HWB := Lib.hid (Nat.le_trans HB.out hw.bl.size)
    have rd := HR.out _ hw.bl hw.ot
    clear hw HW0
    by_cases hlt : k < n
    · have hlt2 : (k : Int) < (n : Int) := by omega
      have g0 := rd k hlt
      have HS' := wordB_snoc (ss := ss) (k := k) (by rw [HN.out]; exact hlt)
      have hsz := HZ.out (ss.getD k nilB') (by rw [List.getD_eq_getElem?_getD, List.getElem?_eq_getElem (by rw [HN.out]; exact hlt), Option.getD_some]; exact List.getElem_mem _)
      obtain ⟨x, hx⟩ : ∃ x, ss.getD k nilB' = x := ⟨_, rfl⟩
      rw [hx] at g0 HS' hsz
      obtain ⟨m, hm⟩ : ∃ m, x.size = m := ⟨_, rfl⟩
      have HM := Lib.hid hm
      rw [hm] at HS' hsz
      have HS := Lib.hid HS'
      have hil := itoa_len_nat m (by omega)
      have hwl := WL.out k (by omega)
      have hbl := HL.out
      have HSZ := Lib.hid (show (bs ++ wordB (ss.take k)).length + 21 ≤ 140737488355328 by rw [List.length_append]; omega)
      have HSZ2 := Lib.hid (show ((bs ++ wordB (ss.take k)).length + (Lib.itoa (m : Int)).length + 1) * 1 ≤ 140737488355328 by rw [List.length_append]; omega)
      have HSZ3 := Lib.hid (show (bs ++ wordB (ss.take k)).length + (Lib.itoa (m : Int)).length + 1 + x.size ≤ 140737488355328 by rw [List.length_append, hm]; omega)
      have HSZ4 := Lib.hid (show (bs ++ wordB (ss.take k)).length + (Lib.itoa (m : Int)).length + 1 + x.size ≤ maxLen by rw [List.length_append, hm]; unfold maxLen; omega)
      have hm9 : m ≤ 9223372036854775807 := by omega
      clear hx hm HS' hil hwl hbl rd hsz
      obtain ⟨l0, hl0⟩ : ∃ l, bs ++ wordB (ss.take k) = l := ⟨_, rfl⟩
      rw [hl0] at HW HSZ HSZ2 HSZ3 HSZ4
      have HL0 := Lib.hid hl0
      have HMI := Lib.hid (show OkI (m : Int) from ⟨by omega, by omega⟩)
      obtain ⟨i0, hi, hz0, hz1, hz2⟩ := info_parts infoByte
      have HI := Lib.hid (And.intro hi (And.intro hz0 (And.intro hz1 hz2)))
      clear hl0 hi hz0 hz1 hz2
      have hmm : x.size = m := HM.out
      go_wp2_with (first | (at_builtin; refine Lib.wpList_append_own_string _ rfl (.tmp 19) (.tmp 20) 42 9 rfl B 5 i0 Tryd.underlying42 Tryd.underlying9 HI.out.1 HI.out.2.1 HI.out.2.2.1 HI.out.2.2.2 _ _ _ rfl HO2.out x rfl HSZ4.out HSZ3.out HB2.out ?_; intro v3 w3 ho3 hg3 _; obtain ⟨S3, d3, rfl⟩ := (Own.of ho3).slice; have HW3 := Lib.hid (show Wr B w _ (bs ++ wordB (ss.take (k + 1))) w3 from HW2.out.grown HB2.out hg3 (word_row ho3 (by rw [HS.out, ← List.append_assoc bs, HL0.out]))); clear ho3 hg3) | (at_builtin; refine app1 B rfl (.tmp 17) (.tmp 18) 42 5 (.int .u8 0) 1 rfl Tryd.underlying42 infoByte rfl (by decide) _ _ _ rfl (.int .u8 58) _ rfl rfl (one_at _ _ _) (HO1.out.alloc _) (HB1a.out _) HSZ2.out ?_; intro v2 w2 ho2 hg2 _; obtain ⟨S2, d2, rfl⟩ := (Own.of ho2).slice; have HW2 := Lib.hid ((HW1.out.alloc HB1.out _).grown (HB1a.out _) hg2 (cs := l0 ++ Lib.itoa (m : Int) ++ [58]) (by rw [List.length_append, List.length_append, bcells_append, bcells_append]; exact ho2)); have HO2 := Lib.hid ho2; have HB2 := Lib.hid (Nat.le_trans (HB1a.out _) hg2.size); clear ho2 hg2) | (go_at_call 34; refine (Tryd.strconv_AppendInt_10 B _ (m : Int) HMI.out.1 HMI.out.2 _ _ _ HW.out.own HWB.out HSZ.out (HT.out.on HW.out.bl)).mono ?_; rintro e w1 ⟨v1, rfl, hown1, hb1, ho1⟩; obtain ⟨S1, d1, rfl⟩ := (Own.of hown1).slice; have HW1 := Lib.hid (show Wr B w (.slice S1 (l0.length + (Lib.itoa (m : Int)).length) d1) (l0 ++ Lib.itoa (m : Int)) w1 from ⟨by rw [List.length_append, bcells_append]; exact hown1, HW.out.bl.trans hb1, HW.out.ot.trans ho1⟩); have HB1 := Lib.hid (Nat.le_trans HWB.out hb1.size); have HO1 := Lib.hid hown1; have HB1a := Lib.hid (fun o => show B ≤ (w1.alloc o).heap.size from Nat.le_trans HB1.out (by simp)); clear hown1 hb1 ho1))
      go_roundw
      case rel => have h3 := HW3.out; rw [HM.out] at h3; exact ⟨k + 1, by omega, by first | go_num | rfl, h3⟩
      case measure => clear hmm; simp [intOf]; omega
    · have hd : decide ((k : Int) < (n : Int)) = false := decide_eq_false (by omega)
      obtain rfl : k = n := by omega
      clear rd
      have HE := Lib.hid (show bs ++ wordB (ss.take k) = bs ++ wordB ss by rw [List.take_of_length_le (by rw [HN.out]; exact Nat.le_refl _)])
      rw [HE.out] at HW
      go_wp2
      go_ret
      exact ⟨_, rfl, HW.out⟩
end Go.Proofs.YtfdbolnifjpbhaaDoor
