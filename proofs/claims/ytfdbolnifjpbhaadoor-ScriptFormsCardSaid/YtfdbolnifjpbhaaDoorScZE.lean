/- What every program answers that is one (chapter 24): the walk. -/
import Derived.Test.YtfdbolnifjpbhaaDoorScZD
namespace Go.Proofs.YtfdbolnifjpbhaaDoor
set_option linter.unusedVariables false
set_option linter.unusedSimpArgs false
open Go.RowKit

/-- Acts that stand in a new block. -/
theorem RdM.new (W : World) (ms : List ActM) (n : Nat) (hn : ms.length = n) (hm : n ≤ maxLen) : RdM (W.alloc (Obj.cells (flatA ms).toArray 38)) (.slice (some ⟨W.heap.size, 0, none⟩) n n) ms := by
  subst hn
  refine .inr ⟨W.heap.size, 0, ms.length, rfl, Nat.le_refl _, hm, fun j u hu => ?_⟩
  rw [Nat.zero_add, cell_of_row _ _ _ _ _ _ (heap_alloc_new W _)]
  rw [List.getElem?_toArray]
  exact hu
theorem sz0 : SzA aw0 := ⟨by decide, by decide, by decide⟩
theorem sz1 : SzA aw1 := ⟨by decide, by decide, by decide⟩
theorem szB : SzA awB := ⟨by decide, by decide, by decide⟩
abbrev Tab (W : World) : Prop := Lib.TabBelow Tryd.prog W.heap.size W "internal/strconv.uint64pow10" .u64 Lib.pow10Tab
set_option maxRecDepth 100000 in
set_option maxHeartbeats 4000000 in
theorem awake24 (w : World) (htab : Tab w) :
    Calls Tryd.prog 17 #[] w fun e w' => e = .returned (.bool true) ∧ Below w.heap.size w w' := by
  have HTAB := Lib.hid (fun (W : World) (hb : Below w.heap.size w W) => show Tab W from fun w' h' => htab w' (Bl.then hb h'))
  have b1 := Bl.alloc (Below.refl w.heap.size w) (Obj.cells #[.int .i64 7, .int .i64 8] 3)
  have b2 := Bl.alloc b1 (Obj.cells #[.int .i64 9] 3)
  have r1 : Rd (w.alloc (Obj.cells #[.int .i64 7, .int .i64 8] 3)) (.slice (some ⟨w.heap.size, 0, none⟩) 2 2) [7, 8] := Rd.lit w [7, 8] 2 _ rfl rfl (by decide)
  have r2 : Rd ((w.alloc (Obj.cells #[.int .i64 7, .int .i64 8] 3)).alloc (Obj.cells #[.int .i64 9] 3)) (.slice (some ⟨w.heap.size + 1, 0, none⟩) 1 1) [9] := Rd.lit _ [9] 1 _ (by simp) rfl (by decide)
  have r3 := RdM.new ((w.alloc (Obj.cells #[.int .i64 7, .int .i64 8] 3)).alloc (Obj.cells #[.int .i64 9] 3)) [⟨aw0, .slice (some ⟨w.heap.size, 0, none⟩) 2 2, .slice (some ⟨w.heap.size + 1, 0, none⟩) 1 1⟩, ⟨aw1, .slice none 0 0, .slice none 0 0⟩] 2 rfl (by decide)
  rw [show ((w.alloc (Obj.cells #[.int .i64 7, .int .i64 8] 3)).alloc (Obj.cells #[.int .i64 9] 3)).heap.size = w.heap.size + 1 + 1 by simp] at r3
  change RdM (((w.alloc (Obj.cells #[.int .i64 7, .int .i64 8] 3)).alloc (Obj.cells #[.int .i64 9] 3)).alloc (Obj.cells #[.int .i64 2, .string ⟨#[97]⟩, .string ⟨#[49, 58]⟩, .int .i64 0, .int .i64 0, .int .i64 5, .string ⟨#[109]⟩, .slice (some ⟨w.heap.size, 0, none⟩) 2 2, .slice (some ⟨w.heap.size + 1, 0, none⟩) 1 1, .int .i64 6, .string ⟨#[]⟩, .string ⟨#[]⟩, .int .i64 3, .int .i64 2, .int .i64 0, .string ⟨#[]⟩, .slice none 0 0, .slice none 0 0] 38)) _ _ at r3
  have b3 := Bl.alloc b2 (Obj.cells #[.int .i64 2, .string ⟨#[97]⟩, .string ⟨#[49, 58]⟩, .int .i64 0, .int .i64 0, .int .i64 5, .string ⟨#[109]⟩, .slice (some ⟨w.heap.size, 0, none⟩) 2 2, .slice (some ⟨w.heap.size + 1, 0, none⟩) 1 1, .int .i64 6, .string ⟨#[]⟩, .string ⟨#[]⟩, .int .i64 3, .int .i64 2, .int .i64 0, .string ⟨#[]⟩, .slice none 0 0, .slice none 0 0] 38)
  have rA : RdA _ (.slice (some ⟨w.heap.size + 1 + 1, 0, none⟩) 2 2) [⟨aw0, .slice (some ⟨w.heap.size, 0, none⟩) 2 2, .slice (some ⟨w.heap.size + 1, 0, none⟩) 1 1⟩, ⟨aw1, .slice none 0 0, .slice none 0 0⟩] := ⟨r3, fun m hm => by
    simp only [List.mem_cons, List.not_mem_nil, or_false] at hm
    rcases hm with rfl | rfl
    · exact ⟨(r1.alloc _).alloc _, r2.alloc _⟩
    · exact ⟨Rd.nil _, Rd.nil _⟩⟩
  have S1 := show_any _ _ _ rA (fun m hm => by
    simp only [List.mem_cons, List.not_mem_nil, or_false] at hm
    rcases hm with rfl | rfl
    · exact sz0
    · exact sz1) (HTAB.out _ b3)
  rw [show ([⟨aw0, .slice (some ⟨w.heap.size, 0, none⟩) 2 2, .slice (some ⟨w.heap.size + 1, 0, none⟩) 1 1⟩, ⟨aw1, .slice none 0 0, .slice none 0 0⟩] : List ActM).map (·.a) = [aw0, aw1] from rfl, (show_yes aw_ok).1, (show_yes aw_ok).2, aw_str] at S1
  have RA := Lib.hid rA
  have B3 := Lib.hid b3
  have S1 := Lib.hid S1
  have PT := Lib.hid (fun (W : World) (hW : Tab W) => parse_any awT (by decide) W hW)
  rw [aw_told.eq.1, aw_told.eq.2] at PT
  have PF := Lib.hid (fun (W : World) (hW : Tab W) => parse_any ⟨#[102]⟩ (by decide) W hW)
  rw [aw_f.1, aw_f.2] at PF
  have SN := Lib.hid (fun (W : World) (hW : Tab (W.alloc (Obj.cells (flatA [⟨awB, .slice none 0 0, .slice none 0 0⟩]).toArray 38))) => show_any (.slice (some ⟨W.heap.size, 0, none⟩) 1 1) [⟨awB, .slice none 0 0, .slice none 0 0⟩] _ ⟨RdM.new W _ 1 rfl (by decide), fun m hm => by
    obtain rfl := List.mem_singleton.1 hm
    exact ⟨Rd.nil _, Rd.nil _⟩⟩ (fun m hm => by
    obtain rfl := List.mem_singleton.1 hm
    exact szB) hW)
  rw [show ([⟨awB, .slice none 0 0, .slice none 0 0⟩] : List ActM).map (·.a) = [awB] from rfl, aw_no.1, aw_no.2] at SN
  have hq : ((⟨#[112, 48, 44, 48, 44, 53, 44, 50, 44, 55, 44, 56, 44, 49, 44, 57, 44, 49, 58, 97, 50, 58, 49, 58, 49, 58, 109, 98, 51, 44, 50, 44, 48, 44, 48, 44, 48, 44, 48, 58, 48, 58, 48, 58]⟩ : ByteArray).toList == (⟨#[112, 48, 44, 48, 44, 53, 44, 50, 44, 55, 44, 56, 44, 49, 44, 57, 44, 49, 58, 97, 50, 58, 49, 58, 49, 58, 109, 98, 51, 44, 50, 44, 48, 44, 48, 44, 48, 44, 48, 58, 48, 58, 48, 58]⟩ : ByteArray).toList) = true := beq_self_eq_true _
  clear b1 b2 r1 r2 r3 b3 rA htab
  go_enter Tryd.func17, Tryd.ntmps17
  go_wp2_with fail
  refine S1.out.mono ?_
  rintro e w4 ⟨rfl, hb4⟩
  have RA4 := Lib.hid (RA.out.below hb4)
  have B4 := Lib.hid (Bl.then B3.out hb4)
  clear hb4 S1 RA B3
  go_wp2_with fail
  refine (PT.out _ (HTAB.out _ B4.out)).mono ?_
  rintro e w5 ⟨v5, ms5, rfl, ho5, hm5, hb5⟩
  obtain ⟨A5, c5, rfl⟩ := ho5.1.slice
  have RA5 := Lib.hid (RA4.out.below hb5)
  have B5 := Lib.hid (Bl.then B4.out hb5)
  have O5 := Lib.hid ho5
  have M5 := Lib.hid hm5
  clear ho5 hm5 hb5 RA4 B4
  go_wp2_with fail
  refine (PF.out _ (HTAB.out _ B5.out)).mono ?_
  rintro e w6 ⟨v6, ms6, rfl, ho6, hm6, hb6⟩
  obtain ⟨A6, c6, rfl⟩ := ho6.1.slice
  have RA6 := Lib.hid (RA5.out.below hb6)
  have B6 := Lib.hid (Bl.then B5.out hb6)
  have O6 := Lib.hid (O5.out.below hb6)
  clear ho6 hm6 hb6 RA5 B5 O5
  go_wp2_with fail
  refine (SN.out w6 (HTAB.out _ (Bl.alloc B6.out _))).mono ?_
  rintro e w7 ⟨rfl, hb7⟩
  have hx := Bl.then (Bl.alloc (Below.refl w6.heap.size w6) (Obj.cells (flatA [⟨awB, .slice none 0 0, .slice none 0 0⟩]).toArray 38)) hb7
  have RA7 := Lib.hid (RA6.out.below hx)
  have B7 := Lib.hid (Bl.then B6.out hx)
  have O7 := Lib.hid (O6.out.below hx)
  have SA := Lib.hid (same_acts _ _ _ _ _ w7 RA7.out (OwnA.rd O7.out) rfl M5.out)
  obtain ⟨b, o, c', hv, _, _, hcc⟩ := RA7.out.1.pos (by show 0 < 2; decide)
  obtain ⟨rfl, rfl⟩ := Addr.mk.inj (Option.some.inj (Value.slice.inj hv).1) |> fun h => And.intro h.1 h.2.1
  obtain ⟨g0, g1, g2, g3, g4, g5, g6, g7, g8⟩ := hcc 0 (by show 0 < 2; decide)
  have MAY := Lib.hid (fun (W : World) (hb : Below w7.heap.size w7 W) => may_any ⟨aw0, .slice (some ⟨w.heap.size, 0, none⟩) 2 2, .slice (some ⟨w.heap.size + 1, 0, none⟩) 1 1⟩ W ((RA7.out.2 _ (by simp)).below hb) sz0)
  rw [aw_may] at MAY
  change Hid (∀ (W : World), Below w7.heap.size w7 W → Calls Tryd.prog 14 #[.agg #[.int .i64 2, .string ⟨#[97]⟩, .string ⟨#[49, 58]⟩, .int .i64 0, .int .i64 0, .int .i64 5, .string ⟨#[109]⟩, .slice (some ⟨w.heap.size, 0, none⟩) 2 2, .slice (some ⟨w.heap.size + 1, 0, none⟩) 1 1]] W fun e w' => e = .returned (.bool true) ∧ Below W.heap.size W w') at MAY
  change w7.cell? ⟨w.heap.size + 1 + 1, 0, none⟩ = some (.int .i64 2) at g0
  change w7.cell? ⟨w.heap.size + 1 + 1, 1, none⟩ = some (.string ⟨#[97]⟩) at g1
  change w7.cell? ⟨w.heap.size + 1 + 1, 2, none⟩ = some (.string ⟨#[49, 58]⟩) at g2
  change w7.cell? ⟨w.heap.size + 1 + 1, 3, none⟩ = some (.int .i64 0) at g3
  change w7.cell? ⟨w.heap.size + 1 + 1, 4, none⟩ = some (.int .i64 0) at g4
  change w7.cell? ⟨w.heap.size + 1 + 1, 5, none⟩ = some (.int .i64 5) at g5
  change w7.cell? ⟨w.heap.size + 1 + 1, 6, none⟩ = some (.string ⟨#[109]⟩) at g6
  change w7.cell? ⟨w.heap.size + 1 + 1, 7, none⟩ = some (.slice (some ⟨w.heap.size, 0, none⟩) 2 2) at g7
  change w7.cell? ⟨w.heap.size + 1 + 1, 8, none⟩ = some (.slice (some ⟨w.heap.size + 1, 0, none⟩) 1 1) at g8
  clear hb7 hx RA6 B6 O6 hv hcc
  unfold awT
  go_wp2_with (first
    | (go_at_call 12; with_reducible refine (num_e _ _).mono ?_; rintro e wn ⟨rfl, rfl⟩)
    | (go_at_call 13; with_reducible refine SA.out.mono ?_; rintro e w8 ⟨rfl, q8, rfl⟩)
    | (go_at_call 14; with_reducible refine (MAY.out _ (Bl.drewN (Below.refl _ _) _)).mono ?_; rintro e w9 ⟨rfl, hb9⟩; have B9 := Lib.hid hb9; clear hb9))
  go_ret
  exact ⟨rfl, Bl.then B7.out (Bl.then (Bl.drewN (Below.refl _ _) _) B9.out)⟩
end Go.Proofs.YtfdbolnifjpbhaaDoor
