/-
  No cell of these rows narrows 'for every input' (looked for: loops, veiled, ifaces, maps, wideKeys, modest, calm, conditions, laid).
  DERIVED. THE GIVEN ROWS OF THIS SEAT. 10 by the template 'for every input the law returns true; each argument reads behind the call as it read before'; 0 by the template 'total and deterministic' (their statements: YtdgnpoapkjoknaaTotals.lean).
  GIVEN WITH THE SEED: the statements are not yours to turn. If you find one false, say at which input.
  Laid BY PROGRAM, IN A SANDBOX (cutbox-rows.mjs): the forced cells as the released guide's own fill.sh prints them over the translation 3d6d7b334574e69e… (all of the seat's roots in one cut). By AI agents, Wed Nov 11 2026. No macro, syntax, notation, axiom, sorry.
-/
import Derived.Test.YtdgnpoapkjoknaaChecked
import GoSem.Claim
import GoSem.ClaimJoined
import GoSem.ClaimMapViews
import Derived.JoinedTies
import Derived.KernelRfl
namespace Go.Proofs.Ytdgnpoapkjoknaa
/- THE CELL 'sum', in the pinned program and in every row, IS THE sha256 OF THE DUMP (.gsa) THAT YtdgnpoapkjoknaaProg.lean LOADS. Nothing in Lean hashes anything: it is a label: what it is worth is what the hold of that sum in a sandbox is worth. -/
noncomputable def Try.pinned : Pinned := { name := "ytdgnpoapkjoknaa", sum := "3d6d7b334574e69e7ed535d9356cef3b35216a802db28abc718770400308f6d4", checked := Try.checked }
namespace Rows
def none {H : Type} : Left H := { results := [], args := [] }

/-- 'lichenlaw21.Indexes': WHATEVER THE INPUT: true; the input reads as it did. -/
def indexesSpec : ChangeSpec := { name := "indexes", fn := fun _ => fun
  | [d1, d2, d3, d4] => { results := [.lit (.bool true)], args := [d1, d2, d3, d4] }
  | _ => none }
def indexesRow : OpenClaim := { program := "ytdgnpoapkjoknaa", sum := "3d6d7b334574e69e7ed535d9356cef3b35216a802db28abc718770400308f6d4", func := "lichen/lichenlaw21.Indexes", spec := "indexes", inPlace := ["slices.overlaps[lichen/api.Pair]"], unfollowed := true, recurses := true, apart := false }
def IndexesSaid : Prop := indexesRow.holds Try.pinned (OpenSpec.ofChange indexesSpec)

/-- ITS FALSE NEIGHBOUR: 'it returns false'. Refute it at one input. -/
def indexesWrong : ChangeSpec := { name := "indexes", fn := fun _ => fun
  | [d1, d2, d3, d4] => { results := [.lit (.bool false)], args := [d1, d2, d3, d4] }
  | _ => none }
def IndexesWrongFalsely : Prop := indexesRow.holds Try.pinned (OpenSpec.ofChange indexesWrong)

/-- 'lichenlaw21.IndexMap': WHATEVER THE INPUT: true; the input reads as it did. -/
def indexMapSpec : ChangeSpec := { name := "indexMap", fn := fun _ => fun
  | [d] => { results := [.lit (.bool true)], args := [d] }
  | _ => none }
def indexMapRow : OpenClaim := { program := "ytdgnpoapkjoknaa", sum := "3d6d7b334574e69e7ed535d9356cef3b35216a802db28abc718770400308f6d4", func := "lichen/lichenlaw21.IndexMap", spec := "indexMap", inPlace := ["slices.overlaps[lichen/api.Pair]"], unfollowed := true, recurses := true, apart := false }
def IndexMapSaid : Prop := indexMapRow.holds Try.pinned (OpenSpec.ofChange indexMapSpec)

/-- ITS FALSE NEIGHBOUR: 'it returns false'. Refute it at one input. -/
def indexMapWrong : ChangeSpec := { name := "indexMap", fn := fun _ => fun
  | [d] => { results := [.lit (.bool false)], args := [d] }
  | _ => none }
def IndexMapWrongFalsely : Prop := indexMapRow.holds Try.pinned (OpenSpec.ofChange indexMapWrong)

/-- 'lichenlaw21.IndexForms': WHATEVER THE INPUT: true; the input reads as it did. -/
def indexFormsSpec : ChangeSpec := { name := "indexForms", fn := fun _ => fun
  | [d] => { results := [.lit (.bool true)], args := [d] }
  | _ => none }
def indexFormsRow : OpenClaim := { program := "ytdgnpoapkjoknaa", sum := "3d6d7b334574e69e7ed535d9356cef3b35216a802db28abc718770400308f6d4", func := "lichen/lichenlaw21.IndexForms", spec := "indexForms", inPlace := ["slices.overlaps[lichen/api.Pair]"], unfollowed := true, recurses := true, apart := false }
def IndexFormsSaid : Prop := indexFormsRow.holds Try.pinned (OpenSpec.ofChange indexFormsSpec)

/-- ITS FALSE NEIGHBOUR: 'it returns false'. Refute it at one input. -/
def indexFormsWrong : ChangeSpec := { name := "indexForms", fn := fun _ => fun
  | [d] => { results := [.lit (.bool false)], args := [d] }
  | _ => none }
def IndexFormsWrongFalsely : Prop := indexFormsRow.holds Try.pinned (OpenSpec.ofChange indexFormsWrong)

/-- 'lichenlaw21.IndexSame': WHATEVER THE INPUT: true; the input reads as it did. -/
def indexSameSpec : ChangeSpec := { name := "indexSame", fn := fun _ => fun
  | [d1, d2, d3] => { results := [.lit (.bool true)], args := [d1, d2, d3] }
  | _ => none }
def indexSameRow : OpenClaim := { program := "ytdgnpoapkjoknaa", sum := "3d6d7b334574e69e7ed535d9356cef3b35216a802db28abc718770400308f6d4", func := "lichen/lichenlaw21.IndexSame", spec := "indexSame", inPlace := ["slices.overlaps[lichen/api.Pair]"], unfollowed := true, recurses := true, apart := false }
def IndexSameSaid : Prop := indexSameRow.holds Try.pinned (OpenSpec.ofChange indexSameSpec)

/-- ITS FALSE NEIGHBOUR: 'it returns false'. Refute it at one input. -/
def indexSameWrong : ChangeSpec := { name := "indexSame", fn := fun _ => fun
  | [d1, d2, d3] => { results := [.lit (.bool false)], args := [d1, d2, d3] }
  | _ => none }
def IndexSameWrongFalsely : Prop := indexSameRow.holds Try.pinned (OpenSpec.ofChange indexSameWrong)

/-- 'lichenlaw21.IndexRow': WHATEVER THE INPUT: true; the input reads as it did. -/
def indexRowSpec : ChangeSpec := { name := "indexRow", fn := fun _ => fun
  | [d1, d2] => { results := [.lit (.bool true)], args := [d1, d2] }
  | _ => none }
def indexRowRow : OpenClaim := { program := "ytdgnpoapkjoknaa", sum := "3d6d7b334574e69e7ed535d9356cef3b35216a802db28abc718770400308f6d4", func := "lichen/lichenlaw21.IndexRow", spec := "indexRow", inPlace := ["slices.overlaps[lichen/api.Pair]"], unfollowed := true, recurses := true, apart := false }
def IndexRowSaid : Prop := indexRowRow.holds Try.pinned (OpenSpec.ofChange indexRowSpec)

/-- ITS FALSE NEIGHBOUR: 'it returns false'. Refute it at one input. -/
def indexRowWrong : ChangeSpec := { name := "indexRow", fn := fun _ => fun
  | [d1, d2] => { results := [.lit (.bool false)], args := [d1, d2] }
  | _ => none }
def IndexRowWrongFalsely : Prop := indexRowRow.holds Try.pinned (OpenSpec.ofChange indexRowWrong)

/-- 'lichenlaw22.Plans': WHATEVER THE INPUT: true; the input reads as it did. -/
def plansSpec : ChangeSpec := { name := "plans", fn := fun _ => fun
  | [d1, d2, d3] => { results := [.lit (.bool true)], args := [d1, d2, d3] }
  | _ => none }
def plansRow : OpenClaim := { program := "ytdgnpoapkjoknaa", sum := "3d6d7b334574e69e7ed535d9356cef3b35216a802db28abc718770400308f6d4", func := "lichen/lichenlaw22.Plans", spec := "plans", inPlace := ["slices.overlaps[lichen/api.Pair]"], unfollowed := true, recurses := true, apart := false }
def PlansSaid : Prop := plansRow.holds Try.pinned (OpenSpec.ofChange plansSpec)

/-- ITS FALSE NEIGHBOUR: 'it returns false'. Refute it at one input. -/
def plansWrong : ChangeSpec := { name := "plans", fn := fun _ => fun
  | [d1, d2, d3] => { results := [.lit (.bool false)], args := [d1, d2, d3] }
  | _ => none }
def PlansWrongFalsely : Prop := plansRow.holds Try.pinned (OpenSpec.ofChange plansWrong)

/-- 'lichenlaw22.PlanMap': WHATEVER THE INPUT: true; the input reads as it did. -/
def planMapSpec : ChangeSpec := { name := "planMap", fn := fun _ => fun
  | [d1, d2, d3] => { results := [.lit (.bool true)], args := [d1, d2, d3] }
  | _ => none }
def planMapRow : OpenClaim := { program := "ytdgnpoapkjoknaa", sum := "3d6d7b334574e69e7ed535d9356cef3b35216a802db28abc718770400308f6d4", func := "lichen/lichenlaw22.PlanMap", spec := "planMap", inPlace := ["slices.overlaps[lichen/api.Pair]"], unfollowed := true, recurses := true, apart := false }
def PlanMapSaid : Prop := planMapRow.holds Try.pinned (OpenSpec.ofChange planMapSpec)

/-- ITS FALSE NEIGHBOUR: 'it returns false'. Refute it at one input. -/
def planMapWrong : ChangeSpec := { name := "planMap", fn := fun _ => fun
  | [d1, d2, d3] => { results := [.lit (.bool false)], args := [d1, d2, d3] }
  | _ => none }
def PlanMapWrongFalsely : Prop := planMapRow.holds Try.pinned (OpenSpec.ofChange planMapWrong)

/-- 'lichenlaw22.PlanForms': WHATEVER THE INPUT: true; the input reads as it did. -/
def planFormsSpec : ChangeSpec := { name := "planForms", fn := fun _ => fun
  | [d1, d2] => { results := [.lit (.bool true)], args := [d1, d2] }
  | _ => none }
def planFormsRow : OpenClaim := { program := "ytdgnpoapkjoknaa", sum := "3d6d7b334574e69e7ed535d9356cef3b35216a802db28abc718770400308f6d4", func := "lichen/lichenlaw22.PlanForms", spec := "planForms", inPlace := ["slices.overlaps[lichen/api.Pair]"], unfollowed := true, recurses := true, apart := false }
def PlanFormsSaid : Prop := planFormsRow.holds Try.pinned (OpenSpec.ofChange planFormsSpec)

/-- ITS FALSE NEIGHBOUR: 'it returns false'. Refute it at one input. -/
def planFormsWrong : ChangeSpec := { name := "planForms", fn := fun _ => fun
  | [d1, d2] => { results := [.lit (.bool false)], args := [d1, d2] }
  | _ => none }
def PlanFormsWrongFalsely : Prop := planFormsRow.holds Try.pinned (OpenSpec.ofChange planFormsWrong)

/-- 'lichenlaw22.PlanRooms': WHATEVER THE INPUT: true; the input reads as it did. -/
def planRoomsSpec : ChangeSpec := { name := "planRooms", fn := fun _ => fun
  | [d1, d2, d3, d4] => { results := [.lit (.bool true)], args := [d1, d2, d3, d4] }
  | _ => none }
def planRoomsRow : OpenClaim := { program := "ytdgnpoapkjoknaa", sum := "3d6d7b334574e69e7ed535d9356cef3b35216a802db28abc718770400308f6d4", func := "lichen/lichenlaw22.PlanRooms", spec := "planRooms", inPlace := ["slices.overlaps[lichen/api.Pair]"], unfollowed := true, recurses := true, apart := false }
def PlanRoomsSaid : Prop := planRoomsRow.holds Try.pinned (OpenSpec.ofChange planRoomsSpec)

/-- ITS FALSE NEIGHBOUR: 'it returns false'. Refute it at one input. -/
def planRoomsWrong : ChangeSpec := { name := "planRooms", fn := fun _ => fun
  | [d1, d2, d3, d4] => { results := [.lit (.bool false)], args := [d1, d2, d3, d4] }
  | _ => none }
def PlanRoomsWrongFalsely : Prop := planRoomsRow.holds Try.pinned (OpenSpec.ofChange planRoomsWrong)

/-- 'lichenlaw22.PlanAgain': WHATEVER THE INPUT: true; the input reads as it did. -/
def planAgainSpec : ChangeSpec := { name := "planAgain", fn := fun _ => fun
  | [d1, d2] => { results := [.lit (.bool true)], args := [d1, d2] }
  | _ => none }
def planAgainRow : OpenClaim := { program := "ytdgnpoapkjoknaa", sum := "3d6d7b334574e69e7ed535d9356cef3b35216a802db28abc718770400308f6d4", func := "lichen/lichenlaw22.PlanAgain", spec := "planAgain", inPlace := ["slices.overlaps[lichen/api.Pair]"], unfollowed := true, recurses := true, apart := false }
def PlanAgainSaid : Prop := planAgainRow.holds Try.pinned (OpenSpec.ofChange planAgainSpec)

/-- ITS FALSE NEIGHBOUR: 'it returns false'. Refute it at one input. -/
def planAgainWrong : ChangeSpec := { name := "planAgain", fn := fun _ => fun
  | [d1, d2] => { results := [.lit (.bool false)], args := [d1, d2] }
  | _ => none }
def PlanAgainWrongFalsely : Prop := planAgainRow.holds Try.pinned (OpenSpec.ofChange planAgainWrong)

/- THE SECOND FORM. 'bulk': how many values and letters a reading holds, each counted each time it is reached (what is shared counts as often as it is met; a slice's spare places count too). A statement '..UptoSaid' is the law's where the arguments, and the package variables that the reading takes, are together of bulk at most 1048576: NARROWER than '..Said'. Prove '..Said' where nothing that the law and all that it calls make is longer than what came in: it says more and counts as full. Else prove '..UptoSaid'. A law counts once. -/
mutual
def uptoBulk {H : Type} : DataW H → Nat
  | .lit (.string bytes) => bytes.length + 1
  | .lit _ => 1
  | .nil => 1
  | .ptr d => uptoBulk d + 1
  | .slice elems spare => uptoBulkAll elems + uptoBulkAll spare + 1
  | .agg parts => uptoBulkAll parts + 1
  | .iface _ d => uptoBulk d + 1
  | .map entries => uptoBulkEntries entries + 1
  | .held _ => 1
def uptoBulkAll {H : Type} : List (DataW H) → Nat
  | [] => 0
  | d :: r => uptoBulk d + uptoBulkAll r
def uptoBulkEntries {H : Type} : List (Lit × DataW H) → Nat
  | [] => 0
  | x :: r => uptoBulkEntry x + uptoBulkEntries r
def uptoBulkEntry {H : Type} : Lit × DataW H → Nat
  | (.string bytes, d) => bytes.length + uptoBulk d + 1
  | (_, d) => uptoBulk d + 1
 end
def uptoSmall : (H : Type) → List (DataW H) → Bool := fun _ ds => decide (uptoBulkAll ds ≤ 1048576)
def OpenSpec.upto (s : _root_.Go.ChangeSpec) : _root_.Go.OpenSpec := { _root_.Go.OpenSpec.ofChange s with cond := some uptoSmall }

/-- 'lichenlaw21.Indexes', WHERE WHAT IT READS IS OF BULK AT MOST 1048576: true; the input reads as it did. -/
def indexesUptoRow : OpenClaim := { program := "ytdgnpoapkjoknaa", sum := "3d6d7b334574e69e7ed535d9356cef3b35216a802db28abc718770400308f6d4", func := "lichen/lichenlaw21.Indexes", spec := "indexes", inPlace := ["slices.overlaps[lichen/api.Pair]"], unfollowed := true, recurses := true, apart := false, narrowed := true }
def IndexesUptoSaid : Prop := indexesUptoRow.holds Try.pinned (OpenSpec.upto indexesSpec)

/-- 'lichenlaw21.IndexMap', WHERE WHAT IT READS IS OF BULK AT MOST 1048576: true; the input reads as it did. -/
def indexMapUptoRow : OpenClaim := { program := "ytdgnpoapkjoknaa", sum := "3d6d7b334574e69e7ed535d9356cef3b35216a802db28abc718770400308f6d4", func := "lichen/lichenlaw21.IndexMap", spec := "indexMap", inPlace := ["slices.overlaps[lichen/api.Pair]"], unfollowed := true, recurses := true, apart := false, narrowed := true }
def IndexMapUptoSaid : Prop := indexMapUptoRow.holds Try.pinned (OpenSpec.upto indexMapSpec)

/-- 'lichenlaw21.IndexForms', WHERE WHAT IT READS IS OF BULK AT MOST 1048576: true; the input reads as it did. -/
def indexFormsUptoRow : OpenClaim := { program := "ytdgnpoapkjoknaa", sum := "3d6d7b334574e69e7ed535d9356cef3b35216a802db28abc718770400308f6d4", func := "lichen/lichenlaw21.IndexForms", spec := "indexForms", inPlace := ["slices.overlaps[lichen/api.Pair]"], unfollowed := true, recurses := true, apart := false, narrowed := true }
def IndexFormsUptoSaid : Prop := indexFormsUptoRow.holds Try.pinned (OpenSpec.upto indexFormsSpec)

/-- 'lichenlaw21.IndexSame', WHERE WHAT IT READS IS OF BULK AT MOST 1048576: true; the input reads as it did. -/
def indexSameUptoRow : OpenClaim := { program := "ytdgnpoapkjoknaa", sum := "3d6d7b334574e69e7ed535d9356cef3b35216a802db28abc718770400308f6d4", func := "lichen/lichenlaw21.IndexSame", spec := "indexSame", inPlace := ["slices.overlaps[lichen/api.Pair]"], unfollowed := true, recurses := true, apart := false, narrowed := true }
def IndexSameUptoSaid : Prop := indexSameUptoRow.holds Try.pinned (OpenSpec.upto indexSameSpec)

/-- 'lichenlaw21.IndexRow', WHERE WHAT IT READS IS OF BULK AT MOST 1048576: true; the input reads as it did. -/
def indexRowUptoRow : OpenClaim := { program := "ytdgnpoapkjoknaa", sum := "3d6d7b334574e69e7ed535d9356cef3b35216a802db28abc718770400308f6d4", func := "lichen/lichenlaw21.IndexRow", spec := "indexRow", inPlace := ["slices.overlaps[lichen/api.Pair]"], unfollowed := true, recurses := true, apart := false, narrowed := true }
def IndexRowUptoSaid : Prop := indexRowUptoRow.holds Try.pinned (OpenSpec.upto indexRowSpec)

/-- 'lichenlaw22.Plans', WHERE WHAT IT READS IS OF BULK AT MOST 1048576: true; the input reads as it did. -/
def plansUptoRow : OpenClaim := { program := "ytdgnpoapkjoknaa", sum := "3d6d7b334574e69e7ed535d9356cef3b35216a802db28abc718770400308f6d4", func := "lichen/lichenlaw22.Plans", spec := "plans", inPlace := ["slices.overlaps[lichen/api.Pair]"], unfollowed := true, recurses := true, apart := false, narrowed := true }
def PlansUptoSaid : Prop := plansUptoRow.holds Try.pinned (OpenSpec.upto plansSpec)

/-- 'lichenlaw22.PlanMap', WHERE WHAT IT READS IS OF BULK AT MOST 1048576: true; the input reads as it did. -/
def planMapUptoRow : OpenClaim := { program := "ytdgnpoapkjoknaa", sum := "3d6d7b334574e69e7ed535d9356cef3b35216a802db28abc718770400308f6d4", func := "lichen/lichenlaw22.PlanMap", spec := "planMap", inPlace := ["slices.overlaps[lichen/api.Pair]"], unfollowed := true, recurses := true, apart := false, narrowed := true }
def PlanMapUptoSaid : Prop := planMapUptoRow.holds Try.pinned (OpenSpec.upto planMapSpec)

/-- 'lichenlaw22.PlanForms', WHERE WHAT IT READS IS OF BULK AT MOST 1048576: true; the input reads as it did. -/
def planFormsUptoRow : OpenClaim := { program := "ytdgnpoapkjoknaa", sum := "3d6d7b334574e69e7ed535d9356cef3b35216a802db28abc718770400308f6d4", func := "lichen/lichenlaw22.PlanForms", spec := "planForms", inPlace := ["slices.overlaps[lichen/api.Pair]"], unfollowed := true, recurses := true, apart := false, narrowed := true }
def PlanFormsUptoSaid : Prop := planFormsUptoRow.holds Try.pinned (OpenSpec.upto planFormsSpec)

/-- 'lichenlaw22.PlanRooms', WHERE WHAT IT READS IS OF BULK AT MOST 1048576: true; the input reads as it did. -/
def planRoomsUptoRow : OpenClaim := { program := "ytdgnpoapkjoknaa", sum := "3d6d7b334574e69e7ed535d9356cef3b35216a802db28abc718770400308f6d4", func := "lichen/lichenlaw22.PlanRooms", spec := "planRooms", inPlace := ["slices.overlaps[lichen/api.Pair]"], unfollowed := true, recurses := true, apart := false, narrowed := true }
def PlanRoomsUptoSaid : Prop := planRoomsUptoRow.holds Try.pinned (OpenSpec.upto planRoomsSpec)

/-- 'lichenlaw22.PlanAgain', WHERE WHAT IT READS IS OF BULK AT MOST 1048576: true; the input reads as it did. -/
def planAgainUptoRow : OpenClaim := { program := "ytdgnpoapkjoknaa", sum := "3d6d7b334574e69e7ed535d9356cef3b35216a802db28abc718770400308f6d4", func := "lichen/lichenlaw22.PlanAgain", spec := "planAgain", inPlace := ["slices.overlaps[lichen/api.Pair]"], unfollowed := true, recurses := true, apart := false, narrowed := true }
def PlanAgainUptoSaid : Prop := planAgainUptoRow.holds Try.pinned (OpenSpec.upto planAgainSpec)

end Rows
end Go.Proofs.Ytdgnpoapkjoknaa
