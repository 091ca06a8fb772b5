/-
  No cell of these rows narrows 'for every input' (looked for: loops, veiled, ifaces, maps, wideKeys, modest, calm, conditions, laid).
  DERIVED. THE GIVEN ROWS OF THIS SEAT. 12 by the template 'for every input the law returns true; each argument reads behind the call as it read before'; 0 by the template 'total and deterministic' (their statements: YtohjijhmlfhcnaaTotals.lean).
  GIVEN WITH THE SEED: the statements are not yours to turn. If you find one false, say at which input.
  Laid BY PROGRAM, IN A SANDBOX (cutbox-rows.mjs): the forced cells as the released guide's own fill.sh prints them over the translation b8407af7af4c51d0… (all of the seat's roots in one cut). By AI agents, Wed Nov 11 2026. No macro, syntax, notation, axiom, sorry.
-/
import Derived.Test.YtohjijhmlfhcnaaChecked
import GoSem.Claim
import GoSem.ClaimJoined
import GoSem.ClaimMapViews
import Derived.JoinedTies
import Derived.KernelRfl
namespace Go.Proofs.Ytohjijhmlfhcnaa
/- THE CELL 'sum', in the pinned program and in every row, IS THE sha256 OF THE DUMP (.gsa) THAT YtohjijhmlfhcnaaProg.lean LOADS. Nothing in Lean hashes anything: it is a label: what it is worth is what the hold of that sum in a sandbox is worth. -/
noncomputable def Try.pinned : Pinned := { name := "ytohjijhmlfhcnaa", sum := "b8407af7af4c51d0d34b737b8dc6e0e28b728ee4bde0be6bb1c13925ab54fb9d", checked := Try.checked }
namespace Rows
def none {H : Type} : Left H := { results := [], args := [] }

/-- 'lichenlaw2.Pairs': WHATEVER THE INPUT: true; the input reads as it did. -/
def pairsSpec : ChangeSpec := { name := "pairs", fn := fun _ => fun
  | [d1, d2] => { results := [.lit (.bool true)], args := [d1, d2] }
  | _ => none }
def pairsRow : OpenClaim := { program := "ytohjijhmlfhcnaa", sum := "b8407af7af4c51d0d34b737b8dc6e0e28b728ee4bde0be6bb1c13925ab54fb9d", func := "lichen/lichenlaw2.Pairs", spec := "pairs", apart := false }
def PairsSaid : Prop := pairsRow.holds Try.pinned (OpenSpec.ofChange pairsSpec)

/-- ITS FALSE NEIGHBOUR: 'it returns false'. Refute it at one input. -/
def pairsWrong : ChangeSpec := { name := "pairs", fn := fun _ => fun
  | [d1, d2] => { results := [.lit (.bool false)], args := [d1, d2] }
  | _ => none }
def PairsWrongFalsely : Prop := pairsRow.holds Try.pinned (OpenSpec.ofChange pairsWrong)

/-- 'lichenlaw2.PairBits': WHATEVER THE INPUT: true; the input reads as it did. -/
def pairBitsSpec : ChangeSpec := { name := "pairBits", fn := fun _ => fun
  | [d1, d2] => { results := [.lit (.bool true)], args := [d1, d2] }
  | _ => none }
def pairBitsRow : OpenClaim := { program := "ytohjijhmlfhcnaa", sum := "b8407af7af4c51d0d34b737b8dc6e0e28b728ee4bde0be6bb1c13925ab54fb9d", func := "lichen/lichenlaw2.PairBits", spec := "pairBits", apart := false }
def PairBitsSaid : Prop := pairBitsRow.holds Try.pinned (OpenSpec.ofChange pairBitsSpec)

/-- ITS FALSE NEIGHBOUR: 'it returns false'. Refute it at one input. -/
def pairBitsWrong : ChangeSpec := { name := "pairBits", fn := fun _ => fun
  | [d1, d2] => { results := [.lit (.bool false)], args := [d1, d2] }
  | _ => none }
def PairBitsWrongFalsely : Prop := pairBitsRow.holds Try.pinned (OpenSpec.ofChange pairBitsWrong)

/-- 'lichenlaw2.PairForms': WHATEVER THE INPUT: true; the input reads as it did. -/
def pairFormsSpec : ChangeSpec := { name := "pairForms", fn := fun _ => fun
  | [d1, d2] => { results := [.lit (.bool true)], args := [d1, d2] }
  | _ => none }
def pairFormsRow : OpenClaim := { program := "ytohjijhmlfhcnaa", sum := "b8407af7af4c51d0d34b737b8dc6e0e28b728ee4bde0be6bb1c13925ab54fb9d", func := "lichen/lichenlaw2.PairForms", spec := "pairForms", apart := false }
def PairFormsSaid : Prop := pairFormsRow.holds Try.pinned (OpenSpec.ofChange pairFormsSpec)

/-- ITS FALSE NEIGHBOUR: 'it returns false'. Refute it at one input. -/
def pairFormsWrong : ChangeSpec := { name := "pairForms", fn := fun _ => fun
  | [d1, d2] => { results := [.lit (.bool false)], args := [d1, d2] }
  | _ => none }
def PairFormsWrongFalsely : Prop := pairFormsRow.holds Try.pinned (OpenSpec.ofChange pairFormsWrong)

/-- 'lichenlaw2.PairCounts': WHATEVER THE INPUT: true; the input reads as it did. -/
def pairCountsSpec : ChangeSpec := { name := "pairCounts", fn := fun _ => fun
  | [d] => { results := [.lit (.bool true)], args := [d] }
  | _ => none }
def pairCountsRow : OpenClaim := { program := "ytohjijhmlfhcnaa", sum := "b8407af7af4c51d0d34b737b8dc6e0e28b728ee4bde0be6bb1c13925ab54fb9d", func := "lichen/lichenlaw2.PairCounts", spec := "pairCounts", apart := false }
def PairCountsSaid : Prop := pairCountsRow.holds Try.pinned (OpenSpec.ofChange pairCountsSpec)

/-- ITS FALSE NEIGHBOUR: 'it returns false'. Refute it at one input. -/
def pairCountsWrong : ChangeSpec := { name := "pairCounts", fn := fun _ => fun
  | [d] => { results := [.lit (.bool false)], args := [d] }
  | _ => none }
def PairCountsWrongFalsely : Prop := pairCountsRow.holds Try.pinned (OpenSpec.ofChange pairCountsWrong)

/-- 'lichenlaw1.Cells': WHATEVER THE INPUT: true; the input reads as it did. -/
def cellsSpec : ChangeSpec := { name := "cells", fn := fun _ => fun
  | [d1, d2, d3, d4, d5, d6] => { results := [.lit (.bool true)], args := [d1, d2, d3, d4, d5, d6] }
  | _ => none }
def cellsRow : OpenClaim := { program := "ytohjijhmlfhcnaa", sum := "b8407af7af4c51d0d34b737b8dc6e0e28b728ee4bde0be6bb1c13925ab54fb9d", func := "lichen/lichenlaw1.Cells", spec := "cells", inPlace := ["internal/abi.NoEscape", "internal/bytealg.MakeNoZero"], unfollowed := true, recurses := true, apart := false }
def CellsSaid : Prop := cellsRow.holds Try.pinned (OpenSpec.ofChange cellsSpec)

/-- ITS FALSE NEIGHBOUR: 'it returns false'. Refute it at one input. -/
def cellsWrong : ChangeSpec := { name := "cells", fn := fun _ => fun
  | [d1, d2, d3, d4, d5, d6] => { results := [.lit (.bool false)], args := [d1, d2, d3, d4, d5, d6] }
  | _ => none }
def CellsWrongFalsely : Prop := cellsRow.holds Try.pinned (OpenSpec.ofChange cellsWrong)

/-- 'lichenlaw1.CellBits': WHATEVER THE INPUT: true; the input reads as it did. -/
def cellBitsSpec : ChangeSpec := { name := "cellBits", fn := fun _ => fun
  | [d1, d2, d3, d4, d5] => { results := [.lit (.bool true)], args := [d1, d2, d3, d4, d5] }
  | _ => none }
def cellBitsRow : OpenClaim := { program := "ytohjijhmlfhcnaa", sum := "b8407af7af4c51d0d34b737b8dc6e0e28b728ee4bde0be6bb1c13925ab54fb9d", func := "lichen/lichenlaw1.CellBits", spec := "cellBits", inPlace := ["internal/abi.NoEscape", "internal/bytealg.MakeNoZero"], unfollowed := true, recurses := true, apart := false }
def CellBitsSaid : Prop := cellBitsRow.holds Try.pinned (OpenSpec.ofChange cellBitsSpec)

/-- ITS FALSE NEIGHBOUR: 'it returns false'. Refute it at one input. -/
def cellBitsWrong : ChangeSpec := { name := "cellBits", fn := fun _ => fun
  | [d1, d2, d3, d4, d5] => { results := [.lit (.bool false)], args := [d1, d2, d3, d4, d5] }
  | _ => none }
def CellBitsWrongFalsely : Prop := cellBitsRow.holds Try.pinned (OpenSpec.ofChange cellBitsWrong)

/-- 'lichenlaw1.CellForms': WHATEVER THE INPUT: true; the input reads as it did. -/
def cellFormsSpec : ChangeSpec := { name := "cellForms", fn := fun _ => fun
  | [d1, d2] => { results := [.lit (.bool true)], args := [d1, d2] }
  | _ => none }
def cellFormsRow : OpenClaim := { program := "ytohjijhmlfhcnaa", sum := "b8407af7af4c51d0d34b737b8dc6e0e28b728ee4bde0be6bb1c13925ab54fb9d", func := "lichen/lichenlaw1.CellForms", spec := "cellForms", inPlace := ["internal/abi.NoEscape", "internal/bytealg.MakeNoZero"], unfollowed := true, recurses := true, apart := false }
def CellFormsSaid : Prop := cellFormsRow.holds Try.pinned (OpenSpec.ofChange cellFormsSpec)

/-- ITS FALSE NEIGHBOUR: 'it returns false'. Refute it at one input. -/
def cellFormsWrong : ChangeSpec := { name := "cellForms", fn := fun _ => fun
  | [d1, d2] => { results := [.lit (.bool false)], args := [d1, d2] }
  | _ => none }
def CellFormsWrongFalsely : Prop := cellFormsRow.holds Try.pinned (OpenSpec.ofChange cellFormsWrong)

/-- 'lichenlaw1.CellTwice': WHATEVER THE INPUT: true; the input reads as it did. -/
def cellTwiceSpec : ChangeSpec := { name := "cellTwice", fn := fun _ => fun
  | [d1, d2, d3, d4, d5] => { results := [.lit (.bool true)], args := [d1, d2, d3, d4, d5] }
  | _ => none }
def cellTwiceRow : OpenClaim := { program := "ytohjijhmlfhcnaa", sum := "b8407af7af4c51d0d34b737b8dc6e0e28b728ee4bde0be6bb1c13925ab54fb9d", func := "lichen/lichenlaw1.CellTwice", spec := "cellTwice", inPlace := ["internal/abi.NoEscape", "internal/bytealg.MakeNoZero"], unfollowed := true, recurses := true, apart := false }
def CellTwiceSaid : Prop := cellTwiceRow.holds Try.pinned (OpenSpec.ofChange cellTwiceSpec)

/-- ITS FALSE NEIGHBOUR: 'it returns false'. Refute it at one input. -/
def cellTwiceWrong : ChangeSpec := { name := "cellTwice", fn := fun _ => fun
  | [d1, d2, d3, d4, d5] => { results := [.lit (.bool false)], args := [d1, d2, d3, d4, d5] }
  | _ => none }
def CellTwiceWrongFalsely : Prop := cellTwiceRow.holds Try.pinned (OpenSpec.ofChange cellTwiceWrong)

/-- 'lichenlaw1.CellOver': WHATEVER THE INPUT: true; the input reads as it did. -/
def cellOverSpec : ChangeSpec := { name := "cellOver", fn := fun _ => fun
  | [d1, d2, d3, d4, d5] => { results := [.lit (.bool true)], args := [d1, d2, d3, d4, d5] }
  | _ => none }
def cellOverRow : OpenClaim := { program := "ytohjijhmlfhcnaa", sum := "b8407af7af4c51d0d34b737b8dc6e0e28b728ee4bde0be6bb1c13925ab54fb9d", func := "lichen/lichenlaw1.CellOver", spec := "cellOver", inPlace := ["internal/abi.NoEscape", "internal/bytealg.MakeNoZero"], unfollowed := true, recurses := true, apart := false }
def CellOverSaid : Prop := cellOverRow.holds Try.pinned (OpenSpec.ofChange cellOverSpec)

/-- ITS FALSE NEIGHBOUR: 'it returns false'. Refute it at one input. -/
def cellOverWrong : ChangeSpec := { name := "cellOver", fn := fun _ => fun
  | [d1, d2, d3, d4, d5] => { results := [.lit (.bool false)], args := [d1, d2, d3, d4, d5] }
  | _ => none }
def CellOverWrongFalsely : Prop := cellOverRow.holds Try.pinned (OpenSpec.ofChange cellOverWrong)

/-- 'lichenlaw1.CellParts': WHATEVER THE INPUT: true; the input reads as it did. -/
def cellPartsSpec : ChangeSpec := { name := "cellParts", fn := fun _ => fun
  | [d1, d2, d3, d4, d5, d6] => { results := [.lit (.bool true)], args := [d1, d2, d3, d4, d5, d6] }
  | _ => none }
def cellPartsRow : OpenClaim := { program := "ytohjijhmlfhcnaa", sum := "b8407af7af4c51d0d34b737b8dc6e0e28b728ee4bde0be6bb1c13925ab54fb9d", func := "lichen/lichenlaw1.CellParts", spec := "cellParts", inPlace := ["internal/abi.NoEscape", "internal/bytealg.MakeNoZero"], unfollowed := true, recurses := true, apart := false }
def CellPartsSaid : Prop := cellPartsRow.holds Try.pinned (OpenSpec.ofChange cellPartsSpec)

/-- ITS FALSE NEIGHBOUR: 'it returns false'. Refute it at one input. -/
def cellPartsWrong : ChangeSpec := { name := "cellParts", fn := fun _ => fun
  | [d1, d2, d3, d4, d5, d6] => { results := [.lit (.bool false)], args := [d1, d2, d3, d4, d5, d6] }
  | _ => none }
def CellPartsWrongFalsely : Prop := cellPartsRow.holds Try.pinned (OpenSpec.ofChange cellPartsWrong)

/-- 'lichenlaw2.PairAnd': WHATEVER THE INPUT: true; the input reads as it did. -/
def pairAndSpec : ChangeSpec := { name := "pairAnd", fn := fun _ => fun
  | [d1, d2] => { results := [.lit (.bool true)], args := [d1, d2] }
  | _ => none }
def pairAndRow : OpenClaim := { program := "ytohjijhmlfhcnaa", sum := "b8407af7af4c51d0d34b737b8dc6e0e28b728ee4bde0be6bb1c13925ab54fb9d", func := "lichen/lichenlaw2.PairAnd", spec := "pairAnd", inPlace := ["internal/abi.NoEscape", "internal/bytealg.MakeNoZero"], unfollowed := true, recurses := true, apart := false }
def PairAndSaid : Prop := pairAndRow.holds Try.pinned (OpenSpec.ofChange pairAndSpec)

/-- ITS FALSE NEIGHBOUR: 'it returns false'. Refute it at one input. -/
def pairAndWrong : ChangeSpec := { name := "pairAnd", fn := fun _ => fun
  | [d1, d2] => { results := [.lit (.bool false)], args := [d1, d2] }
  | _ => none }
def PairAndWrongFalsely : Prop := pairAndRow.holds Try.pinned (OpenSpec.ofChange pairAndWrong)

/-- 'lichenlaw2.PairWhole': WHATEVER THE INPUT: true; the input reads as it did. -/
def pairWholeSpec : ChangeSpec := { name := "pairWhole", fn := fun _ => fun
  | [d1, d2, d3, d4, d5] => { results := [.lit (.bool true)], args := [d1, d2, d3, d4, d5] }
  | _ => none }
def pairWholeRow : OpenClaim := { program := "ytohjijhmlfhcnaa", sum := "b8407af7af4c51d0d34b737b8dc6e0e28b728ee4bde0be6bb1c13925ab54fb9d", func := "lichen/lichenlaw2.PairWhole", spec := "pairWhole", inPlace := ["internal/abi.NoEscape", "internal/bytealg.MakeNoZero"], unfollowed := true, recurses := true, apart := false }
def PairWholeSaid : Prop := pairWholeRow.holds Try.pinned (OpenSpec.ofChange pairWholeSpec)

/-- ITS FALSE NEIGHBOUR: 'it returns false'. Refute it at one input. -/
def pairWholeWrong : ChangeSpec := { name := "pairWhole", fn := fun _ => fun
  | [d1, d2, d3, d4, d5] => { results := [.lit (.bool false)], args := [d1, d2, d3, d4, d5] }
  | _ => none }
def PairWholeWrongFalsely : Prop := pairWholeRow.holds Try.pinned (OpenSpec.ofChange pairWholeWrong)

/- THE SECOND FORM. 'bulk': how many values and letters a reading holds, each counted each time it is reached (what is shared counts as often as it is met; a slice's spare places count too). A statement '..UptoSaid' is the law's where the arguments, and the package variables that the reading takes, are together of bulk at most 1048576: NARROWER than '..Said'. Prove '..Said' where nothing that the law and all that it calls make is longer than what came in: it says more and counts as full. Else prove '..UptoSaid'. A law counts once. -/
mutual
def uptoBulk {H : Type} : DataW H → Nat
  | .lit (.string bytes) => bytes.length + 1
  | .lit _ => 1
  | .nil => 1
  | .ptr d => uptoBulk d + 1
  | .slice elems spare => uptoBulkAll elems + uptoBulkAll spare + 1
  | .agg parts => uptoBulkAll parts + 1
  | .iface _ d => uptoBulk d + 1
  | .map entries => uptoBulkEntries entries + 1
  | .held _ => 1
def uptoBulkAll {H : Type} : List (DataW H) → Nat
  | [] => 0
  | d :: r => uptoBulk d + uptoBulkAll r
def uptoBulkEntries {H : Type} : List (Lit × DataW H) → Nat
  | [] => 0
  | x :: r => uptoBulkEntry x + uptoBulkEntries r
def uptoBulkEntry {H : Type} : Lit × DataW H → Nat
  | (.string bytes, d) => bytes.length + uptoBulk d + 1
  | (_, d) => uptoBulk d + 1
 end
def uptoSmall : (H : Type) → List (DataW H) → Bool := fun _ ds => decide (uptoBulkAll ds ≤ 1048576)
def OpenSpec.upto (s : _root_.Go.ChangeSpec) : _root_.Go.OpenSpec := { _root_.Go.OpenSpec.ofChange s with cond := some uptoSmall }

/-- 'lichenlaw2.Pairs', WHERE WHAT IT READS IS OF BULK AT MOST 1048576: true; the input reads as it did. -/
def pairsUptoRow : OpenClaim := { program := "ytohjijhmlfhcnaa", sum := "b8407af7af4c51d0d34b737b8dc6e0e28b728ee4bde0be6bb1c13925ab54fb9d", func := "lichen/lichenlaw2.Pairs", spec := "pairs", apart := false, narrowed := true }
def PairsUptoSaid : Prop := pairsUptoRow.holds Try.pinned (OpenSpec.upto pairsSpec)

/-- 'lichenlaw2.PairBits', WHERE WHAT IT READS IS OF BULK AT MOST 1048576: true; the input reads as it did. -/
def pairBitsUptoRow : OpenClaim := { program := "ytohjijhmlfhcnaa", sum := "b8407af7af4c51d0d34b737b8dc6e0e28b728ee4bde0be6bb1c13925ab54fb9d", func := "lichen/lichenlaw2.PairBits", spec := "pairBits", apart := false, narrowed := true }
def PairBitsUptoSaid : Prop := pairBitsUptoRow.holds Try.pinned (OpenSpec.upto pairBitsSpec)

/-- 'lichenlaw2.PairForms', WHERE WHAT IT READS IS OF BULK AT MOST 1048576: true; the input reads as it did. -/
def pairFormsUptoRow : OpenClaim := { program := "ytohjijhmlfhcnaa", sum := "b8407af7af4c51d0d34b737b8dc6e0e28b728ee4bde0be6bb1c13925ab54fb9d", func := "lichen/lichenlaw2.PairForms", spec := "pairForms", apart := false, narrowed := true }
def PairFormsUptoSaid : Prop := pairFormsUptoRow.holds Try.pinned (OpenSpec.upto pairFormsSpec)

/-- 'lichenlaw2.PairCounts', WHERE WHAT IT READS IS OF BULK AT MOST 1048576: true; the input reads as it did. -/
def pairCountsUptoRow : OpenClaim := { program := "ytohjijhmlfhcnaa", sum := "b8407af7af4c51d0d34b737b8dc6e0e28b728ee4bde0be6bb1c13925ab54fb9d", func := "lichen/lichenlaw2.PairCounts", spec := "pairCounts", apart := false, narrowed := true }
def PairCountsUptoSaid : Prop := pairCountsUptoRow.holds Try.pinned (OpenSpec.upto pairCountsSpec)

/-- 'lichenlaw1.Cells', WHERE WHAT IT READS IS OF BULK AT MOST 1048576: true; the input reads as it did. -/
def cellsUptoRow : OpenClaim := { program := "ytohjijhmlfhcnaa", sum := "b8407af7af4c51d0d34b737b8dc6e0e28b728ee4bde0be6bb1c13925ab54fb9d", func := "lichen/lichenlaw1.Cells", spec := "cells", inPlace := ["internal/abi.NoEscape", "internal/bytealg.MakeNoZero"], unfollowed := true, recurses := true, apart := false, narrowed := true }
def CellsUptoSaid : Prop := cellsUptoRow.holds Try.pinned (OpenSpec.upto cellsSpec)

/-- 'lichenlaw1.CellBits', WHERE WHAT IT READS IS OF BULK AT MOST 1048576: true; the input reads as it did. -/
def cellBitsUptoRow : OpenClaim := { program := "ytohjijhmlfhcnaa", sum := "b8407af7af4c51d0d34b737b8dc6e0e28b728ee4bde0be6bb1c13925ab54fb9d", func := "lichen/lichenlaw1.CellBits", spec := "cellBits", inPlace := ["internal/abi.NoEscape", "internal/bytealg.MakeNoZero"], unfollowed := true, recurses := true, apart := false, narrowed := true }
def CellBitsUptoSaid : Prop := cellBitsUptoRow.holds Try.pinned (OpenSpec.upto cellBitsSpec)

/-- 'lichenlaw1.CellForms', WHERE WHAT IT READS IS OF BULK AT MOST 1048576: true; the input reads as it did. -/
def cellFormsUptoRow : OpenClaim := { program := "ytohjijhmlfhcnaa", sum := "b8407af7af4c51d0d34b737b8dc6e0e28b728ee4bde0be6bb1c13925ab54fb9d", func := "lichen/lichenlaw1.CellForms", spec := "cellForms", inPlace := ["internal/abi.NoEscape", "internal/bytealg.MakeNoZero"], unfollowed := true, recurses := true, apart := false, narrowed := true }
def CellFormsUptoSaid : Prop := cellFormsUptoRow.holds Try.pinned (OpenSpec.upto cellFormsSpec)

/-- 'lichenlaw1.CellTwice', WHERE WHAT IT READS IS OF BULK AT MOST 1048576: true; the input reads as it did. -/
def cellTwiceUptoRow : OpenClaim := { program := "ytohjijhmlfhcnaa", sum := "b8407af7af4c51d0d34b737b8dc6e0e28b728ee4bde0be6bb1c13925ab54fb9d", func := "lichen/lichenlaw1.CellTwice", spec := "cellTwice", inPlace := ["internal/abi.NoEscape", "internal/bytealg.MakeNoZero"], unfollowed := true, recurses := true, apart := false, narrowed := true }
def CellTwiceUptoSaid : Prop := cellTwiceUptoRow.holds Try.pinned (OpenSpec.upto cellTwiceSpec)

/-- 'lichenlaw1.CellOver', WHERE WHAT IT READS IS OF BULK AT MOST 1048576: true; the input reads as it did. -/
def cellOverUptoRow : OpenClaim := { program := "ytohjijhmlfhcnaa", sum := "b8407af7af4c51d0d34b737b8dc6e0e28b728ee4bde0be6bb1c13925ab54fb9d", func := "lichen/lichenlaw1.CellOver", spec := "cellOver", inPlace := ["internal/abi.NoEscape", "internal/bytealg.MakeNoZero"], unfollowed := true, recurses := true, apart := false, narrowed := true }
def CellOverUptoSaid : Prop := cellOverUptoRow.holds Try.pinned (OpenSpec.upto cellOverSpec)

/-- 'lichenlaw1.CellParts', WHERE WHAT IT READS IS OF BULK AT MOST 1048576: true; the input reads as it did. -/
def cellPartsUptoRow : OpenClaim := { program := "ytohjijhmlfhcnaa", sum := "b8407af7af4c51d0d34b737b8dc6e0e28b728ee4bde0be6bb1c13925ab54fb9d", func := "lichen/lichenlaw1.CellParts", spec := "cellParts", inPlace := ["internal/abi.NoEscape", "internal/bytealg.MakeNoZero"], unfollowed := true, recurses := true, apart := false, narrowed := true }
def CellPartsUptoSaid : Prop := cellPartsUptoRow.holds Try.pinned (OpenSpec.upto cellPartsSpec)

/-- 'lichenlaw2.PairAnd', WHERE WHAT IT READS IS OF BULK AT MOST 1048576: true; the input reads as it did. -/
def pairAndUptoRow : OpenClaim := { program := "ytohjijhmlfhcnaa", sum := "b8407af7af4c51d0d34b737b8dc6e0e28b728ee4bde0be6bb1c13925ab54fb9d", func := "lichen/lichenlaw2.PairAnd", spec := "pairAnd", inPlace := ["internal/abi.NoEscape", "internal/bytealg.MakeNoZero"], unfollowed := true, recurses := true, apart := false, narrowed := true }
def PairAndUptoSaid : Prop := pairAndUptoRow.holds Try.pinned (OpenSpec.upto pairAndSpec)

/-- 'lichenlaw2.PairWhole', WHERE WHAT IT READS IS OF BULK AT MOST 1048576: true; the input reads as it did. -/
def pairWholeUptoRow : OpenClaim := { program := "ytohjijhmlfhcnaa", sum := "b8407af7af4c51d0d34b737b8dc6e0e28b728ee4bde0be6bb1c13925ab54fb9d", func := "lichen/lichenlaw2.PairWhole", spec := "pairWhole", inPlace := ["internal/abi.NoEscape", "internal/bytealg.MakeNoZero"], unfollowed := true, recurses := true, apart := false, narrowed := true }
def PairWholeUptoSaid : Prop := pairWholeUptoRow.holds Try.pinned (OpenSpec.upto pairWholeSpec)

end Rows
end Go.Proofs.Ytohjijhmlfhcnaa
