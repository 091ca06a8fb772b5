/-
  No cell of these rows narrows 'for every input' (looked for: loops, veiled, ifaces, maps, wideKeys, modest, calm, conditions, laid).
  DERIVED. THE GIVEN ROWS OF THIS SEAT. 9 by the template 'for every input the law returns true; each argument reads behind the call as it read before'; 0 by the template 'total and deterministic' (their statements: YtgkgfeggpoimjaaTotals.lean).
  GIVEN WITH THE SEED: the statements are not yours to turn. If you find one false, say at which input.
  Laid BY PROGRAM, IN A SANDBOX (cutbox-rows.mjs): the forced cells as the released guide's own fill.sh prints them over the translation 51c049ef5ea960f0… (all of the seat's roots in one cut). By AI agents, Wed Nov 11 2026. No macro, syntax, notation, axiom, sorry.
-/
import Derived.Test.YtgkgfeggpoimjaaChecked
import GoSem.Claim
import GoSem.ClaimJoined
import GoSem.ClaimMapViews
import Derived.JoinedTies
import Derived.KernelRfl
namespace Go.Proofs.Ytgkgfeggpoimjaa
/- THE CELL 'sum', in the pinned program and in every row, IS THE sha256 OF THE DUMP (.gsa) THAT YtgkgfeggpoimjaaProg.lean LOADS. Nothing in Lean hashes anything: it is a label: what it is worth is what the hold of that sum in a sandbox is worth. -/
noncomputable def Try.pinned : Pinned := { name := "ytgkgfeggpoimjaa", sum := "51c049ef5ea960f040b68831d99d51cc06ac7b72a58978e57709db995b146aeb", checked := Try.checked }
namespace Rows
def none {H : Type} : Left H := { results := [], args := [] }

/-- 'lichenlaw3.Lanes': WHATEVER THE INPUT: true; the input reads as it did. -/
def lanesSpec : ChangeSpec := { name := "lanes", fn := fun _ => fun
  | [d1, d2, d3] => { results := [.lit (.bool true)], args := [d1, d2, d3] }
  | _ => none }
def lanesRow : OpenClaim := { program := "ytgkgfeggpoimjaa", sum := "51c049ef5ea960f040b68831d99d51cc06ac7b72a58978e57709db995b146aeb", func := "lichen/lichenlaw3.Lanes", spec := "lanes", apart := false }
def LanesSaid : Prop := lanesRow.holds Try.pinned (OpenSpec.ofChange lanesSpec)

/-- ITS FALSE NEIGHBOUR: 'it returns false'. Refute it at one input. -/
def lanesWrong : ChangeSpec := { name := "lanes", fn := fun _ => fun
  | [d1, d2, d3] => { results := [.lit (.bool false)], args := [d1, d2, d3] }
  | _ => none }
def LanesWrongFalsely : Prop := lanesRow.holds Try.pinned (OpenSpec.ofChange lanesWrong)

/-- 'lichenlaw3.LaneBack': WHATEVER THE INPUT: true; the input reads as it did. -/
def laneBackSpec : ChangeSpec := { name := "laneBack", fn := fun _ => fun
  | [d1, d2] => { results := [.lit (.bool true)], args := [d1, d2] }
  | _ => none }
def laneBackRow : OpenClaim := { program := "ytgkgfeggpoimjaa", sum := "51c049ef5ea960f040b68831d99d51cc06ac7b72a58978e57709db995b146aeb", func := "lichen/lichenlaw3.LaneBack", spec := "laneBack", apart := false }
def LaneBackSaid : Prop := laneBackRow.holds Try.pinned (OpenSpec.ofChange laneBackSpec)

/-- ITS FALSE NEIGHBOUR: 'it returns false'. Refute it at one input. -/
def laneBackWrong : ChangeSpec := { name := "laneBack", fn := fun _ => fun
  | [d1, d2] => { results := [.lit (.bool false)], args := [d1, d2] }
  | _ => none }
def LaneBackWrongFalsely : Prop := laneBackRow.holds Try.pinned (OpenSpec.ofChange laneBackWrong)

/-- 'lichenlaw3.LaneForms': WHATEVER THE INPUT: true; the input reads as it did. -/
def laneFormsSpec : ChangeSpec := { name := "laneForms", fn := fun _ => fun
  | [d1, d2] => { results := [.lit (.bool true)], args := [d1, d2] }
  | _ => none }
def laneFormsRow : OpenClaim := { program := "ytgkgfeggpoimjaa", sum := "51c049ef5ea960f040b68831d99d51cc06ac7b72a58978e57709db995b146aeb", func := "lichen/lichenlaw3.LaneForms", spec := "laneForms", apart := false }
def LaneFormsSaid : Prop := laneFormsRow.holds Try.pinned (OpenSpec.ofChange laneFormsSpec)

/-- ITS FALSE NEIGHBOUR: 'it returns false'. Refute it at one input. -/
def laneFormsWrong : ChangeSpec := { name := "laneForms", fn := fun _ => fun
  | [d1, d2] => { results := [.lit (.bool false)], args := [d1, d2] }
  | _ => none }
def LaneFormsWrongFalsely : Prop := laneFormsRow.holds Try.pinned (OpenSpec.ofChange laneFormsWrong)

/-- 'lichenlaw3.LaneHalves': WHATEVER THE INPUT: true; the input reads as it did. -/
def laneHalvesSpec : ChangeSpec := { name := "laneHalves", fn := fun _ => fun
  | [d] => { results := [.lit (.bool true)], args := [d] }
  | _ => none }
def laneHalvesRow : OpenClaim := { program := "ytgkgfeggpoimjaa", sum := "51c049ef5ea960f040b68831d99d51cc06ac7b72a58978e57709db995b146aeb", func := "lichen/lichenlaw3.LaneHalves", spec := "laneHalves", apart := false }
def LaneHalvesSaid : Prop := laneHalvesRow.holds Try.pinned (OpenSpec.ofChange laneHalvesSpec)

/-- ITS FALSE NEIGHBOUR: 'it returns false'. Refute it at one input. -/
def laneHalvesWrong : ChangeSpec := { name := "laneHalves", fn := fun _ => fun
  | [d] => { results := [.lit (.bool false)], args := [d] }
  | _ => none }
def LaneHalvesWrongFalsely : Prop := laneHalvesRow.holds Try.pinned (OpenSpec.ofChange laneHalvesWrong)

/-- 'lichenlaw3.LaneApart': WHATEVER THE INPUT: true; the input reads as it did. -/
def laneApartSpec : ChangeSpec := { name := "laneApart", fn := fun _ => fun
  | [d1, d2] => { results := [.lit (.bool true)], args := [d1, d2] }
  | _ => none }
def laneApartRow : OpenClaim := { program := "ytgkgfeggpoimjaa", sum := "51c049ef5ea960f040b68831d99d51cc06ac7b72a58978e57709db995b146aeb", func := "lichen/lichenlaw3.LaneApart", spec := "laneApart", apart := false }
def LaneApartSaid : Prop := laneApartRow.holds Try.pinned (OpenSpec.ofChange laneApartSpec)

/-- ITS FALSE NEIGHBOUR: 'it returns false'. Refute it at one input. -/
def laneApartWrong : ChangeSpec := { name := "laneApart", fn := fun _ => fun
  | [d1, d2] => { results := [.lit (.bool false)], args := [d1, d2] }
  | _ => none }
def LaneApartWrongFalsely : Prop := laneApartRow.holds Try.pinned (OpenSpec.ofChange laneApartWrong)

/-- 'lichenlaw7.Sfdps': WHATEVER THE INPUT: true; the input reads as it did. -/
def sfdpsSpec : ChangeSpec := { name := "sfdps", fn := fun _ => fun
  | [d1, d2, d3, d4] => { results := [.lit (.bool true)], args := [d1, d2, d3, d4] }
  | _ => none }
def sfdpsRow : OpenClaim := { program := "ytgkgfeggpoimjaa", sum := "51c049ef5ea960f040b68831d99d51cc06ac7b72a58978e57709db995b146aeb", func := "lichen/lichenlaw7.Sfdps", spec := "sfdps", inPlace := ["internal/abi.NoEscape", "internal/bytealg.MakeNoZero"], apart := false }
def SfdpsSaid : Prop := sfdpsRow.holds Try.pinned (OpenSpec.ofChange sfdpsSpec)

/-- ITS FALSE NEIGHBOUR: 'it returns false'. Refute it at one input. -/
def sfdpsWrong : ChangeSpec := { name := "sfdps", fn := fun _ => fun
  | [d1, d2, d3, d4] => { results := [.lit (.bool false)], args := [d1, d2, d3, d4] }
  | _ => none }
def SfdpsWrongFalsely : Prop := sfdpsRow.holds Try.pinned (OpenSpec.ofChange sfdpsWrong)

/-- 'lichenlaw7.SfdpBack': WHATEVER THE INPUT: true; the input reads as it did. -/
def sfdpBackSpec : ChangeSpec := { name := "sfdpBack", fn := fun _ => fun
  | [d1, d2, d3, d4, d5] => { results := [.lit (.bool true)], args := [d1, d2, d3, d4, d5] }
  | _ => none }
def sfdpBackRow : OpenClaim := { program := "ytgkgfeggpoimjaa", sum := "51c049ef5ea960f040b68831d99d51cc06ac7b72a58978e57709db995b146aeb", func := "lichen/lichenlaw7.SfdpBack", spec := "sfdpBack", inPlace := ["internal/abi.NoEscape", "internal/bytealg.MakeNoZero"], apart := false }
def SfdpBackSaid : Prop := sfdpBackRow.holds Try.pinned (OpenSpec.ofChange sfdpBackSpec)

/-- ITS FALSE NEIGHBOUR: 'it returns false'. Refute it at one input. -/
def sfdpBackWrong : ChangeSpec := { name := "sfdpBack", fn := fun _ => fun
  | [d1, d2, d3, d4, d5] => { results := [.lit (.bool false)], args := [d1, d2, d3, d4, d5] }
  | _ => none }
def SfdpBackWrongFalsely : Prop := sfdpBackRow.holds Try.pinned (OpenSpec.ofChange sfdpBackWrong)

/-- 'lichenlaw7.SfdpForms': WHATEVER THE INPUT: true; the input reads as it did. -/
def sfdpFormsSpec : ChangeSpec := { name := "sfdpForms", fn := fun _ => fun
  | [d1, d2] => { results := [.lit (.bool true)], args := [d1, d2] }
  | _ => none }
def sfdpFormsRow : OpenClaim := { program := "ytgkgfeggpoimjaa", sum := "51c049ef5ea960f040b68831d99d51cc06ac7b72a58978e57709db995b146aeb", func := "lichen/lichenlaw7.SfdpForms", spec := "sfdpForms", inPlace := ["internal/abi.NoEscape", "internal/bytealg.MakeNoZero"], apart := false }
def SfdpFormsSaid : Prop := sfdpFormsRow.holds Try.pinned (OpenSpec.ofChange sfdpFormsSpec)

/-- ITS FALSE NEIGHBOUR: 'it returns false'. Refute it at one input. -/
def sfdpFormsWrong : ChangeSpec := { name := "sfdpForms", fn := fun _ => fun
  | [d1, d2] => { results := [.lit (.bool false)], args := [d1, d2] }
  | _ => none }
def SfdpFormsWrongFalsely : Prop := sfdpFormsRow.holds Try.pinned (OpenSpec.ofChange sfdpFormsWrong)

/-- 'lichenlaw7.SfdpApart': WHATEVER THE INPUT: true; the input reads as it did. -/
def sfdpApartSpec : ChangeSpec := { name := "sfdpApart", fn := fun _ => fun
  | [d1, d2, d3, d4] => { results := [.lit (.bool true)], args := [d1, d2, d3, d4] }
  | _ => none }
def sfdpApartRow : OpenClaim := { program := "ytgkgfeggpoimjaa", sum := "51c049ef5ea960f040b68831d99d51cc06ac7b72a58978e57709db995b146aeb", func := "lichen/lichenlaw7.SfdpApart", spec := "sfdpApart", inPlace := ["internal/abi.NoEscape", "internal/bytealg.MakeNoZero"], apart := false }
def SfdpApartSaid : Prop := sfdpApartRow.holds Try.pinned (OpenSpec.ofChange sfdpApartSpec)

/-- ITS FALSE NEIGHBOUR: 'it returns false'. Refute it at one input. -/
def sfdpApartWrong : ChangeSpec := { name := "sfdpApart", fn := fun _ => fun
  | [d1, d2, d3, d4] => { results := [.lit (.bool false)], args := [d1, d2, d3, d4] }
  | _ => none }
def SfdpApartWrongFalsely : Prop := sfdpApartRow.holds Try.pinned (OpenSpec.ofChange sfdpApartWrong)

/- THE SECOND FORM. 'bulk': how many values and letters a reading holds, each counted each time it is reached (what is shared counts as often as it is met; a slice's spare places count too). A statement '..UptoSaid' is the law's where the arguments, and the package variables that the reading takes, are together of bulk at most 1048576: NARROWER than '..Said'. Prove '..Said' where nothing that the law and all that it calls make is longer than what came in: it says more and counts as full. Else prove '..UptoSaid'. A law counts once. -/
mutual
def uptoBulk {H : Type} : DataW H → Nat
  | .lit (.string bytes) => bytes.length + 1
  | .lit _ => 1
  | .nil => 1
  | .ptr d => uptoBulk d + 1
  | .slice elems spare => uptoBulkAll elems + uptoBulkAll spare + 1
  | .agg parts => uptoBulkAll parts + 1
  | .iface _ d => uptoBulk d + 1
  | .map entries => uptoBulkEntries entries + 1
  | .held _ => 1
def uptoBulkAll {H : Type} : List (DataW H) → Nat
  | [] => 0
  | d :: r => uptoBulk d + uptoBulkAll r
def uptoBulkEntries {H : Type} : List (Lit × DataW H) → Nat
  | [] => 0
  | x :: r => uptoBulkEntry x + uptoBulkEntries r
def uptoBulkEntry {H : Type} : Lit × DataW H → Nat
  | (.string bytes, d) => bytes.length + uptoBulk d + 1
  | (_, d) => uptoBulk d + 1
 end
def uptoSmall : (H : Type) → List (DataW H) → Bool := fun _ ds => decide (uptoBulkAll ds ≤ 1048576)
def OpenSpec.upto (s : _root_.Go.ChangeSpec) : _root_.Go.OpenSpec := { _root_.Go.OpenSpec.ofChange s with cond := some uptoSmall }

/-- 'lichenlaw3.Lanes', WHERE WHAT IT READS IS OF BULK AT MOST 1048576: true; the input reads as it did. -/
def lanesUptoRow : OpenClaim := { program := "ytgkgfeggpoimjaa", sum := "51c049ef5ea960f040b68831d99d51cc06ac7b72a58978e57709db995b146aeb", func := "lichen/lichenlaw3.Lanes", spec := "lanes", apart := false, narrowed := true }
def LanesUptoSaid : Prop := lanesUptoRow.holds Try.pinned (OpenSpec.upto lanesSpec)

/-- 'lichenlaw3.LaneBack', WHERE WHAT IT READS IS OF BULK AT MOST 1048576: true; the input reads as it did. -/
def laneBackUptoRow : OpenClaim := { program := "ytgkgfeggpoimjaa", sum := "51c049ef5ea960f040b68831d99d51cc06ac7b72a58978e57709db995b146aeb", func := "lichen/lichenlaw3.LaneBack", spec := "laneBack", apart := false, narrowed := true }
def LaneBackUptoSaid : Prop := laneBackUptoRow.holds Try.pinned (OpenSpec.upto laneBackSpec)

/-- 'lichenlaw3.LaneForms', WHERE WHAT IT READS IS OF BULK AT MOST 1048576: true; the input reads as it did. -/
def laneFormsUptoRow : OpenClaim := { program := "ytgkgfeggpoimjaa", sum := "51c049ef5ea960f040b68831d99d51cc06ac7b72a58978e57709db995b146aeb", func := "lichen/lichenlaw3.LaneForms", spec := "laneForms", apart := false, narrowed := true }
def LaneFormsUptoSaid : Prop := laneFormsUptoRow.holds Try.pinned (OpenSpec.upto laneFormsSpec)

/-- 'lichenlaw3.LaneHalves', WHERE WHAT IT READS IS OF BULK AT MOST 1048576: true; the input reads as it did. -/
def laneHalvesUptoRow : OpenClaim := { program := "ytgkgfeggpoimjaa", sum := "51c049ef5ea960f040b68831d99d51cc06ac7b72a58978e57709db995b146aeb", func := "lichen/lichenlaw3.LaneHalves", spec := "laneHalves", apart := false, narrowed := true }
def LaneHalvesUptoSaid : Prop := laneHalvesUptoRow.holds Try.pinned (OpenSpec.upto laneHalvesSpec)

/-- 'lichenlaw3.LaneApart', WHERE WHAT IT READS IS OF BULK AT MOST 1048576: true; the input reads as it did. -/
def laneApartUptoRow : OpenClaim := { program := "ytgkgfeggpoimjaa", sum := "51c049ef5ea960f040b68831d99d51cc06ac7b72a58978e57709db995b146aeb", func := "lichen/lichenlaw3.LaneApart", spec := "laneApart", apart := false, narrowed := true }
def LaneApartUptoSaid : Prop := laneApartUptoRow.holds Try.pinned (OpenSpec.upto laneApartSpec)

/-- 'lichenlaw7.Sfdps', WHERE WHAT IT READS IS OF BULK AT MOST 1048576: true; the input reads as it did. -/
def sfdpsUptoRow : OpenClaim := { program := "ytgkgfeggpoimjaa", sum := "51c049ef5ea960f040b68831d99d51cc06ac7b72a58978e57709db995b146aeb", func := "lichen/lichenlaw7.Sfdps", spec := "sfdps", inPlace := ["internal/abi.NoEscape", "internal/bytealg.MakeNoZero"], apart := false, narrowed := true }
def SfdpsUptoSaid : Prop := sfdpsUptoRow.holds Try.pinned (OpenSpec.upto sfdpsSpec)

/-- 'lichenlaw7.SfdpBack', WHERE WHAT IT READS IS OF BULK AT MOST 1048576: true; the input reads as it did. -/
def sfdpBackUptoRow : OpenClaim := { program := "ytgkgfeggpoimjaa", sum := "51c049ef5ea960f040b68831d99d51cc06ac7b72a58978e57709db995b146aeb", func := "lichen/lichenlaw7.SfdpBack", spec := "sfdpBack", inPlace := ["internal/abi.NoEscape", "internal/bytealg.MakeNoZero"], apart := false, narrowed := true }
def SfdpBackUptoSaid : Prop := sfdpBackUptoRow.holds Try.pinned (OpenSpec.upto sfdpBackSpec)

/-- 'lichenlaw7.SfdpForms', WHERE WHAT IT READS IS OF BULK AT MOST 1048576: true; the input reads as it did. -/
def sfdpFormsUptoRow : OpenClaim := { program := "ytgkgfeggpoimjaa", sum := "51c049ef5ea960f040b68831d99d51cc06ac7b72a58978e57709db995b146aeb", func := "lichen/lichenlaw7.SfdpForms", spec := "sfdpForms", inPlace := ["internal/abi.NoEscape", "internal/bytealg.MakeNoZero"], apart := false, narrowed := true }
def SfdpFormsUptoSaid : Prop := sfdpFormsUptoRow.holds Try.pinned (OpenSpec.upto sfdpFormsSpec)

/-- 'lichenlaw7.SfdpApart', WHERE WHAT IT READS IS OF BULK AT MOST 1048576: true; the input reads as it did. -/
def sfdpApartUptoRow : OpenClaim := { program := "ytgkgfeggpoimjaa", sum := "51c049ef5ea960f040b68831d99d51cc06ac7b72a58978e57709db995b146aeb", func := "lichen/lichenlaw7.SfdpApart", spec := "sfdpApart", inPlace := ["internal/abi.NoEscape", "internal/bytealg.MakeNoZero"], apart := false, narrowed := true }
def SfdpApartUptoSaid : Prop := sfdpApartUptoRow.holds Try.pinned (OpenSpec.upto sfdpApartSpec)

end Rows
end Go.Proofs.Ytgkgfeggpoimjaa
