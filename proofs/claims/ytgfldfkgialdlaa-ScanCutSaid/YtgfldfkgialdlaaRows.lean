/-
  No cell of these rows narrows 'for every input' (looked for: loops, veiled, ifaces, maps, wideKeys, modest, calm, conditions, laid).
  DERIVED. THE GIVEN ROWS OF THIS SEAT. 10 by the template 'for every input the law returns true; each argument reads behind the call as it read before'; 0 by the template 'total and deterministic' (their statements: YtgfldfkgialdlaaTotals.lean).
  GIVEN WITH THE SEED: the statements are not yours to turn. If you find one false, say at which input.
  Laid BY PROGRAM, IN A SANDBOX (cutbox-rows.mjs): the forced cells as the released guide's own fill.sh prints them over the translation ad5820ba8474eed1… (all of the seat's roots in one cut). By AI agents, Wed Nov 11 2026. No macro, syntax, notation, axiom, sorry.
-/
import Derived.Test.YtgfldfkgialdlaaChecked
import GoSem.Claim
import GoSem.ClaimJoined
import GoSem.ClaimMapViews
import Derived.JoinedTies
import Derived.KernelRfl
namespace Go.Proofs.Ytgfldfkgialdlaa
/- THE CELL 'sum', in the pinned program and in every row, IS THE sha256 OF THE DUMP (.gsa) THAT YtgfldfkgialdlaaProg.lean LOADS. Nothing in Lean hashes anything: it is a label: what it is worth is what the hold of that sum in a sandbox is worth. -/
noncomputable def Try.pinned : Pinned := { name := "ytgfldfkgialdlaa", sum := "ad5820ba8474eed157462a0af768a58280b75906371ba55d9bd44ad64105a6ce", checked := Try.checked }
namespace Rows
def none {H : Type} : Left H := { results := [], args := [] }

/-- 'lichenlaw19.Recs': WHATEVER THE INPUT: true; the input reads as it did. -/
def recsSpec : ChangeSpec := { name := "recs", fn := fun _ => fun
  | [d1, d2] => { results := [.lit (.bool true)], args := [d1, d2] }
  | _ => none }
def recsRow : OpenClaim := { program := "ytgfldfkgialdlaa", sum := "ad5820ba8474eed157462a0af768a58280b75906371ba55d9bd44ad64105a6ce", func := "lichen/lichenlaw19.Recs", spec := "recs", inPlace := ["internal/abi.NoEscape", "internal/bytealg.MakeNoZero"], apart := false }
def RecsSaid : Prop := recsRow.holds Try.pinned (OpenSpec.ofChange recsSpec)

/-- ITS FALSE NEIGHBOUR: 'it returns false'. Refute it at one input. -/
def recsWrong : ChangeSpec := { name := "recs", fn := fun _ => fun
  | [d1, d2] => { results := [.lit (.bool false)], args := [d1, d2] }
  | _ => none }
def RecsWrongFalsely : Prop := recsRow.holds Try.pinned (OpenSpec.ofChange recsWrong)

/-- 'lichenlaw19.RecCut': WHATEVER THE INPUT: true; the input reads as it did. -/
def recCutSpec : ChangeSpec := { name := "recCut", fn := fun _ => fun
  | [d1, d2, d3, d4] => { results := [.lit (.bool true)], args := [d1, d2, d3, d4] }
  | _ => none }
def recCutRow : OpenClaim := { program := "ytgfldfkgialdlaa", sum := "ad5820ba8474eed157462a0af768a58280b75906371ba55d9bd44ad64105a6ce", func := "lichen/lichenlaw19.RecCut", spec := "recCut", inPlace := ["internal/abi.NoEscape", "internal/bytealg.MakeNoZero"], apart := false }
def RecCutSaid : Prop := recCutRow.holds Try.pinned (OpenSpec.ofChange recCutSpec)

/-- ITS FALSE NEIGHBOUR: 'it returns false'. Refute it at one input. -/
def recCutWrong : ChangeSpec := { name := "recCut", fn := fun _ => fun
  | [d1, d2, d3, d4] => { results := [.lit (.bool false)], args := [d1, d2, d3, d4] }
  | _ => none }
def RecCutWrongFalsely : Prop := recCutRow.holds Try.pinned (OpenSpec.ofChange recCutWrong)

/-- 'lichenlaw19.RecForms': WHATEVER THE INPUT: true; the input reads as it did. -/
def recFormsSpec : ChangeSpec := { name := "recForms", fn := fun _ => fun
  | [d1, d2] => { results := [.lit (.bool true)], args := [d1, d2] }
  | _ => none }
def recFormsRow : OpenClaim := { program := "ytgfldfkgialdlaa", sum := "ad5820ba8474eed157462a0af768a58280b75906371ba55d9bd44ad64105a6ce", func := "lichen/lichenlaw19.RecForms", spec := "recForms", inPlace := ["internal/abi.NoEscape", "internal/bytealg.MakeNoZero"], apart := false }
def RecFormsSaid : Prop := recFormsRow.holds Try.pinned (OpenSpec.ofChange recFormsSpec)

/-- ITS FALSE NEIGHBOUR: 'it returns false'. Refute it at one input. -/
def recFormsWrong : ChangeSpec := { name := "recForms", fn := fun _ => fun
  | [d1, d2] => { results := [.lit (.bool false)], args := [d1, d2] }
  | _ => none }
def RecFormsWrongFalsely : Prop := recFormsRow.holds Try.pinned (OpenSpec.ofChange recFormsWrong)

/-- 'lichenlaw19.RecBack': WHATEVER THE INPUT: true; the input reads as it did. -/
def recBackSpec : ChangeSpec := { name := "recBack", fn := fun _ => fun
  | [d1, d2, d3] => { results := [.lit (.bool true)], args := [d1, d2, d3] }
  | _ => none }
def recBackRow : OpenClaim := { program := "ytgfldfkgialdlaa", sum := "ad5820ba8474eed157462a0af768a58280b75906371ba55d9bd44ad64105a6ce", func := "lichen/lichenlaw19.RecBack", spec := "recBack", inPlace := ["internal/abi.NoEscape", "internal/bytealg.MakeNoZero"], apart := false }
def RecBackSaid : Prop := recBackRow.holds Try.pinned (OpenSpec.ofChange recBackSpec)

/-- ITS FALSE NEIGHBOUR: 'it returns false'. Refute it at one input. -/
def recBackWrong : ChangeSpec := { name := "recBack", fn := fun _ => fun
  | [d1, d2, d3] => { results := [.lit (.bool false)], args := [d1, d2, d3] }
  | _ => none }
def RecBackWrongFalsely : Prop := recBackRow.holds Try.pinned (OpenSpec.ofChange recBackWrong)

/-- 'lichenlaw19.RecAny': WHATEVER THE INPUT: true; the input reads as it did. -/
def recAnySpec : ChangeSpec := { name := "recAny", fn := fun _ => fun
  | [d1, d2, d3, d4] => { results := [.lit (.bool true)], args := [d1, d2, d3, d4] }
  | _ => none }
def recAnyRow : OpenClaim := { program := "ytgfldfkgialdlaa", sum := "ad5820ba8474eed157462a0af768a58280b75906371ba55d9bd44ad64105a6ce", func := "lichen/lichenlaw19.RecAny", spec := "recAny", inPlace := ["internal/abi.NoEscape", "internal/bytealg.MakeNoZero"], apart := false }
def RecAnySaid : Prop := recAnyRow.holds Try.pinned (OpenSpec.ofChange recAnySpec)

/-- ITS FALSE NEIGHBOUR: 'it returns false'. Refute it at one input. -/
def recAnyWrong : ChangeSpec := { name := "recAny", fn := fun _ => fun
  | [d1, d2, d3, d4] => { results := [.lit (.bool false)], args := [d1, d2, d3, d4] }
  | _ => none }
def RecAnyWrongFalsely : Prop := recAnyRow.holds Try.pinned (OpenSpec.ofChange recAnyWrong)

/-- 'lichenlaw20.Scans': WHATEVER THE INPUT: true; the input reads as it did. -/
def scansSpec : ChangeSpec := { name := "scans", fn := fun _ => fun
  | [d1, d2, d3, d4, d5] => { results := [.lit (.bool true)], args := [d1, d2, d3, d4, d5] }
  | _ => none }
def scansRow : OpenClaim := { program := "ytgfldfkgialdlaa", sum := "ad5820ba8474eed157462a0af768a58280b75906371ba55d9bd44ad64105a6ce", func := "lichen/lichenlaw20.Scans", spec := "scans", inPlace := ["internal/abi.NoEscape", "internal/bytealg.MakeNoZero"], apart := false }
def ScansSaid : Prop := scansRow.holds Try.pinned (OpenSpec.ofChange scansSpec)

/-- ITS FALSE NEIGHBOUR: 'it returns false'. Refute it at one input. -/
def scansWrong : ChangeSpec := { name := "scans", fn := fun _ => fun
  | [d1, d2, d3, d4, d5] => { results := [.lit (.bool false)], args := [d1, d2, d3, d4, d5] }
  | _ => none }
def ScansWrongFalsely : Prop := scansRow.holds Try.pinned (OpenSpec.ofChange scansWrong)

/-- 'lichenlaw20.ScanDead': WHATEVER THE INPUT: true; the input reads as it did. -/
def scanDeadSpec : ChangeSpec := { name := "scanDead", fn := fun _ => fun
  | [d1, d2, d3, d4] => { results := [.lit (.bool true)], args := [d1, d2, d3, d4] }
  | _ => none }
def scanDeadRow : OpenClaim := { program := "ytgfldfkgialdlaa", sum := "ad5820ba8474eed157462a0af768a58280b75906371ba55d9bd44ad64105a6ce", func := "lichen/lichenlaw20.ScanDead", spec := "scanDead", inPlace := ["internal/abi.NoEscape", "internal/bytealg.MakeNoZero"], apart := false }
def ScanDeadSaid : Prop := scanDeadRow.holds Try.pinned (OpenSpec.ofChange scanDeadSpec)

/-- ITS FALSE NEIGHBOUR: 'it returns false'. Refute it at one input. -/
def scanDeadWrong : ChangeSpec := { name := "scanDead", fn := fun _ => fun
  | [d1, d2, d3, d4] => { results := [.lit (.bool false)], args := [d1, d2, d3, d4] }
  | _ => none }
def ScanDeadWrongFalsely : Prop := scanDeadRow.holds Try.pinned (OpenSpec.ofChange scanDeadWrong)

/-- 'lichenlaw20.ScanBest': WHATEVER THE INPUT: true; the input reads as it did. -/
def scanBestSpec : ChangeSpec := { name := "scanBest", fn := fun _ => fun
  | [d] => { results := [.lit (.bool true)], args := [d] }
  | _ => none }
def scanBestRow : OpenClaim := { program := "ytgfldfkgialdlaa", sum := "ad5820ba8474eed157462a0af768a58280b75906371ba55d9bd44ad64105a6ce", func := "lichen/lichenlaw20.ScanBest", spec := "scanBest", inPlace := ["internal/abi.NoEscape", "internal/bytealg.MakeNoZero"], apart := false }
def ScanBestSaid : Prop := scanBestRow.holds Try.pinned (OpenSpec.ofChange scanBestSpec)

/-- ITS FALSE NEIGHBOUR: 'it returns false'. Refute it at one input. -/
def scanBestWrong : ChangeSpec := { name := "scanBest", fn := fun _ => fun
  | [d] => { results := [.lit (.bool false)], args := [d] }
  | _ => none }
def ScanBestWrongFalsely : Prop := scanBestRow.holds Try.pinned (OpenSpec.ofChange scanBestWrong)

/-- 'lichenlaw20.ScanRows': WHATEVER THE INPUT: true; the input reads as it did. -/
def scanRowsSpec : ChangeSpec := { name := "scanRows", fn := fun _ => fun
  | [d1, d2, d3] => { results := [.lit (.bool true)], args := [d1, d2, d3] }
  | _ => none }
def scanRowsRow : OpenClaim := { program := "ytgfldfkgialdlaa", sum := "ad5820ba8474eed157462a0af768a58280b75906371ba55d9bd44ad64105a6ce", func := "lichen/lichenlaw20.ScanRows", spec := "scanRows", inPlace := ["internal/abi.NoEscape", "internal/bytealg.MakeNoZero"], apart := false }
def ScanRowsSaid : Prop := scanRowsRow.holds Try.pinned (OpenSpec.ofChange scanRowsSpec)

/-- ITS FALSE NEIGHBOUR: 'it returns false'. Refute it at one input. -/
def scanRowsWrong : ChangeSpec := { name := "scanRows", fn := fun _ => fun
  | [d1, d2, d3] => { results := [.lit (.bool false)], args := [d1, d2, d3] }
  | _ => none }
def ScanRowsWrongFalsely : Prop := scanRowsRow.holds Try.pinned (OpenSpec.ofChange scanRowsWrong)

/-- 'lichenlaw20.ScanCut': WHATEVER THE INPUT: true; the input reads as it did. -/
def scanCutSpec : ChangeSpec := { name := "scanCut", fn := fun _ => fun
  | [d1, d2, d3, d4] => { results := [.lit (.bool true)], args := [d1, d2, d3, d4] }
  | _ => none }
def scanCutRow : OpenClaim := { program := "ytgfldfkgialdlaa", sum := "ad5820ba8474eed157462a0af768a58280b75906371ba55d9bd44ad64105a6ce", func := "lichen/lichenlaw20.ScanCut", spec := "scanCut", inPlace := ["internal/abi.NoEscape", "internal/bytealg.MakeNoZero"], apart := false }
def ScanCutSaid : Prop := scanCutRow.holds Try.pinned (OpenSpec.ofChange scanCutSpec)

/-- ITS FALSE NEIGHBOUR: 'it returns false'. Refute it at one input. -/
def scanCutWrong : ChangeSpec := { name := "scanCut", fn := fun _ => fun
  | [d1, d2, d3, d4] => { results := [.lit (.bool false)], args := [d1, d2, d3, d4] }
  | _ => none }
def ScanCutWrongFalsely : Prop := scanCutRow.holds Try.pinned (OpenSpec.ofChange scanCutWrong)

/- THE SECOND FORM. 'bulk': how many values and letters a reading holds, each counted each time it is reached (what is shared counts as often as it is met; a slice's spare places count too). A statement '..UptoSaid' is the law's where the arguments, and the package variables that the reading takes, are together of bulk at most 1048576: NARROWER than '..Said'. Prove '..Said' where nothing that the law and all that it calls make is longer than what came in: it says more and counts as full. Else prove '..UptoSaid'. A law counts once. -/
mutual
def uptoBulk {H : Type} : DataW H → Nat
  | .lit (.string bytes) => bytes.length + 1
  | .lit _ => 1
  | .nil => 1
  | .ptr d => uptoBulk d + 1
  | .slice elems spare => uptoBulkAll elems + uptoBulkAll spare + 1
  | .agg parts => uptoBulkAll parts + 1
  | .iface _ d => uptoBulk d + 1
  | .map entries => uptoBulkEntries entries + 1
  | .held _ => 1
def uptoBulkAll {H : Type} : List (DataW H) → Nat
  | [] => 0
  | d :: r => uptoBulk d + uptoBulkAll r
def uptoBulkEntries {H : Type} : List (Lit × DataW H) → Nat
  | [] => 0
  | x :: r => uptoBulkEntry x + uptoBulkEntries r
def uptoBulkEntry {H : Type} : Lit × DataW H → Nat
  | (.string bytes, d) => bytes.length + uptoBulk d + 1
  | (_, d) => uptoBulk d + 1
 end
def uptoSmall : (H : Type) → List (DataW H) → Bool := fun _ ds => decide (uptoBulkAll ds ≤ 1048576)
def OpenSpec.upto (s : _root_.Go.ChangeSpec) : _root_.Go.OpenSpec := { _root_.Go.OpenSpec.ofChange s with cond := some uptoSmall }

/-- 'lichenlaw19.Recs', WHERE WHAT IT READS IS OF BULK AT MOST 1048576: true; the input reads as it did. -/
def recsUptoRow : OpenClaim := { program := "ytgfldfkgialdlaa", sum := "ad5820ba8474eed157462a0af768a58280b75906371ba55d9bd44ad64105a6ce", func := "lichen/lichenlaw19.Recs", spec := "recs", inPlace := ["internal/abi.NoEscape", "internal/bytealg.MakeNoZero"], apart := false, narrowed := true }
def RecsUptoSaid : Prop := recsUptoRow.holds Try.pinned (OpenSpec.upto recsSpec)

/-- 'lichenlaw19.RecCut', WHERE WHAT IT READS IS OF BULK AT MOST 1048576: true; the input reads as it did. -/
def recCutUptoRow : OpenClaim := { program := "ytgfldfkgialdlaa", sum := "ad5820ba8474eed157462a0af768a58280b75906371ba55d9bd44ad64105a6ce", func := "lichen/lichenlaw19.RecCut", spec := "recCut", inPlace := ["internal/abi.NoEscape", "internal/bytealg.MakeNoZero"], apart := false, narrowed := true }
def RecCutUptoSaid : Prop := recCutUptoRow.holds Try.pinned (OpenSpec.upto recCutSpec)

/-- 'lichenlaw19.RecForms', WHERE WHAT IT READS IS OF BULK AT MOST 1048576: true; the input reads as it did. -/
def recFormsUptoRow : OpenClaim := { program := "ytgfldfkgialdlaa", sum := "ad5820ba8474eed157462a0af768a58280b75906371ba55d9bd44ad64105a6ce", func := "lichen/lichenlaw19.RecForms", spec := "recForms", inPlace := ["internal/abi.NoEscape", "internal/bytealg.MakeNoZero"], apart := false, narrowed := true }
def RecFormsUptoSaid : Prop := recFormsUptoRow.holds Try.pinned (OpenSpec.upto recFormsSpec)

/-- 'lichenlaw19.RecBack', WHERE WHAT IT READS IS OF BULK AT MOST 1048576: true; the input reads as it did. -/
def recBackUptoRow : OpenClaim := { program := "ytgfldfkgialdlaa", sum := "ad5820ba8474eed157462a0af768a58280b75906371ba55d9bd44ad64105a6ce", func := "lichen/lichenlaw19.RecBack", spec := "recBack", inPlace := ["internal/abi.NoEscape", "internal/bytealg.MakeNoZero"], apart := false, narrowed := true }
def RecBackUptoSaid : Prop := recBackUptoRow.holds Try.pinned (OpenSpec.upto recBackSpec)

/-- 'lichenlaw19.RecAny', WHERE WHAT IT READS IS OF BULK AT MOST 1048576: true; the input reads as it did. -/
def recAnyUptoRow : OpenClaim := { program := "ytgfldfkgialdlaa", sum := "ad5820ba8474eed157462a0af768a58280b75906371ba55d9bd44ad64105a6ce", func := "lichen/lichenlaw19.RecAny", spec := "recAny", inPlace := ["internal/abi.NoEscape", "internal/bytealg.MakeNoZero"], apart := false, narrowed := true }
def RecAnyUptoSaid : Prop := recAnyUptoRow.holds Try.pinned (OpenSpec.upto recAnySpec)

/-- 'lichenlaw20.Scans', WHERE WHAT IT READS IS OF BULK AT MOST 1048576: true; the input reads as it did. -/
def scansUptoRow : OpenClaim := { program := "ytgfldfkgialdlaa", sum := "ad5820ba8474eed157462a0af768a58280b75906371ba55d9bd44ad64105a6ce", func := "lichen/lichenlaw20.Scans", spec := "scans", inPlace := ["internal/abi.NoEscape", "internal/bytealg.MakeNoZero"], apart := false, narrowed := true }
def ScansUptoSaid : Prop := scansUptoRow.holds Try.pinned (OpenSpec.upto scansSpec)

/-- 'lichenlaw20.ScanDead', WHERE WHAT IT READS IS OF BULK AT MOST 1048576: true; the input reads as it did. -/
def scanDeadUptoRow : OpenClaim := { program := "ytgfldfkgialdlaa", sum := "ad5820ba8474eed157462a0af768a58280b75906371ba55d9bd44ad64105a6ce", func := "lichen/lichenlaw20.ScanDead", spec := "scanDead", inPlace := ["internal/abi.NoEscape", "internal/bytealg.MakeNoZero"], apart := false, narrowed := true }
def ScanDeadUptoSaid : Prop := scanDeadUptoRow.holds Try.pinned (OpenSpec.upto scanDeadSpec)

/-- 'lichenlaw20.ScanBest', WHERE WHAT IT READS IS OF BULK AT MOST 1048576: true; the input reads as it did. -/
def scanBestUptoRow : OpenClaim := { program := "ytgfldfkgialdlaa", sum := "ad5820ba8474eed157462a0af768a58280b75906371ba55d9bd44ad64105a6ce", func := "lichen/lichenlaw20.ScanBest", spec := "scanBest", inPlace := ["internal/abi.NoEscape", "internal/bytealg.MakeNoZero"], apart := false, narrowed := true }
def ScanBestUptoSaid : Prop := scanBestUptoRow.holds Try.pinned (OpenSpec.upto scanBestSpec)

/-- 'lichenlaw20.ScanRows', WHERE WHAT IT READS IS OF BULK AT MOST 1048576: true; the input reads as it did. -/
def scanRowsUptoRow : OpenClaim := { program := "ytgfldfkgialdlaa", sum := "ad5820ba8474eed157462a0af768a58280b75906371ba55d9bd44ad64105a6ce", func := "lichen/lichenlaw20.ScanRows", spec := "scanRows", inPlace := ["internal/abi.NoEscape", "internal/bytealg.MakeNoZero"], apart := false, narrowed := true }
def ScanRowsUptoSaid : Prop := scanRowsUptoRow.holds Try.pinned (OpenSpec.upto scanRowsSpec)

/-- 'lichenlaw20.ScanCut', WHERE WHAT IT READS IS OF BULK AT MOST 1048576: true; the input reads as it did. -/
def scanCutUptoRow : OpenClaim := { program := "ytgfldfkgialdlaa", sum := "ad5820ba8474eed157462a0af768a58280b75906371ba55d9bd44ad64105a6ce", func := "lichen/lichenlaw20.ScanCut", spec := "scanCut", inPlace := ["internal/abi.NoEscape", "internal/bytealg.MakeNoZero"], apart := false, narrowed := true }
def ScanCutUptoSaid : Prop := scanCutUptoRow.holds Try.pinned (OpenSpec.upto scanCutSpec)

end Rows
end Go.Proofs.Ytgfldfkgialdlaa
