/-
  DERIVED. GIVEN WITH THE SEED: THE CARDS: each row of YtfdbolnifjpbhaaDoorRows.lean that lists a variable, with what it lists TIED to the program's text (the seventh form; the later family's looks); each row that meets fmt, with fmt's text TOLD by the authors' own Lean function (tested against real Go, not proved from fmt's source: count such statements apart). THE CARD IS WHAT COUNTS. Prove the row's statement (the work); the ties are given (YtfdbolnifjpbhaaDoorTie.lean); close each card by the builder's one call (the guide's Derived/Test/ToyasCard.lean, 'card_holds'). Laid BY PROGRAM, IN A SANDBOX (cutbox-door.mjs). By AI agents, Wed Nov 11 2026. No macro, syntax, notation, axiom, sorry.
-/
import Derived.Test.YtfdbolnifjpbhaaDoorRows
import GoSem.ClaimSeven
namespace Go.Proofs.YtfdbolnifjpbhaaDoor
namespace Rows

/-- THE TIED CARD OF 'lichenlaw24.Scripts'. -/
def scriptsCard : Claim7 := { stood := { row := scriptsRow, standIns := [], harness := (true, "d3cb544575fc7e2605e5eb093807586ce768d5b5670147fc1795e30fd3fe67fd"), looks := false }, kinds := [], alts := [], laidByText := true, laidKinds := [.data, .data, .data], laidTests := true, laidLooks := .later }
def ScriptsCardSaid : Prop := Claim7.holds Tryd.pinned (.plain (OpenSpec.ofChange scriptsSpec)) scriptsCard

/-- THE TIED CARD OF 'lichenlaw24.ScriptBack'. -/
def scriptBackCard : Claim7 := { stood := { row := scriptBackRow, standIns := [], harness := (true, "d3cb544575fc7e2605e5eb093807586ce768d5b5670147fc1795e30fd3fe67fd"), looks := false }, kinds := [], alts := [], laidByText := true, laidKinds := [.data, .data, .data], laidTests := true, laidLooks := .later }
def ScriptBackCardSaid : Prop := Claim7.holds Tryd.pinned (.plain (OpenSpec.ofChange scriptBackSpec)) scriptBackCard

/-- THE TIED CARD OF 'lichenlaw24.ScriptForms'. -/
def scriptFormsCard : Claim7 := { stood := { row := scriptFormsRow, standIns := [], harness := (true, "d3cb544575fc7e2605e5eb093807586ce768d5b5670147fc1795e30fd3fe67fd"), looks := false }, kinds := [], alts := [], laidByText := true, laidKinds := [.data, .data, .data], laidTests := true, laidLooks := .later }
def ScriptFormsCardSaid : Prop := Claim7.holds Tryd.pinned (.plain (OpenSpec.ofChange scriptFormsSpec)) scriptFormsCard

/-- THE TIED CARD OF 'lichenlaw24.ScriptRows'. -/
def scriptRowsCard : Claim7 := { stood := { row := scriptRowsRow, standIns := [], harness := (true, "d3cb544575fc7e2605e5eb093807586ce768d5b5670147fc1795e30fd3fe67fd"), looks := false }, kinds := [], alts := [], laidByText := true, laidKinds := [.data, .data, .data], laidTests := true, laidLooks := .later }
def ScriptRowsCardSaid : Prop := Claim7.holds Tryd.pinned (.plain (OpenSpec.ofChange scriptRowsSpec)) scriptRowsCard

/-- THE SECOND FORM's CARD OF 'lichenlaw24.Scripts'. -/
def scriptsUptoCard : Claim7 := { stood := { row := scriptsUptoRow, standIns := [], harness := (true, "d3cb544575fc7e2605e5eb093807586ce768d5b5670147fc1795e30fd3fe67fd"), looks := false }, kinds := [], alts := [], laidByText := true, laidKinds := [.data, .data, .data], laidTests := true, laidLooks := .later }
def ScriptsUptoCardSaid : Prop := Claim7.holds Tryd.pinned (.plain (OpenSpec.upto scriptsSpec)) scriptsUptoCard

/-- THE SECOND FORM's CARD OF 'lichenlaw24.ScriptBack'. -/
def scriptBackUptoCard : Claim7 := { stood := { row := scriptBackUptoRow, standIns := [], harness := (true, "d3cb544575fc7e2605e5eb093807586ce768d5b5670147fc1795e30fd3fe67fd"), looks := false }, kinds := [], alts := [], laidByText := true, laidKinds := [.data, .data, .data], laidTests := true, laidLooks := .later }
def ScriptBackUptoCardSaid : Prop := Claim7.holds Tryd.pinned (.plain (OpenSpec.upto scriptBackSpec)) scriptBackUptoCard

/-- THE SECOND FORM's CARD OF 'lichenlaw24.ScriptForms'. -/
def scriptFormsUptoCard : Claim7 := { stood := { row := scriptFormsUptoRow, standIns := [], harness := (true, "d3cb544575fc7e2605e5eb093807586ce768d5b5670147fc1795e30fd3fe67fd"), looks := false }, kinds := [], alts := [], laidByText := true, laidKinds := [.data, .data, .data], laidTests := true, laidLooks := .later }
def ScriptFormsUptoCardSaid : Prop := Claim7.holds Tryd.pinned (.plain (OpenSpec.upto scriptFormsSpec)) scriptFormsUptoCard

/-- THE SECOND FORM's CARD OF 'lichenlaw24.ScriptRows'. -/
def scriptRowsUptoCard : Claim7 := { stood := { row := scriptRowsUptoRow, standIns := [], harness := (true, "d3cb544575fc7e2605e5eb093807586ce768d5b5670147fc1795e30fd3fe67fd"), looks := false }, kinds := [], alts := [], laidByText := true, laidKinds := [.data, .data, .data], laidTests := true, laidLooks := .later }
def ScriptRowsUptoCardSaid : Prop := Claim7.holds Tryd.pinned (.plain (OpenSpec.upto scriptRowsSpec)) scriptRowsUptoCard
end Rows
end Go.Proofs.YtfdbolnifjpbhaaDoor
