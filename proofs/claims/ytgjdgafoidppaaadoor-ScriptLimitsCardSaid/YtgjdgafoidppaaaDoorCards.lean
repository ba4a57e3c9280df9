/-
  DERIVED. GIVEN WITH THE SEED: THE CARDS: each row of YtgjdgafoidppaaaDoorRows.lean that lists a variable, with what it lists TIED to the program's text (the seventh form; the later family's looks); each row that meets fmt, with fmt's text TOLD by the authors' own Lean function (tested against real Go, not proved from fmt's source: count such statements apart). THE CARD IS WHAT COUNTS. Prove the row's statement (the work); the ties are given (YtgjdgafoidppaaaDoorTie.lean); close each card by the builder's one call (the guide's Derived/Test/ToyasCard.lean, 'card_holds'). Laid BY PROGRAM, IN A SANDBOX (cutbox-door.mjs). By AI agents, Wed Nov 11 2026. No macro, syntax, notation, axiom, sorry.
-/
import Derived.Test.YtgjdgafoidppaaaDoorRows
import GoSem.ClaimSeven
namespace Go.Proofs.YtgjdgafoidppaaaDoor
namespace Rows

/-- THE TIED CARD OF 'voilelaw26.ScriptNames'. -/
def scriptNamesCard : Claim7 := { stood := { row := scriptNamesRow, standIns := [], harness := (true, "e950710c1514cf626c8a6a04b5612aec37671cc861be8073357576b9261fbfc2"), looks := false }, kinds := [], alts := [], laidByText := true, laidKinds := [.data, .data, .data], laidTests := true, laidLooks := .later }
def ScriptNamesCardSaid : Prop := Claim7.holds Tryd.pinned (.plain (OpenSpec.ofChange scriptNamesSpec)) scriptNamesCard

/-- THE TIED CARD OF 'voilelaw26.ScriptStages'. -/
def scriptStagesCard : Claim7 := { stood := { row := scriptStagesRow, standIns := [], harness := (true, "e950710c1514cf626c8a6a04b5612aec37671cc861be8073357576b9261fbfc2"), looks := false }, kinds := [], alts := [], laidByText := true, laidKinds := [.data, .data, .data, .data, .pinned], laidTests := true, laidLooks := .later }
def ScriptStagesCardSaid : Prop := Claim7.holds Tryd.pinned (.plain (OpenSpec.ofChange scriptStagesSpec)) scriptStagesCard

/-- THE TIED CARD OF 'voilelaw26.ScriptData'. -/
def scriptDataCard : Claim7 := { stood := { row := scriptDataRow, standIns := [], harness := (true, "e950710c1514cf626c8a6a04b5612aec37671cc861be8073357576b9261fbfc2"), looks := false }, kinds := [], alts := [], laidByText := true, laidKinds := [.data, .data, .data, .data, .pinned], laidTests := true, laidLooks := .later }
def ScriptDataCardSaid : Prop := Claim7.holds Tryd.pinned (.plain (OpenSpec.ofChange scriptDataSpec)) scriptDataCard

/-- THE TIED CARD OF 'voilelaw26.ScriptLimits'. -/
def scriptLimitsCard : Claim7 := { stood := { row := scriptLimitsRow, standIns := [], harness := (true, "e950710c1514cf626c8a6a04b5612aec37671cc861be8073357576b9261fbfc2"), looks := false }, kinds := [], alts := [], laidByText := true, laidKinds := [.data, .data, .data, .data, .pinned], laidTests := true, laidLooks := .later }
def ScriptLimitsCardSaid : Prop := Claim7.holds Tryd.pinned (.plain (OpenSpec.ofChange scriptLimitsSpec)) scriptLimitsCard

/-- THE SECOND FORM's CARD OF 'voilelaw26.ScriptNames'. -/
def scriptNamesUptoCard : Claim7 := { stood := { row := scriptNamesUptoRow, standIns := [], harness := (true, "e950710c1514cf626c8a6a04b5612aec37671cc861be8073357576b9261fbfc2"), looks := false }, kinds := [], alts := [], laidByText := true, laidKinds := [.data, .data, .data], laidTests := true, laidLooks := .later }
def ScriptNamesUptoCardSaid : Prop := Claim7.holds Tryd.pinned (.plain (OpenSpec.upto scriptNamesSpec)) scriptNamesUptoCard

/-- THE SECOND FORM's CARD OF 'voilelaw26.ScriptStages'. -/
def scriptStagesUptoCard : Claim7 := { stood := { row := scriptStagesUptoRow, standIns := [], harness := (true, "e950710c1514cf626c8a6a04b5612aec37671cc861be8073357576b9261fbfc2"), looks := false }, kinds := [], alts := [], laidByText := true, laidKinds := [.data, .data, .data, .data, .pinned], laidTests := true, laidLooks := .later }
def ScriptStagesUptoCardSaid : Prop := Claim7.holds Tryd.pinned (.plain (OpenSpec.upto scriptStagesSpec)) scriptStagesUptoCard

/-- THE SECOND FORM's CARD OF 'voilelaw26.ScriptData'. -/
def scriptDataUptoCard : Claim7 := { stood := { row := scriptDataUptoRow, standIns := [], harness := (true, "e950710c1514cf626c8a6a04b5612aec37671cc861be8073357576b9261fbfc2"), looks := false }, kinds := [], alts := [], laidByText := true, laidKinds := [.data, .data, .data, .data, .pinned], laidTests := true, laidLooks := .later }
def ScriptDataUptoCardSaid : Prop := Claim7.holds Tryd.pinned (.plain (OpenSpec.upto scriptDataSpec)) scriptDataUptoCard

/-- THE SECOND FORM's CARD OF 'voilelaw26.ScriptLimits'. -/
def scriptLimitsUptoCard : Claim7 := { stood := { row := scriptLimitsUptoRow, standIns := [], harness := (true, "e950710c1514cf626c8a6a04b5612aec37671cc861be8073357576b9261fbfc2"), looks := false }, kinds := [], alts := [], laidByText := true, laidKinds := [.data, .data, .data, .data, .pinned], laidTests := true, laidLooks := .later }
def ScriptLimitsUptoCardSaid : Prop := Claim7.holds Tryd.pinned (.plain (OpenSpec.upto scriptLimitsSpec)) scriptLimitsUptoCard
end Rows
end Go.Proofs.YtgjdgafoidppaaaDoor
