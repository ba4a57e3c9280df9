/-
  DERIVED. GIVEN WITH THE SEED: THE CARDS: each row of YtgjdgafoidppaaaGreatDoorRows.lean that lists a variable, with what it lists TIED to the program's text (the seventh form; the later family's looks); each row that meets fmt, with fmt's text TOLD by the authors' own Lean function (tested against real Go, not proved from fmt's source: count such statements apart). THE CARD IS WHAT COUNTS. Prove the row's statement (the work); the ties are given (YtgjdgafoidppaaaGreatDoorTie.lean); close each card by the builder's one call (the guide's Derived/Test/ToyasCard.lean, 'card_holds'). Laid BY PROGRAM, IN A SANDBOX (cutbox-door.mjs). By AI agents, Wed Nov 11 2026. No macro, syntax, notation, axiom, sorry.
-/
import Derived.Test.YtgjdgafoidppaaaGreatDoorRows
import GoSem.ClaimSeven
namespace Go.Proofs.YtgjdgafoidppaaaGreatDoor
namespace Rows

/-- THE TIED CARD OF 'voilelaw26.ScriptClients'. -/
def scriptClientsCard : Claim7 := { stood := { row := scriptClientsRow, standIns := [], harness := (true, "2ccfa833e3c8cad5a33b45240cd0c472695e182eaee75a8c14dad7191cc9835b"), looks := false }, kinds := [], alts := [], laidByText := true, laidKinds := [.data, .data, .data, .data, .pinned], laidTests := true, laidLooks := .later }
def ScriptClientsCardSaid : Prop := Claim7.holds Tryz.pinned (.plain (OpenSpec.ofChange scriptClientsSpec)) scriptClientsCard

/-- THE TIED CARD OF 'voilelaw26.ScriptDeeds'. -/
def scriptDeedsCard : Claim7 := { stood := { row := scriptDeedsRow, standIns := [], harness := (true, "2ccfa833e3c8cad5a33b45240cd0c472695e182eaee75a8c14dad7191cc9835b"), looks := false }, kinds := [], alts := [], laidByText := true, laidKinds := [.data, .data, .data, .data, .pinned], laidTests := true, laidLooks := .later }
def ScriptDeedsCardSaid : Prop := Claim7.holds Tryz.pinned (.plain (OpenSpec.ofChange scriptDeedsSpec)) scriptDeedsCard

/-- THE TIED CARD OF 'voilelaw26.ScriptWhole'. -/
def scriptWholeCard : Claim7 := { stood := { row := scriptWholeRow, standIns := [], harness := (true, "2ccfa833e3c8cad5a33b45240cd0c472695e182eaee75a8c14dad7191cc9835b"), looks := false }, kinds := [], alts := [], laidByText := true, laidKinds := [.data, .data, .data, .data, .pinned], laidTests := true, laidLooks := .later }
def ScriptWholeCardSaid : Prop := Claim7.holds Tryz.pinned (.plain (OpenSpec.ofChange scriptWholeSpec)) scriptWholeCard

/-- THE TIED CARD OF 'voilelaw26.ScriptEdits'. -/
def scriptEditsCard : Claim7 := { stood := { row := scriptEditsRow, standIns := [], harness := (true, "2ccfa833e3c8cad5a33b45240cd0c472695e182eaee75a8c14dad7191cc9835b"), looks := false }, kinds := [], alts := [], laidByText := true, laidKinds := [.data, .data, .data, .data, .pinned], laidTests := true, laidLooks := .later }
def ScriptEditsCardSaid : Prop := Claim7.holds Tryz.pinned (.plain (OpenSpec.ofChange scriptEditsSpec)) scriptEditsCard

/-- THE TIED CARD OF 'voilelaw26.ScriptTwins'. -/
def scriptTwinsCard : Claim7 := { stood := { row := scriptTwinsRow, standIns := [], harness := (true, "2ccfa833e3c8cad5a33b45240cd0c472695e182eaee75a8c14dad7191cc9835b"), looks := false }, kinds := [], alts := [], laidByText := true, laidKinds := [.data, .data, .data, .data, .pinned], laidTests := true, laidLooks := .later }
def ScriptTwinsCardSaid : Prop := Claim7.holds Tryz.pinned (.plain (OpenSpec.ofChange scriptTwinsSpec)) scriptTwinsCard

/-- THE SECOND FORM's CARD OF 'voilelaw26.ScriptClients'. -/
def scriptClientsUptoCard : Claim7 := { stood := { row := scriptClientsUptoRow, standIns := [], harness := (true, "2ccfa833e3c8cad5a33b45240cd0c472695e182eaee75a8c14dad7191cc9835b"), looks := false }, kinds := [], alts := [], laidByText := true, laidKinds := [.data, .data, .data, .data, .pinned], laidTests := true, laidLooks := .later }
def ScriptClientsUptoCardSaid : Prop := Claim7.holds Tryz.pinned (.plain (OpenSpec.upto scriptClientsSpec)) scriptClientsUptoCard

/-- THE SECOND FORM's CARD OF 'voilelaw26.ScriptDeeds'. -/
def scriptDeedsUptoCard : Claim7 := { stood := { row := scriptDeedsUptoRow, standIns := [], harness := (true, "2ccfa833e3c8cad5a33b45240cd0c472695e182eaee75a8c14dad7191cc9835b"), looks := false }, kinds := [], alts := [], laidByText := true, laidKinds := [.data, .data, .data, .data, .pinned], laidTests := true, laidLooks := .later }
def ScriptDeedsUptoCardSaid : Prop := Claim7.holds Tryz.pinned (.plain (OpenSpec.upto scriptDeedsSpec)) scriptDeedsUptoCard

/-- THE SECOND FORM's CARD OF 'voilelaw26.ScriptWhole'. -/
def scriptWholeUptoCard : Claim7 := { stood := { row := scriptWholeUptoRow, standIns := [], harness := (true, "2ccfa833e3c8cad5a33b45240cd0c472695e182eaee75a8c14dad7191cc9835b"), looks := false }, kinds := [], alts := [], laidByText := true, laidKinds := [.data, .data, .data, .data, .pinned], laidTests := true, laidLooks := .later }
def ScriptWholeUptoCardSaid : Prop := Claim7.holds Tryz.pinned (.plain (OpenSpec.upto scriptWholeSpec)) scriptWholeUptoCard

/-- THE SECOND FORM's CARD OF 'voilelaw26.ScriptEdits'. -/
def scriptEditsUptoCard : Claim7 := { stood := { row := scriptEditsUptoRow, standIns := [], harness := (true, "2ccfa833e3c8cad5a33b45240cd0c472695e182eaee75a8c14dad7191cc9835b"), looks := false }, kinds := [], alts := [], laidByText := true, laidKinds := [.data, .data, .data, .data, .pinned], laidTests := true, laidLooks := .later }
def ScriptEditsUptoCardSaid : Prop := Claim7.holds Tryz.pinned (.plain (OpenSpec.upto scriptEditsSpec)) scriptEditsUptoCard

/-- THE SECOND FORM's CARD OF 'voilelaw26.ScriptTwins'. -/
def scriptTwinsUptoCard : Claim7 := { stood := { row := scriptTwinsUptoRow, standIns := [], harness := (true, "2ccfa833e3c8cad5a33b45240cd0c472695e182eaee75a8c14dad7191cc9835b"), looks := false }, kinds := [], alts := [], laidByText := true, laidKinds := [.data, .data, .data, .data, .pinned], laidTests := true, laidLooks := .later }
def ScriptTwinsUptoCardSaid : Prop := Claim7.holds Tryz.pinned (.plain (OpenSpec.upto scriptTwinsSpec)) scriptTwinsUptoCard
end Rows
end Go.Proofs.YtgjdgafoidppaaaGreatDoor
