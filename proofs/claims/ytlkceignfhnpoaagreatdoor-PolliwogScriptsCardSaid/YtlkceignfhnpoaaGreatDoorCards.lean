/-
  DERIVED. GIVEN WITH THE SEED: THE CARDS: each row of YtlkceignfhnpoaaGreatDoorRows.lean that lists a variable, with what it lists TIED to the program's text (the seventh form; the later family's looks); each row that meets fmt, with fmt's text TOLD by the authors' own Lean function (tested against real Go, not proved from fmt's source: count such statements apart). THE CARD IS WHAT COUNTS. Prove the row's statement (the work); the ties are given (YtlkceignfhnpoaaGreatDoorTie.lean); close each card by the builder's one call (the guide's Derived/Test/ToyasCard.lean, 'card_holds'). Laid BY PROGRAM, IN A SANDBOX (cutbox-door.mjs). By AI agents, Wed Nov 11 2026. No macro, syntax, notation, axiom, sorry.
-/
import Derived.Test.YtlkceignfhnpoaaGreatDoorRows
import GoSem.ClaimSeven
namespace Go.Proofs.YtlkceignfhnpoaaGreatDoor
namespace Rows

/-- THE TIED CARD OF 'polliwoglaw24.ScriptClosed'. -/
def scriptClosedCard : Claim7 := { stood := { row := scriptClosedRow, standIns := [], harness := (true, "d99e12f75f8a03f1ade1ec712ebf424af82730dfa86f74143fe4e6918a388027"), looks := true }, kinds := [], alts := [], laidByText := true, laidKinds := [.data, .data, .data, .data, .data, .pinned], laidTests := true, laidLooks := .later }
def ScriptClosedCardSaid : Prop := Claim7.holds Tryz.pinned (.plain (OpenSpec.ofChange scriptClosedSpec)) scriptClosedCard

/-- THE TIED CARD OF 'polliwoglaw24.ScriptParts'. -/
def scriptPartsCard : Claim7 := { stood := { row := scriptPartsRow, standIns := [], harness := (true, "d99e12f75f8a03f1ade1ec712ebf424af82730dfa86f74143fe4e6918a388027"), looks := true }, kinds := [], alts := [], laidByText := true, laidKinds := [.data, .data, .data, .data, .data, .pinned], laidTests := true, laidLooks := .later }
def ScriptPartsCardSaid : Prop := Claim7.holds Tryz.pinned (.plain (OpenSpec.ofChange scriptPartsSpec)) scriptPartsCard

/-- THE TIED CARD OF 'polliwoglaw24.ScriptTells'. -/
def scriptTellsCard : Claim7 := { stood := { row := scriptTellsRow, standIns := [], harness := (true, "d99e12f75f8a03f1ade1ec712ebf424af82730dfa86f74143fe4e6918a388027"), looks := true }, kinds := [], alts := [], laidByText := true, laidKinds := [.data, .data, .data, .data, .data, .pinned], laidTests := true, laidLooks := .later }
def ScriptTellsCardSaid : Prop := Claim7.holds Tryz.pinned (.plain (OpenSpec.ofChange scriptTellsSpec)) scriptTellsCard

/-- THE TIED CARD OF 'polliwogtop.PolliwogScripts'. -/
def polliwogScriptsCard : Claim7 := { stood := { row := polliwogScriptsRow, standIns := [], harness := (true, "d99e12f75f8a03f1ade1ec712ebf424af82730dfa86f74143fe4e6918a388027"), looks := true }, kinds := [], alts := [], laidByText := true, laidKinds := [.data, .data, .data, .data, .data, .pinned], laidTests := true, laidLooks := .later }
def PolliwogScriptsCardSaid : Prop := Claim7.holds Tryz.pinned (.plain (OpenSpec.ofChange polliwogScriptsSpec)) polliwogScriptsCard

/-- THE SECOND FORM's CARD OF 'polliwoglaw24.ScriptClosed'. -/
def scriptClosedUptoCard : Claim7 := { stood := { row := scriptClosedUptoRow, standIns := [], harness := (true, "d99e12f75f8a03f1ade1ec712ebf424af82730dfa86f74143fe4e6918a388027"), looks := true }, kinds := [], alts := [], laidByText := true, laidKinds := [.data, .data, .data, .data, .data, .pinned], laidTests := true, laidLooks := .later }
def ScriptClosedUptoCardSaid : Prop := Claim7.holds Tryz.pinned (.plain (OpenSpec.upto scriptClosedSpec)) scriptClosedUptoCard

/-- THE SECOND FORM's CARD OF 'polliwoglaw24.ScriptParts'. -/
def scriptPartsUptoCard : Claim7 := { stood := { row := scriptPartsUptoRow, standIns := [], harness := (true, "d99e12f75f8a03f1ade1ec712ebf424af82730dfa86f74143fe4e6918a388027"), looks := true }, kinds := [], alts := [], laidByText := true, laidKinds := [.data, .data, .data, .data, .data, .pinned], laidTests := true, laidLooks := .later }
def ScriptPartsUptoCardSaid : Prop := Claim7.holds Tryz.pinned (.plain (OpenSpec.upto scriptPartsSpec)) scriptPartsUptoCard

/-- THE SECOND FORM's CARD OF 'polliwoglaw24.ScriptTells'. -/
def scriptTellsUptoCard : Claim7 := { stood := { row := scriptTellsUptoRow, standIns := [], harness := (true, "d99e12f75f8a03f1ade1ec712ebf424af82730dfa86f74143fe4e6918a388027"), looks := true }, kinds := [], alts := [], laidByText := true, laidKinds := [.data, .data, .data, .data, .data, .pinned], laidTests := true, laidLooks := .later }
def ScriptTellsUptoCardSaid : Prop := Claim7.holds Tryz.pinned (.plain (OpenSpec.upto scriptTellsSpec)) scriptTellsUptoCard

/-- THE SECOND FORM's CARD OF 'polliwogtop.PolliwogScripts'. -/
def polliwogScriptsUptoCard : Claim7 := { stood := { row := polliwogScriptsUptoRow, standIns := [], harness := (true, "d99e12f75f8a03f1ade1ec712ebf424af82730dfa86f74143fe4e6918a388027"), looks := true }, kinds := [], alts := [], laidByText := true, laidKinds := [.data, .data, .data, .data, .data, .pinned], laidTests := true, laidLooks := .later }
def PolliwogScriptsUptoCardSaid : Prop := Claim7.holds Tryz.pinned (.plain (OpenSpec.upto polliwogScriptsSpec)) polliwogScriptsUptoCard
end Rows
end Go.Proofs.YtlkceignfhnpoaaGreatDoor
