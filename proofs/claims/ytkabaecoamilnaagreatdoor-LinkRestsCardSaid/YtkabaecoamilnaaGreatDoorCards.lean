/-
  DERIVED. GIVEN WITH THE SEED: THE CARDS: each row of YtkabaecoamilnaaGreatDoorRows.lean that lists a variable, with what it lists TIED to the program's text (the seventh form; the later family's looks); each row that meets fmt, with fmt's text TOLD by the authors' own Lean function (tested against real Go, not proved from fmt's source: count such statements apart). THE CARD IS WHAT COUNTS. Prove the row's statement (the work); the ties are given (YtkabaecoamilnaaGreatDoorTie.lean); close each card by the builder's one call (the guide's Derived/Test/ToyasCard.lean, 'card_holds'). Laid BY PROGRAM, IN A SANDBOX (cutbox-door.mjs). By AI agents, Wed Nov 11 2026. No macro, syntax, notation, axiom, sorry.
-/
import Derived.Test.YtkabaecoamilnaaGreatDoorRows
import GoSem.ClaimSeven
namespace Go.Proofs.YtkabaecoamilnaaGreatDoor
namespace Rows

/-- THE TIED CARD OF 'polliwoglaw18.LinkRests'. -/
def linkRestsCard : Claim7 := { stood := { row := linkRestsRow, standIns := [], harness := (true, "9c16b13d6dca244f2209ff56f2e8fe9c4a7ba8c805f360d67090f026c9c85505"), looks := true }, kinds := [], alts := [], laidByText := true, laidKinds := [.data, .pinned], laidTests := true, laidLooks := .later }
def LinkRestsCardSaid : Prop := Claim7.holds Tryz.pinned (.plain (OpenSpec.ofChange linkRestsSpec)) linkRestsCard

/-- THE TIED CARD OF 'polliwoglaw18.LinkPlays'. -/
def linkPlaysCard : Claim7 := { stood := { row := linkPlaysRow, standIns := [], harness := (true, "9c16b13d6dca244f2209ff56f2e8fe9c4a7ba8c805f360d67090f026c9c85505"), looks := true }, kinds := [], alts := [], laidByText := true, laidKinds := [.data, .pinned], laidTests := true, laidLooks := .later }
def LinkPlaysCardSaid : Prop := Claim7.holds Tryz.pinned (.plain (OpenSpec.ofChange linkPlaysSpec)) linkPlaysCard

/-- THE TIED CARD OF 'polliwoglaw18.LinkOrder'. -/
def linkOrderCard : Claim7 := { stood := { row := linkOrderRow, standIns := [], harness := (true, "9c16b13d6dca244f2209ff56f2e8fe9c4a7ba8c805f360d67090f026c9c85505"), looks := true }, kinds := [], alts := [], laidByText := true, laidKinds := [.data, .pinned], laidTests := true, laidLooks := .later }
def LinkOrderCardSaid : Prop := Claim7.holds Tryz.pinned (.plain (OpenSpec.ofChange linkOrderSpec)) linkOrderCard

/-- THE TIED CARD OF 'polliwoglaw18.LinkAnything'. -/
def linkAnythingCard : Claim7 := { stood := { row := linkAnythingRow, standIns := [], harness := (true, "9c16b13d6dca244f2209ff56f2e8fe9c4a7ba8c805f360d67090f026c9c85505"), looks := true }, kinds := [], alts := [], laidByText := true, laidKinds := [.data, .pinned], laidTests := true, laidLooks := .later }
def LinkAnythingCardSaid : Prop := Claim7.holds Tryz.pinned (.plain (OpenSpec.ofChange linkAnythingSpec)) linkAnythingCard

/-- THE TIED CARD OF 'polliwoglaw18.LinkTwins'. -/
def linkTwinsCard : Claim7 := { stood := { row := linkTwinsRow, standIns := [], harness := (true, "9c16b13d6dca244f2209ff56f2e8fe9c4a7ba8c805f360d67090f026c9c85505"), looks := true }, kinds := [], alts := [], laidByText := true, laidKinds := [.data, .pinned], laidTests := true, laidLooks := .later }
def LinkTwinsCardSaid : Prop := Claim7.holds Tryz.pinned (.plain (OpenSpec.ofChange linkTwinsSpec)) linkTwinsCard

/-- THE SECOND FORM's CARD OF 'polliwoglaw18.LinkRests'. -/
def linkRestsUptoCard : Claim7 := { stood := { row := linkRestsUptoRow, standIns := [], harness := (true, "9c16b13d6dca244f2209ff56f2e8fe9c4a7ba8c805f360d67090f026c9c85505"), looks := true }, kinds := [], alts := [], laidByText := true, laidKinds := [.data, .pinned], laidTests := true, laidLooks := .later }
def LinkRestsUptoCardSaid : Prop := Claim7.holds Tryz.pinned (.plain (OpenSpec.upto linkRestsSpec)) linkRestsUptoCard

/-- THE SECOND FORM's CARD OF 'polliwoglaw18.LinkPlays'. -/
def linkPlaysUptoCard : Claim7 := { stood := { row := linkPlaysUptoRow, standIns := [], harness := (true, "9c16b13d6dca244f2209ff56f2e8fe9c4a7ba8c805f360d67090f026c9c85505"), looks := true }, kinds := [], alts := [], laidByText := true, laidKinds := [.data, .pinned], laidTests := true, laidLooks := .later }
def LinkPlaysUptoCardSaid : Prop := Claim7.holds Tryz.pinned (.plain (OpenSpec.upto linkPlaysSpec)) linkPlaysUptoCard

/-- THE SECOND FORM's CARD OF 'polliwoglaw18.LinkOrder'. -/
def linkOrderUptoCard : Claim7 := { stood := { row := linkOrderUptoRow, standIns := [], harness := (true, "9c16b13d6dca244f2209ff56f2e8fe9c4a7ba8c805f360d67090f026c9c85505"), looks := true }, kinds := [], alts := [], laidByText := true, laidKinds := [.data, .pinned], laidTests := true, laidLooks := .later }
def LinkOrderUptoCardSaid : Prop := Claim7.holds Tryz.pinned (.plain (OpenSpec.upto linkOrderSpec)) linkOrderUptoCard

/-- THE SECOND FORM's CARD OF 'polliwoglaw18.LinkAnything'. -/
def linkAnythingUptoCard : Claim7 := { stood := { row := linkAnythingUptoRow, standIns := [], harness := (true, "9c16b13d6dca244f2209ff56f2e8fe9c4a7ba8c805f360d67090f026c9c85505"), looks := true }, kinds := [], alts := [], laidByText := true, laidKinds := [.data, .pinned], laidTests := true, laidLooks := .later }
def LinkAnythingUptoCardSaid : Prop := Claim7.holds Tryz.pinned (.plain (OpenSpec.upto linkAnythingSpec)) linkAnythingUptoCard

/-- THE SECOND FORM's CARD OF 'polliwoglaw18.LinkTwins'. -/
def linkTwinsUptoCard : Claim7 := { stood := { row := linkTwinsUptoRow, standIns := [], harness := (true, "9c16b13d6dca244f2209ff56f2e8fe9c4a7ba8c805f360d67090f026c9c85505"), looks := true }, kinds := [], alts := [], laidByText := true, laidKinds := [.data, .pinned], laidTests := true, laidLooks := .later }
def LinkTwinsUptoCardSaid : Prop := Claim7.holds Tryz.pinned (.plain (OpenSpec.upto linkTwinsSpec)) linkTwinsUptoCard
end Rows
end Go.Proofs.YtkabaecoamilnaaGreatDoor
