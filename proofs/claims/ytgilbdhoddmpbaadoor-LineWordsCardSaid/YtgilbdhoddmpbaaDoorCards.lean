/-
  DERIVED. GIVEN WITH THE SEED: THE CARDS: each row of YtgilbdhoddmpbaaDoorRows.lean that lists a variable, with what it lists TIED to the program's text (the seventh form; the later family's looks); each row that meets fmt, with fmt's text TOLD by the authors' own Lean function (tested against real Go, not proved from fmt's source: count such statements apart). THE CARD IS WHAT COUNTS. Prove the row's statement (the work); the ties are given (YtgilbdhoddmpbaaDoorTie.lean); close each card by the builder's one call (the guide's Derived/Test/ToyasCard.lean, 'card_holds'). Laid BY PROGRAM, IN A SANDBOX (cutbox-door.mjs). By AI agents, Wed Nov 11 2026. No macro, syntax, notation, axiom, sorry.
-/
import Derived.Test.YtgilbdhoddmpbaaDoorRows
import GoSem.ClaimSeven
namespace Go.Proofs.YtgilbdhoddmpbaaDoor
namespace Rows

/-- THE TIED CARD OF 'polliwoglaw23.LineParses'. -/
def lineParsesCard : Claim7 := { stood := { row := lineParsesRow, standIns := [], harness := (true, "81b6b79dc8d209fae247a417c6dfefe0c4315a67cf1ab46744311858c555f508"), looks := false }, kinds := [], alts := [], laidByText := true, laidKinds := [.data, .pinned], laidTests := true, laidLooks := .later }
def LineParsesCardSaid : Prop := Claim7.holds Tryd.pinned (.plain (OpenSpec.ofChange lineParsesSpec)) lineParsesCard

/-- THE TIED CARD OF 'polliwoglaw23.LineLimit'. -/
def lineLimitCard : Claim7 := { stood := { row := lineLimitRow, standIns := [], harness := (true, "81b6b79dc8d209fae247a417c6dfefe0c4315a67cf1ab46744311858c555f508"), looks := false }, kinds := [], alts := [], laidByText := true, laidKinds := [.data, .pinned], laidTests := true, laidLooks := .later }
def LineLimitCardSaid : Prop := Claim7.holds Tryd.pinned (.plain (OpenSpec.ofChange lineLimitSpec)) lineLimitCard

/-- THE TIED CARD OF 'polliwoglaw23.LineNumbers'. -/
def lineNumbersCard : Claim7 := { stood := { row := lineNumbersRow, standIns := [], harness := (true, "81b6b79dc8d209fae247a417c6dfefe0c4315a67cf1ab46744311858c555f508"), looks := false }, kinds := [], alts := [], laidByText := true, laidKinds := [.data, .pinned], laidTests := true, laidLooks := .later }
def LineNumbersCardSaid : Prop := Claim7.holds Tryd.pinned (.plain (OpenSpec.ofChange lineNumbersSpec)) lineNumbersCard

/-- THE TIED CARD OF 'polliwoglaw23.LineBack'. -/
def lineBackCard : Claim7 := { stood := { row := lineBackRow, standIns := [], harness := (true, "81b6b79dc8d209fae247a417c6dfefe0c4315a67cf1ab46744311858c555f508"), looks := false }, kinds := [], alts := [], laidByText := true, laidKinds := [.data, .data, .data, .data, .pinned], laidTests := true, laidLooks := .later }
def LineBackCardSaid : Prop := Claim7.holds Tryd.pinned (.plain (OpenSpec.ofChange lineBackSpec)) lineBackCard

/-- THE TIED CARD OF 'polliwoglaw23.LineWords'. -/
def lineWordsCard : Claim7 := { stood := { row := lineWordsRow, standIns := [], harness := (true, "81b6b79dc8d209fae247a417c6dfefe0c4315a67cf1ab46744311858c555f508"), looks := false }, kinds := [], alts := [], laidByText := true, laidKinds := [.data, .data, .data, .data, .pinned], laidTests := true, laidLooks := .later }
def LineWordsCardSaid : Prop := Claim7.holds Tryd.pinned (.plain (OpenSpec.ofChange lineWordsSpec)) lineWordsCard

/-- THE SECOND FORM's CARD OF 'polliwoglaw23.LineParses'. -/
def lineParsesUptoCard : Claim7 := { stood := { row := lineParsesUptoRow, standIns := [], harness := (true, "81b6b79dc8d209fae247a417c6dfefe0c4315a67cf1ab46744311858c555f508"), looks := false }, kinds := [], alts := [], laidByText := true, laidKinds := [.data, .pinned], laidTests := true, laidLooks := .later }
def LineParsesUptoCardSaid : Prop := Claim7.holds Tryd.pinned (.plain (OpenSpec.upto lineParsesSpec)) lineParsesUptoCard

/-- THE SECOND FORM's CARD OF 'polliwoglaw23.LineLimit'. -/
def lineLimitUptoCard : Claim7 := { stood := { row := lineLimitUptoRow, standIns := [], harness := (true, "81b6b79dc8d209fae247a417c6dfefe0c4315a67cf1ab46744311858c555f508"), looks := false }, kinds := [], alts := [], laidByText := true, laidKinds := [.data, .pinned], laidTests := true, laidLooks := .later }
def LineLimitUptoCardSaid : Prop := Claim7.holds Tryd.pinned (.plain (OpenSpec.upto lineLimitSpec)) lineLimitUptoCard

/-- THE SECOND FORM's CARD OF 'polliwoglaw23.LineNumbers'. -/
def lineNumbersUptoCard : Claim7 := { stood := { row := lineNumbersUptoRow, standIns := [], harness := (true, "81b6b79dc8d209fae247a417c6dfefe0c4315a67cf1ab46744311858c555f508"), looks := false }, kinds := [], alts := [], laidByText := true, laidKinds := [.data, .pinned], laidTests := true, laidLooks := .later }
def LineNumbersUptoCardSaid : Prop := Claim7.holds Tryd.pinned (.plain (OpenSpec.upto lineNumbersSpec)) lineNumbersUptoCard

/-- THE SECOND FORM's CARD OF 'polliwoglaw23.LineBack'. -/
def lineBackUptoCard : Claim7 := { stood := { row := lineBackUptoRow, standIns := [], harness := (true, "81b6b79dc8d209fae247a417c6dfefe0c4315a67cf1ab46744311858c555f508"), looks := false }, kinds := [], alts := [], laidByText := true, laidKinds := [.data, .data, .data, .data, .pinned], laidTests := true, laidLooks := .later }
def LineBackUptoCardSaid : Prop := Claim7.holds Tryd.pinned (.plain (OpenSpec.upto lineBackSpec)) lineBackUptoCard

/-- THE SECOND FORM's CARD OF 'polliwoglaw23.LineWords'. -/
def lineWordsUptoCard : Claim7 := { stood := { row := lineWordsUptoRow, standIns := [], harness := (true, "81b6b79dc8d209fae247a417c6dfefe0c4315a67cf1ab46744311858c555f508"), looks := false }, kinds := [], alts := [], laidByText := true, laidKinds := [.data, .data, .data, .data, .pinned], laidTests := true, laidLooks := .later }
def LineWordsUptoCardSaid : Prop := Claim7.holds Tryd.pinned (.plain (OpenSpec.upto lineWordsSpec)) lineWordsUptoCard
end Rows
end Go.Proofs.YtgilbdhoddmpbaaDoor
