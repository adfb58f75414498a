/-
  DERIVED. GIVEN WITH THE SEED: THE CARDS: each row of YtohenohgceaibaaDoorRows.lean that lists a variable, with what it lists TIED to the program's text (the seventh form; the later family's looks); each row that meets fmt, with fmt's text TOLD by the authors' own Lean function (tested against real Go, not proved from fmt's source: count such statements apart). THE CARD IS WHAT COUNTS. Prove the row's statement (the work); the ties are given (YtohenohgceaibaaDoorTie.lean); close each card by the builder's one call (the guide's Derived/Test/ToyasCard.lean, 'card_holds'). Laid BY PROGRAM, IN A SANDBOX (cutbox-door.mjs). By AI agents, Wed Nov 11 2026. No macro, syntax, notation, axiom, sorry.
-/
import Derived.Test.YtohenohgceaibaaDoorRows
import GoSem.ClaimSeven
namespace Go.Proofs.YtohenohgceaibaaDoor
namespace Rows

/-- THE TIED CARD OF 'polliwoglaw19.TraceReads'. -/
def traceReadsCard : Claim7 := { stood := { row := traceReadsRow, standIns := [], harness := (true, "64548b6113fc20d2f6fe8161f6895ddff3da4b7712b148d185aedc9fbd237e06"), looks := true }, kinds := [], alts := [], laidByText := true, laidKinds := [.data, .data, .data, .data, .sentinel, .sentinel, .data, .pinned], laidTests := true, laidLooks := .later }
def TraceReadsCardSaid : Prop := Claim7.holds Tryd.pinned (.plain (OpenSpec.ofChange traceReadsSpec)) traceReadsCard

/-- THE TIED CARD OF 'polliwoglaw19.TraceUnlike'. -/
def traceUnlikeCard : Claim7 := { stood := { row := traceUnlikeRow, standIns := [], harness := (true, "64548b6113fc20d2f6fe8161f6895ddff3da4b7712b148d185aedc9fbd237e06"), looks := true }, kinds := [], alts := [], laidByText := true, laidKinds := [.data, .data, .data, .data, .sentinel, .sentinel, .data, .pinned], laidTests := true, laidLooks := .later }
def TraceUnlikeCardSaid : Prop := Claim7.holds Tryd.pinned (.plain (OpenSpec.ofChange traceUnlikeSpec)) traceUnlikeCard

/-- THE TIED CARD OF 'polliwoglaw19.TraceKinds'. -/
def traceKindsCard : Claim7 := { stood := { row := traceKindsRow, standIns := [], harness := (true, "64548b6113fc20d2f6fe8161f6895ddff3da4b7712b148d185aedc9fbd237e06"), looks := true }, kinds := [], alts := [], laidByText := true, laidKinds := [.data, .data, .data, .data, .sentinel, .sentinel, .data, .pinned], laidTests := true, laidLooks := .later }
def TraceKindsCardSaid : Prop := Claim7.holds Tryd.pinned (.plain (OpenSpec.ofChange traceKindsSpec)) traceKindsCard

/-- THE SECOND FORM's CARD OF 'polliwoglaw19.TraceReads'. -/
def traceReadsUptoCard : Claim7 := { stood := { row := traceReadsUptoRow, standIns := [], harness := (true, "64548b6113fc20d2f6fe8161f6895ddff3da4b7712b148d185aedc9fbd237e06"), looks := true }, kinds := [], alts := [], laidByText := true, laidKinds := [.data, .data, .data, .data, .sentinel, .sentinel, .data, .pinned], laidTests := true, laidLooks := .later }
def TraceReadsUptoCardSaid : Prop := Claim7.holds Tryd.pinned (.plain (OpenSpec.upto traceReadsSpec)) traceReadsUptoCard

/-- THE SECOND FORM's CARD OF 'polliwoglaw19.TraceUnlike'. -/
def traceUnlikeUptoCard : Claim7 := { stood := { row := traceUnlikeUptoRow, standIns := [], harness := (true, "64548b6113fc20d2f6fe8161f6895ddff3da4b7712b148d185aedc9fbd237e06"), looks := true }, kinds := [], alts := [], laidByText := true, laidKinds := [.data, .data, .data, .data, .sentinel, .sentinel, .data, .pinned], laidTests := true, laidLooks := .later }
def TraceUnlikeUptoCardSaid : Prop := Claim7.holds Tryd.pinned (.plain (OpenSpec.upto traceUnlikeSpec)) traceUnlikeUptoCard

/-- THE SECOND FORM's CARD OF 'polliwoglaw19.TraceKinds'. -/
def traceKindsUptoCard : Claim7 := { stood := { row := traceKindsUptoRow, standIns := [], harness := (true, "64548b6113fc20d2f6fe8161f6895ddff3da4b7712b148d185aedc9fbd237e06"), looks := true }, kinds := [], alts := [], laidByText := true, laidKinds := [.data, .data, .data, .data, .sentinel, .sentinel, .data, .pinned], laidTests := true, laidLooks := .later }
def TraceKindsUptoCardSaid : Prop := Claim7.holds Tryd.pinned (.plain (OpenSpec.upto traceKindsSpec)) traceKindsUptoCard
end Rows
end Go.Proofs.YtohenohgceaibaaDoor
