/-
  DERIVED. GIVEN WITH THE SEED: THE CARDS: each row of YtohenohgceaibaaGreatDoorRows.lean that lists a variable, with what it lists TIED to the program's text (the seventh form; the later family's looks); each row that meets fmt, with fmt's text TOLD by the authors' own Lean function (tested against real Go, not proved from fmt's source: count such statements apart). THE CARD IS WHAT COUNTS. Prove the row's statement (the work); the ties are given (YtohenohgceaibaaGreatDoorTie.lean); close each card by the builder's one call (the guide's Derived/Test/ToyasCard.lean, 'card_holds'). Laid BY PROGRAM, IN A SANDBOX (cutbox-door.mjs). By AI agents, Wed Nov 11 2026. No macro, syntax, notation, axiom, sorry.
-/
import Derived.Test.YtohenohgceaibaaGreatDoorRows
import GoSem.ClaimSeven
namespace Go.Proofs.YtohenohgceaibaaGreatDoor
namespace Rows

/-- THE TIED CARD OF 'polliwoglaw19.TraceBack'. -/
def traceBackCard : Claim7 := { stood := { row := traceBackRow, standIns := [], harness := (true, "2e7dd01854f05da3f70919b1799bbd4e393f2ddcdace171f32c3afb0691a5f66"), looks := true }, kinds := [], alts := [], laidByText := true, laidKinds := [.data, .data, .data, .data, .sentinel, .sentinel, .data, .pinned], laidTests := true, laidLooks := .later }
def TraceBackCardSaid : Prop := Claim7.holds Tryz.pinned (.plain (OpenSpec.ofChange traceBackSpec)) traceBackCard

/-- THE TIED CARD OF 'polliwoglaw19.TraceRecords'. -/
def traceRecordsCard : Claim7 := { stood := { row := traceRecordsRow, standIns := [], harness := (true, "2e7dd01854f05da3f70919b1799bbd4e393f2ddcdace171f32c3afb0691a5f66"), looks := true }, kinds := [], alts := [], laidByText := true, laidKinds := [.data, .data, .data, .data, .sentinel, .sentinel, .data, .pinned], laidTests := true, laidLooks := .later }
def TraceRecordsCardSaid : Prop := Claim7.holds Tryz.pinned (.plain (OpenSpec.ofChange traceRecordsSpec)) traceRecordsCard

/-- THE SECOND FORM's CARD OF 'polliwoglaw19.TraceBack'. -/
def traceBackUptoCard : Claim7 := { stood := { row := traceBackUptoRow, standIns := [], harness := (true, "2e7dd01854f05da3f70919b1799bbd4e393f2ddcdace171f32c3afb0691a5f66"), looks := true }, kinds := [], alts := [], laidByText := true, laidKinds := [.data, .data, .data, .data, .sentinel, .sentinel, .data, .pinned], laidTests := true, laidLooks := .later }
def TraceBackUptoCardSaid : Prop := Claim7.holds Tryz.pinned (.plain (OpenSpec.upto traceBackSpec)) traceBackUptoCard

/-- THE SECOND FORM's CARD OF 'polliwoglaw19.TraceRecords'. -/
def traceRecordsUptoCard : Claim7 := { stood := { row := traceRecordsUptoRow, standIns := [], harness := (true, "2e7dd01854f05da3f70919b1799bbd4e393f2ddcdace171f32c3afb0691a5f66"), looks := true }, kinds := [], alts := [], laidByText := true, laidKinds := [.data, .data, .data, .data, .sentinel, .sentinel, .data, .pinned], laidTests := true, laidLooks := .later }
def TraceRecordsUptoCardSaid : Prop := Claim7.holds Tryz.pinned (.plain (OpenSpec.upto traceRecordsSpec)) traceRecordsUptoCard
end Rows
end Go.Proofs.YtohenohgceaibaaGreatDoor
