/-
  DERIVED. GIVEN WITH THE SEED: THE CARDS: each row of YtbppgicdmkkmnaaDoorRows.lean that lists a variable, with what it lists TIED to the program's text (the seventh form; the later family's looks); each row that meets fmt, with fmt's text TOLD by the authors' own Lean function (tested against real Go, not proved from fmt's source: count such statements apart). THE CARD IS WHAT COUNTS. Prove the row's statement (the work); the ties are given (YtbppgicdmkkmnaaDoorTie.lean); close each card by the builder's one call (the guide's Derived/Test/ToyasCard.lean, 'card_holds'). Laid BY PROGRAM, IN A SANDBOX (cutbox-door.mjs). By AI agents, Wed Nov 11 2026. No macro, syntax, notation, axiom, sorry.
-/
import Derived.Test.YtbppgicdmkkmnaaDoorRows
import GoSem.ClaimSeven
namespace Go.Proofs.YtbppgicdmkkmnaaDoor
namespace Rows

/-- THE TIED CARD OF 'polliwoglaw21.AuditFinds'. -/
def auditFindsCard : Claim7 := { stood := { row := auditFindsRow, standIns := [], harness := (true, "3e4b84350682ed0b4a7c309f3db87d06335ff0eac7c5353ac67be0e4347211ee"), looks := false }, kinds := [], alts := [], laidByText := true, laidKinds := [.data, .data, .data], laidTests := true, laidLooks := .later }
def AuditFindsCardSaid : Prop := Claim7.holds Tryd.pinned (.plain (OpenSpec.ofChange auditFindsSpec)) auditFindsCard

/-- THE TIED CARD OF 'polliwoglaw21.AuditEpochs'. -/
def auditEpochsCard : Claim7 := { stood := { row := auditEpochsRow, standIns := [], harness := (true, "3e4b84350682ed0b4a7c309f3db87d06335ff0eac7c5353ac67be0e4347211ee"), looks := false }, kinds := [], alts := [], laidByText := true, laidKinds := [.data, .data, .data], laidTests := true, laidLooks := .later }
def AuditEpochsCardSaid : Prop := Claim7.holds Tryd.pinned (.plain (OpenSpec.ofChange auditEpochsSpec)) auditEpochsCard

/-- THE SECOND FORM's CARD OF 'polliwoglaw21.AuditFinds'. -/
def auditFindsUptoCard : Claim7 := { stood := { row := auditFindsUptoRow, standIns := [], harness := (true, "3e4b84350682ed0b4a7c309f3db87d06335ff0eac7c5353ac67be0e4347211ee"), looks := false }, kinds := [], alts := [], laidByText := true, laidKinds := [.data, .data, .data], laidTests := true, laidLooks := .later }
def AuditFindsUptoCardSaid : Prop := Claim7.holds Tryd.pinned (.plain (OpenSpec.upto auditFindsSpec)) auditFindsUptoCard

/-- THE SECOND FORM's CARD OF 'polliwoglaw21.AuditEpochs'. -/
def auditEpochsUptoCard : Claim7 := { stood := { row := auditEpochsUptoRow, standIns := [], harness := (true, "3e4b84350682ed0b4a7c309f3db87d06335ff0eac7c5353ac67be0e4347211ee"), looks := false }, kinds := [], alts := [], laidByText := true, laidKinds := [.data, .data, .data], laidTests := true, laidLooks := .later }
def AuditEpochsUptoCardSaid : Prop := Claim7.holds Tryd.pinned (.plain (OpenSpec.upto auditEpochsSpec)) auditEpochsUptoCard
end Rows
end Go.Proofs.YtbppgicdmkkmnaaDoor
