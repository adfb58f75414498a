/-
  No cell of these rows narrows 'for every input' (looked for: loops, veiled, ifaces, maps, wideKeys, modest, calm, conditions, laid).
  DERIVED. THE GIVEN ROWS OF THIS SEAT. 4 by the template 'for every input the law returns true; each argument reads behind the call as it read before'; 0 by the template 'total and deterministic' (their statements: YtanmdmidjeobeaaTotals.lean).
  GIVEN WITH THE SEED: the statements are not yours to turn. If you find one false, say at which input.
  Laid BY PROGRAM, IN A SANDBOX (cutbox-rows.mjs): the forced cells as the released guide's own fill.sh prints them over the translation 8c04c4e1eacf32c2… (all of the seat's roots in one cut). By AI agents, Wed Nov 11 2026. No macro, syntax, notation, axiom, sorry.
-/
import Derived.Test.YtanmdmidjeobeaaChecked
import GoSem.Claim
import GoSem.ClaimJoined
import GoSem.ClaimMapViews
import Derived.JoinedTies
import Derived.KernelRfl
namespace Go.Proofs.Ytanmdmidjeobeaa
/- THE CELL 'sum', in the pinned program and in every row, IS THE sha256 OF THE DUMP (.gsa) THAT YtanmdmidjeobeaaProg.lean LOADS. Nothing in Lean hashes anything: it is a label: what it is worth is what the hold of that sum in a sandbox is worth. -/
noncomputable def Try.pinned : Pinned := { name := "ytanmdmidjeobeaa", sum := "8c04c4e1eacf32c2976ff80d00de90793baeb4c1de38a3c4082543ae216a93df", checked := Try.checked }
namespace Rows
def none {H : Type} : Left H := { results := [], args := [] }

/-- 'polliwoglaw20.EpochBooks': WHATEVER THE INPUT: true; the input reads as it did. -/
def epochBooksSpec : ChangeSpec := { name := "epochBooks", fn := fun _ => fun
  | [d] => { results := [.lit (.bool true)], args := [d] }
  | _ => none }
def epochBooksRow : OpenClaim := { program := "ytanmdmidjeobeaa", sum := "8c04c4e1eacf32c2976ff80d00de90793baeb4c1de38a3c4082543ae216a93df", func := "polliwog/polliwoglaw20.EpochBooks", spec := "epochBooks", unfollowed := true, recurses := true, apart := false }
def EpochBooksSaid : Prop := epochBooksRow.holds Try.pinned (OpenSpec.ofChange epochBooksSpec)

/-- ITS FALSE NEIGHBOUR: 'it returns false'. Refute it at one input. -/
def epochBooksWrong : ChangeSpec := { name := "epochBooks", fn := fun _ => fun
  | [d] => { results := [.lit (.bool false)], args := [d] }
  | _ => none }
def EpochBooksWrongFalsely : Prop := epochBooksRow.holds Try.pinned (OpenSpec.ofChange epochBooksWrong)

/-- 'polliwoglaw20.EpochMatches': WHATEVER THE INPUT: true; the input reads as it did. -/
def epochMatchesSpec : ChangeSpec := { name := "epochMatches", fn := fun _ => fun
  | [d1, d2] => { results := [.lit (.bool true)], args := [d1, d2] }
  | _ => none }
def epochMatchesRow : OpenClaim := { program := "ytanmdmidjeobeaa", sum := "8c04c4e1eacf32c2976ff80d00de90793baeb4c1de38a3c4082543ae216a93df", func := "polliwog/polliwoglaw20.EpochMatches", spec := "epochMatches", unfollowed := true, recurses := true, apart := false }
def EpochMatchesSaid : Prop := epochMatchesRow.holds Try.pinned (OpenSpec.ofChange epochMatchesSpec)

/-- ITS FALSE NEIGHBOUR: 'it returns false'. Refute it at one input. -/
def epochMatchesWrong : ChangeSpec := { name := "epochMatches", fn := fun _ => fun
  | [d1, d2] => { results := [.lit (.bool false)], args := [d1, d2] }
  | _ => none }
def EpochMatchesWrongFalsely : Prop := epochMatchesRow.holds Try.pinned (OpenSpec.ofChange epochMatchesWrong)

/-- 'polliwoglaw20.EpochForged': WHATEVER THE INPUT: true; the input reads as it did. -/
def epochForgedSpec : ChangeSpec := { name := "epochForged", fn := fun _ => fun
  | [d1, d2, d3] => { results := [.lit (.bool true)], args := [d1, d2, d3] }
  | _ => none }
def epochForgedRow : OpenClaim := { program := "ytanmdmidjeobeaa", sum := "8c04c4e1eacf32c2976ff80d00de90793baeb4c1de38a3c4082543ae216a93df", func := "polliwog/polliwoglaw20.EpochForged", spec := "epochForged", unfollowed := true, recurses := true, apart := false }
def EpochForgedSaid : Prop := epochForgedRow.holds Try.pinned (OpenSpec.ofChange epochForgedSpec)

/-- ITS FALSE NEIGHBOUR: 'it returns false'. Refute it at one input. -/
def epochForgedWrong : ChangeSpec := { name := "epochForged", fn := fun _ => fun
  | [d1, d2, d3] => { results := [.lit (.bool false)], args := [d1, d2, d3] }
  | _ => none }
def EpochForgedWrongFalsely : Prop := epochForgedRow.holds Try.pinned (OpenSpec.ofChange epochForgedWrong)

/-- 'polliwoglaw20.EpochCopies': WHATEVER THE INPUT: true; the input reads as it did. -/
def epochCopiesSpec : ChangeSpec := { name := "epochCopies", fn := fun _ => fun
  | [d] => { results := [.lit (.bool true)], args := [d] }
  | _ => none }
def epochCopiesRow : OpenClaim := { program := "ytanmdmidjeobeaa", sum := "8c04c4e1eacf32c2976ff80d00de90793baeb4c1de38a3c4082543ae216a93df", func := "polliwog/polliwoglaw20.EpochCopies", spec := "epochCopies", unfollowed := true, recurses := true, apart := false }
def EpochCopiesSaid : Prop := epochCopiesRow.holds Try.pinned (OpenSpec.ofChange epochCopiesSpec)

/-- ITS FALSE NEIGHBOUR: 'it returns false'. Refute it at one input. -/
def epochCopiesWrong : ChangeSpec := { name := "epochCopies", fn := fun _ => fun
  | [d] => { results := [.lit (.bool false)], args := [d] }
  | _ => none }
def EpochCopiesWrongFalsely : Prop := epochCopiesRow.holds Try.pinned (OpenSpec.ofChange epochCopiesWrong)

/- THE SECOND FORM. 'bulk': how many values and letters a reading holds, each counted each time it is reached (what is shared counts as often as it is met; a slice's spare places count too). A statement '..UptoSaid' is the law's where the arguments, and the package variables that the reading takes, are together of bulk at most 1048576: NARROWER than '..Said'. Prove '..Said' where nothing that the law and all that it calls make is longer than what came in: it says more and counts as full. Else prove '..UptoSaid'. A law counts once. -/
mutual
def uptoBulk {H : Type} : DataW H → Nat
  | .lit (.string bytes) => bytes.length + 1
  | .lit _ => 1
  | .nil => 1
  | .ptr d => uptoBulk d + 1
  | .slice elems spare => uptoBulkAll elems + uptoBulkAll spare + 1
  | .agg parts => uptoBulkAll parts + 1
  | .iface _ d => uptoBulk d + 1
  | .map entries => uptoBulkEntries entries + 1
  | .held _ => 1
def uptoBulkAll {H : Type} : List (DataW H) → Nat
  | [] => 0
  | d :: r => uptoBulk d + uptoBulkAll r
def uptoBulkEntries {H : Type} : List (Lit × DataW H) → Nat
  | [] => 0
  | x :: r => uptoBulkEntry x + uptoBulkEntries r
def uptoBulkEntry {H : Type} : Lit × DataW H → Nat
  | (.string bytes, d) => bytes.length + uptoBulk d + 1
  | (_, d) => uptoBulk d + 1
 end
def uptoSmall : (H : Type) → List (DataW H) → Bool := fun _ ds => decide (uptoBulkAll ds ≤ 1048576)
def OpenSpec.upto (s : _root_.Go.ChangeSpec) : _root_.Go.OpenSpec := { _root_.Go.OpenSpec.ofChange s with cond := some uptoSmall }

/-- 'polliwoglaw20.EpochBooks', WHERE WHAT IT READS IS OF BULK AT MOST 1048576: true; the input reads as it did. -/
def epochBooksUptoRow : OpenClaim := { program := "ytanmdmidjeobeaa", sum := "8c04c4e1eacf32c2976ff80d00de90793baeb4c1de38a3c4082543ae216a93df", func := "polliwog/polliwoglaw20.EpochBooks", spec := "epochBooks", unfollowed := true, recurses := true, apart := false, narrowed := true }
def EpochBooksUptoSaid : Prop := epochBooksUptoRow.holds Try.pinned (OpenSpec.upto epochBooksSpec)

/-- 'polliwoglaw20.EpochMatches', WHERE WHAT IT READS IS OF BULK AT MOST 1048576: true; the input reads as it did. -/
def epochMatchesUptoRow : OpenClaim := { program := "ytanmdmidjeobeaa", sum := "8c04c4e1eacf32c2976ff80d00de90793baeb4c1de38a3c4082543ae216a93df", func := "polliwog/polliwoglaw20.EpochMatches", spec := "epochMatches", unfollowed := true, recurses := true, apart := false, narrowed := true }
def EpochMatchesUptoSaid : Prop := epochMatchesUptoRow.holds Try.pinned (OpenSpec.upto epochMatchesSpec)

/-- 'polliwoglaw20.EpochForged', WHERE WHAT IT READS IS OF BULK AT MOST 1048576: true; the input reads as it did. -/
def epochForgedUptoRow : OpenClaim := { program := "ytanmdmidjeobeaa", sum := "8c04c4e1eacf32c2976ff80d00de90793baeb4c1de38a3c4082543ae216a93df", func := "polliwog/polliwoglaw20.EpochForged", spec := "epochForged", unfollowed := true, recurses := true, apart := false, narrowed := true }
def EpochForgedUptoSaid : Prop := epochForgedUptoRow.holds Try.pinned (OpenSpec.upto epochForgedSpec)

/-- 'polliwoglaw20.EpochCopies', WHERE WHAT IT READS IS OF BULK AT MOST 1048576: true; the input reads as it did. -/
def epochCopiesUptoRow : OpenClaim := { program := "ytanmdmidjeobeaa", sum := "8c04c4e1eacf32c2976ff80d00de90793baeb4c1de38a3c4082543ae216a93df", func := "polliwog/polliwoglaw20.EpochCopies", spec := "epochCopies", unfollowed := true, recurses := true, apart := false, narrowed := true }
def EpochCopiesUptoSaid : Prop := epochCopiesUptoRow.holds Try.pinned (OpenSpec.upto epochCopiesSpec)

end Rows
end Go.Proofs.Ytanmdmidjeobeaa
