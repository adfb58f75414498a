/-
  Units, plainly: shapes, what may be, bytes.
-/
set_option linter.unusedVariables false
set_option linter.unusedSimpArgs false
namespace Go.Proofs.YtlkceignfhnpoaaGreatDoor

def sData (k : Int) : Int := if k = 1 ∨ k = 5 ∨ k = 7 ∨ k = 3 then 64 else if k = 8 ∨ k = 13 ∨ k = 14 then 200 else 0
def sSq (k : Int) : Bool := decide (k = 1 ∨ k = 5 ∨ k = 2 ∨ k = 6 ∨ k = 9 ∨ k = 15 ∨ k = 7 ∨ k = 3 ∨ k = 4)
def sN (k : Int) : Bool := decide (k = 1 ∨ k = 5 ∨ k = 2 ∨ k = 6 ∨ k = 9 ∨ k = 15 ∨ k = 8 ∨ k = 10 ∨ k = 11 ∨ k = 12)
def sList (k : Int) : Int := if k = 11 then -1 else if k = 12 then 2 else 0
def sPs (k : Int) : Bool := decide (k = 10 ∨ k = 11)
def sMr (k : Int) : Bool := decide (k = 11 ∨ k = 12)
def sSelf (k : Int) : Bool := decide (k = 3)
def sIs (k : Int) : Bool := decide (1 ≤ k ∧ k ≤ 15)
def lowB (n : Int) : Bool := decide (n < 16777216)
end Go.Proofs.YtlkceignfhnpoaaGreatDoor
