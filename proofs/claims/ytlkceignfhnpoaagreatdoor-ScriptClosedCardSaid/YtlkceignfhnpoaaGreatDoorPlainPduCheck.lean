/-
  Which units may be, plainly.
-/
import Derived.Test.YtlkceignfhnpoaaGreatDoorPlainPdu
set_option linter.unusedVariables false
set_option linter.unusedSimpArgs false
namespace Go.Proofs.YtlkceignfhnpoaaGreatDoor
def listB (sl : Int) (len : Nat) : Bool := decide ((len : Int) = sl) || (decide (sl < 0) && decide (len % 2 = 0))
def allB (n ps mr : Int) (l : List Int) : Bool := lowB n && lowB ps && lowB mr && l.all lowB
def someB (sd : Int) (bn bp bm bs : Bool) (dl : Nat) (n ps mr : Int) (self : Bool) : Bool :=
  (decide (0 < sd) || decide (dl = 0)) && (bn || decide (n = 0)) && (bp || decide (ps = 0)) && (bm || decide (mr = 0)) && (bs || !self)
def sqB (bq : Bool) (sq : Int) : Bool := decide (0 ≤ sq) && decide (sq ≤ 255) && (bq || decide (sq = 0))
def bigB (sd : Int) (dl ll : Nat) : Bool := (decide (sd < (dl : Int)) && decide (0 < sd)) || decide (128 < ll)
def checkOf (k sq n ps mr : Int) (l : List Int) (self : Bool) (dl : Nat) : Int :=
  if sIs k = false then 10 else if bigB (sData k) dl l.length = true then 6
  else if (listB (sList k) l.length && allB n ps mr l && someB (sData k) (sN k) (sPs k) (sMr k) (sSelf k) dl n ps mr self && sqB (sSq k) sq) = true then 0 else 1
end Go.Proofs.YtlkceignfhnpoaaGreatDoor
