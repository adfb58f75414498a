/-
  Plain laws: a signal's text; a request's check.
-/
import Derived.Test.YtgilbdhoddmpbaaDoorPlainHex
import Derived.Lib.ItoaNum
set_option linter.unusedVariables false
set_option linter.unusedSimpArgs false
namespace Go.Proofs.YtgilbdhoddmpbaaDoor
open Go

def sigWord (k : Int) : List UInt8 :=
  if k = 1 then [101, 115, 116, 97, 98, 108, 105, 115, 104] else
  if k = 2 then [101, 115, 116, 97, 98, 108, 105, 115, 104, 101, 100] else
  if k = 3 then [114, 101, 108, 101, 97, 115, 101] else
  if k = 4 then [114, 101, 108, 101, 97, 115, 101, 100] else
  if k = 5 then [114, 101, 115, 121, 110, 99] else
  if k = 6 then [114, 101, 115, 121, 110, 99, 101, 100] else
  if k = 7 then [114, 101, 99, 111, 118, 101, 114] else
  if k = 8 then [100, 97, 116, 97] else
  if k = 9 then [117, 110, 105, 116] else
  if k = 10 then [109, 97, 110, 97, 103, 101] else
  if k = 11 then [114, 101, 116, 114, 105, 101, 118, 101, 100] else
  if k = 12 then [101, 114, 114, 111, 114] else []
theorem iteLen {c : Prop} [Decidable c] {a b : List UInt8} (ha : a.length ≤ 11) (hb : b.length ≤ 11) : (if c then a else b).length ≤ 11 := by split <;> assumption
theorem sigWord_length (k : Int) : (sigWord k).length ≤ 11 := by
  unfold sigWord; repeat' (refine iteLen ?_ ?_)
  all_goals decide
def sigText (k : Int) (data : List UInt8) (self : Bool) (code : Nat) (n : Int) : List UInt8 :=
  if k < 1 ∨ 12 < k then [] else
  if k = 3 then sigWord 3 ++ (if self then [32, 115, 101, 108, 102, 32] else [32, 117, 115, 101, 114, 32]) ++ hexOf data else
  if k = 1 ∨ k = 5 ∨ (8 ≤ k ∧ k ≤ 11) then sigWord k ++ [32] ++ hexOf data else
  if k = 12 then sigWord 12 ++ [32, code.toUInt8] ++ (if code = 86 then [32] ++ Lib.itoa n else []) else sigWord k

def reqMost (kind : Int) : Nat := if kind = 1 ∨ kind = 3 ∨ kind = 4 then 64 else if 7 ≤ kind ∧ kind ≤ 9 then 200 else 0
def reqCheck (kind : Int) (len : Nat) (n : Int) : Int :=
  if kind < 1 ∨ 11 < kind then 10 else
  if 0 < reqMost kind ∧ reqMost kind < len then 6 else
  if reqMost kind = 0 ∧ len ≠ 0 then 1 else
  if kind ≠ 10 ∧ n ≠ 0 then 1 else
  if kind = 10 ∧ (n < 1 ∨ 64 < n) then 1 else 0
end Go.Proofs.YtgilbdhoddmpbaaDoor
