/-
  The document's Check (layer 6), plainly; it is the program's.
-/
import Derived.Test.YtohenohgceaibaaGreatDoorPlainPduCheck
set_option linter.unusedVariables false
set_option linter.unusedSimpArgs false
namespace Go.Proofs.YtohenohgceaibaaGreatDoor
/-- What the document's Check asks, in its own order. -/
def rc6 (sd : Int) (dl : Nat) (n ps mr sq : Int) : Bool := (decide (sd = 0) && decide (dl ≠ 0)) || decide (16777216 ≤ n) || decide (16777216 ≤ ps) || decide (16777216 ≤ mr) || decide (sq < 0) || decide (255 < sq)
def rc8 (bq bn : Bool) (k sq n : Int) (self : Bool) : Bool := (!bq && decide (sq ≠ 0)) || (!bn && decide (n ≠ 0)) || (decide (k ≠ 3) && self)
def rc10 (bp bm : Bool) (ps mr : Int) : Bool := (!bp && decide (ps ≠ 0)) || (!bm && decide (mr ≠ 0))
def rc12 (k : Int) (ll : Nat) : Bool := (decide (k = 11) && decide (ll % 2 ≠ 0)) || (decide (k = 12) && decide (ll ≠ 2)) || (decide (k ≠ 11) && decide (k ≠ 12) && decide (0 < ll))
def rcAll (l : List Int) : Bool := l.all fun x => decide (x < 16777216)
def rcheckOf (k sq n ps mr : Int) (l : List Int) (self : Bool) (dl : Nat) : Int :=
  if k < 1 ∨ 15 < k then 10 else if bigB (sData k) dl l.length = true then 6
  else if rc6 (sData k) dl n ps mr sq = true then 1 else if rc8 (sSq k) (sN k) k sq n self = true then 1 else if rc10 (sPs k) (sMr k) ps mr = true then 1
  else if rc12 k l.length = true then 1 else if rcAll l = true then 0 else 1

/-- At numbers from 0 on the document's Check is the program's. -/
theorem rcheckOf_eq (k sq n ps mr : Int) (l : List Int) (self : Bool) (dl : Nat) (hn : 0 ≤ n) (hps : 0 ≤ ps) (hmr : 0 ≤ mr) : rcheckOf k sq n ps mr l self dl = checkOf k sq n ps mr l self dl := by
  unfold rcheckOf checkOf
  by_cases hk : k < 1 ∨ 15 < k
  · rw [if_pos hk, if_pos (by unfold sIs; exact decide_eq_false (by omega))]
  have hsi : sIs k = true := by unfold sIs; exact decide_eq_true (by omega)
  rw [if_neg hk, hsi]
  simp only [Bool.true_eq_false, if_false]
  by_cases hb : bigB (sData k) dl l.length = true
  · rw [if_pos hb, if_pos hb]
  rw [if_neg hb, if_neg hb]
  have hall : rcAll l = l.all lowB := rfl
  have hsd : 0 ≤ sData k := by unfold sData; split <;> (try split) <;> omega
  have h12 : rc12 k l.length = !listB (sList k) l.length := by
    unfold rc12 listB sList
    generalize l.length = ll
    rw [Bool.eq_iff_iff]
    by_cases h11 : k = 11
    · subst h11; first | (simp; done) | (simp; omega)
    by_cases h12 : k = 12
    · subst h12; first | (simp; done) | (simp; omega)
    · first | (simp [h11, h12]; done) | (simp [h11, h12]; omega)
  have h68 : (rc6 (sData k) dl n ps mr sq || rc8 (sSq k) (sN k) k sq n self || rc10 (sPs k) (sMr k) ps mr) = !(lowB n && lowB ps && lowB mr && someB (sData k) (sN k) (sPs k) (sMr k) (sSelf k) dl n ps mr self && sqB (sSq k) sq) := by
    unfold rc6 rc8 rc10 someB sqB lowB sSelf
    generalize sData k = sd at *
    generalize sSq k = bq
    generalize sN k = bn
    generalize sPs k = bp
    generalize sMr k = bm
    rw [Bool.eq_iff_iff]
    cases bq <;> cases bn <;> cases bp <;> cases bm <;> cases self <;> simp <;> omega
  rw [allB, hall, h12]
  generalize rc6 (sData k) dl n ps mr sq = a6 at *
  generalize rc8 (sSq k) (sN k) k sq n self = a8 at *
  generalize rc10 (sPs k) (sMr k) ps mr = a10 at *
  generalize someB (sData k) (sN k) (sPs k) (sMr k) (sSelf k) dl n ps mr self = sb at *
  generalize sqB (sSq k) sq = sqb at *
  generalize listB (sList k) l.length = lb at *
  generalize l.all lowB = lo at *
  generalize lowB n = x1 at *
  generalize lowB ps = x2 at *
  generalize lowB mr = x3 at *
  clear h12 hall hb hk hsi
  revert h68
  revert a6 a8 a10 sb sqb lb lo x1 x2 x3
  decide
end Go.Proofs.YtohenohgceaibaaGreatDoor
