/-
  Bits of a text turned by a mask of 32, plainly.
-/
import Derived.Test.YtdggnpecbdnkeaaDoorPlainBurst
set_option linter.unusedVariables false
set_option linter.unusedSimpArgs false
namespace Go.Proofs.YtdggnpecbdnkeaaDoor

/-- The byte with one bit, counted from the highest. -/
def oneBit (q : Nat) : UInt8 := (2 ^ (7 - q)).toUInt8
theorem oneBit_nat (q : Nat) : (oneBit q).toNat = 2 ^ (7 - q) := by
  unfold oneBit
  simp only [Nat.toUInt8, UInt8.toNat_ofNat']
  exact Nat.mod_eq_of_lt (Nat.pow_lt_pow_right (by decide) (by omega))
def turnB (l : List UInt8) (k : Nat) (c : Bool) : List UInt8 := l.set (k / 8) (l.getD (k / 8) 0 ^^^ (if c then oneBit (k % 8) else 0))
theorem turnB_length (l : List UInt8) (k : Nat) (c : Bool) : (turnB l k c).length = l.length := by simp [turnB]
theorem turnB_bit (l : List UInt8) (k : Nat) (c : Bool) (hk : k < 8 * l.length) (j : Nat) : bitAt (turnB l k c) j = (bitAt l j ^^ (c && decide (j = k))) := by
  unfold bitAt turnB
  by_cases h : k / 8 = j / 8
  · rw [List.getD_eq_getElem?_getD, ← h, List.getElem?_set_self (by omega)]
    simp only [Option.getD_some, UInt8.toNat_xor, Nat.testBit_xor]
    congr 1
    cases c
    · simp
    · simp only [if_true, Bool.true_and]
      rw [oneBit_nat, Nat.testBit_two_pow]
      by_cases e : j = k
      · subst e; simp
      · rw [decide_eq_false e, decide_eq_false (by omega)]
  · rw [List.getD_eq_getElem?_getD, List.getElem?_set_ne h, ← List.getD_eq_getElem?_getD, decide_eq_false (by intro e; subst e; exact h rfl)]
    simp
/-- The first i bits of the mask turned. -/
def flipTo (l : List UInt8) (p : Int) (m : Nat) : Nat → List UInt8
  | 0 => l
  | i + 1 => if 0 ≤ p + i ∧ p + i < 8 * (l.length : Int) then turnB (flipTo l p m i) (p + i).toNat (m.testBit (31 - i)) else flipTo l p m i
theorem flipTo_length (l : List UInt8) (p : Int) (m : Nat) : ∀ i, (flipTo l p m i).length = l.length
  | 0 => rfl
  | i + 1 => by
    unfold flipTo
    split
    · rw [turnB_length, flipTo_length l p m i]
    · exact flipTo_length l p m i
theorem flipTo_bit (l : List UInt8) (p : Int) (m : Nat) (j : Nat) (hj : j < 8 * l.length) : ∀ i, i ≤ 32 → bitAt (flipTo l p m i) j = (bitAt l j ^^ (decide (p ≤ j ∧ (j : Int) < p + i) && m.testBit (31 - (j - p).toNat)))
  | 0, _ => by
    rw [decide_eq_false (by omega)]; simp [flipTo]
  | i + 1, hi => by
    have ih := flipTo_bit l p m j hj i (by omega)
    unfold flipTo
    split
    · rename_i h
      rw [turnB_bit _ _ _ (by rw [flipTo_length]; omega), ih]
      by_cases e : j = (p + i).toNat
      · rw [decide_eq_false (by omega), decide_eq_true e, decide_eq_true (by omega), show 31 - ((j : Int) - p).toNat = 31 - i by omega]; simp
      · rw [decide_eq_false e]
        by_cases h1 : p ≤ j ∧ (j : Int) < p + i
        · rw [decide_eq_true h1, decide_eq_true (by omega)]; simp
        · rw [decide_eq_false h1, decide_eq_false (by omega)]; simp
    · rename_i h
      rw [ih]
      by_cases h1 : p ≤ j ∧ (j : Int) < p + i
      · rw [decide_eq_true h1, decide_eq_true (by omega)]
      · rw [decide_eq_false h1, decide_eq_false (by omega)]
def flipL (l : List UInt8) (p : Int) (m : Nat) : List UInt8 := flipTo l p m 32
theorem flipL_length (l : List UInt8) (p : Int) (m : Nat) : (flipL l p m).length = l.length := flipTo_length l p m 32
theorem flipL_twice (l : List UInt8) (p : Int) (m : Nat) : flipL (flipL l p m) p m = l := by
  apply bits_ext (by rw [flipL_length, flipL_length])
  intro j hj
  rw [flipL_length, flipL_length] at hj
  unfold flipL
  rw [flipTo_bit _ _ _ _ (by rw [flipTo_length]; exact hj) 32 (Nat.le_refl _), flipTo_bit _ _ _ _ hj 32 (Nat.le_refl _), Bool.xor_assoc, Bool.xor_self, Bool.xor_false]
/-- Texts that end alike, one the other with bits turned within 32: they are one. -/
theorem flipL_burst (l : List UInt8) (p : Int) (m : Nat) (x : BitVec 32) (h : run x (flipL l p m) = run x l) : flipL l p m = l := by
  refine burst p.toNat (flipL_length l p m) ?_ x h
  intro j hj hne
  rw [flipL_length] at hj
  unfold flipL at hne
  rw [flipTo_bit _ _ _ _ hj 32 (Nat.le_refl _)] at hne
  by_cases h1 : p ≤ j ∧ (j : Int) < p + (32 : Nat)
  · omega
  · rw [decide_eq_false h1] at hne; simp at hne
end Go.Proofs.YtdggnpecbdnkeaaDoor
