/-
  Plain laws: hexadecimal digits read back.
-/
import Derived.Test.YtgilbdhoddmpbaaDoorPlainHex
import Derived.Lib.Strings
import Derived.Lib.Bytealg
set_option linter.unusedVariables false
set_option linter.unusedSimpArgs false
namespace Go.Proofs.YtgilbdhoddmpbaaDoor
open Go

def digVal (c : UInt8) : Int := if 48 ≤ c.toNat ∧ c.toNat ≤ 57 then (c.toNat : Int) - 48 else if 97 ≤ c.toNat ∧ c.toNat ≤ 102 then (c.toNat : Int) - 87 else -1
theorem digVal_lt (c : UInt8) : digVal c < 16 := by unfold digVal; split <;> (try split) <;> omega
theorem digVal_ge (c : UInt8) : -1 ≤ digVal c := by unfold digVal; split <;> (try split) <;> omega
def unBody : List UInt8 → Option (List UInt8)
  | [] => some []
  | [_] => none
  | a :: b :: t => if digVal a < 0 ∨ digVal b < 0 then none else (unBody t).map fun r => UInt8.ofNat ((digVal a).toNat * 16 + (digVal b).toNat) :: r
def unhexOf (l : List UInt8) : Option (List UInt8) := if l = [45] then some [] else if l = [] ∨ l.length % 2 ≠ 0 then none else unBody l

theorem indexByte_all : ∀ c : Fin 256, Lib.indexByte [48, 49, 50, 51, 52, 53, 54, 55, 56, 57, 97, 98, 99, 100, 101, 102] (UInt8.ofNat c.val) = digVal (UInt8.ofNat c.val) := by decide +kernel
theorem indexByte_dig (c : UInt8) : Lib.indexByte [48, 49, 50, 51, 52, 53, 54, 55, 56, 57, 97, 98, 99, 100, 101, 102] c = digVal c := by
  have h := indexByte_all ⟨c.toNat, c.toNat_lt⟩
  simpa using h
theorem digVal_hexDigit : ∀ d : Fin 16, digVal (hexDigit d.val) = d.val := by decide +kernel
theorem digVal_hex (d : Nat) (h : d < 16) : digVal (hexDigit d) = d := digVal_hexDigit ⟨d, h⟩
theorem hexDigit_digVal_all : ∀ c : Fin 256, 0 ≤ digVal (UInt8.ofNat c.val) → hexDigit (digVal (UInt8.ofNat c.val)).toNat = UInt8.ofNat c.val := by decide +kernel
theorem hexDigit_digVal (c : UInt8) (h : 0 ≤ digVal c) : hexDigit (digVal c).toNat = c := by
  have := hexDigit_digVal_all ⟨c.toNat, c.toNat_lt⟩
  simp at this
  exact this h

theorem unBody_hex (l : List UInt8) : unBody (hexBody l) = some l := by
  induction l with
  | nil => rfl
  | cons c t ih =>
    have hc := c.toNat_lt
    simp only [hexBody, unBody]
    rw [digVal_hex _ (by omega), digVal_hex _ (by omega), if_neg (by omega), ih]
    rw [Int.toNat_natCast, Int.toNat_natCast, Option.map_some, Nat.div_add_mod', UInt8.ofNat_toNat]
theorem hexBody_un : ∀ (l r : List UInt8), unBody l = some r → hexBody r = l
  | [], r, h => by simp [unBody] at h; subst h; rfl
  | [_], r, h => by simp [unBody] at h
  | a :: b :: t, r, h => by
    simp only [unBody] at h
    split at h
    · cases h
    · rename_i hn
      obtain ⟨r', hr', rfl⟩ := Option.map_eq_some_iff.1 h
      have ih := hexBody_un t r' hr'
      have h1 := digVal_lt a
      have h2 := digVal_lt b
      have e : (UInt8.ofNat ((digVal a).toNat * 16 + (digVal b).toNat)).toNat = (digVal a).toNat * 16 + (digVal b).toNat := by
        rw [UInt8.toNat_ofNat']; exact Nat.mod_eq_of_lt (by omega)
      simp only [hexBody, e, ih]
      rw [show ((digVal a).toNat * 16 + (digVal b).toNat) / 16 = (digVal a).toNat by omega, show ((digVal a).toNat * 16 + (digVal b).toNat) % 16 = (digVal b).toNat by omega, hexDigit_digVal a (by omega), hexDigit_digVal b (by omega)]
theorem unhex_hex (l : List UInt8) : unhexOf (hexOf l) = some l := by
  unfold hexOf unhexOf
  by_cases h : l = []
  · subst h; rfl
  · rw [if_neg h]
    have hl := hexBody_length l
    have hp : 0 < l.length := List.length_pos_iff.2 h
    rw [if_neg (by intro e; rw [e] at hl; simp at hl; omega), if_neg (by
      rintro (e | e)
      · rw [e] at hl; simp at hl; omega
      · omega)]
    exact unBody_hex l
theorem hex_unhex (l r : List UInt8) (h : unhexOf l = some r) : hexOf r = l := by
  unfold unhexOf at h
  split at h
  · rename_i e; cases h; subst e; rfl
  · split at h
    · cases h
    · rename_i h1 h2
      have := hexBody_un l r h
      unfold hexOf
      rw [if_neg]
      · exact this
      · intro e; subst e; exact h2 (Or.inl this.symm)

/-- Are these bytes, as they are written? -/
def isDig (c : UInt8) : Bool := !((c.toNat < 48 || 57 < c.toNat) && (c.toNat < 97 || 102 < c.toNat))
def writtenOf (l : List UInt8) : Bool := if l = [45] then true else l.all isDig && (l ≠ [] && l.length % 2 == 0)
theorem isDig_iff (c : UInt8) : isDig c = true ↔ 0 ≤ digVal c := by
  unfold isDig digVal
  simp only [Bool.not_eq_true', Bool.and_eq_false_iff, Bool.or_eq_false_iff, decide_eq_false_iff_not]
  split
  · omega
  · split <;> omega
theorem unBody_all : ∀ (l : List UInt8), l.length % 2 = 0 → l.all isDig = true → (unBody l).isSome = true
  | [], _, _ => rfl
  | [_], h, _ => by simp at h
  | a :: b :: t, h, hd => by
    simp only [List.all_cons, Bool.and_eq_true] at hd
    simp only [List.length_cons] at h
    have ih := unBody_all t (by omega) hd.2.2
    have ha := (isDig_iff a).1 hd.1
    have hb := (isDig_iff b).1 hd.2.1
    simp only [unBody]
    rw [if_neg (by omega)]
    simpa using ih
theorem written_none (l : List UInt8) (h : unhexOf l = none) : writtenOf l = false := by
  unfold unhexOf at h
  unfold writtenOf
  split at h
  · cases h
  · rename_i h1
    rw [if_neg h1]
    split at h
    · rename_i h2
      rcases h2 with rfl | h2
      · rfl
      · simp [h2]
    · rename_i h2
      cases hall : l.all isDig with
      | false => rfl
      | true =>
        have := unBody_all l (by simp only [not_or] at h2; omega) hall
        rw [h] at this; cases this
end Go.Proofs.YtgilbdhoddmpbaaDoor
