/-
  Plain laws: numerals and signals' texts are unlike where what they tell is.
-/
import Derived.Test.YtfjnpneopaljjaaDoorPlainText
import Derived.Test.YtfjnpneopaljjaaDoorPlainUnhex
import Derived.Test.YtfjnpneopaljjaaDoorBare
set_option linter.unusedVariables false
set_option linter.unusedSimpArgs false
namespace Go.Proofs.YtfjnpneopaljjaaDoor
open Go

def decVal (l : List UInt8) : Nat := l.foldl (fun v c => v * 10 + (c.toNat - 48)) 0
theorem decVal_snoc (l : List UInt8) (c : UInt8) : decVal (l ++ [c]) = decVal l * 10 + (c.toNat - 48) := by simp [decVal]
theorem decVal_digits (u : Nat) : decVal (Lib.decDigits u) = u := by
  induction u using Nat.strongRecOn with
  | _ u ih =>
    rw [Lib.decDigits]
    by_cases h : u < 10
    · rw [dif_pos h]
      have : (UInt8.ofNat (48 + u)).toNat = 48 + u := by rw [UInt8.toNat_ofNat']; exact Nat.mod_eq_of_lt (by omega)
      show 0 * 10 + ((UInt8.ofNat (48 + u)).toNat - 48) = u
      omega
    · rw [dif_neg h, decVal_snoc, ih (u / 10) (by omega)]
      have : (UInt8.ofNat (48 + u % 10)).toNat = 48 + u % 10 := by rw [UInt8.toNat_ofNat']; exact Nat.mod_eq_of_lt (by omega)
      omega
theorem decDigits_head (u : Nat) : ∃ c t, Lib.decDigits u = c :: t ∧ 48 ≤ c.toNat ∧ c.toNat ≤ 57 := by
  induction u using Nat.strongRecOn with
  | _ u ih =>
    rw [Lib.decDigits]
    by_cases h : u < 10
    · rw [dif_pos h]
      have : (UInt8.ofNat (48 + u)).toNat = 48 + u := by rw [UInt8.toNat_ofNat']; exact Nat.mod_eq_of_lt (by omega)
      exact ⟨_, [], rfl, by omega, by omega⟩
    · rw [dif_neg h]
      obtain ⟨c, t, e, h1, h2⟩ := ih (u / 10) (by omega)
      exact ⟨c, t ++ [UInt8.ofNat (48 + u % 10)], by rw [e]; rfl, h1, h2⟩
theorem itoa_inj {a b : Int} (h : Lib.itoa a = Lib.itoa b) : a = b := by
  unfold Lib.itoa at h
  by_cases ha : a < 0 <;> by_cases hb : b < 0
  · rw [if_pos ha, if_pos hb] at h
    have := congrArg decVal (List.cons.inj h).2
    rw [decVal_digits, decVal_digits] at this
    omega
  · rw [if_pos ha, if_neg hb] at h
    obtain ⟨c, t, e, h1, h2⟩ := decDigits_head b.toNat
    rw [e] at h
    have := (List.cons.inj h).1
    rw [← this] at h1
    exact absurd h1 (by decide)
  · rw [if_neg ha, if_pos hb] at h
    obtain ⟨c, t, e, h1, h2⟩ := decDigits_head a.toNat
    rw [e] at h
    have := (List.cons.inj h).1
    rw [this] at h1
    exact absurd h1 (by decide)
  · rw [if_neg ha, if_neg hb] at h
    have := congrArg decVal h
    rw [decVal_digits, decVal_digits] at this
    omega

theorem hexOf_inj {a b : List UInt8} (h : hexOf a = hexOf b) : a = b := by
  have := unhex_hex a
  rw [h, unhex_hex] at this
  exact (Option.some.inj this).symm

def firstWord (l : List UInt8) : List UInt8 := l.takeWhile (· != 32)
theorem firstWord_app (a b : List UInt8) (h : a.all (· != 32) = true) : firstWord (a ++ 32 :: b) = a := by
  unfold firstWord
  rw [List.takeWhile_append_of_pos (by simpa using h)]
  simp
theorem firstWord_self (a : List UInt8) (h : a.all (· != 32) = true) : firstWord a = a := by
  unfold firstWord
  have := List.takeWhile_append_of_pos (l₂ := []) (p := (· != 32)) (l₁ := a) (by simpa using h)
  simpa using this
theorem word_plain : ∀ q : Fin 12, (sigWord (1 + (q.val : Int))).all (· != 32) = true := by decide +kernel
theorem word_inj : ∀ p q : Fin 12, sigWord (1 + (p.val : Int)) = sigWord (1 + (q.val : Int)) → p = q := by decide +kernel

/-- What comes behind the word. -/
def sigRest (q : Nat) (d : List UInt8) (f : Bool) (c : Nat) (n : Int) : List UInt8 :=
  if q = 2 then (if f then [32, 115, 101, 108, 102, 32] else [32, 117, 115, 101, 114, 32]) ++ hexOf d else
  if q = 0 ∨ q = 4 ∨ (7 ≤ q ∧ q ≤ 10) then [32] ++ hexOf d else
  if q = 11 then [32, c.toUInt8] ++ (if c = 86 then [32] ++ Lib.itoa n else []) else []
theorem sigText_split (q : Nat) (hq : q < 12) (d : List UInt8) (f : Bool) (c : Nat) (n : Int) : sigText (1 + (q : Int)) d f c n = sigWord (1 + (q : Int)) ++ sigRest q d f c n := by
  have h : q = 0 ∨ q = 1 ∨ q = 2 ∨ q = 3 ∨ q = 4 ∨ q = 5 ∨ q = 6 ∨ q = 7 ∨ q = 8 ∨ q = 9 ∨ q = 10 ∨ q = 11 := by omega
  rcases h with rfl | rfl | rfl | rfl | rfl | rfl | rfl | rfl | rfl | rfl | rfl | rfl <;> simp [sigText, sigRest]
theorem sigText_first (q : Nat) (hq : q < 12) (d : List UInt8) (f : Bool) (c : Nat) (n : Int) : firstWord (sigText (1 + (q : Int)) d f c n) = sigWord (1 + (q : Int)) := by
  have hw := word_plain ⟨q, hq⟩
  rw [sigText_split q hq]
  unfold sigRest
  split
  · cases f <;> exact firstWord_app _ _ hw
  · split
    · exact firstWord_app _ _ hw
    · split
      · exact firstWord_app _ _ hw
      · rw [List.append_nil]; exact firstWord_self _ hw

theorem toUInt8_inj {a b : Nat} (ha : a < 256) (hb : b < 256) (h : a.toUInt8 = b.toUInt8) : a = b := by
  have : (UInt8.ofNat a).toNat = (UInt8.ofNat b).toNat := congrArg UInt8.toNat h
  rw [UInt8.toNat_ofNat', UInt8.toNat_ofNat'] at this
  omega
theorem sig_inj {p q : Nat} (hp : p < 12) (hq : q < 12) {d1 d2 : List UInt8} {f1 f2 : Bool} {c1 c2 n1 n2 : Int} (hc1 : 0 ≤ c1 ∧ c1 ≤ 255) (hc2 : 0 ≤ c2 ∧ c2 ≤ 255)
    (h : sigText (1 + (p : Int)) (bareData p d1) (bareSelf p f1) (bareCode p c1).toNat (bareNum p c1 n1) = sigText (1 + (q : Int)) (bareData q d2) (bareSelf q f2) (bareCode q c2).toNat (bareNum q c2 n2)) :
    p = q ∧ bareData p d1 = bareData q d2 ∧ bareSelf p f1 = bareSelf q f2 ∧ bareCode p c1 = bareCode q c2 ∧ bareNum p c1 n1 = bareNum q c2 n2 := by
  have h1 := congrArg firstWord h
  rw [sigText_first p hp, sigText_first q hq] at h1
  have e := word_inj ⟨p, hp⟩ ⟨q, hq⟩ h1
  obtain rfl : p = q := congrArg Fin.val e
  rw [sigText_split p hp, sigText_split p hp] at h
  have h2 := List.append_cancel_left h
  clear h h1 e
  refine ⟨rfl, ?_⟩
  have hh : p = 0 ∨ p = 1 ∨ p = 2 ∨ p = 3 ∨ p = 4 ∨ p = 5 ∨ p = 6 ∨ p = 7 ∨ p = 8 ∨ p = 9 ∨ p = 10 ∨ p = 11 := by omega
  rcases hh with rfl | rfl | rfl | rfl | rfl | rfl | rfl | rfl | rfl | rfl | rfl | rfl
  · simp [sigRest] at h2; exact ⟨hexOf_inj h2, rfl, rfl, rfl⟩
  · exact ⟨rfl, rfl, rfl, rfl⟩
  · have hf : bareSelf (2 : Nat) f1 = bareSelf (2 : Nat) f2 ∧ bareData (2 : Nat) d1 = bareData (2 : Nat) d2 := by
      simp only [sigRest, if_pos] at h2
      cases hf1 : bareSelf (2 : Nat) f1 <;> cases hf2 : bareSelf (2 : Nat) f2 <;> rw [hf1, hf2] at h2 <;> simp at h2
      · exact ⟨rfl, hexOf_inj h2⟩
      · exact ⟨rfl, hexOf_inj h2⟩
    exact ⟨hf.2, hf.1, rfl, rfl⟩
  · exact ⟨rfl, rfl, rfl, rfl⟩
  · simp [sigRest] at h2; exact ⟨hexOf_inj h2, rfl, rfl, rfl⟩
  · exact ⟨rfl, rfl, rfl, rfl⟩
  · exact ⟨rfl, rfl, rfl, rfl⟩
  · simp [sigRest] at h2; exact ⟨hexOf_inj h2, rfl, rfl, rfl⟩
  · simp [sigRest] at h2; exact ⟨hexOf_inj h2, rfl, rfl, rfl⟩
  · simp [sigRest] at h2; exact ⟨hexOf_inj h2, rfl, rfl, rfl⟩
  · simp [sigRest] at h2; exact ⟨hexOf_inj h2, rfl, rfl, rfl⟩
  · have e1 : bareCode (11 : Nat) c1 = c1 := by simp [bareCode]
    have e2 : bareCode (11 : Nat) c2 = c2 := by simp [bareCode]
    rw [e1, e2] at h2
    simp only [sigRest, List.cons_append, List.cons.injEq, List.nil_append] at h2
    simp at h2
    have hc : c1.toNat = c2.toNat := toUInt8_inj (by omega) (by omega) h2.1
    have hcc : c1 = c2 := by omega
    subst hcc
    refine ⟨rfl, rfl, rfl, ?_⟩
    by_cases hv : c1 = 86
    · subst hv
      have h3 := h2.2
      simp [bareNum] at h3
      simp [bareNum]
      exact itoa_inj h3
    · simp [bareNum, hv]
end Go.Proofs.YtfjnpneopaljjaaDoor
