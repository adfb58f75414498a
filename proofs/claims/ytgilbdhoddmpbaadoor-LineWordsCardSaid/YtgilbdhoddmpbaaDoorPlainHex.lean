/-
  Plain laws: bytes written in hexadecimal.
-/
import Derived.Lib.UnsafeStr
import Derived.Lib.Strings
set_option linter.unusedVariables false
set_option linter.unusedSimpArgs false
namespace Go.Proofs.YtgilbdhoddmpbaaDoor
open Go

def hexDigit (d : Nat) : UInt8 := if d < 10 then UInt8.ofNat (48 + d) else UInt8.ofNat (87 + d)
def hexBody : List UInt8 → List UInt8
  | [] => []
  | c :: t => hexDigit (c.toNat / 16) :: hexDigit (c.toNat % 16) :: hexBody t
def hexOf (l : List UInt8) : List UInt8 := if l = [] then [45] else hexBody l

theorem hexDigit_lo (d : Nat) (h : d < 10) : hexDigit d = 48 + UInt8.ofNat d := by unfold hexDigit; rw [if_pos h]; simp
theorem hexDigit_hi (d : Nat) (h : 10 ≤ d) : hexDigit d = 87 + UInt8.ofNat d := by unfold hexDigit; rw [if_neg (by omega)]; simp
theorem hexBody_append (a b : List UInt8) : hexBody (a ++ b) = hexBody a ++ hexBody b := by
  induction a with
  | nil => rfl
  | cons c t ih => simp [hexBody, ih]
theorem hexBody_length (a : List UInt8) : (hexBody a).length = 2 * a.length := by
  induction a with
  | nil => rfl
  | cons c t ih => simp [hexBody, ih]; omega
theorem take_snoc (s : ByteArray) (k : Nat) (h : k < s.size) : s.data.toList.take (k + 1) = s.data.toList.take k ++ [s[k]] := by
  rw [List.take_succ_eq_append_getElem (by simpa using h)]; rfl
theorem hexOf_length (a : List UInt8) : (hexOf a).length ≤ 2 * a.length + 1 := by
  unfold hexOf; split
  · simp
  · rw [hexBody_length]; omega
theorem hexBody_take (s : ByteArray) (k : Nat) (h : k < s.size) : hexBody (s.data.toList.take (k + 1)) = hexBody (s.data.toList.take k) ++ [hexDigit (s[k].toNat / 16)] ++ [hexDigit (s[k].toNat % 16)] := by
  rw [take_snoc s k h, hexBody_append]; simp [hexBody]
theorem digits_at : ∀ d : Fin 16, ((⟨#[48, 49, 50, 51, 52, 53, 54, 55, 56, 57, 97, 98, 99, 100, 101, 102]⟩ : ByteArray)[d.val]'(d.isLt)) = hexDigit d.val := by decide
theorem digits_lt (d : Nat) (h : d < 16) (h' : d < (⟨#[48, 49, 50, 51, 52, 53, 54, 55, 56, 57, 97, 98, 99, 100, 101, 102]⟩ : ByteArray).size) : ((⟨#[48, 49, 50, 51, 52, 53, 54, 55, 56, 57, 97, 98, 99, 100, 101, 102]⟩ : ByteArray)[d]'h') = hexDigit d := digits_at ⟨d, h⟩
end Go.Proofs.YtgilbdhoddmpbaaDoor
