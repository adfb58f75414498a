/-
  A number's digits, plainly: what a walk over them knows.
-/
import Derived.Test.YtgilbdhoddmpbaaDoorPlainLine
set_option linter.unusedVariables false
set_option linter.unusedSimpArgs false
namespace Go.Proofs.YtgilbdhoddmpbaaDoor
open Go

theorem dd_small (d : Nat) (h : d < 10) : Lib.decDigits d = [48 + UInt8.ofNat d] := by rw [Lib.decDigits, dif_pos h]; simp
theorem dd_step (x d : Nat) (hx : 0 < x) (hd : d < 10) : Lib.decDigits (10 * x + d) = Lib.decDigits x ++ [48 + UInt8.ofNat d] := by
  rw [Lib.decDigits, dif_neg (by omega), show (10 * x + d) / 10 = x by omega, show (10 * x + d) % 10 = d by omega]; simp
theorem dd_head : ∀ n : Nat, 0 < n → (Lib.decDigits n).head? ≠ some 48 ∧ Lib.decDigits n ≠ [] := by
  intro n
  induction n using Nat.strongRecOn with
  | _ n ih =>
    intro h
    by_cases h1 : n < 10
    · rw [dd_small n h1]
      have : n = 1 ∨ n = 2 ∨ n = 3 ∨ n = 4 ∨ n = 5 ∨ n = 6 ∨ n = 7 ∨ n = 8 ∨ n = 9 := by omega
      rcases this with rfl | rfl | rfl | rfl | rfl | rfl | rfl | rfl | rfl <;> decide
    · have e : n = 10 * (n / 10) + n % 10 := by omega
      rw [e, dd_step (n / 10) (n % 10) (by omega) (by omega)]
      obtain ⟨i1, i2⟩ := ih (n / 10) (by omega) (by omega)
      cases hd : Lib.decDigits (n / 10) with
      | nil => exact absurd hd i2
      | cons a t => rw [hd] at i1; simpa using i1
/-- What is known behind j bytes. -/
structure NumAt (l : List UInt8) (j x : Nat) : Prop where
  go : numGo 0 (l.take j) = some x
  can : (j = 0 ∧ x = 0) ∨ Lib.decDigits x = l.take j
theorem NumAt.zero (l : List UInt8) : NumAt l 0 0 := ⟨by simp [numGo], .inl ⟨rfl, rfl⟩⟩
theorem take_at {l : List UInt8} {j : Nat} (h : j < l.length) : l = l.take j ++ l[j] :: l.drop (j + 1) := by simp
theorem NumAt.rest {l : List UInt8} {j x : Nat} (h : NumAt l j x) : numGo 0 l = numGo x (l.drop j) := by
  have := numGo_app (l.take j) (l.drop j) 0 x h.go
  rwa [List.take_append_drop] at this
theorem NumAt.other {l : List UInt8} {j x : Nat} (h : NumAt l j x) (hj : j < l.length) (hc : l[j].toNat < 48 ∨ 57 < l[j].toNat) : numL l = none := by
  unfold numL
  rw [h.rest, List.drop_eq_getElem_cons hj]
  unfold numGo
  rw [if_neg (by omega)]
theorem NumAt.big {l : List UInt8} {j x : Nat} (h : NumAt l j x) (hx : 1099511627776 < x) : numL l = none := by
  unfold numL
  split
  · rename_i n hn
    rw [h.rest] at hn
    have := numGo_le _ _ _ hn
    rw [if_neg (by omega)]
  · rfl
theorem NumAt.lead {l : List UInt8} {j : Nat} (h : NumAt l j 0) (h0 : 0 < j) (hj : j < l.length) : numL l = none := by
  have ht : l.take j = [48] := by
    rcases h.can with ⟨e, _⟩ | e
    · omega
    · rw [← e]; exact dd_small 0 (by omega)
  unfold numL
  split
  · rename_i n hn
    rw [if_neg]
    rintro ⟨e, _⟩
    have hl : l = 48 :: l.drop j := by
      have := List.take_append_drop j l
      rw [ht] at this; exact this.symm
    by_cases hz : n = 0
    · subst hz
      rw [dd_small 0 (by omega)] at e
      have h1 : l.length = 1 := by rw [← e]; rfl
      omega
    · exact (dd_head n (by omega)).1 (by rw [e, hl]; rfl)
  · rfl
theorem NumAt.next {l : List UInt8} {j x : Nat} (h : NumAt l j x) (hj : j < l.length) (hc : 48 ≤ l[j].toNat ∧ l[j].toNat ≤ 57) (hz : j = 0 ∨ 0 < x) : NumAt l (j + 1) (10 * x + (l[j].toNat - 48)) := by
  have ht : l.take (j + 1) = l.take j ++ [l[j]] := by rw [List.take_succ_eq_append_getElem hj]
  have hb : (48 + UInt8.ofNat (l[j].toNat - 48) : UInt8) = l[j] := by
    apply UInt8.toNat_inj.1
    rw [UInt8.toNat_add]
    simp; omega
  refine ⟨by rw [ht, numGo_snoc _ _ _ _ h.go, if_pos hc], .inr ?_⟩
  rw [ht]
  by_cases hx : 0 < x
  · rcases h.can with ⟨_, e⟩ | e
    · omega
    · rw [dd_step x _ hx (by omega), e, hb]
  · have hx0 : x = 0 := by omega
    have hj0 : j = 0 := by omega
    subst hx0 hj0
    rw [show 10 * 0 + (l[0].toNat - 48) = l[0].toNat - 48 by omega, dd_small _ (by omega), hb]; rfl
theorem NumAt.done {l : List UInt8} {x : Nat} (h : NumAt l l.length x) : numL l = if l ≠ [] ∧ x ≤ 1099511627776 then some x else none := by
  have hg := h.go
  rw [List.take_length] at hg
  unfold numL
  rw [hg]
  simp only
  by_cases hl : l = []
  · subst hl
    rw [if_neg, if_neg (by simp)]
    rintro ⟨e, _⟩
    have hx : x = 0 := by simpa [numGo] using hg.symm
    subst hx
    rw [dd_small 0 (by omega)] at e; simp at e
  · rcases h.can with ⟨e, _⟩ | e
    · exact absurd (List.eq_nil_of_length_eq_zero e) hl
    · rw [List.take_length] at e
      by_cases hx : x ≤ 1099511627776
      · rw [if_pos ⟨e, hx⟩, if_pos ⟨hl, hx⟩]
      · rw [if_neg (fun k => hx k.2), if_neg (fun k => hx k.2)]
end Go.Proofs.YtgilbdhoddmpbaaDoor
