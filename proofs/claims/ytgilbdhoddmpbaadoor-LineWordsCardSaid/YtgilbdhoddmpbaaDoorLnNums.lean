/-
  A step that was read has few numbers; plainly.
-/
import Derived.Test.YtgilbdhoddmpbaaDoorPlainScan
import Derived.Test.YtgilbdhoddmpbaaDoorLnTake
set_option linter.unusedVariables false
set_option linter.unusedSimpArgs false
namespace Go.Proofs.YtgilbdhoddmpbaaDoor
open Go

/-- A list that has been parsed has no long lists of numbers. -/
theorem fields_nums : ∀ (need : List UInt8) (ws : List (List UInt8)) (x y : Stp), fieldsL need ws x = some y → y.nums.length ≤ x.nums.length + need.length
  | [], _, x, y, h => by simp [fieldsL] at h; subst h; simp
  | c :: t, [], x, y, h => by simp [fieldsL] at h
  | c :: t, w :: ws, x, y, h => by
    unfold fieldsL at h
    split at h
    · cases h
    · rename_i z hz
      have h1 := fields_nums t ws z y h
      have h2 := take_len hz
      simp; omega
theorem step_nums {s : List UInt8} {x : Stp} (h : stepL s = some x) : x.nums.length ≤ 6 := by
  unfold stepL stepW at h
  split at h
  · cases h
  · rename_i need hn
    split at h
    · have h1 := fields_nums _ _ _ _ h
      have h2 : need.length ≤ 6 := (need_good _ (need_mem hn)).2.2.1
      simp at h1; omega
    · cases h
theorem scan_nums : ∀ (ls : List (List UInt8)) (n : Nat) (out xs : List Stp) (k : Nat) (ok : Bool), scanL n out ls = (xs, k, ok) → (∀ x ∈ out, x.nums.length ≤ 6) → ∀ x ∈ xs, x.nums.length ≤ 6
  | [], n, out, xs, k, ok, h, ho => by simp only [scanL, Prod.mk.injEq] at h; rw [← h.1]; exact ho
  | l :: t, n, out, xs, k, ok, h, ho => by
    rw [scan_cons] at h
    by_cases hs : skipL l = true
    · rw [if_pos hs] at h; exact scan_nums t _ _ _ _ _ h ho
    · rw [if_neg hs] at h
      cases hx : stepL l with
      | none => rw [hx] at h; simp only [Prod.mk.injEq] at h; rw [← h.1]; intro x hx; cases hx
      | some y =>
        rw [hx] at h
        simp only at h
        by_cases hl : out.length = 400
        · rw [if_pos hl] at h; simp only [Prod.mk.injEq] at h; rw [← h.1]; intro x hx; cases hx
        · rw [if_neg hl] at h
          refine scan_nums t _ _ _ _ _ h (fun x hm => ?_)
          rcases List.mem_append.1 hm with h1 | h1
          · exact ho x h1
          · rw [List.mem_singleton.1 h1]; exact step_nums hx
theorem parse_nums {s : List UInt8} {xs : List Stp} {k : Nat} {ok : Bool} (h : parseL s = (xs, k, ok)) : ∀ x ∈ xs, x.nums.length ≤ 6 := scan_nums _ _ _ _ _ _ h (fun x hx => by cases hx)
end Go.Proofs.YtgilbdhoddmpbaaDoor
