/-
  Which bytes are a frame's: as the document reads them, and as the program does; plainly.
-/
import Derived.Test.YtdggnpecbdnkeaaDoorPlainFrame
set_option linter.unusedVariables false
set_option linter.unusedSimpArgs false
namespace Go.Proofs.YtdggnpecbdnkeaaDoor

theorem drop_nil : ∀ l : List UInt8, l.dropWhile (· == 0) = [] → ∀ x ∈ l, x = 0
  | [], _, x, h => by cases h
  | a :: l, h, x, hx => by
    by_cases ha : a = 0
    · subst ha
      rw [List.dropWhile_cons] at h
      simp only [beq_self_eq_true, if_true] at h
      rcases List.mem_cons.1 hx with e | e
      · exact e
      · exact drop_nil l h x e
    · rw [List.dropWhile_cons, if_neg (by simpa using ha)] at h
      cases h
theorem drop_mem : ∀ (l : List UInt8) (x : UInt8), x ∈ l → x ≠ 0 → x ∈ l.dropWhile (· == 0)
  | a :: l, x, hx, h0 => by
    rw [List.dropWhile_cons]
    split
    · rename_i ha
      rcases List.mem_cons.1 hx with e | e
      · subst e; exact absurd (by simpa using ha) h0
      · exact drop_mem l x e h0
    · exact hx
theorem trim_nil (l : List UInt8) (h : Lib.trimB l 0 = []) : l = List.replicate l.length 0 := by
  apply List.eq_replicate_iff.2
  refine ⟨rfl, fun x hx => ?_⟩
  rcases Decidable.em (x = 0) with h0 | h0
  · exact h0
  · exfalso
    unfold Lib.trimB Lib.trimLeftB Lib.trimRightB at h
    have h1 := drop_mem l.reverse x (by simpa using hx) h0
    have h2 := drop_nil _ h x (by simpa using h1)
    exact h0 h2
/-- What the document reads, as its steps go. -/
def rfParse (l : List UInt8) : UInt8 × List UInt8 × Int :=
  if l.length = 0 ∨ l.length % 48 ≠ 0 then (0, [], 5) else if fitsB l = false then (0, [], 4)
  else if l.length - 8 < (l.getD (l.length - 6) 0).toNat * 256 + (l.getD (l.length - 5) 0).toNat ∨ 48 ≤ l.length - 8 - ((l.getD (l.length - 6) 0).toNat * 256 + (l.getD (l.length - 5) 0).toNat) then (0, [], 5)
  else if frameOf (l.getD (l.length - 8) 0) (l.take ((l.getD (l.length - 6) 0).toNat * 256 + (l.getD (l.length - 5) 0).toNat)) ≠ l then (0, [], 3)
  else (l.getD (l.length - 8) 0, l.take ((l.getD (l.length - 6) 0).toNat * 256 + (l.getD (l.length - 5) 0).toNat), 0)
theorem four_of (l : List UInt8) (a : Nat) (h : a + 4 ≤ l.length) : (l.take (a + 4)).drop a = [l.getD a 0, l.getD (a + 1) 0, l.getD (a + 2) 0, l.getD (a + 3) 0] := by
  apply List.ext_getElem
  · simp; omega
  · intro i h1 h2
    have hi : i < 4 := by simpa using h2
    rw [List.getElem_drop, List.getElem_take]
    have hg : ∀ j (hj : j < l.length), l.getD j 0 = l[j] := fun j hj => by rw [List.getD_eq_getElem?_getD, List.getElem?_eq_getElem hj]; rfl
    rw [hg a (by omega), hg (a + 1) (by omega), hg (a + 2) (by omega), hg (a + 3) (by omega)]
    have : i = 0 ∨ i = 1 ∨ i = 2 ∨ i = 3 := by omega
    rcases this with rfl | rfl | rfl | rfl <;> rfl
theorem rfParse_eq (l : List UInt8) : rfParse l = frParse l := by
  unfold rfParse frParse
  by_cases h0 : l.length = 0 ∨ l.length % 48 ≠ 0
  · rw [if_pos h0, if_pos h0]
  · rw [if_neg h0, if_neg h0]
    cases hf : fitsB l with
    | false => rw [if_pos rfl, if_pos rfl]
    | true =>
      rw [if_neg (show ¬ (true = false) by simp), if_neg (show ¬ (true = false) by simp)]
      have hge : 48 ≤ l.length := by omega
      rw [show l.length - 6 = l.length - 8 + 2 by omega, show l.length - 5 = l.length - 8 + 3 by omega]
      generalize hn : (l.getD (l.length - 8 + 2) 0).toNat * 256 + (l.getD (l.length - 8 + 3) 0).toNat = n
      have hlo := UInt8.toNat_lt (l.getD (l.length - 8 + 3) 0)
      have hhi := UInt8.toNat_lt (l.getD (l.length - 8 + 2) 0)
      have hc : cellsOf (n : Int) = (((n + 7) / 48 + 1 : Nat) : Int) := by unfold cellsOf; rw [if_neg (by omega)]; omega
      rw [hc]
      by_cases h1 : l.length - 8 < n ∨ 48 ≤ l.length - 8 - n
      · rw [if_pos h1, if_pos (by omega)]
      · rw [if_neg h1, if_neg (show ¬ ((((n + 7) / 48 + 1 : Nat) : Int) * 48 ≠ (l.length : Int)) by omega)]
        have hpad : frPad n = l.length - 8 - n := by unfold frPad; omega
        have hd : (l.take n).length = n := by rw [List.length_take]; omega
        have hsplit : l.take (l.length - 4) = l.take n ++ (l.take (l.length - 8)).drop n ++ [l.getD (l.length - 8) 0, l.getD (l.length - 8 + 1) 0, l.getD (l.length - 8 + 2) 0, l.getD (l.length - 8 + 3) 0] := by
          rw [← four_of l (l.length - 8) (by omega), show l.length - 8 + 4 = l.length - 4 by omega]
          have e1 : l.take n ++ (l.take (l.length - 8)).drop n = l.take (l.length - 8) := by
            have := List.take_append_drop n (l.take (l.length - 8))
            rw [List.take_take, Nat.min_eq_left (by omega)] at this
            exact this
          rw [e1]
          have := List.take_append_drop (l.length - 8) (l.take (l.length - 4))
          rw [List.take_take, Nat.min_eq_left (by omega)] at this
          exact this.symm
        have hb : frBody (l.getD (l.length - 8) 0) (l.take n) = l.take n ++ List.replicate (l.length - 8 - n) 0 ++ [l.getD (l.length - 8) 0, 0, l.getD (l.length - 8 + 2) 0, l.getD (l.length - 8 + 3) 0] := by
          unfold frBody
          rw [hd, repeat_rep', hpad]
          have e2 : (n / 256).toUInt8 = l.getD (l.length - 8 + 2) 0 := by
            apply UInt8.toNat_inj.1
            simp only [Nat.toUInt8, UInt8.toNat_ofNat']
            omega
          have e3 : n.toUInt8 = l.getD (l.length - 8 + 3) 0 := by
            apply UInt8.toNat_inj.1
            simp only [Nat.toUInt8, UInt8.toNat_ofNat']
            omega
          rw [e2, e3]
        have hseal : l = sealOf (l.take (l.length - 4)) := by
          unfold fitsB at hf
          rw [Bool.and_eq_true, decide_eq_true_eq, decide_eq_true_eq] at hf
          unfold sealOf
          rw [hf.2, List.take_append_drop]
        have hml : ((l.take (l.length - 8)).drop n).length = l.length - 8 - n := by rw [List.length_drop, List.length_take]; omega
        have hiff : frameOf (l.getD (l.length - 8) 0) (l.take n) ≠ l ↔ (l.getD (l.length - 8 + 1) 0 ≠ 0 ∨ Lib.trimB ((l.take (l.length - 8)).drop n) 0 ≠ []) := by
          constructor
          · intro h
            by_cases g1 : l.getD (l.length - 8 + 1) 0 = 0
            · by_cases g2 : Lib.trimB ((l.take (l.length - 8)).drop n) 0 = []
              · exfalso
                apply h
                have g3 := trim_nil _ g2
                rw [hml] at g3
                unfold frameOf
                rw [hb]
                conv => rhs; rw [hseal, hsplit, g3, g1]
              · exact .inr g2
            · exact .inl g1
          · intro h he
            have hbt : frBody (l.getD (l.length - 8) 0) (l.take n) = l.take (l.length - 4) := by
              have e : (frameOf (l.getD (l.length - 8) 0) (l.take n)).take (l.length - 4) = frBody (l.getD (l.length - 8) 0) (l.take n) := by
                unfold frameOf sealOf
                rw [List.take_left' (by rw [frBody_length, hd, hpad]; omega)]
              rw [← e, he]
            rw [hb, hsplit] at hbt
            have h2 := List.append_inj hbt (by simp only [List.length_append, List.length_replicate, hml])
            have h3 := List.append_inj_right h2.1 rfl
            have h4 := h2.2
            simp only [List.cons.injEq, and_true, true_and] at h4
            rcases h with h | h
            · exact h h4.symm
            · apply h; rw [← h3]; exact trim_zeros _
        by_cases h5 : l.getD (l.length - 8 + 1) 0 ≠ 0 ∨ Lib.trimB ((l.take (l.length - 8)).drop n) 0 ≠ []
        · rw [if_pos (hiff.2 h5), if_pos h5]
        · rw [if_neg (fun h => h5 (hiff.1 h)), if_neg h5]
end Go.Proofs.YtdggnpecbdnkeaaDoor
