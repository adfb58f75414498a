/-
  Contract of slices.Reverse at rows of seq.Num.
-/
import Derived.Test.YtdggnpecbdnkeaaDoorPduV
import Derived.Test.YtdggnpecbdnkeaaDoorBox
import Derived.Maps.AppendAt
import Derived.OwnWalk
import Derived.RangeFuncBox
import Derived.BigRegion
import Derived.RegionTactic
import Derived.Laws.AppendOwn
set_option linter.unusedVariables false
set_option linter.unusedSimpArgs false
namespace Go.Proofs.YtdggnpecbdnkeaaDoor
open Go.RowKit

/-- The first i and the last i exchanged. -/
def swapN (i : Nat) (xs : List Int) : List Int := (List.range xs.length).map fun m => if m < i ∨ xs.length - i ≤ m then xs.getD (xs.length - 1 - m) 0 else xs.getD m 0
theorem swapN_length (i : Nat) (xs : List Int) : (swapN i xs).length = xs.length := by simp [swapN]
theorem swapN_get (i : Nat) (xs : List Int) (m : Nat) (h : m < xs.length) : (swapN i xs)[m]? = some (if m < i ∨ xs.length - i ≤ m then xs.getD (xs.length - 1 - m) 0 else xs.getD m 0) := by
  simp [swapN, h]
theorem swapN_zero (xs : List Int) : swapN 0 xs = xs := by
  apply List.ext_getElem?
  intro m
  by_cases h : m < xs.length
  · rw [swapN_get 0 xs m h, if_neg (by omega)]; simp [h]
  · rw [List.getElem?_eq_none (by rw [swapN_length]; omega), List.getElem?_eq_none (by omega)]
theorem swapN_end (i : Nat) (xs : List Int) (h : xs.length ≤ 2 * i + 1) : swapN i xs = xs.reverse := by
  apply List.ext_getElem?
  intro m
  by_cases hm : m < xs.length
  · rw [swapN_get i xs m hm, List.getElem?_reverse hm]
    by_cases hc : m < i ∨ xs.length - i ≤ m
    · rw [if_pos hc, List.getD_eq_getElem?_getD, List.getElem?_eq_getElem (show xs.length - 1 - m < xs.length by omega)]; rfl
    · rw [if_neg hc, List.getD_eq_getElem?_getD, show xs.length - 1 - m = m by omega, List.getElem?_eq_getElem hm]; rfl
  · rw [List.getElem?_eq_none (by rw [swapN_length]; omega), List.getElem?_eq_none (by simp; omega)]
theorem swapN_step (i : Nat) (xs : List Int) (rest : List Value) (h : i < xs.length - 1 - i) :
    (((swapN i xs).map (Value.int .u32) ++ rest).set i (.int .u32 (xs.getD (xs.length - 1 - i) 0))).set (xs.length - 1 - i) (.int .u32 (xs.getD i 0)) = (swapN (i + 1) xs).map (Value.int .u32) ++ rest := by
  apply List.ext_getElem?
  intro m
  have hl : ((swapN i xs).map (Value.int .u32)).length = xs.length := by simp [swapN_length]
  have hl' : ((swapN (i + 1) xs).map (Value.int .u32)).length = xs.length := by simp [swapN_length]
  by_cases hm : m < xs.length
  · rw [List.getElem?_append_left (by rw [hl']; exact hm), List.getElem?_map, swapN_get (i + 1) xs m hm]
    by_cases h1 : xs.length - 1 - i = m
    · subst h1
      rw [List.getElem?_set_self (by simp [swapN_length]; omega), if_pos (by omega), show xs.length - 1 - (xs.length - 1 - i) = i by omega]; rfl
    · rw [List.getElem?_set_ne h1]
      by_cases h2 : i = m
      · subst h2
        rw [List.getElem?_set_self (by simp [swapN_length]; omega), if_pos (by omega)]; rfl
      · rw [List.getElem?_set_ne h2, List.getElem?_append_left (by rw [hl]; exact hm), List.getElem?_map, swapN_get i xs m hm]
        by_cases hc : m < i ∨ xs.length - i ≤ m
        · rw [if_pos hc, if_pos (by omega)]
        · rw [if_neg hc, if_neg (by omega)]
  · rw [List.getElem?_set_ne (by omega), List.getElem?_set_ne (by omega), List.getElem?_append_right (by omega), List.getElem?_append_right (by omega), hl, hl']

theorem grownBy_set (W : World) (g o : Nat) (v : Value) : W.grownBy (W.setCell ⟨g, o, none⟩ v) (some g) :=
  ⟨rfl, rfl, rfl, by simp, fun k _ hk => Below.heap_setCell _ _ _ _ (fun e => hk (by rw [e]))⟩

theorem grownBy_drew {w w' : World} {r : Option Nat} (h : w.grownBy w' r) : w.grownBy w'.drew r := ⟨h.os, h.tape, h.output, h.size, h.block⟩

def RevRel (w : World) (g : Nat) (xs : List Int) (rest : List Value) (wx : World) : Prop := BoxAt wx g 56 (xs.map (Value.int .u32) ++ rest) ∧ w.grownBy wx (some g)

set_option maxHeartbeats 2000000 in
theorem reverse_some (g cap : Nat) (xs : List Int) (rest : List Value) (w : World) (hbox : BoxAt w g 56 (xs.map (Value.int .u32) ++ rest)) (hlen : xs.length ≤ 1000000) (hcap : xs.length ≤ cap) :
    Calls Tryd.prog 74 #[.slice (some ⟨g, 0, none⟩) xs.length cap] w fun e w' => e = .returned (.tuple #[]) ∧ RevRel w g xs.reverse rest w' := by
  have HBX := Lib.hid hbox
  clear hbox
  go_enter Tryd.func74, Tryd.ntmps74
  go_wp2_with fail
  go_loopw [2, 3] (fun a b wx => ∃ i : Nat, i ≤ xs.length ∧ a = .int .i64 i ∧ b = .int .i64 ((xs.length : Int) - 1 - i) ∧ RevRel w g (swapN i xs) rest wx) (fun a _ _ => xs.length - (intOf a).toNat)
  case atStart => exact ⟨0, Nat.zero_le _, rfl, by simp, by rw [swapN_zero]; exact HBX.out, World.grownBy.refl _ _⟩
  case round =>
    obtain ⟨i, hi, rfl, rfl, hb, hg⟩ := hrel
    by_cases hlt : (i : Int) < (xs.length : Int) - 1 - i
    · obtain ⟨j, hj⟩ : ∃ j : Nat, j = xs.length - 1 - i := ⟨_, rfl⟩
      have hjj : (xs.length : Int) - 1 - i = (j : Int) := by omega
      rw [hjj] at *
      have hij : i < j := by omega
      have hjl : j < xs.length := by omega
      have ci : wr.cell? ⟨g, i, none⟩ = some (.int .u32 (xs.getD i 0)) := by
        rw [hb.cell, List.getElem?_append_left (by simp [swapN_length]; omega), List.getElem?_map, swapN_get i xs i (by omega), if_neg (by omega)]; rfl
      have cj : wr.cell? ⟨g, j, none⟩ = some (.int .u32 (xs.getD j 0)) := by
        rw [hb.cell, List.getElem?_append_left (by simp [swapN_length]; omega), List.getElem?_map, swapN_get i xs j (by omega), if_neg (by omega)]; rfl
      have fi := hb.froz i
      have fj := hb.froz j
      have hst := swapN_step i xs rest (by omega)
      rw [← hj] at hst
      have HST := Lib.hid hst
      have HB := Lib.hid hb
      have HG := Lib.hid hg
      have hne : ¬ i = j := by omega
      have hne2 : ¬ j = i := by omega
      have HJ := Lib.hid hj
      have HJJ := Lib.hid hjj
      clear hb hg hst hjj hj
      generalize xs.getD i 0 = x at *
      generalize xs.getD j 0 = y at *
      have q1 : (0 : Int) ≤ (i : Int) := by omega
      have q2 : (0 : Int) ≤ (j : Int) := by omega
      have q3 : (i : Int) < (xs.length : Int) := by omega
      have q4 : (j : Int) < (xs.length : Int) := by omega
      go_wp2_with fail
      go_region
      all_goals
        go_wp2_with fail
        go_roundw
        case rel =>
          have hj := HJ.out
          refine ⟨i + 1, by omega, by go_num, congrArg (Value.int .i64) (by omega), ?_, ?_⟩
          · have h := (HB.out.set i (.int .u32 y)).set j (.int .u32 x)
            rw [HST.out] at h
            exact h
          · exact HG.out.trans (grownBy_drew ((grownBy_set wr g i (.int .u32 y)).trans (grownBy_set _ g j (.int .u32 x))))
        case measure => simp [intOf]; omega
    · go_wp2_with fail
      go_end0
      have := swapN_end i xs (by omega)
      rw [this] at hb
      exact ⟨rfl, hb, hg⟩
end Go.Proofs.YtdggnpecbdnkeaaDoor
