/-
  A slice of numbers that came in, as the executor's rows.
-/
import Derived.Test.YtkabaecoamilnaaGreatDoorCQM
import Derived.Test.YtkabaecoamilnaaGreatDoorCAx18
set_option linter.unusedVariables false
set_option linter.unusedSimpArgs false
namespace Go.Proofs.YtkabaecoamilnaaGreatDoor
open Go AX Go.RowKit
/-- A slice of numbers that came in. -/
def Tick (w : World) (x : Value) : Prop := x = .slice none 0 0 ∨ (∃ a, x = .slice (some a) 0 0) ∨
  ∃ b o len cap, ∃ zs : List Int, x = .slice (some ⟨b, o, none⟩) len cap ∧ len ≤ cap ∧ 0 < cap ∧ cap ≤ maxLen ∧ zs.length = cap ∧ ∀ i, i < cap → w.cell? ⟨b, o + i, none⟩ = some (.int .i64 (zs.getD i 0))
theorem int_sz : szOf Tryz.prog 3 = some 1 := by kernel_rfl
def AX.all : Nat → Prop := fun _ => True
/-- The executor's slice for one that came in: the rows that it wants. -/
theorem nums_rows {w : World} {x : Value} (h : Tick w x) : ∃ (l : List Row) (k : Nat) (f : Nat → Option Addr) (z : Nat → Int), l.length ≤ 1 ∧ k ≤ maxLen ∧
    (∀ r, r ∈ l → (szOf Tryz.prog r.T = some 1 ∧ ∀ (i : Nat) v, r.cs[i]? = some v → simpleV v = true ∧ w.cell? ⟨r.blk, r.off + i, none⟩ = some v) ∧ r.cs ≠ []) ∧
    (∀ (L : List Row) (j : Nat), (∀ i r, l[i]? = some r → L[j + i]? = some r) → VR (rowsR L) (.slice (f j) k k) x) ∧
    (∀ (L : List Row) (j s : Nat), (∀ i r, l[i]? = some r → L[j + i]? = some r) → j + l.length ≤ s → Nums AX.all (rowsH L) s (f j) k z) := by
  rcases h with rfl | ⟨a, rfl⟩ | ⟨b, o, len, cap, zs, rfl, hl, hc, hm, hz, hr⟩
  · exact ⟨[], 0, fun _ => none, fun _ => 0, by simp, by simp, by simp, fun _ _ _ => .sliceNil, fun _ _ _ _ _ => .inl rfl⟩
  · exact ⟨[], 0, fun _ => some ⟨0, 0, none⟩, fun _ => 0, by simp, by simp, by simp, fun _ _ _ => .slice0, fun _ _ _ _ _ => .inl rfl⟩
  · refine ⟨[⟨b, o, 3, zs.map (Value.int .i64)⟩], len, fun j => some ⟨j, 0, none⟩, fun i => zs.getD i 0, by simp, by omega, ?_, fun L j hL => ?_, fun L j s hL hs => ?_⟩
    · intro r hrm
      simp only [List.mem_singleton] at hrm
      subst hrm
      refine ⟨⟨int_sz, fun i v hi => ?_⟩, by intro e; have := congrArg List.length e; rw [List.length_map, List.length_nil] at this; omega⟩
      rw [List.getElem?_map] at hi
      cases hzi : zs[i]? with
      | none => rw [hzi] at hi; cases hi
      | some z =>
        rw [hzi] at hi
        simp only [Option.map_some, Option.some.injEq] at hi
        subst hi
        have hlt := (List.getElem?_eq_some_iff.1 hzi).1
        refine ⟨rfl, ?_⟩
        have := hr i (by omega)
        rw [List.getD_eq_getElem?_getD, hzi] at this
        exact this
    · have hj := hL 0 _ rfl
      refine VR.slice (im := ⟨b, o, (zs.map (Value.int .i64)).length, 1⟩) ?_ hl (by show 0 + cap * 1 ≤ (zs.map (Value.int .i64)).length; rw [List.length_map]; omega) hm
      have hj' : L[j]? = some ⟨b, o, 3, zs.map (Value.int .i64)⟩ := by simpa using hj
      simp [rowsR, hj']
    · have hj := hL 0 _ rfl
      have hj' : L[j]? = some ⟨b, o, 3, zs.map (Value.int .i64)⟩ := by simpa using hj
      refine .inr ⟨j, 0, zs.map (Value.int .i64), 3, false, rfl, trivial, by simp at hs; omega, by simp only [rowsH, hj'], fun i hi => ?_⟩
      show (zs.map (Value.int .i64))[0 + i]? = some (.int .i64 (zs.getD i 0))
      rw [Nat.zero_add, List.getElem?_map, List.getD_eq_getElem?_getD, List.getElem?_eq_getElem (by omega)]
      rfl
end Go.Proofs.YtkabaecoamilnaaGreatDoor
