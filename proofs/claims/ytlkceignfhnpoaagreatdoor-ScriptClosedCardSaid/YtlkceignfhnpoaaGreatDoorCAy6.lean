/-
  Literals of structs, arrays and slices.
-/
import Derived.Test.YtlkceignfhnpoaaGreatDoorCAyExt
import Derived.Test.YtlkceignfhnpoaaGreatDoorCAyD
set_option linter.unusedVariables false
set_option linter.unusedSimpArgs false
namespace Go.Proofs.YtlkceignfhnpoaaGreatDoor
open Go AX
section
variable {P : Program}
theorem stat_then {α β : Type} (f : α → Sem β) : ∀ m : Sem α, stat P (Sem.bind m f) = (stat P m).bind fun a => stat P (f a) := by
  intro m
  induction m with
  | pure a => simp [Sem.bind, stat]
  | program k ih => simp only [Sem.bind, stat]; exact ih P
  | _ => simp [Sem.bind, stat]
/-- Parts put into cells. -/
def fillL (place : Nat → Option (Nat × Nat)) : List Value → List (Nat × Value) → Option (List Value)
  | cs, [] => some cs
  | cs, (i, v) :: r =>
    match place i with
    | none => none
    | some (off, size) => if v.cells.size = size ∧ off + v.cells.size ≤ cs.length then fillL place (setL cs off v.cells.toList) r else none
theorem fold_setL : ∀ (l : List Value) (j off : Nat) (cs : Array Value), (l.zipIdx j).foldl (fun cs (p : Value × Nat) => cs.setIfInBounds (off + p.2) p.1) cs = (setL cs.toList (off + j) l).toArray
  | [], j, off, cs => by simp [setL]
  | v :: r, j, off, cs => by
    rw [List.zipIdx_cons, List.foldl_cons, fold_setL r (j + 1) off]
    simp [setL, Nat.add_assoc]
theorem setL_len : ∀ (l cs : List Value) (o : Nat), (setL cs o l).length = cs.length
  | [], cs, o => rfl
  | v :: r, cs, o => by simp [setL, setL_len r]
theorem fill_eq (place : Nat → Option (Nat × Nat)) : ∀ (parts : List (Nat × Value)) (cs : List Value), Instr.fill place cs.toArray parts = (fillL place cs parts).map List.toArray
  | [], cs => rfl
  | (i, v) :: r, cs => by
    unfold Instr.fill fillL
    cases hp : place i with
    | none => rfl
    | some q =>
      obtain ⟨off, size⟩ := q
      dsimp only
      by_cases hc : v.cells.size = size ∧ off + v.cells.size ≤ cs.length
      · rw [if_pos hc, if_neg (by simp; omega)]
        have : (v.cells.zipIdx.foldl (fun cs (p : Value × Nat) => cs.setIfInBounds (off + p.2) p.1) cs.toArray) = (setL cs off v.cells.toList).toArray := by
          rw [← Array.foldl_toList, Array.toList_zipIdx, fold_setL]
          simp
        have h2 := fill_eq place r (setL cs off v.cells.toList)
        rw [← h2, ← this]
      · rw [if_neg hc, if_pos (by simp; omega)]
        rfl
theorem bs_eq {T : TypeId} {len : Nat} {parts : Array (Nat × Value)} {e : TypeId} {size : Nat} {row : List Value} (h : bsCells P T len = some (e, size, row)) : aBuildSlice P T len parts = (match fillL (fun i => some (i * size, size)) row parts.toList with | some cs => if cs.all oneV = true then bind (new (.cells cs e true)) fun b => ret (.slice (some ⟨b, 0, none⟩) len len) else fail | none => fail) := by
  unfold bsCells at h
  unfold aBuildSlice
  cases he : elemT P T with
  | none => rw [he] at h; cases h
  | some e' =>
    rw [he] at h
    dsimp only at h ⊢
    cases hs : szOf P e' with
    | none => rw [hs] at h; cases h
    | some sz =>
      cases hz : zeroOf P e' with
      | none => rw [hs, hz] at h; cases h
      | some z =>
        rw [hs, hz] at h
        dsimp only at h ⊢
        split at h
        · rename_i hc
          simp only [Option.some.injEq, Prod.mk.injEq] at h
          obtain ⟨rfl, rfl, rfl⟩ := h
          rw [if_pos hc, fill_eq]
          cases fillL (fun i => some (i * sz, sz)) (zeroRow z (len * sz)) parts.toList with
          | none => rfl
          | some cs => rfl
        · cases h
theorem bu_eq {t : TypeId} {parts : Array (Nat × Value)} {pl : Array (Nat × Nat)} {sz : Option Nat} {row : List Value} (h : stat P (bInfo t) = some (pl, sz, row.toArray)) : stat P (Instr.build t parts) = (match fillL (bPlace pl sz) row parts.toList with | some cs => some (.agg cs.toArray) | none => none) := by
  unfold bInfo at h
  unfold Instr.build
  simp only [Bind.bind, stat_then] at h ⊢
  cases hz : stat P (zeroValue t) with
  | none => rw [hz] at h; cases h
  | some z =>
    rw [hz] at h
    simp only [Option.bind_some] at h ⊢
    cases hu : stat P (underlying t) with
    | none => rw [hu] at h; cases h
    | some u =>
      rw [hu] at h
      simp only [Option.bind_some] at h ⊢
      cases u with
      | struct fields =>
        simp only [stat_then] at h ⊢
        cases hp : stat P (fields.mapM fun f => do pure (f.offset, ← sizeOf f.type)) with
        | none => simp only [Bind.bind] at hp; rw [hp] at h; cases h
        | some q =>
          simp only [Bind.bind] at hp
          rw [hp] at h
          simp only [Option.bind_some, pure, stat, Option.some.injEq, Prod.mk.injEq] at h ⊢
          obtain ⟨rfl, rfl, e⟩ := h
          rw [e, fill_eq]
          have ep : (fun x => q[x]?) = bPlace q none := rfl
          rw [ep]
          cases fillL (bPlace q none) row parts.toList with
          | none => rfl
          | some cs => rfl
      | array n elem =>
        simp only [stat_then] at h ⊢
        cases hp : stat P (sizeOf elem) with
        | none => rw [hp] at h; cases h
        | some q =>
          rw [hp] at h
          simp only [Option.bind_some, pure, stat, Option.some.injEq, Prod.mk.injEq] at h ⊢
          obtain ⟨rfl, rfl, e⟩ := h
          rw [e, fill_eq]
          have ep : (fun i => some (i * q, q)) = bPlace #[] (some q) := rfl
          rw [ep]
          cases fillL (bPlace #[] (some q)) row parts.toList with
          | none => rfl
          | some cs => rfl
      | _ => cases h
theorem q_buildSlice {T : TypeId} {len : Nat} {parts : Array (Nat × Value)} : aBuildSlice P T len parts = (match bsCells P T len with | some (e, size, row) => (match fillL (fun i => some (i * size, size)) row parts.toList with | some cs => if cs.all oneV = true then bind (new (.cells cs e true)) fun b => ret (.slice (some ⟨b, 0, none⟩) len len) else fail | none => fail) | none => fail) := by
  cases h : bsCells P T len with
  | some q => obtain ⟨e, size, row⟩ := q; exact bs_eq h
  | none =>
    unfold bsCells at h
    unfold aBuildSlice
    cases he : elemT P T with
    | none => rfl
    | some e' =>
      rw [he] at h
      dsimp only at h ⊢
      cases hs : szOf P e' with
      | none => rfl
      | some sz =>
        cases hz : zeroOf P e' with
        | none => rfl
        | some z =>
          rw [hs, hz] at h
          dsimp only at h ⊢
          split at h
          · cases h
          · rename_i hc
            rw [if_neg hc]
theorem q_build {call : FuncId → Array Value → AX Value} {d : Option Tmp} {ty : TypeId} {pos : String} {af : Array Edge} {g : Option (Nat × Bool)} {tm : Array Value} {t : TypeId} {parts : Array (Nat × Operand)} (hp : (parts.toList.map (·.2)).all Operand.okC = true) (hz : (zeroOf P t).isSome = true) (hi : (stat P (bInfo t)).isSome = true) :
    aOp P call ⟨d, .build t parts, ty, pos, af, g⟩ tm = (match stat P (bInfo t) with | some (pl, sz, row) => (match fillL (bPlace pl sz) row.toList (parts.toList.map fun p => (p.1, evalA tm p.2)) with | some cs => ret (.agg cs.toArray) | none => fail) | none => fail) := by
  rw [o_build hp, if_pos hz]
  cases h : stat P (bInfo t) with
  | none => rw [h] at hi; cases hi
  | some q =>
    obtain ⟨pl, sz, row⟩ := q
    rw [bu_eq (row := row.toList) (by rw [h])]
    simp only [Array.toList_map]
    cases fillL (bPlace pl sz) row.toList (parts.toList.map fun p => (p.1, evalA tm p.2)) with
    | none => rfl
    | some cs => rfl
end
attribute [simp] fillL bPlace q_build q_buildSlice
end Go.Proofs.YtlkceignfhnpoaaGreatDoor
