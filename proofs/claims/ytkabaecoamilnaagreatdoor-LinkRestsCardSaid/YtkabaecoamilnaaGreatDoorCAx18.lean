/-
  The executor's answer as the model's: rows that came in, a run that ends in true.
-/
import Derived.Test.YtkabaecoamilnaaGreatDoorCQA2
import Derived.Test.YtkabaecoamilnaaGreatDoorCAy9
import Derived.Below
set_option linter.unusedVariables false
set_option linter.unusedSimpArgs false
namespace Go.Proofs.YtkabaecoamilnaaGreatDoor
open Go AX Go.RowKit

/-- A row that came in, which is not written: where it lies, its first cell there, its cells. -/
structure Row where
  blk : Nat
  off : Nat
  T : TypeId
  cs : List Value
def rowsH (L : List Row) : AH := fun b => match L[b]? with
  | some r => some (.cells r.cs r.T false)
  | none => none
def rowsR (L : List Row) : Ren := fun b => match L[b]? with
  | some r => some ⟨r.blk, r.off, r.cs.length, 1⟩
  | none => none
section
variable {P : Program} {w : World}
theorem rows_wr {L : List Row} (h1 : ∀ r, r ∈ L → szOf P r.T = some 1 ∧ ∀ (i : Nat) v, r.cs[i]? = some v → simpleV v = true ∧ w.cell? ⟨r.blk, r.off + i, none⟩ = some v) (h0 : ∀ r, r ∈ L → r.cs ≠ []) : WR P (rowsR L) (rowsH L) w := by
  refine ⟨fun b x hb => ?_, fun b b' x x' im im' hb hb' hne hw => ?_⟩
  · unfold rowsH at hb
    cases hr : L[b]? with
    | none => rw [hr] at hb; cases hb
    | some r =>
      rw [hr] at hb
      simp only [Option.some.injEq] at hb
      subst hb
      have hm : r ∈ L := List.mem_of_getElem? hr
      obtain ⟨hz, hc⟩ := h1 r hm
      refine ⟨⟨r.blk, r.off, r.cs.length, 1⟩, by simp [rowsR, hr], ?_⟩
      have hpos : 0 < r.cs.length := List.length_pos_iff.2 (h0 r hm)
      have hlast := (hc (r.cs.length - 1) _ (List.getElem?_eq_getElem (by omega))).2
      cases hblk : w.heap[r.blk]? with
      | none => simp [World.cell?, hblk] at hlast
      | some o =>
        cases o with
        | cells ds T' fr =>
          have hcell : ∀ i, w.cell? ⟨r.blk, r.off + i, none⟩ = ds[r.off + i]? := fun i => by simp [World.cell?, hblk]
          refine ⟨ds, T', fr, hblk, ?_, Nat.le_refl _, fun i v hi => ?_, by rw [hz]; rfl, fun h => (by cases h), fun _ h => ?_⟩
          · have : ds[r.off + (r.cs.length - 1)]? = some (r.cs[r.cs.length - 1]) := (hcell _).symm.trans hlast
            have := (Array.getElem?_eq_some_iff.1 this).1
            dsimp only
            omega
          · obtain ⟨hs, hv⟩ := hc i v hi
            refine ⟨v, (hcell i).symm.trans hv, VR.simple hs, ?_⟩
            revert hs
            cases v <;> simp [simpleV, oneV]
          · simp at h
        | map es clock => simp [World.cell?, hblk] at hlast
        | _ => simp [World.cell?, hblk] at hlast
  · unfold rowsH at hb
    cases hr : L[b]? with
    | none => rw [hr] at hb; cases hb
    | some r =>
      rw [hr] at hb
      simp only [Option.some.injEq] at hb
      subst hb
      cases hw
theorem rows_free {L : List Row} {s : Nat} (hs : L.length ≤ s) (s' : Nat) : Free (rowsR L) s s' := fun b h1 _ => by
  simp [rowsR, List.getElem?_eq_none (Nat.le_trans hs h1)]
theorem rows_bd {L : List Row} {s : Nat} (hs : L.length ≤ s) : Bd (rowsH L) s := fun b h => by simp [rowsH, List.getElem?_eq_none (Nat.le_trans hs h)]
theorem rows_own {L : List Row} {k : Nat} : ¬ OwnB (rowsR L) (rowsH L) k := by
  rintro ⟨b, x, im, h1, h2, _⟩
  unfold rowsH at h1
  cases hr : L[b]? with
  | none => rw [hr] at h1; cases h1
  | some r =>
    rw [hr] at h1
    simp only [Option.some.injEq] at h1
    subst h1
    cases h2
/-- A run that ends in true. -/
theorem run_true {call : FuncId → Array Value → AX Value} (hc : CallOK P call) {f : FuncId} {args args' : Array Value} {L : List Row} (hw : WR P (rowsR L) (rowsH L) w) (ha : VA (rowsR L) args args') {F G : Nat → Prop} {s : Nat} (hs : L.length ≤ s)
    (h : Wp F G (call f args) (rowsH L) s (fun v _ _ => v = .bool true)) : Calls P f args' w fun e w' => e = .returned (.bool true) ∧ Below w.heap.size w w' := by
  obtain ⟨o, he, _, _, hv⟩ := h
  refine (hc f args (rowsH L) s o he (rowsR L) w args' hw ha (rows_free hs _)).mono ?_
  rintro e w' ⟨φ', v', rfl, _, r, _, t⟩
  rw [hv] at r
  cases r
  exact ⟨rfl, t.os, t.tape, t.output, t.size, fun k hk => t.block k hk rows_own⟩
end
end Go.Proofs.YtkabaecoamilnaaGreatDoor
