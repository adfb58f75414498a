/-
  The law's awake: a closed run.
-/
import Derived.Test.YtkabaecoamilnaaGreatDoorCMExt
import Derived.Test.YtkabaecoamilnaaGreatDoorCQM
set_option linter.unusedVariables false
set_option linter.unusedSimpArgs false
namespace Go.Proofs.YtkabaecoamilnaaGreatDoor
open Go AX
def yes (x : Option (Out Value)) (s : Nat) : Bool :=
  match x with
  | some o => (match o.val with | .bool true => o.D.all (fun b => Nat.ble s b) && o.W.all (fun b => Nat.ble s b) | _ => false)
  | none => false
noncomputable def awakeRun : Option (Out Value) := aCall Tryz.prog E1 60 8 #[] (fun _ => none) 3
set_option maxRecDepth 100000 in
theorem awake_yes : yes awakeRun 3 = true := by kernel_rfl
theorem awake_ok : AwakeOK E1 60 3 := by
  intro F G H Q hN hB h
  have hy := awake_yes
  unfold yes at hy
  cases hr : awakeRun with
  | none => rw [hr] at hy; cases hy
  | some o =>
    rw [hr] at hy
    dsimp only at hy
    split at hy
    · rename_i hv
      simp only [Bool.and_eq_true, List.all_eq_true] at hy
      obtain ⟨hD, hW⟩ := hy
      have hl := (calm E1_bare 60).ls 8 #[]
      obtain ⟨o2, e2, v2, s2, d2, w2, _, k2⟩ := (hl.loc _ _ _ hr).sees H (fun b hb => by
        have hb3 : 3 ≤ b := by
          rcases hb with hb | hb
          · exact Nat.le_of_ble_eq_true (hD b hb)
          · exact hb.1
        exact hB b hb3)
      have up := (hl.loc _ _ _ e2).up
      refine ⟨o2, e2, fun b hb => (hN b ?_).1, fun b hb => (hN b ?_).2, ?_⟩
      · rw [d2] at hb; exact Nat.le_of_ble_eq_true (hD b hb)
      · rw [w2] at hb; exact Nat.le_of_ble_eq_true (hW b hb)
      · rw [v2, hv]
        refine h _ _ ⟨up, fun k hk _ => k2 k ?_⟩
        rintro (hw | hw)
        · have := Nat.le_of_ble_eq_true (hW k hw); omega
        · omega
    · cases hy
end Go.Proofs.YtkabaecoamilnaaGreatDoor
