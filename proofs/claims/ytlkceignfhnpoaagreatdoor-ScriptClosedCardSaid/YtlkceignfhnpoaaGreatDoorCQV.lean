/-
  What comes in for scripts: line.Parse, numbers' digits, texts in the making.
  The law's awake, run by the kernel.
-/
import Derived.Test.YtlkceignfhnpoaaGreatDoorCQN
import Derived.Test.YtlkceignfhnpoaaGreatDoorCQB
import Derived.Test.YtlkceignfhnpoaaGreatDoorCMScript0
import Derived.Test.YtlkceignfhnpoaaGreatDoorCTab
set_option linter.unusedVariables false
set_option linter.unusedSimpArgs false
section
namespace Go.Proofs.YtlkceignfhnpoaaGreatDoor
open Go AX Go.RowKit
theorem ls_itoaX (xs : Array Value) : LS (itoaX xs) := by
  unfold itoaX
  split
  · exact LS.ite (LS.ret _) LS.fail
  · exact LS.fail
theorem itoa_ok (args : Array Value) (H : AH) (s : Nat) (q : Out Value) (h : itoaX args H s = some q) (φ : Ren) (w : World) (args' : Array Value) (hw : WR Tryz.prog φ H w) (ha : VA φ args args') : Calls Tryz.prog 23 args' w (CallPost Tryz.prog φ H w s q) := by
  obtain ⟨args⟩ := args
  unfold itoaX at h
  dsimp only at h
  split at h
  · rename_i n
    split at h
    · rename_i hn
      simp [AX.ret] at h
      subst h
      obtain ⟨l'⟩ := args'
      obtain rfl : l' = [.int .i64 n] := by
        have hl := ha.len
        simp at hl
        match l', hl with
        | [x], _ =>
          have := ha.at_ 0 _ x rfl rfl
          cases this; rfl
      rw [itoF_eq hn]
      refine post_low hw (VR.simple rfl) ((Tryz.strconv_Itoa n hn.1 hn.2 w hw.env.ok.pow).mono ?_)
      rintro e w' ⟨h, k, os, hw'⟩
      exact ⟨h, by rw [hw']; exact belGrow⟩
    · cases h
  · cases h
/-- What comes in. -/
def E5 (f : FuncId) : Option (Array Value → AX Value) :=
  if f = 24 then some writeX
  else if f = 25 then some tellX
  else if f = 29 then some joinX
  else if f = 23 then some itoaX
  else if f = 65 then some recX
  else if f = 184 then none
  else E2 f
theorem E5_bare : Bare E5 where
  no := fun f h => by
    unfold E5
    rw [if_neg, if_neg, if_neg, if_neg, if_neg, if_neg]
    · exact E2_bare.no f h
    all_goals
      intro e; subst e; revert h; decide
  ls := fun f g xs h => by
    unfold E5 at h
    split at h
    · cases h; exact ls_writeX xs
    · split at h
      · cases h; exact ls_tellX xs
      · split at h
        · cases h; exact ls_joinX xs
        · split at h
          · cases h; exact ls_itoaX xs
          · split at h
            · cases h; exact ls_recX xs
            · split at h
              · cases h
              · exact E2_bare.ls f g xs h
  wire := by
    unfold E5
    rw [if_neg (by decide), if_neg (by decide), if_neg (by decide), if_neg (by decide), if_neg (by decide), if_neg (by decide)]
    exact E2_bare.wire
  reqs := by
    unfold E5
    rw [if_neg (by decide), if_neg (by decide), if_neg (by decide), if_neg (by decide), if_neg (by decide), if_neg (by decide)]
    exact E2_bare.reqs
theorem E5_parse : E5 18 = some parseX := by
  unfold E5
  rw [if_neg (by decide), if_neg (by decide), if_neg (by decide), if_neg (by decide), if_neg (by decide), if_neg (by decide)]
  exact E2_parse
theorem E5_itoa : E5 23 = some itoaX := by
  unfold E5
  rw [if_neg (by decide), if_neg (by decide), if_neg (by decide), if_pos rfl]
theorem E5_ok : ExtOK Tryz.prog E5 where
  loc := fun f g xs h => (E5_bare.ls f g xs h).loc
  ok := fun f g h args H s q e φ w args' hw ha hf => by
    unfold E5 at h
    split at h
    · rename_i hfe
      subst hfe
      cases h
      exact write_ok args H s q e φ w args' hw ha hf
    · split at h
      · rename_i hfe
        subst hfe
        cases h
        exact tell_ok args H s q e φ w args' hw ha
      · split at h
        · rename_i hfe
          subst hfe
          cases h
          exact join_ok args H s q e φ w args' hw ha
        · split at h
          · rename_i hfe
            subst hfe
            cases h
            exact itoa_ok args H s q e φ w args' hw ha
          · split at h
            · rename_i hfe
              subst hfe
              cases h
              exact rec_ok args H s q e φ w args' hw ha
            · split at h
              · cases h
              · exact E2_ok.ok f g h args H s q e φ w args' hw ha hf
theorem calls_ok5 (n : Nat) : CallOK Tryz.prog (aCall Tryz.prog E5 n) := call_sound prog_mixed prog_code E5_ok n
end Go.Proofs.YtlkceignfhnpoaaGreatDoor
end
section
namespace Go.Proofs.YtlkceignfhnpoaaGreatDoor
open Go AX
def yes (x : Option (Out Value)) (s : Nat) : Bool :=
  match x with
  | some o => (match o.val with | .bool true => o.D.all (fun b => Nat.ble s b) && o.W.all (fun b => Nat.ble s b) | _ => false)
  | none => false
noncomputable def awakeRun : Option (Out Value) := aCall Tryz.prog E5 60 7 #[] (fun _ => none) 3
set_option maxRecDepth 100000 in
theorem awake_yes : yes awakeRun 3 = true := by kernel_rfl
end Go.Proofs.YtlkceignfhnpoaaGreatDoor
end
