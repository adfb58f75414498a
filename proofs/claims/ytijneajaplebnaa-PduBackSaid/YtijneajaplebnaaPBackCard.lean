/-
  PROVED: the statement PduBack: whatever the input, the call returns true, and each argument reads as before. No condition of ours.
-/
import Derived.Test.YtijneajaplebnaaRows
import Derived.Test.YtijneajaplebnaaLaw
import Derived.Test.YtijneajaplebnaaPduBack
import Derived.Test.YtijneajaplebnaaOpenInts
import Derived.Deep.DeepHandedRow
import Derived.Deep.CondSized
set_option linter.unusedVariables false
set_option linter.unusedSimpArgs false
namespace Go.Proofs.Ytijneajaplebnaa.PBack
open Go.ChangeShapes Go.WideShapes Go.ChangeAt Go.RowKit Go.Joins
open Go.ChangeMaps (open_string shut_string)

set_option maxHeartbeats 1000000 in
set_option maxRecDepth 100000 in
theorem contract (H : Type) (enc : TypeId × Value → H) (W : World) (base : Nat) (args : Array Value) (ds gs : List (DataW H)) (before : List MemPlace)
    (hval : ∀ (j : Nat) t v, Try.f3.params[j]? = some t → args[j]? = some v → Value.okWide Try.prog W .any base t v)
    (hW : DataW.Whole enc Try.prog Try.f3.params.toList Rows.pduBackSpec.vars false W args.toList ds gs before) :
    Calls Try.prog 3 args W fun e W' => ∃ v, e = .returned v ∧ Rows.pduBackSpec.post enc Try.prog Try.f3 false true false false W args v W' := by
  have hW' := hW
  obtain ⟨p, q, hA0, hV, rfl, hfz, hnd⟩ := hW
  have hA : DataW.TrodAll enc Try.prog W 0 (fun _ => true) true Try.f3.params.toList args.toList ds p := hA0
  rw [Try.params3] at hA hval
  obtain ⟨v0, vs0, d0, ds0, p0, q0, hargs, rfl, rfl, h0, r0⟩ := trodAll_cons hA
  obtain ⟨rfl, rfl, rfl⟩ := trodAll_nil r0
  obtain rfl : args = #[v0] := by cases args; simp_all
  obtain ⟨rfl, rfl⟩ := trodVars_none hV
  obtain ⟨ca0, ca1, ca2, ca3, ca4, ca5, ca6, ca7, ya0, ya1, ya2, ya3, ya4, ya5, ya6, ya7, ma, rfl, hya0, hya1, hya2, hya3, hya4, hya5, hya6, hya7⟩ := open_fields8 Try.underlying24 (by kernel_rfl) (by kernel_rfl) (hval 0 24 v0 rfl rfl) h0
  obtain ⟨ka, e0, -, wka⟩ := DataW.trod_int Try.underlying3 hya0
  obtain ⟨sqa, e1, -, wsqa⟩ := DataW.trod_int Try.underlying3 hya1
  obtain ⟨na, e2, -, wna⟩ := DataW.trod_int Try.underlying3 hya2
  obtain ⟨psa, e3, -, wpsa⟩ := DataW.trod_int Try.underlying3 hya3
  obtain ⟨mra, e4, -, wmra⟩ := DataW.trod_int Try.underlying3 hya4
  obtain ⟨lva, la, e5, hla, wla⟩ := ints_of_trod Try.underlying22 Try.underlying3 (by kernel_rfl) hya5
  obtain ⟨selfa, e6, -⟩ := DataW.trod_bool Try.underlying4 hya6
  obtain ⟨da, e7, -, hda⟩ := DataW.trod_string Try.underlying9 hya7
  simp at e0 e1 e2 e3 e4 e5 e6 e7; subst e0 e1 e2 e3 e4 e5 e6 e7
  clear hA0
  refine (pduBack_any ka sqa na psa mra ca5 la selfa da W hla hda).mono fun e W' ⟨he, hb⟩ => ⟨_, he, ?_⟩
  exact law_post (by decide +kernel) rfl rfl rfl hW' hb

set_option maxRecDepth 100000 in
theorem lifted (os : Os) (started : os.Started) (H : Type) (enc : TypeId × Value → H) :
    ReturnsInHanded {} Try.checked os 3 .any (Rows.pduBackSpec.pre6 enc Try.prog Try.f3 Rows.pduBackRow.domain false) (Rows.pduBackSpec.post enc Try.prog Try.f3 false true false false) := by
  refine returnsInHanded_of_change (C := Try.checked) law_own started (by kernel_rfl) Try.func3
    (ChangeSpec.witness6 (enc := enc) (C := Try.checked) false ⟨#[], #[.agg #[.int .i64 0, .int .i64 0, .int .i64 0, .int .i64 0, .int .i64 0, .slice none 0 0, .bool false, .string .empty]], []⟩ 8 (by kernel_rfl) (by kernel_rfl) (by kernel_rfl) (by kernel_rfl)) ?_
  intro W base args ds gs before hval hW _ _
  exact contract H enc W base args ds gs before hval hW

theorem said : Rows.PduBackSaid :=
  OpenClaim.holds_of_wide 3 Try.f3 rfl rfl rfl rfl rfl rfl rfl ⟨rfl, rfl, rfl, rfl, rfl⟩ rfl rfl rfl rfl rfl (by kernel_rfl) Try.func3 (by kernel_rfl)
    (of_decide_eq_true (by kernel_rfl)) (by unfold Func.isWrapper; first | (rw [if_pos (by decide +kernel)]; kernel_rfl) | (rw [if_neg (by decide +kernel)]; exact ⟨rfl, rfl⟩))
    (fun os started H enc _ => lifted os started H enc)
end Go.Proofs.Ytijneajaplebnaa.PBack
