/-
  PROVED: the statement PduUnlike: whatever the input, the call returns true, and each argument reads as before. No condition of ours.
-/
import Derived.Test.YtijneajaplebnaaRows
import Derived.Test.YtijneajaplebnaaLaw
import Derived.Test.YtijneajaplebnaaPduUnlike
import Derived.Test.YtijneajaplebnaaOpenInts
import Derived.Deep.DeepHandedRow
import Derived.Deep.CondSized
set_option linter.unusedVariables false
set_option linter.unusedSimpArgs false
namespace Go.Proofs.Ytijneajaplebnaa.PUnlike
open Go.ChangeShapes Go.WideShapes Go.ChangeAt Go.RowKit Go.Joins
open Go.ChangeMaps (open_string shut_string)

set_option maxHeartbeats 1000000 in
set_option maxRecDepth 100000 in
theorem contract (H : Type) (enc : TypeId × Value → H) (W : World) (base : Nat) (args : Array Value) (ds gs : List (DataW H)) (before : List MemPlace)
    (hval : ∀ (j : Nat) t v, Try.f4.params[j]? = some t → args[j]? = some v → Value.okWide Try.prog W .any base t v)
    (hW : DataW.Whole enc Try.prog Try.f4.params.toList Rows.pduUnlikeSpec.vars false W args.toList ds gs before) :
    Calls Try.prog 4 args W fun e W' => ∃ v, e = .returned v ∧ Rows.pduUnlikeSpec.post enc Try.prog Try.f4 false true false false W args v W' := by
  have hW' := hW
  obtain ⟨p, q, hA0, hV, rfl, hfz, hnd⟩ := hW
  have hA : DataW.TrodAll enc Try.prog W 0 (fun _ => true) true Try.f4.params.toList args.toList ds p := hA0
  rw [Try.params4] at hA hval
  obtain ⟨v0, vs0, d0, ds0, p0, q0, hargs, rfl, rfl, h0, r0⟩ := trodAll_cons hA
  obtain ⟨v1, vs1, d1, ds1, p1, q1, rfl, rfl, rfl, h1, r1⟩ := trodAll_cons r0
  obtain ⟨rfl, rfl, rfl⟩ := trodAll_nil r1
  obtain rfl : args = #[v0, v1] := by cases args; simp_all
  obtain ⟨rfl, rfl⟩ := trodVars_none hV
  obtain ⟨ca0, ca1, ca2, ca3, ca4, ca5, ca6, ca7, ya0, ya1, ya2, ya3, ya4, ya5, ya6, ya7, ma, rfl, hya0, hya1, hya2, hya3, hya4, hya5, hya6, hya7⟩ := open_fields8 Try.underlying24 (by kernel_rfl) (by kernel_rfl) (hval 0 24 v0 rfl rfl) h0
  obtain ⟨ka, e0, -, wka⟩ := DataW.trod_int Try.underlying3 hya0
  obtain ⟨sqa, e1, -, wsqa⟩ := DataW.trod_int Try.underlying3 hya1
  obtain ⟨na, e2, -, wna⟩ := DataW.trod_int Try.underlying3 hya2
  obtain ⟨psa, e3, -, wpsa⟩ := DataW.trod_int Try.underlying3 hya3
  obtain ⟨mra, e4, -, wmra⟩ := DataW.trod_int Try.underlying3 hya4
  obtain ⟨lva, la, e5, hla, wla⟩ := ints_of_trod Try.underlying22 Try.underlying3 (by kernel_rfl) hya5
  obtain ⟨selfa, e6, -⟩ := DataW.trod_bool Try.underlying4 hya6
  obtain ⟨da, e7, -, hda⟩ := DataW.trod_string Try.underlying9 hya7
  simp at e0 e1 e2 e3 e4 e5 e6 e7; subst e0 e1 e2 e3 e4 e5 e6 e7
  obtain ⟨cb0, cb1, cb2, cb3, cb4, cb5, cb6, cb7, yb0, yb1, yb2, yb3, yb4, yb5, yb6, yb7, mb, rfl, hyb0, hyb1, hyb2, hyb3, hyb4, hyb5, hyb6, hyb7⟩ := open_fields8 Try.underlying24 (by kernel_rfl) (by kernel_rfl) (hval 1 24 v1 rfl rfl) h1
  obtain ⟨kb, e0, -, wkb⟩ := DataW.trod_int Try.underlying3 hyb0
  obtain ⟨sqb, e1, -, wsqb⟩ := DataW.trod_int Try.underlying3 hyb1
  obtain ⟨nb, e2, -, wnb⟩ := DataW.trod_int Try.underlying3 hyb2
  obtain ⟨psb, e3, -, wpsb⟩ := DataW.trod_int Try.underlying3 hyb3
  obtain ⟨mrb, e4, -, wmrb⟩ := DataW.trod_int Try.underlying3 hyb4
  obtain ⟨lvb, lb, e5, hlb, wlb⟩ := ints_of_trod Try.underlying22 Try.underlying3 (by kernel_rfl) hyb5
  obtain ⟨selfb, e6, -⟩ := DataW.trod_bool Try.underlying4 hyb6
  obtain ⟨db, e7, -, hdb⟩ := DataW.trod_string Try.underlying9 hyb7
  simp at e0 e1 e2 e3 e4 e5 e6 e7; subst e0 e1 e2 e3 e4 e5 e6 e7
  clear hA0
  refine (pduUnlike_any ka sqa na psa mra ca5 la selfa da kb sqb nb psb mrb cb5 lb selfb db W hla hda hlb hdb).mono fun e W' ⟨he, hb⟩ => ⟨_, he, ?_⟩
  exact law_post (by decide +kernel) rfl rfl rfl hW' hb

set_option maxRecDepth 100000 in
theorem lifted (os : Os) (started : os.Started) (H : Type) (enc : TypeId × Value → H) :
    ReturnsInHanded {} Try.checked os 4 .any (Rows.pduUnlikeSpec.pre6 enc Try.prog Try.f4 Rows.pduUnlikeRow.domain false) (Rows.pduUnlikeSpec.post enc Try.prog Try.f4 false true false false) := by
  refine returnsInHanded_of_change (C := Try.checked) law_own started (by kernel_rfl) Try.func4
    (ChangeSpec.witness6 (enc := enc) (C := Try.checked) false ⟨#[], #[.agg #[.int .i64 0, .int .i64 0, .int .i64 0, .int .i64 0, .int .i64 0, .slice none 0 0, .bool false, .string .empty], .agg #[.int .i64 0, .int .i64 0, .int .i64 0, .int .i64 0, .int .i64 0, .slice none 0 0, .bool false, .string .empty]], []⟩ 8 (by kernel_rfl) (by kernel_rfl) (by kernel_rfl) (by kernel_rfl)) ?_
  intro W base args ds gs before hval hW _ _
  exact contract H enc W base args ds gs before hval hW

theorem said : Rows.PduUnlikeSaid :=
  OpenClaim.holds_of_wide 4 Try.f4 rfl rfl rfl rfl rfl rfl rfl ⟨rfl, rfl, rfl, rfl, rfl⟩ rfl rfl rfl rfl rfl (by kernel_rfl) Try.func4 (by kernel_rfl)
    (of_decide_eq_true (by kernel_rfl)) (by unfold Func.isWrapper; first | (rw [if_pos (by decide +kernel)]; kernel_rfl) | (rw [if_neg (by decide +kernel)]; exact ⟨rfl, rfl⟩))
    (fun os started H enc _ => lifted os started H enc)
end Go.Proofs.Ytijneajaplebnaa.PUnlike
