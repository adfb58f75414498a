/-
  PROVED: the statement TraceUnlike (its card): whatever the input, the call returns true, and each argument reads as before. No condition of ours.
-/
import Derived.Test.YtohenohgceaibaaDoorCards
import Derived.Test.YtohenohgceaibaaDoorTie
import Derived.Test.YtohenohgceaibaaDoorLaw
import Derived.Test.YtohenohgceaibaaDoorLaidT
import Derived.Test.YtohenohgceaibaaDoorTrUnlike
import Derived.Test.YtohenohgceaibaaDoorOpenInts
import Derived.Deep.DeepHandedRow
import Derived.Deep.CondSized
set_option linter.unusedVariables false
set_option linter.unusedSimpArgs false
namespace Go.Proofs.YtohenohgceaibaaDoor.TUnl
open Go.ChangeShapes Go.WideShapes Go.ChangeAt Go.RowKit Go.Joins
open Go.ChangeMaps (open_string shut_string)

set_option maxHeartbeats 1000000 in
set_option maxRecDepth 100000 in
theorem contract (H : Type) (enc : TypeId × Value → H) (W : World) (base : Nat) (args : Array Value) (ds gs : List (DataW H)) (before : List MemPlace)
    (hval : ∀ (j : Nat) t v, Tryd.f4.params[j]? = some t → args[j]? = some v → Value.okWide Tryd.prog W .any base t v)
    (hW : DataW.Whole enc Tryd.prog Tryd.f4.params.toList Rows.traceUnlikeSpec.vars false W args.toList ds gs before) (hL : laidMetH Tryd.prog Rows.traceUnlikeRow.laid W) (hsh : W.ShapedOpen Tryd.prog) :
    Calls Tryd.prog 4 args W fun e W' => ∃ v, e = .returned v ∧ Rows.traceUnlikeSpec.post enc Tryd.prog Tryd.f4 false true false false W args v W' := by
  have hW' := hW
  obtain ⟨p, q, hA0, hV, rfl, hfz, hnd⟩ := hW
  have hA : DataW.TrodAll enc Tryd.prog W 0 (fun _ => true) true Tryd.f4.params.toList args.toList ds p := hA0
  rw [Tryd.params4] at hA hval
  obtain ⟨v0, vs0, d0, ds0, p0, q0, hargs, rfl, rfl, h0, r0⟩ := trodAll_cons hA
  obtain ⟨v1, vs1, d1, ds1, p1, q1, rfl, rfl, rfl, h1, r1⟩ := trodAll_cons r0
  obtain ⟨rfl, rfl, rfl⟩ := trodAll_nil r1
  obtain rfl : args = #[v0, v1] := by cases args; simp_all
  obtain ⟨rfl, rfl⟩ := trodVars_none hV
  have hF := env_facts (nm1 := "*errors.errorString") (nm2 := "*errors.errorString") (d1 := .ptr (.agg [.lit (.string [105, 110, 118, 97, 108, 105, 100, 32, 115, 121, 110, 116, 97, 120])])) (d2 := .ptr (.agg [.lit (.string [118, 97, 108, 117, 101, 32, 111, 117, 116, 32, 111, 102, 32, 114, 97, 110, 103, 101])])) hsh hL (by kernel_rfl) (List.mem_of_getElem? (i := 6) (by kernel_rfl)) (List.mem_of_getElem? (i := 2) (by kernel_rfl)) (List.mem_of_getElem? (i := 5) (by kernel_rfl)) (List.mem_of_getElem? (i := 4) (by kernel_rfl))
  obtain ⟨ca0, ca1, ca2, ca3, ca4, ca5, ca6, ca7, ya0, ya1, ya2, ya3, ya4, ya5, ya6, ya7, ma, rfl, hya0, hya1, hya2, hya3, hya4, hya5, hya6, hya7⟩ := open_fields8 Tryd.underlying37 (by kernel_rfl) (by kernel_rfl) (hval 0 37 v0 rfl rfl) h0
  obtain ⟨ka, e0, -, wka⟩ := DataW.trod_int Tryd.underlying3 hya0
  obtain ⟨sqa, e1, -, wsqa⟩ := DataW.trod_int Tryd.underlying3 hya1
  obtain ⟨na, e2, -, wna⟩ := DataW.trod_int Tryd.underlying3 hya2
  obtain ⟨psa, e3, -, wpsa⟩ := DataW.trod_int Tryd.underlying3 hya3
  obtain ⟨mra, e4, -, wmra⟩ := DataW.trod_int Tryd.underlying3 hya4
  obtain ⟨lva, la, e5, hla, wla⟩ := ints_of_trod Tryd.underlying35 Tryd.underlying3 (by kernel_rfl) hya5
  obtain ⟨selfa, e6, -⟩ := DataW.trod_bool Tryd.underlying4 hya6
  obtain ⟨da, e7, -, hda⟩ := DataW.trod_string Tryd.underlying9 hya7
  simp at e0 e1 e2 e3 e4 e5 e6 e7; subst e0 e1 e2 e3 e4 e5 e6 e7
  obtain ⟨cb0, cb1, cb2, cb3, cb4, cb5, cb6, cb7, yb0, yb1, yb2, yb3, yb4, yb5, yb6, yb7, mb, rfl, hyb0, hyb1, hyb2, hyb3, hyb4, hyb5, hyb6, hyb7⟩ := open_fields8 Tryd.underlying37 (by kernel_rfl) (by kernel_rfl) (hval 1 37 v1 rfl rfl) h1
  obtain ⟨kb, e0, -, wkb⟩ := DataW.trod_int Tryd.underlying3 hyb0
  obtain ⟨sqb, e1, -, wsqb⟩ := DataW.trod_int Tryd.underlying3 hyb1
  obtain ⟨nb, e2, -, wnb⟩ := DataW.trod_int Tryd.underlying3 hyb2
  obtain ⟨psb, e3, -, wpsb⟩ := DataW.trod_int Tryd.underlying3 hyb3
  obtain ⟨mrb, e4, -, wmrb⟩ := DataW.trod_int Tryd.underlying3 hyb4
  obtain ⟨lvb, lb, e5, hlb, wlb⟩ := ints_of_trod Tryd.underlying35 Tryd.underlying3 (by kernel_rfl) hyb5
  obtain ⟨selfb, e6, -⟩ := DataW.trod_bool Tryd.underlying4 hyb6
  obtain ⟨db, e7, -, hdb⟩ := DataW.trod_string Tryd.underlying9 hyb7
  simp at e0 e1 e2 e3 e4 e5 e6 e7; subst e0 e1 e2 e3 e4 e5 e6 e7
  clear hA0
  refine (traceUnlike_any ka sqa na psa mra ca5 la selfa da kb sqb nb psb mrb cb5 lb selfb db W hla hda hlb hdb hF).mono fun e W' ⟨he, hb⟩ => ⟨_, he, ?_⟩
  exact law_post (by decide +kernel) rfl rfl rfl hW' hb

noncomputable def witWorld (os : Os) : World := laidWorld os Rows.traceUnlikeRow.laid
theorem laid_met (os : Os) : laidMet Tryd.prog Rows.traceUnlikeRow.laid ((witWorld os).forCall (fun _ _ => 0) ⟨#[], #[.agg #[.int .i64 0, .int .i64 0, .int .i64 0, .int .i64 0, .int .i64 0, .slice none 0 0, .bool false, .string .empty], .agg #[.int .i64 0, .int .i64 0, .int .i64 0, .int .i64 0, .int .i64 0, .slice none 0 0, .bool false, .string .empty]], []⟩).memory :=
  laidMet_of_run' 8 (by kernel_rfl) (by kernel_rfl)
theorem reads (os : Os) {H : Type} (enc : TypeId × Value → H) : ∃ places, DataW.whole enc Tryd.prog ((witWorld os).forCall (fun _ _ => 0) ⟨#[], #[.agg #[.int .i64 0, .int .i64 0, .int .i64 0, .int .i64 0, .int .i64 0, .slice none 0 0, .bool false, .string .empty], .agg #[.int .i64 0, .int .i64 0, .int .i64 0, .int .i64 0, .int .i64 0, .slice none 0 0, .bool false, .string .empty]], []⟩).memory Tryd.f4.params.toList Rows.traceUnlikeSpec.vars false (#[.agg #[.int .i64 0, .int .i64 0, .int .i64 0, .int .i64 0, .int .i64 0, .slice none 0 0, .bool false, .string .empty], .agg #[.int .i64 0, .int .i64 0, .int .i64 0, .int .i64 0, .int .i64 0, .slice none 0 0, .bool false, .string .empty]] : Array Value).toList 8 = some ([.agg [.lit (.int .i64 0), .lit (.int .i64 0), .lit (.int .i64 0), .lit (.int .i64 0), .lit (.int .i64 0), .nil, .lit (.bool false), .lit (.string [])], .agg [.lit (.int .i64 0), .lit (.int .i64 0), .lit (.int .i64 0), .lit (.int .i64 0), .lit (.int .i64 0), .nil, .lit (.bool false), .lit (.string [])]], [], places) :=
  ⟨[], by kernel_rfl⟩

set_option maxRecDepth 100000 in
theorem lifted (os : Os) (started : os.Started) (H : Type) (enc : TypeId × Value → H) (F : Stop.Interp) :
    ReturnsInHanded {} Tryd.checked os 4 .any ((OpenSpec.ofChange Rows.traceUnlikeSpec).preRow enc Tryd.prog Tryd.f4 Rows.traceUnlikeRow.domain false Rows.traceUnlikeRow.laid) (((OpenSpec.ofChange Rows.traceUnlikeSpec).at F).post enc Tryd.prog Tryd.f4 false true false false) := by
  obtain ⟨places, hx⟩ := reads os enc
  refine returnsInHanded_of_row (C := Tryd.checked) (s := (OpenSpec.ofChange Rows.traceUnlikeSpec)) law_own started (by kernel_rfl) Tryd.func4
    (witness_row_at (enc := enc) (C := Tryd.checked) false (witWorld os) #[.agg #[.int .i64 0, .int .i64 0, .int .i64 0, .int .i64 0, .int .i64 0, .slice none 0 0, .bool false, .string .empty], .agg #[.int .i64 0, .int .i64 0, .int .i64 0, .int .i64 0, .int .i64 0, .slice none 0 0, .bool false, .string .empty]] rfl (by kernel_rfl) (by kernel_rfl) (by kernel_rfl)
      (OpenSpec.preRow_of_cond 8 hx (by kernel_rfl) (fun k hk => by cases hk) (by kernel_rfl) (laid_met os))) ?_
  intro W base args ds gs before hval hW _ _ _ hL hsh _
  exact contract H enc W base args ds gs before hval hW hL hsh

theorem said : Rows.TraceUnlikeSaid :=
  OpenClaim.holds_of_cond 4 Tryd.f4 rfl rfl rfl rfl rfl rfl rfl ⟨rfl, rfl, rfl, rfl, rfl⟩ rfl rfl rfl rfl rfl (by kernel_rfl) Tryd.func4 (by kernel_rfl)
    (of_decide_eq_true (by kernel_rfl)) (by unfold Func.isWrapper; first | (rw [if_pos (by decide +kernel)]; kernel_rfl) | (rw [if_neg (by decide +kernel)]; exact ⟨rfl, rfl⟩))
    (fun os started H enc _ F => by rw [OpenClaim.pre_eq_preRow]; exact lifted os started H enc F)

theorem plain (f : FuncId) (fn : Func) (hf : Tryd.pinned.checked.prog.funcNamed "polliwog/polliwoglaw19.TraceUnlike" = some f) (hfn : Tryd.pinned.checked.prog.funcs[f]? = some fn) :
    true = Tryd.pinned.checked.prog.looks [] ∧ ∀ (j : Nat) t, fn.params[j]? = some t → Tryd.pinned.checked.prog.wantsStandIn t = false := by
  obtain rfl : f = 4 := Option.some.inj ((show Tryd.prog.funcNamed "polliwog/polliwoglaw19.TraceUnlike" = some 4 by kernel_rfl).symm.trans hf) |>.symm
  obtain rfl : fn = Tryd.f4 := (Option.some.inj (Tryd.func4.symm.trans hfn)).symm
  refine ⟨by kernel_rfl, fun j t ht => ?_⟩
  have hall : (Tryd.f4.params.toList.all fun t => Tryd.prog.wantsStandIn t == false) = true := by kernel_rfl
  have := List.all_eq_true.1 hall t (by rw [Array.mem_toList_iff]; exact Array.mem_of_getElem? ht)
  exact eq_of_beq this

theorem card : Rows.TraceUnlikeCardSaid :=
  Claim7.holds_tied_plain_at .later [] _ _ _ _ said (fun _ h => by cases h) (by kernel_rfl) (fun _ h => by cases h) traceUnlike_row_tie rfl ⟨rfl, rfl⟩ (by kernel_rfl) rfl plain (by kernel_rfl)
end Go.Proofs.YtohenohgceaibaaDoor.TUnl
