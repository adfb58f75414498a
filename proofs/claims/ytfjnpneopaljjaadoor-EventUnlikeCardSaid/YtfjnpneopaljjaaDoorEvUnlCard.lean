/-
  PROVED: the statement EventUnlike (its card): whatever the input, the call returns true, and each argument reads as before. No condition of ours.
-/
import Derived.Test.YtfjnpneopaljjaaDoorCards
import Derived.Test.YtfjnpneopaljjaaDoorTie
import Derived.Test.YtfjnpneopaljjaaDoorLaw
import Derived.Test.YtfjnpneopaljjaaDoorLaid
import Derived.Test.YtfjnpneopaljjaaDoorEvUnl
import Derived.Deep.DeepHandedRow
import Derived.Deep.CondSized
set_option linter.unusedVariables false
set_option linter.unusedSimpArgs false
namespace Go.Proofs.YtfjnpneopaljjaaDoor.EvUnl
open Go.ChangeShapes Go.WideShapes Go.ChangeAt Go.RowKit Go.Joins
open Go.ChangeMaps (open_string shut_string)

set_option maxHeartbeats 1000000 in
set_option maxRecDepth 100000 in
theorem contract (H : Type) (enc : TypeId × Value → H) (W : World) (base : Nat) (args : Array Value) (ds gs : List (DataW H)) (before : List MemPlace)
    (hval : ∀ (j : Nat) t v, Tryd.f5.params[j]? = some t → args[j]? = some v → Value.okWide Tryd.prog W .any base t v)
    (hW : DataW.Whole enc Tryd.prog Tryd.f5.params.toList Rows.eventUnlikeSpec.vars false W args.toList ds gs before) (hL : laidMetH Tryd.prog Rows.eventUnlikeRow.laid W) :
    Calls Tryd.prog 5 args W fun e W' => ∃ v, e = .returned v ∧ Rows.eventUnlikeSpec.post enc Tryd.prog Tryd.f5 false true false false W args v W' := by
  have hW' := hW
  obtain ⟨p, q, hA0, hV, rfl, hfz, hnd⟩ := hW
  have hA : DataW.TrodAll enc Tryd.prog W 0 (fun _ => true) true Tryd.f5.params.toList args.toList ds p := hA0
  rw [Tryd.params5] at hA hval
  obtain ⟨v0, vs0, d0, ds0, p0, q0, hargs, rfl, rfl, h0, r0⟩ := trodAll_cons hA
  obtain ⟨v1, vs1, d1, ds1, p1, q1, rfl, rfl, rfl, h1, r1⟩ := trodAll_cons r0
  obtain ⟨rfl, rfl, rfl⟩ := trodAll_nil r1
  obtain rfl : args = #[v0, v1] := by cases args; simp_all
  obtain ⟨rfl, rfl⟩ := trodVars_none hV
  have hF := laid_facts hL (by kernel_rfl) (List.mem_of_getElem? (i := 3) (by kernel_rfl)) (List.mem_of_getElem? (i := 2) (by kernel_rfl))
  obtain ⟨c00, c01, c02, c03, c04, y00, y01, y02, y03, y04, m0, rfl, hy00, hy01, hy02, hy03, hy04⟩ := open_fields5 Tryd.underlying31 (by kernel_rfl) (by kernel_rfl) (hval 0 31 v0 rfl rfl) h0
  obtain ⟨k0, e0, -, wk0⟩ := DataW.trod_int Tryd.underlying3 hy00
  obtain ⟨s0, e1, -, hs0⟩ := DataW.trod_string Tryd.underlying9 hy01
  obtain ⟨f0, e2, -⟩ := DataW.trod_bool Tryd.underlying4 hy02
  obtain ⟨cc0, e3, -, wc0⟩ := DataW.trod_int Tryd.underlying5 hy03
  obtain ⟨n0, e4, -, wn0⟩ := DataW.trod_int Tryd.underlying3 hy04
  simp at e0 e1 e2 e3 e4; subst e0 e1 e2 e3 e4
  have bc0 := bounds_u8 wc0
  have bn0 := bounds_i64 wn0
  obtain ⟨c10, c11, c12, c13, c14, y10, y11, y12, y13, y14, m1, rfl, hy10, hy11, hy12, hy13, hy14⟩ := open_fields5 Tryd.underlying31 (by kernel_rfl) (by kernel_rfl) (hval 1 31 v1 rfl rfl) h1
  obtain ⟨k1, e0, -, wk1⟩ := DataW.trod_int Tryd.underlying3 hy10
  obtain ⟨s1, e1, -, hs1⟩ := DataW.trod_string Tryd.underlying9 hy11
  obtain ⟨f1, e2, -⟩ := DataW.trod_bool Tryd.underlying4 hy12
  obtain ⟨cc1, e3, -, wc1⟩ := DataW.trod_int Tryd.underlying5 hy13
  obtain ⟨n1, e4, -, wn1⟩ := DataW.trod_int Tryd.underlying3 hy14
  simp at e0 e1 e2 e3 e4; subst e0 e1 e2 e3 e4
  have bc1 := bounds_u8 wc1
  have bn1 := bounds_i64 wn1
  clear hA0
  refine (eventUnlike_any k0 k1 s0 s1 f0 f1 cc0 cc1 n0 n1 W hs0 hs1 (by omega) (by omega) (by omega) (by omega) hF).mono fun e W' ⟨he, hb⟩ => ⟨_, he, ?_⟩
  exact law_post (by decide +kernel) rfl rfl rfl hW' hb

noncomputable def witWorld (os : Os) : World := laidWorld os Rows.eventUnlikeRow.laid
theorem laid_met (os : Os) : laidMet Tryd.prog Rows.eventUnlikeRow.laid ((witWorld os).forCall (fun _ _ => 0) ⟨#[], #[.agg #[.int .i64 0, .string .empty, .bool false, .int .u8 0, .int .i64 0], .agg #[.int .i64 0, .string .empty, .bool false, .int .u8 0, .int .i64 0]], []⟩).memory :=
  laidMet_of_run' 8 (by kernel_rfl) (by kernel_rfl)
theorem reads (os : Os) {H : Type} (enc : TypeId × Value → H) : ∃ places, DataW.whole enc Tryd.prog ((witWorld os).forCall (fun _ _ => 0) ⟨#[], #[.agg #[.int .i64 0, .string .empty, .bool false, .int .u8 0, .int .i64 0], .agg #[.int .i64 0, .string .empty, .bool false, .int .u8 0, .int .i64 0]], []⟩).memory Tryd.f5.params.toList Rows.eventUnlikeSpec.vars false (#[.agg #[.int .i64 0, .string .empty, .bool false, .int .u8 0, .int .i64 0], .agg #[.int .i64 0, .string .empty, .bool false, .int .u8 0, .int .i64 0]] : Array Value).toList 8 = some ([.agg [.lit (.int .i64 0), .lit (.string []), .lit (.bool false), .lit (.int .u8 0), .lit (.int .i64 0)], .agg [.lit (.int .i64 0), .lit (.string []), .lit (.bool false), .lit (.int .u8 0), .lit (.int .i64 0)]], [], places) :=
  ⟨[], by kernel_rfl⟩

set_option maxRecDepth 100000 in
theorem lifted (os : Os) (started : os.Started) (H : Type) (enc : TypeId × Value → H) (F : Stop.Interp) :
    ReturnsInHanded {} Tryd.checked os 5 .any ((OpenSpec.ofChange Rows.eventUnlikeSpec).preRow enc Tryd.prog Tryd.f5 Rows.eventUnlikeRow.domain false Rows.eventUnlikeRow.laid) (((OpenSpec.ofChange Rows.eventUnlikeSpec).at F).post enc Tryd.prog Tryd.f5 false true false false) := by
  obtain ⟨places, hx⟩ := reads os enc
  refine returnsInHanded_of_row (C := Tryd.checked) (s := (OpenSpec.ofChange Rows.eventUnlikeSpec)) law_own started (by kernel_rfl) Tryd.func5
    (witness_row_at (enc := enc) (C := Tryd.checked) false (witWorld os) #[.agg #[.int .i64 0, .string .empty, .bool false, .int .u8 0, .int .i64 0], .agg #[.int .i64 0, .string .empty, .bool false, .int .u8 0, .int .i64 0]] rfl (by kernel_rfl) (by kernel_rfl) (by kernel_rfl)
      (OpenSpec.preRow_of_cond 8 hx (by kernel_rfl) (fun k hk => by cases hk) (by kernel_rfl) (laid_met os))) ?_
  intro W base args ds gs before hval hW _ _ _ hL _ _
  exact contract H enc W base args ds gs before hval hW hL

theorem said : Rows.EventUnlikeSaid :=
  OpenClaim.holds_of_cond 5 Tryd.f5 rfl rfl rfl rfl rfl rfl rfl ⟨rfl, rfl, rfl, rfl, rfl⟩ rfl rfl rfl rfl rfl (by kernel_rfl) Tryd.func5 (by kernel_rfl)
    (of_decide_eq_true (by kernel_rfl)) (by unfold Func.isWrapper; first | (rw [if_pos (by decide +kernel)]; kernel_rfl) | (rw [if_neg (by decide +kernel)]; exact ⟨rfl, rfl⟩))
    (fun os started H enc _ F => by rw [OpenClaim.pre_eq_preRow]; exact lifted os started H enc F)

theorem plain (f : FuncId) (fn : Func) (hf : Tryd.pinned.checked.prog.funcNamed "polliwog/polliwoglaw10.EventUnlike" = some f) (hfn : Tryd.pinned.checked.prog.funcs[f]? = some fn) :
    false = Tryd.pinned.checked.prog.looks [] ∧ ∀ (j : Nat) t, fn.params[j]? = some t → Tryd.pinned.checked.prog.wantsStandIn t = false := by
  obtain rfl : f = 5 := Option.some.inj ((show Tryd.prog.funcNamed "polliwog/polliwoglaw10.EventUnlike" = some 5 by kernel_rfl).symm.trans hf) |>.symm
  obtain rfl : fn = Tryd.f5 := (Option.some.inj (Tryd.func5.symm.trans hfn)).symm
  refine ⟨by kernel_rfl, fun j t ht => ?_⟩
  have hall : (Tryd.f5.params.toList.all fun t => Tryd.prog.wantsStandIn t == false) = true := by kernel_rfl
  have := List.all_eq_true.1 hall t (by rw [Array.mem_toList_iff]; exact Array.mem_of_getElem? ht)
  exact eq_of_beq this

theorem card : Rows.EventUnlikeCardSaid :=
  Claim7.holds_tied_plain_at .later [] _ _ _ _ said (fun _ h => by cases h) (by kernel_rfl) (fun _ h => by cases h) eventUnlike_row_tie rfl ⟨rfl, rfl⟩ (by kernel_rfl) rfl plain (by kernel_rfl)
end Go.Proofs.YtfjnpneopaljjaaDoor.EvUnl
