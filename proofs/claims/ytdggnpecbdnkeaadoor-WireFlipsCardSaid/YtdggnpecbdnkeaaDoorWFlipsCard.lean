/-
  PROVED: the statement WireFlips (its card): whatever the input, the call returns true, and each argument reads as before. No condition of ours.
-/
import Derived.Test.YtdggnpecbdnkeaaDoorCards
import Derived.Test.YtdggnpecbdnkeaaDoorTie
import Derived.Test.YtdggnpecbdnkeaaDoorLaw
import Derived.Test.YtdggnpecbdnkeaaDoorLaidU
import Derived.Test.YtdggnpecbdnkeaaDoorWireFlips
import Derived.Test.YtdggnpecbdnkeaaDoorOpenInts
import Derived.Deep.DeepHandedRow
import Derived.Deep.CondSized
set_option linter.unusedVariables false
set_option linter.unusedSimpArgs false
namespace Go.Proofs.YtdggnpecbdnkeaaDoor.WFlips
open Go.ChangeShapes Go.WideShapes Go.ChangeAt Go.RowKit Go.Joins
open Go.ChangeMaps (open_string shut_string)

set_option maxHeartbeats 1000000 in
set_option maxRecDepth 100000 in
theorem contract (H : Type) (enc : TypeId × Value → H) (W : World) (base : Nat) (args : Array Value) (ds gs : List (DataW H)) (before : List MemPlace)
    (hval : ∀ (j : Nat) t v, Tryd.f12.params[j]? = some t → args[j]? = some v → Value.okWide Tryd.prog W .any base t v)
    (hW : DataW.Whole enc Tryd.prog Tryd.f12.params.toList Rows.wireFlipsSpec.vars false W args.toList ds gs before) (hL : laidMetH Tryd.prog Rows.wireFlipsRow.laid W) :
    Calls Tryd.prog 12 args W fun e W' => ∃ v, e = .returned v ∧ Rows.wireFlipsSpec.post enc Tryd.prog Tryd.f12 false true false false W args v W' := by
  have hW' := hW
  obtain ⟨p, q, hA0, hV, rfl, hfz, hnd⟩ := hW
  have hA : DataW.TrodAll enc Tryd.prog W 0 (fun _ => true) true Tryd.f12.params.toList args.toList ds p := hA0
  rw [Tryd.params12] at hA hval
  obtain ⟨v0, vs0, d0, ds0, p0, q0, hargs, rfl, rfl, h0, r0⟩ := trodAll_cons hA
  obtain ⟨v1, vs1, d1, ds1, p1, q1, rfl, rfl, rfl, h1, r1⟩ := trodAll_cons r0
  obtain ⟨v2, vs2, d2, ds2, p2, q2, rfl, rfl, rfl, h2, r2⟩ := trodAll_cons r1
  obtain ⟨rfl, rfl, rfl⟩ := trodAll_nil r2
  obtain rfl : args = #[v0, v1, v2] := by cases args; simp_all
  obtain ⟨rfl, rfl⟩ := trodVars_none hV
  obtain ⟨ca0, ca1, ca2, ca3, ca4, ca5, ca6, ca7, ya0, ya1, ya2, ya3, ya4, ya5, ya6, ya7, ma, rfl, hya0, hya1, hya2, hya3, hya4, hya5, hya6, hya7⟩ := open_fields8 Tryd.underlying65 (by kernel_rfl) (by kernel_rfl) (hval 0 65 v0 rfl rfl) h0
  obtain ⟨ka, e0, -, wka⟩ := DataW.trod_int Tryd.underlying3 hya0
  obtain ⟨sqa, e1, -, wsqa⟩ := DataW.trod_int Tryd.underlying3 hya1
  obtain ⟨na, e2, -, wna⟩ := DataW.trod_int Tryd.underlying3 hya2
  obtain ⟨psa, e3, -, wpsa⟩ := DataW.trod_int Tryd.underlying3 hya3
  obtain ⟨mra, e4, -, wmra⟩ := DataW.trod_int Tryd.underlying3 hya4
  obtain ⟨lva, la, e5, hla, wla⟩ := ints_of_trod Tryd.underlying63 Tryd.underlying3 (by kernel_rfl) hya5
  obtain ⟨selfa, e6, -⟩ := DataW.trod_bool Tryd.underlying4 hya6
  obtain ⟨da, e7, -, hda⟩ := DataW.trod_string Tryd.underlying9 hya7
  simp at e0 e1 e2 e3 e4 e5 e6 e7; subst e0 e1 e2 e3 e4 e5 e6 e7
  obtain ⟨pp, rfl, rfl, rfl, wpp⟩ := open_int Tryd.underlying3 (hval 1 3 v1 rfl rfl) h1
  obtain ⟨mm, rfl, rfl, rfl, wmm⟩ := open_int Tryd.underlying24 (hval 2 24 v2 rfl rfl) h2
  have bm := bounds_u32 wmm
  obtain ⟨m', rfl⟩ : ∃ m' : Nat, mm = (m' : Int) := ⟨mm.toNat, by omega⟩
  clear hA0
  refine (wireFlips_any ka sqa na psa mra ca5 la selfa da pp m' W hla hda (by omega)).mono fun e W' ⟨he, hb⟩ => ⟨_, he, ?_⟩
  exact law_post (by decide +kernel) rfl rfl rfl hW' hb

noncomputable def witWorld (os : Os) : World := laidWorld os Rows.wireFlipsRow.laid
theorem laid_met (os : Os) : laidMet Tryd.prog Rows.wireFlipsRow.laid ((witWorld os).forCall (fun _ _ => 0) ⟨#[], #[.agg #[.int .i64 0, .int .i64 0, .int .i64 0, .int .i64 0, .int .i64 0, .slice none 0 0, .bool false, .string .empty], .int .i64 0, .int .u32 0], []⟩).memory :=
  laidMet_of_run' 8 (by kernel_rfl) (by kernel_rfl)
theorem reads (os : Os) {H : Type} (enc : TypeId × Value → H) : ∃ places, DataW.whole enc Tryd.prog ((witWorld os).forCall (fun _ _ => 0) ⟨#[], #[.agg #[.int .i64 0, .int .i64 0, .int .i64 0, .int .i64 0, .int .i64 0, .slice none 0 0, .bool false, .string .empty], .int .i64 0, .int .u32 0], []⟩).memory Tryd.f12.params.toList Rows.wireFlipsSpec.vars false (#[.agg #[.int .i64 0, .int .i64 0, .int .i64 0, .int .i64 0, .int .i64 0, .slice none 0 0, .bool false, .string .empty], .int .i64 0, .int .u32 0] : Array Value).toList 8 = some ([.agg [.lit (.int .i64 0), .lit (.int .i64 0), .lit (.int .i64 0), .lit (.int .i64 0), .lit (.int .i64 0), .nil, .lit (.bool false), .lit (.string [])], .lit (.int .i64 0), .lit (.int .u32 0)], [], places) :=
  ⟨[], by kernel_rfl⟩

set_option maxRecDepth 100000 in
theorem lifted (os : Os) (started : os.Started) (H : Type) (enc : TypeId × Value → H) (F : Stop.Interp) :
    ReturnsInHanded {} Tryd.checked os 12 .any ((OpenSpec.ofChange Rows.wireFlipsSpec).preRow enc Tryd.prog Tryd.f12 Rows.wireFlipsRow.domain false Rows.wireFlipsRow.laid) (((OpenSpec.ofChange Rows.wireFlipsSpec).at F).post enc Tryd.prog Tryd.f12 false true false false) := by
  obtain ⟨places, hx⟩ := reads os enc
  refine returnsInHanded_of_row (C := Tryd.checked) (s := (OpenSpec.ofChange Rows.wireFlipsSpec)) law_own started (by kernel_rfl) Tryd.func12
    (witness_row_at (enc := enc) (C := Tryd.checked) false (witWorld os) #[.agg #[.int .i64 0, .int .i64 0, .int .i64 0, .int .i64 0, .int .i64 0, .slice none 0 0, .bool false, .string .empty], .int .i64 0, .int .u32 0] rfl (by kernel_rfl) (by kernel_rfl) (by kernel_rfl)
      (OpenSpec.preRow_of_cond 8 hx (by kernel_rfl) (fun k hk => by cases hk) (by kernel_rfl) (laid_met os))) ?_
  intro W base args ds gs before hval hW _ _ _ hL _ _
  exact contract H enc W base args ds gs before hval hW hL

theorem said : Rows.WireFlipsSaid :=
  OpenClaim.holds_of_cond 12 Tryd.f12 rfl rfl rfl rfl rfl rfl rfl ⟨rfl, rfl, rfl, rfl, rfl⟩ rfl rfl rfl rfl rfl (by kernel_rfl) Tryd.func12 (by kernel_rfl)
    (of_decide_eq_true (by kernel_rfl)) (by unfold Func.isWrapper; first | (rw [if_pos (by decide +kernel)]; kernel_rfl) | (rw [if_neg (by decide +kernel)]; exact ⟨rfl, rfl⟩))
    (fun os started H enc _ F => by rw [OpenClaim.pre_eq_preRow]; exact lifted os started H enc F)

theorem plain (f : FuncId) (fn : Func) (hf : Tryd.pinned.checked.prog.funcNamed "polliwog/polliwoglaw07.WireFlips" = some f) (hfn : Tryd.pinned.checked.prog.funcs[f]? = some fn) :
    false = Tryd.pinned.checked.prog.looks [] ∧ ∀ (j : Nat) t, fn.params[j]? = some t → Tryd.pinned.checked.prog.wantsStandIn t = false := by
  obtain rfl : f = 12 := Option.some.inj ((show Tryd.prog.funcNamed "polliwog/polliwoglaw07.WireFlips" = some 12 by kernel_rfl).symm.trans hf) |>.symm
  obtain rfl : fn = Tryd.f12 := (Option.some.inj (Tryd.func12.symm.trans hfn)).symm
  refine ⟨by kernel_rfl, fun j t ht => ?_⟩
  have hall : (Tryd.f12.params.toList.all fun t => Tryd.prog.wantsStandIn t == false) = true := by kernel_rfl
  have := List.all_eq_true.1 hall t (by rw [Array.mem_toList_iff]; exact Array.mem_of_getElem? ht)
  exact eq_of_beq this

theorem card : Rows.WireFlipsCardSaid :=
  Claim7.holds_tied_plain_at .later [] _ _ _ _ said (fun _ h => by cases h) (by kernel_rfl) (fun _ h => by cases h) wireFlips_row_tie rfl ⟨rfl, rfl⟩ (by kernel_rfl) rfl plain (by kernel_rfl)
end Go.Proofs.YtdggnpecbdnkeaaDoor.WFlips
