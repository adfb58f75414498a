/-
  Part of a proof, written small.
-/
import Derived.Test.YtlkceignfhnpoaaGreatDoorS1SASLSOSY39
import Derived.Test.YtlkceignfhnpoaaGreatDoorCards
import Derived.Test.YtlkceignfhnpoaaGreatDoorTie
import Derived.Deep.CondSized
set_option linter.all false
set_option maxRecDepth 100000
set_option maxHeartbeats 1000000
section
namespace Go.Proofs.YtlkceignfhnpoaaGreatDoor.SScripts
open Go.ChangeShapes Go.WideShapes Go.ChangeAt Go.RowKit Go.Joins
open Go.ChangeMaps (open_string shut_string)
theorem contract (H:Type) (enc:TypeId×Value->H) (W:World) (base:Nat) (args:Array Value) (ds gs:List (DataW H)) (before:List MemPlace)
 (hval:∀(j:Nat)t v,Tryz.f6.params[j]? =some t->args[j]? =some v->Value.okWide Tryz.prog W .any base t v)
 (hW:DataW.Whole enc Tryz.prog Tryz.f6.params.toList Rows.polliwogScriptsSpec.vars false W args.toList ds gs before) (hL:laidMetH Tryz.prog Rows.polliwogScriptsRow.laid W) (hsh:W.ShapedOpen Tryz.prog):
 Calls Tryz.prog 6 args W fun e W'=>∃v,e=.returned v/\Rows.polliwogScriptsSpec.post enc Tryz.prog Tryz.f6 false true false false W args v W':=by
 have hW':=hW;obtain⟨p,q,hA0,hV,rfl,hfz,hnd⟩:=hW;have hA:DataW.TrodAll enc Tryz.prog W 0 (fun _=>true) true Tryz.f6.params.toList args.toList ds p:=hA0;rw[Tryz.params6]at hA hval;obtain⟨v0,vs0,d0,ds0,p0,q0,hargs,rfl,rfl,h0,r0⟩:=trodAll_cons hA;obtain⟨rfl,rfl,rfl⟩:=trodAll_nil r0;obtain rfl:args=#[v0]:=by cases args;simp_all
 obtain⟨rfl,rfl⟩:=trodVars_none hV;have hF:=XP hsh hL (by kernel_rfl) (List.mem_of_getElem? (i:=4) (by kernel_rfl)) (List.mem_of_getElem? (i:=2) (by kernel_rfl));obtain⟨a,rfl,rfl,rfl,ha⟩:=open_string Tryz.underlying9 (hval 0 9 v0 rfl rfl) h0;clear hA0;refine(O4 W hF a).mono fun e W'⟨he,hb⟩=>⟨_,he,?_⟩;exact Vp (by decide+kernel) rfl rfl rfl hW' hb
noncomputable def witWorld(os:Os):World:=Vu os Rows.polliwogScriptsRow.laid
theorem laid_met(os:Os):laidMet Tryz.prog Rows.polliwogScriptsRow.laid ((witWorld os).forCall (fun _ _=>0) ⟨#[],#[.string .empty],[]⟩).memory:=
 laidMet_of_run' 8 (by kernel_rfl) (by kernel_rfl)
theorem reads(os:Os){H:Type}(enc:TypeId×Value->H):∃places,DataW.whole enc Tryz.prog ((witWorld os).forCall (fun _ _=>0) ⟨#[],#[.string .empty],[]⟩).memory Tryz.f6.params.toList Rows.polliwogScriptsSpec.vars false (#[.string .empty]:Array Value).toList 8=some ([.lit (.string [])],[],places):=
 ⟨[],by kernel_rfl⟩
theorem lifted (os:Os) (started:os.Started) (H:Type) (enc:TypeId×Value->H) (F:Stop.Interp):
 ReturnsInHanded {} Tryz.checked os 6 .any ((OpenSpec.ofChange Rows.polliwogScriptsSpec).preRow enc Tryz.prog Tryz.f6 Rows.polliwogScriptsRow.domain false Rows.polliwogScriptsRow.laid) (((OpenSpec.ofChange Rows.polliwogScriptsSpec).at F).post enc Tryz.prog Tryz.f6 false true false false):=by
 obtain⟨places,hx⟩:=reads os enc;refine returnsInHanded_of_row (C:=Tryz.checked) (s:=(OpenSpec.ofChange Rows.polliwogScriptsSpec)) Vq started (by kernel_rfl) Tryz.func6
  (witness_row_at (enc:=enc) (C:=Tryz.checked) false (witWorld os) #[.string .empty] rfl (by kernel_rfl) (by kernel_rfl) (by kernel_rfl)
   (OpenSpec.preRow_of_cond 8 hx (by kernel_rfl) (fun k hk=>by cases hk) (by kernel_rfl) (laid_met os))) ?_
 intro W base args ds gs before hval hW _ _ _ hL hsh _;exact contract H enc W base args ds gs before hval hW hL hsh
theorem k10:(Rows.polliwogScriptsRow.inPlace==Tryz.prog.inPlace 6)=true:=by kernel_rfl
theorem k11:(Rows.polliwogScriptsRow.unfollowed==Tryz.prog.unfollowed 6)=true:=by kernel_rfl
theorem k12:(Rows.polliwogScriptsRow.recurses==Tryz.prog.recurses 6)=true:=by kernel_rfl
theorem k13:(Rows.polliwogScriptsRow.named==Tryz.prog.varsNamed 6)=true:=by kernel_rfl
theorem closed:joinedFacts Tryz.prog 6 Tryz.f6 (OpenSpec.ofChange Rows.polliwogScriptsSpec).bare Rows.polliwogScriptsRow=true:=by
 unfold joinedFacts;rw[k10,k11,k12,k13];kernel_rfl
theorem said:Rows.PolliwogScriptsSaid:=
 OpenClaim.holds_of_cond 6 Tryz.f6 rfl rfl rfl rfl rfl rfl rfl ⟨rfl,rfl,rfl,rfl,rfl⟩ rfl rfl rfl rfl rfl (by kernel_rfl) Tryz.func6 closed
  (of_decide_eq_true (by kernel_rfl)) (by unfold Func.isWrapper;first|(rw[if_pos (by decide+kernel)];kernel_rfl)|(rw[if_neg (by decide+kernel)];exact⟨rfl,rfl⟩))
  (fun os started H enc _ F=>by rw[OpenClaim.pre_eq_preRow];exact lifted os started H enc F)
theorem plain(f:FuncId)(fn:Func)(hf:Tryz.pinned.checked.prog.funcNamed "polliwog/polliwogtop.PolliwogScripts" =some f)(hfn:Tryz.pinned.checked.prog.funcs[f]? =some fn):
 true=Tryz.pinned.checked.prog.looks []/\∀(j:Nat)t,fn.params[j]? =some t->Tryz.pinned.checked.prog.wantsStandIn t=false:=by
 obtain rfl:f=6:=Option.some.inj ((show Tryz.prog.funcNamed "polliwog/polliwogtop.PolliwogScripts" =some 6 by kernel_rfl).symm.trans hf) |>.symm;obtain rfl:fn=Tryz.f6:=(Option.some.inj (Tryz.func6.symm.trans hfn)).symm;refine⟨by kernel_rfl,fun j t ht=>?_⟩;have hall:(Tryz.f6.params.toList.all fun t=>Tryz.prog.wantsStandIn t==false)=true:=by kernel_rfl
 have:=List.all_eq_true.1 hall t (by rw[Array.mem_toList_iff];exact Array.mem_of_getElem? ht);exact eq_of_beq this
theorem goes:false=Rows.polliwogScriptsRow.goesBy Tryz.pinned.checked.prog:=by kernel_rfl
theorem card:Rows.PolliwogScriptsCardSaid:=
 Claim7.holds_tied_plain_at .later [] _ _ _ _ said (fun _ h=>by cases h) (by kernel_rfl) (fun _ h=>by cases h) polliwogScripts_row_tie rfl ⟨rfl,rfl⟩ (by kernel_rfl) rfl plain goes
end Go.Proofs.YtlkceignfhnpoaaGreatDoor.SScripts
end
