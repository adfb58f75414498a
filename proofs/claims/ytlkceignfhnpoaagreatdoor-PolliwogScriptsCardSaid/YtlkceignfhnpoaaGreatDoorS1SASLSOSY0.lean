/-
  Part of a proof, written small.
-/
import Derived.KernelRfl
import Derived.Test.YtlkceignfhnpoaaGreatDoorRows
import Derived.ProofKit
import Derived.OpenShut
import Derived.JoinedCond
import Derived.Lib.SmallJoins
import Derived.Lib.LaidTab
import Derived.LaidSub
import Derived.Below
import Derived.Laws.Rows
import Derived.Deep.DeepHandedRow
import Derived.ChangeArms
import Derived.Lib.UnsafeStr
import Derived.Lib.Strings
import Derived.Lib.ItoaNum
import Derived.Test.YtlkceignfhnpoaaGreatDoorProg
import Derived.Lib.ItoaLen
import Derived.WalkSmall
import Derived.LaidLaws
import Derived.Shelf.Vars
import Derived.Lib.SplitLaws
import Derived.Lib.IndexBytes
set_option linter.all false
open Go.Proofs.Tryz
namespace Go.Proofs.YtlkceignfhnpoaaGreatDoor
abbrev af:=List UInt8
abbrev ahG:=Array Value
abbrev bj:=List Value
abbrev bm:=ByteArray
abbrev bn:=Value
abbrev bq:=UInt8
abbrev bt:=World
abbrev bW:=TypeId
abbrev c7:=Program
def dw:=@List.length_append
def ed:=@if_neg
def eh:=@if_pos
def ei:=@List.getElem?_eq_getElem
def el:=@Option.some.injEq
def eu:=@List.all_eq_true
def ev:=@Bool.and_eq_true
def fq:=@Nat.le_trans
def fy:=@List.take_succ_eq_append_getElem
def hH:=@List.length_cons
def mb:=@List.getElem?_cons_zero
def ml:=@decide_eq_true_eq
def my:=@List.mem_append
def nc:=@List.getElem?_eq_some_iff
def nl:=@List.length_take
def nm:=@List.mem_map
def nt:=@List.mem_filter
def pe:=@beq_eq_false_iff_ne
def pk:=@List.mem_cons
def pt:=@List.length_map
def qd:=@Nat.zero_le
def qe:=@Array.getD_eq_getD_getElem?
def qN:=@Array.getElem?_eq_getElem
def rq:=@if_true
def sv:=@List.mem_zipIdx_iff_getElem?
def tl:=@List.mem_cons_self
def ts:=@List.mem_cons_of_mem
def vh:=@List.length_drop
def wk:=@List.getElem_mem
def wm:=@List.take_of_length_le
def wo:=@Option.map_some
def wy:=@List.getElem?_eq_none
def w0:=@List.mem_of_getElem?
def x3:=@Nat.mod_eq_of_lt
def x4:=@List.pairwise_cons
def yt:=@Array.getElem?_eq_some_iff
def zs:=@List.take_length
def z6:=@List.getElem?_append_left
def z7:=@List.getElem?_map
def z8:=@decide_eq_true
def D0:=@List.length_filter_le
def ahH:=@Nat.zero_add
def HK:=@Nat.lt_or_ge
def HQ:=@decide_eq_false
def HT:=@Nat.le_succ
def HV:=@List.length_eq_zero_iff
def Lq:=@Nat.lt_of_lt_of_le
def NL:=@List.getElem?_drop
def N0:=@List.getD_eq_getElem?_getD
def Ob:=@Bool.or_eq_true
def Pp:=@Array.eq_empty_of_size_eq_zero
def P0:=@Array.length_toList
def RP:=@if_false
def RT:=@List.length_nil
def R1:=@List.getElem?_take
def R2:=@List.drop_eq_getElem_cons
def R3:=@decide_eq_false_iff_not
def SS:=@List.getElem?_cons_succ
def TB:=@List.eq_nil_of_length_eq_zero
def TC:=@Eq.trans
def X1:=@Bool.false_eq_true
def X2:=@List.take_append_drop
def X3:=@Nat.lt_succ_self
def ahE:=@List.size_toArray
def ahc:=@Bool.not_eq_true'
def ahd:=@Nat.mul_one
def acv:=@List.mem_of_mem_take
def ahe:=@List.pairwise_map
def ahf:=@Option.bind_some
def ahg:=@List.not_mem_nil
def ahh:=@List.map_append
def ahi:=@List.take_add_one
def ahj:=@List.length_eq_one_iff
def ahk:=@Nat.le_refl
def ahl:=@List.append_nil
def ahD:=@block_lt_of_cell
def ahn:=@Nat.and_two_pow_sub_one_eq_mod
def aho:=@List.getElem?_append_right
def ahp:=@List.ext_getElem?
def ahq:=@List.append_assoc
def ahr:=@beq_iff_eq
def ahs:=@Nat.add_zero
def aht:=@Nat.min_eq_left
def ahu:=@List.map_cons
def ahv:=@List.filter_eq_self
def ac2:=@Int.eq_ofNat_of_zero_le
def ahx:=@Option.toList_some
def ahB:=@BitVec.toNat_ofNat
def ahy:=@List.flatMap_cons
def ac6:=@Iff.rfl
def ac7:=@List.mem_append_right
def ac8:=@List.contains_iff_mem
def ac9:=@Bool.and_eq_false_imp
def adb:=@List.mem_range
def ade:=@List.getElem?_take_of_lt
def adf:=@Int.emod_nonneg
def adg:=@Nat.mul_le_mul_right
def adh:=@List.mem_of_mem_drop
def adi:=@List.mem_append_left
def adj:=@List.any_eq_true
def ahz:=@List.map_map
def adl:=@List.getElem?_set_self
def adm:=@Deep.hone_of
def adn:=@List.getElem_of_mem
def ado:=@List.length_singleton
def adp:=@List.mem_flatMap
def adq:=@Prod.mk.injEq
def adr:=@Nat.add_assoc
def ads:=@Nat.pow_le_pow_right
def adt:=@Int.le_refl
def adu:=@List.nil_append
def adv:=@List.foldl_cons
def adw:=@List.zipWith_append
def adx:=@Ne.symm
def ady:=@Nat.add_mul
def adz:=@Option.getD_some
def adA:=@List.filter_append
def adB:=@Int.tmod_eq_emod_of_nonneg
def adC:=@Int.emod_lt_of_pos
def adD:=@Array.getElem?_modify
def adE:=@Bool.eq_iff_iff
def adF:=@of_decide_eq_true
def adG:=@List.getElem?_set_ne
def adH:=@List.eq_of_mem_replicate
def adI:=@Array.ext'
def adJ:=@Array.getElem?_setIfInBounds_ne
def adK:=@List.map_congr_left
def adL:=@Int.toNat_of_nonneg
def adM:=@or_false
def adN:=@List.drop_zero
def adP:=@Nat.mod_lt
def adQ:=@List.mem_singleton
def adR:=@BitVec.toNat_shiftLeft
def adS:=@List.getElem?_toArray
def adT:=@ByteArray.size_append
def adV:=@List.drop_drop
def adZ:=@Int.natCast_emod
def ad0:=@BitVec.toNat_and
def ad1:=@List.pairwise_iff_getElem
def ad2:=@List.mem_of_find?_eq_some
def ad3:=@Classical.byContradiction
def ad4:=@List.length_pos_iff
def ad5:=@List.getElem?_range
def ad6:=@List.drop_succ_cons
def ad7:=@Option.isSome_iff_exists
def ad8:=@List.length_set
def ad9:=@List.find?_eq_none
def aeb:=@Int.natCast_dvd_natCast
def aef:=@Option.map_eq_some_iff
def aeg:=@List.take_zero
def aeh:=@List.pairwise_lt_range
def aei:=@List.getElem?_set
def aej:=@List.foldl_append
def aek:=@List.flatten_cons
def ael:=@ByteArray.data_append
def aem:=@Array.getElem?_toList
def aen:=@Nat.shiftLeft_eq
def aeo:=@List.filter_cons
def aer:=@BitVec.toNat_xor
def aes:=@List.all_cons
def aet:=@Bool.and_true
def aeu:=@List.Pairwise.filter
def aev:=@Int.emod_emod_of_dvd
def aew:=@BitVec.ofInt_natCast
def aex:=@Option.map_none
def aey:=@List.all_append
def aez:=@Array.getElem?_setIfInBounds
def aeA:=@List.take_succ_cons
def aeC:=@Array.getElem?_push
def aeD:=@getElem!_pos
def aeG:=@Nat.le_of_lt
def aeH:=@UInt8.toNat_ofNat'
def aeI:=@List.nodup_iff_pairwise_ne
def aeK:=@BitVec.toNat_ofInt
def aeL:=@Array.ext_getElem?
def aeN:=@List.nodup_append
def aeO:=@List.map_take
def aeP:=@List.getElem_append_left
def aeQ:=@List.Pairwise.imp_of_mem
def aeR:=@ByteArray.ext
def aeS:=@List.isEmpty_iff
def aeT:=@Array.toList_map
def aeV:=@Nat.le_of_eq
def aeW:=@List.range_succ_eq_map
def aeX:=@List.map_set
def aeY:=@List.drop_of_length_le
def aeZ:=@List.drop_eq_nil_of_le
def ae0:=@Array.getElem?_eq_none
def ae3:=@Nat.two_pow_pos
def ae4:=@Nat.pow_dvd_pow
def ae5:=@List.nodup_cons
def ae7:=@Int.natCast_sub
def ae8:=@List.singleton_append
def ae9:=@List.getElem?_zipWith
def afa:=@List.eq_nil_or_concat
def afb:=@List.concat_eq_append
def afc:=@BitVec.eq_of_toNat_eq
def afe:=@Nat.one_mul
def aff:=@List.take_take
def afg:=@List.mem_iff_getElem
def afh:=@Bool.or_eq_false_iff
def afi:=@Array.toArray_toList
def afk:=@List.map_eq_flatMap
def afl:=@List.flatMap_append
def afp:=@Bool.or_eq_true_iff
def afq:=@Array.toList_zipIdx
def afu:=@Nat.mod_eq_sub_mod
def afv:=@Nat.lt_or_gt_of_ne
def afw:=@List.findIdx?_eq_some_iff_getElem
def afy:=@not_true_eq_false
def afz:=@and_self
def afA:=@Nat.mul_comm
def afB:=@List.getElem_take
def afC:=@List.find?_append
def afD:=@Int.toNat_natCast
def afE:=@Array.all_eq_true_iff_forall_mem
def afF:=@Nat.le_of_not_lt
def afG:=@List.zipIdx_cons
def afH:=@List.getElem!_eq_getElem?_getD
def afI:=@List.eq_nil_iff_forall_not_mem
def afJ:=@List.Nodup.length_le_of_subset
def afM:=@BitVec.xor_assoc
def afO:=@List.take_left'
def afR:=@Nat.testBit_or
def afS:=@List.drop_take
def afT:=@Nat.shiftRight_eq_div_pow
def afU:=@List.findIdx?_eq_none_iff
def afW:=@List.sum_cons
def afX:=@Lib.index_one
def afY:=@Bool.true_and
def afZ:=@Array.getElem?_replicate
def af0:=@Array.ext
def af1:=@Nat.lt_trans
def af2:=@Nat.add_comm
def af3:=@List.all_nil
def af5:=@Nat.le_of_ble_eq_true
def af6:=@List.set_append_right
def af7:=@List.length_replicate
def af8:=@List.getElem?_reverse
def af9:=@List.count_cons_of_ne
def agh:=@List.pairwise_append
def agi:=@List.length_eraseIdx
def agj:=@List.getElem_zipWith
def agk:=@List.getElem?_of_mem
def agl:=@List.count_le_length
def agm:=@BitVec.msb_eq_decide
def agn:=@Array.replicate_zero
def ago:=@Array.replicate_succ
def agp:=@Array.map_congr_left
def agq:=@Array.getElem_toList
def agt:=@List.take_set_of_le
def agu:=@List.length_take_le
def agv:=@List.filter_sublist
def agw:=@List.drop_set_of_lt
def agx:=@List.drop_replicate
def agy:=@List.append_toArray
def agz:=@Array.toList_append
def agC:=@Option.isSome_some
def agD:=@Option.isSome_none
def agE:=@Nat.xor_lt_two_pow
def agH:=@Array.toList_range
def agI:=@Array.getElem?_map
def agJ:=@Array.extract_size
variable{W w A:bt}{d:bm}{p:Prop}{P:c7}{t e:bW}{n g B i:Nat}{v:bn}{a k sq q:Int}{H:Type}{enc:bW×bn->H}{l:List (String×DataW Unit)}{r:Reach}{m o s y z:Field}{name:String}{ss:List (af)}
def V(h:p:=by omega):p:=h
def U(h:p:=by kernel_rfl):p:=h
def J(h:p:=by simp):p:=h
def I(h:p:=by decide):p:=h
def LL(h:p:=by repeat' first|kernel_rfl|(intro w;kernel_rfl)|decide|constructor):p:=h
def Z:n<=n:=ahk n
section
open Go.ChangeAt Go.ChangeShapes Go.RowKit Go.WideShapes
def Vq:ownKnob prog.godebug=none:=U
def Vr:laidOutB prog=true:=U
def EF(e:laidOutB P=true)(d:Below W.heap.size W A):
 ∀{a:List bW}{vs:bj}{ds:List (DataW H)}{ps:List MemPlace},(∀t∈a,P.readableRec t=true/\t<P.types.size)->DataW.TrodAll enc P W 0 (fun _=>true) true a vs ds ps->
  (∀x∈ps,x.block<W.heap.size)->DataW.TrodAll enc P A 0 (fun b=>decide (b<W.heap.size)) true a vs ds ps
 |[],_,_,_,_,h,_=>by
  obtain⟨rfl,rfl,rfl⟩:=trodAll_nil h;exact trodAll_mk0
 |t::a,_,_,_,hr,h,hlt=>by
  obtain⟨m,q,j,r,k,l,rfl,rfl,rfl,f,g⟩:=trodAll_cons h;exact trodAll_cons_mk (Below.trod e (hr t J).1 (hr t J).2 f d (fun x c=>hlt x (by simp[c])))
   (EF e d (fun i p=>hr i (by simp[p])) g (fun x c=>hlt x (by simp[c])))
def Vp{f:Func}{s:ChangeSpec}{args:ahG}{ds d:List (DataW H)}{b:List MemPlace}(j:∀t∈f.params.toList,prog.readableRec t=true/\t<prog.types.size)(c:f.resultTypes=#[4])(k:s.vars=[])(a:s.fn H (ds++d)={results:=[.lit (.bool true)],args:=ds})(e:DataW.Whole enc prog f.params.toList s.vars false W args.toList ds d b)(g:Below W.heap.size W A): s.post enc prog f false true false false W args (.bool true) A:=by have u:=e.lt;have r:=e;obtain⟨p,q,i,m,rfl,_,_⟩:=e;refine⟨ds,d,p++q,[],p,[],r,?_,?_,?_,g.frame _,fun h=>by cases h⟩;{rw[a,c];exact trodAll_cons_mk (shut_bool underlying4 true) trodAll_mk0};{rw[a];exact EF Vr g j i (fun x l=>u x (by simp[l]))};{rw[a,k];trivial}
section
variable{H:Type}{enc:bW × bn -> H}{P:c7}{w:bt}{base:Nat}{b:Nat -> Bool}{j:Bool}
def abq{d:DataW H}{p:List MemPlace}(f:P.underlying t=some (.struct #[m,o,s,y,z]))(a:Deep.oneCellFields P #[m,o,s,y,z]=true)(i:P.cellsOf t=5)(A:Value.okWide P w r B t v)(h:DataW.Trod enc P w base b j t v d p): ∃(e c1 c2 c3 c4:bn)(y0 y1 y2 y3 y4:DataW H×List MemPlace)(n:Nat),v=.agg #[e,c1,c2,c3,c4]/\DataW.trod enc P w base b j n m.type [e]=some y0/\DataW.trod enc P w base b j n o.type [c1]=some y1/\DataW.trod enc P w base b j n s.type [c2]=some y2/\DataW.trod enc P w base b j n y.type [c3]=some y3/\DataW.trod enc P w base b j n z.type [c4]=some y4:=by
 obtain⟨g,rfl,u⟩:=okWide_struct f A;obtain⟨l⟩:=g
 match l,u.trans i with
 |[e,c1,c2,c3,c4],_=>
  obtain⟨x,k⟩:=h;obtain⟨Q,n,_,R,_,q,c⟩:=DataW.trod_struct f k;obtain⟨K,C⟩:=adm a 0 m rfl;obtain⟨L,D⟩:=adm a 1 o rfl;obtain⟨M,E⟩:=adm a 2 s rfl;obtain⟨N,F⟩:=adm a 3 y rfl;obtain⟨O,G⟩:=adm a 4 z rfl
  match Q,q with
  |[y0,y1,y2,y3,y4],_=>
   exact⟨e,c1,c2,c3,c4,y0,y1,y2,y3,y4,n,rfl,by simpa[Value.cells,K,C]using c 0 m rfl,by simpa[Value.cells,L,D]using c 1 o rfl,by simpa[Value.cells,M,E]using c 2 s rfl,by simpa[Value.cells,N,F]using c 3 y rfl,by simpa[Value.cells,O,G]using c 4 z rfl⟩
def abp{e f g:Field}{d:DataW H}{p:List MemPlace}(C:P.underlying t=some (.struct #[m,o,s,y,z,e,f,g]))(a:Deep.oneCellFields P #[m,o,s,y,z,e,f,g]=true)(E:P.cellsOf t=8)(G:Value.okWide P w r B t v)(h:DataW.Trod enc P w base b j t v d p): ∃(i c1 c2 c3 c4 c5 k A:bn)(y0 y1 y2 y3 y4 y5 y6 y7:DataW H×List MemPlace)(n:Nat),v=.agg #[i,c1,c2,c3,c4,c5,k,A]/\DataW.trod enc P w base b j n m.type [i]=some y0/\DataW.trod enc P w base b j n o.type [c1]=some y1/\DataW.trod enc P w base b j n s.type [c2]=some y2/\DataW.trod enc P w base b j n y.type [c3]=some y3/\DataW.trod enc P w base b j n z.type [c4]=some y4/\DataW.trod enc P w base b j n e.type [c5]=some y5/\DataW.trod enc P w base b j n f.type [k]=some y6/\DataW.trod enc P w base b j n g.type [A]=some y7:=by
 obtain⟨D,rfl,u⟩:=okWide_struct C G;obtain⟨l⟩:=D
 match l,u.trans E with
 |[i,c1,c2,c3,c4,c5,k,A],_=>
  obtain⟨x,F⟩:=h;obtain⟨xs,n,_,hx,_,q,c⟩:=DataW.trod_struct C F;obtain⟨T,K⟩:=adm a 0 m rfl;obtain⟨W,L⟩:=adm a 1 o rfl;obtain⟨X,M⟩:=adm a 2 s rfl;obtain⟨Y,N⟩:=adm a 3 y rfl;obtain⟨o4,O⟩:=adm a 4 z rfl;obtain⟨o5,Q⟩:=adm a 5 e rfl;obtain⟨o6,R⟩:=adm a 6 f rfl;obtain⟨o7,S⟩:=adm a 7 g rfl
  match xs,q with
  |[y0,y1,y2,y3,y4,y5,y6,y7],_=>
   exact⟨i,c1,c2,c3,c4,c5,k,A,y0,y1,y2,y3,y4,y5,y6,y7,n,rfl,by simpa[Value.cells,T,K]using c 0 m rfl,by simpa[Value.cells,W,L]using c 1 o rfl,by simpa[Value.cells,X,M]using c 2 s rfl,by simpa[Value.cells,Y,N]using c 3 y rfl,by simpa[Value.cells,o4,O]using c 4 z rfl,by simpa[Value.cells,o5,Q]using c 5 e rfl,by simpa[Value.cells,o6,R]using c 6 f rfl,by simpa[Value.cells,o7,S]using c 7 g rfl⟩
end
end
def putCells(h:Array Obj)(g:Nat)(cs:bj):Array Obj:=h.modify g fun
 |.cells _ t frozen=>.cells cs.toArray t frozen
 |o=>o
def ID:Nat->DataW Unit->bj
 |0,_=>[]
 |n+1,.agg l=>l.flatMap (ID n)
 |_+1,.lit (.int k n)=>[.int k n]
 |_+1,.lit (.string s)=>[.string ⟨s.toArray⟩]
 |_+1,.lit (.bool b)=>[.bool b]
 |_+1,_=>[]
noncomputable def Vu(os:Os)(l:List (String×DataW Unit)):bt:=
 {World.holding prog os ⟨#[],#[],[]⟩with heap:=l.foldl (fun h x=>putCells h ((prog.globalNamed x.1).getD 0) (ID 6 x.2)) (World.holding prog os ⟨#[],#[],[]⟩).heap}
section
open Go
def CB{n:String}{d:DataW Unit}:∀{l:List (String×DataW Unit)}{ps:List MemPlace},DataW.LaidVars P w l ps->(n,d)∈l->
 ∃g t b a p,P.globalNamed n=some g/\(P.globals[g]?).map (·.type)=some t/\w.var? P n=some b/\DataW.trod (fun _=>()) P w 0 (fun _=>true) false a t b.toList=some (d,p)
 |[],_,_,hm=>by cases hm
 |(n',d')::r,_,h,hm=>by
  obtain⟨g,t,b,a,p,q,f,i,j,k,m,_⟩:=h;rcases pk.1 hm with e|c
  ·cases e;exact⟨g,t,b,a,p,f,i,j,k⟩
  ·exact CB m c
def Ns{k:IntKind}{f:List Int}(m:P.globalNamed name=some g)(d:(P.globals[g]?).map (·.type)=some t)(w:P.underlying t=some (.array n e))(j:P.underlying e=some (.int k))(a:P.cellsOf e=1)(b:P.cellsOf t=n)(h:laidMetH P l W)(c:(l.all fun x=>x.2.handleName?.isNone)=true)(s:(name,Lib.tabData k f)∈l):Lib.TabIs P W name k f:=by replace h:=(laidMetH_iff.1 h).1;rw[ahv.2 (eu.1 c)]at h;obtain⟨A,o,_⟩:=h;obtain⟨z,B,y,v,p,u,r,q,i⟩:=CB o s;obtain rfl:=Option.some.inj (m.symm.trans u);obtain rfl:=Option.some.inj (d.symm.trans r);unfold Lib.TabIs;rw[q,<-Lib.cells_of_tab w j a b i]
def Y7{base:Nat}{D:Nat->Bool}{j:Bool}{a:Nat}{cs:bj}{p:List MemPlace}(B:P.underlying t=some (.array n e))(x:P.underlying e=some .string)(d:P.cellsOf e=1)(f:P.cellsOf t=n)(h:DataW.trod enc P w base D j a t cs=some (.agg (ss.map fun s=>.lit (.string s)),p)):cs=ss.map fun s=>Value.string ⟨s.toArray⟩:=by cases a with|zero=>simp[DataW.trod]at h|succ a=>{simp only[DataW.trod,B,d,f,ahd]at h;split at h;{rename_i E;obtain⟨g,k,C⟩:=aef.1 h;have q:g.map (·.1)=ss.map fun s=>(DataW.lit (.string s):DataW H):=by{have:=congrArg Prod.fst C;simpa using this};have u:g.length=n:=by{simpa using Lib.mapM_length k};have v:ss.length=n:=by{have:=congrArg List.length q;simp at this;omega};apply ahp;intro i;by_cases A:i<n;{obtain⟨b,m,y⟩:=Lib.mapM_at k i i (by simp[A]);obtain⟨z,o,rfl,_⟩:=DataW.trod_string x y;have l:cs[i]? =some (.string z):=by{have:=congrArg (·[0]?) o;simpa[R1,NL]using this};have c:(g.map (·.1))[i]? =some (DataW.lit (.string z.data.toList):DataW H):=by{simp[m]};rw[q]at c;simp only[z7,aef,DataW.lit.injEq,Lit.string.injEq]at c;obtain⟨F,r,rfl⟩:=c;simp[l,r]};{rw[wy V,wy (by simp;omega)]}};{cases h}}
def NN(f:P.globalNamed name=some g)(d:(P.globals[g]?).map (·.type)=some t)(y:P.underlying t=some (.array n e))(k:P.underlying e=some .string)(a:P.cellsOf e=1)(b:P.cellsOf t=n)(h:laidMetH P l W)(c:(l.all fun x=>x.2.handleName?.isNone)=true)(o:(name,.agg (ss.map fun s=>.lit (.string s)))∈l)(i:Nat)(s:af)(hi:ss[i]? =some s): W.cell? ⟨g,i,none⟩=some (.string ⟨s.toArray⟩):=by replace h:=(laidMetH_iff.1 h).1;rw[ahv.2 (eu.1 c)]at h;obtain⟨B,m,_⟩:=h;obtain⟨A,C,z,w,p,v,r,q,j⟩:=CB m o;obtain rfl:=Option.some.inj (f.symm.trans v);obtain rfl:=Option.some.inj (d.symm.trans r);have u:=Y7 y k a b j;have:=World.var?_cell f q i;rw[this,<-Array.getElem?_toList,u];simp[hi]
def acI{b:Nat}(h:W.cell? ⟨b,i,none⟩=some v):b<W.heap.size:=ahD h
end
section
open Go
def acH(d:Nat):bq:=if d<10 then UInt8.ofNat (48+d)else UInt8.ofNat (87+d)
def jL:af->af
 |[]=>[]
 |c::t=>acH (c.toNat/16)::acH (c.toNat%16)::jL t
def iX(l:af):af:=if l=[]then[45]else jL l
def Wh(a b:af):jL (a++b)=jL a++jL b:=by induction a with|nil=>rfl|cons c t ih=>{simp[jL,ih]}
def CK(a:af):(jL a).length=2*a.length:=by induction a with|nil=>rfl|cons c t ih=>{simp[jL,ih];omega}
def Nm(s:bm)(k:Nat)(h:k<s.size):s.data.toList.take (k+1)=s.data.toList.take k++[s[k]]:=by rw[fy (by simpa using h)];rfl
def tq(a:af):(iX a).length<=2*a.length+1:=by unfold iX;split;{simp};{rw[CK];omega}
def Wg(s:bm)(k:Nat)(h:k<s.size):jL (s.data.toList.take (k+1))=jL (s.data.toList.take k)++[acH (s[k].toNat/16)]++[acH (s[k].toNat%16)]:=by rw[Nm s k h,Wh];simp[jL]
def Yj:∀d:Fin 16,((⟨#[48,49,50,51,52,53,54,55,56,57,97,98,99,100,101,102]⟩:bm)[d.val]'(d.isLt))=acH d.val:=I
def Kk{d:Nat}(h:d<16)(a:d<(⟨#[48,49,50,51,52,53,54,55,56,57,97,98,99,100,101,102]⟩:bm).size):((⟨#[48,49,50,51,52,53,54,55,56,57,97,98,99,100,101,102]⟩:bm)[d]'a)=acH d:=Yj ⟨d,h⟩
end
section
open Go
def dT(k:Int):af:=
 if k=1 then[101,115,116,97,98,108,105,115,104]else
 if k=2 then[101,115,116,97,98,108,105,115,104,101,100]else
 if k=3 then[114,101,108,101,97,115,101]else
 if k=4 then[114,101,108,101,97,115,101,100]else
 if k=5 then[114,101,115,121,110,99]else
 if k=6 then[114,101,115,121,110,99,101,100]else
 if k=7 then[114,101,99,111,118,101,114]else
 if k=8 then[100,97,116,97]else
 if k=9 then[117,110,105,116]else
 if k=10 then[109,97,110,97,103,101]else
 if k=11 then[114,101,116,114,105,101,118,101,100]else
 if k=12 then[101,114,114,111,114]else[]
def VP{c:Prop}[Decidable c]{a b:af}(d:a.length<=11)(e:b.length<=11):(if c then a else b).length<=11:=by split<;>assumption
def xU(k:Int):(dT k).length<=11:=by
 unfold dT;repeat' (refine VP ?_ ?_)
 all_goals decide
def fQ(k:Int)(data:af)(self:Bool)(a:Nat)(n:Int):af:=
 if k<1\/12<k then[]else
 if k=3 then dT 3++(if self then[32,115,101,108,102,32]else[32,117,115,101,114,32])++iX data else
 if k=1\/k=5\/(8<=k/\k<=11)then dT k++[32]++iX data else
 if k=12 then dT 12++[32,a.toUInt8]++(if a=86 then[32]++Lib.itoa n else[])else dT k
def Bu(a:Int):Nat:=if a=1\/a=3\/a=4 then 64 else if 7<=a/\a<=9 then 200 else 0
def reqCheck(a:Int)(b:Nat)(n:Int):Int:=
 if a<1\/11<a then 10 else
 if 0<Bu a/\Bu a<b then 6 else
 if Bu a=0/\b≠0 then 1 else
 if a≠10/\n≠0 then 1 else
 if a=10/\(n<1\/64<n)then 1 else 0
end
section
open Go.RowKit
structure oD(w:bt):Prop where
 words:∀i:Nat,1<=i->i<=12->w.cell? ⟨0,i,none⟩=some (.string ⟨(dT i).toArray⟩)
 wordsLt:0<w.heap.size
 pow:Lib.TabIs prog w "internal/strconv.uint64pow10" .u64 Lib.pow10Tab
 powLt:1<w.heap.size
 most:∃m,w.cell? ⟨2,0,none⟩=some (.int .i64 m)
def oD.below{w':bt}(h:oD w)(a:Below w.heap.size w w'):oD w':=by obtain⟨m,b⟩:=h.most;exact⟨fun i c d=>(a.cell h.wordsLt).trans (h.words i c d),Lq h.wordsLt a.size,var?_below a U h.powLt h.pow,Lq h.powLt a.size,m,(a.cell (ahD b)).trans b⟩
end
section
open Go.RowKit
def Em:List (af):=[[],dT 1,dT 2,dT 3,dT 4,dT 5,dT 6,dT 7,dT 8,dT 9,dT 10,dT 11,dT 12]
def KZ(h:w.cell? ⟨g,i,none⟩=some v):g<w.heap.size:=ahD h
def XP(c:W.ShapedOpen prog)(h:laidMetH prog l W)(a:(l.all fun x=>x.2.handleName?.isNone)=true)(d:("polliwog/event.words",.agg (Em.map fun s=>.lit (.string s)))∈l)(b:("internal/strconv.uint64pow10",Lib.tabData .u64 Lib.pow10Tab)∈l):oD W:=by
 have f:=fun i s j=>NN (P:=prog) (W:=W) (name:= "polliwog/event.words") (g:=0) (ss:=Em) U U underlying293 underlying9 U U h a d i s j;have e:Lib.TabIs prog W "internal/strconv.uint64pow10" .u64 Lib.pow10Tab:=Ns (P:=prog) (W:=W) (name:= "internal/strconv.uint64pow10") (g:=1) (k:=.u64) U U underlying327 underlying263 U U h a b;have n:∃m,W.cell? ⟨2,0,none⟩=some (.int .i64 m):=
  cell_of_shapedOpen_int (P:=prog) (t:=3) (zero:=#[.int .i64 0]) c (adF U) U rfl U U underlying3
 refine⟨fun i o p=>f i _ ?_,KZ (f 1 _ rfl),e,KZ (e.cell U 0 I),n⟩;have:i=1\/i=2\/i=3\/i=4\/i=5\/i=6\/i=7\/i=8\/i=9\/i=10\/i=11\/i=12:=V;rcases this with rfl|rfl|rfl|rfl|rfl|rfl|rfl|rfl|rfl|rfl|rfl|rfl<;>rfl
end
def Yz:BitVec 32:=79764919#32
def st(x:BitVec 32):BitVec 32:=(x<<<1)^^^(if x.msb then Yz else 0#32)
def gW:Nat->BitVec 32->BitVec 32
 |0,x=>x
 |n+1,x=>gW n (st x)
def LJ(a b c d:BitVec 32):(a^^^b)^^^(c^^^d)=(a^^^c)^^^(b^^^d):=by rw[afM,<-BitVec.xor_assoc b c d,BitVec.xor_comm b c,afM c b d,<-BitVec.xor_assoc]
def N3(x y:BitVec 32):st (x^^^y)=st x^^^st y:=by unfold st;rw[BitVec.shiftLeft_xor_distrib,BitVec.msb_xor,LJ];cases x.msb<;>cases y.msb<;>simp
def xO:∀(n:Nat)(x y:BitVec 32),gW n (x^^^y)=gW n x^^^gW n y
 |0,_,_=>rfl
 |n+1,x,y=>by show gW n (st (x^^^y))=_;rw[N3,xO n];rfl
def E6:∀(n:Nat)(x:BitVec 32),n<=32->x.toNat<2^(32-n)->gW n x=x<<<n
 |0,x,_,_=>by simp[gW]
 |n+1,x,hn,hx=>by
  have a:x.toNat<2^31:=Lq hx (ads (by decide) (by omega));have b:x.msb=false:=by rw[agm];simpa using a
  have c:st x=x<<<1:=by unfold st;rw[b,ed (by simp),BitVec.xor_zero]
  have d:(x<<<1).toNat=2*x.toNat:=by rw[adR,aen,x3 (by omega)];omega
  show gW n (st x)=_;rw[c,E6 n (x<<<1) (by omega) (by
   rw[d];have:2^(32-n)=2*2^(32-(n+1)):=by rw[show 32-n=(32-(n+1))+1 by omega,Nat.pow_succ];omega
   omega),<-BitVec.shiftLeft_add,af2]
def gV(b:Nat):BitVec 32:=BitVec.ofNat 32 (b*16777216)
def on(x:BitVec 32)(b:bq):BitVec 32:=gW 8 (x^^^gV b.toNat)
def run(x:BitVec 32)(l:af):BitVec 32:=l.foldl on x
def jm:BitVec 32:=4294967295#32
def nK(l:af):BitVec 32:=jm^^^run jm l
def kI(i:Nat):BitVec 32:=gW 8 (gV i)
def MU{a b:Nat}(c:a<256)(d:b<256):gV (a^^^b)=gV a^^^gV b:=by have e:a^^^b<256:=agE (n:=8) c d;apply afc;rw[aer];unfold gV;rw[ahB,ahB,ahB,x3 (by omega),x3 (by omega),x3 (by omega)];rw[show(16777216:Nat)=2^24 from rfl,<-Nat.shiftLeft_eq,<-Nat.shiftLeft_eq,<-Nat.shiftLeft_eq,Nat.shiftLeft_xor_distrib]
def Rh(x:BitVec 32)(b:bq):on x b=(x<<<8)^^^kI (x.toNat/16777216^^^b.toNat):=by
 have e:=b.toNat_lt;have f:x.toNat/16777216<256:=by{have:=x.isLt;omega};have a:(BitVec.ofNat 32 (x.toNat%16777216)).toNat=x.toNat%16777216:=by{rw[ahB];omega};have g:x=gV (x.toNat/16777216)^^^BitVec.ofNat 32 (x.toNat%16777216):=by{apply afc;rw[aer,a];unfold gV;rw[ahB,x3 (by omega)];have d:x.toNat/16777216*16777216^^^x.toNat%16777216=x.toNat/16777216*16777216+x.toNat%16777216:=by{rw[show(16777216:Nat)=2^24 from rfl,afA,Nat.two_pow_add_eq_or_of_lt (adP _ (show 0<2^24 by decide))];apply Nat.eq_of_testBit_eq;intro i;rw[Nat.testBit_xor,afR];by_cases h:i<24;{have:(2^24*(x.toNat/2^24)).testBit i=false:=by{rw[afA,<-Nat.shiftLeft_eq,Nat.testBit_shiftLeft];simp;omega};rw[this];simp};{have:(x.toNat%2^24).testBit i=false:=by{rw[Nat.testBit_mod_two_pow];simp;omega};rw[this];simp}};rw[d];omega};have c:x<<<8=BitVec.ofNat 32 (x.toNat%16777216)<<<8:=by{apply afc;rw[adR,adR,a,aen,aen];omega};unfold on kI;rw[c,<-E6 8 _ (by omega) (by rw[a];exact adP _ (by decide)),MU f e,xO 8 (gV _) (gV _)]
 conv=>lhs;rw[g]
 rw[xO,xO,BitVec.xor_comm (gW 8 (gV (x.toNat/16777216))),afM]
def ja(n:Nat):af:=[(n/16777216).toUInt8,(n/65536).toUInt8,(n/256).toUInt8,n.toUInt8]
theorem vq(n:Nat):(ja n).length=4:=rfl
def uz(q:Nat):bq:=(2^(7-q)).toUInt8
def Rg(q:Nat):(uz q).toNat=2^(7-q):=by unfold uz;simp only[Nat.toUInt8,aeH];exact x3 (Nat.pow_lt_pow_right I V)
def vR(l:af)(k:Nat)(c:Bool):af:=l.set (k/8) (l.getD (k/8) 0^^^(if c then uz (k%8)else 0))
def MQ(l:af)(k:Nat)(c:Bool):(vR l k c).length=l.length:=by simp[vR]
def iI(l:af)(p:Int)(m:Nat):Nat->af
 |0=>l
 |i+1=>if 0<=p+i/\p+i<8*(l.length:Int)then vR (iI l p m i) (p+i).toNat (m.testBit (31-i))else iI l p m i
def wI(l:af)(p:Int)(m:Nat):∀i,(iI l p m i).length=l.length
 |0=>rfl
 |i+1=>by
  unfold iI;split
  ·rw[MQ,wI l p m i]
  ·exact wI l p m i
def zC(l:af)(p:Int)(m:Nat):af:=iI l p m 32
def di(k:Int):Int:=if k=1\/k=5\/k=7\/k=3 then 64 else if k=8\/k=13\/k=14 then 200 else 0
def db(k:Int):Bool:=decide (k=1\/k=5\/k=2\/k=6\/k=9\/k=15\/k=7\/k=3\/k=4)
def sN(k:Int):Bool:=decide (k=1\/k=5\/k=2\/k=6\/k=9\/k=15\/k=8\/k=10\/k=11\/k=12)
def dv(k:Int):Int:=if k=11 then-1 else if k=12 then 2 else 0
def cV(k:Int):Bool:=decide (k=10\/k=11)
def cR(k:Int):Bool:=decide (k=11\/k=12)
def fS(k:Int):Bool:=decide (k=3)
def dD(k:Int):Bool:=decide (1<=k/\k<=15)
def cN(n:Int):Bool:=decide (n<16777216)
structure aK where
 t0:Int
 t1:Int
 t2:Int
 t3:Int
 t4:Int
 l0:Int
 l1:Int
 l2:Int
 l3:Int
 l4:Int
structure aK.ok(p:aK):Prop where
 t0:1<=p.t0/\p.t0<=1048576
 t1:1<=p.t1/\p.t1<=1048576
 t2:1<=p.t2/\p.t2<=1048576
 t3:1<=p.t3/\p.t3<=1048576
 t4:1<=p.t4/\p.t4<=1048576
 l0:0<=p.l0/\p.l0<=1048576
 l1:0<=p.l1/\p.l1<=1048576
 l2:0<=p.l2/\p.l2<=1048576
 l3:0<=p.l3/\p.l3<=1048576
 l4:0<=p.l4/\p.l4<=1048576
namespace aK
def watch(p:aK):aK:=if 0<p.l3 then p else {p with l3:=p.t3}
def fin(p:aK):aK:={p with l1:=0,l2:=0,l3:=0,l4:=0}
def begin_(p:aK):aK:={p with l1:=p.t1,l2:=0,l3:=p.t3,l4:=0}
def again(p:aK):aK:={p with l0:=p.t0}
def enough(p:aK):aK:={p with l0:=0}
def busy(p:aK):aK:=if 0<p.l2\/0<p.l4 then {p with l1:=p.t1,l2:=0,l4:=0}.watch else p
def polled(p:aK)(idle:Bool):aK:=if idle then {p with l1:=0,l2:=p.t2,l4:=0}.watch else {p with l1:=p.t1,l2:=0,l4:=0}.watch
def answered(p:aK)(idle:Bool):aK:=if idle=true/\0<p.l2 then {p with l2:=0,l3:=0,l4:=p.t4}else if 0<p.l4 then p else {p with l3:=p.t3}
def less(x:Int):Int:=if x=0 then 0 else x-1
def tick(p:aK):aK:={p with l0:=less p.l0,l1:=less p.l1,l2:=less p.l2,l3:=less p.l3,l4:=less p.l4}
def over(p:aK):List Int:=(if p.l0=1 then[0]else[])++((if p.l1=1 then[1]else[])++((if p.l2=1 then[2]else[])++((if p.l3=1 then[3]else[])++(if p.l4=1 then[4]else[]))))
end aK
structure bP where
 kind:Int
 data:bm
 self:Bool
 code:Int
 n:Int
structure UnitS where
 kind:Int
 sq:Int
 n:Int
 ps:Int
 mr:Int
 list:List Int
 self:Bool
 data:bm
def fR(a:Int):bP:=⟨a,.empty,false,0,0⟩
def dY(a:Int)(data:bm):bP:=⟨a,data,false,0,0⟩
def A5(a:Int):bP:=⟨12,.empty,false,a,0⟩
def fA(a sq:Int):UnitS:=⟨a,sq,0,0,0,[],false,.empty⟩
structure aO where
 most:Int
 credit:Int
 state:Int
 sq:Int
 peer:Int
 cc:Int
 ms:Int
 data:bm
structure mJ where
 sigs:List bP
 units:List UnitS
 begins:Bool
 ends:Bool
 ms:Int
 timer:Int
def mJ.none:mJ:=⟨[],[],false,false,0,0⟩
structure aj where
 c:aO
 r:mJ
namespace aj
def hasCredit(k:Int):Bool:=decide (k=1\/k=2\/k=5\/k=6\/k=9\/k=15)
def tell(a:aj)(s:bP):aj:={a with r:={a.r with sigs:=a.r.sigs++[s]}}
def out(a:aj)(u:UnitS):aj:={a with r:={a.r with units:=a.r.units++[if hasCredit u.kind then {u with n:=a.c.credit}else u]}}
def to(a:aj)(st:Int):aj:=⟨{a.c with state:=st},{a.r with ends:=a.r.ends||decide (a.c.state=10)}⟩
def stop(a:aj)(st:Int):aj:=let b:=a.to st;{b with r:={b.r with timer:=2}}
def ready(a:aj):aj:=let b:=a.stop 10;{b with r:={b.r with begins:=true,ms:=b.c.ms}}
def kindOf(st:Int):Int:=if st=2 then 1 else if st=4 then 3 else if st=5 then 5 else 9
def again(a:aj):aj:=let b:=a.out {fA (kindOf a.c.state) a.c.sq with data:=a.c.data};{b with r:={b.r with timer:=1}}
def begin_(a:aj)(st:Int)(data:bm):aj:=let b:=a.to st;aj.again {b with c:={b.c with sq:=(b.c.sq+1)%256,cc:=1,data:=data}}
def leave(a:aj)(data:bm):aj:=let b:=a.to 4;aj.again {b with c:={b.c with cc:=1,data:=data}}
def quit(a:aj):aj:=a.out {fA 3 a.c.sq with self:=true}
def report(a:aj)(b:Int):aj:=a.tell (A5 b)
def heard(a:aj)(p:UnitS):aj:={a with c:={a.c with peer:=p.sq,ms:=p.n}}
def back(a:aj)(p:UnitS)(b:Int)(c:List Int):aj:=if a.c.state∈c then a.out (fA b p.sq)else a
def oldBegin(a:aj)(p:UnitS):aj:=(a.back p 7 [1]).back p 2 [5,6,7,8,9,10]
def newBegin(a:aj)(p:UnitS):aj:=
 let b:=a.heard p
 if b.c.state=1 then(b.tell (dY 1 p.data)).to 3
 else if b.c.state=2 then((b.back p 2 [2]).tell (fR 2)).ready
 else(((if b.c.state=4 then b.tell (fR 4)else b.tell (fR 3)).tell (dY 1 p.data))).stop 3
def end_(a:aj)(p:UnitS):aj:=
 let b:=a.out (fA 4 p.sq)
 if b.c.state=1 then b
 else if b.c.state=4 then(b.tell (fR 4)).stop 1
 else(b.tell ⟨3,p.data,p.self,0,0⟩).stop 1
def resync(a:aj)(p:UnitS):aj:=
 let b:=a.heard p
 if b.c.state=5 then((b.out (fA 6 p.sq)).tell (fR 6)).ready
 else if b.c.state=6 then b
 else(b.tell (dY 5 p.data)).stop 6
def recover(a:aj)(p:UnitS):aj:=
 let b:=(a.heard p).back p 15 [7,8]
 if b.c.state=7 then(b.tell (fR 7)).stop 8
 else if b.c.state=10 then(b.tell (fR 7)).to 9
 else b
def answer(a:aj)(p:UnitS):aj:=
 if p.kind=2 then(aj.tell {a with c:={a.c with ms:=p.n}} (fR 2)).ready
 else if p.kind=6 then(aj.tell {a with c:={a.c with ms:=p.n}} (fR 6)).ready
 else if p.kind=15 then(aj.tell {a with c:={a.c with ms:=p.n}} (fR 7)).stop 8
 else if p.kind=7\/p.kind=4 then(a.tell (if a.c.state=2 then dY 3 p.data else fR 4)).stop 1
 else a
def handle(a:aj)(p:UnitS):aj:=
 if p.kind=1 then(if p.sq=a.c.peer then a.oldBegin p else a.newBegin p)
 else if p.kind=3 then a.end_ p
 else if p.kind=5 then(if p.sq=a.c.peer then a.back p 6 [7,8,9,10]else a.resync p)
 else if p.kind=9 then(if p.sq=a.c.peer then a.back p 15 [8,10]else a.recover p)
 else if p.sq=a.c.sq then a.answer p else a
def ask(a:aj)(b:Int)(data:bm):aj:=
 if b=1 then a.begin_ 2 data
 else if b=2 then(a.out (fA 2 a.c.peer)).ready
 else if b=3 then(if a.c.state=3 then(a.out {fA 7 a.c.peer with data:=data}).to 1 else a.leave data)
 else if b=4 then a.begin_ 5 data
 else if b=5 then(a.out (fA 6 a.c.peer)).ready
 else if b=6 then(if a.c.state=9 then a.out (fA 15 a.c.peer)else a).ready
 else a
def expire(a:aj):aj:=
 if a.c.state=2\/a.c.state=4\/a.c.state=5\/a.c.state=7 then
  if a.c.cc<a.c.most then aj.again {a with c:={a.c with cc:=a.c.cc+1}}
  else(if a.c.state=4 then(a.report 79).tell (fR 4)else((a.report 79).quit).tell ⟨3,.empty,true,0,0⟩).stop 1
 else a
def fail(a:aj)(b:Int):aj:=(a.report b).begin_ 7 .empty
def silent(a:aj):aj:=(((a.report 80).quit).tell ⟨3,.empty,true,0,0⟩).to 1
end aj
def Pn:List (List Int):=[
 [1,3,1,0,3,3,2,3,3,3,3,3,1,1,3],
 [1,1,0,0,0,0,1,0,0,0,0,0,1,1,0],
 [1,2,1,2,2,2,2,2,2,2,2,2,1,1,2],
 [1,0,1,1,0,0,1,0,0,0,0,0,1,1,0],
 [1,0,1,4,1,1,4,0,0,0,0,0,1,1,0],
 [1,0,1,4,1,0,4,0,0,0,0,0,1,1,0],
 [1,0,1,4,1,0,4,0,1,0,0,0,1,1,1],
 [1,0,1,4,1,0,4,0,1,0,0,0,1,1,0],
 [1,0,1,4,1,0,4,0,1,0,0,0,1,1,0],
 [1,0,1,4,1,0,4,1,1,1,1,1,1,1,0]]
def oO(st k:Int):Int:=if 1<=st/\st<=10/\1<=k/\k<=15 then((Pn.getD (st-1).toNat []).getD (k-1).toNat 0)else 0
def Cu:List Int:=[66,67,69,70,74,75,68,65,76,71,72,73,0,0,77]
def ng(k:Int):Int:=if 1<=k/\k<=15 then Cu.getD (k-1).toNat 0 else 0
def jH(st a:Int):Bool:=
 decide (1<=st/\st<=10)&&
 (if a=1 then decide (st=1\/st=4)else if a=2 then decide (st=3)else if a=3 then decide (st≠1/\st≠4)else if a=4 then decide (st=8\/st=10)
  else if a=5 then decide (st=6)else if a=6 then decide (st=8\/st=9)else if a=7 then decide (st=10)else decide (8<=a/\a<=11))
namespace aO
def act(c:aO):aj:=⟨c,.none⟩
def receive(c:aO)(p:UnitS):aj:=
 let w:=oO c.state p.kind
 if w=1 then c.act.handle p
 else if w=2 then c.act.report (ng p.kind)
 else if w=3 then(c.act.report (ng p.kind)).quit
 else if w=4 then((c.act.report (ng p.kind)).tell ⟨3,.empty,true,0,0⟩).stop 1
 else c.act
def expire(c:aO):aj:=c.act.expire
def fail(c:aO)(a:Int):aj:=if c.state=10 then c.act.fail a else c.act
def silent(c:aO):aj:=if c.state=10 then c.act.silent else c.act
structure ok(c:aO):Prop where
 st:1<=c.state/\c.state<=10
 most:1<=c.most/\c.most<=16
 credit:0<=c.credit/\c.credit<16777216
 sq:0<=c.sq/\c.sq<=255
 peer: -1<=c.peer/\c.peer<=255
 cc:0<=c.cc/\c.cc<=16
 ms:0<=c.ms/\c.ms<16777216
 data:c.data.size<=64
end aO
def low(x:Int):Int:=x%16777216
def aq(a b:Int):Int:=(b-a)%16777216
def aV(a n:Int):Int:=(a+n)%16777216
def fi(a b:Int):0<=aq a b:=adf _ I
def zJ(a b:Int):aq a b<16777216:=adC _ I
def Ua:0<=low a:=adf _ I
def Uc:low a<16777216:=adC _ I
def aaP{b:Int}:0<=aV a b:=adf _ I
def aaQ{b:Int}:aV a b<16777216:=adC _ I
def aU(x:Int):Prop:=0<=x/\x<16777216
def ji(base fin:Int):List Int->Bool->Int->Option (List (Int×Int))
 |[],_,_=>some []
 |x::t,odd,last=>if aq base x<=last\/fin<aq base x then none
  else match ji base fin t (!odd) (aq base x)with
   |none=>none
   |some l=>some (if odd then(last,aq base x)::l else l)
def jh(base a:Int)(l:List Int):Option (List (Int×Int)):=
 if l.length%2≠0\/8388608<aq base a then none else ji base (aq base a) l false (-1)
def dW(ps:List (Int×Int))(x:Int):Bool:=ps.any fun p=>decide (p.1<=x)&&decide (x<p.2)
def upto(n:Nat):List Int:=(List.range n).map fun(i:Nat)=>(i:Int)
def dU:List Int->Option (Int×Int)->List (Int×Int)
 |[],none=>[]
 |[],some p=>[p]
 |x::t,none=>dU t (some (x,x+1))
 |x::t,some p=>if x=p.2 then dU t (some (p.1,x+1))else p::dU t (some (x,x+1))
def cp(l:List Int):List (Int×Int):=dU l none
structure aI where
 s:Int
 a:Int
 ms:Int
 ps:Int
 pa:Int
 units:Int
 polls:Int
 qmost:Int
 queue:List bm
 kept:List (bm×Int)
 again:List Int
namespace aI
def new(start b a:Int):aI:=⟨low start,low start,low start,low start,low start,0,max 1 (min a 256),max 1 (min b 256),[],[],[]⟩
def opens(s:aI)(ms:Int):aI:=if aq s.a ms<=8388608/\aq s.a s.ms<=aq s.a ms then {s with ms:=low ms}else s
def put(s:aI)(m:bm):aI:={s with queue:=s.queue++[m]}
def full(s:aI):Bool:=decide (s.qmost<=s.queue.length)
def idle(s:aI):Bool:=s.queue.isEmpty&&s.kept.isEmpty
def lacks(s:aI):Bool:= !s.queue.isEmpty&&decide (s.s=s.ms)
def due(s:aI):Bool:=decide (s.polls<=s.units)
def poll(s:aI):aI:={s with ps:=aV s.ps 1,units:=0}
def left(s:aI):List bm:=s.kept.map (·.1)++s.queue
def ix(s:aI)(n:Int):Nat:=(aq s.a n).toNat
def next(s:aI):Option (aI×Int×bm×Bool):=
 match s.again with
 |n::t=>some ({s with again:=t,kept:=s.kept.set (s.ix n) ((s.kept.getD (s.ix n) (.empty,0)).1,s.ps),units:=s.units+1},n,(s.kept.getD (s.ix n) (.empty,0)).1,false)
 |[]=>
  if s.s=s.ms then none
  else match s.queue with
   |[]=>none
   |m::t=>some ({s with queue:=t,kept:=s.kept++[(m,s.ps)],units:=s.units+1,s:=aV s.s 1},s.s,m,true)
def ack(s:aI)(r:Int):aI:=
 {s with kept:=s.kept.drop (s.ix r),a:=low r,again:=s.again.filter fun n=>decide (aq r n<s.kept.length-(s.ix r:Nat))}
def more(s:aI)(a:Int->Bool)(b:Int->Bool)(i:Int):Bool:= !(s.again.contains (aV s.a i))&&(a i&&b (s.kept.getD i.toNat (.empty,0)).2)
def rep(s:aI)(a:Int->Bool)(b:Int->Bool):aI×Int:=
 ({s with again:=((upto s.kept.length).filter fun i=>s.again.contains (aV s.a i)||s.more a b i).map (aV s.a)},(((upto s.kept.length).filter fun i=>s.more a b i).length:Int))
def ahead(a b:Int):Bool:=decide (0<aq a b)&&decide (aq a b<8388608)
def stat(s:aI)(r mr ps:Int)(l:List Int):aI×Int×Int:=
 if aq s.pa s.ps<aq s.pa ps then(s,0,12)
 else if aq s.a s.s<aq s.a r then(s,0,13)
 else match jh r s.s l with
  |none=>(s,0,13)
  |some p=>let t:=({s.ack r with pa:=low ps}.opens mr).rep (dW p) (fun a=>ahead a ps);(t.1,t.2,0)
def ustat(s:aI)(r mr:Int)(l:List Int):aI×Int×Int:=
 if aq s.a s.s<aq s.a r then(s,0,14)
 else match jh r s.s l with
  |none=>(s,0,14)
  |some p=>let t:=((s.ack r).opens mr).rep (dW p) (fun _=>true);(t.1,t.2,0)
structure ok(w:aI)(K:Nat):Prop where
 s:aU w.s
 a:aU w.a
 ms:aU w.ms
 ps:aU w.ps
 pa:aU w.pa
 units:0<=w.units/\w.units<=256
 polls:1<=w.polls/\w.polls<=256
 qmost:1<=w.qmost/\w.qmost<=256
 queue:(w.queue.length:Int)<=w.qmost
 num:w.queue.length+w.kept.length<=K
 msgs:∀m∈w.queue,m.size<=200
 kepts:∀m∈w.kept,m.1.size<=200/\aU m.2
 len:aq w.a w.s=w.kept.length
 credit:aq w.a w.s<=aq w.a w.ms/\aq w.a w.ms<=8388608
 again:∀n∈w.again,aU n/\aq w.a n<w.kept.length
 rise:w.again.Pairwise fun x y=>aq w.a x<aq w.a y
end aI
structure aM where
 r:Int
 h:Int
 mr:Int
 window:Int
 buffer:List (Int×bm)
 inbox:List bm
 gaps:List (Int×Int)
namespace aM
def new(start a:Int):aM:=⟨low start,low start,aV (low start) (max 1 (min a 64)),max 1 (min a 64),[],[],[]⟩
def has(r:aM)(n:Int):Bool:=r.buffer.any fun p=>decide (p.1=n)
def deliver:Nat->aM->List bm->aM×List bm
 |0,r,out=>(r,out)
 |fuel+1,r,out=>
  match r.buffer.find? fun p=>decide (p.1=r.r)with
  |none=>(r,out)
  |some p=>deliver fuel {r with r:=aV r.r 1,buffer:=r.buffer.filter fun q=>decide (q.1≠r.r)} (out++[p.2])
def takes(r:aM)(n:Int)(m:bm):aM:=
 if aq r.r n<aq r.r r.h then {r with buffer:=r.buffer++[(n,m)]}
 else {r with buffer:=r.buffer++[(n,m)],gaps:=if n≠r.h/\r.gaps.length<8 then r.gaps++[(r.h,n)]else r.gaps,h:=aV n 1}
def data(r:aM)(a:Int)(m:bm):aM×List bm:=
 let n:=low a
 if r.has n=true\/aq r.r r.mr<=aq r.r n then(r,[])
 else
  let q:=deliver (r.buffer.length+1) (r.takes n m) []
  ({q.1 with inbox:=q.1.inbox++q.2},q.2)
def pollB(r:aM)(s:Int):Bool:=decide (aq r.r r.h<=aq r.r s)&&decide (aq r.r s<=aq r.r r.mr)
def poll(r:aM)(s:Int):aM:={r with h:=low s}
def maxN(base a b:Int):Int:=if aq base b<=aq base a then low a else low b
def renew(r:aM):aM:={r with mr:=maxN r.r r.mr (aV r.r (r.window-r.inbox.length))}
def missing(r:aM):List Int:=(upto (aq r.r r.h).toNat).filter fun i=> !r.has (aV r.r i)
def pairsOf(base:Int)(l:List (Int×Int)):List Int:=l.flatMap fun p=>[aV base p.1,aV base p.2]
def stat(r:aM):aM×List Int:=(r.renew,pairsOf r.r (cp r.missing))
def still(r:aM)(g:Int×Int):List (Int×Int):=
 if aq r.r r.h<aq r.r g.2 then[]else cp (r.missing.filter fun i=>decide (aq r.r g.2-aq g.1 g.2<=i)&&decide (i<aq r.r g.2))
def gapGo:List (Int×Int)->aM->aM×Option (List Int)
 |[],r=>({r with gaps:=[]},none)
 |g::t,r=>match r.still g with
  |p::_=>(({r with gaps:=t}:aM).renew,some [aV r.r p.1,aV r.r p.2])
  |[]=>gapGo t r
def gap(r:aM):aM×Option (List Int):=gapGo r.gaps r
def take(r:aM)(n:Int):aM:={r with inbox:=r.inbox.drop (max 0 (min n r.inbox.length)).toNat}
structure ok(w:aM):Prop where
 r:aU w.r
 h:aU w.h
 mr:aU w.mr
 window:1<=w.window/\w.window<=64
 ahead:aq w.r w.h<=aq w.r w.mr/\aq w.r w.mr<=w.window
 buffer:∀p∈w.buffer,aU p.1/\aq w.r p.1<aq w.r w.h/\p.1≠w.r/\p.2.size<=200
 nodup:(w.buffer.map (·.1)).Nodup
 room:w.inbox.length+aq w.r w.mr<=w.window
 inbox:∀m∈w.inbox,m.size<=200
 gaps:w.gaps.length<=8/\∀g∈w.gaps,aU g.1/\aU g.2
end aM
structure DZ where
 most:Int
 window:Int
 queue:Int
 units:Int
 polls:Int
 start:Int
structure DZ.ok(c:DZ):Prop where
 most:1<=c.most/\c.most<=16
 window:1<=c.window/\c.window<=64
 queue:1<=c.queue/\c.queue<=256
 units:1<=c.units/\c.units<=64
 polls:1<=c.polls/\c.polls<=256
 start:aU c.start
structure ah where
 c:DZ
 conn:aO
 pace:aK
 ep:Option (aI×aM)
 control:List UnitS
 units:List UnitS
 poll:Bool
 stat:Bool
 asked:Int
 lacks:Bool
 left:List bm
namespace ah
def rep(a n:Int):bP:=⟨12,.empty,false,a,n⟩
def ready(n:ah):Bool:=n.ep.isSome
def idle(n:ah):Bool:=match n.ep with|none=>true|some e=>e.1.idle
def setSend(n:ah)(s:aI):ah:={n with ep:=n.ep.map fun e=>(s,e.2)}
def setRecv(n:ah)(r:aM):ah:={n with ep:=n.ep.map fun e=>(e.1,r)}
def putControl(c:List UnitS)(a:List UnitS):List UnitS:=a.foldl (fun c u=>(c.filter fun x=>decide (x.kind≠u.kind))++[u]) c
def timerTo(n:ah)(t:Int):ah:=if t=1 then {n with pace:=n.pace.again}else if t=2 then {n with pace:=n.pace.enough}else n
def ends(n:ah):ah:={n with pace:=n.pace.fin,left:=(match n.ep with|none=>[]|some e=>e.1.left),ep:=none,poll:=false,stat:=false}
def begins(n:ah)(ms:Int):ah:={n with ep:=some ((aI.new n.c.start n.c.queue n.c.polls).opens ms,aM.new n.c.start n.c.window),pace:=n.pace.begin_,poll:=false,stat:=false}
def bring(n:ah)(a:aj):ah×List bP:=
 let n1:ah:={n with conn:=a.c,control:=putControl n.control a.r.units}
 let n2:=n1.timerTo a.r.timer
 let n3:=if a.r.ends then n2.ends else n2
 let n4:=if a.r.begins then n3.begins a.r.ms else n3
 (n4,a.r.sigs)
def credit(n:ah)(l:List bP):ah×List bP:=
 let now:=match n.ep with|none=>false|some e=>e.1.lacks
 ({n with lacks:=now},if now&& !n.lacks then l++[rep 87 0]else if n.lacks&& !now&&n.ready then l++[rep 88 0]else l)
def unitD(a:Int)(d:bm):UnitS:=⟨a,0,0,0,0,[],false,d⟩
def ask(n:ah)(a:Int)(d:bm)(b:Int):ah×List bP×Int:=
 if a=7 then(match n.ep with
  |none=>(n,[],0)
  |some e=>if e.1.full then(n,[],7)else({n.setSend (e.1.put d)with pace:=n.pace.busy},[],0))
 else if a=8\/a=9 then(if n.c.units<=n.units.length then(n,[],7)else({n with units:=n.units++[unitD (a+5) d]},[],0))
 else if a=10 then(match n.ep with|none=>(n,[],0)|some e=>(n.setRecv (e.2.take b),[],0))
 else if a=11 then({n with left:=[]},n.left.map (dY 11),0)
 else let q:=n.bring (n.conn.act.ask a d);(q.1,q.2,0)
def reqCheck(a:Int)(c:Nat)(b:Int):Int:=
 if a<1\/11<a then 10
 else
  let most:Nat:=if a=1\/a=3\/a=4 then 64 else if 7<=a/\a<=9 then 200 else 0
  if 0<most/\most<c then 6
  else if(most=0/\c≠0)\/(a≠10/\b≠0)\/(a=10/\(b<1\/64<b))then 1 else 0
def request(n:ah)(a:Int)(d:bm)(b:Int):ah×List bP×Int:=
 if reqCheck a d.size b≠0 then(n,[],reqCheck a d.size b)
 else if jH n.conn.state a=false then(n,[],8)
 else
  let q:=n.ask a d b
  if q.2.2≠0 then(q.1,[],q.2.2)else let k:=q.1.credit q.2.1;(k.1,k.2,0)
def fail(n:ah)(a:Int):ah×List bP:=n.bring (n.conn.fail a)
def againL(count:Int):List bP:=if count=0 then[]else[rep 86 count]
def transfer(n:ah)(e:aI×aM)(u:UnitS):ah×List bP:=
 if u.kind=8 then let q:=e.2.data u.n u.data;(n.setRecv q.1,q.2.map (dY 8))
 else if u.kind=10 then(if e.2.pollB u.n then({n.setRecv (e.2.poll u.n)with stat:=true,asked:=u.ps},[])else n.fail 81)
 else if u.kind=11 then
  let q:=e.1.stat u.n u.mr u.ps u.list
  if q.2.2=12 then n.fail 82 else if q.2.2=13 then n.fail 83
  else({n.setSend q.1 with pace:=n.pace.answered q.1.idle},againL q.2.1)
 else
  let q:=e.1.ustat u.n u.mr u.list
  if q.2.2≠0 then n.fail 84 else(n.setSend q.1,againL q.2.1)
def hear(n:ah)(u:UnitS):ah×List bP:=
 if u.kind=13 then(n,[dY 9 u.data])
 else if u.kind=14 then(n,[dY 10 u.data])
 else match n.ep with
  |some e=>if u.kind=8\/u.kind=10\/u.kind=11\/u.kind=12 then n.transfer e u else n.bring (n.conn.receive u)
  |none=>n.bring (n.conn.receive u)
def receive(n:ah)(u:UnitS):ah×List bP:=let q:=n.hear u;q.1.credit q.2
def tick1(q:ah×List bP)(t:Int):ah×List bP:=
 if t=0 then let p:=q.1.bring q.1.conn.expire;(p.1,q.2++p.2)
 else if t=3 then let p:=q.1.bring q.1.conn.silent;(p.1,q.2++p.2)
 else({q.1 with poll:=q.1.poll||q.1.ready},q.2)
def tick(n:ah):ah×List bP:=let q:=(n.pace.over.foldl tick1 ({n with pace:=n.pace.tick},[]));q.1.credit q.2
def next(n:ah):ah×Option UnitS:=
 match n.control with
 |u::t=>({n with control:=t},some u)
 |[]=>
  match n.units with
  |u::t=>({n with units:=t},some u)
  |[]=>
   match n.ep with
   |none=>(n,none)
   |some e=>
    if n.stat then({n.setRecv e.2.renew with stat:=false},some ⟨11,0,e.2.r,n.asked,e.2.renew.mr,e.2.stat.2,false,.empty⟩)
    else match e.2.gap with
     |(r,some l)=>(n.setRecv r,some ⟨12,0,r.r,0,r.mr,l,false,.empty⟩)
     |(r,none)=>
      if n.poll||e.1.due then({n with ep:=some (e.1.poll,r),poll:=false,pace:=n.pace.polled e.1.idle},some ⟨10,0,e.1.s,e.1.poll.ps,0,[],false,.empty⟩)
      else match e.1.next with
       |some (s,x,m,_)=>({n with ep:=some (s,r)},some ⟨8,0,x,0,0,[],false,m⟩)
       |none=>(n.setRecv r,none)
def quiet(n:ah):Bool:=n.control.isEmpty&&n.units.isEmpty&& !n.poll&& !n.stat&&(match n.ep with|none=>true|some e=>e.1.idle&&e.2.gaps.isEmpty)
end ah
def nd(sl:Int)(a:Nat):Bool:=decide ((a:Int)=sl)||(decide (sl<0)&&decide (a%2=0))
def jO(n ps mr:Int)(l:List Int):Bool:=cN n&&cN ps&&cN mr&&l.all cN
def jA(f:Int)(b c a d:Bool)(e:Nat)(n ps mr:Int)(self:Bool):Bool:=
 (decide (0<f)||decide (e=0))&&(b||decide (n=0))&&(c||decide (ps=0))&&(a||decide (mr=0))&&(d|| !self)
def gM(a:Bool)(sq:Int):Bool:=decide (0<=sq)&&decide (sq<=255)&&(a||decide (sq=0))
def j7(a:Int)(b ll:Nat):Bool:=(decide (a<(b:Int))&&decide (0<a))||decide (128<ll)
def cS(k sq n ps mr:Int)(l:List Int)(self:Bool)(a:Nat):Int:=
 if dD k=false then 10 else if j7 (di k) a l.length=true then 6
 else if(nd (dv k) l.length&&jO n ps mr l&&jA (di k) (sN k) (cV k) (cR k) (fS k) a n ps mr self&&gM (db k) sq)=true then 0 else 1
def UnitS.may(u:UnitS):Prop:=u.list=[]/\cS u.kind u.sq u.n u.ps u.mr [] u.self u.data.size=0/\0<=u.n/\0<=u.ps/\0<=u.mr
structure aO.fit(c:aO):Prop where
 ok:c.ok
 d7:c.state=7->c.data.size=0
 pp:c.state=3\/c.state=6\/c.state=9->0<=c.peer
structure aj.inv0(f:Int)(a:aj):Prop where
 ok:a.c.ok
 d7:a.c.state=7->a.c.data.size=0
 pp:a.c.state=3\/a.c.state=6\/a.c.state=9->0<=a.c.peer
 ends:a.r.ends=true->f=10
 live:a.c.state=10↔f=10/\a.r.ends=false
 begins:a.r.begins=false
 units:∀u,u∈a.r.units->u.may
 sigs:∀g,g∈a.r.sigs->g.data.size<=64/\(0<=g.code/\g.code<256)
structure aj.inv(f:Int)(a:aj):Prop where
 ok:a.c.ok
 d7:a.c.state=7->a.c.data.size=0
 pp:a.c.state=3\/a.c.state=6\/a.c.state=9->0<=a.c.peer
 ends:a.r.ends=true->f=10
 live:a.c.state=10↔(f=10/\a.r.ends=false)\/a.r.begins=true
 beg:a.r.begins=true->a.r.ms=a.c.ms
 units:∀u,u∈a.r.units->u.may
 sigs:∀g,g∈a.r.sigs->g.data.size<=64/\(0<=g.code/\g.code<256)
namespace aj
variable{f:Int}{a:aj}
def inv0.inv(h:a.inv0 f):a.inv f:=⟨h.ok,h.d7,h.pp,h.ends,by rw[h.live,h.begins];simp,by rw[h.begins];simp,h.units,h.sigs⟩
def inv0.tell(h:a.inv0 f){g:bP}(c:g.data.size<=64/\(0<=g.code/\g.code<256)):(a.tell g).inv0 f:=⟨h.ok,h.d7,h.pp,h.ends,h.live,h.begins,h.units,fun x b=>by
 rcases my.1 b with b|b
 ·exact h.sigs x b
 ·simp at b;subst b;exact c⟩
def inv0.out(h:a.inv0 f){u:UnitS}(c:(if hasCredit u.kind then {u with n:=a.c.credit}else u).may):(a.out u).inv0 f:=⟨h.ok,h.d7,h.pp,h.ends,h.live,h.begins,fun x b=>by
 rcases my.1 b with b|b
 ·exact h.units x b
 ·simp at b;subst b;exact c,h.sigs⟩
def Hc{c:aO}(h:c.ok){st:Int}(a:1<=st/\st<=10):({c with state:=st}:aO).ok:=⟨a,h.most,h.credit,h.sq,h.peer,h.cc,h.ms,h.data⟩
def inv0.AS(h:a.inv0 f){c:aO}(j:c.ok)(l:c.state<=9)(i:c.state=7->c.data.size=0)(k:c.state=3\/c.state=6\/c.state=9->0<=c.peer):(⟨c,{a.r with ends:=a.r.ends||decide (a.c.state=10)}⟩:aj).inv0 f:=by have g:=h.live;refine⟨j,i,k,fun d=>?_,?_,h.begins,h.units,h.sigs⟩;{have d:(a.r.ends||decide (a.c.state=10))=true:=d;rcases afp.1 d with b|b;{exact h.ends b};{exact(g.1 (by simpa using b)).1}};{show c.state=10↔f=10/\(a.r.ends||decide (a.c.state=10))=false;constructor;{intro e;omega};{rintro⟨e1,e2⟩;simp only[afh,R3]at e2;exact absurd (g.2 ⟨e1,e2.1⟩) e2.2}}
def inv0.to(h:a.inv0 f){st:Int}(b:1<=st/\st<=9/\st≠7)(d:st=3\/st=6\/st=9->0<=a.c.peer):(a.to st).inv0 f:=
 h.AS (c:={a.c with state:=st}) (Hc h.ok ⟨b.1,V⟩) b.2.1 (fun e=>absurd e b.2.2) d
def inv0.stop(h:a.inv0 f){st:Int}(b:1<=st/\st<=9/\st≠7)(c:st=3\/st=6\/st=9->0<=a.c.peer):(a.stop st).inv0 f:=by have:=h.to b c;exact⟨this.ok,this.d7,this.pp,this.ends,this.live,this.begins,this.units,this.sigs⟩
def inv0.ready(h:a.inv0 f):(a.ready).inv f:=by have d:=h.live;refine⟨Hc h.ok ⟨I,I⟩,(fun e=>by cases e),(fun e=>by(have e:(10:Int)=3\/(10:Int)=6\/(10:Int)=9:=e);omega),fun c=>?_,?_,fun _=>rfl,h.units,h.sigs⟩;{have c:(a.r.ends||decide (a.c.state=10))=true:=c;rcases afp.1 c with b|b;{exact h.ends b};{exact(d.1 (by simpa using b)).1}};{exact⟨fun _=>.inr rfl,fun _=>rfl⟩}
def inv0.conn(h:a.inv0 f){c:aO}(d:c.ok)(b:c.state=a.c.state)(g:c.data=a.c.data)(i:0<=a.c.peer->0<=c.peer):({a with c:=c}:aj).inv0 f:=⟨d,fun e=>by(have e:c.state=7:=e);rw[b]at e;show c.data.size=0;rw[g];exact h.d7 e,fun e=>by(have e:c.state=3\/c.state=6\/c.state=9:=e);rw[b]at e;exact i (h.pp e),h.ends,by rw[show({a with c:=c}:aj).c.state=a.c.state from b];exact h.live,h.begins,h.units,h.sigs⟩
def Cd(u:UnitS)(a:u.list=[])(g:u.ps=0)(e:u.mr=0)(i:0<=u.sq/\u.sq<=255)(f:0<=u.n/\u.n<16777216) (c:((u.kind=1\/u.kind=5)/\u.self=false/\u.data.size<=64)\/((u.kind=2\/u.kind=6\/u.kind=9\/u.kind=15)/\u.self=false/\u.data.size=0)\/(u.kind=3/\u.n=0/\u.data.size<=64)\/(u.kind=7/\u.n=0/\u.self=false/\u.data.size<=64)\/(u.kind=4/\u.n=0/\u.self=false/\u.data.size=0)):u.may:=by refine⟨a,?_,f.1,V,V⟩;obtain⟨k,sq,n,m,j,l,b,d⟩:=u;dsimp only at*;subst a g e;generalize d.size=z at*;rcases c with⟨rfl|rfl,rfl,h⟩|⟨rfl|rfl|rfl|rfl,rfl,rfl⟩|⟨rfl,rfl,h⟩|⟨rfl,rfl,rfl,h⟩|⟨rfl,rfl,rfl,rfl⟩<;>simp[cS,dD,di,j7,nd,dv,jO,cN,jA,gM,sN,cV,cR,fS,db]<;>omega
structure _root_.Go.Proofs.YtlkceignfhnpoaaGreatDoor.UnitS.came(p:UnitS):Prop where
 sq:0<=p.sq/\p.sq<=255
 n:0<=p.n/\p.n<16777216
 data:p.kind<=7->p.data.size<=64
def inv0.uy(h:a.inv0 f)(c:k=2\/k=6\/k=9\/k=15\/k=4\/k=7)(d:0<=sq/\sq<=255):(a.out (fA k sq)).inv0 f:=by refine h.out ?_;have b:=h.ok.credit;refine Cd _ ?_ ?_ ?_ ?_ ?_ ?_;{split<;>rfl};{split<;>rfl};{split<;>rfl};{split<;>exact d};{split;{exact b};{exact⟨adt 0,(by decide:(0:Int)<16777216)⟩}};{rcases c with rfl|rfl|rfl|rfl|rfl|rfl<;>simp[hasCredit,fA]}
def inv0.G5(h:a.inv0 f)(g:k=1\/k=5\/k=9\/k=3\/k=7)(i:0<=sq/\sq<=255)(e:d.size<=64)(b:k=9->d.size=0):(a.out {fA k sq with data:=d}).inv0 f:=by refine h.out ?_;have c:=h.ok.credit;refine Cd _ ?_ ?_ ?_ ?_ ?_ ?_;{split<;>rfl};{split<;>rfl};{split<;>rfl};{split<;>exact i};{split;{exact c};{exact⟨adt 0,(by decide:(0:Int)<16777216)⟩}};{rcases g with rfl|rfl|rfl|rfl|rfl<;>simp[hasCredit,fA,e,b]}
def inv0.quit(h:a.inv0 f):a.quit.inv0 f:=by refine h.out ?_;refine Cd _ rfl rfl rfl h.ok.sq ⟨adt 0,(by decide:(0:Int)<16777216)⟩ ?_;simp[hasCredit,fA]
def inv0.report(h:a.inv0 f)(b:0<=q/\q<256):(a.report q).inv0 f:=h.tell ⟨by simp[A5],b⟩
def inv0.nJ(h:a.inv0 f)(k:Int):(a.tell (fR k)).inv0 f:=h.tell ⟨by simp[fR],by simp[fR]⟩
def inv0.xC(h:a.inv0 f)(k:Int)(b:d.size<=64):(a.tell (dY k d)).inv0 f:=h.tell ⟨b,by simp[dY]⟩
def inv0.xB(h:a.inv0 f)(b:Bool)(c:d.size<=64):(a.tell ⟨3,d,b,0,0⟩).inv0 f:=h.tell ⟨c,J⟩
def inv0.timer(h:a.inv0 f)(t:Int):({a with r:={a.r with timer:=t}}:aj).inv0 f:=⟨h.ok,h.d7,h.pp,h.ends,h.live,h.begins,h.units,h.sigs⟩
def inv0.again(h:a.inv0 f)(e:kindOf a.c.state=9->a.c.data.size=0):a.again.inv0 f:=by have g:kindOf a.c.state=1\/kindOf a.c.state=5\/kindOf a.c.state=9\/kindOf a.c.state=3\/kindOf a.c.state=7:=by{unfold kindOf;by_cases b:a.c.state=2<;>by_cases c:a.c.state=4<;>by_cases d:a.c.state=5<;>simp[b,c,d]};exact(h.G5 g h.ok.sq h.ok.data e).timer 1
def inv0.back(h:a.inv0 f){p:UnitS}(d:p.came)(c:k=2\/k=6\/k=9\/k=15\/k=4\/k=7)(b:List Int):(a.back p k b).inv0 f:=by unfold aj.back;split;{exact h.uy c d.sq};{exact h}
def inv0.heard(h:a.inv0 f){p:UnitS}(b:p.came):(a.heard p).inv0 f:=h.conn (c:={a.c with peer:=p.sq,ms:=p.n}) ⟨h.ok.st,h.ok.most,h.ok.credit,h.ok.sq,⟨by have:=b.sq;dsimp only;omega,b.sq.2⟩,h.ok.cc,b.n,h.ok.data⟩ rfl rfl (fun _=>b.sq.1)
def inv0.ms(h:a.inv0 f){n:Int}(b:0<=n/\n<16777216):({a with c:={a.c with ms:=n}}:aj).inv0 f:=h.conn (c:={a.c with ms:=n}) ⟨h.ok.st,h.ok.most,h.ok.credit,h.ok.sq,h.ok.peer,h.ok.cc,b,h.ok.data⟩ rfl rfl id
def Z5(a:aj)(p:UnitS)(k:Int)(b:List Int):(a.back p k b).c=a.c:=by unfold aj.back;split<;>rfl
def inv0.begin_(h:a.inv0 f){st:Int}(j:st=2\/st=5\/st=7)(i:d.size<=64)(b:st=7->d.size=0):(a.begin_ st d).inv0 f:=by have p:0<=(a.c.sq+1)%256/\(a.c.sq+1)%256<=255:=V;have g:=h.AS (c:={a.c with state:=st,sq:=(a.c.sq+1)%256,cc:=1,data:=d}) ⟨by dsimp only;omega,h.ok.most,h.ok.credit,p,h.ok.peer,by dsimp only;omega,h.ok.ms,i⟩ (by dsimp only;omega) b (by dsimp only;omega);refine inv0.again (a:=⟨{a.c with state:=st,sq:=(a.c.sq+1)%256,cc:=1,data:=d},{a.r with ends:=a.r.ends||decide (a.c.state=10)}⟩) g fun e=>?_;refine b ?_;have e:kindOf st=9:=e;rcases j with rfl|rfl|rfl;{simp[kindOf]at e};{simp[kindOf]at e};{rfl}
def inv0.leave(h:a.inv0 f)(g:d.size<=64):(a.leave d).inv0 f:=by have b:=h.AS (c:={a.c with state:=4,cc:=1,data:=d}) ⟨by dsimp only;omega,h.ok.most,h.ok.credit,h.ok.sq,h.ok.peer,by dsimp only;omega,h.ok.ms,g⟩ (by dsimp only;omega) (by dsimp only;omega) (by dsimp only;omega);refine inv0.again (a:=⟨{a.c with state:=4,cc:=1,data:=d},{a.r with ends:=a.r.ends||decide (a.c.state=10)}⟩) b fun e=>?_;have e:kindOf 4=9:=e;simp[kindOf]at e
def inv0.handle(h:a.inv0 f){p:UnitS}(b:p.came)(g:a.c.state=f):(a.handle p).inv f:=by have d:=b.data;unfold aj.handle;split;{rename_i e;have d:=d V;split;{exact(inv0.back (h.back b I _) b I _).inv};{have c:=h.heard b;unfold aj.newBegin;dsimp only;split;{exact((c.xC 1 d).to I (fun _=>b.sq.1)).inv};{split;{exact((c.back b I _).nJ 2).ready};{refine(inv0.stop (inv0.xC ?_ 1 d) I (fun _=>?_)).inv;{split<;>exact c.nJ _};{split<;>exact b.sq.1}}}}};{split;{rename_i e;have d:=d V;have c:=h.uy (k:=4) I b.sq;unfold aj.end_;dsimp only;split;{exact c.inv};{split;{exact((c.nJ 4).stop I V).inv};{exact((c.xB p.self d).stop I V).inv}}};{split;{rename_i e;have d:=d V;split;{exact(h.back b I _).inv};{have c:=h.heard b;unfold aj.resync;dsimp only;split;{exact((c.uy I b.sq).nJ 6).ready};{split;{exact c.inv};{exact((c.xC 5 d).stop I (fun _=>b.sq.1)).inv}}}};{split;{split;{exact(h.back b I _).inv};{have c:=(h.heard b).back b (k:=15) I [7,8];unfold aj.recover;dsimp only;split;{exact((c.nJ 7).stop I V).inv};{split;{exact((c.nJ 7).to I (fun _=>by show 0<=((a.heard p).back p 15 [7,8]).c.peer;rw[Z5];exact b.sq.1)).inv};{exact c.inv}}}};{split;{unfold aj.answer;split;{exact((h.ms b.n).nJ 2).ready};{split;{exact((h.ms b.n).nJ 6).ready};{split;{exact(((h.ms b.n).nJ 7).stop I V).inv};{split;{rename_i e;refine(inv0.stop ?_ I V).inv;split;{exact h.xC 3 (d V)};{exact h.nJ 4}};{exact h.inv}}}}};{exact h.inv}}}}}
def wY{c:aO}(h:c.fit):c.act.inv0 c.state:=⟨h.ok,h.d7,h.pp,by simp[aO.act,mJ.none],by simp[aO.act,mJ.none],rfl,by simp[aO.act,mJ.none],by simp[aO.act,mJ.none]⟩
def Cs(k:Int):0<=ng k/\ng k<256:=by unfold ng;split;{rename_i h;obtain⟨m,b,a⟩:∃m:Nat,m<15/\(k-1).toNat=m:=⟨(k-1).toNat,V,rfl⟩;rw[a];exact(by decide:∀m:Nat,m<15->0<=Cu.getD m 0/\Cu.getD m 0<256) m b};{decide}
end aj
namespace aO
open aj
variable{c:aO}
def receive_inv(h:c.fit){p:UnitS}(b:p.came):(c.receive p).inv c.state:=by have a:=wY h;unfold receive;dsimp only;split;{exact a.handle b rfl};{split;{exact(a.report (Cs _)).inv};{split;{exact(a.report (Cs _)).quit.inv};{split;{exact(((a.report (Cs _)).xB true J).stop I V).inv};{exact a.inv}}}}
def ask_inv(h:c.fit)(k:Int)(f:d.size<=64)(b:jH c.state k=true):(c.act.ask k d).inv c.state:=by have a:=wY h;have p:=h.ok.peer.2;have q:=h.pp;unfold jH at b;simp only[ev,ml]at b;have b:=b.2;unfold aj.ask;split;{exact(a.begin_ I f V).inv};{split;{rename_i e;subst e;simp at b;exact(a.uy (k:=2) (sq:=c.peer) I ⟨q (.inl b),p⟩).ready};{split;{rename_i e;split;{rename_i g;exact((a.G5 (k:=7) (sq:=c.peer) I ⟨q (.inl g),p⟩ f V).to I V).inv};{exact(a.leave f).inv}};{split;{exact(a.begin_ I f V).inv};{split;{rename_i e;subst e;simp at b;exact(a.uy (k:=6) (sq:=c.peer) I ⟨q (.inr (.inl b)),p⟩).ready};{split;{rename_i e;split;{rename_i g;exact(a.uy (k:=15) (sq:=c.peer) I ⟨q (.inr (.inr g)),p⟩).ready};{exact a.ready}};{exact a.inv}}}}}}
def fail_inv(h:c.fit)(b:0<=q/\q<256):(c.fail q).inv c.state:=by have a:=wY h;unfold fail aj.fail;split;{exact((a.report b).begin_ I J J).inv};{exact a.inv}
def silent_inv(h:c.fit):(c.silent).inv c.state:=by have a:=wY h;unfold silent aj.silent;split;{exact((((a.report I).quit).xB true J).to I V).inv};{exact a.inv}
def expire_inv(h:c.fit):(c.expire).inv c.state:=by have a:=wY h;have f:=h.d7;unfold expire aj.expire;split;{rename_i b;split;{rename_i p;have g:=h.ok.most;have d:({c.act with c:={c.act.c with cc:=c.act.c.cc+1}}:aj).inv0 c.state:=a.conn (c:={c with cc:=c.cc+1}) ⟨h.ok.st,h.ok.most,h.ok.credit,h.ok.sq,h.ok.peer,⟨by have:=h.ok.cc;dsimp only;omega,by have:c.cc<c.most:=p;dsimp only;omega⟩,h.ok.ms,h.ok.data⟩ rfl rfl id;refine(d.again fun e=>?_).inv;have e:kindOf c.state=9:=e;have b:c.state=2\/c.state=4\/c.state=5\/c.state=7:=b;rcases b with h|h|h|h;{rw[h]at e;simp[kindOf]at e};{rw[h]at e;simp[kindOf]at e};{rw[h]at e;simp[kindOf]at e};{exact f h}};{refine(inv0.stop ?_ I V).inv;split;{exact(a.report I).nJ 4};{exact((a.report I).quit).xB true J}}};{exact a.inv}
end aO
section
open Go
def bY(c:bq):af->List (af)
 |[]=>[[]]
 |b::t=>if b=c then[]::bY c t else match bY c t with
  |[]=>[[b]]
  |w::ws=>(b::w)::ws
def kZ(c:bq):List (af)->af
 |[]=>[]
 |[w]=>w
 |w::ws=>w++c::kZ c ws
def vV(c:bq)(l:af):bY c l≠[]:=by cases l with|nil=>simp[bY]|cons b t=>{unfold bY;split;{simp};{split<;>simp}}
def uf(c:bq)(t:af):bY c (c::t)=[]::bY c t:=by show(if c=c then[]::bY c t else _)=_;rw[eh rfl]
def sw{c b:bq}(h:b≠c)(t:af)(w:af)(a:List (af))(d:bY c t=w::a):bY c (b::t)=(b::w)::a:=by unfold bY;rw[ed h,d]
def Fa(c:bq):∀(a t:af),c∉a->bY c (a++c::t)=a::bY c t
 |[],t,_=>uf c t
 |b::a,t,h=>by
  have d:b≠c:=fun e=>h (by rw[e];simp);exact sw d _ _ _ (Fa c a t (fun x=>h (by simp[x])))
def A1(c:bq):∀(a:af),c∉a->bY c a=[a]
 |[],_=>rfl
 |b::a,h=>by
  have d:b≠c:=fun e=>h (by rw[e];simp);exact sw d _ _ _ (A1 c a (fun x=>h (by simp[x])))
def acQ(c:bq)(w:af){a:List (af)}(h:a≠[]):kZ c (w::a)=w++c::kZ c a:=by cases a with|nil=>exact absurd rfl h|cons v t=>{rfl}
def VF(c:bq):∀(l:af),kZ c (bY c l)=l
 |[]=>rfl
 |b::t=>by
  have a:=VF c t;by_cases h:b=c
  ·subst h
   rw[uf,acQ b [] (vV b t),a];rfl
  ·cases d:bY c t with
   |nil=>exact absurd d (vV c t)
   |cons w ws=>
    rw[sw h t w ws d];rw[d]at a;cases ws with
    |nil=>show b::w=_;rw[show kZ c [w]=w from rfl]at a;rw[a]
    |cons v vs=>
     rw[acQ c _ J]at a⊢;rw[<-a];rfl
def Oc(c:bq):∀(l:af),∀w∈bY c l,c∉w
 |[],w,h=>by simp[bY]at h;subst h;simp
 |b::t,w,h=>by
  have a:=Oc c t;by_cases d:b=c
  ·subst d
   rw[uf]at h;rcases pk.1 h with e|e
   ·subst e;simp
   ·exact a w e
  ·cases f:bY c t with
   |nil=>exact absurd f (vV c t)
   |cons v vs=>
    rw[sw d t v vs f]at h;rw[f]at a;rcases pk.1 h with e|e
    ·subst e
     intro g;rcases pk.1 g with e|e
     ·exact d e.symm
     ·exact a v J e
    ·exact a w (by simp[e])
def xR(c:bq):∀(l:af),(bY c l).length=l.count c+1
 |[]=>rfl
 |b::t=>by
  have e:=xR c t;by_cases a:b=c
  ·subst a;rw[uf];simp[e]
  ·cases d:bY c t with
   |nil=>exact absurd d (vV c t)
   |cons v vs=>
    rw[sw a t v vs d,af9 a];rw[d]at e;simpa using e
def ue(c:bq):∀(l:af),∀w∈bY c l,w.length<=l.length
 |[],w,h=>by simp[bY]at h;subst h;simp
 |b::t,w,h=>by
  have a:=ue c t;by_cases f:b=c
  ·subst f
   rw[uf]at h;rcases pk.1 h with e|e
   ·subst e;simp
   ·have:=a w e;simp;omega
  ·cases d:bY c t with
   |nil=>exact absurd d (vV c t)
   |cons v vs=>
    rw[sw f t v vs d]at h;rw[d]at a;rcases pk.1 h with e|e
    ·subst e;have:=a v J;simp;omega
    ·have:=a w (by simp[e]);simp;omega
def Je(c:bq):∀t:af,c∈t->0<=Lib.indexByte t c
 |[],h=>by cases h
 |b::t,h=>by
  unfold Lib.indexByte;by_cases a:b=c
  ·rw[eh (by simpa using a)];omega
  ·rw[ed (by simpa using a)]
   have d:=Je c t (by rcases pk.1 h with e|e;exact absurd e.symm a;exact e);rw[ed (by simp;omega)];omega
def A0(c:bq):∀(n:Nat)(l:af),l.length<=n->Lib.splitK [c] 0 (l.count c) l=bY c l
 |n,[],_=>rfl
 |0,b::t,h=>by simp at h
 |n+1,b::t,h=>by
  by_cases a:b=c
  ·subst a
   rw[List.count_cons_self,uf];unfold Lib.splitK;have g:Lib.index (b::t) [b]=0:=by rw[afX];simp[Lib.indexByte]
   rw[g,ed I];simp only[Int.toNat_zero,ahH,aeg,ado,ad6,adN];rw[A0 b n t (by simp at h;omega)]
  ·rw[af9 a]
   have d:=A0 c n t (by simp at h;omega);cases f:t.count c with
   |zero=>
    have j:c∉t:=List.count_eq_zero.1 f;rw[A1 c (b::t) (by simp[j];exact fun e=>a e.symm)];rfl
   |succ k=>
    rw[f]at d;have r:Lib.index (b::t) [c]=Lib.index t [c]+1/\0<=Lib.index t [c]:=by
     rw[afX,afX];have i:c∈t:=List.count_pos_iff.1 V;have m:=Je c t i;refine⟨?_,m⟩;show(if b==c then 0 else if Lib.indexByte t c== -1 then-1 else Lib.indexByte t c+1)=_;rw[ed (by simpa using a),ed (by simp;omega)]
    unfold Lib.splitK at d⊢;rw[r.1];have q:¬(Lib.index t [c]== -1)=true:=by simp;omega
    have p:¬(Lib.index t [c]+1== -1)=true:=by simp;omega
    rw[ed q]at d;rw[ed p];have e1:(Lib.index t [c]+1).toNat=(Lib.index t [c]).toNat+1:=V;rw[e1];rw[sw a t _ _ d.symm];rfl
def Od(c:bq)(s:bm):(Lib.splitB ⟨#[c]⟩ 0 (Lib.countB s ⟨#[c]⟩) s).map (·.data.toList)=bY c s.data.toList:=by rw[Lib.splitB_data];show Lib.splitK [c] 0 (Lib.count s.data.toList [c]) s.data.toList=_;rw[Lib.count_one];exact A0 c _ _ Z
end
end Go.Proofs.YtlkceignfhnpoaaGreatDoor
