/-
  Part of a proof, written small.
-/
import Derived.Test.YtlkceignfhnpoaaGreatDoorS1SASLSOSY0
import Derived.Lib.Bytealg
import Derived.Lib.ItoaMem
import Derived.WalkKit
import Derived.Laws.BitsLemmas
import Derived.Laws.BytesArg
import Derived.Laws.IdiomStrings
import Derived.StillTail
import Derived.Lib.QuietBelow
import Derived.BigQuiet
import Derived.Lib.AtoiAll
import Derived.Lib.AtoiAllCases
import Derived.Shelf.SlGeneric
import Derived.Shelf.SlMaps.Clone
import Derived.Shelf.SlSortCmp.WholeK
import Derived.Shelf.SlSortCmp.Whole1
import Derived.Shelf.SlicesG.Cmp
import Derived.RangeFuncNested
import Derived.RangeFuncBound
import Derived.RangeFuncCalls
import Derived.RangeFuncLeaves
import Derived.Lib.Hide
set_option linter.all false
open Go.Proofs.Tryz
section
namespace Go.Proofs.YtlkceignfhnpoaaGreatDoor
open Go
def ahA:=@Lib.itoa_length_le
def aea:=@World.putObj_heap_other
def adO:=@IntKind.wrap_u32
def aeq:=@IntKind.wrap_i64
def aeU:=@World.cell?_alloc_mark
def af4:=@run_convert_bytes_arg
def age:=@getD_replicate_false
def agf:=@World.alloc_heap_new
def dF(c:bq):Int:=if 48<=c.toNat/\c.toNat<=57 then(c.toNat:Int)-48 else if 97<=c.toNat/\c.toNat<=102 then(c.toNat:Int)-87 else-1
def zS(c:bq):dF c<16:=by unfold dF;split<;>(try split)<;>omega
def Kl(c:bq): -1<=dF c:=by unfold dF;split<;>(try split)<;>omega
def jg:af->Option (af)
 |[]=>some []
 |[_]=>none
 |a::b::t=>if dF a<0\/dF b<0 then none else(jg t).map fun r=>UInt8.ofNat ((dF a).toNat*16+(dF b).toNat)::r
def iw(l:af):Option (af):=if l=[45]then some []else if l=[]\/l.length%2≠0 then none else jg l
def V2:∀c:Fin 256,Lib.indexByte [48,49,50,51,52,53,54,55,56,57,97,98,99,100,101,102] (UInt8.ofNat c.val)=dF (UInt8.ofNat c.val):=by decide+kernel
def V1(c:bq):Lib.indexByte [48,49,50,51,52,53,54,55,56,57,97,98,99,100,101,102] c=dF c:=by have h:=V2 ⟨c.toNat,c.toNat_lt⟩;simpa using h
def Wf:∀c:Fin 256,0<=dF (UInt8.ofNat c.val)->acH (dF (UInt8.ofNat c.val)).toNat=UInt8.ofNat c.val:=by decide+kernel
def Js(c:bq)(h:0<=dF c):acH (dF c).toNat=c:=by have:=Wf ⟨c.toNat,c.toNat_lt⟩;simp at this;exact this h
def Jt:∀(l r:af),jg l=some r->jL r=l
 |[],r,h=>by simp[jg]at h;subst h;rfl
 |[_],r,h=>by simp[jg]at h
 |a::b::t,r,h=>by
  simp only[jg]at h;split at h
  ·cases h
  ·rename_i j
   obtain⟨f,c,rfl⟩:=aef.1 h;have d:=Jt t f c;have g:=zS a;have i:=zS b;have e:(UInt8.ofNat ((dF a).toNat*16+(dF b).toNat)).toNat=(dF a).toNat*16+(dF b).toNat:=by
    rw[aeH];exact x3 V
   simp only[jL,e,d];rw[(V:((dF a).toNat*16+(dF b).toNat)/16=(dF a).toNat),(V:((dF a).toNat*16+(dF b).toNat)%16=(dF b).toNat),Js a V,Js b V]
def We{l r:af}(h:iw l=some r):iX r=l:=by unfold iw at h;split at h;{rename_i e;cases h;subst e;rfl};{split at h;{cases h};{rename_i b a;have:=Jt l r h;unfold iX;rw[ed];{exact this};{intro e;subst e;exact a (Or.inl this.symm)}}}
end Go.Proofs.YtlkceignfhnpoaaGreatDoor
end
section
namespace Go.Proofs.YtlkceignfhnpoaaGreatDoor
open Go
def tH:List (af×Int):=
 [([101,115,116,97,98,108,105,115,104],1),([97,99,99,101,112,116],2),([114,101,108,101,97,115,101],3),([114,101,115,121,110,99],4),([114,101,115,121,110,99,101,100],5),
  ([114,101,99,111,118,101,114,101,100],6),([100,97,116,97],7),([117,110,105,116],8),([109,97,110,97,103,101],9),([114,101,116,114,105,101,118,101],11)]
def jr(w:af):Int:=((tH.find? (fun p=>p.1==w)).map (·.2)).getD 0
def oY:List (af×af):=
 [([98,111,111,107],[]),([116,105,99,107],[78]),([115,101,116,116,108,101],[78]),([108,111,111,107],[69]),([99,97,114,114,121],[69]),([108,111,115,101],[69]),
  ([116,97,107,101],[69,78]),([98,114,105,110,103],[69,72]),([97,115,107],[69,87,72]),([115,112,111,105,108],[69,78,78]),([116,105,99,107,115],[78,78,78,78,78]),([108,105,110,107],[78,78,78,78,78,78])]
def iF(w:af):Option (af):=(oY.find? (fun p=>p.1==w)).map (·.2)
def La{w:af}(h:∀p∈tH,p.1≠w):jr w=0:=by unfold jr;rw[ad9.2 (fun p a=>by simpa using h p a)];rfl
def Sk{w:af}(h:∀p∈oY,p.1≠w):iF w=none:=by unfold iF;rw[ad9.2 (fun p a=>by simpa using h p a)];rfl
def Hv{w c:af}(h:iF w=some c):(w,c)∈oY:=by unfold iF at h;cases d:oY.find? (fun p=>p.1==w)with|none=>{rw[d]at h;cases h}|some p=>{rw[d]at h;have e:=ad2 d;have f:p.1=w:=by{simpa using List.find?_some d};obtain⟨a,b⟩:=p;cases h;cases f;exact e}
def oq:∀j:Fin 10,jr (tH[j.val]'(j.isLt)).1=(tH[j.val]'(j.isLt)).2:=by decide+kernel
def Sm:∀j:Fin 12,iF (oY[j.val]'(j.isLt)).1=some (oY[j.val]'(j.isLt)).2:=by decide+kernel
def Sl:∀p∈oY,p.2.count 87<=1/\p.2.count 72<=1/\p.2.length<=6/\∀c∈p.2,c=87\/c=72\/c=69\/c=78:=by decide+kernel
def iE:Nat->af->Option Nat
 |acc,[]=>some acc
 |acc,c::t=>if 48<=c.toNat/\c.toNat<=57 then iE (10*acc+(c.toNat-48)) t else none
def iD(w:af):Option Nat:=match iE 0 w with
 |some n=>if Lib.decDigits n=w/\n<=1099511627776 then some n else none
 |none=>none
structure aT where
 word:af
 nums:List Int
 ask:af
 data:af
def eX(c:bq)(w:af)(x:aT):Option aT:=
 if c=87 then(if jr w=0 then none else some {x with ask:=w})
 else if c=72 then(iw w).map fun d=>{x with data:=d}
 else match iD w with
  |some n=>if c=69/\1<n then none else some {x with nums:=x.nums++[(n:Int)]}
  |none=>none
def i6:af->List (af)->aT->Option aT
 |[],_,x=>some x
 |_::_,[],_=>none
 |c::t,w::ws,x=>match eX c w x with
  |none=>none
  |some y=>i6 t ws y
def qM(a:List (af)):Option aT:=match iF (a.getD 0 [])with
 |none=>none
 |some need=>if a.length=1+need.length then i6 need a.tail ⟨a.getD 0 [],[],[],[]⟩else none
def gl(s:af):Option aT:=qM (bY 32 s)
def mR(l:af):Bool:=decide (l=[])||decide (l.head? =some 35)
def iA:Nat->List aT->List (af)->List aT×Nat×Bool
 |_,out,[]=>(out,0,true)
 |n,out,l::t=>if mR l=true then iA (n+1) out t else match gl l with
  |none=>([],n+1,false)
  |some x=>if out.length=400 then([],n+1,false)else iA (n+1) (out++[x]) t
def cY(s:af):List aT×Nat×Bool:=iA 0 [] (bY 10 s)
def Hi:∀(t:af)(acc n:Nat),iE acc t=some n->acc<=n
 |[],acc,n,h=>by simp[iE]at h;omega
 |c::t,acc,n,h=>by
  unfold iE at h;split at h
  ·have:=Hi t _ _ h;omega
  ·cases h
def B1:∀(a b:af)(acc x:Nat),iE acc a=some x->iE acc (a++b)=iE x b
 |[],b,acc,x,h=>by simp[iE]at h;subst h;rfl
 |c::t,b,acc,x,h=>by
  unfold iE at h;split at h
  ·rename_i d
   show(if 48<=c.toNat/\c.toNat<=57 then iE (10*acc+(c.toNat-48)) (t++b)else none)=_;rw[eh d,B1 t b _ x h]
  ·cases h
def R8{a:af}{acc x:Nat}{c:bq}(h:iE acc a=some x):iE acc (a++[c])=if 48<=c.toNat/\c.toNat<=57 then some (10*x+(c.toNat-48))else none:=by rw[B1 a [c] acc x h];rfl
def R7{w:af}{n:Nat}(h:iD w=some n):Lib.itoa (n:Int)=w/\n<=1099511627776:=by unfold iD at h;split at h;{split at h;{rename_i a;cases h;exact⟨by unfold Lib.itoa;rw[ed V];simpa using a.1,a.2⟩};{cases h}};{cases h}
def Nl{c:bq}{w:af}{x y:aT}(h:eX c w x=some y):y.word=x.word:=by unfold eX at h;split at h;{split at h<;>cases h;rfl};{split at h;{cases a:iw w with|none=>{rw[a]at h;cases h}|some d=>{rw[a]at h;cases h;rfl}};{split at h;{split at h<;>cases h;rfl};{cases h}}}
end Go.Proofs.YtlkceignfhnpoaaGreatDoor
end
section
namespace Go.Proofs.YtlkceignfhnpoaaGreatDoor
open Go.RowKit
def Tc(x:Int)(i:Nat)(hi:i<=62):bits .and .i64 x (2^i-1)=x%2^i:=by have p:0<2^i:=ae3 i;have q:2^i<=2^62:=ads I hi;have b:((2:Int)^i-1)=((2^i-1:Nat):Int):=by{rw[ae7 p];simp};have a:IntKind.i64.bits=64:=rfl;have d:(2:Int)^i=((2^i:Nat):Int):=J;simp only[bits,b,aew,ad0,ahB,aeK,a];rw[x3 (V:2^i-1<2^64),ahn,d];have e:(((x%(2^64:Nat)).toNat:Nat):Int)=x%(2^64:Nat):=adL (adf _ I);have c:(((x%(2^64:Nat)).toNat%2^i:Nat):Int)=x%((2^i:Nat):Int):=by{rw[adZ,e];exact aev x (aeb.2 (ae4 2 V))};rw[c,aeq];have f:=adf x (V:((2^i:Nat):Int)≠0);have g:=adC x (V:(0:Int)<((2^i:Nat):Int));omega
def LP(n:Int)(a:0<=n)(b:n<2^62):IntKind.i64.wrap n=n:=by rw[aeq];omega
def G6(i:Nat)(hi:i<=62)(x y:Int)(a:0<=x)(e:x%2^i=0)(b:x<2^62)(c:0<=y)(f:y<2^i)(d:y<2^62):bits .or .i64 x y=x+y:=
 bits_join .i64 62 I LP i x y a e b c f d
def Rb(x y:Int)(b:0<=x)(c:x<16)(a:0<=y)(d:y<16):bits .or .i64 (x*16) y=x*16+y:=
 G6 4 I (x*16) y V V V a V V
def p7(i:Nat)(hi:i<=32)(x y:Int)(a:0<=x)(e:x%2^i=0)(b:x<2^32)(c:0<=y)(f:y<2^i)(d:y<2^32):bits .or .u32 x y=x+y:=
 bits_join .u32 32 I (fun n g h=>by rw[adO];omega) i x y a e b c f d
def Ra{a b c d:Nat}(e:a<256)(f:b<256)(g:c<256)(h:d<256): bits .or .u32 (bits .or .u32 (bits .or .u32 ((a:Int)*16777216) ((b:Int)*65536)) ((c:Int)*256)) (d:Int)=((a*16777216+b*65536+c*256+d:Nat):Int):=by
 rw[p7 24 V ((a:Int)*16777216) ((b:Int)*65536) V V V V V V,
  p7 16 V _ ((c:Int)*256) V V V V V V,
  p7 8 V _ (d:Int) V V V V V V]
 omega
end Go.Proofs.YtlkceignfhnpoaaGreatDoor
end
section
namespace Go.Proofs.YtlkceignfhnpoaaGreatDoor
open Go.RowKit
def YC(w:bt)(b:Nat)(c:Int)(a:w.heap.size=b): (convert 66 9 (.slice (some ⟨b,0,none⟩) 1 1)).run prog (w.alloc (.cells #[.int .u8 c] 5))=.ok (.string ⟨#[UInt8.ofNat c.toNat]⟩) (w.alloc (.cells #[.int .u8 c] 5)):=by subst a;refine(af4 _ 66 5 underlying66 underlying5 w.heap.size 0 1 1 [c] rfl ?_) 9 underlying9;intro i d;obtain rfl:i=0:=V;simp[aeU]
def Dh(w:bt)(b:Nat)(c d e f:Int)(a:w.heap.size=b): (convert 66 9 (.slice (some ⟨b,0,none⟩) 4 4)).run prog (w.alloc (.cells #[.int .u8 c,.int .u8 d,.int .u8 e,.int .u8 f] 5))=.ok (.string ⟨#[UInt8.ofNat c.toNat,UInt8.ofNat d.toNat,UInt8.ofNat e.toNat,UInt8.ofNat f.toNat]⟩) (w.alloc (.cells #[.int .u8 c,.int .u8 d,.int .u8 e,.int .u8 f] 5)):=by subst a;refine(af4 _ 66 5 underlying66 underlying5 w.heap.size 0 4 4 [c,d,e,f] rfl ?_) 9 underlying9;intro i g;have:i=0\/i=1\/i=2\/i=3:=V;rcases this with rfl|rfl|rfl|rfl<;>simp[aeU]
end Go.Proofs.YtlkceignfhnpoaaGreatDoor
end
section
namespace Go.Proofs.YtlkceignfhnpoaaGreatDoor
open Go Go.Sort
section
variable{P:c7}{ops:Array Oper}{md:Region.Mode}{C:bt -> Prop}
def vJ(P:c7)(md:Region.Mode)(ops:Array Oper)(C:bt->Prop)(n:Nat)(L:Array Bool->Act->Prop):Nat->Array Bool->Act->Prop
 |0,listed,a=>L listed a
 |f+1,listed,a=>
  Region.ready md ops listed≠[]/\∀i∈Region.ready md ops listed,i<n/\qOp P ops C i (vJ P md ops C n L f (listed.setIfInBounds i true)) a
def Ej{n g:Nat}{L:Array Bool->Act->Prop}{Q':Exit->Act->bt->Prop}(d:∀b a w,C w->L b a->wpAny P md ops Q' g b a w):
 ∀(f:Nat)(b:Array Bool)(a:Act)(w:bt),C w->vJ P md ops C n L f b a->wpAny P md ops Q' (f+g) b a w
 |0,b,a,w,hw,h=>by rw[ahH];exact d _ _ _ hw h
 |f+1,b,a,w,hw,h=>by
  rw[(V:f+1+g=(f+g)+1)];exact⟨fun k=>absurd k h.1,fun i l=>wpOp_of_qOp hw (fun e m c j=>Ej d f _ e m c j) (h.2 i l).2⟩
def Mh{n i:Nat}{G:Oper}{v:bn}{L:Array Bool->Act->Prop}(hi:ops[i]? =some G)(B:∀(j:Nat)(o:Oper)K b,ops[j]? =some o->o.op≠ .select K b) (T:Region.sinkB md ops n=true) (R:Region.chainB md ops n=true) (S:n<ops.size) (M:i<n) (D:∀s a,L s a->∀j∈Region.ready md ops s,n<=j): ∀(f:Nat)(s:Array Bool)(a:Act),HeadInv md ops n s-> (∀j F,ops[j]? =some F->j≠i->s.getD j true=false->(∀e∈F.after,Region.binds md e=true->e.on≠i)->G.apart ops F=true)-> i∈Region.ready md ops s->YieldsIn P ops C G v a-> vJ P md ops C n L f (s.setIfInBounds i true) (a.put G.dst v)->vJ P md ops C n L (f+1) s a:=by
 intro f;induction f with
 |zero=>
  intro s a z _ A O H;have q:=(mem_ready.1 A).1;refine⟨fun h=>(by rw[h]at A;cases A),fun j E=>?_⟩;have r:j<n:=by{rcases HK j n with h|h;{exact h};{exact absurd E (tail_waits T R S z _ i rfl M q j h)}};refine⟨r,?_⟩;by_cases p:j=i;{subst p;exact O.qOp hi H};{have:=D _ _ H j (ready_mono E p);omega}
 |succ f ih=>
  intro s a z t A O H;have q:=(mem_ready.1 A).1;refine⟨fun h=>(by rw[h]at A;cases A),fun j E=>?_⟩;have r:j<n:=by{rcases HK j n with h|h;{exact h};{exact absurd E (tail_waits T R S z _ i rfl M q j h)}};refine⟨r,?_⟩;by_cases p:j=i;{subst p;exact O.qOp hi H}
  ·have N:=(H.2 j (ready_mono E p)).2
   obtain⟨x,F,w,c⟩:=mem_ready.1 E;have d:∀e∈F.after,Region.binds md e=true->e.on≠i:=fun e he Y m=>by{have N:=c e he Y;rw[m,getD_both q]at N;cases N}
   have X:=qOp_put w (t j F w p x d) (fun K b=>B i G K b hi) (fun K b=>B j F K b w) O N;have u:∀k ok,ops[k]? =some ok->k≠i->(s.setIfInBounds j true).getD k true=false->
    (∀e∈ok.after,Region.binds md e=true->e.on≠i)->G.apart ops ok=true:=fun k ok hk l q g=>by
    refine t k ok hk l ?_ g;by_cases y:j=k
    ·subst y;exact x
    ·rw[getD_set_ne true y]at q;exact q
   refine qOp_mono (fun W Q=>ih (s.setIfInBounds j true) W (z.set E r) u (ready_mono A (adx p)) Q.1 ?_) X;rw[Array.setIfInBounds_comm _ _ p];exact Q.2
def Ek{n g:Nat}{e:Act->Prop}(c:Region.noSelect ops=true)(s:Region.sinkB md ops n=true)(i:Region.chainB md ops n=true)(m:n<ops.size):
 ∀(l:List Oper)(k:Nat)(listed:Array Bool)(a:Act),(∀j,j<l.length->l[j]? =ops[k+j]?)->k+l.length=n->HeadInv md ops n listed->
 Region.lexHead md ops g l.length k listed=true->wpQuiet P ops C e l a->
 vJ P md ops C n (fun b f=>Region.seqB md ops g n b=true/\e f) l.length listed a
 |[],k,listed,a,_,hk,_,hB,h=>by
  have:k=n:=by simpa using hk
  subst this;exact⟨by simpa[Region.lexHead]using hB,h⟩
 |o::l,k,listed,a,hl,hk,inv,hB,h=>by
  have d:ops[k]? =some o:=by simpa using(hl 0 J).symm
  simp only[hH,Region.lexHead,ev]at hB;obtain⟨⟨y,x⟩,t⟩:=hB;have p:k<n:=by simp only[hH]at hk;omega
  have q:k∈Region.ready md ops listed:=by simpa using y
  have r:qOp P ops C k (wpQuiet P ops C e l) a:=by unfold qOp;simp only[d];exact h
  obtain⟨v,z,u⟩:=yieldsIn_of_qOp d r;exact Mh d (Region.noSelect_spec c) s i m p (fun b f w=>seqB_ready w.1) l.length listed a inv (Region.free_spec d x) q z
   (Ek c s i m l (k+1) _ _ (fun j A=>by have:=hl (j+1) (by simp;omega);simpa[adr,af2 1 j]using this) (by simp only[hH]at hk;omega) (inv.set q p) t u)
def LY{id:Nat}{Q:Exit->Act->bt->Prop}{a:Act}{w:bt}{l:List Oper}(n:Nat)(z:P.follows .mixedOrders=true)(e:Region.lexTailB .any l.toArray n=true) (o:C {w with drawn:=w.drawn+1}) (h:wpQuiet P l.toArray C (fun d=>∀b,C b->wpList P l.toArray Q (l.drop n) d b) (l.take n) a):(Code.region id l.toArray true).wp P Q a w:=by
 simp only[Region.lexTailB,ev,ml]at e;obtain⟨⟨⟨⟨u,m⟩,A⟩,s⟩,v⟩:=e;have c:n<l.length:=by{simpa using m};have p:(l.take n).length=n:=by{simp;omega}
 have r:(l.drop n).length=l.toArray.size-n:=J;have inv0:HeadInv .any l.toArray n (Array.replicate l.toArray.size false):=
  ⟨J,fun j D _ k=>(by rw[age]at k;cases k),fun t _ B=>getD_in (by simpa using B) (age _ _)⟩
 have H:=Ek (md:=.any) (g:=l.toArray.size-n) u A s m (l.take n) 0 _ a (fun j i=>by have y:j<n:=by{rw[p]at i;exact i};simp[y]) (by simpa using p) inv0 (by rw[p];exact v) h;refine wp_region_any z ?_;have:=Ej (Q':=Q) (g:=l.toArray.size-n) (fun q d b x f=>by have:=wpAny_of_seq (md:=.any) (Q':=Q) (l.drop n) n q d b (fun j=>by simp[NL]) (by rw[r];exact f.1) (f.2 b x);rwa [r]at this) _ _ _ _ o H;rw[p,(V:n+(l.toArray.size-n)=l.toArray.size)]at this;exact this
def xq{id:Nat}{Q:Exit->Act->bt->Prop}{a:Act}{w:bt}{l:List Oper}(n:Nat)(e:P.follows .mixedOrders=true)(d:Region.lexTailB .any l.toArray n=true)
 (h:wpQuiet P l.toArray (fun b=>∃p:Regrown,b=grow (redrawn w p.d) p.os) (fun c=>∀b,(∃p:Regrown,b=grow (redrawn w p.d) p.os)->wpList P l.toArray Q (l.drop n) c b) (l.take n) a):
 (Code.region id l.toArray true).wp P Q a w:=
 LY (C:=fun b=>∃p:Regrown,b=grow (redrawn w p.d) p.os) n e d ⟨⟨w.drawn+1,#[]⟩,by rw[grow_empty];rfl⟩ h
end
end Go.Proofs.YtlkceignfhnpoaaGreatDoor
end
section
namespace Go.Proofs.YtlkceignfhnpoaaGreatDoor
open Go
def oZ(k:Int):af:=
 if k=1 then[98,103,110]else if k=2 then[98,103,97,107]else if k=3 then[101,110,100]else if k=4 then[101,110,100,97,107]else if k=5 then[114,115]
 else if k=6 then[114,115,97,107]else if k=7 then[98,103,114,101,106]else if k=8 then[115,100]else if k=9 then[101,114]else if k=10 then[112,111,108,108]
 else if k=11 then[115,116,97,116]else if k=12 then[117,115,116,97,116]else if k=13 then[117,100]else if k=14 then[109,100]else if k=15 then[101,114,97,107]else[]
def cD(k:Int):af:=
 if k=1\/k=5 then[115,110,100]else if k=2\/k=6\/k=9\/k=15 then[115,110]else if k=7\/k=3 then[115,100]else if k=4 then[115]else if k=8 then[110,100]
 else if k=10 then[110,112]else if k=11 then[110,112,109,108]else if k=12 then[110,109,108]else if k=13\/k=14 then[100]else[]
structure Pd where
 k:Int
 sq:Int
 n:Int
 ps:Int
 mr:Int
 l:List Int
 self:Bool
 d:af
def pd(l:List Int):af:=if l=[]then[45]else kZ 44 (l.map Lib.itoa)
def Ba:af:=[115,101,108,102]
def qm(p:Pd)(c:bq):af:=
 if c=115 then[115,113]++Lib.itoa p.sq else if c=110 then[110]++Lib.itoa p.n else if c=112 then[112,115]++Lib.itoa p.ps else if c=109 then[109,114]++Lib.itoa p.mr
 else if c=108 then[108]++pd p.l else[100]++iX p.d
def pn(p:Pd)(c:bq):List (af):=if c=100/\p.self=true then[Ba,qm p c]else[qm p c]
def El(p:Pd):List (af):=oZ p.k::(cD p.k).flatMap (pn p)
def rZ(p:Pd):af:=kZ 32 (El p)
def kindOf(w:af):Int:=match(List.range 15).find? (fun(i:Nat)=>decide (oZ ((i:Int)+1)=w))with
 |some i=>(i:Int)+1
 |none=>0
def ve(p:Pd):Int:=cS p.k p.sq p.n p.ps p.mr p.l p.self p.d.length
structure acU(p:Pd):Prop where
 k1:1<=p.k
 k2:p.k<=15
 sq:0<=p.sq/\p.sq<16777216
 n:0<=p.n/\p.n<16777216
 ps:0<=p.ps/\p.ps<16777216
 mr:0<=p.mr/\p.mr<16777216
 l:∀x∈p.l,0<=x/\x<16777216
 noSq:115∉cD p.k->p.sq=0
 noN:110∉cD p.k->p.n=0
 noPs:112∉cD p.k->p.ps=0
 noMr:109∉cD p.k->p.mr=0
 noL:108∉cD p.k->p.l=[]
 noD:100∉cD p.k->p.d=[]
 self:p.self=true->p.k=3
def Cr:af:=[115,110,112,109,108,100]
end Go.Proofs.YtlkceignfhnpoaaGreatDoor
end
section
namespace Go.Proofs.YtlkceignfhnpoaaGreatDoor
open Go
def Dl{k sq n ps mr:Int}{l:List Int}{self:Bool}{d:Nat}(h:cS k sq n ps mr l self d=0): (1<=k/\k<=15)/\l.length<=128/\d<=200/\((l.length:Int)=dv k\/(dv k<0/\l.length%2=0))/\(n<16777216/\ps<16777216/\mr<16777216/\∀x∈l,x<16777216)/\ ((0<di k\/d=0)/\(sN k=true\/n=0)/\(cV k=true\/ps=0)/\(cR k=true\/mr=0)/\(fS k=true\/self=false))/\(0<=sq/\sq<=255/\(db k=true\/sq=0)):=by unfold cS at h;split at h;{omega};rename_i i;split at h;{omega};rename_i f;rw[ite_eq_left_iff]at h;have g:=ad3 fun j=>absurd (h j) I;have m:1<=k/\k<=15:=by{simpa[dD]using i};simp only[ev]at g;obtain⟨⟨⟨e,b⟩,a⟩,c⟩:=g;unfold nd at e;unfold jO cN at b;unfold gM at c;unfold j7 at f;unfold jA at a;simp only[ev,ml,eu,Ob,ahc]at b c f a e;have o:di k=0\/di k=64\/di k=200:=by{unfold di;split;{simp};{split<;>simp}};have p:=a.1.1.1.1;exact⟨m,V,V,e,⟨b.1.1.1,b.1.1.2,b.1.2,b.2⟩,⟨a.1.1.1.1,a.1.1.1.2,a.1.1.2,a.1.2,a.2⟩,c.1.1,c.1.2,c.2⟩
def JK(p:Pd)(j:0<=p.n)(c:0<=p.ps)(b:0<=p.mr)(i:∀x∈p.l,0<=x)(h:ve p=0):acU p:=by
 obtain⟨k,E,n,K,H,l,w,d⟩:=p;unfold ve at h;simp only at j c b i h;obtain⟨⟨C,D⟩,F,G,e,⟨o,s,z,A⟩,⟨f,g,r,u,q⟩,v,y,t⟩:=Dl h;have a:k=1\/k=2\/k=3\/k=4\/k=5\/k=6\/k=7\/k=8\/k=9\/k=10\/k=11\/k=12\/k=13\/k=14\/k=15:=V;refine⟨C,D,⟨v,by show E<_;omega⟩,⟨j,o⟩,⟨c,s⟩,⟨b,z⟩,fun x m=>⟨i x m,A x m⟩,?_,?_,?_,?_,?_,?_,?_⟩<;>simp only
 ·rcases a with rfl|rfl|rfl|rfl|rfl|rfl|rfl|rfl|rfl|rfl|rfl|rfl|rfl|rfl|rfl<;>simp[cD,db]at t⊢ <;>first|exact t|skip
 ·rcases a with rfl|rfl|rfl|rfl|rfl|rfl|rfl|rfl|rfl|rfl|rfl|rfl|rfl|rfl|rfl<;>simp[cD,sN]at g⊢ <;>first|exact g|skip
 ·rcases a with rfl|rfl|rfl|rfl|rfl|rfl|rfl|rfl|rfl|rfl|rfl|rfl|rfl|rfl|rfl<;>simp[cD,cV]at r⊢ <;>first|exact r|skip
 ·rcases a with rfl|rfl|rfl|rfl|rfl|rfl|rfl|rfl|rfl|rfl|rfl|rfl|rfl|rfl|rfl<;>simp[cD,cR]at u⊢ <;>first|exact u|skip
 ·rcases a with rfl|rfl|rfl|rfl|rfl|rfl|rfl|rfl|rfl|rfl|rfl|rfl|rfl|rfl|rfl<;>simp[cD,dv]at e⊢ <;>first|exact e|skip
 ·rcases a with rfl|rfl|rfl|rfl|rfl|rfl|rfl|rfl|rfl|rfl|rfl|rfl|rfl|rfl|rfl<;>simp[cD,di]at f⊢ <;>first|exact f|skip
 ·rcases a with rfl|rfl|rfl|rfl|rfl|rfl|rfl|rfl|rfl|rfl|rfl|rfl|rfl|rfl|rfl<;>simp[fS]at q⊢ <;>first|(intro B;rw[B]at q;cases q)|(rw[q])|skip
def IY(c:bq):∀(w:af)(ws:List (af)),kZ c (w::ws)=w++ws.flatMap (fun v=>c::v)
 |w,[]=>by simp[kZ]
 |w,v::vs=>by
  rw[acQ c w J,IY c v vs];simp
def AP(p:Pd):rZ p=oZ p.k++(cD p.k).flatMap (fun c=>(pn p c).flatMap (fun v=>32::v)):=by unfold rZ El;rw[IY,List.flatMap_assoc]
def IX(c:bq)(m:Nat):∀(a:List (af)),(∀w∈a,w.length<=m)->(kZ c a).length<=a.length*(m+1)
 |[],_=>by simp[kZ]
 |[w],h=>by have:=h w J;show w.length<=1*(m+1);omega
 |w::v::a,h=>by
  have e:=h w J;have b:=IX c m (v::a) (fun x d=>h x (by simp[d]));show(w++c::kZ c (v::a)).length<=(a.length+1+1)*(m+1);rw[dw,hH,ady];simp only[hH]at b;omega
def wE(v:Int)(h:0<=v/\v<16777216):(Lib.itoa v).length<=21:=ahA v V V
def Cp(l:List Int)(h:∀x∈l,0<=x/\x<16777216)(c:l.length<=128):(pd l).length<=2816:=by unfold pd;split;{simp};{have:=IX 44 21 (l.map Lib.itoa) (fun w a=>by obtain⟨x,b,rfl⟩:=nm.1 a;exact wE x (h x b));rw[pt]at this;omega}
def VQ{c:Prop}[Decidable c]{a b:af}(d:a.length<=5)(e:b.length<=5):(if c then a else b).length<=5:=by split<;>assumption
def Sq(k:Int):(oZ k).length<=5:=by
 unfold oZ
 repeat' (refine VQ ?_ ?_)
 all_goals decide
def EJ{p:Pd}(a:acU p)(c:p.l.length<=128)(g:p.d.length<=200):(rZ p).length<=4000:=by
 rw[AP];have e:=a.k1;have f:=a.k2;have i:=wE _ a.sq;have j:=wE _ a.n;have m:=wE _ a.ps;have o:=wE _ a.mr;have r:=Cp _ a.l c;have s:=tq p.d;obtain⟨k,u,n,t,h,l,q,d⟩:=p;simp only at*;have b:k=1\/k=2\/k=3\/k=4\/k=5\/k=6\/k=7\/k=8\/k=9\/k=10\/k=11\/k=12\/k=13\/k=14\/k=15:=V;rcases b with rfl|rfl|rfl|rfl|rfl|rfl|rfl|rfl|rfl|rfl|rfl|rfl|rfl|rfl|rfl<;>cases q<;>
  simp[cD,pn,qm,Ba,oZ]<;>omega
end Go.Proofs.YtlkceignfhnpoaaGreatDoor
end
section
namespace Go.Proofs.YtlkceignfhnpoaaGreatDoor
open Go
def wQ(d:Nat)(h:d<10):Lib.decDigits d=[48+UInt8.ofNat d]:=by rw[Lib.decDigits,dif_pos h];simp
def Ko(x d:Nat)(b:0<x)(a:d<10):Lib.decDigits (10*x+d)=Lib.decDigits x++[48+UInt8.ofNat d]:=by rw[Lib.decDigits,dif_neg V,(V:(10*x+d)/10=x),(V:(10*x+d)%10=d)];simp
def Yv:∀n:Nat,0<n->(Lib.decDigits n).head?≠some 48/\Lib.decDigits n≠[]:=by intro n;induction n using Nat.strongRecOn with|_ n ih=>{intro h;by_cases d:n<10;{rw[wQ n d];have:n=1\/n=2\/n=3\/n=4\/n=5\/n=6\/n=7\/n=8\/n=9:=V;rcases this with rfl|rfl|rfl|rfl|rfl|rfl|rfl|rfl|rfl<;>decide};{have e:n=10*(n/10)+n%10:=V;rw[e,Ko (n/10) (n%10) V V];obtain⟨c,f⟩:=ih (n/10) V V;cases b:Lib.decDigits (n/10)with|nil=>exact absurd b f|cons a t=>{rw[b]at c;simpa using c}}}
structure jv(l:af)(j x:Nat):Prop where
 go:iE 0 (l.take j)=some x
 can:(j=0/\x=0)\/Lib.decDigits x=l.take j
def jv.zero(l:af):jv l 0 0:=⟨by simp[iE],.inl ⟨rfl,rfl⟩⟩
def jv.rest{l:af}{j x:Nat}(h:jv l j x):iE 0 l=iE x (l.drop j):=by have:=B1 (l.take j) (l.drop j) 0 x h.go;rwa [X2]at this
def jv.other{l:af}{j x:Nat}(h:jv l j x)(a:j<l.length)(b:l[j].toNat<48\/57<l[j].toNat):iD l=none:=by unfold iD;rw[h.rest,R2 a];unfold iE;rw[ed V]
def jv.ZT{l:af}{j x:Nat}(h:jv l j x)(b:1099511627776<x):iD l=none:=by unfold iD;split;{rename_i n a;rw[h.rest]at a;have:=Hi _ _ _ a;rw[ed V]};{rfl}
def jv.lead{l:af}{j:Nat}(h:jv l j 0)(d:0<j)(g:j<l.length):iD l=none:=by have b:l.take j=[48]:=by{rcases h.can with⟨e,_⟩|e;{omega};{rw[<-e];exact wQ 0 V}};unfold iD;split;{rename_i n i;rw[ed];rintro⟨e,_⟩;have a:l=48::l.drop j:=by{have:=X2 j l;rw[b]at this;exact this.symm};by_cases c:n=0;{subst c;rw[wQ 0 V]at e;have f:l.length=1:=by{rw[<-e];rfl};omega};{exact(Yv n V).1 (by rw[e,a];rfl)}};{rfl}
def jv.next{l:af}{j x:Nat}(h:jv l j x)(d:j<l.length)(c:48<=l[j].toNat/\l[j].toNat<=57)(g:j=0\/0<x):jv l (j+1) (10*x+(l[j].toNat-48)):=by have b:l.take (j+1)=l.take j++[l[j]]:=by{rw[fy d]};have a:(48+UInt8.ofNat (l[j].toNat-48):bq)=l[j]:=by{apply UInt8.toNat_inj.1;rw[UInt8.toNat_add];simp;omega};refine⟨by rw[b,R8 h.go,eh c],.inr ?_⟩;rw[b];by_cases f:0<x;{rcases h.can with⟨_,e⟩|e;{omega};{rw[Ko x _ f V,e,a]}};{have p:x=0:=V;have q:j=0:=V;subst p q;rw[(V:10*0+(l[0].toNat-48)=l[0].toNat-48),wQ _ V,a];rfl}
def jv.done{l:af}{x:Nat}(h:jv l l.length x):iD l=if l≠[]/\x<=1099511627776 then some x else none:=by have b:=h.go;rw[zs]at b;unfold iD;rw[b];simp only;by_cases c:l=[];{subst c;rw[ed,ed J];rintro⟨e,_⟩;have a:x=0:=by{simpa[iE]using b.symm};subst a;rw[wQ 0 V]at e;simp at e};{rcases h.can with⟨e,_⟩|e;{exact absurd (TB e) c};{rw[zs]at e;by_cases a:x<=1099511627776;{rw[eh ⟨e,a⟩,eh ⟨c,a⟩]};{rw[ed (fun k=>a k.2),ed (fun k=>a k.2)]}}}
end Go.Proofs.YtlkceignfhnpoaaGreatDoor
end
section
namespace Go.Proofs.YtlkceignfhnpoaaGreatDoor
open Go
def lK(a:List (af))(out:List aT):Prop:=∀rest,iA 0 [] (a++rest)=iA a.length out rest
def xm(a:List (af)):Prop:=∀rest,iA 0 [] (a++rest)=([],a.length,false)
theorem sH(n:Nat)(out:List aT)(l:af)(t:List (af)):iA n out (l::t)=if mR l=true then iA (n+1) out t else match gl l with
 |none=>([],n+1,false)
 |some x=>if out.length=400 then([],n+1,false)else iA (n+1) (out++[x]) t:=rfl
def lK.nil:lK [] []:=fun rest=>rfl
def lK.skip{a:List (af)}{out:List aT}{x:af}(h:lK a out)(b:mR x=true):lK (a++[x]) out:=fun rest=>by
 rw[ahq,h,ae8,sH,eh b,dw];rfl
def lK.step{a:List (af)}{out:List aT}{x:af}{y:aT}(h:lK a out)(c:mR x=false)(d:gl x=some y)(b:out.length≠400):lK (a++[x]) (out++[y]):=fun rest=>by
 rw[ahq,h,ae8,sH,ed (by rw[c];simp),d];simp only;rw[ed b,dw];rfl
def lK.bad{b:List (af)}{out:List aT}{x:af}(h:lK b out)(c:mR x=false)(a:gl x=none\/out.length=400):xm (b++[x]):=fun rest=>by
 rw[ahq,h,ae8,sH,ed (by rw[c];simp),dw];rcases a with a|a
 ·rw[a];rfl
 ·cases gl x with
  |none=>rfl
  |some y=>simp only;rw[eh a];rfl
def lK.all{a:List (af)}{out:List aT}(h:lK a out):iA 0 [] a=(out,0,true):=by have:=h [];rw[ahl]at this;rw[this];rfl
def xm.all{a l:List (af)}(h:xm a)(b:a <+: l):iA 0 [] l=([],a.length,false):=by obtain⟨t,rfl⟩:=b;exact h t
def x6:∀(d:List (af))(n:Nat)(out xs:List aT)(k:Nat),iA n out d=(xs,k,false)->xs=[]
 |[],n,out,xs,k,h=>by simp[iA]at h
 |l::t,n,out,xs,k,h=>by
  rw[sH]at h;by_cases b:mR l=true
  ·rw[eh b]at h;exact x6 t _ _ _ _ h
  ·rw[ed b]at h
   cases c:gl l with
   |none=>rw[c]at h;simp at h;exact h.1
   |some x=>
    rw[c]at h;simp only at h;by_cases a:out.length=400
    ·rw[eh a]at h;simp at h;exact h.1
    ·rw[ed a]at h;exact x6 t _ _ _ _ h
def KY:af:=[98,111,111,107]
def rep(n:Nat)(l:af):af:=(List.replicate n l).flatten
def pO:af:=[116,105,99,107]
def rl:af:=[108,111,111,107]
def Sj:iF pO=some [78]:=by decide+kernel
end Go.Proofs.YtlkceignfhnpoaaGreatDoor
end
section
namespace Go.Proofs
open Go.Shelf
def Tryz.WJ:Go.Shelf.Ren:=⟨fun|5=>294|7=>337|n=>n,fun|23=>242|25=>76|3=>342|4=>4|20=>20|n=>n,fun|n=>n⟩
def Tryz.Jz:Go.Proofs.SlLaysW.n5 prog Tryz.WJ:=by
 constructor<;>try first|kernel_rfl|(intro w;kernel_rfl)
 exact⟨Tryz.f294.name,by decide,func294.trans (congrArg some (by kernel_rfl))⟩
def Tryz.WK:Go.Shelf.Ren:=⟨fun|5=>295|7=>337|n=>n,fun|23=>246|25=>76|3=>9|4=>4|20=>20|n=>n,fun|n=>n⟩
def Tryz.JA:Go.Proofs.SlLaysW.n5 prog Tryz.WK:=by
 constructor<;>try first|kernel_rfl|(intro w;kernel_rfl)
 exact⟨Tryz.f295.name,by decide,func295.trans (congrArg some (by kernel_rfl))⟩
def Tryz.WE:Go.Shelf.Ren:=⟨fun|6=>342|15=>359|14=>358|28=>372|29=>237|20=>364|21=>365|22=>366|23=>367|24=>368|25=>369|26=>370|27=>371|46=>381|47=>382|48=>383|49=>384|50=>385|57=>389|n=>n,fun|22=>335|24=>387|25=>407|3=>3|39=>129|0=>0|53=>35|55=>263|4=>4|46=>424|45=>423|50=>163|5=>5|9=>9|66=>434|70=>438|76=>442|77=>443|n=>n,fun|n=>n⟩
def Tryz.Jw:Go.Proofs.SlLaysF0.n6 prog Tryz.WE:=by
 constructor<;>try first|kernel_rfl|(intro w;kernel_rfl)
 exact⟨Tryz.f342.name,by decide,func342.trans (congrArg some (by kernel_rfl))⟩;exact⟨Tryz.f358.name,by decide,func358.trans (congrArg some (by kernel_rfl))⟩;exact⟨Tryz.f364.name,by decide,func364.trans (congrArg some (by kernel_rfl))⟩;exact⟨Tryz.f365.name,by decide,func365.trans (congrArg some (by kernel_rfl))⟩;exact⟨Tryz.f366.name,by decide,func366.trans (congrArg some (by kernel_rfl))⟩;exact⟨Tryz.f367.name,by decide,func367.trans (congrArg some (by kernel_rfl))⟩;exact⟨Tryz.f368.name,by decide,func368.trans (congrArg some (by kernel_rfl))⟩;exact⟨Tryz.f369.name,by decide,func369.trans (congrArg some (by kernel_rfl))⟩;exact⟨Tryz.f370.name,by decide,func370.trans (congrArg some (by kernel_rfl))⟩;exact⟨Tryz.f371.name,by decide,func371.trans (congrArg some (by kernel_rfl))⟩;exact⟨Tryz.f381.name,by decide,func381.trans (congrArg some (by kernel_rfl))⟩;exact⟨Tryz.f384.name,by decide,func384.trans (congrArg some (by kernel_rfl))⟩;exact⟨Tryz.f385.name,by decide,func385.trans (congrArg some (by kernel_rfl))⟩;exact⟨Tryz.f389.name,by decide,func389.trans (congrArg some (by kernel_rfl))⟩
def Tryz.WG:Go.Shelf.Ren:=⟨fun|6=>355|15=>359|14=>363|28=>372|29=>237|20=>373|21=>374|22=>375|23=>376|24=>377|25=>378|26=>379|27=>380|46=>386|47=>382|48=>383|49=>387|50=>388|57=>390|n=>n,fun|22=>100|24=>76|25=>417|3=>3|39=>129|0=>0|53=>35|55=>263|4=>4|46=>424|45=>423|50=>163|5=>5|9=>9|66=>434|70=>438|76=>442|77=>443|n=>n,fun|n=>n⟩
def Tryz.Jy:Go.Proofs.SlLaysF.n6 prog Tryz.WG:=by
 constructor<;>try first|kernel_rfl|(intro w;kernel_rfl)
 exact⟨Tryz.f355.name,by decide,func355.trans (congrArg some (by kernel_rfl))⟩;exact⟨Tryz.f363.name,by decide,func363.trans (congrArg some (by kernel_rfl))⟩;exact⟨Tryz.f373.name,by decide,func373.trans (congrArg some (by kernel_rfl))⟩;exact⟨Tryz.f374.name,by decide,func374.trans (congrArg some (by kernel_rfl))⟩;exact⟨Tryz.f375.name,by decide,func375.trans (congrArg some (by kernel_rfl))⟩;exact⟨Tryz.f376.name,by decide,func376.trans (congrArg some (by kernel_rfl))⟩;exact⟨Tryz.f377.name,by decide,func377.trans (congrArg some (by kernel_rfl))⟩;exact⟨Tryz.f378.name,by decide,func378.trans (congrArg some (by kernel_rfl))⟩;exact⟨Tryz.f379.name,by decide,func379.trans (congrArg some (by kernel_rfl))⟩;exact⟨Tryz.f380.name,by decide,func380.trans (congrArg some (by kernel_rfl))⟩;exact⟨Tryz.f386.name,by decide,func386.trans (congrArg some (by kernel_rfl))⟩;exact⟨Tryz.f387.name,by decide,func387.trans (congrArg some (by kernel_rfl))⟩;exact⟨Tryz.f388.name,by decide,func388.trans (congrArg some (by kernel_rfl))⟩;exact⟨Tryz.f390.name,by decide,func390.trans (congrArg some (by kernel_rfl))⟩
def Tryz.WH:Go.Shelf.Ren:=⟨fun|5=>344|7=>360|n=>n,fun|22=>3|3=>3|4=>4|n=>n,fun|n=>n⟩
def Tryz.WI:Go.Proofs.SlLaysC2.n5 prog Tryz.WH:=by
 constructor<;>try first|kernel_rfl|(intro w;kernel_rfl)
 exact⟨Tryz.f344.name,by decide,func344.trans (congrArg some (by kernel_rfl))⟩;exact⟨Tryz.f360.name,by decide,func360.trans (congrArg some (by kernel_rfl))⟩
end Go.Proofs
end
section
namespace Go.Proofs.YtlkceignfhnpoaaGreatDoor
open Go Go.RowKit
structure je(lo hi:Nat)(W W':bt):Prop where
 size:W.heap.size<=W'.heap.size
 same:∀k,lo<=k->k<hi->W'.heap[k]? =W.heap[k]?
def je.trans{lo hi:Nat}{A B C:bt}(h:je lo hi A B)(k:je lo hi B C):je lo hi A C:=
 ⟨fq h.size k.size,fun i a b=>(k.same i a b).trans (h.same i a b)⟩
def je.putObj{lo hi:Nat}{W:bt}{l:Nat}{o:Obj}(h:hi<=l):je lo hi W (W.putObj l o):=
 ⟨J,fun k _ a=>aea V⟩
def wZ{a:Type}(B:Nat)(J:a->bt->Prop):Prop:=∀s W v,J s W->J s (W.setCell ⟨B,0,none⟩ v)
def DO{α:Type}(F:Fence)(n:Nat)(P:c7)(g:Nat)(lb:ahG)(enc:α->bn)(B hi:Nat)(S Sp:List α->Prop)(w:bt):Prop:=
 ∀(l:Nat)(J Jx:List α->bt->Prop)(W:bt),Below w.heap.size w W->wZ B J->wZ B Jx->
  (∀a x c,J a c->Sp (a++[x])->YieldAt F (n-1) P l #[enc x] c fun e b=>
   (e=.returned (.bool true)/\J (a++[x]) b/\je B hi c b)\/(e=.returned (.bool false)/\Jx (a++[x]) b))->
  J [] W->
  CallsIn F n P g (#[.func (.yield l) #[] #[]]++lb) W fun e b=>(∃v,e=.returned v)/\((∃d,S d/\J d b)\/(∃a,Sp a/\Jx a b))
variable{F:Fence}{n:Nat}{P:c7}
theorem Ql{α:Type}{g:Operand}{p:Tmp}{assign body:Code}{Q:Exit->Act->bt->Prop}{a:Act}{w:bt} (hro:F.round=none) (h1:1<=n) {gf:Nat} {lb:ahG} (hg:a.eval g=.func (.func gf) #[] lb) (hFg:F.fn gf) (eg:∀args w,(callFunc gf args).run P w=.ok (.enter gf args) w) {enc:α->bn} {B hi:Nat} {S Sp:List α->Prop} (hB:B<w.heap.size) (hhi:hi<=w.heap.size) (hseq:DO F (n-1) P gf lb enc B hi S Sp w) (I:List α->bt->Prop) (Ix:Code->List α->bt->Prop) (hI:OwnFrom w.heap.size I) (H:∀c,OwnFrom w.heap.size (Ix c)) (hT:wZ B I) (hTx:∀c,wZ B (Ix c)) (h0:I [] w) (O:α->Act) (z:∀(l:Nat)(x:α)(W:bt)(K:Act->bt->Prop),K (O x) W-> assign.wpIn (F.inRound l) (n-1-1) P (Exit.then K (fun _ _ _=>False)) {tmps:=(#[p].zip #[enc x]).foldl (fun t(p,v)=>t.setIfInBounds p v) a.tmps,defers:=[]} W) (hbody:∀(l:Nat)(q:List α)(x:α)(W:bt),I q W->Sp (q++[x])->body.wpIn (F.inRound l) (n-1-1) P (ownPostG w.heap.size (je B hi) I Ix (q++[x]) W) (O x) W) (hdone:∀(D:Nat)(xs:List α)(W:bt),w.heap.size<=D->S xs->I xs W->W.heap[D]? =some (.deferred (some []))->Q .normal {a with defers:={target:=.collected D,args:=#[]}::a.defers} W) (hstop:∀(D:Nat)(c:Code)(q:List α)(W:bt),w.heap.size<=D->Sp q->Ix c q W->W.heap[D]? =some (.deferred (some []))->c.wpIn F n P Q {a with defers:={target:=.collected D,args:=#[]}::a.defers} W): (Code.rangeFunc g #[p] assign body).wpIn F n P Q a w:=by
 refine wpIn_rangeFunc fun fn N=>?_;rw[hro];generalize hD:w.heap.size=D at*;let R:LoopState->Option Code->Loop:=fun st E=>{state:=st,pending:=E,fn,tmps:=a.tmps,params:=#[p],assign,body,defers:=D};let W1:bt:=(w.alloc (.deferred (some []))).alloc (.loop (R .ready none));have ha:W1.heap.size=D+2:=by{simp[W1,hD]};have M:W1.heap[D+1]? =some (.loop (R .ready none)):=by{have:=agf (w.alloc (.deferred (some []))) (.loop (R .ready none));rwa [World.size_alloc,hD]at this};have A:W1.heap[D]? =some (.deferred (some [])):=by{refine(Below.heap_alloc (w.alloc (.deferred (some []))) _ D (by simp[hD])).trans ?_;have:=agf w (.deferred (some []));rwa [hD]at this}
 have o:I [] W1:=hI.alloc _ (hI.alloc _ h0);have T:Below D w W1:=((Below.refl D w).alloc V _).alloc (by simp[hD]) _;let Mark:LoopState->Option Code->bt->Prop:=fun st E X=>X.heap[D+1]? =some (.loop (R st E))/\X.heap[D]? =some (.deferred (some []));have mset:∀{st E X}(v:bn),Mark st E X->Mark st E (X.setCell ⟨B,0,none⟩ v):=fun v h=>
  ⟨(Below.heap_setCell _ _ _ _ (by simp;omega)).trans h.1,(Below.heap_setCell _ _ _ _ (by simp;omega)).trans h.2⟩
 have u:∀{st E X}(f:LoopState)(d:Option Code),Mark st E X->Mark f d (X.putObj (D+1) (.loop (R f d))):=fun f d h=>
  ⟨World.putObj_heap_same (yt.1 h.1).1,(aea V).trans h.2⟩
 have y:∀{st E X Y},Mark st E X->KeepsFrom D X Y->Mark st E Y:=fun h k=>⟨k.same _ _ V h.1 rfl,k.same _ _ Z h.2 rfl⟩;refine⟨D+1,[{target:=.collected D,args:=#[]}],W1,{target:=.fn (.func gf) lb,args:=#[.func (.yield (D+1)) #[] #[]]},W1,gf,#[.func (.yield (D+1)) #[] #[]]++lb,W1,?_,?_,?_,?_,fun _=>h1,?_⟩;{subst hD;exact run_enterLoop_outer _ _ _ _ _};{simp only[resolve,hg];simp[go_sem]};{intro f' i;simp[Target.leads]at i;subst i;exact hFg};{simp[invoke,go_sem,eg]}
 refine(hseq (D+1) (fun q X=>I q X/\Mark .ready none X) (fun q X=>∃c,Ix c q X/\Mark .done (some c) X) W1 (by rw[hD];exact T)
  (fun s X v h=>⟨hT s X v h.1,mset v h.2⟩) (fun s X v h=>by obtain⟨c,h1,h2⟩:=h;exact⟨c,hTx c s X v h1,mset v h2⟩) ?_ ⟨o,M,A⟩).mono ?_
 ·rintro q x X⟨hi,b⟩L
  have hy:=run_yield (P:=P) (args:=#[enc x]) b.1 rfl;refine⟨fn,_,assign,body,hy,roundIn_of_wpIn N (z _ x X _ ⟨_,run_beginRound b.1 rfl,?_⟩)⟩;have m:Mark .busy none (X.putObj (D+1) (.loop (R .busy none))):=u .busy none b;refine wpIn_mono (hbody _ q x _ (hI.putObj _ hi V b.1 rfl) L) ?_;have leave:∀(j:Option Code)(Y:bt),KeepsFrom D (X.putObj (D+1) (.loop (R .busy none))) Y->
   (Instr.endRound (D+1) j).run P Y=.ok (.bool j.isNone) (Y.putObj (D+1) (.loop (R (if j.isNone then .ready else .done) j)))/\Mark .busy none Y:=fun j Y G=>⟨run_endRound (P:=P) j (y m G).1,y m G⟩
  rintro e a3 Y hp
  match e,hp with
  |.normal,⟨G,hkp,hi3⟩=>
   obtain⟨hr,r⟩:=leave none Y G;exact⟨_,_,hr,.inl ⟨rfl,⟨hI.putObj _ hi3 V r.1 rfl,u .ready none r⟩,((je.putObj V).trans hkp).trans (je.putObj V)⟩⟩
  |.ret,⟨G,hi3⟩=>
   obtain⟨hr,r⟩:=leave (some .ret) Y G;exact⟨_,_,hr,.inr ⟨rfl,.ret,(H _).putObj _ hi3 V r.1 rfl,u .done (some .ret) r⟩⟩
  |.exit id,⟨G,hi3⟩=>
   obtain⟨hr,r⟩:=leave (some (.exit id)) Y G;exact⟨_,_,hr,.inr ⟨rfl,.exit id,(H _).putObj _ hi3 V r.1 rfl,u .done (some (.exit id)) r⟩⟩
  |.goto t,⟨G,hi3⟩=>
   obtain⟨hr,r⟩:=leave (some (.goto t)) Y G;exact⟨_,_,hr,.inr ⟨rfl,.goto t,(H _).putObj _ hi3 V r.1 rfl,u .done (some (.goto t)) r⟩⟩
 {rintro e X⟨⟨v,rfl⟩,(⟨xs,hS,hi,b⟩|⟨q,C,c,hi,b⟩)⟩;{exact⟨none,_,run_endLoop (P:=P) b.1 (by simp[R]),hdone _ xs _ Z hS (hI.putObj _ hi V b.1 rfl) ((aea V).trans b.2)⟩};{exact⟨some c,_,run_endLoop (P:=P) b.1 (by simp[R]),hstop _ c q _ Z C ((H c).putObj _ hi V b.1 rfl) ((aea V).trans b.2)⟩}}
end Go.Proofs.YtlkceignfhnpoaaGreatDoor
end
