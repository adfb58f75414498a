/-
  Part of a proof, written small.
-/
import Derived.Test.YtlkceignfhnpoaaGreatDoorS1SASLSOSY3
set_option linter.all false
namespace Go.Proofs.YtlkceignfhnpoaaGreatDoor
open Go AX
variable{α:Type}{tm B vs:ahG}{m:AX α}{x:Operand}{ops:Array Oper}{t T e:bW}{Q:gi×ahG->AH->Nat->Prop}{z i d k n:Nat}{o:Oper}{v:bn}{S:List FuncId}{C A w:List Nat}{c a:Code}{p:Array bW}{f g:du}{u:AX α}{l:List (Nat×bn)}{h:Array Operand}{op:BinOp}{r:List Oper}
structure Lp{j:Type}(q:j):Type where
 n:Nat
def Wp{α:Type}(F G:Nat->Prop)(m:AX α)(H:AH)(s:Nat)(Q:α->AH->Nat->Prop)(t:Lp Q:=⟨0⟩):Prop:=∃o,m H s=some o/\(∀b,b∈o.D->F b)/\(∀b,b∈o.W->G b)/\Q o.val o.H o.s
section
variable{α j:Type}{F G:Nat -> Prop}{H:AH}{s:Nat}
def nG{m:AX α}{Q Q':α->AH->Nat->Prop}(h:∀a H s,Q a H s=Q' a H s):Wp F G m H s Q=Wp F G m H s Q':=by have:Q=Q':=by{funext a H s;exact h a H s};subst this;rfl
def acr{a:α}{Q:α->AH->Nat->Prop}:Wp F G (ret a) H s Q=Q a H s:=by simp[Wp,AX.ret]
def fM{Q:α->AH->Nat->Prop}:Wp F G (fail:AX α) H s Q=False:=by simp[Wp,AX.fail]
def bH{m:AX α}{f:α->AX j}{Q:j->AH->Nat->Prop}:Wp F G (bind m f) H s Q=Wp F G m H s (fun a l n=>Wp F G (f a) l n Q):=by apply propext;constructor;{rintro⟨o,h,d,e,k⟩;obtain⟨p,q,g,i,rfl⟩:=bind_some h;exact⟨p,g,fun b c=>d b (adi _ c),fun b c=>e b (adi _ c),q,i,fun b c=>d b (ac7 _ c),fun b c=>e b (ac7 _ c),k⟩};{rintro⟨p,g,d,e,q,i,t,r,k⟩;refine⟨⟨q.val,q.H,q.s,p.D++q.D,p.W++q.W⟩,by simp[AX.bind,g,i],fun b c=>?_,fun b c=>?_,k⟩;{rcases my.1 c with h|h;{exact d b h};{exact t b h}};{rcases my.1 c with h|h;{exact e b h};{exact r b h}}}
def acB{m:AX α}{Q Q':α->AH->Nat->Prop}(h:Wp F G m H s Q)(g:∀a e f,Q a e f->Q' a e f):Wp F G m H s Q':=by obtain⟨o,a,b,c,d⟩:=h;exact⟨o,a,b,c,g _ _ _ d⟩
def Ee{x:Option α}{Q:α->AH->Nat->Prop}:Wp F G (ofOpt x) H s Q=(match x with|some a=>Q a H s|none=>False):=by cases x<;>simp[Wp,AX.ofOpt]
def eW{c:Prop}[Decidable c]{m u:AX α}{Q:α->AH->Nat->Prop}:Wp F G (if c then m else u) H s Q=if c then Wp F G m H s Q else Wp F G u H s Q:=by by_cases h:c<;>simp[h]
def fV{b:Nat}{Q:bj×bW×Bool->AH->Nat->Prop}:Wp F G (cells b) H s Q=(match H b with|some (.cells cs T wr)=>F b/\Q (cs,T,wr) H s|_=>False):=by unfold AX.cells;rw[bH];cases a:H b with|none=>simp[Wp,AX.get,a]|some x=>{cases x with|cells cs T wr=>simp[Wp,AX.get,a,AX.ret]|map kv=>{simp[Wp,AX.get,a,AX.fail]}}
def tU{b:Nat}{Q:List (bn×bn)->AH->Nat->Prop}:Wp F G (entries b) H s Q=(match H b with|some (.map kv)=>F b/\Q kv H s|_=>False):=by unfold AX.entries;rw[bH];cases a:H b with|none=>simp[Wp,AX.get,a]|some x=>{cases x with|cells cs T wr=>simp[Wp,AX.get,a,AX.fail]|map kv=>{simp[Wp,AX.get,a,AX.ret]}}
def nF{b:Nat}{x:Option AB}{Q:Unit->AH->Nat->Prop}:Wp F G (set b x) H s Q=(F b/\G b/\Q () (aG H b x) s):=by simp[Wp,AX.set]
def oG{x:AB}{Q:Nat->AH->Nat->Prop}:Wp F G (new x) H s Q=Q s (aG H s (some x)) (s+1):=by simp[Wp,AX.new]
end
def bl(B:ahG):List (Nat×bn)->ahG
 |[]=>B
 |p::r=>(bl B r).setIfInBounds p.1 p.2
def B9(B:ahG):∀l,(bl B l).size=B.size
 |[]=>rfl
 |p::r=>by simp[bl,B9 B r]
def Qr(B:ahG)(l:List (Nat×bn))(d:Nat)(v:bn):cq (bl B l) (some d) v=bl B ((d,v)::l):=TC rfl rfl
def Qq(tm:ahG)(v:bn):cq tm none v=tm:=TC rfl rfl
def aF(B:ahG)(k:Nat):bn:=B.getD k undef
def XD(B:ahG)(k:Nat):bo (bl B []) (.tmp k)=aF B k:=TC rfl rfl
def XI(h:d<B.size):bo (bl B ((d,v)::l)) (.tmp k)=if d=k then v else bo (bl B l) (.tmp k):=by show((bl B l).setIfInBounds d v).getD k undef=if d=k then v else(bl B l).getD k undef;by_cases e:d=k;{subst e;simp[Array.getD,B9,h]};{simp only[qe,ed e,adJ e]}
def XF(h:d<B.size):bo (bl B ((d,v)::l)) (.tmp d)=v:=by rw[XI h,eh rfl]
def XE(h:d≠k):bo (bl B ((d,v)::l)) (.tmp k)=bo (bl B l) (.tmp k):=by show((bl B l).setIfInBounds d v).getD k undef=(bl B l).getD k undef;simp only[qe,adJ h]
def XH(tm:ahG)(v:bn):bo tm (.const v)=v:=TC rfl rfl
def XG(tm:ahG)(f:FuncId):bo tm (.func f)=.func (.func f) #[] #[]:=TC rfl rfl
def WA(B:ahG)(l:List (Nat×bn))(k:Nat):(bl B l).getD k undef=bo (bl B l) (.tmp k):=TC rfl rfl
section
variable{P:c7}{call:FuncId -> ahG -> AX bn}{F G:Nat -> Prop}{H:AH}{s:Nat}
def ew(P:c7)(call:FuncId->ahG->AX bn)(ops:Array Oper):List Oper->ahG->AX (ahG)
 |[],tm=>ret tm
 |o::r,tm=>bind (cP P call ops o tm) fun v=>ew P call ops r (cq tm o.dst v)
def A9:∀(l:List Oper)(tm:ahG)(H:AH)(s:Nat)(o:bE (ahG)),ew P call ops l tm H s=some o->∃a,dy P call ops l tm H s=some ⟨(o.val,a),o.H,o.s,o.D,o.W⟩
 |[],tm,H,s,o,h=>by
  simp[ew,AX.ret]at h;subst h;exact⟨[],by simp[dy,AX.ret]⟩
 |x::r,tm,H,s,o,h=>by
  unfold ew at h;obtain⟨p,q,b,c,rfl⟩:=bind_some h;obtain⟨a,d⟩:=A9 r _ _ _ _ c;refine⟨⟨s,p.s,p.D,p.W⟩::a,?_⟩;simp[dy,j8,AX.bind,AX.ret,b,d]
def acW{id:Nat}(h:Wp F G (ew P call ops ops.toList tm) H s (fun t a g=>Q (.normal,t) a g)):Wp F G (bh P call (.region id ops false) tm) H s Q:=by obtain⟨o,b,c,e,d⟩:=h;obtain⟨p,f⟩:=A9 _ _ _ _ _ b;unfold bh;rw[bH];refine⟨⟨o.val,o.H,o.s,o.D,o.W⟩,by simp[mG,AX.bind,AX.ret,f],c,e,?_⟩;show Wp F G (ret (gi.normal,o.val)) o.H o.s Q;rw[acr];exact d
def qj(o:Oper):Nat:=
 match o.op with
 |.move _|.assign _|.pick .. |.build .. |.nilCheck _|.binOp .. |.unOp .. |.convert .. |.makeInterface .. |.typeAssert .. |.makeFunc .. |.fieldAddr .. |.field .. |.indexAddr .. |.index .. |.extract .. =>0
 |.load .. |.lookup .. |.slice .. =>1
 |.call c=>match c.callee with
  |.builtin .len=>1
  |.builtin .max|.builtin .min=>0
  |_=>2
 |_=>2
def Dp(S:List FuncId)(o:Oper):Bool:=
 match o.op with
 |.call c=>match c.callee with
  |.value (.func f)=>S.contains f
  |_=>false
 |_=>false
def fZ(S:List FuncId)(o:Oper):Nat:=if Dp S o=true then 1 else qj o
def nk(o:Oper):Bool:=
 match o.op with
 |.alloc _|.box .. |.buildSlice .. |.makeSlice .. |.makeMap .. =>true
 |_=>false
def aside(S:List FuncId)(C A a:List Nat)(i:Nat)(o:Oper):Bool:=(Nat.ble (fZ S o) 1&&C.contains i&& !A.contains i)||(nk o&&A.contains i)||a.contains i
def Da(S:List FuncId)(C A a:List Nat)(ops:Array Oper):Bool:=
 let bits:=Region.before ops
 ops.toList.zipIdx.all fun g=>ops.toList.zipIdx.all fun f=> !(f.2<g.2)||(bits.getD g.2 0).testBit f.2||fZ S f.1==0||fZ S g.1==0||(Nat.ble (fZ S f.1) 1&&Nat.ble (fZ S g.1) 1)
  ||(nk f.1&&nk g.1)||(aside S C A a f.2 f.1&&aside S C A a g.2 g.1)
def aX(m:AX α):Prop:=∀H s o,m H s=some o->o.D=[]/\o.W=[]/\o.s=s
def bV(m:AX α):Prop:=∀H s o,m H s=some o->o.W=[]/\o.s=s
def aX.ret{a:α}:aX (AX.ret a):=by intro H s o h;simp[AX.ret]at h;subst h;exact⟨rfl,rfl,rfl⟩
def aX.fail:aX (AX.fail:AX α):=by intro H s o h;cases h
def aX.opt{x:Option α}:aX (AX.ofOpt x):=by intro H s o h;cases x with|none=>simp[AX.ofOpt]at h|some a=>{simp[AX.ofOpt]at h;subst h;exact⟨rfl,rfl,rfl⟩}
def aX.reads(h:aX m):bV m:=fun H s o e=>(h H s o e).2
def bV.bind{j:Type}{f:α->AX j}(h:bV m)(k:∀a,bV (f a)):bV (AX.bind m f):=by intro H s o e;obtain⟨p,q,c,d,rfl⟩:=bind_some e;have a:=h _ _ _ c;have b:=k _ _ _ _ d;exact⟨by simp[a.1,b.1],by simp[a.2,b.2]⟩
def bV.get(b:Nat):bV (AX.get b):=by intro H s o h;unfold AX.get at h;cases a:H b with|none=>{rw[a]at h;cases h}|some x=>{rw[a]at h;simp at h;subst h;exact⟨rfl,rfl⟩}
def bV.cells(b:Nat):bV (AX.cells b):=by unfold AX.cells;refine bV.bind (bV.get b) fun x=>?_;cases x with|cells cs T wr=>exact(aX.ret).reads|map kv=>{exact aX.fail.reads}
def bV.entries{b:Nat}:bV (AX.entries b):=by unfold AX.entries;refine bV.bind (bV.get b) fun x=>?_;cases x with|cells cs T wr=>exact aX.fail.reads|map kv=>{exact(aX.ret).reads}
def bV.readN(b o n:Nat):bV (AX.readN b o n):=by unfold AX.readN;refine bV.bind (bV.cells b) fun x=>?_;split;{exact(aX.ret).reads};{exact aX.fail.reads}
end
section
variable{P:c7}{call:FuncId -> ahG -> AX bn}{F G:Nat -> Prop}{H:AH}{s:Nat}
def zQ{m:Sem bn}:aX (cZ P m):=by
 unfold cZ
 repeat' split
 all_goals first|exact aX.ret|exact aX.fail
def X0:aX (nB v):=by
 unfold nB;split
 all_goals first|exact aX.ret|exact aX.fail
def Yb{a b:Operand}{x y:bn}:aX (bZ P op T a b x y):=by
 unfold bZ
 repeat' split
 all_goals first|exact zQ|exact aX.ret|exact aX.fail
def X7{x:bn}:aX (nD P T x i):=by
 unfold nD
 repeat' split
 all_goals first|exact aX.ret|exact aX.fail
def X9{x:bn}:aX (lI P T x i):=by
 unfold lI
 repeat' split
 all_goals first|exact aX.opt|exact aX.fail
def X4{x i:bn}:aX (eS P T x i):=by
 unfold eS
 repeat' split
 all_goals first|exact aX.ret|exact aX.fail
def X6{x i:bn}:aX (ee P T x i):=by
 unfold ee
 repeat' split
 all_goals first|exact aX.opt|exact zQ|exact aX.fail
def Gw:bV (js P T v):=by
 unfold js
 repeat' split
 all_goals first|exact aX.fail.reads|exact bV.bind (bV.readN _ _ _) (fun _=>(aX.ret).reads)|exact bV.bind (bV.cells _) (fun _=>(aX.opt).reads)
def Qi{m k:bn}{ok:Bool}:bV (nC P T m k ok):=by
 unfold nC
 repeat' split
 all_goals first
  |exact aX.fail.reads
  |exact(aX.ret).reads
  |(refine bV.bind (bV.entries) fun _=>?_
    repeat' split
    all_goals first|exact aX.fail.reads|exact(aX.ret).reads)
def Qg{x:bn}{lo hi a:Option bn}:bV (ij P T x lo hi a):=by
 unfold ij
 repeat' split
 all_goals first
  |exact aX.fail.reads
  |exact(aX.ret).reads
  |(refine bV.bind (bV.cells _) fun _=>?_
    repeat' split
    all_goals first|exact aX.fail.reads|exact(aX.ret).reads)
def Qj:bV (fj P T v):=by
 unfold fj
 repeat' split
 all_goals first|exact aX.fail.reads|exact(aX.ret).reads|exact bV.bind (bV.entries) (fun _=>(aX.ret).reads)
def Ke{b:Builtin}(a:b=.max\/b=.min):aX (gD P b p vs):=by
 rcases a with rfl|rfl
 all_goals
  unfold gD;split
  all_goals first
   |(exfalso;simp_all;done)
   |exact aX.fail
   |(split
     ·exact zQ
     ·exact aX.fail)
def Qk:bV (gD P .len p vs):=by
 unfold gD;split
 all_goals first
  |exact Qj
  |exact aX.fail.reads
  |(exfalso;simp_all;done)
def Ya:aX (ou P T v):=by
 unfold ou
 repeat' split
 all_goals first|exact aX.ret|exact aX.fail
def Yc{ok:Bool}:aX (mI P v T ok):=by
 unfold mI
 repeat' split
 all_goals first|exact aX.ret|exact aX.fail
def Kd(h:qj o=0):aX (bA P call o tm):=by
 unfold qj at h;unfold bA;dsimp only;split
 ·split at h
  all_goals first
   |(exfalso;revert h;(repeat' split)<;>intro h<;>simp at h;done)
   |skip
  (all_goals (rename_i a;simp only[a]))
  all_goals first
   |exact aX.ret
   |exact X0
   |exact Yb
   |exact Ya
   |exact Yc
   |exact X7
   |exact X9
   |exact X4
   |exact X6
   |(repeat' split;all_goals first|exact aX.ret|exact aX.fail|exact aX.opt|exact zQ)
   |skip
  split at h;{cases h};{rename_i e;simp only[e];exact Ke (.inl rfl)};{rename_i e;simp only[e];exact Ke (.inr rfl)};{cases h}
 {exact aX.fail}
def Qh(h:Nat.ble (qj o) 1=true):bV (bA P call o tm):=by
 by_cases a:qj o=0;{exact(Kd a).reads};have h:qj o=1:=by{have:=af5 h;omega};clear a;unfold qj at h;unfold bA;dsimp only;split
 ·split at h
  all_goals first
   |(exfalso;revert h;(repeat' split)<;>intro h<;>simp at h;done)
   |skip
  (all_goals (rename_i b;simp only[b]))
  all_goals first
   |exact Gw
   |exact Qi
   |exact Qg
   |skip
  split at h;{rename_i e;simp only[e];exact Qk};{cases h};{cases h};{cases h}
 {exact aX.fail.reads}
def C9(h:qj o=0):aX (cP P call ops o tm):=by unfold cP;split;{exact Kd h};{exact aX.ret}
def Qf(h:Nat.ble (qj o) 1=true):bV (cP P call ops o tm):=by unfold cP;split;{exact Qh h};{exact(aX.ret).reads}
def dL(m:AX α):Prop:=∀H s o,m H s=some o->o.D=[]/\o.W=[]
def dL.of(h:aX m):dL m:=fun H s o e=>⟨(h H s o e).1,(h H s o e).2.1⟩
def dL.bind{j:Type}{f:α->AX j}(h:dL m)(k:∀a,dL (f a)):dL (AX.bind m f):=by intro H s o e;obtain⟨p,q,c,d,rfl⟩:=bind_some e;have a:=h _ _ _ c;have b:=k _ _ _ _ d;exact⟨by simp[a.1,b.1],by simp[a.2,b.2]⟩
def dL.new(x:AB):dL (AX.new x):=by intro H s o h;simp[AX.new]at h;subst h;exact⟨rfl,rfl⟩
def dL.cells(T:bW)(cs:bj):dL (AX.newC T cs):=by unfold AX.newC;split;{exact dL.bind (dL.new _) fun _=>dL.of (aX.ret)};{exact dL.of aX.fail}
def Sg(h:nk o=true):dL (bA P call o tm):=by
 unfold nk at h;unfold bA;dsimp only;split
 ·split at h
  {rename_i a;simp only[a];split;{exact dL.cells _ _};{exact dL.of aX.fail}};{rename_i a;simp only[a];exact dL.cells _ _}
  ·rename_i a;simp only[a]
   unfold mH;(repeat' split)
   all_goals first
    |exact dL.of aX.fail
    |exact dL.bind (dL.new _) fun _=>dL.of (aX.ret)
  ·rename_i a;simp only[a]
   unfold ot;(repeat' split)
   all_goals first
    |exact dL.of aX.fail
    |exact dL.bind (dL.new _) fun _=>dL.of (aX.ret)
  ·rename_i a;simp only[a]
   (repeat' split)
   all_goals first
    |exact dL.of aX.fail
    |exact dL.bind (dL.new _) fun _=>dL.of (aX.ret)
  {cases h}
 {exact dL.of aX.fail}
def B5(h:nk o=true):dL (cP P call ops o tm):=by unfold cP;split;{exact Sg h};{exact dL.of (aX.ret)}
structure acA(S:List FuncId)(call:FuncId->ahG->AX bn):Prop where
 reads:∀f,S.contains f=true->∀xs,bV (call f xs)
 ls:∀f xs,LS (call f xs)
def Zi(a:acA S call)(h:Dp S o=true):bV (bA P call o tm):=by unfold Dp at h;split at h;{rename_i c d;split at h;{rename_i f b;unfold bA;dsimp only;rw[d];dsimp only;rw[b];dsimp only[bo];split;{split;{exact a.reads f h _};{exact aX.fail.reads}};{exact aX.fail.reads}};{cases h}};{cases h}
def yu(a:acA S call)(h:Nat.ble (fZ S o) 1=true):bV (cP P call ops o tm):=by unfold fZ at h;split at h;{rename_i b;unfold cP;split;{exact Zi a b};{exact(aX.ret).reads}};{exact Qf h}
def fG(z:Nat)(m:AX α):AX α:=fun H s=>match m H s with
 |some o=>if o.D.all (fun b=>Nat.blt b z)=true then some o else none
 |none=>none
def wC(z:Nat)(m:AX α):AX α:=fun H s=>if z<=s then m H s else none
def Hb{H:AH}{s:Nat}{o:bE α}(h:fG z m H s=some o):m H s=some o/\∀b,b∈o.D->b<z:=by unfold fG at h;cases a:m H s with|none=>{rw[a]at h;cases h}|some p=>{rw[a]at h;dsimp only at h;split at h;{rename_i d;cases h;refine⟨rfl,fun b c=>?_⟩;have:=eu.1 d b c;exact af5 this};{cases h}}
def IR{H:AH}{s:Nat}{o:bE α}(h:wC z m H s=some o):m H s=some o/\z<=s:=by unfold wC at h;split at h;{rename_i a;exact⟨h,a⟩};{cases h}
def Mc{Q:α->AH->Nat->Prop}:Wp F G (fG z m) H s Q=Wp (fun b=>F b/\b<z) G m H s Q:=by apply propext;constructor;{rintro⟨o,h,c,e,d⟩;obtain⟨f,g⟩:=Hb h;exact⟨o,f,fun b a=>⟨c b a,g b a⟩,e,d⟩};{rintro⟨o,h,c,e,d⟩;refine⟨o,?_,fun b a=>(c b a).1,e,d⟩;unfold fG;rw[h];dsimp only;rw[eh];exact eu.2 fun b a=>Nat.ble_eq_true_of_le (c b a).2}
def Md{Q:α->AH->Nat->Prop}:Wp F G (wC z m) H s Q=(z<=s/\Wp F G m H s Q):=by apply propext;constructor;{rintro⟨o,h,a,c,b⟩;obtain⟨d,e⟩:=IR h;exact⟨e,o,d,a,c,b⟩};{rintro⟨f,o,h,a,c,b⟩;exact⟨o,by unfold wC;rw[eh f];exact h,a,c,b⟩}
noncomputable def own(z:Nat)(m:AX α):AX α:=fun H s=>
 open Classical in
 if z<=s/\Bd H s then(match m H s with
  |some o=>if(∀b,b∈o.D->b<z\/s<=b)/\(∀b,b∈o.W->s<=b)then some o else none
  |none=>none)
 else none
def G1{H:AH}{s:Nat}{o:bE α}(h:own z m H s=some o):m H s=some o/\z<=s/\Bd H s/\(∀b,b∈o.D->b<z\/s<=b)/\(∀b,b∈o.W->s<=b):=by unfold own at h;split at h;{rename_i d;cases c:m H s with|none=>{rw[c]at h;cases h}|some p=>{rw[c]at h;dsimp only at h;split at h;{rename_i a;cases h;exact⟨rfl,d.1,d.2,a.1,a.2⟩};{cases h}}};{cases h}
def Mb{Q:α->AH->Nat->Prop}:Wp F G (own z m) H s Q=(z<=s/\Bd H s/\Wp (fun b=>F b/\(b<z\/s<=b)) (fun b=>G b/\s<=b) m H s Q):=by apply propext;constructor;{rintro⟨o,h,c,d,g⟩;obtain⟨i,e,f,j,k⟩:=G1 h;exact⟨e,f,o,i,fun b a=>⟨c b a,j b a⟩,fun b a=>⟨d b a,k b a⟩,g⟩};{rintro⟨e,f,o,h,c,d,g⟩;refine⟨o,?_,fun b a=>(c b a).1,fun b a=>(d b a).1,g⟩;unfold own;rw[eh ⟨e,f⟩,h];dsimp only;rw[eh ⟨fun b a=>(c b a).2,fun b a=>(d b a).2⟩]}
noncomputable def kept(C A a:List Nat)(z i:Nat)(m:AX α):AX α:=if a.contains i=true then own z m else if A.contains i=true then wC z m else if C.contains i=true then fG z m else m
def VB{e:List Nat}{q:bE α}(h:kept C A e z i m H s=some q):m H s=some q/\(e.contains i=true->z<=s/\Bd H s/\(∀b,b∈q.D->b<z\/s<=b)/\(∀b,b∈q.W->s<=b))/\(e.contains i=false->A.contains i=true->z<=s)/\(e.contains i=false->A.contains i=false->C.contains i=true->∀b,b∈q.D->b<z):=by unfold kept at h;split at h;{rename_i f;obtain⟨a,b⟩:=G1 h;exact⟨a,fun _=>b,fun h=>by(rw[f]at h;cases h),fun h=>by(rw[f]at h;cases h)⟩};{rename_i f;split at h;{rename_i g;obtain⟨a,b⟩:=IR h;exact⟨a,fun h=>absurd h f,fun _ _=>b,fun _ h=>by(rw[g]at h;cases h)⟩};{rename_i g;split at h;{rename_i j;obtain⟨c,d⟩:=Hb h;exact⟨c,fun h=>absurd h f,fun _ h=>absurd h g,fun _ _ _=>d⟩};{rename_i j;exact⟨h,fun h=>absurd h f,fun _ h=>absurd h g,fun _ _ h=>absurd h j⟩}}}
noncomputable def eC(P:c7)(call:FuncId->ahG->AX bn)(C A a:List Nat)(z:Nat)(ops:Array Oper):List Oper->Nat->ahG->AX (ahG)
 |[],_,tm=>ret tm
 |o::r,i,tm=>bind (kept C A a z i (cP P call ops o tm)) fun v=>eC P call C A a z ops r (i+1) (cq tm o.dst v)
def DV(z:Nat)(f:du):Prop:=f.s<=f.s'/\(∀b,b∈f.D->b<z\/(f.s<=b/\b<f.s'))/\(∀b,b∈f.W->f.s<=b/\b<f.s')/\(z<=f.s\/(f.s'=f.s/\f.W=[]/\∀b,b∈f.D->b<z))
structure DW(S:List FuncId)(C A owns:List Nat)(z i:Nat)(o:Oper)(f:du):Prop where
 dry:fZ S o=0->f.D=[]/\f.W=[]/\f.s'=f.s
 reads:Nat.ble (fZ S o) 1=true->f.W=[]/\f.s'=f.s
 news:nk o=true->f.D=[]/\f.W=[]
 aside:aside S C A owns i o=true->DV z f
def W7(m:acA S call){c:List Nat}{q:bE bn}(h:kept C A c z i (cP P call ops o tm) H s=some q):cP P call ops o tm H s=some q/\DW S C A c z i o ⟨s,q.s,q.D,q.W⟩:=by obtain⟨g,E,F,G⟩:=VB h;have p:LS (cP P call ops o tm):=yZ (fun f K=>m.ls f K) ops o tm;have r:Nat.ble (fZ S o) 1=true->q.W=[]/\q.s=s:=fun e=>yu m e _ _ _ g;have j:nk o=true->q.D=[]/\q.W=[]:=fun j=>B5 j _ _ _ g;have t:=(p.loc _ _ _ g).up;refine⟨g,⟨fun e=>?_,r,j,fun l=>?_⟩⟩;{unfold fZ at e;split at e;{cases e};{exact C9 e _ _ _ g}};{cases k:c.contains i with|true=>{obtain⟨v,w,x,y⟩:=E k;obtain⟨u,_,B,D⟩:=p.bd g w;exact⟨u,fun b a=>(x b a).imp id fun h=>⟨h,B b a⟩,fun b a=>⟨y b a,D b a⟩,.inl v⟩}|false=>{unfold Go.Proofs.YtlkceignfhnpoaaGreatDoor.aside at l;rw[k,Bool.or_false]at l;rcases afp.1 l with d|d;{simp only[ev,ahc]at d;obtain⟨e1,e2⟩:=r d.1.1;have n:=G k d.2 d.1.2;exact⟨t,fun b a=>.inl (n b a),fun b a=>(by rw[e1]at a;cases a),.inr ⟨e2,e1,n⟩⟩};{simp only[ev]at d;obtain⟨e1,e2⟩:=j d.1;exact⟨t,fun b a=>(by rw[e1]at a;cases a),fun b a=>(by rw[e2]at a;cases a),.inl (F k d.2)⟩}}}
def FE(e:acA S call){b:List Nat}:∀(l:List Oper)(i:Nat)(tm:ahG)(H:AH)(s:Nat)(o:bE (ahG)),eC P call C A b z ops l i tm H s=some o->
 ∃a,dy P call ops l tm H s=some ⟨(o.val,a),o.H,o.s,o.D,o.W⟩/\(∀(j:Nat)(f:du),a[j]? =some f->s<=f.s/\∃x:Oper,l[j]? =some x/\DW S C A b z (i+j) x f)/\∀(j k:Nat)(f g:du),j<k->a[j]? =some f->a[k]? =some g->f.s'<=g.s
 |[],i,tm,H,s,o,h=>by
  simp[eC,AX.ret]at h;subst h;exact⟨[],by simp[dy,AX.ret],fun j f d=>by simp at d,fun j k f g _ d=>by simp at d⟩
 |x::r,i,tm,H,s,o,h=>by
  unfold eC at h;obtain⟨p,q,n,w,rfl⟩:=bind_some h;obtain⟨e1,u⟩:=W7 e n;obtain⟨a,B,d,D⟩:=FE e r _ _ _ _ _ w;have t:LS (cP P call ops x tm):=yZ (fun f K=>e.ls f K) ops x tm;have F:=(t.loc _ _ _ e1).up;refine⟨⟨s,p.s,p.D,p.W⟩::a,by simp[dy,j8,AX.bind,AX.ret,e1,B],fun j f c=>?_,fun j k f g v c m=>?_⟩
  ·cases j with
   |zero=>simp at c;subst c;exact⟨Z,x,rfl,u⟩
   |succ j=>
    obtain⟨G,y,E,L⟩:=d j f (by simpa using c);refine⟨fq F G,y,by simpa using E,?_⟩
    rwa [(V:i+(j+1)=i+1+j)]
  ·cases k with
   |zero=>omega
   |succ k=>
    cases j with
    |zero=>
     simp at c;subst c;exact(d k g (by simpa using m)).1
    |succ j=>exact D j k f g V (by simpa using c) (by simpa using m)
def DH(h:f.D=[]/\f.W=[]/\f.s'=f.s):f.apart g=true:=by obtain⟨a,b,c⟩:=h;unfold du.apart;simp only[a,b,c,af3,List.contains_nil,Bool.not_false,afY,aet,Ob];right;simp only[ev,eu,ahc,ac9,ml,R3];exact⟨fun x _=>trivial,fun x _ h=>V⟩
def DG(h:g.D=[]/\g.W=[]/\g.s'=g.s):f.apart g=true:=by obtain⟨a,b,c⟩:=h;unfold du.apart;simp only[a,b,c,af3,List.contains_nil,Bool.not_false,aet,Ob];right;simp only[ev,eu,ahc,ac9,ml,R3];exact⟨fun x _=>trivial,fun x _ h=>V⟩
def DI(a:f.W=[]/\f.s'=f.s)(b:g.W=[]/\g.s'=g.s):f.apart g=true:=by unfold du.apart du.calm;simp[a.1,a.2,b.1,b.2]
def DF(a:f.D=[]/\f.W=[])(b:g.D=[]/\g.W=[]):f.apart g=true:=by unfold du.apart;simp[a.1,a.2,b.1,b.2]
def aaB(u:DV z f)(v:DV z g)(h:f.s'<=g.s):f.apart g=true:=by obtain⟨w,i,o,j⟩:=u;obtain⟨x,m,q,n⟩:=v;have c:∀(l:List Nat)(b:Nat),b∉l->l.contains b=false:=fun l b d=>by{cases t:l.contains b with|false=>rfl|true=>{exact absurd (ac8.1 t) d}};unfold du.apart;simp only[Ob,ev,eu,ahc];by_cases p:(f.calm&&g.calm)=true;{exact .inl (by simpa[ev]using p)};{refine .inr ⟨⟨⟨fun b d=>c _ _ fun e=>?_,fun b d=>c _ _ fun e=>?_⟩,fun b d=>?_⟩,fun b d=>?_⟩;{have a:=o b d;rcases j with k|k;{rcases m b e with r|r<;>omega};{rw[k.2.1]at d;cases d}};{have a:=q b d;rcases n with k|k;{rcases i b e with r|r<;>omega};{rw[k.2.1]at d;cases d}};{simp only[ac9,ml,R3];intro s;rcases j with k|k;{rcases m b d with r|r<;>omega};{omega}};{simp only[ac9,ml,R3];intro s;rcases n with k|k;{rcases i b d with r|r<;>omega};{omega}}}
def Ug{b:List Nat}(e:Da S C A b ops=true){log:List du}(h:∀(j:Nat)(f:du),log[j]? =some f->∃x:Oper,ops.toList[j]? =some x/\DW S C A b z j x f)(n:∀(j k:Nat)(f g:du),j<k->log[j]? =some f->log[k]? =some g->f.s'<=g.s):p8 (Region.before ops) log=true:=by unfold p8;simp only[eu];rintro⟨g,j⟩m⟨f,i⟩l;have r:=sv.1 m;have p:=sv.1 l;dsimp only at r p⊢;obtain⟨x,o,c⟩:=h _ _ p;obtain⟨y,s,d⟩:=h _ _ r;unfold Da at e;simp only[eu]at e;have:=e (y,j) (sv.2 s) (x,i) (sv.2 o);dsimp only at this;by_cases q:i<j;{simp only[Ob,ev,ahr]at this⊢;rcases this with(((((a|a)|a)|a)|a)|a)|a;{simp[q]at a};{exact .inl (.inr a)};{exact .inr (DH (c.dry a))};{exact .inr (DG (d.dry a))};{exact .inr (DI (c.reads a.1) (d.reads a.2))};{exact .inr (DF (c.news a.1) (d.news a.2))};{exact .inr (aaB (c.aside a.1) (d.aside a.2) (n i j f g q p r))}};{simp[q]}
end
section
variable{P:c7}{call:FuncId -> ahG -> AX bn}{F G:Nat -> Prop}{H:AH}{s:Nat}
abbrev qz:=List (Nat×List Nat×List Nat×List Nat)
def sR(l:qz)(id:Nat):Option (List Nat×List Nat×List Nat):=
 match l with
 |[]=>none
 |(k,o,n,w)::r=>if k=id then some (o,n,w)else sR r id
def jF(S:List FuncId)(l:qz):Code->Bool
 |.region id ops d=> !d||(match sR l id with|none=>true|some (o,n,w)=>Da S o n w ops)
 |.seq a b=>jF S l a&&jF S l b
 |.cond _ a b=>jF S l a&&jF S l b
 |.block _ c=>jF S l c
 |.loop c=>jF S l c
 |.scope c=>jF S l c
 |_=>true
noncomputable def cI(P:c7)(call:FuncId->ahG->AX bn)(l:qz):Code->ahG->AX (gi×ahG)
 |.region id ops d,tm=>match d,sR l id with
  |true,some (o,n,w)=>fun H s=>bind (eC P call o n w s ops ops.toList 0 tm) (fun x=>ret (.normal,x)) H s
  |true,none=>bh P call (.region id ops true) tm
  |false,_=>bind (ew P call ops ops.toList tm) fun x=>ret (.normal,x)
 |.seq a b,tm=>bind (cI P call l a tm) fun x=>match x.1 with|.normal=>cI P call l b x.2|.exit id=>ret (.exit id,x.2)|.ret=>ret (.ret,x.2)
 |.cond c a b,tm=>if Operand.rB c=true then fail else match bo tm c with|.bool t=>if t=true then cI P call l a tm else cI P call l b tm|_=>fail
 |.block id c,tm=>bind (cI P call l c tm) fun x=>match x.1 with|.normal=>ret (.normal,x.2)|.exit j=>if j=id then ret (.normal,x.2)else ret (.exit j,x.2)|.ret=>ret (.ret,x.2)
 |.loop c,tm=>jb (fun tm=>cI P call l c tm) LF tm
 |.scope c,tm=>cI P call l c tm
 |c,tm=>bh P call c tm
def acw(m u:AX α):Prop:=∀H s o,m H s=some o->u H s=some o
def acw.refl(m:AX α):acw m m:=fun _ _ _ h=>h
def acw.bind{j:Type}{f b:α->AX j}(h:acw m u)(k:∀a,acw (f a) (b a)):acw (AX.bind m f) (AX.bind u b):=by intro H s o e;obtain⟨p,q,c,d,rfl⟩:=bind_some e;simp[AX.bind,h _ _ _ c,k _ _ _ _ d]
def acw.wp(h:acw m u){Q:α->AH->Nat->Prop}(w:Wp F G m H s Q):Wp F G u H s Q:=by obtain⟨o,a,b,c,d⟩:=w;exact⟨o,h _ _ _ a,b,c,d⟩
def Iu{b a:ahG->AX (gi×ahG)}(h:∀tm,acw (b tm) (a tm)):∀n tm,acw (jb b n tm) (jb a n tm)
 |0,tm=>acw.refl _
 |n+1,tm=>by
  unfold jb;refine acw.bind (h tm) fun x=>?_;split
  ·exact Iu h n _
  ·exact acw.refl _
  ·exact acw.refl _
def QA(m:acA S call){l:qz}:∀(c:Code)(tm:ahG),jF S l c=true->acw (cI P call l c tm) (bh P call c tm):=by intro c;induction c with|region id ops d=>{intro tm h;unfold cI;cases d with|false=>{unfold bh;intro H s o e;obtain⟨p,q,i,g,rfl⟩:=bind_some e;obtain⟨log,k⟩:=A9 _ _ _ _ _ i;simp[AX.ret]at g;subst g;simp[mG,AX.bind,AX.ret,k]}|true=>{cases w:sR l id with|none=>exact acw.refl _|some q=>{obtain⟨z,y,A⟩:=q;simp only[jF,w,Bool.not_true,Bool.false_or]at h;unfold bh;intro H s o e;obtain⟨p,q,i,g,rfl⟩:=bind_some e;obtain⟨log,k,n,v⟩:=FE m _ _ _ _ _ _ i;have u:=Ug h (log:=log) (fun j f r=>by simpa using(n j f r).2) v;simp[AX.ret]at g;subst g;unfold mG;simp only[rq,AX.bind,k];rw[eh u];simp[AX.ret]}}}|seq a b iha ihb=>{intro tm h;simp only[jF,ev]at h;simp only[cI,bh];refine acw.bind (iha tm h.1) fun x=>?_;obtain⟨e,t⟩:=x;cases e;{exact ihb _ h.2};{exact acw.refl _};{exact acw.refl _}}|cond c a b iha ihb=>{intro tm h;simp only[jF,ev]at h;simp only[cI,bh];split;{exact acw.refl _};{cases bo tm c with|bool t=>{dsimp only;split;{exact iha tm h.1};{exact ihb tm h.2}}|_=>{exact acw.refl _}}}|block id c ih=>{intro tm h;simp only[jF]at h;simp only[cI,bh];exact acw.bind (ih tm h) fun x=>acw.refl _}|loop c ih=>{intro tm h;simp only[jF]at h;simp only[cI,bh];exact Iu (fun tm=>ih tm h) _ _}|scope c ih=>{intro tm h;simp only[jF]at h;simp only[cI,bh];exact ih tm h}|_=>{intro tm h;exact acw.refl _}
def ac3{b:Code}:Wp F G (bh P call (.seq a b) tm) H s Q=Wp F G (bh P call a tm) H s (fun x c d=>match x.1 with|.normal=>Wp F G (bh P call b x.2) c d Q|.exit id=>Q (.exit id,x.2) c d|.ret=>Q (.ret,x.2) c d):=by
 conv=>lhs;unfold bh
 rw[bH];refine nG fun x c d=>?_;cases x.1<;>simp[acr]
def ac4{c:Operand}{b:Code}:Wp F G (bh P call (.cond c a b) tm) H s Q=(if Operand.rB c=true then False else match bo tm c with|.bool t=>if t=true then Wp F G (bh P call a tm) H s Q else Wp F G (bh P call b tm) H s Q|_=>False):=by
 conv=>lhs;unfold bh
 rw[eW,fM];congr 1;cases bo tm c with
 |bool t=>dsimp only;rw[eW]
 |_=>exact fM
def ac5{id:Nat}:Wp F G (bh P call (.block id c) tm) H s Q=Wp F G (bh P call c tm) H s (fun x a b=>match x.1 with|.normal=>Q (.normal,x.2) a b|.exit j=>if j=id then Q (.normal,x.2) a b else Q (.exit j,x.2) a b|.ret=>Q (.ret,x.2) a b):=by
 conv=>lhs;unfold bh
 rw[bH];refine nG fun x a b=>?_;cases x.1<;>simp[acr,eW]
def LR:Wp F G (bh P call (.scope c) tm) H s Q=Wp F G (bh P call c tm) H s Q:=by
 conv=>lhs;unfold bh
def acV:Wp F G (bh P call .skip tm) H s Q=Q (.normal,tm) H s:=by
 conv=>lhs;unfold bh
 rw[acr]
def acX{k:_}:Wp F G (bh P call (.label k) tm) H s Q=Q (.normal,tm) H s:=by
 conv=>lhs;unfold bh
 rw[acr]
def acY{id:Nat}:Wp F G (bh P call (.exit id) tm) H s Q=Q (.exit id,tm) H s:=by
 conv=>lhs;unfold bh
 rw[acr]
def Eg:Wp F G (bh P call .ret tm) H s Q=Q (.ret,tm) H s:=by
 conv=>lhs;unfold bh
 rw[acr]
def Ll:∀(l:List Oper)(tm:ahG)(H:AH)(s:Nat)(o:bE (ahG×List du)),dy P call ops l tm H s=some o->ew P call ops l tm H s=some ⟨o.val.1,o.H,o.s,o.D,o.W⟩
 |[],tm,H,s,o,h=>by
  simp[dy,AX.ret]at h;subst h;simp[ew,AX.ret]
 |x::r,tm,H,s,o,h=>by
  unfold dy at h;cases c:j8 P call ops x tm H s with
  |none=>rw[c]at h;cases h
  |some p=>
   rw[c]at h;dsimp only at h;cases d:dy P call ops r p.val p.H p.s with
   |none=>rw[d]at h;cases h
   |some y=>
    rw[d]at h;simp only[el]at h;subst h;unfold j8 at c;obtain⟨a,b,e1,e2,rfl⟩:=bind_some c;simp[AX.ret]at e2;subst e2;have:=Ll r _ _ _ _ d;dsimp only at this;simp[ew,AX.bind,e1,this]
def LZ{id:Nat}:Wp F G (bh P call (.region id ops false) tm) H s Q=Wp F G (ew P call ops ops.toList tm) H s (fun t e i=>Q (.normal,t) e i):=by apply propext;constructor;{intro h;unfold bh at h;rw[bH]at h;obtain⟨o,a,f,g,d⟩:=h;unfold mG at a;simp only[RP,X1]at a;obtain⟨p,q,e1,e2,rfl⟩:=bind_some a;simp[AX.ret]at e2;subst e2;have:=Ll _ _ _ _ _ e1;rw[acr]at d;exact⟨_,this,fun b c=>f b (by simpa using c),fun b c=>g b (by simpa using c),d⟩};{exact acW}
def AF{Q:ahG->AH->Nat->Prop}:Wp F G (ew P call ops [] tm) H s Q=Q tm H s:=by unfold ew;rw[acr]
def xp{Q:ahG->AH->Nat->Prop}:Wp F G (ew P call ops (o::r) tm) H s Q=Wp F G (cP P call ops o tm) H s (fun v a b=>Wp F G (ew P call ops r (cq tm o.dst v)) a b Q):=by
 conv=>lhs;unfold ew
 rw[bH]
def Eh{b:ahG->AX (gi×ahG)}(I:Nat->ahG->AH->Nat->Prop)(f:∀k tm H s,I k tm H s->Wp F G (b tm) H s (fun x a d=>match x.1 with|.normal=>∃c,c<k/\I c x.2 a d|.exit id=>Q (.exit id,x.2) a d|.ret=>Q (.ret,x.2) a d)):
 ∀n k tm H s,k<n->I k tm H s->Wp F G (jb b n tm) H s Q
 |0,k,tm,H,s,hk,hi=>V
 |n+1,k,tm,H,s,hk,hi=>by
  unfold jb;rw[bH];refine acB (f k tm H s hi) fun x a d h=>?_;cases e:x.1 with
  |normal=>
   rw[e]at h;obtain⟨c,i,g⟩:=h;exact Eh I f n c _ _ _ V g
  |exit id=>rw[e]at h;dsimp only at h⊢;rw[acr];exact h
  |ret=>rw[e]at h;dsimp only at h⊢;rw[acr];exact h
def acs{l:qz}(I:Nat->ahG->AH->Nat->Prop)(e:k<LF)(hi:I k tm H s)(f:∀k tm H s,I k tm H s->Wp F G (cI P call l c tm) H s (fun x a b=>match x.1 with|.normal=>∃d,d<k/\I d x.2 a b|.exit id=>Q (.exit id,x.2) a b|.ret=>Q (.ret,x.2) a b)): Wp F G (cI P call l (.loop c) tm) H s Q:=by unfold cI;exact Eh I f _ _ _ _ _ e hi
def fm{b:ahG->AX (gi×ahG)}:Wp F G (jb b (n+1) tm) H s Q=Wp F G (b tm) H s (fun x a c=>match x.1 with|.normal=>Wp F G (jb b n x.2) a c Q|.exit id=>Q (.exit id,x.2) a c|.ret=>Q (.ret,x.2) a c):=by
 conv=>lhs;unfold jb
 rw[bH];refine nG fun x a c=>?_;cases x.1<;>simp[acr]
def rX(k:Nat){l:qz}(a:k<=1000)(h:Wp F G (jb (fun tm=>cI P call l c tm) (LF-k+k) tm) H s Q):Wp F G (cI P call l (.loop c) tm) H s Q:=by unfold cI;rwa [Nat.sub_add_cancel (by unfold LF;omega)]at h
section
variable{l:qz}{tm:ahG}{Q:gi × ahG -> AH -> Nat -> Prop}
def L1{b:Code}:Wp F G (cI P call l (.seq a b) tm) H s Q=Wp F G (cI P call l a tm) H s (fun x c d=>match x.1 with|.normal=>Wp F G (cI P call l b x.2) c d Q|.exit id=>Q (.exit id,x.2) c d|.ret=>Q (.ret,x.2) c d):=by
 conv=>lhs;unfold cI
 rw[bH];refine nG fun x c d=>?_;cases x.1<;>simp[acr]
def L9{c:Operand}{b:Code}:Wp F G (cI P call l (.cond c a b) tm) H s Q=(if Operand.rB c=true then False else match bo tm c with|.bool t=>if t=true then Wp F G (cI P call l a tm) H s Q else Wp F G (cI P call l b tm) H s Q|_=>False):=by
 conv=>lhs;unfold cI
 rw[eW,fM];congr 1;cases bo tm c with
 |bool t=>dsimp only;rw[eW]
 |_=>exact fM
def Ma{id:Nat}:Wp F G (cI P call l (.block id c) tm) H s Q=Wp F G (cI P call l c tm) H s (fun x a b=>match x.1 with|.normal=>Q (.normal,x.2) a b|.exit j=>if j=id then Q (.normal,x.2) a b else Q (.exit j,x.2) a b|.ret=>Q (.ret,x.2) a b):=by
 conv=>lhs;unfold cI
 rw[bH];refine nG fun x a b=>?_;cases x.1<;>simp[acr,eW]
def L3:Wp F G (cI P call l (.scope c) tm) H s Q=Wp F G (cI P call l c tm) H s Q:=by
 conv=>lhs;unfold cI
def L0:Wp F G (cI P call l .skip tm) H s Q=Q (.normal,tm) H s:=by
 conv=>lhs;unfold cI
 exact acV
def L6{k:_}:Wp F G (cI P call l (.label k) tm) H s Q=Q (.normal,tm) H s:=by
 conv=>lhs;unfold cI
 exact acX
def L7{id:Nat}:Wp F G (cI P call l (.exit id) tm) H s Q=Q (.exit id,tm) H s:=by
 conv=>lhs;unfold cI
 exact acY
def L4:Wp F G (cI P call l .ret tm) H s Q=Q (.ret,tm) H s:=by
 conv=>lhs;unfold cI
 exact Eg
def L5{id:Nat}{ops:List Oper}:Wp F G (cI P call l (.region id (List.toArray ops) false) tm) H s Q=Wp F G (ew P call (List.toArray ops) ops tm) H s (fun t a b=>Q (.normal,t) a b):=by
 conv=>lhs;unfold cI
 rw[bH];refine nG fun x a b=>?_;rw[acr]
def tC(P:c7)(call:FuncId->ahG->AX bn)(F G:Nat->Prop)(c:Option (List Nat×List Nat×List Nat))(id:Nat)(ops:List Oper)(tm:ahG)(H:AH)(s:Nat)(Q:gi×ahG->AH->Nat->Prop)(t:Lp Q:=⟨0⟩):Prop:=
 match c with
 |none=>Wp F G (bh P call (.region id (List.toArray ops) true) tm) H s Q
 |some ([],[],[])=>Wp F G (ew P call (List.toArray ops) ops tm) H s (fun t a b=>Q (.normal,t) a b)
 |some (o,n,w)=>Wp F G (eC P call o n w s (List.toArray ops) ops 0 tm) H s (fun t a b=>Q (.normal,t) a b)
def FD:∀(r:List Oper)(i:Nat)(tm:ahG),eC P call [] [] [] z ops r i tm=ew P call ops r tm
 |[],i,tm=>rfl
 |o::r,i,tm=>by
  unfold eC ew;congr 1;funext v;exact FD r _ _
def L8{id:Nat}{ops:List Oper}:Wp F G (cI P call l (.region id (List.toArray ops) true) tm) H s Q=tC P call F G (sR l id) id ops tm H s Q:=by
 conv=>lhs;unfold cI
 unfold tC;cases c:sR l id with|none=>rfl|some q=>{obtain⟨o,n,w⟩:=q;dsimp only;have e:Wp F G (fun H s=>AX.bind (eC P call o n w s (List.toArray ops) (List.toArray ops).toList 0 tm) (fun x=>AX.ret (gi.normal,x)) H s) H s Q=Wp F G (eC P call o n w s (List.toArray ops) ops 0 tm) H s (fun t a b=>Q (.normal,t) a b):=by{have:Wp F G (AX.bind (eC P call o n w s (List.toArray ops) ops 0 tm) (fun x=>AX.ret (gi.normal,x))) H s Q=Wp F G (eC P call o n w s (List.toArray ops) ops 0 tm) H s (fun t a b=>Q (.normal,t) a b):=by{rw[bH];exact nG fun x a b=>acr};exact this};rw[e];split;{rename_i h;cases h};{rename_i h;cases h;rw[FD]};{rename_i h;cases h;rfl}}
theorem XX{id:Nat}{ops:List Oper}:tC P call F G none id ops tm H s Q=Wp F G (bh P call (.region id (List.toArray ops) true) tm) H s Q:=rfl
theorem XU{id:Nat}{ops:List Oper}:tC P call F G (some ([],[],[])) id ops tm H s Q=Wp F G (ew P call (List.toArray ops) ops tm) H s (fun t a b=>Q (.normal,t) a b):=rfl
theorem XW{id:Nat}{ops:List Oper}{a:Nat}{b n:List Nat}:tC P call F G (some (a::b,n,w)) id ops tm H s Q=Wp F G (eC P call (a::b) n w s (List.toArray ops) ops 0 tm) H s (fun t c d=>Q (.normal,t) c d):=rfl
theorem XY{id:Nat}{ops:List Oper}{a:Nat}{b:List Nat}:tC P call F G (some ([],a::b,w)) id ops tm H s Q=Wp F G (eC P call [] (a::b) w s (List.toArray ops) ops 0 tm) H s (fun t c d=>Q (.normal,t) c d):=rfl
theorem XV{id:Nat}{ops:List Oper}{a:Nat}{b:List Nat}:tC P call F G (some ([],[],a::b)) id ops tm H s Q=Wp F G (eC P call [] [] (a::b) s (List.toArray ops) ops 0 tm) H s (fun t c d=>Q (.normal,t) c d):=rfl
def AG{a:List Nat}{Q:ahG->AH->Nat->Prop}:Wp F G (eC P call C A a z ops [] i tm) H s Q=Q tm H s:=by unfold eC;rw[acr]
def AI{a:List Nat}{Q:ahG->AH->Nat->Prop}:Wp F G (eC P call C A a z ops (o::r) i tm) H s Q=Wp F G (kept C A a z i (cP P call ops o tm)) H s (fun v b c=>Wp F G (eC P call C A a z ops r (i+1) (cq tm o.dst v)) b c Q):=by
 conv=>lhs;unfold eC
 rw[bH]
end
end
section
variable{P:c7}{call:FuncId -> ahG -> AX bn}{ops:Array Oper}{tm:ahG}{d:Option Tmp}{ty:bW}{pos:String}{q:Array Edge}
def BU(t:Tmp):Operand.bU (.tmp t)=true:=TC rfl rfl
def Rk(f:FuncId):Operand.bU (.func f)=true:=TC rfl rfl
def Rl(v:bn):Operand.bU (.const v)=wR v:=TC rfl rfl
def Ww(t:Tmp):Operand.rB (.tmp t)=false:=TC rfl rfl
def Wx(t:FuncId):Operand.rB (.func t)=false:=TC rfl rfl
def Wy(v:bn):Operand.rB (.const v)=false:=TC rfl rfl
def Mx{op:Op}:cP P call ops ⟨d,op,ty,pos,q,none⟩ tm=bA P call ⟨d,op,ty,pos,q,none⟩ tm:=by unfold cP Region.wanted;simp
def vI(ops:Array Oper)(tm:ahG)(j:Nat):Option Bool:=
 match(ops[j]?).bind (·.dst)with
 |some t=>(match bo tm (.tmp t)with|.bool b=>some b|_=>none)
 |none=>none
def LG(j:Nat):yielded ops tm j=vI ops tm j:=by unfold yielded vI;cases(ops[j]?).bind (·.dst)with|none=>rfl|some t=>{show(match tm[t]? with|some (.bool b)=>some b|_=>none)=(match tm.getD t undef with|.bool b=>some b|_=>none);rw[qe];cases tm[t]? with|none=>rfl|some v=>{cases v<;>rfl}}
def My{op:Op}{j:Nat}{b:Bool}:cP P call ops ⟨d,op,ty,pos,q,some (j,b)⟩ tm=if(vI ops tm j==some b)=true then bA P call ⟨d,op,ty,pos,q,none⟩ tm else ret undef:=by unfold cP Region.wanted;show(if(yielded ops tm j==some b)=true then bA P call ⟨d,op,ty,pos,q,some (j,b)⟩ tm else ret undef)=_;have e:=LG (ops:=ops) (tm:=tm) j;by_cases h:(vI ops tm j==some b)=true;{rw[eh h,eh (by rw[e];exact h)];rfl};{rw[ed h,ed (by rw[e];exact h)]}
section
variable{g:Option (Nat × Bool)}
def Rz(a:Operand.bU x=true):bA P call ⟨d,.move x,ty,pos,q,g⟩ tm=ret (bo tm x):=by simp[bA,Op.operands,a]
def RS(a:Operand.bU x=true):bA P call ⟨d,.assign x,ty,pos,q,g⟩ tm=ret (bo tm x):=by simp[bA,Op.operands,a]
def Rx{c a b:Operand}(h:Operand.bU c=true)(e:Operand.bU a=true)(f:Operand.bU b=true):bA P call ⟨d,.pick c a b,ty,pos,q,g⟩ tm=(match bo tm c with|.bool t=>ret (if t=true then bo tm a else bo tm b)|_=>fail):=by simp[bA,Op.operands,h,e,f];rfl
def RV:bA P call ⟨d,.alloc e,ty,pos,q,g⟩ tm=(match bF P e with|some z=>newC e z.cells.toList|none=>fail):=by simp[bA,Op.operands];rfl
def RQ(a:Operand.bU x=true):bA P call ⟨d,.box e x,ty,pos,q,g⟩ tm=newC e (bo tm x).cells.toList:=by simp[bA,Op.operands,a]
def RD(a:Operand.bU x=true):bA P call ⟨d,.load t x,ty,pos,q,g⟩ tm=js P t (bo tm x):=by simp[bA,Op.operands,a]
def Rv{a:Operand}(b:Operand.bU a=true)(c:Operand.bU x=true):bA P call ⟨d,.store t a x,ty,pos,q,g⟩ tm=pC P t (bo tm a) (bo tm x):=by simp[bA,Op.operands,c,b]
def Ry(a:Operand.bU x=true):bA P call ⟨d,.nilCheck x,ty,pos,q,g⟩ tm=nB (bo tm x):=by simp[bA,Op.operands,a]
def RR{y:Operand}{c:bW}(a:Operand.bU x=true)(b:Operand.bU y=true):bA P call ⟨d,.binOp op t x y c,ty,pos,q,g⟩ tm=bZ P op t x y (bo tm x) (bo tm y):=by simp[bA,Op.operands,a,b]
def Ru{op:UnOp}(a:Operand.bU x=true):bA P call ⟨d,.unOp op t x,ty,pos,q,g⟩ tm=if flat (bo tm x)=true then cZ P (Op.unary op (bo tm x))else fail:=by simp[bA,Op.operands,a]
def RK{a b:bW}(c:Operand.bU x=true):bA P call ⟨d,.convert a b x,ty,pos,q,g⟩ tm=if flat (bo tm x)=true then cZ P (convert a b (bo tm x))else fail:=by simp[bA,Op.operands,c]
def RG(a:Operand.bU x=true):bA P call ⟨d,.makeInterface t x,ty,pos,q,g⟩ tm=ou P t (bo tm x):=by simp[bA,Op.operands,a]
def RU{a b:bW}{ok:Bool}(c:Operand.bU x=true):bA P call ⟨d,.typeAssert x a b ok,ty,pos,q,g⟩ tm=mI P (bo tm x) b ok:=by simp[bA,Op.operands,c]
def RH(a:Operand.bU x=true):bA P call ⟨d,.fieldAddr t x i,ty,pos,q,g⟩ tm=nD P t (bo tm x) i:=by simp[bA,Op.operands,a]
def RI(a:Operand.bU x=true):bA P call ⟨d,.field t x i,ty,pos,q,g⟩ tm=lI P t (bo tm x) i:=by simp[bA,Op.operands,a]
def RE{i:Operand}(a:Operand.bU x=true)(hi:Operand.bU i=true):bA P call ⟨d,.indexAddr t x i,ty,pos,q,g⟩ tm=eS P t (bo tm x) (bo tm i):=by simp[bA,Op.operands,a,hi]
def RF{i:Operand}(a:Operand.bU x=true)(hi:Operand.bU i=true):bA P call ⟨d,.index t x i,ty,pos,q,g⟩ tm=ee P t (bo tm x) (bo tm i):=by simp[bA,Op.operands,a,hi]
def RC{m k:Operand}{ok:Bool}(b:Operand.bU m=true)(a:Operand.bU k=true):bA P call ⟨d,.lookup t m k ok,ty,pos,q,g⟩ tm=nC P t (bo tm m) (bo tm k) ok:=by simp[bA,Op.operands,b,a]
def RA{m k v:Operand}(b:Operand.bU m=true)(a:Operand.bU k=true)(c:Operand.bU v=true):bA P call ⟨d,.mapUpdate t m k v,ty,pos,q,g⟩ tm=pD P t (bo tm m) (bo tm k) (bo tm v):=by simp[bA,Op.operands,b,a,c]
def RJ{t:Operand}(a:Operand.bU t=true):bA P call ⟨d,.extract t i,ty,pos,q,g⟩ tm=(match bo tm t with|.tuple vs=>ofOpt vs[i]? |_=>fail):=by simp[bA,Op.operands,a];rfl
def Hf{f:FuncId}(a:h.toList.all Operand.bU=true)(b:eL P f=true):bA P call ⟨d,.call ⟨.value (.func f),h,p⟩,ty,pos,q,g⟩ tm=call f (h.map (bo tm)):=by have:(Op.call ⟨.value (.func f),h,p⟩).operands.toList.all Operand.bU=true:=by{simp[Op.operands,Call.operands,Operand.bU]at a⊢;exact a};simp only[bA,this,rq,bo,b];simp
def RL{b:Builtin}(a:h.toList.all Operand.bU=true):bA P call ⟨d,.call ⟨.builtin b,h,p⟩,ty,pos,q,g⟩ tm=gD P b p (h.map (bo tm)):=by have:(Op.call ⟨.builtin b,h,p⟩).operands.toList.all Operand.bU=true:=by{simp[Op.operands,Call.operands]at a⊢;exact a};simp only[bA,this,rq]
def BY(b:Operand.bU x=true)(a:h.toList.all Operand.bU=true):bA P call ⟨d,.call ⟨.value x,h,p⟩,ty,pos,q,g⟩ tm=(match bo tm x with|.func (.func f) first captured=>if eL P f=true then call f (first++h.map (bo tm)++captured)else fail|_=>fail):=by have:(Op.call ⟨.value x,h,p⟩).operands.toList.all Operand.bU=true:=by{simp[Op.operands,Call.operands,b]at a⊢;exact a};simp only[bA,this,rq];rfl
def RO{a:Array (Nat×Operand)}(b:(a.toList.map (·.2)).all Operand.bU=true):bA P call ⟨d,.build t a,ty,pos,q,g⟩ tm=if(bF P t).isSome=true then ofOpt (stat P (Instr.build t (a.map fun p=>(p.1,bo tm p.2))))else fail:=by have:(Op.build t a).operands.toList.all Operand.bU=true:=by{simp[Op.operands]at b⊢;exact b};simp only[bA,this,rq]
def RM{a:Array (Nat×Operand)}(b:(a.toList.map (·.2)).all Operand.bU=true):bA P call ⟨d,.buildSlice t n a,ty,pos,q,g⟩ tm=mH P t n (a.map fun p=>(p.1,bo tm p.2)):=by have:(Op.buildSlice t n a).operands.toList.all Operand.bU=true:=by{simp[Op.operands]at b⊢;exact b};simp only[bA,this,rq]
def BX{f:FuncId}{a cs:Array Operand}(b:a.toList.all Operand.bU=true)(c:cs.toList.all Operand.bU=true):bA P call ⟨d,.makeFunc (.func f) a cs,ty,pos,q,g⟩ tm=ret (.func (.func f) (a.map (bo tm)) (cs.map (bo tm))):=by have:(Op.makeFunc (.func f) a cs).operands.toList.all Operand.bU=true:=by{simp[Op.operands,aey]at b c⊢;exact⟨b,c⟩};simp only[bA,this,rq]
def He{kt:bW×bW}(h:iH P t=some kt):bA P call ⟨d,.makeMap t none,ty,pos,q,g⟩ tm=bind (new (.map [])) fun b=>ret (.map (some b)):=by simp[bA,Op.operands,h]
def RB{l c:Operand}(b:Operand.bU l=true)(a:Operand.bU c=true):bA P call ⟨d,.makeSlice t l c,ty,pos,q,g⟩ tm=ot P t (bo tm l) (bo tm c):=by simp[bA,Op.operands,b,a]
def Rw{lo hi:Option Operand}(c:Operand.bU x=true)(a:lo.all Operand.bU=true)(b:hi.all Operand.bU=true):bA P call ⟨d,.slice t x lo hi none,ty,pos,q,g⟩ tm=ij P t (bo tm x) (lo.map (bo tm)) (hi.map (bo tm)) none:=by cases lo<;>cases hi<;>simp_all [bA,Op.operands]
end
end
end Go.Proofs.YtlkceignfhnpoaaGreatDoor
