/-
  Part of a proof, written small.
-/
import Derived.Test.YtlkceignfhnpoaaGreatDoorS1SASLSOSY5
set_option linter.all false
namespace Go.Proofs.YtlkceignfhnpoaaGreatDoor
open Go AX
variable{v' v:bn}{k:IntKind}{n q o u t s:Nat}{Q:bn->AH->Nat->Prop}{x y:Int}{c d:Prop}{a:Option Addr}{α:Type}{tm args:ahG}{H:AH}{w:Array bW}{r:List ResultVar}{m:AX α}{F G:Nat->Prop}
section
universe u
section
variable{P:c7}{F G:Nat -> Prop}{H:AH}{s:Nat}{T:bW}{e f:Operand}
def Sv(a:Addr):nB (.pointer (some a))=ret (.pointer (some a)):=TC rfl rfl
def Sw(f:FuncId)(a cs:ahG):nB (.func (.func f) a cs)=ret (.func (.func f) a cs):=TC rfl rfl
section
variable{k:IntKind}{x y:Int}
def aam:bZ P .add T e f (.int k x) (.int k y)=ret (.int k (k.wrap (x+y))):=by simp[bZ,flat,dO,cZ,eqGuard,binOp,Op.intArith,Bind.bind,pure,Sem.bind,stat]
def Z7:bZ P .sub T e f (.int k x) (.int k y)=ret (.int k (k.wrap (x-y))):=by simp[bZ,flat,dO,cZ,eqGuard,binOp,Op.intArith,Bind.bind,pure,Sem.bind,stat]
def aag:bZ P .mul T e f (.int k x) (.int k y)=ret (.int k (k.wrap (x*y))):=by simp[bZ,flat,dO,cZ,eqGuard,binOp,Op.intArith,Bind.bind,pure,Sem.bind,stat]
def aah:bZ P .lss T e f (.int k x) (.int k y)=ret (.bool (decide (x<y))):=by simp[bZ,flat,dO,cZ,eqGuard,binOp,Op.intCmp,Bind.bind,pure,Sem.bind,stat]
def aai:bZ P .leq T e f (.int k x) (.int k y)=ret (.bool (decide (x<=y))):=by simp[bZ,flat,dO,cZ,eqGuard,binOp,Op.intCmp,Bind.bind,pure,Sem.bind,stat]
def aaj:bZ P .gtr T e f (.int k x) (.int k y)=ret (.bool (decide (x>y))):=by simp[bZ,flat,dO,cZ,eqGuard,binOp,Op.intCmp,Bind.bind,pure,Sem.bind,stat]
def aak:bZ P .geq T e f (.int k x) (.int k y)=ret (.bool (decide (x≥y))):=by simp[bZ,flat,dO,cZ,eqGuard,binOp,Op.intCmp,Bind.bind,pure,Sem.bind,stat]
def aal:bZ P .eql T e f (.int k x) (.int k y)=ret (.bool (decide (x=y))):=by have:(x==y)=decide (x=y):=by{rw[adE];simp};simp[bZ,flat,dO,cZ,eqGuard,binOp,Op.intCmp,Bind.bind,pure,Sem.bind,stat,this]
def aaf:bZ P .neq T e f (.int k x) (.int k y)=ret (.bool (!decide (x=y))):=by have:(x !=y)= !decide (x=y):=by{rw[adE];simp};simp[bZ,flat,dO,cZ,eqGuard,binOp,Op.intCmp,Bind.bind,pure,Sem.bind,stat,this]
def pA(a:y≠0):bZ P .rem T e f (.int k x) (.int k y)=ret (.int k (x.tmod y)):=by simp[bZ,flat,dO,cZ,eqGuard,binOp,Op.intDiv,Bind.bind,pure,Sem.bind,stat,a]
def Am:bZ P .and T e f (.int k x) (.int k y)=ret (.int k (k.wrap (BitVec.ofInt k.bits x&&&BitVec.ofInt k.bits y).toNat)):=by simp[bZ,flat,dO,cZ,eqGuard,binOp,Op.intBits,Bind.bind,pure,Sem.bind,stat]
end
def aab{a b:bm}:bZ P .eql T e f (.string a) (.string b)=ret (.bool (a.toList==b.toList)):=by simp[bZ,flat,dO,cZ,eqGuard,binOp,Op.stringOp,Bind.bind,pure,Sem.bind,stat]
def Z8{a b:bm}:bZ P .neq T e f (.string a) (.string b)=ret (.bool !(a.toList==b.toList)):=by simp[bZ,flat,dO,cZ,eqGuard,binOp,Op.stringOp,Bind.bind,pure,Sem.bind,stat]
def aae{b:Option Addr}(h:pj P T=true)(c:(a.isNone||b.isNone)=true):bZ P .eql T e f (.pointer a) (.pointer b)=ret (.bool (a.isNone&&b.isNone)):=by simp[bZ,flat,dO,h,c]
def aad{b:Option Addr}(h:pj P T=true)(c:(a.isNone||b.isNone)=true):bZ P .neq T e f (.pointer a) (.pointer b)=ret (.bool (!(a.isNone&&b.isNone))):=by simp[bZ,flat,dO,h,c]
def aaa{b:Option Addr}{c:Nat}(h:(dj P T).isSome=true)(d:(a.isNone||b.isNone)=true):bZ P .eql T e f (.slice a n c) (.slice b u t)=ret (.bool (a.isNone&&b.isNone)):=by simp[bZ,flat,dO,h,d]
def Z9{b:Option Addr}{c:Nat}(h:(dj P T).isSome=true)(d:(a.isNone||b.isNone)=true):bZ P .neq T e f (.slice a n c) (.slice b u t)=ret (.bool (!(a.isNone&&b.isNone))):=by simp[bZ,flat,dO,h,d]
def MN{b:Bool}:cZ P (Op.unary .not (.bool b))=ret (.bool !b):=by simp[cZ,Op.unary,pure,stat,flat,dO]
def MO{n:Int}:cZ P (Op.unary .neg (.int k n))=ret (.int k (k.wrap (0-n))):=by simp[cZ,Op.unary,Op.intArith,pure,stat,flat,dO]
def Xi(k:IntKind)(n:Int):flat (.int k n)=true:=TC rfl rfl
def Xj(b:Bool):flat (.bool b)=true:=TC rfl rfl
def Xh(s:bm):flat (.string s)=true:=TC rfl rfl
def Zo{a b:bW}{c:IntKind}{n:Int}(d:(P.underlying a).isSome=true)(e:P.underlying b=some (.int c)):cZ P (convert a b (.int k n))=ret (.int c (c.wrap n)):=by obtain⟨u,f⟩:=ad7.1 d;unfold cZ convert;simp[Bind.bind,pure,Sem.bind,stat,underlying,program,f,e,Conv.intToInt,flat,dO]
def nR(P:c7)(T:bW):Bool:=match P.underlying T with|some (.interface _)=>false|some _=>true|none=>false
def KT{n:Int}(h:nR P T=true):ou P T (.int k n)=ret (.iface T (.int k n)):=by unfold nR at h;unfold ou;dsimp only;cases a:P.underlying T with|none=>{rw[a]at h;cases h}|some d=>{rw[a]at h;(cases d<;>first|rfl|cases h)}
def K8{n:Int}(h:nR P T=true):mI P (.iface T (.int k n)) T true=ret (.tuple #[.int k n,.bool true]):=by unfold nR at h;unfold mI;dsimp only;cases a:P.underlying T with|none=>{rw[a]at h;cases h}|some d=>{rw[a]at h;(cases d<;>first|(simp;done)|cases h)}
def aar{n:Int}{T2:bW}{z:bn}(h:nR P T=true)(c:bF P T=some z)(b:¬T2=T):mI P (.iface T2 (.int k n)) T true=ret (.tuple #[z,.bool false]):=by unfold nR at h;unfold mI;dsimp only;cases a:P.underlying T with|none=>{rw[a]at h;cases h}|some d=>{rw[a]at h;(cases d<;>first|(simp[b,c];done)|cases h)}
def Vw{b:Nat}(h:bS P T=some false):Wp F G (js P T (.pointer (some ⟨b,o,none⟩))) H s Q=(match H b with|some (.cells cs _ _)=>F b/\(match cs[o]? with|some v=>Q v H s|none=>False)|_=>False):=by unfold js;simp only[h,bH,fV,Ee];cases H b with|none=>rfl|some x=>{cases x with|cells cs T wr=>{dsimp only;cases cs[o]?<;>rfl}|map kv=>{rfl}}
def Vx{b:Nat}(h:bS P T=some true)(a:aW P T=some n):Wp F G (js P T (.pointer (some ⟨b,o,none⟩))) H s Q=(match H b with|some (.cells cs _ _)=>F b/\(if o+n<=cs.length then Q (.agg ((cs.drop o).take n).toArray) H s else False)|_=>False):=by unfold js;simp only[h,a,bH,readN,fV,eW,acr,fM];cases H b with|none=>rfl|some x=>{cases x with|cells cs T wr=>dsimp only|map kv=>{rfl}}
def N5{b:Nat}(h:aW P T=some v.cells.size)(a:v.cells.toList.all oneV=true):Wp F G (pC P T (.pointer (some ⟨b,o,none⟩)) v) H s Q=(match H b with|some (.cells cs T' wr)=>F b/\(if wr=true/\o+v.cells.size<=cs.length then F b/\G b/\Q undef (aG H b (some (.cells (cu cs o v.cells.toList) T' true))) s else False)|_=>False):=by unfold pC;simp only[h,a,afz,rq,bH,fV,eW,acr,fM,nF];cases H b with|none=>rfl|some x=>{cases x with|cells cs T wr=>dsimp only|map kv=>{rfl}}
def RW{cs:bj}(h:cs.all oneV=true):Wp F G (newC T cs) H s Q=Q (.pointer (some ⟨s,0,none⟩)) (aG H s (some (.cells cs T true))) (s+1):=by unfold newC;simp only[h,rq,bH,oG,acr]
def Zc(k:IntKind)(n:Int):(Value.int k n).cells=#[.int k n]:=TC rfl rfl
def Zd(b:Bool):(Value.bool b).cells=#[.bool b]:=TC rfl rfl
def Y8(b:bm):(Value.string b).cells=#[.string b]:=TC rfl rfl
def Za(b:Option Addr):(Value.pointer b).cells=#[.pointer b]:=TC rfl rfl
def Zb(b:Option Nat):(Value.map b).cells=#[.map b]:=TC rfl rfl
def Y9(b:Option Addr)(n c:Nat):(Value.slice b n c).cells=#[.slice b n c]:=TC rfl rfl
def Ze(cs:ahG):(Value.agg cs).cells=cs:=TC rfl rfl
def ZU:gD P .len #[T] #[v]=fj P T v:=TC rfl rfl
def ZV{a:bW}{x:bn}:gD P .append #[T,a] #[v,x]=j9 P T a v x:=TC rfl rfl
def Dz:gD P .min w #[.int k x,.int k y]=ret (.int k (min x y)):=by have e:(if y<x then y else x)=min x y:=V;unfold gD;simp[flat,dO,cZ,Builtin.min_,Builtin.min2,Bind.bind,pure,Sem.bind,stat,e]
def DA:gD P .max w #[.int k x,.int k y]=ret (.int k (max x y)):=by have e:(if x<y then y else x)=max x y:=V;have a:(if y>x then y else x)=max x y:=V;unfold gD;simp[flat,dO,cZ,Builtin.max_,Builtin.max2,Bind.bind,pure,Sem.bind,stat,e]
def cL(a: -9223372036854775808<=x)(b:x<9223372036854775808):IntKind.i64.wrap x=x:=by unfold IntKind.wrap;simp[IntKind.signed,IntKind.bits];omega
def LV{Q:bj->AH->Nat->Prop}:Wp F G (eQ P tm []) H s Q=Q [] H s:=by unfold eQ;rw[acr]
def LU{t:Tmp}{Q:bj->AH->Nat->Prop}:Wp F G (eQ P tm (.tmp t::r)) H s Q=Wp F G (eQ P tm r) H s (fun c a b=>Q (bo tm (.tmp t)::c) a b):=by
 conv=>lhs;unfold eQ
 rw[bH];exact nG fun c a b=>acr
def LX{a:Tmp}{t:bW}{Q:bj->AH->Nat->Prop}:Wp F G (eQ P tm (.cell a t::r)) H s Q=Wp F G (js P t (bo tm (.tmp a))) H s (fun v b d=>Wp F G (eQ P tm r) b d (fun f c e=>Q (v::f) c e)):=by
 conv=>lhs;unfold eQ
 rw[bH];refine nG fun v b d=>?_;rw[bH];exact nG fun f b d=>acr
def MZ:oI []=.tuple #[]:=TC rfl rfl
def MY(v:bn):oI [v]=v:=TC rfl rfl
def MX(v w:bn)(r:bj):oI (v::w::r)=.tuple (v::w::r).toArray:=TC rfl rfl
end
def base(args:ahG)(n:Nat):ahG:=args++Array.replicate (n-args.size) undef
def Z1:(base args n).size=args.size+(n-args.size):=by simp[base]
def ZL{k:Nat}:aF (base args n) k=args.getD k undef:=by unfold aF base;rw[qe,qe,Array.getElem?_append];by_cases h:k<args.size;{rw[eh h]};{rw[ed h,afZ,ae0 V];split<;>rfl}
def Ez(H:AH)(b:Nat)(x y:Option AB):aG (aG H b x) b y=aG H b y:=by funext k;unfold aG;split<;>rfl
def EA{b:Nat}{x:Option AB}(h:H b=x):aG H b x=H:=by funext k;unfold aG;split;{rename_i e;rw[e,h]};{rfl}
def ZK(B:ahG)(l:List (Nat×bn))(k:Nat):aF (bl B l) k=bo (bl B l) (.tmp k):=TC rfl rfl
section
variable{P:c7}{call:FuncId -> ahG -> AX bn}{F G:Nat -> Prop}{H:AH}{s:Nat}{ops:Array Oper}{B:ahG}{l:List (Nat × bn)}{Q:ahG -> AH -> Nat -> Prop}{d:Option Tmp}{op:Op}{ty:bW}{pos:String}{b:Array Edge}{g:Option (Nat × Bool)}{r:List Oper}
def NK:Wp F G (ew P call ops (⟨d,op,ty,pos,b,g⟩::r) (bl B l)) H s Q=Wp F G (cP P call ops ⟨d,op,ty,pos,b,g⟩ (bl B l)) H s (fun v a c=>Wp F G (ew P call ops r (cq (bl B l) d v)) a c Q):=xp
def NG:Wp F G (ew P call ops (⟨d,op,ty,pos,b,g⟩::r) (cq (bl B l) (some q) v')) H s Q=Wp F G (cP P call ops ⟨d,op,ty,pos,b,g⟩ (bl B ((q,v')::l))) H s (fun v a c=>Wp F G (ew P call ops r (cq (bl B ((q,v')::l)) d v)) a c Q):=xp
def NJ:Wp F G (ew P call ops (⟨d,op,ty,pos,b,g⟩::r) (cq (bl B l) none v')) H s Q=Wp F G (cP P call ops ⟨d,op,ty,pos,b,g⟩ (bl B l)) H s (fun v a c=>Wp F G (ew P call ops r (cq (bl B l) d v)) a c Q):=xp
def NH:Wp F G (ew P call ops [] (cq (bl B l) (some q) v')) H s Q=Q (bl B ((q,v')::l)) H s:=AF
section
variable{p j owns:List Nat}{h i:Nat}
def Ou:Wp F G (eC P call p j owns h ops (⟨d,op,ty,pos,b,g⟩::r) i (bl B l)) H s Q=Wp F G (kept p j owns h i (cP P call ops ⟨d,op,ty,pos,b,g⟩ (bl B l))) H s (fun v a c=>Wp F G (eC P call p j owns h ops r (i+1) (cq (bl B l) d v)) a c Q):=AI
def On:Wp F G (eC P call p j owns h ops (⟨d,op,ty,pos,b,g⟩::r) i (cq (bl B l) (some q) v')) H s Q=Wp F G (kept p j owns h i (cP P call ops ⟨d,op,ty,pos,b,g⟩ (bl B ((q,v')::l)))) H s (fun v a c=>Wp F G (eC P call p j owns h ops r (i+1) (cq (bl B ((q,v')::l)) d v)) a c Q):=AI
def Ot:Wp F G (eC P call p j owns h ops (⟨d,op,ty,pos,b,g⟩::r) i (cq (bl B l) none v')) H s Q=Wp F G (kept p j owns h i (cP P call ops ⟨d,op,ty,pos,b,g⟩ (bl B l))) H s (fun v a c=>Wp F G (eC P call p j owns h ops r (i+1) (cq (bl B l) d v)) a c Q):=AI
def Oo:Wp F G (eC P call p j owns h ops [] i (cq (bl B l) (some q) v')) H s Q=Q (bl B ((q,v')::l)) H s:=AG
def Oq:Wp F G (eC P call p j owns h ops [] i (cq (bl B l) none v')) H s Q=Q (bl B l) H s:=AG
def Me{m:AX bn}{Q:bn->AH->Nat->Prop}:Wp F G (kept p j owns h i m) H s Q=if owns.contains i=true then(h<=s/\Bd H s/\Wp (fun b=>F b/\(b<h\/s<=b)) (fun b=>G b/\s<=b) m H s Q)else if j.contains i=true then(h<=s/\Wp F G m H s Q)else if p.contains i=true then Wp (fun b=>F b/\b<h) G m H s Q else Wp F G m H s Q:=by unfold kept;rw[eW,Mb,eW,Md,eW,Mc]
end
def NI:Wp F G (ew P call ops [] (cq (bl B l) none v')) H s Q=Q (bl B l) H s:=AF
end
def VM[Decidable c]{a b:α}:(if c then ret a else ret b)=(ret (if c then a else b):AX α):=by by_cases h:c<;>simp[h]
def VK[Decidable c]{a b:Bool}:(if c then Value.bool a else Value.bool b)=Value.bool (if c then a else b):=by by_cases h:c<;>simp[h]
def I1{α:Type u}{b:Prop}[Decidable b][Decidable c]{x y u v:α}(a:b=c)(g:(¬c)=d)(e:c->¬d->x=u)(f:¬c->d->y=v):ite b x y=ite c u v:=by subst a;subst g;by_cases h:b;{rw[eh h,eh h];exact e h (fun k=>k h)};{rw[ed h,ed h];exact f h h}
def VN{b:Prop}[Decidable b][Decidable c]{x y u:bn}(a:b=c)(g:(¬c)=d)(e:c->¬d->x=u)(f:¬c->d->y=v):ite b x y=ite c u v:=I1 a g e f
def VO{α:Type}{b:Prop}[Decidable b][Decidable c]{x y u v:AX α}(a:b=c)(g:(¬c)=d)(e:c->¬d->x=u)(f:¬c->d->y=v):ite b x y=ite c u v:=I1 a g e f
attribute [congr] VN VO
@[simp] theorem wrap_i64(h: -9223372036854775808<=x/\x<9223372036854775808):IntKind.i64.wrap x=x:=cL h.1 h.2
@[simp] theorem wrap_u32(h:0<=x/\x<4294967296):IntKind.u32.wrap x=x:=by unfold IntKind.wrap;simp[IntKind.signed,IntKind.bits];omega
attribute [simp] VK
attribute [simp ↓] L1 L9 Ma L3 L0 L6 L7 L4 L5 L8 XX XU XW XY XV Ou On Ot Oo Oq AG Me NK NG NJ NH NI AF bH ac3 ac4 ac5 LR acV acX acY Eg LV LU LX
  Mx My Rz RS Rx RV RQ RD Rv Ry RR Ru RK RG RU RH RI RE RF RC RA RJ Hf RL RM BX RB Rw
attribute [simp] sR VM B9 ZK Ez acr fM Ee eW fV tU nF oG Qr Qq XF XE XD XH XG WA LZ xp
  BU Rk Rl Ww Wx Wy BY
  Sv Sw aam Z7 aag aah aai aaj aak aal aaf aab Z8 aae aad aaa Z9 MN MO Xi Xj Xh Zo Vw Vx N5 RW Zc Zd Y8 Za Zb Y9 Ze ZU ZV Dz DA MZ MY MX cu oneV bX wR eJ Z1 ZL vI
def jq{a:α}(h:∀(H:AH)(s:Nat),Wp (fun _=>False) (fun _=>False) m H s (fun v b i=>v=a/\b=H/\i=s)):m=ret a:=by funext H s;obtain⟨o,j,c,d,e,f,g⟩:=h H s;obtain⟨v,b,i,D,W⟩:=o;dsimp only at c d e f g;subst e;subst f;subst g;rw[j];have e1:D=[]:=afI.2 c;have e2:W=[]:=afI.2 d;subst e1;subst e2;rfl
def enter{P:c7}{ext:FuncId->Option (ahG->AX bn)}{j:Nat}{f:FuncId}{fn:Func}{c:Code}{rs:List ResultVar}{S:List FuncId}(m:acA S (cE P ext n))(l:qz)(p:ext f=none)(q:P.funcs[f]? =some fn)(t:fn.ntmps=j)(o:fn.body=some c)(u:fn.results.toList=rs)(r:jF S l c=true)(h:Wp F G (cI P (cE P ext n) l c (bl (base args j) [])) H s (fun x i k=>match x.1 with|.exit _=>False|_=>Wp F G (eQ P x.2 rs) i k (fun g b e=>Q (oI g) b e))): Wp F G (cE P ext (n+1) f args) H s Q:=by subst t;subst u;unfold cE;rw[p];dsimp only;rw[q];dsimp only;unfold rQ;rw[o];dsimp only;rw[bH];refine acB ((QA m c (bl (base args fn.ntmps) []) r).wp h) fun x i k a=>?_;cases d:x.1 with|normal=>{rw[d]at a;dsimp only at a⊢;rw[bH];exact acB a fun g b e h=>(acr).mpr h}|exit id=>{rw[d]at a;exact a.elim}|ret=>{rw[d]at a;dsimp only at a⊢;rw[bH];exact acB a fun g b e h=>(acr).mpr h}
def cM{Q:α->AH->Nat->Prop}(h:LS m)(j:Bd H s)(w:Wp F G m H s (fun v d c=>s<=c->Bd d c->Q v d c)):Wp F G m H s Q:=by obtain⟨o,e,f,i,g⟩:=w;obtain⟨a,b,_⟩:=h.bd e j;exact⟨o,e,f,i,g a b⟩
end
def rK:List FuncId:=[57,168,120,68,132,342,355,294,295,329,254,133,184,185,282,18,65,23,29,24,25,26,16,13]
def AU:List Int:=[0,79764919,159529838,222504665,319059676,398814059,445009330,507990021,638119352,583659535,797628118,726387553,890018660,835552979,1015980042,944750013,1276238704,1221641927,1167319070,1095957929,1595256236,1540665371,1452775106,1381403509,1780037320,1859660671,1671105958,1733955601,2031960084,2111593891,1889500026,1952343757,2552477408,2632100695,2443283854,2506133561,2334638140,2414271883,2191915858,2254759653,3190512472,3135915759,3081330742,3009969537,2905550212,2850959411,2762807018,2691435357,3560074640,3505614887,3719321342,3648080713,3342211916,3287746299,3467911202,3396681109,4063920168,4143685023,4223187782,4286162673,3779000052,3858754371,3904687514,3967668269,881225847,809987520,1023691545,969234094,662832811,591600412,771767749,717299826,311336399,374308984,453813921,533576470,25881363,88864420,134795389,214552010,2023205639,2086057648,1897238633,1976864222,1804852699,1867694188,1645340341,1724971778,1587496639,1516133128,1461550545,1406951526,1302016099,1230646740,1142491917,1087903418,2896545431,2825181984,2770861561,2716262478,3215044683,3143675388,3055782693,3001194130,2326604591,2389456536,2200899649,2280525302,2578013683,2640855108,2418763421,2498394922,3769900519,3832873040,3912640137,3992402750,4088425275,4151408268,4197601365,4277358050,3334271071,3263032808,3476998961,3422541446,3585640067,3514407732,3694837229,3640369242,1762451694,1842216281,1619975040,1682949687,2047383090,2127137669,1938468188,2001449195,1325665622,1271206113,1183200824,1111960463,1543535498,1489069629,1434599652,1363369299,622672798,568075817,748617968,677256519,907627842,853037301,1067152940,995781531,51762726,131386257,177728840,240578815,269590778,349224269,429104020,491947555,4046411278,4126034873,4172115296,4234965207,3794477266,3874110821,3953728444,4016571915,3609705398,3555108353,3735388376,3664026991,3290680682,3236090077,3449943556,3378572211,3174993278,3120533705,3032266256,2961025959,2923101090,2868635157,2813903052,2742672763,2604032198,2683796849,2461293480,2524268063,2284983834,2364738477,2175806836,2238787779,1569362073,1498123566,1409854455,1355396672,1317987909,1246755826,1192025387,1137557660,2072149281,2135122070,1912620623,1992383480,1753615357,1816598090,1627664531,1707420964,295390185,358241886,404320391,483945776,43990325,106832002,186451547,266083308,932423249,861060070,1041341759,986742920,613929101,542559546,756411363,701822548,3316196985,3244833742,3425377559,3370778784,3601682597,3530312978,3744426955,3689838204,3819031489,3881883254,3928223919,4007849240,4037393693,4100235434,4180117107,4259748804,2310601993,2373574846,2151335527,2231098320,2596047829,2659030626,2470359227,2550115596,2947551409,2876312838,2788305887,2733848168,3165939309,3094707162,3040238851,2985771188]
def oJ:bj:=AU.map (Value.int .u32)
def pM:AB:=.cells oJ 200 false
def qG(xs:ahG):AX bn:=if xs.size=0 then AX.bind (AX.new pM) fun b=>AX.ret (.pointer (some ⟨b,0,none⟩))else AX.fail
def qS:List (Int×Int):=[(1,8),(1,9),(1,10),(1,11),(2,8),(2,9),(2,10),(2,11),(2,3),(3,8),(3,9),(3,10),(3,11),(3,3),(4,8),(4,9),(4,10),(4,11),(5,8),(5,9),(5,10),(5,11),(5,3),(6,8),(6,9),(6,10),(6,11),(6,3),(7,8),(7,9),(7,10),(7,11),(7,3),(8,8),(8,9),(8,10),(8,11),(8,3),(9,8),(9,9),(9,10),(9,11),(9,3),(10,8),(10,9),(10,10),(10,11),(10,3),(1,1),(4,1),(3,2),(6,5),(8,4),(8,6),(9,6),(10,4),(10,7)]
def nP:List (bn×bn):=qS.map fun p=>(.agg #[.int .i64 p.1,.int .i64 p.2],.int .i64 1)
def qR(xs:ahG):AX bn:=if xs.size=0 then AX.bind (AX.new (.map nP)) fun b=>AX.ret (.map (some b))else AX.fail
class Bare(E:FuncId->Option (ahG->AX bn)):Prop where
 no:∀f,rK.contains f=false->E f=none
 ls:∀f g xs,E f=some g->LS (g xs)
 wire:E 57=some qG
 reqs:E 168=some qR
end Go.Proofs.YtlkceignfhnpoaaGreatDoor
