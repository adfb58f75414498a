/-
  Part of a proof, written small.
-/
import Derived.Test.YtlkceignfhnpoaaGreatDoorS1SASLSOSY0
import Derived.Orders
set_option linter.all false
namespace Go.Proofs.YtlkceignfhnpoaaGreatDoor
open Go
variable{T T2:bW}{x v y k l:bn}{α:Type}{ops:Array Oper}{o:Oper}{tm b vs args:ahG}{s i n:Nat}{c:Prop}{cs:bj}{ps:Array (Nat×bn)}{op:BinOp}{f g:Operand}{lo hi d:Option bn}{a:Array bW}
inductive AB where
 |cells (cs:bj) (T:bW) (wr:Bool)
 |map (kv:List (bn×bn))
abbrev AH:=Nat->Option AB
def aG(H:AH)(b:Nat)(x:Option AB):AH:=fun k=>if k=b then x else H k
def bX(H:AH)(b:Nat)(x:Option AB):aG H b x b=x:=by simp[aG]
def aH(H:AH){b k:Nat}(x:Option AB)(h:k≠b):aG H b x k=H k:=by simp[aG,h]
structure bE(α:Type)where
 val:α
 H:AH
 s:Nat
 D:List Nat
 W:List Nat
abbrev AX(α:Type):=AH->Nat->Option (bE α)
namespace AX
variable{α e:Type}
def ret(a:α):AX α:=fun H s=>some ⟨a,H,s,[],[]⟩
def fail:AX α:=fun _ _=>none
def bind(m:AX α)(f:α->AX e):AX e:=fun H s=>
 match m H s with
 |none=>none
 |some o=>match f o.val o.H o.s with
  |none=>none
  |some p=>some ⟨p.val,p.H,p.s,o.D++p.D,o.W++p.W⟩
def ofOpt(x:Option α):AX α:=fun H s=>match x with|none=>none|some a=>some ⟨a,H,s,[],[]⟩
def get(b:Nat):AX AB:=fun H s=>match H b with|none=>none|some x=>some ⟨x,H,s,[b],[]⟩
def set(b:Nat)(x:Option AB):AX Unit:=fun H s=>some ⟨(),aG H b x,s,[b],[b]⟩
def new(x:AB):AX Nat:=fun H s=>some ⟨s,aG H s (some x),s+1,[],[]⟩
end AX
def bE.dom{α:Type}(o:bE α)(s b:Nat):Prop:=b∈o.D\/(s<=b/\b<o.s)
def bE.wr{α:Type}(o:bE α)(s b:Nat):Prop:=b∈o.W\/(s<=b/\b<o.s)
def Hp{α:Type}{o:bE α}(a:o.W=[])(c:o.s=s)(b:Nat):¬o.wr s b:=by rintro(h|h);{rw[a]at h;cases h};{omega}
structure tO{α:Type}(m:AX α)(H:AH)(s:Nat)(o:bE α):Prop where
 up:s<=o.s
 sub:∀b,b∈o.W->b∈o.D
 keep:∀b,¬o.wr s b->o.H b=H b
 sees:∀H2:AH,(∀b,o.dom s b->H2 b=H b)->∃o2,m H2 s=some o2/\o2.val=o.val/\o2.s=o.s/\o2.D=o.D/\o2.W=o.W/\(∀b,o.wr s b->o2.H b=o.H b)/\∀b,¬o.wr s b->o2.H b=H2 b
def ai(m:AX α):Prop:=∀H s o,m H s=some o->tO m H s o
section
variable{α e:Type}
def ai.ret(a:α):ai (AX.ret a):=by intro H s o h;simp only[AX.ret,el]at h;subst h;exact⟨Z,fun b h=>(by cases h),fun b _=>rfl,fun d _=>⟨_,rfl,rfl,rfl,rfl,rfl,fun b c=>absurd c (Hp rfl rfl b),fun b _=>rfl⟩⟩
def ai.fail:ai (AX.fail:AX α):=by intro H s o h;cases h
def ai.ofOpt{x:Option α}:ai (AX.ofOpt x):=by cases x with|none=>{intro H s o h;simp[AX.ofOpt]at h}|some a=>{exact ai.ret a}
def ai.get(b:Nat):ai (AX.get b):=by intro H s o h;unfold AX.get at h;cases a:H b with|none=>{rw[a]at h;cases h}|some x=>{rw[a]at h;simp only[el]at h;subst h;refine⟨Z,fun b h=>(by cases h),fun b _=>rfl,fun c d=>⟨⟨x,c,s,[b],[]⟩,?_,rfl,rfl,rfl,rfl,fun k e=>absurd e (Hp rfl rfl k),fun k _=>rfl⟩⟩;have:=d b (.inl J);simp[AX.get,this,a]}
def ai.set(b:Nat)(x:Option AB):ai (AX.set b x):=by intro H s o h;simp only[AX.set,el]at h;subst h;refine⟨Z,fun k h=>h,fun k a=>aH _ _ (fun e=>a (.inl (by simp[e]))),fun c _=>⟨_,rfl,rfl,rfl,rfl,rfl,fun k a=>?_,fun k a=>aH _ _ (fun e=>a (.inl (by simp[e])))⟩⟩;rcases a with h|h;{simp at h;subst h;simp[bX]};{simp at h;omega}
def ai.new(x:AB):ai (AX.new x):=by intro H s o h;simp only[AX.new,el]at h;subst h;refine⟨HT _,fun k h=>(by cases h),fun k a=>aH _ _ (fun e=>a (.inr (by simp[e]))),fun b _=>⟨_,rfl,rfl,rfl,rfl,rfl,fun k a=>?_,fun k a=>aH _ _ (fun e=>a (.inr (by simp[e])))⟩⟩;rcases a with h|h;{cases h};{simp at h;have:k=s:=V;subst this;simp[bX]}
def AX.bind_some{m:AX α}{f:α->AX e}{H:AH}{q:bE e}(h:AX.bind m f H s=some q):∃o p,m H s=some o/\f o.val o.H o.s=some p/\q=⟨p.val,p.H,p.s,o.D++p.D,o.W++p.W⟩:=by unfold AX.bind at h;cases b:m H s with|none=>{rw[b]at h;cases h}|some o=>{rw[b]at h;simp only at h;cases a:f o.val o.H o.s with|none=>{rw[a]at h;cases h}|some p=>{rw[a]at h;simp only[el]at h;exact⟨o,p,rfl,a,h.symm⟩}}
def tO.seq{m:AX α}{f:α->AX e}{H:AH}{o:bE α}{p:bE e}(j:tO m H s o)(k:tO (f o.val) o.H o.s p): s<=p.s/\(∀b,b∈o.W++p.W->b∈o.D++p.D)/\(∀b,¬(b∈o.W++p.W\/(s<=b/\b<p.s))->p.H b=H b)/\ ∀i:AH,(∀b,(b∈o.D++p.D\/(s<=b/\b<p.s))->i b=H b)->∃d g,m i s=some d/\f d.val d.H d.s=some g/\d.val=o.val/\g.val=p.val/\d.s=o.s/\g.s=p.s/\d.D=o.D/\d.W=o.W/\g.D=p.D/\g.W=p.W/\ (∀b,(b∈o.W++p.W\/(s<=b/\b<p.s))->g.H b=p.H b)/\∀b,¬(b∈o.W++p.W\/(s<=b/\b<p.s))->g.H b=i b:=by
 have y:=j.up;have z:=k.up;refine⟨fq y z,fun b c=>?_,fun b c=>?_,fun i l=>?_⟩;{rcases my.1 c with h|h;{exact adi _ (j.sub b h)};{exact ac7 _ (k.sub b h)}};{rw[k.keep b (fun a=>c ?_),j.keep b (fun a=>c ?_)];{rcases a with h|h;{exact .inl (adi _ h)};{exact .inr ⟨h.1,V⟩}};{rcases a with h|h;{exact .inl (ac7 _ h)};{exact .inr ⟨V,h.2⟩}}}
 ·obtain⟨d,e1,u,t,d1,B,n,r⟩:=j.sees i (fun b c=>l b (by
   rcases c with h|h
   ·exact .inl (adi _ h)
   ·exact .inr ⟨h.1,V⟩))
  obtain⟨g,e2,A,x,d2,C,w,q⟩:=k.sees d.H (fun b c=>by
   by_cases a:o.wr s b
   ·exact n b a
   ·rw[r b a,j.keep b a]
    refine l b ?_;rcases c with h|h;{exact .inl (ac7 _ h)}
    ·exact .inr ⟨V,h.2⟩)
  refine⟨d,g,e1,by rw[u,t];exact e2,u,A,t,x,d1,B,d2,C,fun b c=>?_,fun b c=>?_⟩
  ·by_cases a:p.wr o.s b
   {exact w b a};{rw[q b a,k.keep b a];refine n b ?_;rcases c with h|h;{rcases my.1 h with h|h;{exact .inl h};{exact absurd (Or.inl h) a}};{by_cases v:b<o.s;{exact .inr ⟨h.1,v⟩};{exact absurd (Or.inr ⟨V,h.2⟩) a}}}
  ·rw[q b (fun a=>c ?_),r b (fun a=>c ?_)]
   {rcases a with h|h;{exact .inl (adi _ h)};{exact .inr ⟨h.1,V⟩}};{rcases a with h|h;{exact .inl (ac7 _ h)};{exact .inr ⟨V,h.2⟩}}
def ai.bind{m:AX α}{f:α->AX e}(r:ai m)(n:∀a,ai (f a)):ai (AX.bind m f):=by intro H s q h;obtain⟨o,p,e1,e2,rfl⟩:=AX.bind_some h;obtain⟨g,i,j,k⟩:=tO.seq (r H s o e1) (n _ _ _ p e2);refine⟨g,i,j,fun d l=>?_⟩;obtain⟨c,b,e3,e4,A,w,z,v,d1,x,d2,y,t,u⟩:=k d l;exact⟨⟨b.val,b.H,b.s,c.D++b.D,c.W++b.W⟩,by simp[AX.bind,e3,e4],w,v,by simp[d1,d2],by simp[x,y],t,u⟩
def ai.ite[Decidable c]{m a:AX α}(h:ai m)(b:ai a):ai (if c then m else a):=by split<;>assumption
end
section
open AX
section
variable(P:c7)
def stat:Sem α->Option α
 |.pure a=>some a
 |.program k=>stat (k P)
 |_=>none
def oneV:bn->Bool
 |.agg _|.tuple _=>false
 |_=>true
def dO:bn->Bool
 |.bool _|.int _ _|.string _=>true
 |_=>false
def flat:bn->Bool
 |.agg cs=>cs.toList.all dO
 |v=>dO v
def eJ:bn->Bool
 |.bool _|.int _ _|.string _|.pointer none|.map none|.nilFunc|.nilIface=>true
 |.slice none 0 0=>true
 |_=>false
def bF(T:bW):Option bn:=match(P.info? T).bind (·.zero)with|some z=>if z.cells.toList.all eJ then some z else none|none=>none
def aW(T:bW):Option Nat:=(P.info? T).map (·.size)
def qx(T:bW):Option Nat:=(P.info? T).map (·.bytes)
def bS(T:bW):Option Bool:=(P.underlying T).map fun|.struct _|.array _ _=>true|_=>false
def dj(T:bW):Option bW:=match P.underlying T with|some (.slice e)=>some e|_=>none
def eo(z:bn)(n:Nat):bj:=((Array.range n).map (fun i=>(if n=0 then #[]else z.cells)[i%(if n=0 then #[]else z.cells).size]!)).toList
def cu:bj->Nat->bj->bj
 |cs,_,[]=>cs
 |cs,o,v::r=>cu (cs.set o v) (o+1) r
end
namespace AX
def cells(b:Nat):AX (bj×bW×Bool):=bind (get b) fun x=>match x with|.cells cs T wr=>ret (cs,T,wr)|.map _=>fail
def entries(b:Nat):AX (List (bn×bn)):=bind (get b) fun x=>match x with|.map kv=>ret kv|.cells .. =>fail
def readN(b o n:Nat):AX (bj):=bind (cells b) fun x=>if o+n<=x.1.length then ret ((x.1.drop o).take n)else fail
def newC(T:bW)(cs:bj):AX bn:=if cs.all oneV then bind (new (.cells cs T true)) fun b=>ret (.pointer (some ⟨b,0,none⟩))else fail
end AX
section
variable(P:c7)
def js(T:bW)(v:bn):AX bn:=
 match v with
 |.pointer (some ⟨b,o,none⟩)=>
  match bS P T with
  |some true=>match aW P T with
   |some n=>bind (readN b o n) fun vs=>ret (.agg vs.toArray)
   |none=>fail
  |some false=>bind (cells b) fun x=>ofOpt x.1[o]?
  |none=>fail
 |_=>fail
def pC(T:bW)(p v:bn):AX bn:=
 match p with
 |.pointer (some ⟨b,o,none⟩)=>
  if aW P T=some v.cells.size/\v.cells.toList.all oneV=true then
   bind (cells b) fun x=>if x.2.2=true/\o+v.cells.size<=x.1.length then bind (set b (some (.cells (cu x.1 o v.cells.toList) x.2.1 true))) fun _=>ret undef else fail
  else fail
 |_=>fail
def mH(T:bW)(a:Nat)(c:Array (Nat×bn)):AX bn:=
 match dj P T with
 |some e=>match aW P e,bF P e with
  |some size,some z=>
   if a*size<=2^24/\a<=2^24/\(eo z (a*size)).all eJ=true then
    match Instr.fill (fun i=>some (i*size,size)) (eo z (a*size)).toArray c.toList with
    |some cs=>if cs.toList.all oneV then bind (new (.cells cs.toList e true)) fun b=>ret (.slice (some ⟨b,0,none⟩) a a)else fail
    |none=>fail
   else fail
  |_,_=>fail
 |none=>fail
def nB(v:bn):AX bn:=
 match v with
 |.pointer (some a)=>ret (.pointer (some a))
 |.func (.func f) fs cs=>ret (.func (.func f) fs cs)
 |_=>fail
def pj(T:bW):Bool:=match P.underlying T with|some (.pointer _)=>true|_=>false
def cZ(m:Sem bn):AX bn:=match stat P m with|some v=>if flat v then ret v else fail|none=>fail
def bZ(op:BinOp)(T:bW)(f g:Operand)(x y:bn):AX bn:=
 if flat x&&flat y then cZ P (do eqGuard op T f g x y;binOp op T x y)
 else match op,x,y with
  |.eql,.pointer a,.pointer b=>if pj P T&&(a.isNone||b.isNone)then ret (.bool (a.isNone&&b.isNone))else fail
  |.neq,.pointer a,.pointer b=>if pj P T&&(a.isNone||b.isNone)then ret (.bool (!(a.isNone&&b.isNone)))else fail
  |.eql,.slice a _ _,.slice b _ _=>if(dj P T).isSome&&(a.isNone||b.isNone)then ret (.bool (a.isNone&&b.isNone))else fail
  |.neq,.slice a _ _,.slice b _ _=>if(dj P T).isSome&&(a.isNone||b.isNone)then ret (.bool (!(a.isNone&&b.isNone)))else fail
  |_,_,_=>fail
def ot(T:bW)(l c:bn):AX bn:=
 match l,c with
 |.int _ n,.int _ m=>
  match dj P T with
  |some e=>match aW P e,bF P e,qx P e with
   |some size,some z,some by_=>
    if n=m/\0<=n/\IntKind.i64.wrap n=n/\(by_:Int)*n<=2^47 then
     if(eo z (n.toNat*size)).all eJ then bind (new (.cells (eo z (n.toNat*size)) e true)) fun b=>ret (.slice (some ⟨b,0,none⟩) n.toNat n.toNat)else fail
    else fail
   |_,_,_=>fail
  |none=>fail
 |_,_=>fail
def df(v:Option bn)(d:Nat):Option Int:=match v with|none=>some d|some (.int _ n)=>some n|_=>none
def ij(T:bW)(x:bn)(lo hi d:Option bn):AX bn:=
 match d with
 |some _=>fail
 |none=>match x with
  |.string s=>match P.underlying T,df lo 0,df hi s.size with
   |some .string,some l,some h=>if 0<=l/\l<=h/\h<=s.size then ret (.string (s.extract l.toNat h.toNat))else fail
   |_,_,_=>fail
  |.slice a len cap=>
   match dj P T with
   |some e=>match aW P e,df lo 0,df hi len with
    |some size,some l,some h=>
     if 0<=l/\l<=h/\h<=len then
      match a with
      |none=>ret (.slice none 0 0)
      |some ⟨b,o,none⟩=>bind (cells b) fun x=>if aW P x.2.1=some size then ret (.slice (some ⟨b,o+l.toNat*size,none⟩) (h.toNat-l.toNat) (h.toNat-l.toNat))else fail
      |_=>fail
     else fail
    |_,_,_=>fail
   |none=>fail
  |_=>fail
def rH(T:bW)(i:Nat):Option Field:=match P.underlying T with|some (.struct fs)=>fs[i]? |_=>none
def nD(T:bW)(x:bn)(i:Nat):AX bn:=
 match rH P T i with
 |some f=>match x with
  |.pointer (some ⟨b,o,none⟩)=>if aW P f.type=some 0\/aW P f.type=none then fail else ret (.pointer (some ⟨b,o+f.offset,none⟩))
  |_=>fail
 |none=>fail
def Ar(T:bW)(cs:ahG)(a:Nat):Option bn:=
 match bS P T with
 |some true=>(aW P T).map fun n=>.agg (cs.extract a (a+n))
 |some false=>cs[a]?
 |none=>none
def lI(T:bW)(x:bn)(i:Nat):AX bn:=
 match rH P T i with
 |some f=>match x with
  |.agg cs=>ofOpt (Ar P f.type cs f.offset)
  |_=>fail
 |none=>fail
def eS(T:bW)(x i:bn):AX bn:=
 match i with
 |.int _ n=>
  match P.underlying T,x with
  |some (.array len e),.pointer (some ⟨b,o,none⟩)=>match aW P e with
   |some size=>if 0<=n/\n<len then ret (.pointer (some ⟨b,o+n.toNat*size,none⟩))else fail
   |none=>fail
  |some (.slice e),.slice (some ⟨b,o,none⟩) len _=>match aW P e with
   |some size=>if 0<=n/\n<len then ret (.pointer (some ⟨b,o+n.toNat*size,none⟩))else fail
   |none=>fail
  |_,_=>fail
 |_=>fail
def ee(T:bW)(x i:bn):AX bn:=
 match x,i with
 |.agg cs,.int _ n=>match P.underlying T with
  |some (.array len e)=>match aW P e with
   |some size=>if 0<=n/\n<len then ofOpt (Ar P e cs (n.toNat*size))else fail
   |none=>fail
  |_=>fail
 |.string s,.int k n=>cZ P (Instr.index T (.string s) (.int k n))
 |_,_=>fail
def dI(T:bW)(v:bn):Bool:=
 match P.underlying T,v with
 |some (.int q),.int q' _=>q=q'
 |some (.array len e),.agg cs=>match P.underlying e,cs.toList with
  |some (.int q),[.int q1 _,.int q2 _]=>len==2&&q=q1&&q=q2&&aW P e=some 1
  |_,_=>false
 |_,_=>false
def gR:bn->bn->Bool
 |.int _ a,.int _ b=>a==b
 |.agg cs,.agg ds=>match cs.toList,ds.toList with
  |[.int _ a,.int _ b],[.int _ c,.int _ d]=>a==c&&b==d
  |_,_=>false
 |_,_=>false
def iZ(k:bn):List (bn×bn)->Option bn
 |[]=>none
 |p::r=>if gR k p.1 then some p.2 else iZ k r
def jD(k v:bn):List (bn×bn)->List (bn×bn)
 |[]=>[(k,v)]
 |p::r=>if gR k p.1 then(k,v)::r else p::jD k v r
def mw(k:bn):List (bn×bn)->List (bn×bn)
 |[]=>[]
 |p::r=>if gR k p.1 then r else p::mw k r
def iH(T:bW):Option (bW×bW):=match P.underlying T with|some (.map k e)=>some (k,e)|_=>none
def nC(T:bW)(m k:bn)(ok:Bool):AX bn:=
 match iH P T with
 |some (kt,et)=>if dI P kt k then match m with
  |.map none=>match bF P et with
   |some z=>ret (if ok then .tuple #[z,.bool false]else z)
   |none=>fail
  |.map (some b)=>bind (entries b) fun a=>if a.all (fun p=>dI P kt p.1)then match iZ k a with
    |some v=>ret (if ok then .tuple #[v,.bool true]else v)
    |none=>match bF P et with
     |some z=>ret (if ok then .tuple #[z,.bool false]else z)
     |none=>fail
   else fail
  |_=>fail
  else fail
 |none=>fail
def pD(T:bW)(m k v:bn):AX bn:=
 match iH P T with
 |some (kt,et)=>if dI P kt k then match m with
  |.map (some b)=>bind (entries b) fun a=>if a.all (fun p=>dI P kt p.1)then bind (set b (some (.map (jD k v a)))) fun _=>ret undef else fail
  |_=>fail
  else fail
 |none=>fail
def pE(T:bW)(m k:bn):AX bn:=
 match iH P T with
 |some (kt,et)=>if dI P kt k then match m with
  |.map (some b)=>bind (entries b) fun a=>if a.all (fun p=>dI P kt p.1)then bind (set b (some (.map (mw k a)))) fun _=>ret (.tuple #[])else fail
  |_=>fail
  else fail
 |none=>fail
def fj(T:bW)(v:bn):AX bn:=
 match P.underlying T,v with
 |some .string,.string s=>ret (.int .i64 s.size)
 |some (.slice _),.slice _ n _=>ret (.int .i64 n)
 |some (.array n _),.agg _=>ret (.int .i64 n)
 |some (.map _ _),.map none=>ret (.int .i64 0)
 |some (.map _ _),.map (some b)=>bind (entries b) fun a=>ret (.int .i64 a.length)
 |_,_=>fail
def kK(size:Nat)(x:bn):AX (bj):=
 match x with
 |.slice none _ _=>ret []
 |.slice (some ⟨b,o,none⟩) n _=>if n=0 then ret []else readN b o (n*size)
 |_=>fail
def cr:bW:=68
def sW(e:bW):Bool:=e==cr||e==5
def j9(T T2:bW)(s x:bn):AX bn:=
 match dj P T with
 |some e=>match aW P e,bF P e,qx P e,s,x with
  |some size,some z,some by_,.slice base n cap,.slice bx m cx=>
   if T2≠T\/sW e=true then fail
   else if m=0 then ret (.slice base n cap)
   else if(n+m)*by_<=140737488355328/\n+m<=9223372036854775807/\z.cells.size=size then
    bind (kK size (.slice bx m cx)) fun a=>
    match base with
    |none=>if n=0 then bind (new (.cells a e true)) fun b=>ret (.slice (some ⟨b,0,none⟩) m m)else fail
    |some ⟨b,o,none⟩=>bind (cells b) fun y=>
     if y.2.2=true/\y.2.1=e/\o+n*size<=y.1.length then
      bind (set b none) fun _=>bind (new (.cells ((y.1.drop o).take (n*size)++a) e true)) fun b2=>ret (.slice (some ⟨b2,0,none⟩) (n+m) (n+m))
     else fail
    |_=>fail
   else fail
  |_,_,_,_,_=>fail
 |_=>fail
def pF(T:bW)(d x:bn):AX bn:=
 match dj P T with
 |some e=>match aW P e,d,x with
  |some size,.slice base n cap,.slice bx m cx=>
   if m=0\/n=0 then ret (.int .i64 0)
   else if m<=n then
    bind (kK size (.slice bx m cx)) fun a=>
    match base with
    |some ⟨b,o,none⟩=>bind (cells b) fun y=>
     if y.2.2=true/\o+a.length<=y.1.length then bind (set b (some (.cells (cu y.1 o a) y.2.1 true))) fun _=>ret (.int .i64 m)else fail
    |_=>fail
   else fail
  |_,_,_=>fail
 |none=>fail
def pG(T:bW)(x:bn):AX bn:=
 match dj P T with
 |some e=>match aW P e,bF P e,x with
  |some size,some z,.slice base n cap=>
   if n=0 then ret (.tuple #[])
   else match base with
    |some ⟨b,o,none⟩=>bind (cells b) fun y=>
     if y.2.2=true/\o+(Builtin.zeroCells z.cells n).toList.length<=y.1.length then bind (set b (some (.cells (cu y.1 o (Builtin.zeroCells z.cells n).toList) y.2.1 true))) fun _=>ret (.tuple #[])else fail
    |_=>fail
  |_,_,_=>fail
 |none=>fail
def gD(b:Builtin)(a:Array bW)(vs:ahG):AX bn:=
 match b,a.toList,vs.toList with
 |.len,[t],[v]=>fj P t v
 |.append,[t,t2],[s,x]=>j9 P t t2 s x
 |.copy,[t,_],[d,x]=>pF P t d x
 |.delete,[t,_],[m,k]=>pE P t m k
 |.clear,[t],[x]=>pG P t x
 |.max,_,l=>if l.all flat then cZ P (Builtin.max_ a 0 vs)else fail
 |.min,_,l=>if l.all flat then cZ P (Builtin.min_ a 0 vs)else fail
 |_,_,_=>fail
def Operand.rB:Operand->Bool
 |.global _=>true
 |_=>false
def bo(tm:ahG):Operand->bn
 |.tmp t=>tm.getD t undef
 |.const v=>v
 |.global g=>undef
 |.func f=>.func (.func f) #[] #[]
def eL(f:FuncId):Bool:=match P.funcs[f]? with|some fn=>fn.body.isSome&& !(fn.name== "runtime.NumGoroutine")|none=>false
def wR(v:bn):Bool:=eJ v||(match v with|.agg cs=>cs.toList.all eJ|.tuple cs=>cs.toList.isEmpty|_=>false)
def Operand.bU:Operand->Bool
 |.const v=>wR v
 |.global _=>false
 |_=>true
def ou(T:bW)(v:bn):AX bn:=
 match v with
 |.int k n=>match P.underlying T with
  |some (.interface _)=>fail
  |some _=>ret (.iface T (.int k n))
  |none=>fail
 |_=>fail
def mI(v:bn)(T:bW)(ok:Bool):AX bn:=
 match v with
 |.iface t (.int k n)=>match P.underlying T with
  |some (.interface _)=>fail
  |some _=>if ok=true then(if t=T then ret (.tuple #[.int k n,.bool true])else match bF P T with|some z=>ret (.tuple #[z,.bool false])|none=>fail)else fail
  |none=>fail
 |_=>fail
def bA(call:FuncId->ahG->AX bn)(o:Oper)(tm:ahG):AX bn:=
 let ρ:=bo tm
 if o.op.operands.toList.all Operand.bU then
 match o.op with
 |.move x|.assign x=>ret (ρ x)
 |.pick c a b=>match ρ c with|.bool t=>ret (if t then ρ a else ρ b)|_=>fail
 |.alloc e=>match bF P e with|some z=>newC e z.cells.toList|none=>fail
 |.box e x=>newC e (ρ x).cells.toList
 |.build t parts=>if(bF P t).isSome then ofOpt (stat P (Instr.build t (parts.map fun(i,x)=>(i,ρ x))))else fail
 |.buildSlice t len parts=>mH P t len (parts.map fun(i,x)=>(i,ρ x))
 |.load t a=>js P t (ρ a)
 |.store t a x=>pC P t (ρ a) (ρ x)
 |.nilCheck x=>nB (ρ x)
 |.binOp op t x y _=>bZ P op t x y (ρ x) (ρ y)
 |.unOp op _ x=>if flat (ρ x)then cZ P (Op.unary op (ρ x))else fail
 |.convert src dst x=>if flat (ρ x)then cZ P (convert src dst (ρ x))else fail
 |.makeInterface t x=>ou P t (ρ x)
 |.typeAssert x _ t ok=>mI P (ρ x) t ok
 |.makeFunc fn first captured=>match fn with
  |.func f=>ret (.func (.func f) (first.map ρ) (captured.map ρ))
  |_=>fail
 |.makeMap t r=>match iH P t,r with
  |some _,none=>bind (new (.map [])) fun b=>ret (.map (some b))
  |some _,some x=>(match ρ x with|.int _ _=>bind (new (.map [])) fun b=>ret (.map (some b))|_=>fail)
  |none,_=>fail
 |.makeSlice t l c=>ot P t (ρ l) (ρ c)
 |.slice t x lo hi d=>ij P t (ρ x) (lo.map ρ) (hi.map ρ) (d.map ρ)
 |.fieldAddr t x i=>nD P t (ρ x) i
 |.field t x i=>lI P t (ρ x) i
 |.indexAddr t x i=>eS P t (ρ x) (ρ i)
 |.index t x i=>ee P t (ρ x) (ρ i)
 |.lookup t m k ok=>nC P t (ρ m) (ρ k) ok
 |.mapUpdate t m k v=>pD P t (ρ m) (ρ k) (ρ v)
 |.extract t i=>match ρ t with|.tuple vs=>ofOpt vs[i]? |_=>fail
 |.call c=>match c.callee with
  |.value f=>match ρ f with
   |.func (.func g) first captured=>if eL P g then call g (first++c.args.map ρ++captured)else fail
   |_=>fail
  |.builtin b=>gD P b c.argTypes (c.args.map ρ)
  |.invoke .. =>fail
 |_=>fail
 else fail
def cq(tm:ahG)(d:Option Tmp)(v:bn):ahG:=match d with|some t=>tm.setIfInBounds t v|none=>tm
def cP(call:FuncId->ahG->AX bn)(ops:Array Oper)(o:Oper)(tm:ahG):AX bn:=
 if Region.wanted o (yielded ops tm)then bA P call o tm else ret undef
def j8(call:FuncId->ahG->AX bn)(ops:Array Oper)(o:Oper)(tm:ahG):AX (ahG):=bind (cP P call ops o tm) fun v=>ret (cq tm o.dst v)
structure du where
 s:Nat
 s':Nat
 D:List Nat
 W:List Nat
def dy(call:FuncId->ahG->AX bn)(ops:Array Oper):List Oper->ahG->AX (ahG×List du)
 |[],tm=>ret (tm,[])
 |o::r,tm=>fun H s=>match j8 P call ops o tm H s with
  |none=>none
  |some x=>match dy call ops r x.val x.H x.s with
   |none=>none
   |some y=>some ⟨(y.val.1,⟨s,x.s,x.D,x.W⟩::y.val.2),y.H,y.s,x.D++y.D,x.W++y.W⟩
def du.calm(f:du):Bool:=f.W.isEmpty&&f.s==f.s'
def du.apart(f g:du):Bool:=(f.calm&&g.calm)||(f.W.all (fun b=> !g.D.contains b)&&g.W.all (fun b=> !f.D.contains b)&&g.D.all (fun b=> !(f.s<=b&&b<f.s'))&&f.D.all (fun b=> !(g.s<=b&&b<g.s')))
def p8(bits:Array Nat)(log:List du):Bool:=
 (log.zipIdx).all fun g=>(log.zipIdx).all fun f=> !(f.2<g.2)||(bits.getD g.2 0).testBit f.2||f.1.apart g.1
def noSelect:Op->Bool
 |.select .. =>false
 |_=>true
def yo(ops:Array Oper):Bool:=
 let bits:=Region.before ops
 ops.toList.zipIdx.all (fun g=>g.1.after.toList.all (fun e=> !Region.binds .any e||e.on<g.2)&&noSelect g.1.op&&(match g.1.guard with|none=>true|some (j,_)=>(bits.getD g.2 0).testBit j))&&
 ops.toList.zipIdx.all fun g=>ops.toList.zipIdx.all fun f=> !(f.2<g.2)||(bits.getD g.2 0).testBit f.2||Oper.apart ops f.1 g.1
def mG(call:FuncId->ahG->AX bn)(ops:Array Oper)(a:Bool)(tm:ahG):AX (ahG):=
 if a then bind (dy P call ops ops.toList tm) fun x=>if p8 (Region.before ops) x.2 then ret x.1 else fail
 else bind (dy P call ops ops.toList tm) fun x=>ret x.1
def iJ:Code->Bool
 |.region _ ops draw=> !draw||yo ops
 |.seq a b=>iJ a&&iJ b
 |.cond _ a b=>iJ a&&iJ b
 |.block _ c=>iJ c
 |.loop c=>iJ c
 |.scope c=>iJ c
 |_=>true
inductive gi where
 |normal
 |exit (id:Nat)
 |ret
def jb(body:ahG->AX (gi×ahG)):Nat->ahG->AX (gi×ahG)
 |0,_=>fail
 |n+1,tm=>bind (body tm) fun x=>match x.1 with
  |.normal=>jb body n x.2
  |.exit id=>ret (.exit id,x.2)
  |.ret=>ret (.ret,x.2)
def LF:Nat:=1099511627776
def bh(call:FuncId->ahG->AX bn):Code->ahG->AX (gi×ahG)
 |.skip,tm=>ret (.normal,tm)
 |.label _,tm=>ret (.normal,tm)
 |.region _ ops draw,tm=>bind (mG P call ops draw tm) fun x=>ret (.normal,x)
 |.seq a b,tm=>bind (bh call a tm) fun x=>match x.1 with
  |.normal=>bh call b x.2
  |.exit id=>ret (.exit id,x.2)
  |.ret=>ret (.ret,x.2)
 |.cond c a b,tm=>if Operand.rB c then fail else match bo tm c with
  |.bool t=>if t then bh call a tm else bh call b tm
  |_=>fail
 |.block id c,tm=>bind (bh call c tm) fun x=>match x.1 with
  |.normal=>ret (.normal,x.2)
  |.exit j=>if j=id then ret (.normal,x.2)else ret (.exit j,x.2)
  |.ret=>ret (.ret,x.2)
 |.loop c,tm=>jb (bh call c) LF tm
 |.scope c,tm=>bh call c tm
 |.exit id,tm=>ret (.exit id,tm)
 |.ret,tm=>ret (.ret,tm)
 |_,_=>fail
def eQ(tm:ahG):List ResultVar->AX (bj)
 |[]=>ret []
 |.tmp t::r=>bind (eQ tm r) fun vs=>ret (tm.getD t undef::vs)
 |.cell a t::r=>bind (js P t (tm.getD a undef)) fun v=>bind (eQ tm r) fun vs=>ret (v::vs)
def oI:bj->bn
 |[v]=>v
 |vs=>.tuple vs.toArray
def rQ(call:FuncId->ahG->AX bn)(fn:Func)(args:ahG):AX bn:=
 match fn.body with
 |some c=>bind (bh P call c (args++Array.replicate (fn.ntmps-args.size) undef)) fun x=>match x.1 with
  |.exit _=>fail
  |_=>bind (eQ P x.2 fn.results.toList) fun vs=>ret (oI vs)
 |none=>fail
def cE(ext:FuncId->Option (ahG->AX bn)):Nat->FuncId->ahG->AX bn
 |0,_,_=>fail
 |n+1,f,args=>match ext f with
  |some g=>g args
  |none=>match P.funcs[f]? with
   |some fn=>rQ P (cE ext n) fn args
   |none=>fail
end
end
section
open AX
section
variable{P:c7}
def td(b:Nat):ai (AX.cells b):=ai.bind (ai.get b) fun x=>by cases x;exact ai.ret _;exact ai.fail
def y9{b:Nat}:ai (AX.entries b):=ai.bind (ai.get b) fun x=>by cases x;exact ai.fail;exact ai.ret _
def Iw{b o:Nat}:ai (AX.readN b o n):=ai.bind (td b) fun x=>ai.ite (ai.ret _) ai.fail
def Iy:ai (AX.newC T cs):=ai.ite (ai.bind (ai.new _) fun b=>ai.ret _) ai.fail
def Iz:ai (js P T v):=by unfold js;split;{split;{split;{exact ai.bind (Iw) fun _=>ai.ret _};{exact ai.fail}};{exact ai.bind (td _) fun _=>ai.ofOpt};{exact ai.fail}};{exact ai.fail}
def Uh{p:bn}:ai (pC P T p v):=by unfold pC;split;{exact ai.ite (ai.bind (td _) fun _=>ai.ite (ai.bind (ai.set _ _) fun _=>ai.ret _) ai.fail) ai.fail};{exact ai.fail}
def Uy{a:Nat}:ai (mH P T a ps):=by unfold mH;split;{split;{refine ai.ite ?_ ai.fail;split;{exact ai.ite (ai.bind (ai.new _) fun _=>ai.ret _) ai.fail};{exact ai.fail}};{exact ai.fail}};{exact ai.fail}
def Ul:ai (nB v):=by unfold nB;split;{exact ai.ret _};{exact ai.ret _};{exact ai.fail}
def uF{m:Sem bn}:ai (cZ P m):=by unfold cZ;split;{exact ai.ite (ai.ret _) ai.fail};{exact ai.fail}
def UB:ai (bZ P op T f g x y):=by unfold bZ;refine ai.ite (uF) ?_;split;{exact ai.ite (ai.ret _) ai.fail};{exact ai.ite (ai.ret _) ai.fail};{exact ai.ite (ai.ret _) ai.fail};{exact ai.ite (ai.ret _) ai.fail};{exact ai.fail}
def Un{c:bn}:ai (ot P T l c):=by unfold ot;split;{split;{split;{exact ai.ite (ai.ite (ai.bind (ai.new _) fun _=>ai.ret _) ai.fail) ai.fail};{exact ai.fail}};{exact ai.fail}};{exact ai.fail}
def Ui:ai (ij P T x lo hi d):=by unfold ij;split;{exact ai.fail};{split;{split;{exact ai.ite (ai.ret _) ai.fail};{exact ai.fail}};{split;{split;{refine ai.ite ?_ ai.fail;split;{exact ai.ret _};{exact ai.bind (td _) fun _=>ai.ite (ai.ret _) ai.fail};{exact ai.fail}};{exact ai.fail}};{exact ai.fail}};{exact ai.fail}}
def Us:ai (nD P T x i):=by unfold nD;split;{split;{exact ai.ite ai.fail (ai.ret _)};{exact ai.fail}};{exact ai.fail}
def Ut:ai (lI P T x i):=by unfold lI;split;{split;{exact ai.ofOpt};{exact ai.fail}};{exact ai.fail}
def Uq{i:bn}:ai (eS P T x i):=by unfold eS;split;{split;{split;{exact ai.ite (ai.ret _) ai.fail};{exact ai.fail}};{split;{exact ai.ite (ai.ret _) ai.fail};{exact ai.fail}};{exact ai.fail}};{exact ai.fail}
def Ur{i:bn}:ai (ee P T x i):=by unfold ee;split;{split;{split;{exact ai.ite (ai.ofOpt) ai.fail};{exact ai.fail}};{exact ai.fail}};{exact uF};{exact ai.fail}
def Uo{m:bn}{ok:Bool}:ai (nC P T m k ok):=by unfold nC;split;{refine ai.ite ?_ ai.fail;split;{split;{exact ai.ret _};{exact ai.fail}};{refine ai.bind (y9) fun _=>ai.ite ?_ ai.fail;split;{exact ai.ret _};{split;{exact ai.ret _};{exact ai.fail}}};{exact ai.fail}};{exact ai.fail}
def Um{m:bn}:ai (pD P T m k v):=by unfold pD;split;{refine ai.ite ?_ ai.fail;split;{exact ai.bind (y9) fun _=>ai.ite (ai.bind (ai.set _ _) fun _=>ai.ret _) ai.fail};{exact ai.fail}};{exact ai.fail}
def Uu{m:bn}:ai (pE P T m k):=by unfold pE;split;{refine ai.ite ?_ ai.fail;split;{exact ai.bind (y9) fun _=>ai.ite (ai.bind (ai.set _ _) fun _=>ai.ret _) ai.fail};{exact ai.fail}};{exact ai.fail}
def Up:ai (fj P T v):=by unfold fj;split;{exact ai.ret _};{exact ai.ret _};{exact ai.ret _};{exact ai.ret _};{exact ai.bind (y9) fun _=>ai.ret _};{exact ai.fail}
def Iv{size:Nat}:ai (kK size x):=by unfold kK;split;{exact ai.ret _};{exact ai.ite (ai.ret _) (Iw)};{exact ai.fail}
def UD:ai (j9 P T T2 x y):=by unfold j9;split;{split;{refine ai.ite ai.fail (ai.ite (ai.ret _) (ai.ite (ai.bind (Iv) fun _=>?_) ai.fail));split;{exact ai.ite (ai.bind (ai.new _) fun _=>ai.ret _) ai.fail};{exact ai.bind (td _) fun _=>ai.ite (ai.bind (ai.set _ _) fun _=>ai.bind (ai.new _) fun _=>ai.ret _) ai.fail};{exact ai.fail}};{exact ai.fail}};{exact ai.fail}
def Uv:ai (pF P T x y):=by unfold pF;split;{split;{refine ai.ite (ai.ret _) (ai.ite (ai.bind (Iv) fun _=>?_) ai.fail);split;{exact ai.bind (td _) fun _=>ai.ite (ai.bind (ai.set _ _) fun _=>ai.ret _) ai.fail};{exact ai.fail}};{exact ai.fail}};{exact ai.fail}
def Uw:ai (pG P T x):=by unfold pG;split;{split;{refine ai.ite (ai.ret _) ?_;split;{exact ai.bind (td _) fun _=>ai.ite (ai.bind (ai.set _ _) fun _=>ai.ret _) ai.fail};{exact ai.fail}};{exact ai.fail}};{exact ai.fail}
def Ux{b:Builtin}:ai (gD P b a vs):=by unfold gD;split;{exact Up};{exact UD};{exact Uv};{exact Uu};{exact Uw};{exact ai.ite (uF) ai.fail};{exact ai.ite (uF) ai.fail};{exact ai.fail}
def Uz:ai (ou P T v):=by unfold ou;split;{split;{exact ai.fail};{exact ai.ret _};{exact ai.fail}};{exact ai.fail}
def UC{ok:Bool}:ai (mI P v T ok):=by unfold mI;split;{split;{exact ai.fail};{refine ai.ite (ai.ite (ai.ret _) ?_) ai.fail;split;{exact ai.ret _};{exact ai.fail}};{exact ai.fail}};{exact ai.fail}
def Uk{call:FuncId->ahG->AX bn}(b:∀f a,ai (call f a))(o:Oper)(tm:ahG):ai (bA P call o tm):=by unfold bA;refine ai.ite ?_ ai.fail;split;{exact ai.ret _};{exact ai.ret _};{split;{exact ai.ret _};{exact ai.fail}};{split;{exact Iy};{exact ai.fail}};{exact Iy};{exact ai.ite (ai.ofOpt) ai.fail};{exact Uy};{exact Iz};{exact Uh};{exact Ul};{exact UB};{exact ai.ite (uF) ai.fail};{exact ai.ite (uF) ai.fail};{exact Uz};{exact UC};{split;{exact ai.ret _};{exact ai.fail}};{split;{exact ai.bind (ai.new _) fun _=>ai.ret _};{split;{exact ai.bind (ai.new _) fun _=>ai.ret _};{exact ai.fail}};{exact ai.fail}};{exact Un};{exact Ui};{exact Us};{exact Ut};{exact Uq};{exact Ur};{exact Uo};{exact Um};{split;{exact ai.ofOpt};{exact ai.fail}};{split;{split;{exact ai.ite (b _ _) ai.fail};{exact ai.fail}};{exact Ux};{exact ai.fail}};{exact ai.fail}
def te{call:FuncId->ahG->AX bn}(b:∀f a,ai (call f a))(ops:Array Oper)(o:Oper)(tm:ahG):ai (cP P call ops o tm):=ai.ite (Uk b o tm) (ai.ret _)
def wA{call:FuncId->ahG->AX bn}(g:∀f c,ai (call f c))(ops:Array Oper):∀(l:List Oper)(tm:ahG),ai (dy P call ops l tm)
 |[],tm=>ai.ret _
 |o::r,tm=>by
  intro H s q h;unfold dy at h;cases d:j8 P call ops o tm H s with
  |none=>rw[d]at h;cases h
  |some x=>
   rw[d]at h;dsimp only at h;cases e:dy P call ops r x.val x.H x.s with
   |none=>rw[e]at h;cases h
   |some y=>
    rw[e]at h;simp only[el]at h;subst h;have u:ai (j8 P call ops o tm):=ai.bind (te g ops o tm) fun _=>ai.ret _;obtain⟨k,m,n,p⟩:=tO.seq (f:=dy P call ops r) (u H s x d) (wA g ops r _ _ _ y e);refine⟨k,m,n,fun j t=>?_⟩;obtain⟨b,a,e3,e4,D,B,z,A,d1,i,d2,C,v,w⟩:=p j t;exact⟨⟨(a.val.1,⟨s,b.s,b.D,b.W⟩::a.val.2),a.H,a.s,b.D++a.D,b.W++a.W⟩,by simp[dy,e3,e4],by simp[B,z,d1,i],A,by simp[d1,d2],by simp[i,C],v,w⟩
def Uj{call:FuncId->ahG->AX bn}(c:∀f b,ai (call f b))(ops:Array Oper)(a:Bool)(tm:ahG):ai (mG P call ops a tm):=by unfold mG;exact ai.ite (ai.bind (wA c ops _ _) fun _=>ai.ite (ai.ret _) ai.fail) (ai.bind (wA c ops _ _) fun _=>ai.ret _)
def Co{body:ahG->AX (gi×ahG)}(a:∀tm,ai (body tm)):∀n tm,ai (jb body n tm)
 |0,tm=>ai.fail
 |n+1,tm=>ai.bind (a tm) fun x=>by
  split
  ·exact Co a n _
  ·exact ai.ret _
  ·exact ai.ret _
def mh{call:FuncId->ahG->AX bn}(d:∀f e,ai (call f e)):∀(c:Code)(tm:ahG),ai (bh P call c tm)
 |.skip,tm=>by unfold bh;exact ai.ret _
 |.label _,tm=>by unfold bh;exact ai.ret _
 |.region _ ops draw,tm=>by unfold bh;exact ai.bind (Uj d ops draw tm) fun _=>ai.ret _
 |.seq a b,tm=>by
  unfold bh;refine ai.bind (mh d a tm) fun x=>?_;split
  ·exact mh d b _
  ·exact ai.ret _
  ·exact ai.ret _
 |.cond c a b,tm=>by
  unfold bh;refine ai.ite ai.fail ?_;split
  ·exact ai.ite (mh d a tm) (mh d b tm)
  ·exact ai.fail
 |.block id c,tm=>by
  unfold bh;refine ai.bind (mh d c tm) fun x=>?_;split
  ·exact ai.ret _
  ·exact ai.ite (ai.ret _) (ai.ret _)
  ·exact ai.ret _
 |.loop c,tm=>by unfold bh;exact Co (mh d c) _ _
 |.scope c,tm=>by unfold bh;exact mh d c tm
 |.exit id,tm=>by unfold bh;exact ai.ret _
 |.ret,tm=>by unfold bh;exact ai.ret _
 |.rangeFunc ..,tm=>by unfold bh;exact ai.fail
 |.goto _,tm=>by unfold bh;exact ai.fail
 |.refuse _,tm=>by unfold bh;exact ai.fail
def Cn(tm:ahG):∀l,ai (eQ P tm l)
 |[]=>ai.ret _
 |.tmp t::r=>ai.bind (Cn tm r) fun _=>ai.ret _
 |.cell a t::r=>ai.bind (Iz) fun _=>ai.bind (Cn tm r) fun _=>ai.ret _
def UA{call:FuncId->ahG->AX bn}(b:∀f a,ai (call f a)){fn:Func}:ai (rQ P call fn args):=by unfold rQ;split;{refine ai.bind (mh b _ _) fun x=>?_;split;{exact ai.fail};{exact ai.bind (Cn _ _) fun _=>ai.ret _}};{exact ai.fail}
def IA{ext:FuncId->Option (ahG->AX bn)}(b:∀f g a,ext f=some g->ai (g a)):∀n f args,ai (cE P ext n f args)
 |0,f,args=>ai.fail
 |n+1,f,args=>by
  unfold cE;split
  ·rename_i g c;exact b f g args c
  ·split
   ·exact UA (IA b n)
   ·exact ai.fail
def tQ(ops:Array Oper)(o:Oper)(tm b:ahG):Prop:=∀t∈o.looksAt ops,tm[t]? =b[t]?
def C1(h:tQ ops o tm b){x:Operand}(a:x∈o.op.operands):bo tm x=bo b x:=by cases x with|tmp t=>{have:=h t (adi _ (List.mem_filterMap.2 ⟨.tmp t,by simpa using a,rfl⟩));simp[bo,qe,this]}|_=>{rfl}
def Mw(h:tQ ops o tm b):Region.wanted o (yielded ops tm)=Region.wanted o (yielded ops b):=by unfold Region.wanted;cases a:o.guard with|none=>rfl|some gw=>{obtain⟨g,p⟩:=gw;have d:yielded ops tm g=yielded ops b g:=by{unfold yielded;cases c:(ops[g]?).bind (·.dst)with|none=>rfl|some t=>{have:=h t (ac7 _ (by simp[a,c]));simp only[ahf,this]}};simp only[d]}
def Te(h:tQ ops o tm b){xs:Array Operand}(c:∀x∈xs,x∈o.op.operands):xs.map (bo tm)=xs.map (bo b):=agp fun x a=>C1 h (c x a)
def QD(h:tQ ops o tm b){ps:Array (Nat×Operand)}(c:∀p∈ps,p.2∈o.op.operands):(ps.map fun(i,x)=>(i,bo tm x))=(ps.map fun(i,x)=>(i,bo b x)):=
 agp fun p a=>by
  obtain⟨i,x⟩:=p;simp only[C1 h (c (i,x) a)]
def aaZ{call:FuncId->ahG->AX bn}(h:tQ ops o tm b):bA P call o tm=bA P call o b:=by have g:=fun x j=>C1 (x:=x) h j;have k:=fun xs j=>Te (xs:=xs) h j;have m:=fun ps j=>QD (ps:=ps) h j;obtain⟨a,op,v,w,q,u⟩:=o;unfold bA;dsimp only at g k m⊢;congr 1;cases op<;>simp only[Op.operands]at g k m<;>dsimp only;(case build t ps=>rw[m ps fun p s=>by simp;exact⟨p.1,by simpa using s⟩]);(case buildSlice t n ps=>rw[m ps fun p s=>by simp;exact⟨p.1,by simpa using s⟩]);(case makeFunc fn first captured=>rw[k first fun x j=>by simp[j],k captured fun x j=>by simp[j]]);(case makeMap t r=>cases iH P t with|none=>rfl|some p=>{cases r with|none=>rfl|some x=>{dsimp only;rw[g x J]}});(case slice t x lo hi d=>rw[g x J];have e1:lo.map (bo tm)=lo.map (bo b):=by{cases lo with|none=>rfl|some l=>{simp only[wo];rw[g l J]}};have e2:hi.map (bo tm)=hi.map (bo b):=by{cases hi with|none=>rfl|some l=>{simp only[wo];rw[g l J]}};have e3:d.map (bo tm)=d.map (bo b):=by{cases d with|none=>rfl|some l=>{simp only[wo];rw[g l J]}};rw[e1,e2,e3]);(case call c=>have e1:=k c.args fun x j=>by{simp[Call.operands,j]};rw[e1];cases A:c.callee with|value f=>{dsimp only;rw[g f (by simp[Call.operands,A])]}|_=>{rfl});(case pick c x y=>rw[g c J,g x J,g y J]);(case move x=>rw[g x J]);(case assign x=>rw[g x J]);(case box e x=>rw[g x J]);(case load e x=>rw[g x J]);(case store e x y=>rw[g x J,g y J]);(case nilCheck x=>rw[g x J]);(case binOp op t x y t2=>rw[g x J,g y J]);(case unOp op t x=>rw[g x J]);(case convert t1 t2 x=>rw[g x J]);(case makeInterface t x=>rw[g x J]);(case typeAssert x t1 t2 ok=>rw[g x J]);(case makeSlice t x y=>rw[g x J,g y J]);(case fieldAddr t x i=>rw[g x J]);(case field t x i=>rw[g x J]);(case indexAddr t x i=>rw[g x J,g i J]);(case index t x i=>rw[g x J,g i J]);(case lookup t x y ok=>rw[g x J,g y J]);(case mapUpdate t x y z=>rw[g x J,g y J,g z J]);(case extract x i=>rw[g x J])
def aaY{call:FuncId->ahG->AX bn}(h:tQ ops o tm b):cP P call ops o tm=cP P call ops o b:=by unfold cP;rw[Mw h,aaZ h]
end
end
section
open AX
def Av(H:AH)(s a b:Nat):Prop:=(∃x,H b=some x)\/(s<=b/\b<a)
def aa2(m:AX α):Prop:=∀H s o,m H s=some o->∀b,b∈o.D->Av H s o.s b
structure LS{α:Type}(m:AX α):Prop where
 loc:ai m
 seen:aa2 m
section
variable{P:c7}{α e:Type}
def x5{m:AX α}{H:AH}{o:bE α}(lm:tO m H s o)(sm:∀b,b∈o.D->Av H s o.s b){p:bE e}(d:∀b,b∈p.D->Av o.H o.s p.s b)(f:o.s<=p.s):∀b,b∈o.D++p.D->Av H s p.s b:=by intro b c;have u:=lm.up;rcases my.1 c with h|h;{rcases sm b h with k|k;{exact .inl k};{exact .inr ⟨k.1,V⟩}};{rcases d b h with⟨x,k⟩|k;{by_cases a:o.wr s b;{rcases a with a|a;{rcases sm b (lm.sub b a)with k|k;{exact .inl k};{exact .inr ⟨k.1,V⟩}};{exact .inr ⟨a.1,V⟩}};{rw[lm.keep b a]at k;exact .inl ⟨x,k⟩}};{exact .inr ⟨V,k.2⟩}}
def LS.ret(a:α):LS (AX.ret a):=⟨ai.ret a,fun H s o h b c=>by simp[AX.ret]at h;subst h;cases c⟩
def LS.fail:LS (AX.fail:AX α):=⟨ai.fail,fun H s o h=>by cases h⟩
def LS.ofOpt{x:Option α}:LS (AX.ofOpt x):=by cases x with|none=>exact⟨ai.ofOpt,fun H s o h=>by simp[AX.ofOpt]at h⟩|some a=>{exact LS.ret a}
def LS.get(b:Nat):LS (AX.get b):=⟨ai.get b,fun H s o h k c=>by
 unfold AX.get at h;cases a:H b with
 |none=>rw[a]at h;cases h
 |some x=>
  rw[a]at h;simp only[el]at h;subst h;simp at c;subst c;exact .inl ⟨x,a⟩⟩
def LS.new(x:AB):LS (AX.new x):=⟨ai.new x,fun H s o h b a=>by simp[AX.new]at h;subst h;cases a⟩
def LS.bind{m:AX α}{f:α->AX e}(d:LS m)(c:∀a,LS (f a)):LS (AX.bind m f):=
 ⟨ai.bind d.loc fun a=>(c a).loc,fun H s q h b j=>by
  obtain⟨o,p,g,i,rfl⟩:=bind_some h;exact x5 (d.loc _ _ _ g) (d.seen _ _ _ g) ((c _).seen _ _ _ i) ((c _).loc _ _ _ i).up b j⟩
def LS.ite[Decidable c]{m a:AX α}(h:LS m)(b:LS a):LS (if c then m else a):=by split<;>assumption
def LS.setAt{j:Type}{get:AX j}{b:Nat}(u:LS get)(z:∀H s o,get H s=some o->(∃x,H b=some x)/\o.H=H/\o.s=s){c:j->Prop}[∀x,Decidable (c x)]{g:j->Option AB}{k:j->AX e}(i:∀x,LS (k x)):LS (AX.bind get fun x=>if c x then AX.bind (AX.set b (g x)) (fun _=>k x)else AX.fail):=by refine⟨ai.bind u.loc fun x=>ai.ite (ai.bind (ai.set _ _) fun _=>(i x).loc) ai.fail,fun H s q h w t=>?_⟩;obtain⟨o,p,l,f,rfl⟩:=bind_some h;obtain⟨⟨x,A⟩,e1,e2⟩:=z _ _ _ l;split at f;{obtain⟨B,C,n,v,rfl⟩:=bind_some f;have r:B=⟨(),aG o.H b (g o.val),o.s,[b],[b]⟩:=by{simp[AX.set]at n;exact n.symm};have y:ai (AX.bind (AX.set b (g o.val)) (fun _=>k o.val)):=ai.bind (ai.set _ _) fun _=>(i _).loc;refine x5 (u.loc _ _ _ l) (u.seen _ _ _ l) ?_ (y _ _ _ f).up w t;intro d a;refine x5 (m:=AX.set b (g o.val)) ((ai.set b (g o.val)) _ _ _ n) ?_ ((i _).seen _ _ _ v) ((i _).loc _ _ _ v).up d a;intro d a;rw[r]at a;simp at a;subst a;rw[e1];exact .inl ⟨x,A⟩};{cases f}
def LS.qP{b:Nat}{c:bj×bW×Bool->Prop}[∀x,Decidable (c x)]{g:bj×bW×Bool->Option AB}{k:bj×bW×Bool->AX e}(i:∀x,LS (k x)):LS (AX.bind (AX.cells b) fun x=>if c x then AX.bind (AX.set b (g x)) (fun _=>k x)else AX.fail):=by refine LS.setAt (LS.bind (LS.get b) fun x=>by cases x;exact LS.ret _;exact LS.fail) (fun H s o h=>?_) i;unfold AX.cells at h;obtain⟨p,q,a,d,rfl⟩:=bind_some h;unfold AX.get at a;cases f:H b with|none=>{rw[f]at a;cases a}|some x=>{rw[f]at a;simp only[el]at a;subst a;cases x with|cells cs T wr=>{simp[AX.ret]at d;subst d;exact⟨⟨_,rfl⟩,rfl,rfl⟩}|map kv=>{cases d}}
def LS.FC{b:Nat}{c:List (bn×bn)->Prop}[∀x,Decidable (c x)]{g:List (bn×bn)->Option AB}{k:List (bn×bn)->AX e}(i:∀x,LS (k x)):LS (AX.bind (AX.entries b) fun x=>if c x then AX.bind (AX.set b (g x)) (fun _=>k x)else AX.fail):=by refine LS.setAt (LS.bind (LS.get b) fun x=>by cases x;exact LS.fail;exact LS.ret _) (fun H s o h=>?_) i;unfold AX.entries at h;obtain⟨p,q,a,d,rfl⟩:=bind_some h;unfold AX.get at a;cases f:H b with|none=>{rw[f]at a;cases a}|some x=>{rw[f]at a;simp only[el]at a;subst a;cases x with|cells cs T wr=>{cases d}|map kv=>{simp[AX.ret]at d;subst d;exact⟨⟨_,rfl⟩,rfl,rfl⟩}}
def jY(b:Nat):LS (AX.cells b):=LS.bind (LS.get b) fun x=>by cases x;exact LS.ret _;exact LS.fail
def yY{b:Nat}:LS (AX.entries b):=LS.bind (LS.get b) fun x=>by cases x;exact LS.fail;exact LS.ret _
def Ik{b o:Nat}:LS (AX.readN b o n):=LS.bind (jY b) fun x=>LS.ite (LS.ret _) LS.fail
def Im:LS (AX.newC T cs):=LS.ite (LS.bind (LS.new _) fun b=>LS.ret _) LS.fail
def Iq:LS (js P T v):=by unfold js;split;{split;{split;{exact LS.bind (Ik) fun _=>LS.ret _};{exact LS.fail}};{exact LS.bind (jY _) fun _=>LS.ofOpt};{exact LS.fail}};{exact LS.fail}
def TH{p:bn}:LS (pC P T p v):=by unfold pC;split;{exact LS.ite (LS.qP fun _=>LS.ret _) LS.fail};{exact LS.fail}
def TZ{a:Nat}:LS (mH P T a ps):=by unfold mH;split;{split;{refine LS.ite ?_ LS.fail;split;{exact LS.ite (LS.bind (LS.new _) fun _=>LS.ret _) LS.fail};{exact LS.fail}};{exact LS.fail}};{exact LS.fail}
def TL:LS (nB v):=by unfold nB;split;{exact LS.ret _};{exact LS.ret _};{exact LS.fail}
def uE{m:Sem bn}:LS (cZ P m):=by unfold cZ;split;{exact LS.ite (LS.ret _) LS.fail};{exact LS.fail}
def T6:LS (bZ P op T f g x y):=by unfold bZ;refine LS.ite (uE) ?_;split;{exact LS.ite (LS.ret _) LS.fail};{exact LS.ite (LS.ret _) LS.fail};{exact LS.ite (LS.ret _) LS.fail};{exact LS.ite (LS.ret _) LS.fail};{exact LS.fail}
def TN{c:bn}:LS (ot P T l c):=by unfold ot;split;{split;{split;{exact LS.ite (LS.ite (LS.bind (LS.new _) fun _=>LS.ret _) LS.fail) LS.fail};{exact LS.fail}};{exact LS.fail}};{exact LS.fail}
def TI:LS (ij P T x lo hi d):=by unfold ij;split;{exact LS.fail};{split;{split;{exact LS.ite (LS.ret _) LS.fail};{exact LS.fail}};{split;{split;{refine LS.ite ?_ LS.fail;split;{exact LS.ret _};{exact LS.bind (jY _) fun _=>LS.ite (LS.ret _) LS.fail};{exact LS.fail}};{exact LS.fail}};{exact LS.fail}};{exact LS.fail}}
def TT:LS (nD P T x i):=by unfold nD;split;{split;{exact LS.ite LS.fail (LS.ret _)};{exact LS.fail}};{exact LS.fail}
def TU:LS (lI P T x i):=by unfold lI;split;{split;{exact LS.ofOpt};{exact LS.fail}};{exact LS.fail}
def TQ{i:bn}:LS (eS P T x i):=by unfold eS;split;{split;{split;{exact LS.ite (LS.ret _) LS.fail};{exact LS.fail}};{split;{exact LS.ite (LS.ret _) LS.fail};{exact LS.fail}};{exact LS.fail}};{exact LS.fail}
def TR{i:bn}:LS (ee P T x i):=by unfold ee;split;{split;{split;{exact LS.ite (LS.ofOpt) LS.fail};{exact LS.fail}};{exact LS.fail}};{exact uE};{exact LS.fail}
def TO{m:bn}{ok:Bool}:LS (nC P T m k ok):=by unfold nC;split;{refine LS.ite ?_ LS.fail;split;{split;{exact LS.ret _};{exact LS.fail}};{refine LS.bind (yY) fun _=>LS.ite ?_ LS.fail;split;{exact LS.ret _};{split;{exact LS.ret _};{exact LS.fail}}};{exact LS.fail}};{exact LS.fail}
def TM{m:bn}:LS (pD P T m k v):=by unfold pD;split;{refine LS.ite ?_ LS.fail;split;{exact LS.FC fun _=>LS.ret _};{exact LS.fail}};{exact LS.fail}
def TV{m:bn}:LS (pE P T m k):=by unfold pE;split;{refine LS.ite ?_ LS.fail;split;{exact LS.FC fun _=>LS.ret _};{exact LS.fail}};{exact LS.fail}
def TP:LS (fj P T v):=by unfold fj;split;{exact LS.ret _};{exact LS.ret _};{exact LS.ret _};{exact LS.ret _};{exact LS.bind (yY) fun _=>LS.ret _};{exact LS.fail}
def Ii{size:Nat}:LS (kK size x):=by unfold kK;split;{exact LS.ret _};{exact LS.ite (LS.ret _) (Ik)};{exact LS.fail}
def Ck:LS (j9 P T T2 x y):=by unfold j9;split;{split;{refine LS.ite LS.fail (LS.ite (LS.ret _) (LS.ite (LS.bind (Ii) fun _=>?_) LS.fail));split;{exact LS.ite (LS.bind (LS.new _) fun _=>LS.ret _) LS.fail};{exact LS.qP fun _=>LS.bind (LS.new _) fun _=>LS.ret _};{exact LS.fail}};{exact LS.fail}};{exact LS.fail}
def TW:LS (pF P T x y):=by unfold pF;split;{split;{refine LS.ite (LS.ret _) (LS.ite (LS.bind (Ii) fun _=>?_) LS.fail);split;{exact LS.qP fun _=>LS.ret _};{exact LS.fail}};{exact LS.fail}};{exact LS.fail}
def TX:LS (pG P T x):=by unfold pG;split;{split;{refine LS.ite (LS.ret _) ?_;split;{exact LS.qP fun _=>LS.ret _};{exact LS.fail}};{exact LS.fail}};{exact LS.fail}
def TY{b:Builtin}:LS (gD P b a vs):=by unfold gD;split;{exact TP};{exact Ck};{exact TW};{exact TV};{exact TX};{exact LS.ite (uE) LS.fail};{exact LS.ite (uE) LS.fail};{exact LS.fail}
def T4:LS (ou P T v):=by unfold ou;split;{split;{exact LS.fail};{exact LS.ret _};{exact LS.fail}};{exact LS.fail}
def T7{ok:Bool}:LS (mI P v T ok):=by unfold mI;split;{split;{exact LS.fail};{refine LS.ite (LS.ite (LS.ret _) ?_) LS.fail;split;{exact LS.ret _};{exact LS.fail}};{exact LS.fail}};{exact LS.fail}
def TK{call:FuncId->ahG->AX bn}(b:∀f a,LS (call f a))(o:Oper)(tm:ahG):LS (bA P call o tm):=by unfold bA;refine LS.ite ?_ LS.fail;split;{exact LS.ret _};{exact LS.ret _};{split;{exact LS.ret _};{exact LS.fail}};{split;{exact Im};{exact LS.fail}};{exact Im};{exact LS.ite (LS.ofOpt) LS.fail};{exact TZ};{exact Iq};{exact TH};{exact TL};{exact T6};{exact LS.ite (uE) LS.fail};{exact LS.ite (uE) LS.fail};{exact T4};{exact T7};{split;{exact LS.ret _};{exact LS.fail}};{split;{exact LS.bind (LS.new _) fun _=>LS.ret _};{split;{exact LS.bind (LS.new _) fun _=>LS.ret _};{exact LS.fail}};{exact LS.fail}};{exact TN};{exact TI};{exact TT};{exact TU};{exact TQ};{exact TR};{exact TO};{exact TM};{split;{exact LS.ofOpt};{exact LS.fail}};{split;{split;{exact LS.ite (b _ _) LS.fail};{exact LS.fail}};{exact TY};{exact LS.fail}};{exact LS.fail}
def yZ{call:FuncId->ahG->AX bn}(b:∀f a,LS (call f a))(ops:Array Oper)(o:Oper)(tm:ahG):LS (cP P call ops o tm):=LS.ite (TK b o tm) (LS.ret _)
def Ch{call:FuncId->ahG->AX bn}(d:∀f c,LS (call f c))(ops:Array Oper):∀(l:List Oper)(tm:ahG),LS (dy P call ops l tm)
 |[],tm=>LS.ret _
 |o::r,tm=>⟨wA (fun f i=>(d f i).loc) ops (o::r) tm,by
  intro H s q h;unfold dy at h;cases a:j8 P call ops o tm H s with
  |none=>rw[a]at h;cases h
  |some x=>
   rw[a]at h;dsimp only at h;cases b:dy P call ops r x.val x.H x.s with
   |none=>rw[b]at h;cases h
   |some y=>
    rw[b]at h;simp only[el]at h;subst h;have e:LS (j8 P call ops o tm):=LS.bind (yZ d ops o tm) fun _=>LS.ret _;have g:=Ch d ops r x.val;exact x5 (e.loc H s x a) (e.seen H s x a) (g.seen _ _ _ b) (g.loc _ _ _ b).up⟩
def TJ{call:FuncId->ahG->AX bn}(c:∀f b,LS (call f b))(ops:Array Oper)(a:Bool)(tm:ahG):LS (mG P call ops a tm):=by unfold mG;exact LS.ite (LS.bind (Ch c ops _ _) fun _=>LS.ite (LS.ret _) LS.fail) (LS.bind (Ch c ops _ _) fun _=>LS.ret _)
def Ip{body:ahG->AX (gi×ahG)}(a:∀tm,LS (body tm)):∀n tm,LS (jb body n tm)
 |0,tm=>LS.fail
 |n+1,tm=>LS.bind (a tm) fun x=>by
  split
  ·exact Ip a n _
  ·exact LS.ret _
  ·exact LS.ret _
def rh{call:FuncId->ahG->AX bn}(d:∀f e,LS (call f e)):∀(c:Code)(tm:ahG),LS (bh P call c tm)
 |.skip,tm=>by unfold bh;exact LS.ret _
 |.label _,tm=>by unfold bh;exact LS.ret _
 |.region _ ops draw,tm=>by unfold bh;exact LS.bind (TJ d ops draw tm) fun _=>LS.ret _
 |.seq a b,tm=>by
  unfold bh;refine LS.bind (rh d a tm) fun x=>?_;split
  ·exact rh d b _
  ·exact LS.ret _
  ·exact LS.ret _
 |.cond c a b,tm=>by
  unfold bh;refine LS.ite LS.fail ?_;split
  ·exact LS.ite (rh d a tm) (rh d b tm)
  ·exact LS.fail
 |.block id c,tm=>by
  unfold bh;refine LS.bind (rh d c tm) fun x=>?_;split
  ·exact LS.ret _
  ·exact LS.ite (LS.ret _) (LS.ret _)
  ·exact LS.ret _
 |.loop c,tm=>by unfold bh;exact Ip (rh d c) _ _
 |.scope c,tm=>by unfold bh;exact rh d c tm
 |.exit id,tm=>by unfold bh;exact LS.ret _
 |.ret,tm=>by unfold bh;exact LS.ret _
 |.rangeFunc ..,tm=>by unfold bh;exact LS.fail
 |.goto _,tm=>by unfold bh;exact LS.fail
 |.refuse _,tm=>by unfold bh;exact LS.fail
def Ci(tm:ahG):∀l,LS (eQ P tm l)
 |[]=>LS.ret _
 |.tmp t::r=>LS.bind (Ci tm r) fun _=>LS.ret _
 |.cell a t::r=>LS.bind (Iq) fun _=>LS.bind (Ci tm r) fun _=>LS.ret _
def T5{call:FuncId->ahG->AX bn}(b:∀f a,LS (call f a)){fn:Func}:LS (rQ P call fn args):=by unfold rQ;split;{refine LS.bind (rh b _ _) fun x=>?_;split;{exact LS.fail};{exact LS.bind (Ci _ _) fun _=>LS.ret _}};{exact LS.fail}
def Cj{ext:FuncId->Option (ahG->AX bn)}(b:∀f g a,ext f=some g->LS (g a)):∀n f args,LS (cE P ext n f args)
 |0,f,args=>LS.fail
 |n+1,f,args=>by
  unfold cE;split
  ·rename_i g c;exact b f g args c
  ·split
   ·exact T5 (Cj b n)
   ·exact LS.fail
end
def Bd(H:AH)(s:Nat):Prop:=∀k,s<=k->H k=none
def LS.bd{α:Type}{m:AX α}(h:LS m){H:AH}{o:bE α}(e:m H s=some o)(f:Bd H s):s<=o.s/\Bd o.H o.s/\(∀b,b∈o.D->b<o.s)/\∀b,b∈o.W->b<o.s:=by have l:=h.loc _ _ _ e;have a:∀b,b∈o.D->b<o.s:=fun b c=>by{have u:=l.up;rcases h.seen _ _ _ e b c with⟨x,k⟩|k;{by_cases g:s<=b;{rw[f b g]at k;cases k};{omega}};{exact k.2}};refine⟨l.up,fun k i=>?_,a,fun b c=>a b (l.sub b c)⟩;have u:=l.up;rw[l.keep k];{exact f k V};{rintro(d|d);{have:=a k (l.sub k d);omega};{omega}}
end
section
open AX
def eO(P:c7)(T:bW)(a:Nat):Option (bW×Nat×bj):=
 match dj P T with
 |some e=>match aW P e,bF P e with
  |some size,some z=>if a*size<=2^24/\a<=2^24/\(eo z (a*size)).all eJ=true then some (e,size,eo z (a*size))else none
  |_,_=>none
 |none=>none
def cU(t:bW):Sem (Array (Nat×Nat)×Option Nat×ahG):=do
 let zero:=(<-zeroValue t).cells
 match<-underlying t with
 |.struct fields=>
  let places <-fields.mapM fun f=>do pure (f.offset,<-sizeOf f.type)
  pure (places,none,zero)
 |.array _ elem=>
  let size <-sizeOf elem
  pure (#[],some size,zero)
 |_=>stuck "no struct and no array"
def rO(a:Array (Nat×Nat))(b:Option Nat)(i:Nat):Option (Nat×Nat):=
 match b with
 |none=>a[i]?
 |some k=>some (i*k,k)
def rP(P:c7)(T:bW):Option (bW×Nat×Nat):=
 match dj P T with
 |some e=>match aW P e,bF P e,qx P e with
  |some size,some z,some by_=>if z.cells.size=size/\¬sW e=true then some (e,size,by_)else none
  |_,_,_=>none
 |none=>none
end
end Go.Proofs.YtlkceignfhnpoaaGreatDoor
