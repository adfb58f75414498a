/-
  Part of a proof, written small.
-/
import Derived.Test.YtlkceignfhnpoaaGreatDoorS1SASLSOSY7
set_option linter.all false
namespace Go.Proofs.YtlkceignfhnpoaaGreatDoor
open Go AX
variable{H C:AH}{F G p q:Nat->Prop}{s i d n m s' o N E:Nat}{W f:Wd}{T T2:bW}{P R A:List aa3}{v v' x:bn}{L:List Nat}{rows:List (bj)}{α:Type}{zr:bj}{S:List FuncId}
@[simp] theorem acK{P:c7}{d:bn}:gD P .copy #[T,T2] #[d,x]=pF P T d x:=TC rfl rfl
@[simp] theorem acJ{P:c7}{d:bn}:gD P .delete #[T,T2] #[d,x]=pE P T d x:=TC rfl rfl
@[simp] theorem acL{P:c7}:gD P .clear #[T] #[x]=pG P T x:=TC rfl rfl
def AK{P:c7}{b:Nat}{kt:bW×bW}{Q:bn->AH->Nat->Prop}(h:iH P T=some kt):Wp F G (fj P T (.map (some b))) H s Q=(match H b with|some (.map kv)=>F b/\Q (.int .i64 (kv.length:Nat)) H s|_=>False):=by unfold iH at h;split at h;{rename_i k e a;unfold fj;rw[a];dsimp only;rw[bH,tU];cases H b with|none=>rfl|some x=>{cases x with|cells cs T wr=>rfl|map kv=>{simp only[acr]}}};{cases h}
def Holds.each:∀{P:List aa3}{H:AH}{D:Nat->Prop},Holds P H D->∀o,o∈P->∃f,o.X.p o.k H f/\∀b,f b->D b
 |[],H,D,_,o,e=>by cases e
 |q::r,H,D,⟨D1,D2,a,b,c,d⟩,o,e=>by
  rcases pk.1 e with rfl|e
  ·exact⟨D1,c,fun x g=>(b x).2 (.inl g)⟩
  ·obtain⟨f,h,i⟩:=Holds.each d o e
   exact⟨f,h,fun x g=>(b x).2 (.inr (i x g))⟩
section
variable{F G:Nat -> Prop}{H:AH}{s b:Nat}{W:Wd}{P R:List aa3}{T:bW}{n:Nat}{v:bn}{rows:List (bj)}{cs:bj}
def Fz.opens{A:α->bn->List aa3}{c:α->Prop}(f:Fz W v (kH A c)):∃a,c a/\∀o,o∈A a v->Fz W o.k o.X:=by obtain⟨D,⟨a,g,h⟩,k⟩:=f;refine⟨a,g,fun o i=>?_⟩;obtain⟨b,d,e⟩:=h.each o i;exact⟨b,d,fun x j=>k x (e x j)⟩
def St.cw(S:St F G H s W P)(f:Fz W (aa b) (aE cs T)):H b=some (.cells cs T true)/\F b/\b<s:=by refine S.qn f ?_;rintro D⟨e,a,c,d⟩q;cases a;have:=q b ((d b).2 rfl);exact⟨c,this.2,this.1⟩
def St.tx{a:List (bn×bn)}(S:St F G H s W P)(f:Fz W (.map (some b)) (iu a)):H b=some (.map a)/\F b/\b<s:=by refine S.qn f ?_;rintro D⟨g,c,d,e⟩q;cases c;have:=q b ((e b).2 rfl);exact⟨d,this.2,this.1⟩
def Fz.len(f:Fz W v (be T n rows)):∃a,v=.slice a rows.length rows.length/\(a=none->rows=[]):=by obtain⟨D,⟨L,h,_⟩,_⟩:=f;exact h.len
def St.mo{a:Option Addr}{l:Nat}(S:St F G H s W P)(f:Fz W (.slice a l m) (be T n rows))(hi:i<rows.length):∃d o cs,a=some ⟨d,o,none⟩/\H d=some (.cells cs T true)/\F d/\d<s/\o+i*n+n<=cs.length/\(cs.drop (o+i*n)).take n=rows[i]:=by refine S.qn f ?_;rintro D⟨L,h,k⟩q;obtain⟨d,o,cs,b,c,e,g,j⟩:=h.at hi;have:=q d ((k d).2 (by rw[c];simp));cases b;exact⟨d,o,cs,rfl,e,this.2,this.1,g,j⟩
def St.Jr{A:AH->Prop}(S:St F G H s W P)(h:∀C,St F G C s W P->A C):A H:=h H S
def c8.from(h:c8 H T n (.slice (some ⟨d,o,none⟩) N m) rows L)(hi:i<=rows.length):c8 H T n (.slice (some ⟨d,o+i*n,none⟩) (N-i) (N-i)) (rows.drop i) L:=by obtain⟨c,⟨a,-,-⟩|⟨E,s,cs,a,f,j,q,g⟩⟩:=h;{cases a};{cases a;have b:rows.length*n=i*n+(rows.length-i)*n:=by{rw[<-Nat.add_mul];congr 1;omega};refine⟨fun r b=>c r (adh b),.inr ⟨d,o+i*n,cs,J,f,j,by simp;omega,?_⟩⟩;have e:rows.flatten=(rows.take i).flatten++(rows.drop i).flatten:=by{rw[<-List.flatten_append,X2]};have l:(rows.take i).flatten.length=i*n:=by{rw[j6 (k:=n) fun r p=>c r (acv p),nl,aht hi]};have e2:=congrArg (List.drop (i*n)) g;rw[e,List.drop_left' l,afS,adV]at e2;rw[vh,<-e2];congr 1;omega}
def St.from(S:St F G H s W (⟨.slice (some ⟨d,o,none⟩) N m,be T n rows⟩::R))(hi:i<=rows.length):St F G H s W (⟨.slice (some ⟨d,o+i*n,none⟩) (N-i) (N-i),be T n (rows.drop i)⟩::R):=by refine S.as ?_;rintro D⟨L,h,a⟩;exact⟨L,h.from hi,a⟩
end
section
variable{A:c7}{F G:Nat -> Prop}{H:AH}{s d o N m:Nat}{W:Wd}{R:List aa3}{T e:bW}{n:Nat}{Q:bn -> AH -> Nat -> Prop}{rows rs:List (bj)}{a:Option Addr}
def St.copy(S:St F G H s W (⟨.slice (some ⟨d,o,none⟩) N N,be e n rows⟩::⟨.slice a m m,be e n rs⟩::R))(Y:dj A T=some e)(z:aW A e=some n)(l:rs.length<=rows.length) (P:∀C,St F G C s W (⟨.slice (some ⟨d,o,none⟩) N N,be e n (rs++rows.drop rs.length)⟩::⟨.slice a m m,be e n rs⟩::R)->Q (.int .i64 rs.length) C s):Wp F G (pF A T (.slice (some ⟨d,o,none⟩) N N) (.slice a m m)) H s Q:=by obtain⟨a1,e1⟩:=S.cK;obtain⟨a2,e2⟩:=(S.drop).cK;cases e1;cases e2;unfold pF;simp only[Y,z];rw[eW];split;{rename_i M;have v:rs=[]:=by{rcases M with h|h;{exact HV.1 h};{exact HV.1 V}};subst v;rw[acr];have:=P H (by simpa using S);simpa using this};{rename_i M;rw[bH];have u:∃L,c8 H e n (.slice a rs.length rs.length) rs L/\∀b,b∈L->F b:=by{refine S.drop.ask ?_;rintro D⟨L,h,O⟩q;exact⟨L,h,fun b hb=>(q b ((O b).2 hb)).2.1⟩};obtain⟨L2,p,x⟩:=u;refine p.cells x ?_;have hn:rs.flatten.length=rs.length*n:=j6 p.1;have t:0<rows.length:=V;obtain⟨E,o',cs,k,B,K,X,ld,ho,-⟩:=S.row (i:=0) t;cases k;have y:o+rows.length*n<=cs.length:=by{refine S.ask ?_;rintro D⟨L,h,O⟩q;obtain⟨-,⟨k,-,-⟩|⟨g,j,c,k,-,r,w,-⟩⟩:=h;{cases k};{cases k;rw[B]at r;cases r;exact w}};have f:rs.length*n<=rows.length*n:=adg _ l;simp only[bH,fV,B,eW,nF,acr,fM];refine⟨K,?_⟩;rw[eh ⟨trivial,by rw[hn];omega⟩];refine⟨K,X,P _ ?_⟩;have:=S.ug 0 rs (by simpa using l) p.1 B;simpa using this}
end
structure gE(rows:List (bj))(a:Nat)(c:List (bj))(most:Nat):Prop where
 few:c.length<=rows.length
 cap:rows.length<=most
 most:most<=4096
 pos:a<rows.length\/(a=0/\rows=[])
 get:∀i,i<c.length->rows[(a+i)%rows.length]? =c[i]?
def xb(Tr T:bW)(k most:Nat)(c:List (bj)):acu:=kH (α:=bn×List (bj)×Nat) (fun q v=>[⟨v,aE [q.1,.int .i64 (q.2.2:Nat),.int .i64 (c.length:Nat),.int .i64 (most:Nat)] Tr⟩,⟨q.1,be T k q.2.1⟩]) (fun q=>gE q.2.1 q.2.2 c most)
section
variable{F G:Nat -> Prop}{H:AH}{s b k most:Nat}{W:Wd}{R:List aa3}{T Tr:bW}{c rows:List (bj)}{a:Nat}
def St.iP(S:St F G H s W (⟨aa b,xb Tr T k most c⟩::R)):∃v rows a,gE rows a c most/\St F G H s W (⟨aa b,aE [v,.int .i64 (a:Nat),.int .i64 (c.length:Nat),.int .i64 (most:Nat)] Tr⟩::⟨v,be T k rows⟩::R):=by obtain⟨⟨v,rows,a⟩,h,S⟩:=S.opens;exact⟨v,rows,a,h,S⟩
def St.nO(h:gE rows a c most)(S:St F G H s W (⟨aa b,aE [v,.int .i64 (a:Nat),.int .i64 (c.length:Nat),.int .i64 (most:Nat)] Tr⟩::⟨v,be T k rows⟩::R)):St F G H s W (⟨aa b,xb Tr T k most c⟩::R):=S.nz (v,rows,a) h
def Fz.ring(f:Fz W (aa b) (xb Tr T k most c)):∃v rows a,gE rows a c most/\Fz W (aa b) (aE [v,.int .i64 (a:Nat),.int .i64 (c.length:Nat),.int .i64 (most:Nat)] Tr)/\Fz W v (be T k rows):=by obtain⟨⟨v,rows,a⟩,h,d⟩:=f.opens;exact⟨v,rows,a,h,d ⟨aa b,_⟩ (List.Mem.head _),d ⟨v,_⟩ (List.Mem.tail _ (List.Mem.head _))⟩
end
section
variable{rows:List (bj)}{a most:Nat}{c:List (bj)}{x:bj}
def gE.item(h:gE rows a c most)(hi:i<c.length):∃e:(a+i)%rows.length<rows.length,rows[(a+i)%rows.length]=c[i]:=by have d:0<rows.length:=by{have:=h.few;omega};have b:=adP (a+i) d;refine⟨b,?_⟩;have:=h.get i hi;rw[ei b,ei hi]at this;exact Option.some.inj this
def gE.take(h:gE rows a (x::c) most)(z:bj):gE (rows.set a z) ((a+1)%rows.length) c most:=by have g:=h.few;simp at g;have d:0<rows.length:=V;have j:a<rows.length:=by{rcases h.pos with h|h;{exact h};{rw[h.2]at d;simp at d}};refine⟨by simp;omega,by simp;exact h.cap,h.most,.inl (by simp;exact adP _ d),fun i hi=>?_⟩;have f:=h.get (i+1) (by simp;omega);rw[ad8,Nat.mod_add_mod,(V:a+1+i=a+(i+1))];rw[SS]at f;rw[<-f,adG];intro e;have p:i+1<rows.length:=V;rcases HK (a+(i+1)) rows.length with b|b;{rw[x3 b]at e;omega};{rw[afu b,x3 V]at e;omega}
def gE.put(h:gE rows a c most)(k:c.length<rows.length)(x:bj):gE (rows.set ((a+c.length)%rows.length) x) a (c++[x]) most:=by have f:0<rows.length:=V;have g:a<rows.length:=by{rcases h.pos with h|h;{exact h};{rw[h.2]at f;simp at f}};refine⟨by simp;omega,by simp;exact h.cap,h.most,.inl (by simp;exact g),fun i hi=>?_⟩;rw[ad8];simp at hi;by_cases j:i=c.length;{subst j;rw[adl (adP _ f)];simp};{rw[adG,h.get i V,z6 V];intro e;have p:i<c.length:=V;rcases HK (a+c.length) rows.length with b|b;{rw[x3 b,x3 V]at e;omega};{rw[afu b,x3 (by omega:a+c.length-rows.length<rows.length)]at e;rcases HK (a+i) rows.length with d|d;{rw[x3 d]at e;omega};{rw[afu d,x3 V]at e;omega}}}
def gE.grow(h:gE rows a c most)(z:bj)(e:c.length<=n)(d:n<=most)(f:0<n):gE (c++List.replicate (n-c.length) z) 0 c most:=by have b:(c++List.replicate (n-c.length) z).length=n:=by{simp;omega};refine⟨by rw[b];exact e,by rw[b];exact d,h.most,.inl (by rw[b];exact f),fun i hi=>?_⟩;rw[b,ahH,x3 V,z6 hi]
def gE.nil(most:Nat)(a:most<=4096):gE [] 0 [] most:=⟨Z,qd _,a,.inr ⟨rfl,rfl⟩,fun i hi=>by simp at hi⟩
end
def D9{z:bn}(a:z.cells.toList=zr)(c:0<zr.length)(k:Nat):(Builtin.zeroCells z.cells k).toList=(List.replicate k zr).flatten:=by by_cases b:k=0;{subst b;simp[Builtin.zeroCells]};{rw[<-D8 a c k];have q:z.cells.size=zr.length:=by{rw[<-a];simp};have p:¬k*zr.length=0:=by{intro h;rcases Nat.mul_eq_zero.1 h with h|h<;>omega};unfold eo Builtin.zeroCells;simp only[p,RP,q]}
section
variable{A:c7}{F G:Nat -> Prop}{H:AH}{s d o N m:Nat}{W:Wd}{R:List aa3}{T e:bW}{n y:Nat}{Q:bn -> AH -> Nat -> Prop}{rows news:List (bj)}{v w:bn}
def St.An(S:St F G H s W (⟨v,be e n rows⟩::R))(f:Fz W w (be e n news))(hi:rP A T=some (e,n,y))(g:(rows.length+news.length)*y<=140737488355328/\rows.length+news.length<=9223372036854775807) (hq:∀C s' a l m,St F G C s' W (⟨.slice a l m,be e n (rows++news)⟩::R)->Q (.slice a l m) C s'):Wp F G (j9 A T T v w) H s Q:=by
 obtain⟨D,⟨D1,o,a,z,⟨L,hL,t⟩,d⟩,q⟩:=S.hold;have own:∀b,b∈L->b<s/\F b/\G b:=fun b g=>by{have:=q b ((z b).2 (.inl ((t b).2 g)));exact⟨this.1,this.2.1,this.2.2.1⟩};have r:∀b,b∈L->¬W.Z b:=fun b g=>(q b ((z b).2 (.inl ((t b).2 g)))).2.2.2;have N:∃M,c8 H e n w news M/\∀b,b∈M->F b:=by{refine S.qn f ?_;rintro D⟨M,h,hD⟩q;exact⟨M,h,fun b g=>(q b ((hD b).2 g)).2⟩};obtain⟨M,N,c⟩:=N;refine cM (Ck) S.bd ?_;refine c8.append hL N hi (fun b g=>(own b g).2) c (fun b g=>(own b g).1) g fun C s' v' B f h X hv hu u=>?_
 suffices S':St F G C s' W (⟨v',be e n (rows++news)⟩::R)from by
  obtain⟨a,l,m,rfl⟩:=S'.rsl;exact hq C s' a l m S'
 have p:∀b,o b->b<s/\b∉L:=fun b g=>⟨(q b ((z b).2 (.inr g))).1,fun O=>a b ((t b).2 O) g⟩;have k:∀b,o b->C b=H b:=fun b g=>f.keep b (p b g).1 (p b g).2;refine⟨u,S.new.up hu,fun x i=>?_,fun x=>x∈B\/o x,⟨fun x=>x∈B,o,fun x i Y=>?_,fun x=>ac6,⟨B,h,fun x=>ac6⟩,d.loc fun b g=>k b g⟩,fun x i=>?_⟩;{have E:=S.froz x i;exact⟨V,E.2.1,(f.keep x E.1 fun O=>r x O i).trans E.2.2⟩};{rcases(X x i).1 with h|h;{exact(p x Y).2 h};{have:=(p x Y).1;omega}};{rcases i with i|i;{have P:=X x i;rcases P.1 with j|j;{have:=own x j;exact⟨V,this.2.1,this.2.2,r x j⟩};{refine⟨?_,(S.new x j).1,(S.new x j).2,fun hz=>by have:=(S.froz x hz).1;omega⟩;rcases P.2 with K|K;{have:=(own x K).1;omega};{exact K}}};{have:=q x ((z x).2 (.inr i));exact⟨V,this.2⟩}}
def St.qX(S:St F G H s W (⟨.slice (some ⟨d,o,none⟩) N m,be T n rows⟩::R)):∃cs,H d=some (.cells cs T true)/\F d/\G d/\d<s/\o+rows.length*n<=cs.length/\N=rows.length/\m=rows.length:=by refine S.ask ?_;rintro D⟨L,h,b⟩q;obtain⟨i,⟨a,-,-⟩|⟨E,j,cs,a,c,e,f,g⟩⟩:=h;{cases a};{cases a;have:=q d ((b d).2 (by rw[c];simp));exact⟨cs,e,this.2.1,this.2.2,this.1,f,rfl,rfl⟩}
def St.upto(S:St F G H s W (⟨.slice (some ⟨d,o,none⟩) N m,be T n rows⟩::R))(hi:i<=rows.length):St F G H s W (⟨.slice (some ⟨d,o,none⟩) i i,be T n (rows.take i)⟩::R):=by refine S.as ?_;rintro D⟨L,h,g⟩;refine⟨L,?_,g⟩;obtain⟨f,⟨b,-,-⟩|⟨E,v,cs,b,j,q,u,l⟩⟩:=h;{cases b};{cases b;have c:i*n<=rows.length*n:=adg _ hi;have a:(rows.take i).length=i:=by{rw[nl,aht hi]};have t:(rows.take i).flatten.length=i*n:=by{rw[j6 (k:=n) fun r p=>f r (acv p),a]};refine⟨fun r c=>f r (acv c),.inr ⟨d,o,cs,by rw[a],j,q,by rw[a];omega,?_⟩⟩;rw[a];have e2:=congrArg (List.take (i*n)) l;rw[aff,aht c]at e2;rw[e2];have e:rows.flatten=(rows.take i).flatten++(rows.drop i).flatten:=by{rw[<-List.flatten_append,X2]};rw[e,afO t]}
def St.Ky(S:St F G H s W (⟨.slice (some ⟨d,o,none⟩) N m,be e n rows⟩::R))(hi:i<=rows.length){z:bn}(w:dj A T=some e)(y:aW A e=some n)(B:bF A e=some z)(f:∀k,(Builtin.zeroCells z.cells k).toList=(List.replicate k zr).flatten)(b:zr.length=n){k D c:Nat}(x:k=rows.length-i)(a:c=o+i*n)(l:∀C,St F G C s W (⟨.slice (some ⟨d,o,none⟩) i i,be e n (rows.take i)⟩::R)->Q (.tuple #[]) C s):Wp F G (pG A T (.slice (some ⟨d,c,none⟩) k D)) H s Q:=by subst a;obtain⟨cs,q,j,u,L,K,-,-⟩:=S.qX;unfold pG;simp only[w,y,B];rw[eW];split;{rename_i v;rw[acr];exact l _ (S.upto hi)};{rename_i v;subst x;have p:((List.replicate (rows.length-i) zr).flatten).length=(rows.length-i)*n:=by{rw[j6 (k:=n) fun r h=>by rw[adH h,b],af7]};have E:rows.length*n=i*n+(rows.length-i)*n:=by{rw[<-Nat.add_mul];congr 1;omega};simp only[bH,fV,q,eW,nF,acr,fM,f,p];refine⟨j,?_⟩;rw[eh ⟨trivial,V⟩];refine⟨j,u,l _ ?_⟩;have t:=S.ug i (List.replicate (rows.length-i) zr) (by simp;omega) (fun r h=>by rw[adH h,b]) q;have g:=t.upto (i:=i) (by simp;omega);rw[List.take_append_of_le_length (by simp;omega),aff,Nat.min_self]at g;exact g}
end
def ub(v:bn)(n lo hi:Nat):bn:=
 match v with
 |.slice (some ⟨d,o,x⟩) _ _=>.slice (some ⟨d,o+lo*n,x⟩) (hi-lo) (hi-lo)
 |_=>v
def c8.sub{lo hi:Nat}(h:c8 H T n v rows L)(f:lo<=hi)(b:hi<=rows.length):c8 H T n (ub v n lo hi) ((rows.take hi).drop lo) L:=by obtain⟨c,⟨rfl,rfl,rfl⟩|⟨d,o,cs,rfl,rfl,i,l,g⟩⟩:=h;{refine⟨J,.inl ⟨rfl,J,rfl⟩⟩};{have a:hi*n<=rows.length*n:=adg _ b;have w:lo*n<=hi*n:=adg _ f;have u:(hi-lo)*n=hi*n-lo*n:=Nat.sub_mul ..;have p:((rows.take hi).drop lo).length=hi-lo:=by{rw[vh,nl,aht b]};have q:∀r,r∈(rows.take hi).drop lo->r.length=n:=fun r a=>c r (acv (adh a));refine⟨q,.inr ⟨d,o+lo*n,cs,by rw[p];rfl,rfl,i,by rw[p];omega,?_⟩⟩;rw[p];have e1:((cs.drop o).take (hi*n))=(rows.take hi).flatten:=by{have e2:=congrArg (List.take (hi*n)) g;rw[aff,aht a]at e2;rw[e2];have e:rows.flatten=(rows.take hi).flatten++(rows.drop hi).flatten:=by{rw[<-List.flatten_append,X2]};have j:(rows.take hi).flatten.length=hi*n:=by{rw[j6 (k:=n) fun r q=>c r (acv q),nl,aht b]};rw[e,afO j]};have e3:(rows.take hi).flatten=((rows.take hi).take lo).flatten++((rows.take hi).drop lo).flatten:=by{rw[<-List.flatten_append,X2]};have t:((rows.take hi).take lo).flatten.length=lo*n:=by{rw[j6 (k:=n) fun r a=>c r (acv (acv a)),nl,nl,aht b,aht f]};have e4:=congrArg (List.drop (lo*n)) e1;rw[e3,List.drop_left' t,afS,adV]at e4;rw[<-e4,u]}
section
variable{A:c7}{F G:Nat -> Prop}{H:AH}{s n lo hi:Nat}{W:Wd}{P R:List aa3}{T e:bW}{Q:bn -> AH -> Nat -> Prop}{rows:List (bj)}{v:bn}{t j:Option bn}
def Fz.sub(f:Fz W v (be T n rows))(c:lo<=hi)(b:hi<=rows.length):Fz W (ub v n lo hi) (be T n ((rows.take hi).drop lo)):=by obtain⟨D,⟨L,h,a⟩,q⟩:=f;exact⟨D,⟨L,h.sub c b,a⟩,q⟩
def St.sub(S:St F G H s W (⟨v,be T n rows⟩::R))(c:lo<=hi)(b:hi<=rows.length):St F G H s W (⟨ub v n lo hi,be T n ((rows.take hi).drop lo)⟩::R):=by refine S.as ?_;rintro D⟨L,h,a⟩;exact⟨L,h.sub c b,a⟩
def c8.qE(h:c8 H e n v rows L)(hF:∀b,b∈L->F b)(g:dj A T=some e)(a:aW A e=some n)(f:df t 0=some (lo:Int))(c:df j rows.length=some (hi:Int))(q:lo<=hi)(i:hi<=rows.length)(k:Q (ub v n lo hi) H s):Wp F G (ij A T v t j none) H s Q:=by obtain⟨u,⟨rfl,rfl,rfl⟩|⟨d,o,cs,rfl,rfl,l,r,m⟩⟩:=h;{rw[jx,g];simp only[a,f];have p:df j 0=some (hi:Int):=c;rw[p];simp at i;subst i;dsimp only;rw[eh ⟨V,V,V⟩];exact k};{rw[jx,g];simp only[a,f,c];rw[eh ⟨V,V,V⟩];unfold Au;simp only[l,a,afD,rq];exact⟨hF d J,k⟩}
def St.qE(S:St F G H s W (⟨v,be e n rows⟩::R))(lo hi:Nat)(g:dj A T=some e)(a:aW A e=some n)(d:df t 0=some (lo:Int))(c:df j rows.length=some (hi:Int))(l:lo<=hi)(k:hi<=rows.length)(m:Q (ub v n lo hi) H s):Wp F G (ij A T v t j none) H s Q:=by have:∃L,c8 H e n v rows L/\∀b,b∈L->F b:=by{refine S.ask ?_;rintro D⟨L,h,f⟩q;exact⟨L,h,fun b i=>(q b ((f b).2 i)).2.1⟩};obtain⟨L,h,hF⟩:=this;exact h.qE hF g a d c l k m
def St.Ei(S:St F G H s W P)(f:Fz W v (be e n rows))(lo hi:Nat)(i:dj A T=some e)(a:aW A e=some n)(d:df t 0=some (lo:Int))(c:df j rows.length=some (hi:Int))(m:lo<=hi)(l:hi<=rows.length)(o:Q (ub v n lo hi) H s):Wp F G (ij A T v t j none) H s Q:=by have:∃L,c8 H e n v rows L/\∀b,b∈L->F b:=by{refine S.qn f ?_;rintro D⟨L,h,g⟩q;exact⟨L,h,fun b k=>(q b ((g b).2 k)).2⟩};obtain⟨L,h,hF⟩:=this;exact h.qE hF i a d c m l o
end
def tg:df none d=some (d:Int):=TC rfl rfl
def th{x:Int}:df (some (.int .i64 x)) d=some x:=TC rfl rfl
class Ay(P:List aa3)(ks:bj)(A:outParam (List aa3)):Prop where
 perm:P.Perm A
instance :Ay R [] R:=⟨.refl _⟩
instance {a:List aa3}{k:bn}{ks:bj}{X:acu}[h:mK P k X R][g:Ay R ks a]:Ay P (k::ks) (⟨k,X⟩::a):=⟨h.perm.trans (g.perm.cons _)⟩
def St.aD(ks:bj)(S:St F G H s W P)[h:Ay P ks A]:St F G H s W A:=S.perm h.perm
def St.pZ{d:AH}{c:Nat}{P:List aa3}(S:St F G H s W P)(u:c<=s)(e:∀b,b<c->F b->H b=d b):St (fun b=>F b/\(b<c\/s<=b)) (fun b=>G b/\s<=b) H s (Go.Proofs.YtlkceignfhnpoaaGreatDoor.lent F d c) []:=
 ⟨S.bd,fun b a=>⟨⟨(S.new b a).1,.inr a⟩,(S.new b a).2,a⟩,fun b h=>⟨Lq h.1 u,⟨h.2,.inl h.1⟩,e b h.1 h.2⟩,fun _=>False,fun _ h=>h,fun _ h=>h.elim⟩
def St.owned(S:St F G H s W P)(u:s<=s')(k:∀b,b<s->¬(G b/\s<=b)->C b=H b)(a:St q (fun b=>p b/\s<=b) C s' f A):St F G C s' W (A++P):=
 S.owns (fun b c=>k b c fun h=>by have:=h.2;omega) u a fun b h=>h.2
def St.yE{o:aa3}(S:St F G H s W P)(u:s<=s')(k:∀b,b<s->¬(G b/\s<=b)->C b=H b)(a:St q (fun b=>p b/\s<=b) C s' f [o]):St F G C s' W (o::P):=S.owned u k a
def St.KG{o:aa3}(S:St F G H s W P)(c:s<=s')(b:(Go.Proofs.YtlkceignfhnpoaaGreatDoor.lent F H s).le f)(a:St F p C s' f [o]):St F G C s' W (o::P):=S.calm c b a
def St.jZ(S:St F G H s W P):St F G H s (Go.Proofs.YtlkceignfhnpoaaGreatDoor.lent F H s) []:=S.ia (fun _ _=>rfl) Z S.bd (fun _ _ h=>h) S.new
def lS{α:Type}{m:AX α}{Q:α->AH->Nat->Prop}(a:LS m)(c:Bd H s)(w:Wp F G m H s (fun v C s'=>s<=s'->Bd C s'->(∀b,b<s->¬G b->C b=H b)->Q v C s')):Wp F G m H s Q:=
 cM a c (Mf a (acB w fun v C s' q k u b=>q u b k))
def Fz.shape(f:Fz W v (be T n rows)):∃a l,v=.slice a l l/\l=rows.length:=by obtain⟨a,h,-⟩:=f.len;exact⟨a,_,h,rfl⟩
def St.shape(S:St F G H s W (⟨v,be T n rows⟩::R)):∃a l,v=.slice a l l/\l=rows.length:=by obtain⟨a,h⟩:=S.cK;exact⟨a,_,h,rfl⟩
def qv(l:bj)(i:Nat):Option bn:=l[i]?
def qI:List (Int×Int×Int):=[(1,1,1),(1,13,1),(1,14,1),(1,3,1),(2,1,1),(2,13,1),(2,14,1),(3,1,1),(3,13,1),(3,14,1),(3,3,1),(4,1,1),(4,13,1),(4,14,1),(4,3,1),(5,1,1),(5,13,1),(5,14,1),(5,3,1),(5,5,1),(5,4,4),(5,7,4),(6,1,1),(6,13,1),(6,14,1),(6,3,1),(6,5,1),(6,4,4),(6,7,4),(7,1,1),(7,13,1),(7,14,1),(7,3,1),(7,5,1),(7,4,4),(7,7,4),(7,9,1),(8,1,1),(8,13,1),(8,14,1),(8,3,1),(8,5,1),(8,4,4),(8,7,4),(8,9,1),(9,1,1),(9,13,1),(9,14,1),(9,3,1),(9,5,1),(9,4,4),(9,7,4),(9,9,1),(10,1,1),(10,13,1),(10,14,1),(10,3,1),(10,5,1),(10,4,4),(10,7,4),(10,9,1),(1,2,3),(1,5,3),(1,6,3),(1,8,3),(1,9,3),(1,10,3),(1,11,3),(1,12,3),(1,15,3),(1,7,2),(2,2,1),(2,7,1),(3,2,2),(3,4,2),(3,5,2),(3,6,2),(3,7,2),(3,8,2),(3,9,2),(3,10,2),(3,11,2),(3,12,2),(3,15,2),(4,4,1),(4,7,1),(5,6,1),(7,15,1),(10,8,1),(10,10,1),(10,11,1),(10,12,1)]
def qJ:List (bn×bn):=qI.map fun p=>(.agg #[.int .i64 p.1,.int .i64 p.2.1],.int .i64 p.2.2)
def tZ(xs:ahG):AX bn:=if xs.size=0 then AX.bind (AX.new (.map qJ)) fun b=>AX.ret (.map (some b))else AX.fail
def uT(xs:ahG):AX bn:=
 match xs.toList with
 |[.string s,.int .i64 p,.int .u32 m]=>if s.size<=100000/\ -9223372036854775808<=p/\p<=9223372036854775807/\0<=m/\m<4294967296 then AX.ret (.string ⟨(zC s.data.toList p m.toNat).toArray⟩)else AX.fail
 |_=>AX.fail
def py(xs:ahG):AX bn:=
 match xs.toList with
 |[.map none]=>AX.ret (.map none)
 |[.map (some b)]=>AX.bind (AX.entries b) fun a=>AX.bind (AX.new (.map a)) fun c=>AX.ret (.map (some c))
 |_=>AX.fail
def np(key:Int->Int)(x:Int):List Int->List Int
 |[]=>[x]
 |y::r=>if key x<=key y then x::y::r else y::np key x r
def eY(key:Int->Int):List Int->List Int
 |[]=>[]
 |x::r=>np key x (eY key r)
def mf:bj->Option (List Int)
 |[]=>some []
 |.int .u32 n::r=>(mf r).map (n:: ·)
 |_::_=>none
def ch(a b:Int):Int:=(b-a)%16777216
def sx(xs:ahG):AX bn:=
 match xs.toList with
 |[.slice a n m,.func (.func f) fs cs]=>if f=356 then(match fs.toList,cs.toList with
  |[],[.pointer (some ⟨t,0,none⟩)]=>AX.bind (AX.cells t) fun(x:bj×bW×Bool)=>(match x.1 with
   |[.pointer (some ⟨b,0,none⟩)]=>AX.bind (AX.cells b) fun(y:bj×bW×Bool)=>(match qv y.1 1 with
    |some (.int .u32 base)=>(match a with
     |some ⟨d,o,none⟩=>AX.bind (AX.cells d) fun(z:bj×bW×Bool)=>(match mf ((z.1.drop o).take n)with
      |some l=>if z.2.2=true/\z.2.1=76/\o+n<=z.1.length/\(l.map (ch base)).Nodup/\y.2.1≠76/\l.length<=1000000 then AX.bind (AX.set d (some (.cells (cu z.1 o ((eY (ch base) l).map (Value.int .u32))) z.2.1 true))) fun _=>AX.ret (.tuple #[])else AX.fail
      |none=>AX.fail)
     |_=>if n=0 then AX.ret (.tuple #[])else AX.fail)
    |_=>AX.fail)
   |_=>AX.fail)
  |_,_=>AX.fail)else AX.fail
 |_=>AX.fail
def nS:bj->Option (List (Int×Int))
 |[]=>some []
 |.int .i64 a:: .int .i64 b::r=>(nS r).map ((a,b):: ·)
 |_=>none
def sK:List (Int×Int)->Bool
 |[]=>true
 |[_]=>true
 |p::q::r=>decide (p.1<q.1)&&sK (q::r)
def mQ(xs:ahG):AX bn:=
 match xs.toList with
 |[.slice a n m,.func (.func f) fs cs]=>if f=343/\fs.toList=[]/\cs.toList=[]then(match a with
  |some ⟨d,o,none⟩=>AX.bind (AX.cells d) fun(z:bj×bW×Bool)=>(match nS ((z.1.drop o).take (n*2))with
   |some l=>if z.2.2=true/\z.2.1=387/\o+n*2<=z.1.length/\sK l=true/\l.length<=1000000 then AX.ret (.tuple #[])else AX.fail
   |none=>AX.fail)
  |_=>if n=0 then AX.ret (.tuple #[])else AX.fail)else AX.fail
 |_=>AX.fail
def qk:List (bn×bn)->Option (List Int)
 |[]=>some []
 |(.int .u32 n,_)::r=>(qk r).map (n:: ·)
 |_::_=>none
def qQ:List Int->Option (Int×Int)->List (Int×Int)
 |[],none=>[]
 |[],some p=>[p]
 |x::t,none=>qQ t (some (x,x+1))
 |x::t,some p=>if x=p.2 then qQ t (some (p.1,x+1))else p::qQ t (some (x,x+1))
def qg(r h:Int)(a:List Int):List (Int×Int):=qQ (((List.range (ch r h).toNat).map fun(i:Nat)=>(i:Int)).filter fun i=> !a.contains ((r+i)%16777216)) none
def bg(l:List (Int×Int)):List (bj):=l.map fun p=>[.int .i64 p.1,.int .i64 p.2]
def tc(xs:ahG):AX bn:=
 match xs.toList with
 |[.pointer (some ⟨b,0,none⟩)]=>AX.bind (AX.cells b) fun(x:bj×bW×Bool)=>(match qv x.1 0,qv x.1 1,qv x.1 4 with
  |some (.int .u32 r),some (.int .u32 h),some (.map (some m))=>AX.bind (AX.entries m) fun a=>(match qk a with
   |some keys=>if(0<=r/\r<16777216)/\(0<=h/\h<16777216)/\a.length<=64/\keys.Nodup/\ch r h<=64/\(∀k,k∈keys->0<=k/\k<16777216)then
     (if qg r h keys=[]then AX.ret (.slice none 0 0)else AX.bind (AX.new (.cells (bg (qg r h keys)).flatten 387 true)) fun c=>AX.ret (.slice (some ⟨c,0,none⟩) (qg r h keys).length (qg r h keys).length))else AX.fail
   |none=>AX.fail)
  |_,_,_=>AX.fail)
 |_=>AX.fail
structure Bare2(E:FuncId->Option (ahG->AX bn)):Prop extends Bare E where
 tbl:E 329=some tZ
 flip:E 132=some uT
 cloneK:E 294=some py
 cloneB:E 295=some py
 sortN:E 355=some sx
 sortS:E 342=some mQ
 miss:E 254=some tc
def wX(x y:Option ((Nat->Prop)×(Nat->Prop)))(p q:Option (Nat×Nat)):Prop:=
 match x,y,p,q with
 |some (Di,Wi),some (Dj,Wj),some (si,ti),some (sj,tj)=>(∀b,Wi b->¬Dj b)/\(∀b,Wj b->¬Di b)/\(∀b,Dj b->¬(si<=b/\b<ti))
 |_,_,_,_=>False
def tI(tbl:oC)(acc:List (Nat×Nat×Nat)):List (Nat×Nat)->Prop
 |[]=>True
 |p::r=>wX (dN tbl p.1) (dN tbl p.2) (gS acc p.1) (gS acc p.2)/\tI tbl acc r
def nu(P:c7)(call:FuncId->ahG->AX bn)(F G:Nat->Prop)(tbl:oC)(bad:List (Nat×Nat))(ops:Array Oper):List Oper->Nat->ahG->List (Nat×Nat×Nat)->AH->Nat->(ahG->AH->Nat->Prop)->Prop
 |[],i,tm,acc,H,s,Q=>tI tbl acc bad/\Q tm H s
 |o::r,i,tm,acc,H,s,Q=>Wp (oh (dN tbl i) F) (og (dN tbl i) G) (cP P call ops o tm) H s (fun v C s'=>nu P call F G tbl bad ops r (i+1) (cq tm o.dst v) ((i,s,s')::acc) C s' Q)
section
variable{P:c7}{call:FuncId -> ahG -> AX bn}{F G:Nat -> Prop}{H:AH}{s:Nat}{tbl:oC}{bad:List (Nat × Nat)}{ops:Array Oper}
structure abb(S:List FuncId)(tbl:oC)(i:Nat)(o:Oper)(f:du):Prop where
 dry:fZ S o=0->f.D=[]/\f.W=[]/\f.s'=f.s
 reads:Nat.ble (fZ S o) 1=true->f.W=[]/\f.s'=f.s
 news:nk o=true->f.D=[]/\f.W=[]
 sees:∀b,b∈f.D->b<f.s'
 bound:∀p,dN tbl i=some p->(∀b,b∈f.D->p.1 b)/\∀b,b∈f.W->p.2 b
def Kf(z:acA S call):∀(l:List Oper)(i:Nat)(tm:ahG)(acc:List (Nat×Nat×Nat))(H:AH)(s:Nat)(Q:ahG->AH->Nat->Prop),Bd H s->nu P call F G tbl bad ops l i tm acc H s Q->
 ∃(o:bE (ahG))(e:List du)(c:List (Nat×Nat×Nat)),dy P call ops l tm H s=some ⟨(o.val,e),o.H,o.s,o.D,o.W⟩/\(∀b,b∈o.D->F b)/\(∀b,b∈o.W->G b)/\Q o.val o.H o.s/\tI tbl c bad/\(∀k,k<i->gS c k=gS acc k)/\
  ∀(j:Nat)(f:du),e[j]? =some f->gS c (i+j)=some (f.s,f.s')/\∃x:Oper,l[j]? =some x/\abb S tbl (i+j) x f/\s<=f.s/\∀(k:Nat)(g:du),j<k->e[k]? =some g->f.s'<=g.s
 |[],i,tm,acc,H,s,Q,hB,h=>by
  obtain⟨W,X⟩:=h;exact⟨⟨tm,H,s,[],[]⟩,[],acc,rfl,fun b d=>(by cases d),fun b d=>(by cases d),X,W,fun _ _=>rfl,fun j f hf=>by simp at hf⟩
 |o::r,i,tm,acc,H,s,Q,hB,h=>by
  unfold nu at h;obtain⟨p,e1,K,L,hq⟩:=h;obtain⟨up,T,v,-⟩:=(yZ (fun f xs=>z.ls f xs) ops o tm).bd e1 hB;obtain⟨q,e,c,e2,qD,qW,Y,y,u,t⟩:=Kf z r (i+1) _ _ _ _ _ T hq;have a:∀b,b∈p.D->F b:=fun b d=>KV (K b d);have w:∀b,b∈p.W->G b:=fun b d=>KU (L b d);refine⟨⟨q.val,q.H,q.s,p.D++q.D,p.W++q.W⟩,⟨s,p.s,p.D,p.W⟩::e,c,by simp[dy,j8,AX.bind,AX.ret,e1,e2],fun b d=>?_,fun b d=>?_,Y,y,fun k M=>?_,fun j f B=>?_⟩
  ·rcases my.1 d with h|h
   ·exact a b h
   ·exact qD b h
  ·rcases my.1 d with h|h
   ·exact w b h
   ·exact qW b h
  ·rw[u k V]
   exact Lk (by show i≠k;omega)
  ·cases j with
   |zero=>
    simp at B;subst B;refine⟨by rw[ahs,u i V];simp[gS],o,rfl,?_,Z,fun k g M A=>?_⟩
    rotate_left
    ·obtain⟨k,rfl⟩:∃C,k=C+1:=⟨k-1,V⟩
     exact(t k g (by simpa using A)).2.choose_spec.2.2.1
    refine⟨fun m=>?_,fun m=>yu z m _ _ _ e1,fun hn=>B5 hn _ _ _ e1,v,fun pr n=>⟨fun b d=>?_,fun b d=>?_⟩⟩
    ·unfold fZ at m
     split at m
     ·cases m
     ·exact C9 m _ _ _ e1
    ·have:=K b d
     rw[ahs]at n;rw[n]at this;exact this.2
    ·have:=L b d
     rw[ahs]at n;rw[n]at this;exact this.2
   |succ j=>
    obtain⟨D,x,N,E,O,R⟩:=t j f (by simpa using B);rw[(V:i+1+j=i+(j+1))]at D E;refine⟨D,x,by simpa using N,E,fq up O,fun k g M A=>?_⟩;obtain⟨k,rfl⟩:∃C,k=C+1:=⟨k-1,V⟩;exact R k g V (by simpa using A)
def Ld{acc:List (Nat×Nat×Nat)}:∀{l:List (Nat×Nat)},tI tbl acc l->∀p,p∈l->wX (dN tbl p.1) (dN tbl p.2) (gS acc p.1) (gS acc p.2)
 |[],_,p,a=>by cases a
 |q::r,h,p,a=>by
  rcases pk.1 a with rfl|a
  ·exact h.1
  ·exact Ld h.2 p a
def tV{id:Nat}{D:List Oper}{tm:ahG}{Q:gi×ahG->AH->Nat->Prop}(hS:acA S call)(bad:List (Nat×Nat))(tbl:oC)(B:Ak S (List.toArray D) bad=true)(hB:Bd H s)(h:nu P call F G tbl bad (List.toArray D) D 0 tm [] H s (fun t C s'=>Q (.normal,t) C s')):Wp F G (bh P call (.region id (List.toArray D) true) tm) H s Q:=by obtain⟨o,k,A,e,hD,hW,hQ,n,_,r⟩:=Kf hS _ _ _ _ _ _ _ hB h;have d:p8 (Region.before (List.toArray D)) k=true:=by{unfold p8;simp only[eu];rintro⟨g,j⟩hg⟨f,i⟩hf;have v:=sv.1 hg;have w:=sv.1 hf;dsimp only at v w⊢;obtain⟨z,x,hx,K,-,m⟩:=r _ _ w;obtain⟨R,y,hy,L,-,-⟩:=r _ _ v;rw[ahH]at z R K L;unfold Ak at B;simp only[eu]at B;have:=B (y,j) (sv.2 hy) (x,i) (sv.2 hx);dsimp only at this;by_cases u:i<j;{simp only[Ob,ev,ahr]at this⊢;rcases this with(((((a|a)|a)|a)|a)|a)|a;{simp[u]at a};{exact .inl (.inr a)};{exact .inr (DH (K.dry a))};{exact .inr (DG (L.dry a))};{exact .inr (DI (K.reads a.1) (L.reads a.2))};{exact .inr (DF (K.news a.1) (L.news a.2))};{right;have E:=Ld n (i,j) (ac8.1 a);dsimp only at E;rw[z,R]at E;cases hi:dN tbl i with|none=>{rw[hi]at E;simp[wX]at E}|some p=>{cases N:dN tbl j with|none=>{rw[hi,N]at E;obtain⟨p1,p2⟩:=p;simp[wX]at E}|some q=>{rw[hi,N]at E;obtain⟨Di,Wi⟩:=p;obtain⟨Dj,Wj⟩:=q;obtain⟨Y,h2,h3⟩:=E;have T:=K.bound _ hi;have M:=L.bound _ N;have c:∀(l:List Nat)(b:Nat),b∉l->l.contains b=false:=fun l b B=>by{cases hc:l.contains b with|false=>rfl|true=>{exact absurd (ac8.1 hc) B}};unfold du.apart;simp only[Ob,ev,eu,ahc];refine .inr ⟨⟨⟨fun b B=>c _ _ fun O=>Y b (T.2 b B) (M.1 b O),fun b B=>c _ _ fun O=>h2 b (M.2 b B) (T.1 b O)⟩,fun b B=>?_⟩,fun b B=>?_⟩;{have:=h3 b (M.1 b B);simp only[ac9,ml,R3];exact fun W X=>this ⟨W,X⟩};{have h5:=K.sees b B;have h6:=m j g u v;simp only[ac9,ml,R3];intro W X;omega}}}}};{simp[u]}};unfold bh;rw[bH];refine⟨⟨o.val,o.H,o.s,o.D,o.W⟩,?_,hD,hW,?_⟩;{unfold mG;simp only[rq,AX.bind,e];rw[eh d];simp[AX.ret]};{show Wp F G (ret (gi.normal,o.val)) o.H o.s Q;rw[acr];exact hQ}
variable{B:ahG}{l:List (Nat × bn)}{Q:ahG -> AH -> Nat -> Prop}{d:Option Tmp}{op:Op}{ty:bW}{pos:String}{z:Array Edge}{g:Option (Nat × Bool)}{r:List Oper}{i:Nat}{acc:List (Nat × Nat × Nat)}
@[simp ↓] theorem acj:nu P call F G tbl bad ops (⟨d,op,ty,pos,z,g⟩::r) i (bl B l) acc H s Q=Wp (oh (dN tbl i) F) (og (dN tbl i) G) (cP P call ops ⟨d,op,ty,pos,z,g⟩ (bl B l)) H s (fun v C s'=>nu P call F G tbl bad ops r (i+1) (cq (bl B l) d v) ((i,s,s')::acc) C s' Q):=rfl
@[simp ↓] theorem acf:nu P call F G tbl bad ops (⟨d,op,ty,pos,z,g⟩::r) i (cq (bl B l) (some E) v') acc H s Q=Wp (oh (dN tbl i) F) (og (dN tbl i) G) (cP P call ops ⟨d,op,ty,pos,z,g⟩ (bl B ((E,v')::l))) H s (fun v C s'=>nu P call F G tbl bad ops r (i+1) (cq (bl B ((E,v')::l)) d v) ((i,s,s')::acc) C s' Q):=rfl
@[simp ↓] theorem aci:nu P call F G tbl bad ops (⟨d,op,ty,pos,z,g⟩::r) i (cq (bl B l) none v') acc H s Q=Wp (oh (dN tbl i) F) (og (dN tbl i) G) (cP P call ops ⟨d,op,ty,pos,z,g⟩ (bl B l)) H s (fun v C s'=>nu P call F G tbl bad ops r (i+1) (cq (bl B l) d v) ((i,s,s')::acc) C s' Q):=rfl
@[simp ↓] theorem acg:nu P call F G tbl bad ops [] i (cq (bl B l) (some E) v') acc H s Q=(tI tbl acc bad/\Q (bl B ((E,v')::l)) H s):=rfl
@[simp ↓] theorem ach:nu P call F G tbl bad ops [] i (cq (bl B l) none v') acc H s Q=(tI tbl acc bad/\Q (bl B l) H s):=rfl
def aaD{c d a e:Nat->Prop}{f g h i:Nat}:wX (some (c,d)) (some (a,e)) (some (f,g)) (some (h,i))=((∀b,d b->¬a b)/\(∀b,e b->¬c b)/\(∀b,a b->¬(f<=b/\b<g))):=TC rfl rfl
end
attribute [simp] tI aaD
end Go.Proofs.YtlkceignfhnpoaaGreatDoor
