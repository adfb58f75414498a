/-
  Part of a proof, written small.
-/
import Derived.Test.YtlkceignfhnpoaaGreatDoorS1SASLSOSY10
set_option linter.all false
set_option maxRecDepth 10000
set_option maxHeartbeats 4000000
open Go.Proofs.Tryz
namespace Go.Proofs.YtlkceignfhnpoaaGreatDoor
open Go AX
variable{n:Nat}{l:List Int}{ps:List (Int×Int)}{i a:Int}{x:aI}{u t:bm}
section
variable{E:Ex}{F G:Np}{H:AH}{s b c K:Nat}{cs:bj}{T:bW}{x:aI}{Q:Qt}{W:Wd}{R P:List aa3}{v:bn}
def Wd.and(W:Wd)(H:AH)(c:Nat):Wd:=⟨fun b=>W.Z b\/b=c,H⟩
def St.still(S:St F G H s W (⟨aa c,aE cs T⟩::P)):St F (fun b=>G b/\b≠c) H s (W.and H c) P:=by obtain⟨v,j,t,o⟩:=S.cell;obtain⟨D,⟨p,i,a,b,⟨r,l,u,m⟩,d⟩,q⟩:=S.hold;cases l;refine⟨S.bd,fun k g=>⟨(S.new k g).1,(S.new k g).2,V⟩,fun y f=>?_,i,d,fun y f=>?_⟩;{rcases f with f|f;{exact⟨(S.froz y f).1,(S.froz y f).2.1,rfl⟩};{subst f;exact⟨o,j,rfl⟩}};{have:=q y ((b y).2 (.inr f));have h:y≠c:=fun e=>a y ((m y).2 e) f;exact⟨this.1,this.2.1,⟨this.2.2.1,h⟩,fun n=>n.elim this.2.2.2 h⟩}
def St.again{g:AH}{l:Nat}{i:List aa3}(S:St F G H s W (⟨aa c,aE cs T⟩::P))(e:St F (fun b=>G b/\b≠c) g l (W.and H c) i):St F G g l W (⟨aa c,aE cs T⟩::i):=by obtain⟨v,B,o,E⟩:=S.cell;obtain⟨w,⟨E1,E2,z,m,⟨x,r,C,t⟩,A⟩,n⟩:=S.hold;cases r;obtain⟨D,d,q⟩:=e.hold;have f:=e.froz c (.inr rfl);have p:¬W.Z c:=(n c ((m c).2 (.inl ((t c).2 rfl)))).2.2.2;refine⟨e.bd,fun k j=>⟨(e.new k j).1,(e.new k j).2.1⟩,fun y a=>?_,fun y=>y=c\/D y,⟨fun y=>y=c,D,fun y a u=>(q y u).2.2.1.2 a,fun y=>ac6,⟨c,rfl,f.2.2.trans v,fun _=>ac6⟩,d⟩,fun y a=>?_⟩;{have:=e.froz y (.inl a);exact⟨this.1,this.2.1,this.2.2.trans (S.froz y a).2.2⟩};{rcases a with rfl|a;{exact⟨f.1,f.2.1,o,p⟩};{have:=q y a;exact⟨this.1,this.2.1,this.2.2.1.1,fun h=>this.2.2.2 (.inl h)⟩}}
def aI.ni(x:aI)(i:Int):Int:=((x.kept[i.toNat]?).map (·.2)).getD 0
def aI.eE(x:aI)(p:Int->Bool)(acc:List Int)(i:Int):List Int:=if p (x.ni i)=true/\aV x.a i∉acc then acc++[aV x.a i]else acc
def aI.mV(x:aI)(p:Int->Bool)(l:List Int):List Int:=l.foldl (x.eE p) x.again
def aI.Gp(x:aI)(p:Int->Bool)(l:List Int):∀a:List Int,a.length<=(l.foldl (x.eE p) a).length/\(l.foldl (x.eE p) a).length<=a.length+l.length:=by induction l with|nil=>{intro a;simp}|cons i r ih=>{intro a;have:=ih (x.eE p a i);have b:a.length<=(x.eE p a i).length/\(x.eE p a i).length<=a.length+1:=by{unfold aI.eE;split<;>simp};rw[adv,hH];omega}
def Jb(key:Int->Int)(x:Int):∀l:List Int,(np key x l).length=l.length+1
 |[]=>rfl
 |y::r=>by
  unfold np;split
  ·rfl
  ·rw[hH,Jb key x r,hH]
def vX(key:Int->Int):∀l:List Int,(eY key l).length=l.length
 |[]=>rfl
 |x::r=>by unfold eY;rw[Jb,vX key r,hH]
def B0:∀l:List Int,mf (cC l).flatten=some l
 |[]=>rfl
 |x::r=>by
  show(mf (cC r).flatten).map (x:: ·)=_;rw[B0 r];rfl
def Hh:∀l:List Int,(cC l).flatten=l.map (Value.int .u32)
 |[]=>rfl
 |x::r=>by
  show[uv x]++(cC r).flatten=_;rw[Hh r];rfl
def Oj(K:Bare2 E)(n:Nat){base:Int}{t:Nat}{ty:bW}(j:(l.map (ch base)).Nodup)(kt:H t=some (.cells [aa b] ty true))(x:F t)(X:H b=some (.cells cs T true))(w:F b)(i:cs[1]? =some (uv base))(C:T≠76)(c:l.length<=1000000)(S:St F G H s W (⟨v,bT l⟩::R))(h:∀k,St F G k s W (⟨v,bT (eY (ch base) l)⟩::R)->Q (.tuple #[]) k s):Wp F G (CA E (n+1) 355 #[v,.func (.func 356) #[] #[aa t]]) H s Q:=by obtain⟨a,P,z⟩:=S.mU;subst P;unfold cE;rw[K.sortN];dsimp only;unfold sx;dsimp only;rw[eh rfl];show Wp F G (AX.bind (AX.cells t) fun _=>_) H s Q;rw[bH,fV,kt];refine⟨x,?_⟩;show Wp F G (AX.bind (AX.cells b) fun _=>_) H s Q;rw[bH,fV,X];refine⟨w,?_⟩;dsimp only;rw[show qv cs 1=some (uv base)from i];dsimp only;cases a with|none=>{have r:=z rfl;have:l=[]:=by{simpa[cC]using r};subst this;dsimp only;rw[eh (by simp[cC]),acr];exact h _ S}|some a=>{have M:∃d o cs,a=⟨d,o,none⟩/\H d=some (.cells cs 76 true)/\F d/\G d/\o+(cC l).length*1<=cs.length/\(cs.drop o).take ((cC l).length*1)=(cC l).flatten:=by{refine S.ask ?_;rintro D⟨L,O,A⟩q;obtain⟨r,⟨e1,-,-⟩|⟨d,o,cs,e1,B,N,g,f⟩⟩:=O;{cases e1};{cases e1;have:=q d ((A d).2 (by rw[B];simp));exact⟨d,o,cs,rfl,N,this.2.1,this.2.2,g,f⟩}};obtain⟨d,o,p,rfl,u,m,y,g,f⟩:=M;rw[ahd]at g f;dsimp only;rw[bH,fV,u];refine⟨m,?_⟩;dsimp only;rw[f,B0 l];dsimp only;rw[eh ⟨rfl,rfl,g,j,C,c⟩,bH];have e:=S.ug 0 (cC (eY (ch base) l)) (by simp[vX]) J u;rw[Hh]at e;have e2:(cC l).take 0++(cC (eY (ch base) l)++(cC l).drop (0+(cC (eY (ch base) l)).length))=cC (eY (ch base) l):=by{rw[aeY (by simp[vX])];simp};rw[e2,Nat.zero_mul,ahs]at e;rw[nF];refine⟨m,y,?_⟩;rw[acr];exact h _ e}
def Gn(x:aI)(p:Int->Bool)(l:List Int):∀c:List Int,(c.Nodup/\∀y,y∈c->aU y)->(l.foldl (x.eE p) c).Nodup/\∀y,y∈l.foldl (x.eE p) c->aU y:=by induction l with|nil=>{intro c h;exact h}|cons i r ih=>{intro c h;rw[adv];refine ih _ ?_;unfold aI.eE;split;{rename_i j;refine⟨?_,fun y d=>?_⟩;{rw[aeN];refine⟨h.1,J,fun a g b f=>?_⟩;simp at f;subst f;exact fun e=>j.2 (e▸g)};{rcases my.1 d with d|d;{exact h.2 y d};{simp at d;subst d;exact iU}}};{exact h}}
def J0(i:aU a)(h:l.Nodup)(b:∀y,y∈l->aU y):(l.map (ch a)).Nodup:=by unfold List.Nodup at h⊢;rw[ahe];refine h.imp_of_mem fun{y z}c d p e=>p ?_;have f:=b y c;have g:=b z d;unfold ch at e;unfold aU at*;omega
structure aI.fit(x:aI):Prop where
 a:aU x.a
 again:∀n∈x.again,aU n/\aq x.a n<x.kept.length
 rise:x.again.Pairwise fun y z=>aq x.a y<aq x.a z
def aI.ok.fit{x:aI}(h:x.ok K):x.fit:=⟨h.a,h.again,h.rise⟩
def Gj(hX:Bare2 E)(n:Nat)(hx:x.fit){g:FuncId}{a:ahG}(hc:eL prog g=true){p:Int->Bool}(hp:∀(G':Nat->Prop)(W':Wd),W.le W'->D4 E F G' W' (n+3) g a p)(hsm:∀p,p∈ps->iy p/\p.1<=p.2)(hl:ps.length<=100000)(ht:(da ps).length<=65000)(hin:∀i,i∈da ps->0<=i/\i<16777216)(hA:x.again.length<=30000)(S:St F G H s W (⟨aa b,cW x⟩::R))(f:Fz W v (cz ps))(h:∀H' s',St F G H' s' W (⟨aa b,cW {x with again:=eY (ch x.a) (x.mV p (da ps))}⟩::R)->Q (iv (((x.mV p (da ps)).length:Int)-x.again.length)) H' s'):Wp F G (CA E (n+4) 325 #[aa b,v,.func (.func g) #[] a]) H s Q:=by have hE:=hX.toBare;obtain⟨q,k,w,S⟩:=S.mT;obtain⟨kb,fb,gb,lb⟩:=S.cell;have hs:=S.new s Z;refine en hE [] func325 ntmps325 ?_;simp;have S:=S.alloc [aa b] 168;refine cM ((calm).ls _ _) S.bd ?_;refine Og hsm hl ht S f fun H1 s1 v1 S u1 b1=>?_;obtain⟨al,N⟩:=S.cK;obtain⟨L,hL⟩:∃L,L=da ps:=⟨_,rfl⟩;rw[<-hL]at ht hin h S N;rw[show(iV L).length=L.length by simp[iV]]at N;subst N;simp;obtain⟨Y,S⟩:∃Y,St F G H1 s1 W (⟨aa b,aE (x.cells q k w) 244⟩::⟨w,bT x.again⟩::⟨aa s,aE [aa b] Y⟩::⟨.map (some k),iu (dA x.a x.kept)⟩::⟨.slice al L.length L.length,oB L⟩::⟨aa q,fK x.qmost.toNat x.queue⟩::R):=⟨_,(S.jN (k1:=aa b) (k2:=w) (k3:=aa s)).perm (by refine .cons _ (.cons _ (.cons _ ?_));exact(List.Perm.cons _ (.swap _ _ _)).trans (.swap _ _ _))⟩;refine acs (fun kk O H' s'=>∃(i:Nat)(u:bn),i<=L.length/\kk=L.length-i/\O.size=62/\aF O 2=.func (.func g) #[] a/\aF O 3=aa s/\aF O 7=iv (((x.mV p (L.take i)).length:Int)-x.again.length)/\aF O 12=.slice al L.length L.length/\aF O 13=iv L.length/\aF O 14=iv (i:Nat)/\St F G H' s' W (⟨aa b,aE (x.cells q k u) 244⟩::⟨u,bT (x.mV p (L.take i))⟩::⟨aa s,aE [aa b] Y⟩::⟨.map (some k),iu (dA x.a x.kept)⟩::⟨.slice al L.length L.length,oB L⟩::⟨aa q,fK x.qmost.toNat x.queue⟩::R)) (k:=L.length) (by unfold LF;omega) ⟨0,w,J,J,J,J,J,by simp[aI.mV],J,J,J,S⟩ ?_;clear S;rintro kk O H2 s2⟨i,u,hi,rfl,B,t2,t3,t7,c,j,l,S⟩;rw[show O=bl O []from rfl];obtain⟨K,M,h5,h4⟩:=S.cell;obtain⟨hr,hv,h6,h7⟩:=(S.ae (.map (some k))).qh;obtain⟨kt,ft,gt,lt⟩:=(S.ae (aa s)).cell;have hb:=x.Gp p (L.take i) x.again;by_cases X:i<L.length;{have hq:=S.new s2 Z;have hw:=wi (i:=i) V;obtain⟨d,o,cs,h3,kd,fd,gd,ld,ho,hf⟩:=(S.ae (.slice al L.length L.length)).row (i:=i) (by simpa[iV]using X);have e1:=jj (show(cs.drop (o+i*1)).take 1=[iv L[i]]by rw[hf];simp);rw[ahd]at e1;cases h3;simp[B,t2,t3,c,j,l,X,kd,fd,e1,kt,ft,K,M,aI.cells,mF];obtain⟨y,hy⟩:∃y,y=L[i]:=⟨_,rfl⟩;have hu:=hin _ (wk X);rw[<-hy]at hu e1⊢;obtain⟨m,hm⟩:∃m,m=aV x.a y:=⟨_,rfl⟩;have hg:aq x.a m=y:=by{rw[hm];unfold aq aV;have:=hx.a;unfold aU at this;omega};have hn:(x.a+y)%16777216=m:=hm.symm;rw[hn];rw[qC pg (z:=.agg #[.string ⟨#[]⟩,uv 0]) U (mZ m)];simp only[hr,ru,rq,wD _ _ _ hx.a (show aU m from hm▸iU),hg];refine⟨hv,?_⟩;have D:∃mm,look0q (.agg #[.string ⟨#[]⟩,uv 0]) false ((x.kept[y.toNat]?).map n9)=.agg #[.string mm,uv (x.ni y)]:=by{unfold aI.ni;cases x.kept[y.toNat]? with|none=>exact⟨_,rfl⟩|some z=>{exact⟨_,rfl⟩}};obtain⟨mm,D⟩:=D;rw[D];simp[B];refine⟨hc,hp G W (Wd.le.refl _) H2 s2 _ _ _ S ?_⟩;obtain⟨r,A⟩:∃r,r=x.mV p (L.take i):=⟨_,rfl⟩;have t:x.mV p (L.take (i+1))=x.eE p r y:=by{rw[A,hy,fy X];unfold aI.mV;rw[aej];rfl};have N:r.length<=30000+i/\x.again.length<=r.length:=by{rw[nl]at hb;have e:r.length=((L.take i).foldl (x.eE p) x.again).length:=by{rw[A];rfl};omega};rw[<-A]at S t7;cases P:p (x.ni y)with|false=>{simp[B,t2,t3,t7,c,j,l];refine⟨L.length-(i+1),V,i+1,V,rfl,?_,hw,u,?_⟩;{rw[t];simp[aI.eE,P]};{rw[t,show x.eE p r y=r by simp[aI.eE,P]];exact S}}|true=>{simp[B,t3,kt,ft,K,M,aI.cells];refine Se m V (S.ae u) ?_;by_cases C:m∈r;{simp[B,t2,t3,t7,c,j,l,C];refine⟨L.length-(i+1),V,i+1,V,rfl,?_,hw,u,?_⟩;{rw[t];simp[aI.eE,<-hm,C]};{rw[t,show x.eE p r y=r by simp[aI.eE,<-hm,C]];exact S}};{simp[B,C];refine mN (calm) [(0,6),(1,6),(4,6),(0,7)] [(0,(fun y=>y=s),(fun _=>False)),(1,(fun y=>y=s),(fun _=>False)),(4,(fun y=>y=b),(fun _=>False)),(6,(fun _=>False),(fun y=>s2<=y)),(7,(fun _=>True),(fun y=>y≠s))] U ?_;simp[-bM,B,t3,kt,ft,K,M,aI.cells];have S0:=S.ae (aa s);have SL:=S0.still;refine St.append (F:=F) (G:=fun y=>G y/\y≠s) ((SL.cb (T:=76) (n:=1) [[uv m]] 1 rfl J rfl).cF (k1:=u) (k2:=sl s2 0 1 1)) (y:=4) U (by simp;omega) fun H4 s4 a4 l4 m4 S4=>?_;have S5:=S0.again (S4.az (sl s2 0 1 1));obtain⟨he,hk,hd,h0⟩:=(S5.ae (aa b)).cell;have hj:IntKind.i64.wrap ((r.length:Int)-x.again.length+1)=(r.length:Int)-x.again.length+1:=cL V V;simp[-bM,B,t2,t3,t7,c,j,l,he,hk,hd,aI.cells,hj];refine⟨⟨⟨fun y hy=>V,fun h=>V⟩,⟨fun y hy=>V,fun h=>V⟩,fun h=>V⟩,L.length-(i+1),V,i+1,V,rfl,?_,hw,.slice a4 l4 m4,?_⟩;{rw[t,show x.eE p r y=r++[m]by simp[aI.eE,P,<-hm,C],dw,ado];omega};{rw[t,show x.eE p r y=r++[m]by simp[aI.eE,P,<-hm,C]];have e:cC (r++[m])=cC r++[[uv m]]:=by{simp[cC]};have S6:=((S5.ae (aa b)).set [uv x.s,uv x.a,uv x.ms,uv x.ps,uv x.pa,iv x.units,iv x.polls,aa q,.map (some k),.slice a4 l4 m4]).jN (k1:=aa b) (k2:=.slice a4 l4 m4) (k3:=aa s);rw[<-e]at S6;exact S6}}}};{obtain rfl:i=L.length:=V;rw[zs]at S t7;obtain⟨r,A⟩:∃r,r=x.mV p L:=⟨_,rfl⟩;rw[<-A]at S t7 h;simp[B,t3,j,l,kt,ft,K,M,aI.cells];have ha:=Gn x p L x.again ⟨hx.rise.imp (fun hh e=>by subst e;exact absurd hh V),fun y hy=>(hx.again y hy).1⟩;refine Oj hX _ (base:=x.a) (by rw[A];exact J0 hx.a ha.1 ha.2) kt ft K M (by simp[aI.cells]) I (by have h1:=x.Gp p L x.again;have h2:r.length=(L.foldl (x.eE p) x.again).length:=by{rw[A];rfl};omega) (S.ae u) fun H5 S5=>?_;simp[B,t7];have S6:=S5.az (aa s);have S7:=S6.az (.slice al L.length L.length);exact h _ _ (St.jB (q:=q) (k:=k) (w:=u) (x:={x with again:=eY (ch x.a) r}) ((S7.ae u).jN (k1:=aa b) (k2:=aa q) (k3:=.map (some k))))}
end
def aaS{j:Int}(hi:0<=i/\i<16777216)(b:0<=j/\j<16777216)(h:aV a i=aV a j):i=j:=by unfold aV at h;omega
def Bv(x:aI)(p:Int->Bool):∀(L a:List Int),L.Nodup->(∀i,i∈L->0<=i/\i<16777216)->(∀i,i∈L->(aV x.a i∈a↔aV x.a i∈x.again))->
 L.foldl (x.eE p) a=a++(L.filter fun i=>p (x.ni i)&& !decide (aV x.a i∈x.again)).map (aV x.a)
 |[],a,_,_,_=>J
 |i::r,a,hn,hr,hm=>by
  rw[ae5]at hn;have d:=hm i (tl ..);rw[adv];by_cases c:p (x.ni i)=true/\aV x.a i∉a
  ·have e:x.eE p a i=a++[aV x.a i]:=by unfold aI.eE;rw[eh c]
   have q:aV x.a i∉x.again:=fun h=>c.2 (d.2 h);rw[e,Bv x p r _ hn.2 (fun j b=>hr j (ts _ b)) fun j b=>?_]
   ·rw[aeo]
    simp[c.1,q]
   ·have t:aV x.a j≠aV x.a i:=fun h=>hn.1 ((aaS (hr j (ts _ b)) (hr i (tl ..)) h)▸b)
    simp[t,hm j (ts _ b)]
  ·have e:x.eE p a i=a:=by unfold aI.eE;rw[ed c]
   rw[e,Bv x p r _ hn.2 (fun j b=>hr j (ts _ b)) fun j b=>hm j (ts _ b)];rw[aeo];have f:(p (x.ni i)&& !decide (aV x.a i∈x.again))=false:=by
    cases g:p (x.ni i)with
    |false=>rfl
    |true=>
     have:aV x.a i∈x.again:=d.1 (ad3 fun h=>c ⟨g,h⟩);simp[this]
   rw[f];simp
def zu(key:Int->Int)(x:Int):∀l:List Int,(np key x l).Perm (x::l)
 |[]=>.refl _
 |y::r=>by
  unfold np;split
  ·exact .refl _
  ·exact((zu key x r).cons y).trans (.swap _ _ _)
def vW(key:Int->Int):∀l:List Int,(eY key l).Perm l
 |[]=>.refl _
 |x::r=>(zu key x _).trans ((vW key r).cons x)
def Ja(key:Int->Int)(x:Int):∀l:List Int,l.Pairwise (fun a b=>key a<=key b)->(np key x l).Pairwise (fun a b=>key a<=key b)
 |[],_=>by simp[np]
 |y::r,h=>by
  rw[x4]at h;unfold np;split
  ·rename_i d
   rw[x4,x4];refine⟨fun z c=>?_,h⟩;rcases pk.1 c with rfl|c
   ·exact d
   ·have:=h.1 z c;omega
  ·rename_i d
   rw[x4];refine⟨fun z c=>?_,Ja key x r h.2⟩;rcases pk.1 ((zu key x r).mem_iff.1 c)with rfl|c
   ·omega
   ·exact h.1 z c
def Fi(key:Int->Int):∀l:List Int,(eY key l).Pairwise (fun a b=>key a<=key b)
 |[]=>.nil
 |x::r=>Ja key x _ (Fi key r)
def yj(key:Int->Int):∀(l m:List Int),l.Pairwise (fun a b=>key a<key b)->m.Pairwise (fun a b=>key a<key b)->(∀y,y∈l↔y∈m)->l=m
 |[],[],_,_,_=>rfl
 |[],y::r,_,_,h=>by have:=(h y).2 (tl ..);simp at this
 |y::r,[],_,_,h=>by have:=(h y).1 (tl ..);simp at this
 |x::r,y::t,hl,hm,h=>by
  rw[x4]at hl hm;have p:x=y:=by
   rcases pk.1 ((h x).1 (tl ..))with e|f
   ·exact e
   ·rcases pk.1 ((h y).2 (tl ..))with e|g
    ·exact e.symm
    ·have:=hm.1 x f;have:=hl.1 y g;omega
  subst p;rw[yj key r t hl.2 hm.2 fun z=>?_];constructor
  ·intro d
   rcases pk.1 ((h z).1 (ts _ d))with e|c
   ·subst e;have:=hl.1 z d;omega
   ·exact c
  ·intro d
   rcases pk.1 ((h z).2 (ts _ d))with e|c
   ·subst e;have:=hm.1 z d;omega
   ·exact c
def Fk(key:Int->Int)(l:List Int){m:List Int}(d:(l.map key).Nodup)(e:m.Pairwise (fun a b=>key a<key b))(h:∀y,y∈l↔y∈m):eY key l=m:=by refine yj key _ _ ?_ e fun y=>((vW key l).mem_iff).trans (h y);have c:((eY key l).map key).Nodup:=((vW key l).map key).nodup_iff.2 d;unfold List.Nodup at c;rw[ahe]at c;refine((Fi key l).and c).imp fun p=>?_;have:=p.1;have:=p.2;omega
def vO(n:Nat):(upto n).Pairwise (fun a b=>a<b):=by unfold upto;rw[ahe];exact aeh.imp fun h=>V
def nX:i∈upto n↔0<=i/\i<n:=by unfold upto;rw[nm];constructor;{rintro⟨j,a,rfl⟩;have:=adb.1 a;omega};{intro h;exact⟨i.toNat,adb.2 V,V⟩}
def wK(b:aU a)(hi:0<=i/\i<16777216):aq a (aV a i)=i:=by unfold aq aV aU at*;omega
def Vt(x:aI)(i:Int):x.ni i=(x.kept.getD i.toNat (.empty,0)).2:=by unfold aI.ni;rw[N0];cases x.kept[i.toNat]?<;>rfl
def Gk(c:x.fit)(C:x.kept.length<=100000)(a p:Int->Bool){L:List Int}(o:∀i,i∈L↔0<=i/\i<x.kept.length/\a i=true)(w:L.Nodup): (({x with again:=eY (ch x.a) (x.mV p L)}:aI),((x.mV p L).length:Int)-x.again.length)=x.rep a p:=by have B:∀i,i∈L->0<=i/\i<16777216:=fun i b=>by{have:=(o i).1 b;omega};have e:x.mV p L=x.again++(L.filter fun i=>p (x.ni i)&& !decide (aV x.a i∈x.again)).map (aV x.a):=Bv x p L x.again w B fun i b=>ac6;obtain⟨M,n⟩:∃M,M=L.filter fun i=>p (x.ni i)&& !decide (aV x.a i∈x.again):=⟨_,rfl⟩;rw[<-n]at e;have q:∀i,i∈M↔i∈(upto x.kept.length).filter fun i=>x.more a p i:=fun i=>by{rw[n,nt,nt,o i,nX,Vt];unfold aI.more;simp only[ev,ahc,R3,List.contains_eq_mem];constructor;{rintro⟨⟨d,g,k⟩,l,m⟩;exact⟨⟨d,g⟩,m,k,l⟩};{rintro⟨⟨d,g⟩,m,k,l⟩;exact⟨⟨d,g,k⟩,l,m⟩}};have u:M.Nodup:=by{rw[n];exact w.filter _};have t:M.length=((upto x.kept.length).filter fun i=>x.more a p i).length:=by{rw[<-vX (fun i=>i) M,Fk (fun i=>i) M (by simpa using u) ((vO _).filter _) q]};have r:=Gn x p L x.again ⟨c.rise.imp (fun A e=>by subst e;exact absurd A V),fun y f=>(c.again y f).1⟩;unfold aI.rep;rw[<-t];refine Prod.ext ?_ ?_;{dsimp only;congr 1;refine Fk _ _ (J0 c.a r.1 r.2) ?_ fun y=>?_;{rw[ahe];refine((vO _).filter _).imp_of_mem fun{i j}b s v=>?_;have b:=nX.1 (nt.1 b).1;have s:=nX.1 (nt.1 s).1;have e1:=wK c.a (i:=i) V;have e2:=wK c.a (i:=j) V;unfold aq at e1 e2;unfold ch;omega};{rw[e,my,nm,nm];constructor;{rintro(f|⟨i,b,rfl⟩);{have d:=c.again y f;have z:0<=aq x.a y:=fi _ _;refine⟨aq x.a y,nt.2 ⟨nX.2 ⟨z,d.2⟩,?_⟩,DM c.a d.1⟩;rw[DM c.a d.1];simp[f]};{have:=nt.1 ((q i).1 b);exact⟨i,nt.2 ⟨this.1,by rw[this.2,Bool.or_true]⟩,rfl⟩}};{rintro⟨i,b,rfl⟩;have:=nt.1 b;rcases Ob _ _▸this.2 with h|h;{exact .inl (by simpa using h)};{exact .inr ⟨i,(q i).2 (nt.2 ⟨this.1,h⟩),rfl⟩}}}};{dsimp only;rw[e,dw,pt];omega}
def FB(base fin:Int):∀(l:List Int)(o:Bool)(last:Int)(ps:List (Int×Int)),ji base fin l o last=some ps->ps.Pairwise (fun p q=>p.2<q.1)/\∀q,q∈ps->(if o=true then last<=q.1 else last<q.1)/\q.1<q.2/\q.2<=fin
 |[],o,last,ps,h=>by
  unfold ji at h;cases h;exact⟨.nil,J⟩
 |x::r,o,last,ps,h=>by
  unfold ji at h;split at h
  ·cases h
  ·rename_i d
   cases c:ji base fin r (!o) (aq base x)with
   |none=>rw[c]at h;cases h
   |some l=>
    rw[c]at h;have b:=FB base fin r (!o) (aq base x) l c;cases o with
    |false=>
     simp at h;subst h;refine⟨b.1,fun q a=>?_⟩;have:=b.2 q a;simp at this⊢;omega
    |true=>
     simp at h;subst h;refine⟨x4.2 ⟨fun q a=>?_,b.1⟩,fun q a=>?_⟩
     ·have:=b.2 q a
      simp at this⊢;omega
     ·rcases pk.1 a with rfl|a
      ·simp;omega
      ·have:=b.2 q a
       simp at this⊢;omega
def Fx{base a:Int}(h:jh base a l=some ps):ps.Pairwise (fun p q=>p.2<q.1)/\∀q,q∈ps->0<=q.1/\q.1<q.2/\q.2<=aq base a:=by unfold jh at h;split at h;{cases h};{have:=FB _ _ _ _ _ _ h;refine⟨this.1,fun q b=>?_⟩;have:=this.2 q b;simp at this;omega}
def wv{p:Int×Int}:i∈dZ p↔p.1<=i/\i<p.2:=by unfold dZ;rw[nm];constructor;{rintro⟨j,a,rfl⟩;have:=adb.1 a;omega};{intro h;exact⟨(i-p.1).toNat,adb.2 V,V⟩}
def R0(p:Int×Int):(dZ p).Pairwise (fun a b=>a<b):=by unfold dZ;rw[ahe];exact aeh.imp fun h=>V
def yP:i∈da ps↔dW ps i=true:=by unfold da dW;rw[adp,adj];constructor;{rintro⟨p,b,a⟩;have:=wv.1 a;exact⟨p,b,by simpa using this⟩};{rintro⟨p,b,a⟩;exact⟨p,b,wv.2 (by simpa using a)⟩}
def uH:∀{ps:List (Int×Int)},ps.Pairwise (fun p q=>p.2<q.1)->(da ps).Pairwise (fun a b=>a<b)
 |[],_=>.nil
 |p::r,h=>by
  rw[x4]at h;show(dZ p++da r).Pairwise _;rw[agh];refine⟨R0 p,uH h.2,fun a d b c=>?_⟩;have f:=wv.1 d;obtain⟨q,e,c⟩:=adp.1 c;have g:=wv.1 c;have:=h.1 q e;omega
def Cq(e:ps.Pairwise (fun p q=>p.2<q.1))(h:∀q,q∈ps->0<=q.1/\q.1<q.2/\q.2<=(n:Int)):da ps=(upto n).filter (dW ps):=by refine yj (fun i=>i) _ _ (uH e) ((vO n).filter _) fun y=>?_;rw[nt,nX,yP];refine⟨fun a=>⟨?_,a⟩,fun a=>a.2⟩;have b:=yP.2 a;obtain⟨q,d,c⟩:=adp.1 b;have f:=wv.1 c;have g:=h q d;omega
def IE(a:ps.Pairwise (fun p q=>p.2<q.1))(h:∀q,q∈ps->0<=q.1/\q.1<q.2/\q.2<=(n:Int)):(da ps).length<=n:=by rw[Cq a h];refine fq (D0 _ _) ?_;simp[upto]
section
variable{E:Ex}{F G:Np}{H:AH}{s b c K:Nat}{x:aI}{Q:Qt}{W:Wd}{R P:List aa3}{v:bn}
def aI.fit.ack(c:x.fit)(r:Int)(m:aq x.a r<=x.kept.length)(l:x.kept.length<=100000):(x.ack r).fit:=by have p:∀n,n∈(x.ack r).again->n∈x.again/\aU n/\aq (low r) n=aq x.a n-aq x.a r/\aq (low r) n<(x.kept.drop (x.ix r)).length:=by{intro n a;have a:=nt.1 a;have b:=c.again n a.1;have d:aq r n<x.kept.length-(x.ix r:Nat):=by{simpa using a.2};have i:=fi x.a r;have q:(x.ix r:Int)=aq x.a r:=by{unfold aI.ix;omega};have e:aq (low r) n=aq r n:=JZ;have j:=c.a;have e2:aq r n=aq x.a n-aq x.a r:=by{rw[q]at d;have k:=b.2;unfold aq aU at*;omega};refine⟨a.1,b.1,e.trans e2,?_⟩;rw[e,vh];omega};refine⟨jJ r,fun n a=>⟨(p n a).2.1,(p n a).2.2.2⟩,?_⟩;show(x.ack r).again.Pairwise fun y z=>aq (low r) y<aq (low r) z;have:(x.ack r).again.Pairwise fun y z=>aq x.a y<aq x.a z:=c.rise.filter _;refine this.imp_of_mem fun{y z}f g h=>?_;have b:=(p y f).2.2.1;have d:=(p z g).2.2.1;omega
def aI.fit.opens(a:x.fit)(ms:Int):(x.opens ms).fit:=by unfold aI.opens;split;{exact⟨a.a,a.again,a.rise⟩};{exact a}
def opens_kept{x:aI}{ms:Int}:(x.opens ms).kept=x.kept/\(x.opens ms).again=x.again/\(x.opens ms).a=x.a/\(x.opens ms).s=x.s:=by unfold aI.opens;split<;>exact⟨rfl,rfl,rfl,rfl⟩
def St.CJ{k:bn}{X:acu}(S:St F G H s W (⟨k,X⟩::P)):∃g,W.le g/\St F G H s g P/\Fz g k X/\∀j n l,St F G j n g l->St F G j n W l:=by obtain⟨D,⟨i,r,a,b,c,d⟩,q⟩:=S.hold;have o:∀y,i y->_:=fun y e=>q y ((b y).2 (.inl e));refine⟨⟨fun y=>W.Z y\/i y,H⟩,fun y e=>⟨.inl e,(S.froz y e).2.2⟩,⟨S.bd,S.new,fun y e=>?_,r,d,fun y e=>?_⟩,⟨i,c,fun y e=>.inr e⟩,fun j n l f=>?_⟩;{rcases e with e|e;{exact⟨(S.froz y e).1,(S.froz y e).2.1,rfl⟩};{exact⟨(o y e).1,(o y e).2.1,rfl⟩}};{have:=q y ((b y).2 (.inr e));exact⟨this.1,this.2.1,this.2.2.1,fun m=>m.elim this.2.2.2 fun u=>a y u e⟩};{obtain⟨p,t,h⟩:=f.hold;refine⟨f.bd,f.new,fun y e=>?_,p,t,fun y e=>⟨(h y e).1,(h y e).2.1,(h y e).2.2.1,fun m=>(h y e).2.2.2 (.inl m)⟩⟩;have:=f.froz y (.inl e);exact⟨this.1,this.2.1,this.2.2.trans (S.froz y e).2.2⟩}
def Cv:∀{ps:List (Int×Int)},(∀q,q∈ps->q.1<q.2)->ps.length<=(da ps).length
 |[],_=>J
 |p::r,h=>by
  have d:=Cv (ps:=r) fun q b=>h q (ts _ b);have c:=h p (tl ..);show(p::r).length<=(dZ p++da r).length;have a:(dZ p).length=(p.2-p.1).toNat:=by simp[dZ]
  rw[dw,hH,a];omega
def YN:eL prog 328=true:=U
def Mz(M:Bare2 E)(a:x.ok K)(r mr:Int)(hl:l.length<=100000)(hK:x.kept.length<=60000)(hA:x.again.length<=30000)(S:St F G H s W (⟨aa b,cW x⟩::R))(f:Fz W v (bT l))(h:∀P s',St F G P s' W (⟨aa b,cW (x.ustat r mr l).1⟩::R)->Q (.tuple #[iv (x.ustat r mr l).2.1,iv (x.ustat r mr l).2.2]) P s'):Wp F G (CA E (n+6) 289 #[aa b,uv r,uv mr,v]) H s Q:=by have hE:=M.toBare;unfold aI.ustat at h;refine en hE [] func289 ntmps289 ?_;simp;refine cM ((calm).ls _ _) S.bd ?_;refine EG M r hl (S.ia (fun _ _=>rfl) Z S.bd (fun _ _ h=>h) S.new) S.lent (S.oa f) (fun e T s1 L O b1=>?_) (fun ps e T s1 v1 L O b1=>?_);{have B:=S.calm O (Wd.le.refl _) L;simp;unfold aI.se at e;split at e;{rename_i z;rw[eh z]at h;exact h _ _ B};{rename_i z;rw[ed z,e]at h;exact h _ _ B}};{have B:=S.calm O (Wd.le.refl _) L;simp;unfold aI.se at e;split at e;{cases e};{rename_i z;rw[ed z,e]at h;have Y:aq x.a r<=x.kept.length:=by{have:=a.len;omega};obtain⟨W',hW,S3,fz,back⟩:=St.CJ (show St F G T s1 W (⟨v1,cz ps⟩::⟨aa b,cW x⟩::R)from B);refine Li a r Y V V S3 fun H2 s2 S4=>?_;simp;refine BP S4 mr fun H3 s3 X=>?_;simp;obtain⟨y,D⟩:∃y,y=(x.ack r).opens mr:=⟨_,rfl⟩;have d:y.fit:=D▸(a.fit.ack r Y V).opens mr;have c:y.kept=x.kept.drop (x.ix r):=by{rw[D,(opens_kept).1];rfl};have m:y.again.length<=30000:=by{rw[D,(opens_kept).2.1];exact fq (D0 _ _) hA};have u:=Fx e;have g:(y.kept.length:Int)=aq r x.s:=by{rw[c,vh];have h1:=a.len;have h2:=fi x.a r;have h3:(x.ix r:Int)=aq x.a r:=by{unfold aI.ix;omega};have h4:=a.a;have h5:=a.s;unfold aq aU at*;omega};have t:∀q,q∈ps->0<=q.1/\q.1<q.2/\q.2<=(y.kept.length:Int):=fun q N=>by{rw[g];exact u.2 q N};have o:y.kept.length<=60000:=by{rw[c,vh];omega};have k:=Cq (n:=y.kept.length) u.1 t;have A:=IE (n:=y.kept.length) u.1 t;rw[<-D]at h X;have w:∀i,i∈da ps↔0<=i/\i<y.kept.length/\dW ps i=true:=fun i=>by{rw[k,nt,nX];exact and_assoc};have j:=Gk d V (dW ps) (fun _=>true) w ((uH u.1).imp fun hh e=>V);refine Gj M _ d YN (p:=fun _=>true) (fun G' C _=>MC) (fun p hp=>?_) (by have:=Cv (ps:=ps) (fun q N=>(t q N).2.1);omega) V (fun i hi=>by have:=(w i).1 hi;omega) m X fz fun H4 s4 S6=>?_;{have:=t p hp;exact⟨⟨⟨V,V⟩,⟨V,V⟩⟩,V⟩};{simp;have S7:=back _ _ _ S6;dsimp only at h;rw[<-j]at h;exact h _ _ S7}}}
end
section
variable{E:Ex}{F G:Np}{H:AH}{s b c K:Nat}{T:bW}{x:aI}{Q:Qt}{W:Wd}{R:List aa3}{v:bn}
def YO:eL prog 326=true:=U
def NW(hX:Bare2 E)(z:x.ok K)(r mr a:Int)(hl:l.length<=100000)(hK:x.kept.length<=60000)(hA:x.again.length<=30000)(S:St F G H s W (⟨aa b,cW x⟩::R))(f:Fz W v (bT l))(h:∀H' s',St F G H' s' W (⟨aa b,cW (x.stat r mr a l).1⟩::R)->Q (.tuple #[iv (x.stat r mr a l).2.1,iv (x.stat r mr a l).2.2]) H' s'):Wp F G (CA E (n+6) 286 #[aa b,uv r,uv mr,uv a,v]) H s Q:=by have hE:=hX.toBare;have hs:=S.new s Z;unfold aI.stat at h;obtain⟨q,k,w,S0⟩:=S.mT;obtain⟨kb,fb,gb,lb⟩:=S0.cell;refine en hE [(1,[],[],[])] func286 ntmps286 ?_;have S:=S.alloc [uv a] 76;have M:∀y,aG H s y b=H b:=fun y=>aH _ _ V;simp[hs,M,kb,fb,aI.cells,AM];split;{rename_i h1;rw[eh (show aq x.pa x.ps<aq x.pa a from h1)]at h;exact h _ _ S.drop};rename_i h1;rw[ed (show¬aq x.pa x.ps<aq x.pa a from h1)]at h;generalize aG H s _=H0 at S⊢;obtain⟨W0,N,S,g,u⟩:=S.CJ;have f:=f.up N;refine cM ((calm).ls _ _) S.bd ?_;refine EG hX r hl (S.ia (fun _ _=>rfl) Z S.bd (fun _ _ h=>h) S.new) S.lent (S.oa f) (fun e H1 s1 S1 u1 b1=>?_) (fun ps e H1 s1 v1 S1 u1 b1=>?_);{have P:=S.calm u1 (Wd.le.refl _) S1;simp;unfold aI.se at e;split at e;{rename_i O;rw[eh O]at h;exact h _ _ (u _ _ _ P)};{rename_i O;rw[ed O,e]at h;exact h _ _ (u _ _ _ P)}};{have P:=S.calm u1 (Wd.le.refl _) S1;simp;unfold aI.se at e;split at e;{cases e};{rename_i O;rw[ed O,e]at h;have hr:aq x.a r<=x.kept.length:=by{have:=z.len;omega};obtain⟨W',hW,S3,fz,back⟩:=St.CJ (show St F G H1 s1 W0 (⟨v1,cz ps⟩::⟨aa b,cW x⟩::R)from P);refine Li z r hr V V S3 fun H2 s2 B=>?_;obtain⟨q2,k2,w2,B⟩:=B.mT;obtain⟨hb,X,T,hj⟩:=B.cell;obtain⟨Y,hd,hg⟩:=B.cw (g.up hW);simp[hb,X,T,Y,hd,aI.cells,kX];have B:St F G _ s2 W' (⟨aa b,cW {x.ack r with pa:=low a}⟩::R):=St.jB (q:=q2) (k:=k2) (w:=w2) (x:={x.ack r with pa:=low a}) (B.set (aI.cells {x.ack r with pa:=low a} q2 k2 w2));refine BP B mr fun H3 s3 S5=>?_;simp;obtain⟨y,hy⟩:∃y,y=({x.ack r with pa:=low a}:aI).opens mr:=⟨_,rfl⟩;have o:y.fit:=hy▸aI.fit.opens (x:={x.ack r with pa:=low a}) ⟨(z.fit.ack r hr V).a,(z.fit.ack r hr V).again,(z.fit.ack r hr V).rise⟩ mr;have m:y.kept=x.kept.drop (x.ix r):=by{rw[hy,(opens_kept).1];rfl};have D:y.again.length<=30000:=by{rw[hy,(opens_kept).2.1];exact fq (D0 _ _) hA};have d:=Fx e;have L:(y.kept.length:Int)=aq r x.s:=by{rw[m,vh];have h1:=z.len;have h2:=fi x.a r;have h3:(x.ix r:Int)=aq x.a r:=by{unfold aI.ix;omega};have h4:=z.a;have h5:=z.s;unfold aq aU at*;omega};have t:∀q,q∈ps->0<=q.1/\q.1<q.2/\q.2<=(y.kept.length:Int):=fun q hq=>by{rw[L];exact d.2 q hq};have he:y.kept.length<=60000:=by{rw[m,vh];omega};have ha:=Cq (n:=y.kept.length) d.1 t;have hf:=IE (n:=y.kept.length) d.1 t;rw[<-hy]at h S5;have j:∀i,i∈da ps↔0<=i/\i<y.kept.length/\dW ps i=true:=fun i=>by{rw[ha,nt,nX];exact and_assoc};have A:=Gk o V (dW ps) (fun c=>aI.ahead c a) j ((uH d.1).imp fun hh e=>V);refine Gj hX _ o YO (p:=fun c=>aI.ahead c a) (fun G' hk C=>NZ ((g.up hW).up C)) (fun p hp=>?_) (by have:=Cv (ps:=ps) (fun q hq=>(t q hq).2.1);omega) V (fun i hi=>by have:=(j i).1 hi;omega) D S5 fz fun H4 s4 S6=>?_;{have:=t p hp;exact⟨⟨⟨V,V⟩,⟨V,V⟩⟩,V⟩};{simp;have S7:=u _ _ _ (back _ _ _ S6);dsimp only at h;rw[<-A]at h;exact h _ _ S7}}}
end
section
variable{E:Ex}{F G:Np}{H:AH}{s b c K:Nat}{x:aI}{Q:Qt}{W:Wd}{R:List aa3}{v j:bn}
theorem OA[hE:Bare E](a:x.ok K)(hK:x.kept.length<=60000)(S:St F G H s W R)(f:Fz W (aa b) (cW x))(h:∀o C v',St F G o C W (⟨v',bO x.left⟩::R)->Q v' o C):Wp F G (CA E (n+3) 196 #[aa b]) H s Q:=by obtain⟨q,k,w,X,f2,f3,f4⟩:=f.send;obtain⟨B,A,lb⟩:=S.cw X;refine en hE [] func196 ntmps196 ?_;simp[B,A,aI.cells];refine acs (fun kk l o C=>∃(i:Nat)(u:bn),i<=x.kept.length/\kk=x.kept.length-i/\l.size=34/\aF l 0=aa b/\aF l 3=u/\aF l 4=uv (aV x.a (i:Nat))/\St F G o C W (⟨u,bO ((x.kept.map (·.1)).take i)⟩::R)) (k:=x.kept.length) (by unfold LF;omega) ⟨0,aJ,J,J,J,J,J,by have:=Lg a.a;simp at this;simp[this],S.bG _ _⟩ ?_;rintro kk l H1 L⟨i,u,hi,rfl,m,M,t3,N,S⟩;rw[show l=bl l []from rfl];obtain⟨B,A,lb⟩:=S.cw X;obtain⟨c,fk,lk⟩:=S.tx f3;have Y:=J1 a.a (i:=i) V;have d:=a.len;by_cases r:i<x.kept.length;{have v:¬aV x.a (i:Nat)=x.s:=fun e=>by{rw[e]at Y;omega};simp[m,M,t3,N,B,A,aI.cells,v];rw[qC pg (z:=.agg #[.string ⟨#[]⟩,uv 0]) U (mZ _)];simp only[c,ru,rq,wD _ _ _ a.a (iU),Y,afD,ei r];refine⟨fk,?_⟩;have t:=S.new L Z;have hw:(aV x.a (i:Nat)+1)%16777216=aV x.a ((i+1:Nat):Int):=by{unfold aV;omega};simp[-bM,look0q,n9,m];refine St.append ((S.cb (T:=9) (n:=1) [[.string x.kept[i].1]] 1 rfl J rfl).cF (k1:=u) (k2:=sl L 0 1 1)) (y:=16) U (by simp;omega) fun H4 s4 a4 l4 m4 S=>?_;simp[m,M,N,mF,hw];refine⟨x.kept.length-(i+1),V,i+1,V,rfl,rfl,?_⟩;have e:(x.kept.map (·.1)).take (i+1)=(x.kept.map (·.1)).take i++[x.kept[i].1]:=by{rw[fy (by simpa using r)];simp};have e2:bI ((x.kept.map (·.1)).take (i+1))=bI ((x.kept.map (·.1)).take i)++[[.string x.kept[i].1]]:=by{rw[e];simp[bI]};have S:=S.az (sl L 0 1 1);rw[<-e2]at S;have e3:List.map (fun p=>p.1) (List.take (i+1) x.kept)=(x.kept.map (·.1)).take (i+1):=J;(first|exact S|(rw[<-e3]at S;exact S))};{have he:aV x.a (i:Nat)=x.s:=by{have h1:=a.s;have D:=a.a;unfold aq aV aU at*;omega};simp[m,M,t3,N,B,A,aI.cells,he];refine F4 S f2 fun H2 s2 j O=>?_;obtain⟨P,D⟩:=O.cK;rw[show(bI x.queue).length=x.queue.length by simp[bI]]at D;subst D;obtain rfl:i=x.kept.length:=V;have hq:=a.queue;have g:=a.qmost;simp[-bM,m];refine St.append (O.cF (k1:=u) (k2:=.slice P x.queue.length x.queue.length)) (y:=16) U (by simp;omega) fun H4 s4 a4 l4 m4 S=>?_;simp[m];have S:=S.az (.slice P x.queue.length x.queue.length);have e:bI ((x.kept.map (·.1)).take x.kept.length)++bI x.queue=bI x.left:=by{rw[wm J];simp[bI,aI.left]};rw[e]at S;exact h _ _ _ S}
end
section
variable{E:Ex}{F G:Np}{H:AH}{s:Nat}{Q:Qt}{W:Wd}{R:List aa3}{v:bn}
theorem Bf(i:Bare E)(n:Nat){l:List bm}(o:l.length<=100000)(S:St F G H s W R)(f:Fz W v (bO l))(h:∀b d e,St F G b d W (⟨e,bO l⟩::R)->Q e b d):Wp F G (CA E (n+1) 80 #[v]) H s Q:=by obtain⟨a,c,g⟩:=f.len;rw[(J:(bI l).length=l.length)]at c;subst c;have p:=S.new s Z;refine en i [] func80 ntmps80 ?_;cases a with|none=>{have j:=g rfl;have:l=[]:=by{simpa using j};subst this;simp;exact h _ _ _ (S.bG _ _)}|some a=>{simp[-bM];refine St.An (S.cb (T:=9) (n:=1) [] 0 rfl J rfl) f (y:=16) U (by simp;omega) fun k q a l m S=>?_;simp;exact h _ _ _ (by simpa using S)}
end
def xl(t:bm):acu where
 p v H D:=∃b a,v=aa b/\iz b a=true/\((t.size=0/\H b=some (.cells [a,.slice none 0 0] cr true)/\∀y,D y↔y=b)\/(0<t.size/\∃d,d≠b/\H b=some (.cells [a,.slice (some ⟨d,0,none⟩) t.size t.size] cr true)/\H d=some (.cells (eM t) 5 true)/\∀y,D y↔(y=b\/y=d)))
 loc:=by
  rintro v H l D⟨b,a,h,i,(⟨e,f,c⟩|⟨e,d,f,c,j,g⟩)⟩k
  ·exact⟨b,a,h,i,.inl ⟨e,(k b ((c b).2 rfl)).trans f,c⟩⟩
  ·exact⟨b,a,h,i,.inr ⟨e,d,f,(k b ((g b).2 (.inl rfl))).trans c,(k d ((g d).2 (.inr rfl))).trans j,g⟩⟩
def NoO:acu where
 p v H D:=∀b,¬D b
 loc:=fun h _=>h
def KN(t:bm):(eM t).length=t.size:=by unfold eM;rw[pt,P0];rfl
def Zt(t u:bm):eM (t++u)=eM t++eM u:=by unfold eM;rw[ael,agz,ahh]
def Dq(h:t.size=0):t++u=u:=by apply aeR;rw[ael];have:t.data=#[]:=Pp h;rw[this];simp
def Zp(h:u.size=0):t++u=t:=by apply aeR;rw[ael];have:u.data=#[]:=Pp h;rw[this];simp
def KK:∀l:af,oe (l.map fun c=>Value.int .u8 c.toNat)=some l
 |[]=>rfl
 |c::r=>by
  have a:(c.toNat:Int)<256:=by have:=c.toNat_lt;omega
  show(if 0<=(c.toNat:Int)/\(c.toNat:Int)<256 then(oe (r.map fun c=>Value.int .u8 c.toNat)).map (UInt8.ofNat (c.toNat:Int).toNat:: ·)else none)=_;rw[eh ⟨V,a⟩,KK r];simp
def ES:∀l:List bm,pQ (bI l).flatten=some l
 |[]=>rfl
 |x::r=>by
  have:=ES r;show(pQ (bI r).flatten).map (x:: ·)=_;rw[this];rfl
theorem LO(b:Nat)(t:bm):pK #[aa b,.string t]=AX.bind (AX.cells b) fun x=>(match x.1 with
 |[p,.slice none 0 0]=>if iz b p=true/\x.2.2=true/\x.2.1=cr/\t.size<=140737488355328 then(if t.size=0 then kM b (.slice none 0 0) 0 else AX.bind (AX.new (.cells (eM t) 5 true)) fun d=>kM b (.slice (some ⟨d,0,none⟩) t.size t.size) t.size)else AX.fail
 |[p,sl d 0 n m]=>if iz b p=true/\x.2.2=true/\x.2.1=cr/\d≠b then AX.bind (AX.cells d) fun y=>if y.2.2=true/\y.2.1=5/\y.1.length=n/\0<n/\n=m/\n+t.size<=140737488355328 then AX.bind (AX.set d none) (fun _=>AX.bind (AX.new (.cells (y.1++eM t) 5 true)) fun d2=>kM b (sl d2 0 (n+t.size) (n+t.size)) t.size)else AX.fail else AX.fail
 |_=>AX.fail):=rfl
theorem Na(b:Nat):pP #[aa b]=AX.bind (AX.cells b) fun x=>(match x.1 with
 |[p,.slice none 0 0]=>if iz b p=true/\x.2.2=true/\x.2.1=cr then AX.ret (.string ⟨#[]⟩)else AX.fail
 |[p,sl d 0 n m]=>if iz b p=true/\x.2.2=true/\x.2.1=cr/\d≠b then AX.bind (AX.cells d) fun y=>if y.2.2=true/\y.2.1=5/\y.1.length=n/\0<n/\n=m then AX.bind (AX.set d none) (fun _=>match oe y.1 with
  |some l=>AX.ret (.string ⟨l.toArray⟩)
  |none=>AX.fail)else AX.fail else AX.fail
 |_=>AX.fail):=rfl
def BD{F G:Np}{H:AH}{s b:Nat}{Q:Qt}{v p u:bn}(d:H b=some (.cells [p,u] cr true))(a:F b)(c:G b)(h:Q (.tuple #[iv n,.nilIface]) (aG H b (some (.cells [aa b,v] cr true))) s):Wp F G (kM b v n) H s Q:=by unfold kM;rw[bH,fV,d];refine⟨a,?_⟩;dsimp only;rw[eh ⟨rfl,rfl,rfl⟩,bH,nF];refine⟨a,c,?_⟩;rw[acr];exact h
def CF(a:af)(m:Nat):∀l:List (af),(∀x∈l,x.length<=m)->(Lib.join l a).length<=l.length*(m+a.length)
 |[],_=>by simp[Lib.join_nil]
 |x::r,h=>by
  have c:∀r:List (af),(∀y∈r,y.length<=m)->Lib.lens r<=r.length*m:=fun r=>by
   induction r with
   |nil=>intro _;simp[Lib.lens]
   |cons y t ih=>
    intro h;have e:=h y J;have b:=ih fun z d=>h z (by simp[d]);simp only[Lib.lens,ahu,afW,hH,ady,afe]at b⊢;omega
  rw[Lib.join_length];have b:=c (x::r) h;rw[hH]at b⊢;rw[ady]at b⊢;rw[Nat.mul_add,afA a.length];omega
def xI(T:List bm){i:Nat}(h:i<T.length)(a:u=T[i]):bI (T.take i)++[[Value.string u]]=bI (T.take (i+1)):=by subst a;rw[fy h];unfold bI;rw[ahh];rfl
section
variable{E:Ex}{F G:Np}{H:AH}{s b:Nat}{Q:Qt}{W:Wd}{R P:List aa3}{v:bn}{t u:bm}
def St.ZN(S:St F G H s W R):St F G (aG H s (some (.cells [jG,aJ] cr true))) (s+1) W (⟨aa s,xl .empty⟩::R):=
 (S.alloc [jG,aJ] cr).as (by
  rintro D⟨b,a,c,d⟩;exact⟨b,jG,a,rfl,.inl ⟨rfl,c,d⟩⟩)
def Bb(b:Nat):iz b (aa b)=true:=by simp[iz]
def LK(X:E 24=some pK)(n:Nat)(Y:t.size+u.size<=140737488355328)(S:St F G H s W (⟨aa b,xl t⟩::R))(h:∀C P,St F G C P W (⟨aa b,xl (t++u)⟩::R)->Q (.tuple #[iv u.size,.nilIface]) C P):Wp F G (CA E (n+1) 24 #[aa b,.string u]) H s Q:=by unfold cE;rw[X];obtain⟨g,N,A⟩:∃g,iz b g=true/\(b<s/\F b/\G b)/\((t.size=0/\H b=some (.cells [g,.slice none 0 0] cr true))\/(0<t.size/\∃d,d≠b/\H b=some (.cells [g,.slice (some ⟨d,0,none⟩) t.size t.size] cr true)/\H d=some (.cells (eM t) 5 true)/\(d<s/\F d/\G d))):=by{refine S.ask ?_;rintro D⟨x,g,i,w,a⟩q;cases i;rcases a with⟨a,k,c⟩|⟨a,d,k,c,L,l⟩;{exact⟨g,w,q b ((c b).2 rfl),.inl ⟨a,k⟩⟩};{exact⟨g,w,q b ((l b).2 (.inl rfl)),.inr ⟨a,d,k,c,L,q d ((l d).2 (.inr rfl))⟩⟩}};obtain⟨⟨lb,o,z⟩,A⟩:=A;have v:=S.new s Z;show Wp F G (pK #[aa b,.string u]) H s Q;rw[LO,bH,fV];rcases A with⟨O,j⟩|⟨O,d,M,j,kd,ld,K,T⟩;{rw[j];refine⟨o,?_⟩;show Wp F G (if iz b g=true/\true=true/\cr=cr/\u.size<=140737488355328 then(if u.size=0 then kM b (.slice none 0 0) 0 else AX.bind (AX.new (.cells (eM u) 5 true)) fun d=>kM b (.slice (some ⟨d,0,none⟩) u.size u.size) u.size)else AX.fail) H s Q;rw[eh ⟨N,rfl,rfl,V⟩];by_cases B:u.size=0;{rw[eh B];refine BD j o z ?_;have:=h (aG H b (some (.cells [aa b,aJ] cr true))) s (S.turn Z (S.bd.set lb) ?_);{rw[B]at this;exact this};{rintro D⟨x,p,i,w,a⟩q;cases i;rcases a with⟨a,k,c⟩|⟨a,_⟩;{refine⟨D,⟨b,aa b,rfl,Bb b,.inl ⟨by rw[adT];omega,bX _ _ _,c⟩⟩,fun y f=>⟨.inl f,(q y f).1⟩,fun y f m=>aH _ _ fun e=>m ((c y).2 e)⟩};{omega}}};{rw[ed B,bH,oG];refine BD ((aH _ _ (V:b≠s)).trans j) o z ?_;refine h _ (s+1) (S.turn (HT _) (S.bd.new.set V) ?_);rintro D⟨x,p,i,w,a⟩q;cases i;rcases a with⟨a,k,c⟩|⟨a,_⟩;{refine⟨fun y=>y=b\/y=s,⟨b,aa b,rfl,Bb b,.inr ⟨by rw[adT];omega,s,V,?_,?_,fun y=>ac6⟩⟩,fun y f=>?_,fun y f m=>?_⟩;{rw[bX,Dq a]};{rw[aH _ _ (V:s≠b),bX,Dq a]};{rcases f with rfl|rfl;{exact⟨.inl ((c y).2 rfl),V⟩};{exact⟨.inr Z,X3 _⟩}};{rw[aH _ _ (fun e=>m ((c y).2 e)),aH _ _ V]}};{omega}}};{rw[j];refine⟨o,?_⟩;show Wp F G (if iz b g=true/\true=true/\cr=cr/\d≠b then AX.bind (AX.cells d) fun y=>if y.2.2=true/\y.2.1=5/\y.1.length=t.size/\0<t.size/\t.size=t.size/\t.size+u.size<=140737488355328 then AX.bind (AX.set d none) (fun _=>AX.bind (AX.new (.cells (y.1++eM u) 5 true)) fun d2=>kM b (sl d2 0 (t.size+u.size) (t.size+u.size)) u.size)else AX.fail else AX.fail) H s Q;rw[eh ⟨N,rfl,rfl,M⟩,bH,fV,kd];refine⟨K,?_⟩;rw[eh ⟨rfl,rfl,KN t,O,rfl,Y⟩,bH,nF];refine⟨K,T,?_⟩;rw[bH,oG];refine BD ((aH _ _ (V:b≠s)).trans ((aH _ _ (adx M)).trans j)) o z ?_;have r:Bd (aG (aG (aG H d none) s (some (.cells (eM t++eM u) 5 true))) b (some (.cells [aa b,sl s 0 (t.size+u.size) (t.size+u.size)] cr true))) (s+1):=(Bd.new (S.bd.set ld)).set V;refine h _ (s+1) (S.turn (HT _) r ?_);rintro D⟨x,p,i,w,a⟩q;cases i;rcases a with⟨a,_⟩|⟨a,d',k,c,L,l⟩;{omega};{rw[j]at c;simp at c;obtain⟨_,rfl⟩:=c;refine⟨fun y=>y=b\/y=s,⟨b,aa b,rfl,Bb b,.inr ⟨by rw[adT];omega,s,V,?_,?_,fun y=>ac6⟩⟩,fun y f=>?_,fun y f m=>?_⟩;{rw[bX,adT]};{rw[aH _ _ (V:s≠b),bX,Zt]};{rcases f with rfl|rfl;{exact⟨.inl ((l y).2 (.inl rfl)),V⟩};{exact⟨.inr Z,X3 _⟩}};{rw[aH _ _ (fun e=>m ((l y).2 (.inl e))),aH _ _ (V:y≠s),aH _ _ (fun e=>m ((l y).2 (.inr e)))]}}}
def ZF(M:E 25=some pP)(S:St F G H s W (⟨aa b,xl t⟩::R))(h:∀u B,St F G u B W R->Q (.string t) u B):Wp F G (CA E (n+1) 25 #[aa b]) H s Q:=by
 unfold cE;rw[M];obtain⟨c,z,o⟩:∃c,iz b c=true/\(b<s/\F b/\G b)/\((t.size=0/\H b=some (.cells [c,.slice none 0 0] cr true))\/(0<t.size/\∃d,d≠b/\H b=some (.cells [c,.slice (some ⟨d,0,none⟩) t.size t.size] cr true)/\H d=some (.cells (eM t) 5 true)/\(d<s/\F d/\G d))):=by{refine S.ask ?_;rintro D⟨K,c,k,m,a⟩q;cases k;rcases a with⟨a,g,f⟩|⟨a,d,g,f,x,i⟩;{exact⟨c,m,q b ((f b).2 rfl),.inl ⟨a,g⟩⟩};{exact⟨c,m,q b ((i b).2 (.inl rfl)),.inr ⟨a,d,g,f,x,q d ((i d).2 (.inr rfl))⟩⟩}};obtain⟨⟨lb,v,Y⟩,o⟩:=o;show Wp F G (pP #[aa b]) H s Q;rw[Na,bH,fV];rcases o with⟨r,j⟩|⟨r,d,N,j,P,T,w,L⟩;{rw[j];refine⟨v,?_⟩;show Wp F G (if iz b c=true/\true=true/\cr=cr then AX.ret (.string ⟨#[]⟩)else AX.fail) H s Q;rw[eh ⟨z,rfl,rfl⟩,acr];have:t=⟨#[]⟩:=aeR (Pp r);rw[<-this];exact h _ _ S.drop}
 ·rw[j]
  refine⟨v,?_⟩;show Wp F G (if iz b c=true/\true=true/\cr=cr/\d≠b then AX.bind (AX.cells d) fun y=>if y.2.2=true/\y.2.1=5/\y.1.length=t.size/\0<t.size/\t.size=t.size then AX.bind (AX.set d none) (fun _=>match oe y.1 with
   |some l=>AX.ret (.string ⟨l.toArray⟩)
   |none=>AX.fail)else AX.fail else AX.fail) H s Q
  rw[eh ⟨z,rfl,rfl,N⟩,bH,fV,P];refine⟨w,?_⟩;rw[eh ⟨rfl,rfl,KN t,r,rfl⟩,bH,nF];refine⟨w,L,?_⟩;unfold eM;rw[KK];dsimp only;rw[acr,afi];have C:St F G (aG H d none) s W (⟨aa b,NoO⟩::R):=S.turn Z (S.bd.set T) (by
   rintro D⟨K,p,k,m,a⟩q;cases k;rcases a with⟨a,_⟩|⟨a,X,g,f,x,i⟩
   ·omega
   ·rw[j]at f
    simp at f;obtain⟨_,rfl⟩:=f;exact⟨fun _=>False,fun _ h=>h,fun y A=>A.elim,fun y A O=>aH _ _ fun e=>O ((i y).2 (.inr e))⟩)
  exact h _ _ C.drop
def ph(l:List bm)(a:bm):bm:=⟨(Lib.join (l.map (·.data.toList)) a.data.toList).toArray⟩
def CD(k:E 29=some n7){l:List bm}{a:bm}(e:l≠[])(w:l.length<=140737488355328)(u:(ph l a).size<=140737488355328)(S:St F G H s W P)(f:Fz W v (bO l))(h:Q (.string (ph l a)) H s):Wp F G (CA E (n+1) 29 #[v,.string a]) H s Q:=by unfold cE;rw[k];have m:v=aJ/\l=[]\/∃d o cs,v=.slice (some ⟨d,o,none⟩) l.length l.length/\H d=some (.cells cs 9 true)/\F d/\o+l.length<=cs.length/\(cs.drop o).take l.length=(bI l).flatten:=by{refine S.qn f ?_;rintro D⟨L,t,i⟩q;obtain⟨y,⟨e1,e2,-⟩|⟨d,o,cs,e1,j,r,c,b⟩⟩:=t;{exact .inl ⟨e1,by simpa[bI]using e2⟩};{have:=q d ((i d).2 (by rw[j];simp));simp[bI]at c b e1;exact .inr ⟨d,o,cs,e1,r,this.2,c,by simpa[bI]using b⟩}};rcases m with⟨rfl,rfl⟩|⟨d,o,cs,rfl,x,g,c,b⟩;{exact absurd rfl e};{show Wp F G (n7 #[.slice (some ⟨d,o,none⟩) l.length l.length,.string a]) H s Q;unfold n7;dsimp only;rw[bH,fV,x];refine⟨g,?_⟩;dsimp only;have p:(Lib.join (l.map (·.data.toList)) a.data.toList).length<=140737488355328:=by{have:(Lib.join (l.map (·.data.toList)) a.data.toList).toArray.size=_:=ahE;rw[<-this];exact u};rw[b,ES];dsimp only;{rw[eh ⟨c,rfl,ad4.2 e,w,p⟩,acr];exact h}}
end
def aK.cells(p:aK):bj:=[iv p.l0,iv p.l1,iv p.l2,iv p.l3,iv p.l4,iv p.t0,iv p.t1,iv p.t2,iv p.t3,iv p.t4]
def aK.blk(p:aK):AB:=.cells p.cells 182 true
def aK.put(p:aK)(t:Nat)(x:Int):aK:=
 match t with
 |0=>{p with l0:=x}
 |1=>{p with l1:=x}
 |2=>{p with l2:=x}
 |3=>{p with l3:=x}
 |_=>{p with l4:=x}
def aK.got(p:aK)(t:Nat):Int:=
 match t with
 |0=>p.l0
 |1=>p.l1
 |2=>p.l2
 |3=>p.l3
 |_=>p.l4
section
variable{E:Ex}{F G:Np}{H:AH}{s b:Nat}{p:aK}{Q:Qt}
def mX(a c1 c2 c3 c4:Int):Bool:=decide ((1<=a/\a<=1048576)/\(1<=c1/\c1<=1048576)/\(1<=c2/\c2<=1048576)/\(1<=c3/\c3<=1048576)/\(1<=c4/\c4<=1048576)/\c1<c3/\c2<c3)
def cfg(a c1 c2 c3 c4:Int):bn:=.agg #[iv a,iv c1,iv c2,iv c3,iv c4]
theorem GN[f:Bare E](b c1 c2 c3 c4:Int)(g:eU F G s)(h:∀c d,Fr [] H s c d->Q (iv (if mX b c1 c2 c3 c4 then 0 else 1)) c d):Wp F G (CA E (n+1) 166 #[cfg b c1 c2 c3 c4]) H s Q:=by
 refine en f [] func166 ntmps166 ?_;have p:=(g s Z).1;simp[cfg,p];refine rX 6 I ?_;have i:(c1<c3/\¬c3<=c1)\/(¬c1<c3/\c3<=c1):=V;rcases i with⟨j,a⟩|⟨j,a⟩<;>simp+contextual [fm,p,a]
 repeat' split
 all_goals
  first
  |(exfalso;omega)
  |(have e:mX b c1 c2 c3 c4=false:=by unfold mX;first|exact HQ V|exact z8 V
    simp[e]at h;exact h _ _ (Fr.refl _ _ _).new)
  |(have e:mX b c1 c2 c3 c4=true:=by unfold mX;first|exact HQ V|exact z8 V
    simp[e]at h;exact h _ _ (Fr.refl _ _ _).new)
def aK.of(a c1 c2 c3 c4:Int):aK:=⟨a,c1,c2,c3,c4,0,0,0,0,0⟩
def Qz[k:Bare E](a c1 c2 c3 c4:Int)(g:eU F G s)(i:mX a c1 c2 c3 c4=true->∀c d b,Fr [] H s c d->s<=b->b<d->c b=some (aK.of a c1 c2 c3 c4).blk->Q (.tuple #[.pointer (some ⟨b,0,none⟩),iv 0]) c d)(j:mX a c1 c2 c3 c4=false->∀c d,Fr [] H s c d->Q (.tuple #[.pointer none,iv 1]) c d):Wp F G (CA E (n+2) 109 #[cfg a c1 c2 c3 c4]) H s Q:=by have p:=(g s Z).1;refine en k [] func109 ntmps109 ?_;simp[cfg,p];refine GN a c1 c2 c3 c4 (g.up V) fun h m f=>?_;have l:h s=some (.cells [iv a,iv c1,iv c2,iv c3,iv c4] 56 true):=(f.keep s V J).trans (bX _ _ _);have o:=f.up;cases e:mX a c1 c2 c3 c4;{simp;exact j e _ _ ((Fr.refl _ _ _).new.comp f J)};{simp[l,p];exact i e _ _ m ((Fr.refl _ _ _).new.comp f J).new V V (bX _ _ _)}
end
section
variable{E:Ex}{F G:Np}{H:AH}{s b:Nat}{Q:Qt}
def eU.own(h:eU F G s){d a:Nat}(e:s<=a):eU (fun b=>F b/\(b<d\/a<=b)) (fun b=>G b/\a<=b) a:=fun k c=>⟨⟨(h k V).1,.inr c⟩,(h k V).2,c⟩
structure cX where
 most:Int
 window:Int
 queue:Int
 units:Int
 polls:Int
 start:Int
 c0:Int
 c1:Int
 c2:Int
 c3:Int
 c4:Int
def cX.cells(c:cX):bj:=[iv c.most,iv c.window,iv c.queue,iv c.units,iv c.polls,uv c.start,iv c.c0,iv c.c1,iv c.c2,iv c.c3,iv c.c4]
def jK(x m:Int):Bool:=decide (1<=x)&&decide (x<=m)
def cX.fits(c:cX):Bool:=jK c.most 16&&(jK c.window 64&&(jK c.queue 256&&(jK c.units 64&&(jK c.polls 256&&(decide (c.start=c.start%16777216)&&mX c.c0 c.c1 c.c2 c.c3 c.c4)))))
def tn[a:Bare E](n:Nat)(x m:Int):CA E (n+1) 164 #[iv x,iv m]=ret (.bool (jK x m)):=by refine jq fun H s=>?_;refine en a [] func164 ntmps164 ?_;simp+contextual [jK]
theorem B7[g:Bare E](c:cX)(d:eU F G s)(h:∀b e,Fr [] H s b e->Q (iv (if c.fits then 0 else 1)) b e):Wp F G (CA E (n+2) 107 #[.agg c.cells.toArray]) H s Q:=by have p:=(d s Z).1;refine en g [(2,[],[],[])] func107 ntmps107 ?_;cases e1:jK c.most 16;{simp[cX.cells,tn,p,e1];simpa[cX.fits,e1]using h _ _ (Fr.refl _ _ _).new};cases e2:jK c.window 64;{simp[cX.cells,tn,p,e1,e2];simpa[cX.fits,e1,e2]using h _ _ (Fr.refl _ _ _).new};cases e3:jK c.queue 256;{simp[cX.cells,tn,p,e1,e2,e3];simpa[cX.fits,e1,e2,e3]using h _ _ (Fr.refl _ _ _).new};cases e4:jK c.units 64;{simp[cX.cells,tn,p,e1,e2,e3,e4];simpa[cX.fits,e1,e2,e3,e4]using h _ _ (Fr.refl _ _ _).new};cases e5:jK c.polls 256;{simp[cX.cells,tn,p,e1,e2,e3,e4,e5];simpa[cX.fits,e1,e2,e3,e4,e5]using h _ _ (Fr.refl _ _ _).new};by_cases a:c.start=c.start%16777216;{simp[cX.cells,tn,kX,p,e1,e2,e3,e4,e5,<-a];refine GN c.c0 c.c1 c.c2 c.c3 c.c4 (d.up (HT _)) fun i j f=>?_;simp;have:=h _ _ ((Fr.refl _ _ _).new.comp f J);simpa[cX.fits,e1,e2,e3,e4,e5,<-a]using this};{simp[cX.cells,tn,kX,p,e1,e2,e3,e4,e5,a];simpa[cX.fits,e1,e2,e3,e4,e5,a]using h _ _ (Fr.refl _ _ _).new}
def aO.new(a credit:Int):aO:=⟨max 1 (min a 16),credit%16777216,1,0,-1,0,credit%16777216,.empty⟩
def YH[e:Bare E](a:Int){credit:Int}(f:eU F G s)(h:∀c d b,Fr [] H s c d->s<=b->b<d->c b=some (aO.new a credit).blk->Q (aa b) c d):Wp F G (CA E (n+2) 110 #[.agg #[iv a,uv credit]]) H s Q:=by have p:=f s Z;refine en e [(1,[],[],[])] func110 ntmps110 ?_;simp[kX,p];exact h _ _ (s+1) ((Fr.refl _ _ _).new.new) V V (bX _ _ _)
def PF[e:Bare E](a:Int)(h:∀c d b,Fr [] H s c d->s<=b->b<d->c b=some (.cells [aJ,iv 0,iv 0,iv (max 0 (min a 4096))] 241 true)->Q (aa b) c d):Wp F G (CA E (n+1) 112 #[iv a]) H s Q:=by refine en e [] func112 ntmps112 ?_;simp;exact h _ _ s (Fr.refl _ _ _).new V V (bX _ _ _)
def PG[e:Bare E]{a:Int}(h:∀c d b,Fr [] H s c d->s<=b->b<d->c b=some (.cells [aJ,iv 0,iv 0,iv (max 0 (min a 4096))] 271 true)->Q (aa b) c d):Wp F G (CA E (n+1) 113 #[iv a]) H s Q:=by refine en e [] func113 ntmps113 ?_;simp;exact h _ _ s (Fr.refl _ _ _).new V V (bX _ _ _)
def GI[j:Bare E](a:Int)(h:∀c d r b,Fr [] H s c d->s<=r->r<b->b<d->c r=some (.cells [aJ,iv 0,iv 0,iv (max 1 (min a 256))] 271 true)->c b=some (.cells [aa r,iv 0,iv 0,iv 0] 211 true)->Q (aa b) c d):Wp F G (CA E (n+2) 59 #[iv a]) H s Q:=by refine en j [] func59 ntmps59 ?_;simp;refine PG fun l k r e f g i=>?_;simp;refine h _ _ r k e.new f g V ((aH _ _ V).trans ?_) (bX _ _ _);rw[i,(V:max 0 (min (max 1 (min a 256)) 4096)=max 1 (min a 256))]
def cX.pace(c:cX):aK:=aK.of c.c0 c.c1 c.c2 c.c3 c.c4
structure DR(H:AH)(s s':Nat)(c:cX)(b bc bp br:Nat):Prop where
 ord:s<=bp/\bp<bc/\bc<br/\br<b/\b<s'
 pace:H bp=some c.pace.blk
 conn:H bc=some (aO.new c.most ((c.start+c.window)%16777216)).blk
 ring:H br=some (.cells [aJ,iv 0,iv 0,iv c.units] 241 true)
 node:H b=some (.cells (c.cells++[aa bc,aa bp,.pointer none,.pointer none,aJ,aa br,.bool false,.bool false,uv 0,.bool false,aJ]) 173 true)
def Hr[W:Bare E](c:cX)(B:eU F G s)(T:Bd H s)(R:c.fits=true->∀h m b C D K,Fr [] H s h m->DR h s m c b C D K->Q (.tuple #[aa b,iv 0]) h m)(S:c.fits=false->∀h m,Fr [] H s h m->Q (.tuple #[.pointer none,iv 1]) h m):Wp F G (CA E (n+3) 58 #[.agg c.cells.toArray]) H s Q:=by have p:=(B s Z).1;have t:Bd (aG H s (some (.cells c.cells 78 true))) (s+1):=fun k hk=>(aH _ _ V).trans (T k V);refine en W [(7,[0,12],[],[9,13])] func58 ntmps58 ?_;simp[cX.cells,p];refine cM ((calm).ls _ _) t ?_;refine B7 c (B.up (HT _)) fun H1 s1 o u1 b1=>?_;have M:=(o.keep s V J).trans (bX _ _ _);cases e:c.fits;{simp;exact S e _ _ ((Fr.refl _ _ _).new.comp o J)};have O:mX c.c0 c.c1 c.c2 c.c3 c.c4=true:=by{simp only[cX.fits,ev]at e;exact e.2.2.2.2.2.2};simp[M,p];refine cM ((calm).ls _ _) b1 ?_;refine Qz c.c0 c.c1 c.c2 c.c3 c.c4 (B.up V) (fun _ H2 s2 D L x j u u2 b2=>?_) (fun q=>by rw[O]at q;cases q);have N:=(L.keep s V J).trans M;simp[N,p,mF];have y:=o.up;have a:=L.up;refine⟨V,b2,?_⟩;refine cM ((calm).ls _ _) b2 ?_;refine YH c.most (eU.own B V) fun H3 s3 C z g f v u3 b3=>?_;have X:=(z.keep s V J).trans N;simp[X,p];refine⟨V,V,b3,?_⟩;refine cM ((calm).ls _ _) b3 ?_;refine PF c.units fun H4 Y K A i d r u4 b4=>?_;simp;have l:=z.up;have w:=A.up;have P:jK c.units 64=true:=by{simp only[cX.fits,ev]at e;exact e.2.2.2.1};simp[jK]at P;refine R e _ _ Y C D K ((((Fr.refl _ _ _).new.comp o J).comp L J).comp z J |>.comp A J).new ⟨V,?_,?_,?_,bX _ _ _⟩;{exact(aH _ _ V).trans ((A.keep _ V J).trans ((z.keep _ V J).trans u))};{exact(aH _ _ V).trans ((A.keep _ V J).trans v)};{refine(aH _ _ V).trans (r.trans ?_);rw[(V:max 0 (min c.units 4096)=c.units)]}
end
end Go.Proofs.YtlkceignfhnpoaaGreatDoor
