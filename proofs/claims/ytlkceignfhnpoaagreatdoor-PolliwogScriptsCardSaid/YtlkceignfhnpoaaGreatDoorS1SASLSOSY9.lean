/-
  Part of a proof, written small.
-/
import Derived.Test.YtlkceignfhnpoaaGreatDoorS1SASLSOSY4
import Derived.Test.YtlkceignfhnpoaaGreatDoorS1SASLSOSY8
import Derived.WalkKit
import Derived.Laws.BitsLemmas
set_option linter.all false
set_option maxRecDepth 10000
set_option maxHeartbeats 4000000
open Go.Proofs.Tryz
namespace Go.Proofs.YtlkceignfhnpoaaGreatDoor
open Go AX
variable{n i:Nat}{l:List bm}{p:Int->Bool}{y a x:Int}{f:FuncId}{S:List FuncId}{tm O:ahG}{E:FuncId->Option (ahG->AX bn)}{v:bn}[B:Bare E]
def lE(S:List FuncId):Code->Bool
 |.region _ ops _=>ops.toList.all fun o=>Nat.ble (fZ S o) 1
 |.seq a b=>lE S a&&lE S b
 |.cond _ a b=>lE S a&&lE S b
 |.block _ c=>lE S c
 |.loop c=>lE S c
 |.scope c=>lE S c
 |.skip=>true
 |.label _=>true
 |.exit _=>true
 |.ret=>true
 |_=>false
section
variable{P:c7}{call:FuncId -> ahG -> AX bn}
def bV.ite{α:Type}{c:Prop}[Decidable c]{m a:AX α}(h:bV m)(b:bV a):bV (if c then m else a):=by split<;>assumption
def Bx(f:acA S call){ops:Array Oper}:∀(l:List Oper),l.all (fun o=>Nat.ble (fZ S o) 1)=true->∀tm,bV (dy P call ops l tm)
 |[],_,tm=>by
  intro H s o h;simp[dy,AX.ret]at h;subst h;exact⟨rfl,rfl⟩
 |x::r,h,tm=>by
  intro H s o e;simp only[aes,ev]at h;unfold dy at e;cases c:j8 P call ops x tm H s with
  |none=>rw[c]at e;cases e
  |some p=>
   rw[c]at e;dsimp only at e;cases d:dy P call ops r p.val p.H p.s with
   |none=>rw[d]at e;cases e
   |some y=>
    rw[d]at e;simp only[el]at e;subst e;unfold j8 at c;have a:=(bV.bind (yu f h.1) fun v=>(aX.ret).reads) _ _ _ c;have b:=Bx f r h.2 _ _ _ _ d;exact⟨by simp[a.1,b.1],by simp[a.2,b.2]⟩
def Gv{b:ahG->AX (gi×ahG)}(h:∀tm,bV (b tm)):∀n tm,bV (jb b n tm)
 |0,tm=>aX.fail.reads
 |n+1,tm=>by
  unfold jb;refine bV.bind (h tm) fun x=>?_;split
  ·exact Gv h n _
  ·exact(aX.ret).reads
  ·exact(aX.ret).reads
def Zj(e:acA S call):∀(c:Code)(tm:ahG),lE S c=true->bV (bh P call c tm):=by intro c;induction c with|region id ops d=>{intro tm h;unfold bh;refine bV.bind ?_ fun _=>(aX.ret).reads;unfold mG;split;{refine bV.bind (Bx e _ h tm) fun x=>bV.ite (aX.ret).reads aX.fail.reads};{exact bV.bind (Bx e _ h tm) fun x=>(aX.ret).reads}}|seq a b iha ihb=>{intro tm h;simp only[lE,ev]at h;simp only[bh];refine bV.bind (iha tm h.1) fun x=>?_;split;{exact ihb _ h.2};{exact(aX.ret).reads};{exact(aX.ret).reads}}|cond c a b iha ihb=>{intro tm h;simp only[lE,ev]at h;simp only[bh];split;{exact aX.fail.reads};{split;{split;{exact iha tm h.1};{exact ihb tm h.2}};{exact aX.fail.reads}}}|block id c ih=>{intro tm h;simp only[lE]at h;simp only[bh];refine bV.bind (ih tm h) fun x=>?_;(repeat' split);(all_goals exact(aX.ret).reads)}|loop c ih=>{intro tm h;simp only[lE]at h;simp only[bh];exact Gv (fun tm=>ih tm h) _ _}|scope c ih=>{intro tm h;simp only[lE]at h;simp only[bh];exact ih tm h}|skip=>{intro tm h;unfold bh;exact(aX.ret).reads}|label k=>{intro tm h;unfold bh;exact(aX.ret).reads}|exit k=>{intro tm h;unfold bh;exact(aX.ret).reads}|ret=>{intro tm h;unfold bh;exact(aX.ret).reads}|_=>{intro tm h;cases h}
def By:∀l,bV (eQ P tm l)
 |[]=>by unfold eQ;exact(aX.ret).reads
 |.tmp t::r=>by
  unfold eQ;exact bV.bind (By r) fun b=>(aX.ret).reads
 |.cell a t::r=>by
  unfold eQ;exact bV.bind (Gw) fun v=>bV.bind (By r) fun b=>(aX.ret).reads
def KF(P:c7)(S:List FuncId):Bool:=S.all fun f=>match P.funcs[f]? with
 |some fn=>(match fn.body with|some c=>lE S c|none=>true)
 |none=>true
def KE{ext:FuncId->Option (ahG->AX bn)}(i:∀f,S.contains f=true->ext f=none)(a:∀f g b,ext f=some g->LS (g b))(d:KF P S=true):∀n,acA S (cE P ext n)
 |0=>⟨fun f _ b=>by unfold cE;exact aX.fail.reads,Cj a 0⟩
 |n+1=>⟨fun f e b=>by
  have l:=KE i a d n;unfold cE;rw[i f e];dsimp only;have h:=eu.1 d f (ac8.1 e);cases k:P.funcs[f]? with
  |none=>exact aX.fail.reads
  |some fn=>
   rw[k]at h;dsimp only at h⊢;unfold rQ;cases j:fn.body with
   |none=>exact aX.fail.reads
   |some c=>
    rw[j]at h;dsimp only at h⊢;refine bV.bind (Zj l c _ h) fun x=>?_;split
    ·exact aX.fail.reads
    ·exact bV.bind (By _) fun m=>(aX.ret).reads,Cj a _⟩
end
def Ab:List FuncId:=[140,141,264,212,182,165,248,111,309,271,60,76,256,167,8,75,274,276,275,319,322,79,242,143]
def Zk:KF prog Ab=true:=U
def calm:acA Ab (cE prog E n):=
 KE (fun f a=>B.no f (by
  have h:∀f,f∈Ab->rK.contains f=false:=I;exact h f (ac8.1 a))) B.ls Zk n
abbrev Ex:=FuncId->Option (ahG->AX bn)
abbrev Qt:=bn->AH->Nat->Prop
abbrev Np:=Nat->Prop
@[match_pattern] abbrev iv(n:Int):bn:=.int .i64 n
@[match_pattern] abbrev uv(n:Int):bn:=.int .u32 n
@[match_pattern] abbrev sl(a o n m:Nat):bn:=.slice (some ⟨a,o,none⟩) n m
noncomputable abbrev CA:=cE prog
theorem mk0(t:ahG):t=bl t []:=rfl
def wi(h:i<4611686018427387904):IntKind.i64.wrap ((i:Int)+1)=((i+1:Nat):Int):=by have:IntKind.i64.wrap ((i:Int)+1)=(i:Int)+1:=cL (by omega) (by omega);rw[this];omega
def en{E:FuncId->Option (ahG->AX bn)}{F G:Nat->Prop}{H:AH}{s d:Nat}{fn:Func}{c:Code}{args:ahG}{rs:List ResultVar}{Q:bn->AH->Nat->Prop}(B:Bare E)(l:qz)(i:prog.funcs[f]? =some fn)(m:fn.ntmps=d)(h:Wp F G (cI prog (cE prog E n) l c (bl (base args d) [])) H s (fun x e p=>match x.1 with|.exit _=>False|_=>Wp F G (eQ prog x.2 rs) e p (fun q a b=>Q (oI q) a b)))(g:fn.body=some c:=by rfl)(o:fn.results.toList=rs:=by rfl)(j:rK.contains f=false:=by decide)(k:jF Ab l c=true:=by kernel_rfl):Wp F G (cE prog E (n+1) f args) H s Q:=
 enter (calm) l (B.no _ j) i m g o k h
abbrev bI(l:List bm):List (bj):=l.map fun m=>[Value.string m]
abbrev bO(l:List bm):acu:=be 9 1 (bI l)
abbrev fK(most:Nat)(l:List bm):acu:=xb 271 9 1 most (bI l)
section
variable{E:Ex}{F G:Np}{H:AH}{s b most:Nat}{Q:Qt}{W:Wd}{R:List aa3}
def sJ[B:Bare E]{z:Int}(c:H b=some (.cells [v,iv x,iv y,iv z] 271 true))(a:F b)(h:Q (iv y) H s):Wp F G (CA E (n+1) 141 #[aa b]) H s Q:=by refine en B [] func141 ntmps141 ?_;simp[c,a];exact h
def ye[B:Bare E]{y z:Nat}(e:y<=4096)(f:z<=4096)(d:H b=some (.cells [v,iv x,iv (y:Nat),iv (z:Nat)] 271 true))(a:F b)(h:Q (iv ((z:Int)-y)) H s):Wp F G (CA E (n+1) 118 #[aa b]) H s Q:=by have c:IntKind.i64.wrap ((z:Int)-y)=(z:Int)-y:=cL V V;refine en B [(1,[],[],[])] func118 ntmps118 ?_;simp[d,a,c];exact h
def yg(B:Bare E)(n:Nat){a:Option Addr}{N x:Nat}{z:Int}(e:0<N)(f:N<=4096)(k:x<=4096)(j:H b=some (.cells [.slice a N N,iv (x:Nat),iv y,iv z] 271 true))(d:F b)(hi:i<=4096)(h:∀p:Nat,p=(x+i)%N->p<N->Q (iv (p:Nat)) H s):Wp F G (CA E (n+1) 212 #[aa b,iv (i:Nat)]) H s Q:=by have g:IntKind.i64.wrap ((x:Int)+i)=(x:Int)+i:=cL V V;have c:((x:Int)+i).tmod N=(((x+i)%N:Nat):Int):=by{rw[adZ,Int.natCast_add];exact adB V};have h:=h _ rfl (adP _ e);generalize(x+i)%N=p at c h;refine en B [(1,[],[],[])] func212 ntmps212 ?_;simp[j,d,g,pA (V:(N:Int)≠0),c];exact h
theorem F4[B:Bare E](S:St F G H s W R)(f:Fz W (aa b) (fK most l))(h:∀z C v,St F G z C W (⟨v,bO l⟩::R)->Q v z C):Wp F G (CA E (n+2) 269 #[aa b]) H s Q:=by obtain⟨v,r,a,j,D,L⟩:=f.ring;obtain⟨av,rfl,_⟩:=L.len;obtain⟨m,A,lb⟩:=S.cw D;have hl:(bI l).length=l.length:=J;have hf:=j.few;have hc:=j.cap;have hm:=j.most;rw[hl]at m hf D;refine en B [(5,[],[],[])] func269 ntmps269 ?_;simp[m,A];refine acs (fun P tm z C=>∃i v,i<=l.length/\P=l.length-i/\tm.size=26/\aF tm 0=aa b/\aF tm 3=v/\aF tm 8=iv l.length/\aF tm 9=iv (i:Nat)/\St F G z C W (⟨v,bO (l.take i)⟩::R)) (k:=l.length) (by unfold LF;omega) ⟨0,aJ,J,J,J,J,J,J,J,S.bG _ _⟩ ?_;rintro P tm H1 T⟨i,v,hi,rfl,K,M,h3,N,O,S⟩;rw[show tm=bl tm []from rfl];simp[K,M,h3,N,O];split;{rename_i q;obtain⟨m,A,lb⟩:=S.cw D;have c:=S.new T Z;have hw:=wi (i:=i) V;obtain⟨t,x⟩:=j.item (i:=i) (by simpa using q);obtain⟨d,o,Y,rfl,kd,fd,ld,ho,w⟩:=S.mo L t;have e1:=jj (show(Y.drop (o+(a+i)%r.length*1)).take 1=[Value.string l[i]]by rw[w,x];simp);simp[m,A];refine yg B _ V V (by have:=j.pos;omega) m A V fun p hp u=>?_;rw[<-hp,ahd]at e1;simp[K,u,kd,fd,e1];refine St.append ((S.cb [[Value.string l[i]]] 1 rfl J rfl).cF (k1:=v)) (y:=16) U (by simp;omega) fun X s2 a2 l2 m2 S=>?_;simp[K,M,N,O];refine⟨l.length-(i+1),V,i+1,V,rfl,hw,?_⟩;have S:=S.az (sl T 0 1 1);have e:bI (l.take (i+1))=bI (l.take i)++[[Value.string l[i]]]:=by{show(l.take (i+1)).map _=(l.take i).map _++_;rw[ahi,ei q,ahx,ahh];rfl};show St F G X s2 W (⟨_,be _ 1 (bI (l.take (i+1)))⟩::R);rw[e];exact S};{rename_i g;obtain rfl:i=l.length:=V;rw[zs]at S;exact h _ _ _ S}
theorem Px[B:Bare E](S:St F G H s W (⟨aa b,fK most []⟩::R))(h:Q (.tuple #[.string ⟨#[]⟩,iv 9]) H s):Wp F G (CA E (n+1) 211 #[aa b]) H s Q:=by obtain⟨v,p,a,f,S⟩:=S.iP;obtain⟨d,c,e,g⟩:=S.cell;refine en B [(4,[],[],[])] func211 ntmps211 ?_;simp[d,c];exact h
theorem Py[B:Bare E]{x:bm}(S:St F G H s W (⟨aa b,fK most (x::l)⟩::R))(h:Q (.tuple #[.string x,iv 0]) H s):Wp F G (CA E (n+1) 211 #[aa b]) H s Q:=by obtain⟨v,p,a,f,S⟩:=S.iP;obtain⟨w,j,A,K⟩:=S.cell;have e:=f.few;simp at e;obtain⟨g,m⟩:=(S.ae v).cK;subst m;obtain⟨r,q⟩:=f.item (i:=0) J;have c:a<p.length:=by{rcases f.pos with h|h;{exact h};{rw[h.2]at e;simp at e}};rw[ahs,x3 c]at r;have q:p[a]=[Value.string x]:=by{have:=q;simp only[ahs,x3 c]at this;simpa using this};obtain⟨d,o,z,rfl,y,k,C,L,D,u⟩:=(S.ae (.slice g p.length p.length)).row c;have e1:=jj (u.trans q);rw[ahd]at e1;have t:((List.length (bI (x::l)):Nat):Int)≠0:=by{simp;omega};refine en B [(4,[],[],[])] func211 ntmps211 ?_;simp[w,j,c,y,k,e1];rw[ed V];exact h
theorem F1[B:Bare E](S:St F G H s W (⟨aa b,fK most []⟩::R))(h:Q (.tuple #[.string ⟨#[]⟩,iv 9]) H s):Wp F G (CA E (n+2) 131 #[aa b]) H s Q:=by refine en B [(4,[],[],[])] func131 ntmps131 ?_;simp;refine Px S ?_;simp;exact h
theorem F2[B:Bare E]{x:bm}(S:St F G H s W (⟨aa b,fK most (x::l)⟩::R))(h:∀k y,St F G k y W (⟨aa b,fK most l⟩::R)->Q (.tuple #[.string x,iv 0]) k y):Wp F G (CA E (n+2) 131 #[aa b]) H s Q:=by refine en B [(4,[],[],[])] func131 ntmps131 ?_;simp;refine Py S ?_;obtain⟨v,rows,a,c,S⟩:=S.iP;obtain⟨u,f,D,Y⟩:=S.cell;have j:=c.few;have T:=c.cap;have X:=c.most;simp at j;obtain⟨A,M⟩:=(S.ae v).cK;subst M;have g:a<rows.length:=by{rcases c.pos with h|h;{exact h};{rw[h.2]at j;simp at j}};obtain⟨d,o,P,rfl,w,C,K,ld,m,-⟩:=(S.ae (.slice A rows.length rows.length)).row g;have e:=(S.ae (.slice (some ⟨d,o,none⟩) rows.length rows.length)).setRow g [Value.string ⟨#[]⟩] rfl w;rw[ahd]at e;obtain⟨q,-,-,-⟩:=(e.ae (aa b)).cell;have r:((List.length (bI (x::l)):Nat):Int)=(l.length:Int)+1:=J;have O:IntKind.i64.wrap (l.length:Int)=l.length:=cL V V;rw[r]at u q;simp only[cu]at q;rw[ahd]at m;simp[u,f,g,w,C,K,m];refine yg B _ (N:=rows.length) (x:=a) (i:=1) V V V (by simpa using q) f V fun p L t=>?_;simp[q,f,D,O];have z:=(e.ae (aa b)).set [.slice (some ⟨d,o,none⟩) rows.length rows.length,iv (p:Nat),iv (l.length:Nat),iv (most:Nat)];refine h _ _ (St.nO (a:=p) (rows:=rows.set a [Value.string ⟨#[]⟩]) (v:=.slice (some ⟨d,o,none⟩) rows.length rows.length) ?_ ?_);{have:=c.take (x:=[Value.string x]) [Value.string ⟨#[]⟩];rw[L];exact this};{simpa using z}
theorem Pw[B:Bare E](hl:l.length<most)(S:St F G H s W (⟨aa b,fK most l⟩::R))(h:∀k w v c a,gE c a (bI l) most->l.length<c.length->St F G k w W (⟨aa b,aE [v,iv (a:Nat),iv ((bI l).length:Nat),iv (most:Nat)] 271⟩::⟨v,be 9 1 c⟩::R)->Q (.tuple #[]) k w):Wp F G (CA E (n+3) 266 #[aa b]) H s Q:=by have y:=S;obtain⟨v,c,a,d,S⟩:=S.iP;obtain⟨j,i,u,K⟩:=S.cell;have hf:=d.few;have Y:=d.cap;have hm:=d.most;obtain⟨T,C⟩:=(S.ae v).cK;subst C;refine en B [(0,[],[],[])] func266 ntmps266 ?_;have p:(bI l).length=l.length:=J;have D:IntKind.i64.wrap (2*(c.length:Int))=2*(c.length:Int):=cL V V;obtain⟨N,X⟩:∃N:Nat,N=min most (max 4 (2*c.length)):=⟨_,rfl⟩;have e:min (most:Int) (max 4 (2*(c.length:Int)))=(N:Int):=V;simp[j,i,D,e];refine St.makeSlice y (e:=9) (z:=.string ⟨#[]⟩) (zr:=[.string ⟨#[]⟩]) (by_:=16) U U U U rfl J (by rfl) N V (cL V V) fun S=>?_;generalize aG H s (some (.cells (List.replicate N [Value.string ⟨#[]⟩]).flatten 9 true))=O at S⊢;simp;refine cM ((calm).ls _ _) S.bd ?_;have f:=(S.ae (aa b)).lent;refine F4 (S.ia (fun _ _=>rfl) Z S.bd (fun _ _ h=>h) S.new) f fun x L v2 m q r=>?_;have g:=S.calm q (Wd.le.refl _) m;obtain⟨t,A⟩:=m.cK;subst A;have g:St F G x L W (⟨_,bO l⟩::⟨sl s 0 N N,be 9 1 (List.replicate N [Value.string ⟨#[]⟩])⟩::⟨aa b,fK most l⟩::R):=g;generalize(bI l).length=M at g⊢;simp;refine St.copy (g.cF (k1:=sl s 0 N N) (k2:=.slice t M M)) U U (by simp;omega) fun P S=>?_;obtain⟨v,c,a,d,S⟩:=(S.ae (aa b)).iP;obtain⟨j,i,u,K⟩:=S.cell;simp[j,i,u];refine h _ _ (sl s 0 N N) _ 0 (d.grow [Value.string ⟨#[]⟩] (n:=N) (by rw[p];omega) V V) (by simp;omega) ?_;have o:=((S.set [sl s 0 N N,iv 0,iv ((bI l).length:Nat),iv (most:Nat)]).az v).az (.slice t M M);rw[agx,p]at o;rw[p];exact o
def Pu[B:Bare E](m:bm)(f:l.length=most)(S:St F G H s W (⟨aa b,fK most l⟩::R))(h:Q (iv 7) H s):Wp F G (CA E (n+4) 187 #[aa b,.string m]) H s Q:=by obtain⟨v,q,a,c,S⟩:=S.iP;obtain⟨d,e,i,o⟩:=S.cell;have k:=c.few;have j:=c.cap;have g:=c.most;have p:(bI l).length=l.length:=J;rw[p]at d;refine en B [(3,[],[],[]),(5,[],[],[])] func187 ntmps187 ?_;simp;refine ye V g d e ?_;simp[f];exact h
theorem F3[B:Bare E](m:bm)(hl:l.length<most)(S:St F G H s W (⟨aa b,fK most l⟩::R))(h:∀H' s',St F G H' s' W (⟨aa b,fK most (l++[m])⟩::R)->Q (iv 0) H' s'):Wp F G (CA E (n+4) 187 #[aa b,.string m]) H s Q:=by have S0:=S;obtain⟨v,rows,a,f,S⟩:=S.iP;obtain⟨g,j,M,lb⟩:=S.cell;have P:=f.few;have hc:=f.cap;have hm:=f.most;have q:(bI l).length=l.length:=J;obtain⟨D,X⟩:=(S.ae v).cK;subst X;have c:=g;rw[q]at g P;have y:((most:Int)-l.length)≠0:=V;refine en B [(3,[],[],[]),(5,[],[],[])] func187 ntmps187 ?_;simp;refine ye V hm g j ?_;simp[y,g,j];by_cases hq:l.length=rows.length;{rw[eh V];refine Pw hl S0 fun H1 s1 v rows a f w S=>?_;obtain⟨g,j,M,lb⟩:=S.cell;have P:=f.few;have hc:=f.cap;have hm:=f.most;obtain⟨D,X⟩:=(S.ae v).cK;subst X;have c:=g;rw[q]at g P;simp[g,j];refine yg B _ (N:=rows.length) (x:=a) (i:=l.length) V V (by have:=f.pos;omega) g j V fun p T t=>?_;obtain⟨d,o,cs,rfl,A,L,O,ld,z,-⟩:=(S.ae (.slice D rows.length rows.length)).row t;rw[ahd]at z;have k:=(S.ae (.slice (some ⟨d,o,none⟩) rows.length rows.length)).setRow t [Value.string m] rfl A;rw[ahd]at k;obtain⟨r,-,-,-⟩:=(k.ae (aa b)).cell;simp only[cu]at r;have Y:IntKind.i64.wrap ((l.length:Int)+1)=((l.length+1:Nat):Int):=by{have:IntKind.i64.wrap ((l.length:Int)+1)=(l.length:Int)+1:=cL V V;rw[this];omega};rw[q]at r;simp[r,j,M,t,A,L,O,z,Y];have C:=(k.ae (aa b)).set [.slice (some ⟨d,o,none⟩) rows.length rows.length,iv (a:Nat),iv ((l.length+1:Nat):Int),iv (most:Nat)];have u:=f.put (by rw[q];exact w) [Value.string m];rw[q,<-T]at u;have e:bI (l++[m])=bI l++[[Value.string m]]:=J;have K:(bI (l++[m])).length=l.length+1:=J;refine h _ _ (St.nO (a:=a) (rows:=rows.set p [Value.string m]) (v:=.slice (some ⟨d,o,none⟩) rows.length rows.length) (by rw[e];exact u) ?_);rw[K];exact C};{rw[ed V];have w:l.length<rows.length:=V;refine yg B _ (N:=rows.length) (x:=a) (i:=l.length) V V (by have:=f.pos;omega) g j V fun p T t=>?_;obtain⟨d,o,cs,rfl,A,L,O,ld,z,-⟩:=(S.ae (.slice D rows.length rows.length)).row t;rw[ahd]at z;have k:=(S.ae (.slice (some ⟨d,o,none⟩) rows.length rows.length)).setRow t [Value.string m] rfl A;rw[ahd]at k;obtain⟨r,-,-,-⟩:=(k.ae (aa b)).cell;simp only[cu]at r;have Y:IntKind.i64.wrap ((l.length:Int)+1)=((l.length+1:Nat):Int):=by{have:IntKind.i64.wrap ((l.length:Int)+1)=(l.length:Int)+1:=cL V V;rw[this];omega};rw[q]at r;simp[r,j,M,t,A,L,O,z,Y];have C:=(k.ae (aa b)).set [.slice (some ⟨d,o,none⟩) rows.length rows.length,iv (a:Nat),iv ((l.length+1:Nat):Int),iv (most:Nat)];have u:=f.put (by rw[q];exact w) [Value.string m];rw[q,<-T]at u;have e:bI (l++[m])=bI l++[[Value.string m]]:=J;have K:(bI (l++[m])).length=l.length+1:=J;refine h _ _ (St.nO (a:=a) (rows:=rows.set p [Value.string m]) (v:=.slice (some ⟨d,o,none⟩) rows.length rows.length) (by rw[e];exact u) ?_);rw[K];exact C}
end
section
open Go.RowKit
theorem Ce(x:Int)(i:Nat)(hi:i<=31):bits .and .u32 x (2^i-1)=x%2^i:=by have p:0<2^i:=ae3 i;have q:2^i<=2^31:=ads I hi;have b:((2:Int)^i-1)=((2^i-1:Nat):Int):=by{rw[ae7 p];simp};have a:IntKind.u32.bits=32:=rfl;have d:(2:Int)^i=((2^i:Nat):Int):=J;simp only[bits,b,aew,ad0,ahB,aeK,a];rw[x3 (V:2^i-1<2^32),ahn,d];have e:(((x%(2^32:Nat)).toNat:Nat):Int)=x%(2^32:Nat):=adL (adf _ I);have c:(((x%(2^32:Nat)).toNat%2^i:Nat):Int)=x%((2^i:Nat):Int):=by{rw[adZ,e];exact aev x (aeb.2 (ae4 2 V))};rw[c,IntKind.wrap_u32];have f:=adf x (V:((2^i:Nat):Int)≠0);have g:=adC x (V:(0:Int)<((2^i:Nat):Int));omega
def Tb(x:Int)(i:Nat)(hi:i<=62):bits .and .i64 x (2^i-1)=x%2^i:=by have p:0<2^i:=ae3 i;have q:2^i<=2^62:=ads I hi;have b:((2:Int)^i-1)=((2^i-1:Nat):Int):=by{rw[ae7 p];simp};have a:IntKind.i64.bits=64:=rfl;have d:(2:Int)^i=((2^i:Nat):Int):=J;simp only[bits,b,aew,ad0,ahB,aeK,a];rw[x3 (V:2^i-1<2^64),ahn,d];have e:(((x%(2^64:Nat)).toNat:Nat):Int)=x%(2^64:Nat):=adL (adf _ I);have c:(((x%(2^64:Nat)).toNat%2^i:Nat):Int)=x%((2^i:Nat):Int):=by{rw[adZ,e];exact aev x (aeb.2 (ae4 2 V))};rw[c,IntKind.wrap_i64];have f:=adf x (V:((2^i:Nat):Int)≠0);have g:=adC x (V:(0:Int)<((2^i:Nat):Int));omega
@[simp ↓] theorem abu{P:c7}{call:FuncId->ahG->AX bn}{d:Option Tmp}{ty:bW}{pos:String}{a:Array Edge}{g:Option (Nat×Bool)}{c:Array bW}(b:eL P f=true):bA P call ⟨d,.call ⟨.value (.func f),#[],c⟩,ty,pos,a,g⟩ tm=call f #[]:=by rw[Hf (by rfl) b];simp
section
variable{P:c7}{T:bW}{c d:Operand}{x:Int}
@[simp] theorem acN:bZ P .and T c d (uv x) (uv 16777215)=ret (uv (x%16777216)):=by have h:bits .and .u32 x 16777215=x%16777216:=Ce x 24 I;rw[Am,<-h];rfl
@[simp] theorem acO:bZ P .and T c d (iv x) (iv 16777215)=ret (iv (x%16777216)):=by have h:bits .and .i64 x 16777215=x%16777216:=Tb x 24 I;rw[Am,<-h];rfl
end
@[simp] theorem acM{c d:Operand}(a b:Bool):bZ prog .eql 4 c d (.bool a) (.bool b)=ret (.bool (a==b)):=U
variable{E:Ex}
def kX[B:Bare E](n:Nat)(x:Int):CA E (n+1) 165 #[uv x]=ret (uv (x%16777216)):=by refine jq fun H s=>?_;refine en B [] func165 ntmps165 ?_;simp
def Rp[B:Bare E](n:Nat)(x:Int):CA E (n+1) 167 #[iv x]=ret (uv (x%16777216)):=by refine jq fun H s=>?_;refine en B [] func167 ntmps167 ?_;simp;rw[IntKind.wrap_u32];omega
def mF[B:Bare E](n:Nat)(x y:Int):CA E (n+2) 111 #[uv x,iv y]=ret (uv ((x+y)%16777216)):=by refine jq fun H s=>?_;refine en B [] func111 ntmps111 ?_;simp[kX,Rp];have a:IntKind.i64.wrap (x%16777216)=x%16777216:=cL V V;have b:IntKind.i64.wrap (x%16777216+y%16777216)=x%16777216+y%16777216:=cL V V;simp[a,b]
def gI[B:Bare E](n:Nat)(x y:Int):CA E (n+1) 271 #[uv x,uv y]=ret (iv ((y-x)%16777216)):=by refine jq fun H s=>?_;refine en B [] func271 ntmps271 ?_;simp;have a:IntKind.i64.wrap ((IntKind.u32.wrap (y-x))%16777216)=(IntKind.u32.wrap (y-x))%16777216:=cL V V;rw[a,IntKind.wrap_u32];omega
end
section
variable{E:Ex}
def aaL[B:Bare E](n:Nat)(x y:Int):CA E (n+2) 327 #[uv x,uv y]=ret (.bool (decide (0<(y-x)%16777216)&&decide ((y-x)%16777216<8388608))):=by refine jq fun H s=>?_;refine en B [] func327 ntmps327 ?_;by_cases h:0<(y-x)%16777216;{simp[gI,h]};{simp[gI,h]}
def AM[B:Bare E](n:Nat)(a x b:Int):CA E (n+2) 322 #[uv a,uv x,uv b]=ret (.bool (decide ((x-a)%16777216<=(b-a)%16777216))):=by refine jq fun H s=>?_;refine en B [] func322 ntmps322 ?_;simp[gI]
def Ag[B:Bare E](n:Nat)(a x b:Int):CA E (n+2) 319 #[uv a,uv x,uv b]=ret (.bool (decide ((x-a)%16777216<(b-a)%16777216))):=by refine jq fun H s=>?_;refine en B [] func319 ntmps319 ?_;simp[gI]
def SQ[B:Bare E](n:Nat)(base a b:Int):CA E (n+2) 309 #[uv base,uv a,uv b]=ret (uv (if(b-base)%16777216<=(a-base)%16777216 then a%16777216 else b%16777216)):=by refine jq fun H s=>?_;refine en B [] func309 ntmps309 ?_;by_cases h:(b-base)%16777216<=(a-base)%16777216;{simp[gI,kX,h]};{simp[gI,kX,h]}
end
def n9(p:bm×Int):bn:=.agg #[.string p.1,uv p.2]
def dA:Int->List (bm×Int)->List (bn×bn)
 |_,[]=>[]
 |a,p::r=>(uv a,n9 p)::dA (aV a 1) r
def zj:∀(l:List (bm×Int))(a:Int),(dA a l).length=l.length
 |[],_=>rfl
 |p::r,a=>by simp[dA,zj r]
def C0:aq a a=0:=by simp[aq]
def CY{n:Int}(b:aU a)(c:aU n)(h:aq a n=0):n=a:=by unfold aq aU at*;omega
def zI{n:Int}(b:aU a)(c:aU n)(h:aq a n≠0):aq (aV a 1) n=aq a n-1:=by unfold aq aV aU at*;omega
def iU{n:Int}:aU (aV a n):=⟨aaP,aaQ⟩
def jJ(a:Int):aU (low a):=⟨Ua,Uc⟩
theorem tz{k c:IntKind}{b:Int}:gR (.int k a) (.int c b)=(a==b):=rfl
def wD:∀(l:List (bm×Int))(a n:Int),aU a->aU n->iZ (uv n) (dA a l)=(l[(aq a n).toNat]?).map n9
 |[],a,n,ha,hn=>by simp[dA,iZ]
 |p::r,a,n,ha,hn=>by
  unfold dA iZ;rw[tz];by_cases e:n=a
  ·subst e
   simp[C0]
  ·have b:aq a n≠0:=fun h=>e (CY ha hn h)
   have c:=fi a n;simp only[ahr,e,RP];rw[wD r _ _ (iU) hn,zI ha hn b,(V:(aq a n).toNat=(aq a n-1).toNat+1)];rfl
def IT:∀(l:List (bm×Int))(a n:Int)(q:bm×Int),aU a->aU n->aq a n<l.length->jD (uv n) (n9 q) (dA a l)=dA a (l.set (aq a n).toNat q)
 |[],a,n,q,ha,hn,h=>by have:=fi a n;simp at h;omega
 |p::r,a,n,q,ha,hn,h=>by
  unfold dA jD;rw[tz];by_cases e:n=a
  ·subst e
   simp[C0]
  ·have b:aq a n≠0:=fun h=>e (CY ha hn h)
   have c:=fi a n;simp only[ahr,e,RP];rw[IT r _ _ q (iU) hn (by rw[zI ha hn b];simp at h;omega),zI ha hn b,(V:(aq a n).toNat=(aq a n-1).toNat+1)];rfl
def IU:∀(l:List (bm×Int))(a n:Int)(q:bm×Int),aU a->aU n->aq a n=l.length->jD (uv n) (n9 q) (dA a l)=dA a (l++[q])
 |[],a,n,q,ha,hn,h=>by
  obtain rfl:=CY ha hn (by simpa using h);rfl
 |p::r,a,n,q,ha,hn,h=>by
  have b:aq a n≠0:=by simp at h;omega
  have e:n≠a:=fun e=>b (by rw[e,C0]);show jD _ _ ((uv a,n9 p)::dA (aV a 1) r)=_;unfold jD;rw[tz];simp only[ahr,e,RP];rw[IU r _ _ q (iU) hn (by rw[zI ha hn b];simp at h;omega)];rfl
def Vy(p:bm×Int)(r:List (bm×Int))(a:Int):mw (uv a) (dA a (p::r))=dA (aV a 1) r:=by show mw _ ((uv a,n9 p)::dA (aV a 1) r)=_;unfold mw;rw[tz];simp
def ru:∀(l:List (bm×Int))(a:Int),(dA a l).all (fun p=>dI prog 76 p.1)=true
 |[],_=>rfl
 |p::r,a=>by
  show(dI prog 76 (uv a)&&(dA (aV a 1) r).all _)=true;rw[ru r,aet];kernel_rfl
def mZ(a:Int):dI prog 76 (uv a)=true:=U
abbrev cC(l:List Int):List (bj):=l.map fun n=>[uv n]
abbrev bT(l:List Int):acu:=be 76 1 (cC l)
def aI.cells(x:aI)(q k:Nat)(w:bn):bj:=[uv x.s,uv x.a,uv x.ms,uv x.ps,uv x.pa,iv x.units,iv x.polls,aa q,.map (some k),w]
def cW(x:aI):acu:=kH (α:=Nat×Nat×bn) (fun q v=>[⟨v,aE (x.cells q.1 q.2.1 q.2.2) 244⟩,⟨aa q.1,fK x.qmost.toNat x.queue⟩,⟨.map (some q.2.1),iu (dA x.a x.kept)⟩,⟨q.2.2,bT x.again⟩]) (fun _=>True)
section
variable{E:Ex}{F G:Np}{H:AH}{s b K:Nat}{x:aI}{Q:Qt}{W:Wd}{R P:List aa3}
def St.mT(S:St F G H s W (⟨aa b,cW x⟩::R)):∃q k w,St F G H s W (⟨aa b,aE (x.cells q k w) 244⟩::⟨aa q,fK x.qmost.toNat x.queue⟩::⟨.map (some k),iu (dA x.a x.kept)⟩::⟨w,bT x.again⟩::R):=by obtain⟨⟨q,k,w⟩,_,S⟩:=S.opens;exact⟨q,k,w,S⟩
def St.jB{q k:Nat}{w:bn}(S:St F G H s W (⟨aa b,aE (x.cells q k w) 244⟩::⟨aa q,fK x.qmost.toNat x.queue⟩::⟨.map (some k),iu (dA x.a x.kept)⟩::⟨w,bT x.again⟩::R)):St F G H s W (⟨aa b,cW x⟩::R):=S.nz (q,k,w) trivial
def Fz.send(f:Fz W (aa b) (cW x)):∃q k w,Fz W (aa b) (aE (x.cells q k w) 244)/\Fz W (aa q) (fK x.qmost.toNat x.queue)/\Fz W (.map (some k)) (iu (dA x.a x.kept))/\Fz W w (bT x.again):=by obtain⟨⟨q,k,w⟩,_,a⟩:=f.opens;exact⟨q,k,w,a ⟨aa b,_⟩ (List.Mem.head _),a ⟨aa q,_⟩ (List.Mem.tail _ (List.Mem.head _)),a ⟨.map (some k),_⟩ (List.Mem.tail _ (List.Mem.tail _ (List.Mem.head _))),a ⟨w,_⟩ (List.Mem.tail _ (List.Mem.tail _ (List.Mem.tail _ (List.Mem.head _))))⟩
theorem BP[B:Bare E](S:St F G H s W (⟨aa b,cW x⟩::R))(ms:Int)(h:∀g i,St F G g i W (⟨aa b,cW (x.opens ms)⟩::R)->Q (.tuple #[]) g i):Wp F G (CA E (n+2) 200 #[aa b,uv ms]) H s Q:=by obtain⟨q,k,w,S⟩:=S.mT;obtain⟨f,d,j,l⟩:=S.cell;refine en B [(1,[],[],[])] func200 ntmps200 ?_;by_cases a:(ms-x.a)%16777216<=8388608;{by_cases c:(x.ms-x.a)%16777216<=(ms-x.a)%16777216;{simp[f,d,j,aI.cells,gI,kX,a,c];refine h _ _ ?_;have e:x.opens ms={x with ms:=low ms}:=by{unfold aI.opens;rw[eh ⟨a,c⟩]};rw[e];exact St.jB (q:=q) (k:=k) (w:=w) (x:={x with ms:=low ms}) (S.set _)};{simp[f,d,aI.cells,gI,a,c];refine h _ _ ?_;have e:x.opens ms=x:=by{unfold aI.opens;rw[ed (fun h=>c h.2)]};rw[e];exact St.jB S}};{simp[f,d,aI.cells,gI,a];refine h _ _ ?_;have e:x.opens ms=x:=by{unfold aI.opens;rw[ed (fun h=>a h.1)]};rw[e];exact St.jB S}
theorem XZ[B:Bare E](S:St F G H s W P)(f:Fz W (aa b) (cW x))(h:Q (.bool x.due) H s):Wp F G (CA E (n+1) 179 #[aa b]) H s Q:=by obtain⟨q,k,w,a,e,g,i⟩:=f.send;obtain⟨d,c,j⟩:=S.cw a;refine en B [(1,[],[],[])] func179 ntmps179 ?_;simp[d,c,aI.cells];exact h
theorem GG[B:Bare E](S:St F G H s W (⟨aa b,cW x⟩::R))(h:∀a c,St F G a c W (⟨aa b,cW x.poll⟩::R)->Q (.tuple #[uv x.poll.ps,uv x.s]) a c):Wp F G (CA E (n+3) 180 #[aa b]) H s Q:=by obtain⟨q,k,w,S⟩:=S.mT;obtain⟨f,d,e,g⟩:=S.cell;refine en B [(2,[],[],[])] func180 ntmps180 ?_;simp[f,d,e,aI.cells,mF];exact h _ _ (St.jB (q:=q) (k:=k) (w:=w) (x:=x.poll) (S.set _))
def pg:iH prog 242=some (76,342):=U
theorem V6[B:Bare E](S:St F G H s W P)(f:Fz W (aa b) (cW x))(h:Q (.bool x.idle) H s):Wp F G (CA E (n+2) 256 #[aa b]) H s Q:=by obtain⟨q,k,w,i,j,l,C⟩:=f.send;obtain⟨g,c,K⟩:=S.cw i;obtain⟨v,p,a,D,A,N⟩:=j.ring;obtain⟨z,r,M⟩:=S.cw A;obtain⟨u,o,L⟩:=S.tx l;refine en B [] func256 ntmps256 ?_;simp[g,c,aI.cells];refine sJ z r ?_;unfold aI.idle at h;cases e:x.queue with|nil=>{rw[e]at h;simp[g,c,aI.cells,AK pg,u,o,zj];cases d:x.kept with|nil=>{rw[d]at h;simpa using h}|cons y t=>{rw[d]at h;simpa[(V:¬((t.length:Int)+1=0))]using h}}|cons m t=>{rw[e]at h;simp[(V:¬((t.length:Int)+1=0))];simpa using h}
theorem Vv[B:Bare E](S:St F G H s W P)(f:Fz W (aa b) (cW x))(h:Q (.bool x.lacks) H s):Wp F G (CA E (n+2) 174 #[aa b]) H s Q:=by obtain⟨q,k,w,g,i,r,u⟩:=f.send;obtain⟨e,c,z⟩:=S.cw g;obtain⟨v,p,a,y,o,C⟩:=i.ring;obtain⟨l,j,A⟩:=S.cw o;refine en B [(1,[],[],[])] func174 ntmps174 ?_;simp[e,c,aI.cells];refine sJ l j ?_;unfold aI.lacks at h;cases d:x.queue with|nil=>{rw[d]at h;simp;simpa using h}|cons m t=>{rw[d]at h;simp[(V:(0:Int)<(t.length:Int)+1),e,c,aI.cells];simpa using h}
theorem Qo[B:Bare E](S:St F G H s W (⟨aa b,cW x⟩::R))(m:bm)(e:x.queue.length<x.qmost.toNat)(h:∀a c,St F G a c W (⟨aa b,cW (x.put m)⟩::R)->Q (iv 0) a c):Wp F G (CA E (n+5) 169 #[aa b,.string m]) H s Q:=by obtain⟨q,k,w,S⟩:=S.mT;obtain⟨f,d,i,j⟩:=S.cell;refine en B [] func169 ntmps169 ?_;simp[f,d,aI.cells];refine F3 m e (S.ae (aa q)) fun g l S=>?_;simp;exact h _ _ (St.jB (q:=q) (k:=k) (w:=w) (x:=x.put m) (S.cF (k1:=aa b) (k2:=aa q)))
def Qs[B:Bare E](S:St F G H s W (⟨aa b,cW x⟩::R))(m:bm)(c:x.queue.length=x.qmost.toNat)(h:Q (iv 7) H s):Wp F G (CA E (n+5) 169 #[aa b,.string m]) H s Q:=by obtain⟨q,k,w,S⟩:=S.mT;obtain⟨d,a,e,f⟩:=S.cell;refine en B [] func169 ntmps169 ?_;simp[d,a,aI.cells];refine Pu m c (S.ae (aa q)) ?_;simp;exact h
theorem Q7(B:Bare E)(n:Nat)(v:0<=x.units/\x.units<=256)(j:aU x.a)(o:aU y)(S:St F G H s W (⟨aa b,cW x⟩::R))(m:bm)(l:aq x.a y<x.kept.length)(h:∀a f,St F G a f W (⟨aa b,cW {x with kept:=x.kept.set (aq x.a y).toNat (m,x.ps),units:=x.units+1}⟩::R)->Q (.tuple #[]) a f):Wp F G (CA E (n+1) 257 #[aa b,uv y,.string m]) H s Q:=by obtain⟨q,k,w,S⟩:=S.mT;obtain⟨t,d,i,z⟩:=S.cell;obtain⟨u,g,gk,A⟩:=(S.ae (.map (some k))).qh;have r:IntKind.i64.wrap (x.units+1)=x.units+1:=cL V V;refine en B [(0,[],[],[])] func257 ntmps257 ?_;simp[t,d,aI.cells];have e:jD (uv y) (.agg #[.string m,uv x.ps]) (dA x.a x.kept)=dA x.a (x.kept.set (aq x.a y).toNat (m,x.ps)):=IT x.kept x.a y (m,x.ps) j o l;rw[AJ pg (mZ y)];simp only[u,ru,rq,e];refine⟨g,gk,?_⟩;have c:=(S.ae (.map (some k))).mset (dA x.a (x.kept.set (aq x.a y).toNat (m,x.ps)));obtain⟨p,-,-,-⟩:=(c.ae (aa b)).cell;simp[p,d,i,aI.cells,r];exact h _ _ (St.jB (q:=q) (k:=k) (w:=w) (x:={x with kept:=x.kept.set (aq x.a y).toNat (m,x.ps),units:=x.units+1}) (((c.ae (aa b)).set _).jN (k1:=aa b) (k2:=aa q) (k3:=.map (some k))))
def Q8(B:Bare E)(n:Nat)(v:0<=x.units/\x.units<=256)(j:aU x.a)(o:aU y)(S:St F G H s W (⟨aa b,cW x⟩::R))(m:bm)(l:aq x.a y=x.kept.length)(h:∀a f,St F G a f W (⟨aa b,cW {x with kept:=x.kept++[(m,x.ps)],units:=x.units+1}⟩::R)->Q (.tuple #[]) a f):Wp F G (CA E (n+1) 257 #[aa b,uv y,.string m]) H s Q:=by obtain⟨q,k,w,S⟩:=S.mT;obtain⟨t,d,i,z⟩:=S.cell;obtain⟨u,g,gk,A⟩:=(S.ae (.map (some k))).qh;have r:IntKind.i64.wrap (x.units+1)=x.units+1:=cL V V;refine en B [(0,[],[],[])] func257 ntmps257 ?_;simp[t,d,aI.cells];have e:jD (uv y) (.agg #[.string m,uv x.ps]) (dA x.a x.kept)=dA x.a (x.kept++[(m,x.ps)]):=IU x.kept x.a y (m,x.ps) j o l;rw[AJ pg (mZ y)];simp only[u,ru,rq,e];refine⟨g,gk,?_⟩;have c:=(S.ae (.map (some k))).mset (dA x.a (x.kept++[(m,x.ps)]));obtain⟨p,-,-,-⟩:=(c.ae (aa b)).cell;simp[p,d,i,aI.cells,r];exact h _ _ (St.jB (q:=q) (k:=k) (w:=w) (x:={x with kept:=x.kept++[(m,x.ps)],units:=x.units+1}) (((c.ae (aa b)).set _).jN (k1:=aa b) (k2:=aa q) (k3:=.map (some k))))
def Sf[B:Bare E](c:x.ok K)(hu:x.units<256)(S:St F G H s W (⟨aa b,cW x⟩::R))(P:x.next=none->∀h D,St F G h D W (⟨aa b,cW x⟩::R)->Q (.tuple #[uv 0,.string ⟨#[]⟩,.bool false,.bool false]) h D)(T:∀y n m e,x.next=some (y,n,m,e)->∀h D,St F G h D W (⟨aa b,cW y⟩::R)->Q (.tuple #[uv n,.string m,.bool e,.bool true]) h D):Wp F G (CA E (n+4) 183 #[aa b]) H s Q:=by obtain⟨q,k,w,S⟩:=S.mT;obtain⟨g,f,M,lb⟩:=S.cell;refine en B [(7,[],[],[])] func183 ntmps183 ?_;cases a:x.again with|cons y t=>{obtain⟨N,C⟩:=(S.ae w).cK;rw[show(cC x.again).length=t.length+1 by rw[a];simp]at C;subst C;obtain⟨d,o,cs,rfl,kd,fd,gd,ld,ho,u⟩:=(S.ae (.slice N (t.length+1) (t.length+1))).row (i:=0) (by simp[a]);have e1:=jj (show(cs.drop (o+0*1)).take 1=[uv y]by rw[u];simp[a]);simp at e1;have O:=(S.ae (sl d o (t.length+1) (t.length+1))).from (i:=1) (by simp[a]);rw[show(cC x.again).drop 1=cC t by rw[a];rfl,afe,Nat.add_sub_cancel]at O;have L:=(O.ae (aa b)).set (aI.cells {x with again:=t} q k (.slice (some ⟨d,o+1,none⟩) t.length t.length));have Y:=c.again y (by rw[a];simp);have v:=fi x.a y;have r:(aq x.a y).toNat<x.kept.length:=V;have p:iZ (uv y) (dA x.a x.kept)=some (n9 (x.kept.getD (aq x.a y).toNat (.empty,0))):=by{rw[wD _ _ _ c.a Y.1,ei r];simp[N0,ei r]};simp[g,f,M,aI.cells,kd,fd,e1,(V:(0:Int)<(t.length:Int)+1),df];refine⟨V,?_⟩;refine L.Jr (A:=fun X=>Wp F G _ X _ _) fun HU L=>?_;obtain⟨kk,fk,gk,lk⟩:=(L.ae (.map (some k))).qh;rw[qC pg (z:=.agg #[.string ⟨#[]⟩,uv 0]) U (mZ y)];simp only[kk,ru,rq,p];refine⟨fk,?_⟩;simp[look0q,n9];have S3:=St.jB (q:=q) (k:=k) (w:=.slice (some ⟨d,o+1,none⟩) t.length t.length) (x:={x with again:=t}) (L.jN (k1:=aa b) (k2:=aa q) (k3:=.map (some k)));refine Q7 B _ (x:={x with again:=t}) ⟨c.units.1,by show x.units<=256;omega⟩ c.a Y.1 S3 _ (by show aq x.a y<x.kept.length;omega) fun H2 s2 S=>?_;simp;refine T _ _ _ false ?_ _ _ S;unfold aI.next;rw[a];rfl}|nil=>{obtain⟨N,C⟩:=(S.ae w).cK;rw[show(cC x.again).length=0 by rw[a];simp]at C;subst C;by_cases l:x.s=x.ms;{simp[g,f,aI.cells,l];refine P ?_ _ _ (St.jB S);unfold aI.next;rw[a];simp[l]};{simp[g,f,aI.cells,l];cases j:x.queue with|nil=>{rw[j]at S;refine F1 (S.ae (aa q)) ?_;simp;refine P ?_ _ _ (St.jB (by rw[j];exact S));unfold aI.next;rw[a];simp[l,j]}|cons m t=>{rw[j]at S;refine F2 (S.ae (aa q)) fun H1 s1 S=>?_;have S:=S.ae (aa b);obtain⟨g,f,M,lb⟩:=S.cell;simp[g,f,aI.cells];refine Q8 B _ (x:={x with queue:=t}) ⟨c.units.1,by show x.units<=256;omega⟩ c.a c.s (St.jB (q:=q) (k:=k) (w:=.slice N 0 0) (x:={x with queue:=t}) S) m c.len fun H2 s2 S=>?_;obtain⟨q,k,w,S⟩:=S.mT;obtain⟨g,f,M,lb⟩:=S.cell;simp[g,f,M,aI.cells,mF];refine T _ _ _ true ?_ _ _ (St.jB (q:=q) (k:=k) (w:=w) (x:={x with queue:=t,kept:=x.kept++[(m,x.ps)],units:=x.units+1,s:=aV x.s 1}) (S.set _));unfold aI.next;rw[a];simp[l,j]}}}
end
section
variable{E:Ex}{F G:Np}{H:AH}{s b:Nat}{Q:Qt}{W:Wd}{R:List aa3}{v:bn}
theorem Hx[B:Bare E]{l:List Int}(k:l.length<=100000)(S:St F G H s W R)(f:Fz W v (bT l))(h:∀b d e,St F G b d W (⟨e,bT l⟩::R)->Q e b d):Wp F G (CA E (n+1) 142 #[v]) H s Q:=by obtain⟨a,c,g⟩:=f.len;rw[(J:(cC l).length=l.length)]at c;subst c;have o:=S.new s Z;refine en B [] func142 ntmps142 ?_;cases a with|none=>{have i:=g rfl;have:l=[]:=by{simpa using i};subst this;simp;exact h _ _ _ (S.bG _ _)}|some a=>{simp[-bM];refine St.An (S.cb (T:=76) (n:=1) [] 0 rfl J rfl) f (y:=4) U (by simp;omega) fun j p a l m S=>?_;simp;exact h _ _ _ (by simpa using S)}
def As(E:Ex)(F G:Nat->Prop)(W:Wd)(R:List aa3)(n:Nat)(f:FuncId)(O:ahG)(p:Int->Bool)(l:List Int):Prop:=
 ∀(H:AH)(s:Nat)(x:Int)(o:aa3)(Q:bn->AH->Nat->Prop),x∈l->St F G H s W (o::R)->(∀a b,St F G a b W (o::R)->Q (.bool (p x)) a b)->Wp F G (cE prog E n f (#[uv x]++O)) H s Q
def acz(p:Int->Bool):List Int->Option Nat
 |[]=>none
 |x::r=>if p x then some 0 else(acz p r).map (· +1)
def Ji:∀{l:List Int},acz p l=none->∀x,x∈l->p x=false
 |[],_,x,a=>by cases a
 |y::r,h,x,a=>by
  unfold acz at h;split at h
  ·cases h
  ·rename_i b
   rcases pk.1 a with rfl|a
   ·simpa using b
   ·refine Ji (l:=r) ?_ x a
    cases c:acz p r with
    |none=>rfl
    |some i=>rw[c]at h;cases h
def Jm:∀{l:List Int}{i:Nat},(∀j(a:j<l.length),j<i->p l[j]=false)->(hi:i<l.length)->p l[i]=true->acz p l=some i
 |[],i,_,hi,_=>by simp at hi
 |y::r,0,_,_,h=>by simp[acz,show p y=true from h]
 |y::r,i+1,a,hi,h=>by
  have b:p y=false:=a 0 J V;have c:=Jm (l:=r) (i:=i) (fun j q t=>a (j+1) (by simpa using q) V) (by simpa using hi) h;simp[acz,b,c]
def Jg:∀{l:List Int},(∀j(a:j<l.length),p l[j]=false)->acz p l=none
 |[],_=>rfl
 |y::r,h=>by
  have b:p y=false:=h 0 J;have:=Jg (l:=r) fun j a=>h (j+1) (by simpa using a);simp[acz,b,this]
def uP(p:Int->Bool)(l:List Int):Int:=match acz p l with|some i=>(i:Int)|none=> -1
def Sb[B:Bare E]{l:List Int}(hl:l.length<=100000)(T:eL prog f=true)(X:As E F G W R n f O p l)(S:St F G H s W (⟨v,bT l⟩::R))(h:∀g x,St F G g x W (⟨v,bT l⟩::R)->Q (iv (uP p l)) g x):Wp F G (CA E (n+1) 313 #[v,.func (.func f) #[] O]) H s Q:=by obtain⟨a,A,h0⟩:=S.mU;rw[(J:(cC l).length=l.length)]at A;subst A;refine en B [] func313 ntmps313 ?_;simp;refine acs (fun C tm g x=>∃i,i<=l.length/\C=l.length-i/\tm.size=19/\aF tm 0=.slice a l.length l.length/\aF tm 1=.func (.func f) #[] O/\aF tm 7=iv l.length/\aF tm 8=iv (i:Nat)/\(∀j(m:j<l.length),j<i->p l[j]=false)/\St F G g x W (⟨.slice a l.length l.length,bT l⟩::R)) (k:=l.length) (by unfold LF;omega) ⟨0,J,J,J,J,J,J,J,J,S⟩ ?_;rintro C tm H1 s1⟨i,hi,rfl,w,D,K,L,M,y,S⟩;rw[show tm=bl tm []from rfl];simp[w,D,K,L,M];split;{rename_i q;obtain⟨d,o,N,rfl,kd,P,gd,ld,ho,r⟩:=S.row (i:=i) (by simpa using q);have e1:=jj (show(N.drop (o+i*1)).take 1=[uv l[i]]by rw[r];simp);rw[ahd]at e1;have Y:=wi (i:=i) V;simp[w,q,kd,P,e1,T];refine X _ _ _ _ _ (wk q) S fun H2 s2 S=>?_;cases c:p l[i];{simp[w,D,K,L,M];refine⟨l.length-(i+1),V,i+1,V,rfl,Y,fun j m t=>?_,S⟩;rcases HK j i with b|z;{exact y j m b};{obtain rfl:j=i:=V;exact c}};{simp[w];have e:uP p l=i:=by{unfold uP;rw[Jm y q c]};rw[<-e];exact h _ _ S}};{rename_i u;have e:uP p l= -1:=by{unfold uP;rw[Jg fun j m=>y j m V]};rw[<-e];exact h _ _ S}
def Jk:∀{l:List Int}{i:Nat},acz p l=some i->∃g:i<l.length,p l[i]=true/\∀j(f:j<l.length),j<i->p l[j]=false
 |[],i,h=>by cases h
 |y::r,i,h=>by
  unfold acz at h;split at h
  ·rename_i d
   cases h;exact⟨J,d,fun j _ h=>V⟩
  ·rename_i d
   cases e:acz p r with
   |none=>rw[e]at h;cases h
   |some k=>
    rw[e]at h;simp only[wo,el]at h;subst h;obtain⟨a,b,c⟩:=Jk e;refine⟨by simpa using a,by simpa using b,fun j f q=>?_⟩;cases j with
    |zero=>simpa using d
    |succ j=>exact c j (by simpa using f) V
def JS{q:Int->Bool}{l:List Int}(h:∀x,x∈l->q x=true):l.filter q=l:=ahv.2 h
def Sn[B:Bare E](n:Nat){l:List Int}(hl:l.length<=100000)(hc:eL prog f=true)(hf:∀n,As E F G W R (n+1) f O p l)(S:St F G H s W (⟨v,bT l⟩::R))(h:∀H' s' v',St F G H' s' W (⟨v',bT (l.filter fun x=> !p x)⟩::R)->Q v' H' s'):Wp F G (CA E (n+3) 351 #[v,.func (.func f) #[] O]) H s Q:=by refine en B [] func351 ntmps351 ?_;simp;refine Sb hl hc (hf _) S fun H1 s1 S=>?_;unfold uP;cases hi:acz p l with|none=>{simp;have e:(l.filter fun x=> !p x)=l:=JS fun x P=>by{simp[Ji hi x P]};refine h _ _ _ ?_;rw[e];exact S}|some i0=>{obtain⟨N,T,X⟩:=Jk hi;obtain⟨a,hv,h0⟩:=S.mU;rw[(J:(cC l).length=l.length)]at hv;subst hv;obtain⟨d,o,he,rfl,-⟩:=S.row (i:=0) (by simp;omega);have hw:=wi (i:=i0) V;simp[hw,(V:¬((i0:Int)= -1))];have c:l.take i0=(l.take (i0+1)).filter fun x=> !p x:=by{rw[ahi,ei N,ahx,adA];have e1:((l.take i0).filter fun x=> !p x)=l.take i0:=JS fun x P=>by{obtain⟨j,hj,rfl⟩:=adn P;rw[nl]at hj;rw[afB];simp[X j V V]};rw[e1];simp[T]};refine acs (fun kk tm H' s'=>∃(i j:Nat)(q:List Int),i<j/\j<=l.length/\kk=l.length-j/\tm.size=42/\aF tm 0=.slice (some ⟨d,o,none⟩) l.length l.length/\aF tm 1=.func (.func f) #[] O/\aF tm 5=iv (i:Nat)/\aF tm 6=iv (j:Nat)/\q.length=l.length/\q.take i=(l.take j).filter (fun x=> !p x)/\q.drop j=l.drop j/\St F G H' s' W (⟨.slice (some ⟨d,o,none⟩) l.length l.length,bT q⟩::R)) (k:=l.length-(i0+1)) (by unfold LF;omega) ⟨i0,i0+1,l,V,V,rfl,J,J,J,J,J,rfl,c,rfl,S⟩ ?_;rintro kk tm H2 s2⟨i,j,q,hh,hj,rfl,hz,t0,t1,t5,t6,C,u,g,S⟩;rw[show tm=bl tm []from rfl];simp[hz,t0,t5,t6];split;{rename_i w;have M:j<q.length:=V;have P:q[j]=l[j]:=by{have:=congrArg (fun l=>l[0]?) g;simp only[NL,ahs]at this;rw[ei M,ei w]at this;exact Option.some.inj this};obtain⟨d',o',cs,h1,kd,fd,gd,ld,ho,ha⟩:=S.row (i:=j) (by simpa using M);cases h1;have e1:=jj (show(cs.drop (o+j*1)).take 1=[uv l[j]]by rw[ha];simp[P]);rw[ahd]at e1;have hd:=wi (i:=i) V;have L:=wi (i:=j) V;have D:(l.take (j+1)).filter (fun x=> !p x)=(l.take j).filter (fun x=> !p x)++(if p l[j]then[]else[l[j]]):=by{rw[ahi,ei w,ahx,adA];cases hp:p l[j]<;>simp[hp]};simp[hz,t1,w,kd,fd,e1,hc];refine hf _ _ _ _ _ _ (wk w) S fun H3 s3 S=>?_;cases b:p l[j];{obtain⟨y,r,t,A,K,m,-,-⟩:=S.qX;have hb:i<l.length:=V;have Y:o+i+1<=y.length:=by{simp at m;omega};simp[hz,t0,t1,t5,t6,r,t,A,hb,Y];have S4:=S.setRow (i:=i) (by simp;omega) [uv l[j]] rfl r;rw[ahd]at S4;refine⟨l.length-(j+1),V,i+1,j+1,V,V,rfl,hd,L,q.set i l[j],by simp[C],?_,?_,?_⟩;{rw[D,b];rw[ahi,agt V,u,adl V];rfl};{rw[agw V,<-List.drop_drop,g,adV]};{have e2:cC (q.set i l[j])=(cC q).set i [uv l[j]]:=by{simp[aeX]};show St F G _ _ W (⟨_,be _ 1 (cC (q.set i l[j]))⟩::R);rw[e2];exact S4}};{simp[hz,t0,t1,t5,t6];refine⟨l.length-(j+1),V,i,j+1,V,V,rfl,rfl,L,q,C,?_,?_,S⟩;{rw[D,b,u];simp};{rw[<-List.drop_drop,g,adV]}}};{rename_i hg;obtain rfl:j=l.length:=V;obtain⟨y,r,t,A,K,m,-,-⟩:=S.qX;rw[zs]at u;simp[df,r,t,(V:i<=l.length)];refine St.Ky S (i:=i) (n:=1) (by simp;omega) (z:=uv 0) (zr:=[uv 0]) U U U ?_ rfl ?_ V fun H3 S=>?_;{intro k;exact D9 (z:=uv 0) (zr:=[uv 0]) rfl J k};{simp;omega};{obtain⟨y,r,t,A,K,m,-,-⟩:=S.qX;simp[hz,t0,t5,df,r,t,(V:i<=l.length)];refine h _ _ _ ?_;rw[<-u];show St F G H3 s2 W (⟨_,be _ 1 (cC (q.take i))⟩::R);rw[show cC (q.take i)=(cC q).take i by simp[aeO]];exact S}}}
end
abbrev cz(l:List (Int×Int)):acu:=be 387 2 (bg l)
def iy(p:Int×Int):Prop:=(-1000000000<=p.1/\p.1<=1000000000)/\(-1000000000<=p.2/\p.2<=1000000000)
def bJ(p:Int×Int):Bool:=decide (p.1<p.2)
section
variable{E:Ex}{F G:Np}{H:AH}{s:Nat}{Q:Qt}{W:Wd}{R P:List aa3}{v:bn}
theorem Hw[B:Bare E](x y:Int)(j:iy (x,y))(S:St F G H s W P)(h:∀a b,St F G a b W P->Q (.agg #[iv x,iv y]) a b):Wp F G (CA E (n+1) 340 #[.agg #[iv x,iv y]]) H s Q:=by have g:=S.new s Z;have i:=S.new (s+1) V;obtain⟨⟨c,d⟩,e,f⟩:=j;dsimp only at c d e f;refine en B [] func340 ntmps340 ?_;simp[g,i,aH,(V:max (-1099511627776) (min x 1099511627776)=x),(V:max (-1099511627776) (min y 1099511627777)=y)];exact h _ _ ((S.skip _).skip _)
theorem C7[B:Bare E](S:St F G H s W P)(h:∀a b,St F G a b W P->Q (.bool (decide (y<=x))) a b):Wp F G (CA E (n+1) 341 #[.agg #[iv x,iv y]]) H s Q:=by have c:=S.new s Z;refine en B [] func341 ntmps341 ?_;simp[c];exact h _ _ (S.skip _)
def GS:∀l:List (Int×Int),nS (bg l).flatten=some l
 |[]=>rfl
 |p::r=>by
  show nS (iv p.1::iv p.2::(bg r).flatten)=_;unfold nS;rw[GS r];rfl
def Gb:∀l:List (Int×Int),(∀p,p∈l->bJ p=true)->l.Pairwise (fun p q=>p.2<q.1)->sK l=true
 |[],_,_=>rfl
 |[_],_,_=>rfl
 |p::q::r,h,hp=>by
  have b:p.1<p.2:=adF (h p J);have c:p.2<q.1:=(x4.1 hp).1 q J;show(decide (p.1<q.1)&&sK (q::r))=true;rw[Gb (q::r) (fun x a=>h x (by simp[a])) (x4.1 hp).2];simp;omega
def Oh(u:E 342=some mQ){l:List (Int×Int)}(k:∀p,p∈l->bJ p=true)(m:l.Pairwise (fun p q=>p.2<q.1))(c:l.length<=1000000)(S:St F G H s W (⟨v,cz l⟩::R))(h:Q (.tuple #[]) H s):Wp F G (CA E (n+1) 342 #[v,.func (.func 343) #[] #[]]) H s Q:=by obtain⟨a,z,j⟩:=S.mU;subst z;unfold cE;rw[u];dsimp only;unfold mQ;dsimp only;rw[eh ⟨rfl,rfl,rfl⟩];cases a with|none=>{have g:=j rfl;have:l=[]:=by{simpa[bg]using g};subst this;dsimp only;rw[eh (by simp[bg]),acr];exact h}|some a=>{have w:∃d o b,a=⟨d,o,none⟩/\H d=some (.cells b 387 true)/\F d/\o+(bg l).length*2<=b.length/\(b.drop o).take ((bg l).length*2)=(bg l).flatten:=by{refine S.ask ?_;rintro D⟨L,y,r⟩q;obtain⟨g,⟨e1,-,-⟩|⟨d,o,b,e1,t,x,f,e⟩⟩:=y;{cases e1};{cases e1;exact⟨d,o,b,rfl,x,(q d ((r d).2 (by rw[t];simp))).2.1,f,e⟩}};obtain⟨d,o,b,rfl,A,i,f,e⟩:=w;dsimp only;rw[bH,fV,A];refine⟨i,?_⟩;dsimp only;rw[e,GS l];dsimp only;rw[eh ⟨rfl,rfl,f,Gb l k m,c⟩,acr];exact h}
def A3(B:Bare E)(hS:E 342=some mQ)(n:Nat){l:List (Int×Int)}(hsm:∀p,p∈l->iy p)(z:(l.filter bJ).Pairwise (fun p q=>p.2<q.1))(hl:l.length<=100000)(S:St F G H s W R)(f:Fz W v (cz l))(h:∀H' s' v',(l.filter bJ=[]->v'=aJ)->St F G H' s' W (⟨v',cz (l.filter bJ)⟩::R)->Q v' H' s'):Wp F G (CA E (n+2) 311 #[v]) H s Q:=by obtain⟨av,hv,_⟩:=f.len;rw[show(bg l).length=l.length by simp[bg]]at hv;subst hv;refine en B [(15,[],[],[]),(16,[],[],[])] func311 ntmps311 ?_;simp;refine acs (fun kk tm H' s'=>∃i v,i<=l.length/\kk=l.length-i/\tm.size=67/\aF tm 3=v/\aF tm 10=.slice av l.length l.length/\aF tm 11=iv l.length/\aF tm 12=iv (i:Nat)/\St F G H' s' W (⟨v,cz ((l.take i).filter bJ)⟩::R)) (k:=l.length) (by unfold LF;omega) ⟨0,aJ,J,J,J,J,J,J,J,S.bG _ _⟩ ?_;rintro kk tm H1 O⟨i,v,hi,rfl,b,t3,w,x,t,S⟩;rw[show tm=bl tm []from rfl];simp[b,t3,w,x,t];split;{rename_i r;have A:=S.new O Z;have hw:=wi (i:=i) V;obtain⟨d,o,cs,rfl,kd,fd,ld,ho,C⟩:=S.mo f (i:=i) (by simpa[bg]using r);have e1:(cs.drop (o+i*2)).take 2=[iv l[i].1,iv l[i].2]:=by{rw[C];simp[bg]};have X:=hsm l[i] (wk r);simp[b,r,kd,fd,e1,ho,A];refine Hw _ _ X (S.alloc [iv l[i].1,iv l[i].2] 387) fun H2 s2 S=>?_;obtain⟨kz,fz,gz,lz⟩:=S.cell;simp[b,kz,fz,gz];refine C7 (S.set [iv l[i].1,iv l[i].2]) fun H3 s3 S=>?_;obtain⟨kz,fz,gz,lz⟩:=S.cell;have D:(l.take (i+1)).filter bJ=(l.take i).filter bJ++(if bJ l[i]then[l[i]]else[]):=by{rw[ahi,ei r,ahx,adA];cases P:bJ l[i]<;>simp[P]};by_cases M:l[i].2<=l[i].1;{have P:bJ l[i]=false:=by{simp[bJ];omega};simp[b,t3,w,x,t,M];refine⟨l.length-(i+1),V,i+1,V,rfl,hw,?_⟩;rw[D,P];simpa using S.drop};{have P:bJ l[i]=true:=by{simp[bJ];omega};simp[b,t3,M,kz,fz];have hr:=S.new s3 Z;refine St.append ((S.drop.cb (T:=387) (n:=2) [[iv l[i].1,iv l[i].2]] 1 rfl J rfl).cF (k1:=v)) (y:=16) U ?_ fun H4 s4 a4 l4 m4 S=>?_;{have:((l.take i).filter bJ).length<=l.length:=fq (D0 _ _) (by simp;omega);simp[bg];omega};{simp[b,w,x,t];refine⟨l.length-(i+1),V,i+1,V,rfl,hw,?_⟩;have S:=S.az (sl s3 0 1 1);have e:bg ((l.take (i+1)).filter bJ)=bg ((l.take i).filter bJ)++[[iv l[i].1,iv l[i].2]]:=by{rw[D,P];simp[bg]};show St F G H4 s4 W (⟨_,be _ 2 (bg ((l.take (i+1)).filter bJ))⟩::R);rw[e];exact S}}};{rename_i he;obtain rfl:i=l.length:=V;rw[zs]at S;have h1:∀p,p∈l.filter bJ->bJ p=true:=fun p P=>(nt.1 P).2;refine Oh hS h1 z (fq (D0 _ _) (fq hl I)) S ?_;have hd:(l.filter bJ).length<=100000:=fq (D0 _ _) hl;generalize l.filter bJ=g at S h z h1 hd;obtain⟨a,hv,_⟩:=S.mU;rw[show(bg g).length=g.length by simp[bg]]at hv;subst hv;simp[b,t3];refine acs (fun kk tm H' s'=>∃i u,(i=0->u=aJ)/\i<=g.length/\kk=g.length-i/\tm.size=67/\aF tm 6=u/\aF tm 28=.slice a g.length g.length/\aF tm 29=iv g.length/\aF tm 30=iv (i:Nat)/\St F G H' s' W (⟨u,cz (g.take i)⟩::⟨.slice a g.length g.length,cz g⟩::R)) (k:=g.length) (by unfold LF;omega) ⟨0,aJ,fun _=>rfl,J,J,by simp[b],by simp[b],by simp[b],by simp[b],by simp[b],S.bG _ _⟩ ?_;clear b t3 w x t;rintro kk tm H1 O⟨i,u,ha,hi,rfl,b,t6,c,m,j,S⟩;obtain⟨au,hu,_⟩:=S.mU;rw[show(bg (g.take i)).length=i by simp[bg];omega]at hu;subst hu;rw[show tm=bl tm []from rfl];simp[b,t6,c,m,j];split;{rename_i r;have A:=S.new O Z;have hw:=wi (i:=i) V;have K:IntKind.i64.wrap ((i:Int)-1)=(i:Int)-1:=cL V V;obtain⟨d,o,cs,rfl,kd,fd,gd,ld,ho,C⟩:=(S.ae (.slice a g.length g.length)).row (i:=i) (by simpa[bg]using r);have e1:(cs.drop (o+i*2)).take 2=[iv g[i].1,iv g[i].2]:=by{rw[C];simp[bg]};have fin:∀{H2 s2 a2 l2 m2},St F G H2 s2 W (⟨.slice a2 l2 m2,be 387 2 (bg (g.take i)++[[iv g[i].1,iv g[i].2]])⟩::⟨.slice (some ⟨O+1,0,none⟩) 1 1,be 387 2 [[iv g[i].1,iv g[i].2]]⟩::⟨.slice (some ⟨d,o,none⟩) g.length g.length,cz g⟩::R)->St F G H2 s2 W (⟨.slice a2 l2 m2,cz (g.take (i+1))⟩::⟨.slice (some ⟨d,o,none⟩) g.length g.length,cz g⟩::R):=by{intro H2 s2 a2 l2 m2 S;have e:bg (g.take (i+1))=bg (g.take i)++[[iv g[i].1,iv g[i].2]]:=by{show(g.take (i+1)).map _=(g.take i).map _++_;rw[ahi,ei r,ahx,ahh];rfl};show St F G H2 s2 W (⟨_,be _ 2 (bg (g.take (i+1)))⟩::_);rw[e];exact S.az (.slice (some ⟨O+1,0,none⟩) 1 1)};have hm:(bg (g.take i)).length<=100000:=by{simp[bg];omega};by_cases h0:i=0;{have hf:IntKind.i64.wrap ((i:Int)-1)= -1:=by{rw[K];omega};simp[-bM,b,t6,r,kd,fd,e1,ho,A,hf];refine St.append (((S.skip (some (.cells [iv g[i].1,iv g[i].2] 387 true))).cb (T:=387) (n:=2) [[iv g[i].1,iv g[i].2]] 1 rfl J rfl).cF (k1:=.slice au i i) (k2:=.slice (some ⟨O+1,0,none⟩) 1 1)) (y:=16) U (by simp[bg];omega) fun H4 s4 a4 l4 m4 S=>?_;simp[b,c,m,j];exact⟨g.length-(i+1),V,i+1,_,(fun e=>absurd e V),V,rfl,rfl,hw,fin S⟩};{obtain⟨k,hk⟩:∃k,i=k+1:=⟨i-1,V⟩;have hg:IntKind.i64.wrap ((i:Int)-1)=(k:Nat):=by{rw[K];omega};have L:k<i:=V;obtain⟨d2,o2,hb,rfl,hc,hh,hn,hq,hs,Y⟩:=S.row (i:=k) (by simp[bg];omega);have e2:hb[o2+k*2+1]? =some (iv g[k].2):=by{have:=congrArg (fun l=>l[1]?) Y;simpa[bg,R1,NL]using this};have N:g[k].2<g[i].1:=ad1.1 z k i V r L;have hj:¬g[i].1<=g[k].2:=V;simp[b,t6,r,kd,fd,e1,ho,A,hg,hc,hh,e2,hj,L,aH,(V:d2≠O),-bM];refine St.append (((S.skip (some (.cells [iv g[i].1,iv g[i].2] 387 true))).cb (T:=387) (n:=2) [[iv g[i].1,iv g[i].2]] 1 rfl J rfl).cF (k1:=sl d2 o2 i i) (k2:=.slice (some ⟨O+1,0,none⟩) 1 1)) (y:=16) U (by simp[bg];omega) fun H4 s4 a4 l4 m4 S=>?_;simp[b,c,m,j];exact⟨g.length-(i+1),V,i+1,_,(fun e=>absurd e V),V,rfl,rfl,hw,fin S⟩}};{rename_i he;obtain rfl:i=g.length:=V;rw[zs]at S;exact h _ _ _ (fun e=>ha (by rw[e];rfl)) (S.az (.slice a g.length g.length))}}
def xT(g:Bare2 E)(n:Nat){l:List (Int×Int)}(e:∀p,p∈l->iy p)(a:(l.filter bJ).Pairwise (fun p q=>p.2<q.1))(j:l.length<=100000)(S:St F G H s W R)(f:Fz W v (cz l))(h:∀b c d,St F G b c W (⟨d,cz (l.filter bJ)⟩::R)->Q d b c):Wp F G (CA E (n+2) 311 #[v]) H s Q:=
 A3 g.toBare g.sortS n e a j S f fun b c d _ i=>h b c d i
end
end Go.Proofs.YtlkceignfhnpoaaGreatDoor
