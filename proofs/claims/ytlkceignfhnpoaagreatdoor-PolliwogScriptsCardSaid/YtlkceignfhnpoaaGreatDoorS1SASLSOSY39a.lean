/-
  Part of a proof, written small.
-/
import Derived.Test.YtlkceignfhnpoaaGreatDoorS1SASLSOSY30
import Derived.Test.YtlkceignfhnpoaaGreatDoorS1SASLSOSY37
import Derived.Test.YtlkceignfhnpoaaGreatDoorS1SASLSOSY38
set_option linter.all false
set_option maxRecDepth 10000
set_option maxHeartbeats 2000000
open Go.Proofs.Tryz
namespace Go.Proofs.YtlkceignfhnpoaaGreatDoor
open Go
variable{y x:aT}{n K d M s1 s2:Nat}{tk:jc}{X:Option aZ}{m0 O z m3 m4 c0 c1 c2 c3 c4 m5:Int}{l v:bn}{s:af}{xs:List aT}{c:Ren}{H1:AH}{cs:bj}{T:bW}{q:bE bn}
section
open AX
section
variable{E:Ex}{F G:Np}{H:AH}{s b w K:Nat}{Q:Qt}{W:Wd}{R:List aa3}{v nv:bn}{y:aT}
def Mq[hE:Bare E](hI:E 23=some mj){w:Nat}{bk:bn}(S:St F G H s W (⟨aa w,aE (bw l bk c0 c1 c2 c3 c4) 58⟩::R))(hd:rS H d m0 O z m3 m4 m5)(Y:d<s/\F d)(h1:(od m0 O z m3 m4 m5 c0 c1 c2 c3 c4).fits=true->∀N s' P M b' wr,W.le P->Fz P (aa wr) dQ->St F G N s' P (⟨aa w,aE (bw (aa M) (aa b') c0 c1 c2 c3 c4) 58⟩::⟨aa M,bN wr (od m0 O z m3 m4 m5 c0 c1 c2 c3 c4).link⟩::⟨aa b',bQ ⟨[],[]⟩⟩::R)->Q (.string iS) N s')(h2:(od m0 O z m3 m4 m5 c0 c1 c2 c3 c4).fits=false->∀N s',St F G N s' W (⟨aa w,aE (bw l bk c0 c1 c2 c3 c4) 58⟩::R)->Q (.string rN) N s'):Wp F G (CA E (n+5) 19 #[aa w,nM d]) H s Q:=by obtain⟨kb,fb,gb,lb⟩:=S.cell;have hs:=S.new s Z;have p:=S.new (s+1) (HT _);have hN:=S.new;refine en hE [(2,[6,8,11,13],[],[4,9])] func19 ntmps19 ?_;simp[hs,p];have S1:=((S.alloc [aa w] 28).alloc [nM d] 22);have kn:aG (aG H s (some (.cells [aa w] 28 true))) (s+1) (some (.cells [nM d] 22 true)) (s+1)=some (.cells [nM d] 22 true):=bX _ _ _;have kw:aG (aG H s (some (.cells [aa w] 28 true))) (s+1) (some (.cells [nM d] 22 true)) s=some (.cells [aa w] 28 true):=(aH _ _ V).trans (bX _ _ _);have kd:rS (aG (aG H s (some (.cells [aa w] 28 true))) (s+1) (some (.cells [nM d] 22 true))) d m0 O z m3 m4 m5:=hd.keep ((aH _ _ V).trans (aH _ _ V));have kl:aG (aG H s (some (.cells [aa w] 28 true))) (s+1) (some (.cells [nM d] 22 true)) w=some (.cells (bw l bk c0 c1 c2 c3 c4) 58 true):=(aH _ _ V).trans ((aH _ _ V).trans kb);have fr0:Fr [] H s (aG (aG H s (some (.cells [aa w] 28 true))) (s+1) (some (.cells [nM d] 22 true))) (s+1+1):=(Fr.refl _ _ _).new.new;generalize aG (aG H s (some (.cells [aa w] 28 true))) (s+1) (some (.cells [nM d] 22 true))=H1 at*;obtain⟨T0,o,k0⟩:=kd.at_;have b1:=S1.bd;simp[k0,Y];refine⟨b1,?_⟩;have N1:eU F G (s+1+1):=hN.up V;refine cM ((calm).ls _ _) b1 ?_;refine G8 m0 (eU.own N1 Z) kn kw kd kl ⟨V,p.1,V⟩ ⟨V,hs.1,V⟩ ⟨V,Y.2,V⟩ ⟨V,fb,V⟩ fun H2 s2 T u2 b2=>?_;have r:=(T.keep (s+1) V J).trans kn;have t:=(T.keep s V J).trans kw;have q:=kd.keep (T.keep d V J);have u:=(T.keep w V J).trans kl;obtain⟨T2,D,g⟩:=q.at_;simp[r,p,g,Y];refine⟨V,u2,b2,?_⟩;refine cM ((calm).ls _ _) b2 ?_;refine G8 O (fun b hb=>⟨⟨(hN b V).1,.inr hb⟩,(hN b V).2,hb⟩) r t q u ⟨V,p.1,V⟩ ⟨V,hs.1,V⟩ ⟨V,Y.2,V⟩ ⟨V,fb,V⟩ fun H3 s3 X u3 b3=>?_;have c:=(X.keep (s+1) V J).trans r;have m:=(X.keep s V J).trans t;have y:=q.keep (X.keep d V J);have K:=(X.keep w V J).trans u;obtain⟨T3,L,f⟩:=y.at_;simp[c,p,f,Y,zW,cX.cells,cu];have S2:=S1.fr0 T b2;have S3:=S2.fr0 X b3;refine⟨V,?_⟩;refine UI (od m0 O z m3 m4 m5 c0 c1 c2 c3 c4) S3 (fun ef H4 h P M w4 v e B=>?_) (fun ef H4 h B=>?_);{obtain⟨C,-,-,-⟩:=(B.ae (aa (s+1))).cell;obtain⟨i,-,-,-⟩:=(B.ae (aa s)).cell;obtain⟨j,-,-,A⟩:=(B.ae (aa w)).cell;have k:=(B.ae (aa s)).cell.2.2.2;simp;refine mN (calm) [(0,4),(1,4),(1,7),(4,7)] [(0,(fun b=>b=s),(fun _=>False)),(1,(fun b=>b=s),(fun _=>False)),(4,(fun _=>False),(fun b=>b=h)),(7,(fun b=>b=w),(fun b=>b=w))] U ?_;have a:=hN h V;simp[i,hs,aH,(V:s≠h),(V:w≠h),j,fb,gb,bw,(V:s≠w),(V:h≠w),a];refine⟨⟨⟨V,V⟩,V,V⟩,?_⟩;refine Mu ?_;simp;have S5:=(((B.az (aa (s+1))).az (aa s)).alloc [aJ,aJ] 49);have S6:=(S5.ae (aa w)).set (bw (aa M) (aa h) c0 c1 c2 c3 c4);have S7:=(S6.C3.C3);have S8:=St.Dw (x:=⟨[],[]⟩) (b:=h) (v0:=aJ) (v1:=aJ) (S7.ae (aa h));exact h1 ef _ _ P M h w4 v e (S8.aD [aa w,aa M,aa h])};{simp;refine Mt hI ?_;simp;exact h2 ef _ _ ((B.az (aa (s+1))).az (aa s))}
def Ki[p:Bare E](q:E 23=some mj){w:Nat}{i:bn}{ask data:bm}(S:St F G H s W (⟨aa w,aE (bw l i c0 c1 c2 c3 c4) 58⟩::R))(r:rS H d m0 O z m3 m4 m5)(t:d<s/\F d)(m:(od m0 O z m3 m4 m5 c0 c1 c2 c3 c4).fits=true->∀a b e h f wr,W.le e->Fz e (aa wr) dQ->St F G a b e (⟨aa w,aE (bw (aa h) (aa f) c0 c1 c2 c3 c4) 58⟩::⟨aa h,bN wr (od m0 O z m3 m4 m5 c0 c1 c2 c3 c4).link⟩::⟨aa f,bQ ⟨[],[]⟩⟩::R)->Q (.string iS) a b)(o:(od m0 O z m3 m4 m5 c0 c1 c2 c3 c4).fits=false->∀a b,St F G a b W (⟨aa w,aE (bw l i c0 c1 c2 c3 c4) 58⟩::R)->Q (.string rN) a b):Wp F G (CA E (n+6) 11 #[aa w,.agg #[.string IF,nM d,.string ask,.string data]]) H s Q:=by obtain⟨v,k,A,B⟩:=S.cell;have u:=S.new s Z;refine en p [(2,[],[],[])] func11 ntmps11 ?_;simp[u,v,k,aH,(V:w≠s),bw,IF];refine Mq q (S.skip _) (r.keep (aH _ _ V)) ⟨V,t.2⟩ (fun g j s2 y h f wr x fz c=>?_) (fun g j s2 c=>?_);{simp;exact m g _ _ _ _ _ _ x fz c};{simp;exact o g _ _ c}
theorem Kh[q:Bare E]{a:bn}{ask data:bm}(fn:Fz W nv (dR [m0,O,z,m3,m4]))(S:St F G H s W (⟨aa w,aE (bw l a c0 c1 c2 c3 c4) 58⟩::R))(h:∀c g,St F G c g W (⟨aa w,aE (bw l a m0 O z m3 m4) 58⟩::R)->Q (.string iS) c g):Wp F G (CA E (n+1) 11 #[aa w,.agg #[.string ⟨pN.toArray⟩,nv,.string ask,.string data]]) H s Q:=by obtain⟨f,k,o,t⟩:=S.cell;obtain⟨d,p,rfl,b,m,u⟩:=mY S fn J;have r:=S.new s Z;have i:=S.skip (some (.cells [.string ⟨pN.toArray⟩,sl d 0 5 5,.string ask,.string data] 31 true));have j:=i.set (bw l a m0 O z m3 m4);refine en q [(2,[],[],[])] func11 ntmps11 ?_;simp[r,f,k,o,aH,(V:w≠s),(V:d≠s),show d≠w from fun e=>by subst e;rw[f]at b;simp[bw,gm]at b,bw,pN,gm,b,m];exact h _ _ j
end
def ov(tk:jc):Option (aZ×Nat)->acu
 |none=>kH (fun(q:bn)v=>[⟨v,aE (bw jG q tk.c0 tk.c1 tk.c2 tk.c3 tk.c4) 58⟩]) (fun _=>True)
 |some X=>kH (fun(q:Nat×Nat)v=>[⟨v,aE (bw (aa q.1) (aa q.2) tk.c0 tk.c1 tk.c2 tk.c3 tk.c4) 58⟩,⟨aa q.1,bN X.2 X.1.lk⟩,⟨aa q.2,bQ X.1.bk⟩]) (fun _=>True)
def oH(W:Wd)(X:Option (aZ×Nat)):Prop:=∀x,X=some x->Fz W (aa x.2) dQ
def oH.up{W a:Wd}{X:Option (aZ×Nat)}(h:oH W X)(k:W.le a):oH a X:=fun x b=>(h x b).up k
section
variable{E:Ex}{F G:Np}{H:AH}{s b w K N:Nat}{Q:Qt}{W:Wd}{R:List aa3}{v nv:bn}{y:aT}{tk:jc}{X:Option (aZ × Nat)}
def St.xr(S:St F G H s W (⟨aa w,ov tk none⟩::R)):∃q,St F G H s W (⟨aa w,aE (bw jG q tk.c0 tk.c1 tk.c2 tk.c3 tk.c4) 58⟩::R):=by obtain⟨q,_,S⟩:=S.opens;exact⟨q,S⟩
def St.vM{Y:aZ×Nat}(S:St F G H s W (⟨aa w,ov tk (some Y)⟩::R)):∃b a,St F G H s W (⟨aa w,aE (bw (aa b) (aa a) tk.c0 tk.c1 tk.c2 tk.c3 tk.c4) 58⟩::⟨aa b,bN Y.2 Y.1.lk⟩::⟨aa a,bQ Y.1.bk⟩::R):=by obtain⟨q,_,S⟩:=S.opens;exact⟨q.1,q.2,S⟩
def St.vL{q:bn}(S:St F G H s W (⟨aa w,aE (bw jG q tk.c0 tk.c1 tk.c2 tk.c3 tk.c4) 58⟩::R)):St F G H s W (⟨aa w,ov tk none⟩::R):=St.nz (A:=fun(q:bn)v=>[⟨v,aE (bw jG q tk.c0 tk.c1 tk.c2 tk.c3 tk.c4) 58⟩]) q trivial S
def St.vK{lb a wr:Nat}{Y:aZ}(S:St F G H s W (⟨aa w,aE (bw (aa lb) (aa a) tk.c0 tk.c1 tk.c2 tk.c3 tk.c4) 58⟩::⟨aa lb,bN wr Y.lk⟩::⟨aa a,bQ Y.bk⟩::R)):St F G H s W (⟨aa w,ov tk (some (Y,wr))⟩::R):=St.nz (A:=fun(q:Nat×Nat)v=>[⟨v,aE (bw (aa q.1) (aa q.2) tk.c0 tk.c1 tk.c2 tk.c3 tk.c4) 58⟩,⟨aa q.1,bN wr Y.lk⟩,⟨aa q.2,bQ Y.bk⟩]) (lb,a) trivial S
structure aT.uU(y:aT):Prop where
 ok:nE y
 small:y.small
 look:y.word=rl->(y.num 0=0\/y.num 0=1)
 data:y.data.length<=100000
def Db(hX:eV E)(C:y.uU)(hok:iT (X.map Prod.fst) K N)(hK:K+1<=1000)(hN:N<=400000000000)(B:oH W X)(fn:Fz W nv (dR y.nums))(S:St F G H s W (⟨aa w,ov tk X⟩::R))(h:∀H' s' W' X',W.le W'->oH W' X'->X'.map Prod.fst=(cj y tk (X.map Prod.fst)).2.1->St F G H' s' W' (⟨aa w,ov (cj y tk (X.map Prod.fst)).1 X'⟩::R)->Q (.string (cj y tk (X.map Prod.fst)).2.2) H' s'):Wp F G (CA E (n+21) 11 #[aa w,.agg #[.string ⟨y.word.toArray⟩,nv,.string ⟨y.ask.toArray⟩,.string ⟨y.data.toArray⟩]]) H s Q:=by
 have hE:=hX.bare;have r:ByteArray.toList ⟨y.word.toArray⟩=y.word:=ahm _;by_cases k:y.word=pN
 ·obtain⟨T,M,p⟩:=C.ok.need
  rw[k,show iF pN=some [78,78,78,78,78]by decide+kernel,el]at M;subst M;obtain⟨m0,O,z,m3,m4,L⟩:∃a b c d e,y.nums=[a,b,c,d,e]:=by
   have D:y.nums.length=5:=p;generalize y.nums=l at D
   match l,D with
   |[a,b,c,d,e],_=>exact⟨a,b,c,d,e,rfl⟩
  have e:∀Z,cj y tk Z=(⟨m0,O,z,m3,m4⟩,Z,iS):=fun Z=>by{unfold cj aT.num;rw[eh k,L];rfl};rw[e]at h;dsimp only at h;rw[L]at fn;rw[k];cases X with|none=>{obtain⟨q,j⟩:=S.xr;refine Kh fn j fun o s2 i=>?_;exact h _ _ _ none (Wd.le.refl W) B rfl (St.vL (tk:=⟨m0,O,z,m3,m4⟩) i)}|some Y=>{obtain⟨lb,bb,j⟩:=S.vM;refine Kh fn j fun o s2 i=>?_;exact h _ _ _ (some Y) (Wd.le.refl W) B rfl (St.vK (tk:=⟨m0,O,z,m3,m4⟩) i)}
 by_cases m:y.word=nf
 ·obtain⟨T,M,p⟩:=C.ok.need
  rw[m,show iF nf=some [78,78,78,78,78,78]by decide+kernel,el]at M;subst M;obtain⟨m0,O,z,m3,m4,m5,L⟩:∃a b c d e f,y.nums=[a,b,c,d,e,f]:=by
   have D:y.nums.length=6:=p;generalize y.nums=l at D
   match l,D with
   |[a,b,c,d,e,f],_=>exact⟨a,b,c,d,e,f,rfl⟩
  have ec:y.cfg tk=od m0 O z m3 m4 m5 tk.c0 tk.c1 tk.c2 tk.c3 tk.c4:=by{unfold aT.cfg aT.num;rw[L];rfl};have e:∀Z,cj y tk Z=if(od m0 O z m3 m4 m5 tk.c0 tk.c1 tk.c2 tk.c3 tk.c4).fits=true then(tk,some ⟨(od m0 O z m3 m4 m5 tk.c0 tk.c1 tk.c2 tk.c3 tk.c4).link,⟨[],[]⟩⟩,iS)else(tk,Z,rN):=fun Z=>by{unfold cj;rw[ed k,eh m,ec]};rw[e]at h;rw[L]at fn;obtain⟨d,g,rfl,kd,fd,ld⟩:=mY S fn J;have t:rS H d m0 O z m3 m4 m5:=⟨_,_,kd⟩;rw[m];cases X with|none=>{obtain⟨q,j⟩:=S.xr;refine Ki hX.itoa j t ⟨ld,fd⟩ (fun A o s2 W2 lk b' wr le fz i=>?_) (fun A o s2 i=>?_);{rw[eh A]at h;exact h _ _ W2 (some (⟨_,⟨[],[]⟩⟩,wr)) le (fun x P=>by cases P;exact fz) rfl (St.vK i)};{rw[ed (by rw[A];simp)]at h;exact h _ _ _ none (Wd.le.refl W) B rfl (St.vL i)}}|some Y=>{obtain⟨lb,bb,j⟩:=S.vM;refine Ki hX.itoa j t ⟨ld,fd⟩ (fun A o s2 W2 lk b' wr le fz i=>?_) (fun A o s2 i=>?_);{rw[eh A]at h;exact h _ _ W2 (some (⟨_,⟨[],[]⟩⟩,wr)) le (fun x P=>by cases P;exact fz) rfl (St.vK ((((i.ae (aa lb)).drop).ae (aa bb)).drop))};{rw[ed (by rw[A];simp)]at h;exact h _ _ _ (some Y) (Wd.le.refl W) B rfl (St.vK i)}}
 have e0:cj y tk none=(tk,none,Dk):=by{unfold cj;rw[ed k,ed m]};have e1:∀Z,cj y tk (some Z)=(tk,some (Z.step y).1,(Z.step y).2):=fun Z=>by{unfold cj;rw[ed k,ed m]};obtain⟨na,rfl⟩:=dR.shape fn;cases X with|none=>{rw[aex,e0]at h;dsimp only at h;obtain⟨q,j⟩:=S.xr;refine YJ (by rw[r];exact k) (by rw[r];exact m) j fun o s2 i=>?_;exact h _ _ _ none (Wd.le.refl W) B rfl (St.vL i)}|some Y=>{obtain⟨Y,wr⟩:=Y;have u:=hok Y rfl;rw[wo,e1]at h;dsimp only at h;obtain⟨lb,bb,j⟩:=S.vM;obtain⟨kw,v,gw,lw⟩:=j.cell;have hs:=j.new s Z;refine en hE [(2,[],[],[])] func11 ntmps11 ?_;simp[hs,kw,v,aH,(V:w≠s),bw,k,m,r,show¬y.word=[116,105,99,107,115]from k,show¬y.word=[108,105,110,107]from m];refine N7 hX C.ok C.small C.look C.data k m u.lk hK (by have:=u.bk;omega) (B _ rfl) fn (j.skip _) fun o s2 i=>?_;simp;exact h _ _ _ (some ((Y.step y).1,wr)) (Wd.le.refl W) (fun x P=>by cases P;exact B (Y,wr) rfl) rfl (St.vK i)}
end
end
end Go.Proofs.YtlkceignfhnpoaaGreatDoor
