/-
  Part of a proof, written small.
-/
import Derived.Test.YtlkceignfhnpoaaGreatDoorS1SASLSOSY19
import Derived.Test.YtlkceignfhnpoaaGreatDoorS1SASLSOSY28
import Derived.Test.YtlkceignfhnpoaaGreatDoorS1SASLSOSY34
set_option linter.all false
set_option maxRecDepth 100000
open Go.Proofs.Tryz
namespace Go.Proofs.YtlkceignfhnpoaaGreatDoor
open Go AX
variable{v v' p lv a z R:bn}{im l:jQ}{B j:ahG}{D W:List Nat}{u:UnitS}{s d cap:Nat}{f:cd}{n:Int}{w:bt}{P:c7}{x:AB}{H K:AH}{q:bE bn}{φ:Ren}{O:bj}{r:aR}
section
open Go.RowKit
def uM:bj->bj->Bool
 |[],[]=>true
 |uv a::r,uv b::t=>a==b&&uM r t
 |_,_=>false
def I3:∀{a b:bj},uM a b=true->a=b
 |[],[],_=>rfl
 |[],_::_,h=>by simp[uM]at h
 |_::_,[],h=>by
  unfold uM at h;split at h<;>simp_all
 |x::r,y::t,h=>by
  unfold uM at h;split at h
  ·rename_i e1 e2;cases e1
  ·rename_i a c b d e1 e2
   cases e1;cases e2;simp only[ev,ahr]at h;rw[h.1,I3 h.2]
  ·cases h
def zt(x:bj×bW×Bool):Bool:=uM x.1 oJ&&(decide (x.2.1=200)&& !x.2.2)
def pY(k sq n ps mr:Int)(self:Bool)(d:bm):bn:=
 if cS k sq n ps mr [] self d.size=0 then .tuple #[.string ⟨(sT k sq n ps mr [] self d.data.toList).toArray⟩,iv 0]else .tuple #[.string ⟨#[]⟩,iv (cS k sq n ps mr [] self d.size)]
def nT(args:ahG):AX bn:=
 match args.toList with
 |[.pointer (some ⟨b,0,none⟩),.agg cs]=>(match cs.toList with
  |[iv k,iv sq,uv n,uv ps,uv mr,.slice none 0 0,.bool self,.string d]=>
   if(0<=n/\n<4294967296)/\(0<=ps/\ps<4294967296)/\(0<=mr/\mr<4294967296)/\d.size<=1000000 then AX.bind (AX.cells b) fun x=>if zt x=true then AX.ret (pY k sq n ps mr self d)else AX.fail else AX.fail
  |_=>AX.fail)
 |_=>AX.fail
def Ig(xs:ahG):LS (qG xs):=LS.ite (LS.bind (LS.new _) fun b=>LS.ret _) LS.fail
def Tv(xs:ahG):LS (nT xs):=by unfold nT;split;{split;{exact LS.ite (LS.bind (jY _) fun x=>LS.ite (LS.ret _) LS.fail) LS.fail};{exact LS.fail}};{exact LS.fail}
section
variable{φ:Ren}{H:AH}{w w':bt}
def WR.below(c:WR P φ H w)(a:Below w.heap.size w w'):WR P φ H w'/\bL φ H w φ H w':=
 WR.fin c.env (fun b x h=>by
  obtain⟨im,e,r⟩:=c.blk b x h;exact⟨im,e,r.keep (a.block _ r.lt)⟩) c.inj ⟨a.os,a.tape,a.output,a.size,fun k d _=>a.block k d,fun k h=>.inl h⟩
def VR.OB(h:VR φ v v')(a:eJ v=true):v'=v:=by
 cases h<;>first|rfl|(simp[eJ]at a;done)
def WR.under(l:WR P φ H w)(g:Below w.heap.size w w')(G:φ s=none)(hi:w.heap.size<=im.blk)(F:BR P φ im x w'): WR P (fun k=>if k=s then some im else φ k) (aG H s (some x)) w'/\bL φ H w (fun k=>if k=s then some im else φ k) (aG H s (some x)) w'/\Nx φ (fun k=>if k=s then some im else φ k) s (s+1):=by
 have u:jw φ (fun k=>if k=s then some im else φ k):=fun k t e=>by{dsimp only;by_cases n:k=s;{subst n;rw[G]at e;cases e};{rw[ed n];exact e}};have fG:∀b y,b≠s->aG H s (some x) b=some y->H b=some y:=fun b y g h=>by{rwa [aH _ _ g]at h}
 suffices hh:(_/\_)/\_ from⟨hh.1.1,hh.1.2,hh.2⟩
 refine⟨WR.fin l.env (fun b y h=>?_) (fun b i y o f a h A v d e j=>?_) ⟨g.os,g.tape,g.output,g.size,fun k n _=>g.block k n,fun k h=>?_⟩,u,fun b t h=>?_⟩;{by_cases p:b=s;{subst p;rw[bX]at h;cases h;exact⟨im,J,F.mono u⟩};{obtain⟨t,e,r⟩:=l.blk b y (fG b y p h);exact⟨t,by simp[p,e],(r.keep (g.block _ r.lt)).mono u⟩}};{by_cases p:b=s;{subst p;simp only[rq]at e;cases e;have q:i≠b:=fun h=>v h.symm;simp only[ed q]at j;obtain⟨c,e3,z⟩:=l.blk i o (fG i o q A);rw[j]at e3;cases e3;have:=z.lt;omega};{have C:=fG b y p h;simp only[ed p]at e;by_cases q:i=s;{subst q;simp only[rq]at j;cases j;obtain⟨c,e3,z⟩:=l.blk b y C;rw[e]at e3;cases e3;have:=z.lt;omega};{simp only[ed q]at j;exact l.inj b i y o f a C (fG i o q A) v d e j}}};{obtain⟨b,y,t,D,E,m,B⟩:=h;by_cases p:b=s;{subst p;simp only[rq]at m;cases m;exact .inr (by rw[<-B];exact hi)};{simp only[ed p]at m;exact .inl ⟨b,y,t,fG b y p D,E,m,B⟩}};{by_cases p:b=s;{subst p;exact .inr ⟨Z,X3 _⟩};{simp only[ed p]at h;exact .inl h}}
def Nt:(List.range 256).map (fun i=>((kI i).toNat:Int))=AU:=U
def xE:eI=oJ:=by unfold eI oJ;rw[<-Nt,ahz];rfl
def Nu:oJ.length=256:=by rw[<-xE];simp[eI]
def EO{i:Nat}(h:oJ[i]? =some v):eJ v=true:=by unfold oJ at h;rw[z7]at h;cases a:AU[i]? with|none=>{rw[a]at h;cases h}|some k=>{rw[a]at h;simp at h;subst h;rfl}
def AN:aW prog 200=some 256:=U
def Ep(args:ahG)(H:AH)(s:Nat)(q:bE bn)(h:qG args H s=some q)(φ:Ren)(w:bt)(B:ahG)(l:WR prog φ H w)(g:VA φ args B)(k:dz φ s q.s):Calls prog 57 B w (dH prog φ H w s q):=by unfold qG at h;split at h;{rename_i m;simp[AX.bind,AX.new,AX.ret]at h;subst h;obtain rfl:B=#[]:=Pp (by rw[<-g.len];exact m);refine(Sh w).mono ?_;rintro e w'⟨b,rfl,j,r,p⟩;have t:BR prog φ ⟨b,0,256,256⟩ pM w':=by{refine⟨eI.toArray,200,(0,0),r,by simp[eI],(by rw[Nu];exact Z),fun i v a=>?_,by rw[AN];rfl,fun h=>(by cases h),fun _ _=>rfl,fun h=>(by cases h)⟩;refine⟨v,?_,VR.simple (EO a),?_⟩;{simp[xE,a]};{have:=EO a;revert this;cases v<;>simp[eJ,oneV]}};obtain⟨c,d,f⟩:=l.under p (k s Z (X3 _)) j t;exact⟨_,_,rfl,f,.ptr (im:=⟨b,0,256,256⟩) J,c,d⟩};{cases h}
def QV(args:ahG):(∃(b:Nat)(k f n e c:Int)(a:Bool)(d:bm),args=#[.pointer (some ⟨b,0,none⟩),.agg #[iv k,iv f,uv n,uv e,uv c,.slice none 0 0,.bool a,.string d]]/\ nT args=if(0<=n/\n<4294967296)/\(0<=e/\e<4294967296)/\(0<=c/\c<4294967296)/\d.size<=1000000 then AX.bind (AX.cells b) fun x=>if zt x=true then AX.ret (pY k f n e c a d)else AX.fail else AX.fail)\/nT args=AX.fail:=by
 have p:∀(l:bj),(∃(b:Nat)(k f n e c:Int)(a:Bool)(d:bm),l=[.pointer (some ⟨b,0,none⟩),.agg #[iv k,iv f,uv n,uv e,uv c,.slice none 0 0,.bool a,.string d]]/\
  nT l.toArray=if(0<=n/\n<4294967296)/\(0<=e/\e<4294967296)/\(0<=c/\c<4294967296)/\d.size<=1000000 then AX.bind (AX.cells b) fun x=>if zt x=true then AX.ret (pY k f n e c a d)else AX.fail else AX.fail)\/nT l.toArray=AX.fail:=by
  intro l;unfold nT;split
  ·rename_i b g o
   split;{rename_i k f n e c a d m;refine .inl ⟨b,k,f,n,e,c,a,d,?_,rfl⟩;have e2:g=g.toList.toArray:=J;have q:l=_:=o;rw[q,e2,m]};{exact .inr rfl}
  ·exact .inr rfl
 rcases p args.toList with⟨b,k,f,n,e,c,a,d,i,j⟩|h;{refine .inl ⟨b,k,f,n,e,c,a,d,?_,by simpa using j⟩;have e1:args=args.toList.toArray:=J;rw[e1,i]};{exact .inr (by simpa using h)}
def QU{args:ahG}{H:AH}(h:nT args H s=some q):∃(b:Nat)(k i n f e:Int)(a:Bool)(d:bm),args=#[.pointer (some ⟨b,0,none⟩),.agg #[iv k,iv i,uv n,uv f,uv e,.slice none 0 0,.bool a,.string d]]/\ ((0<=n/\n<4294967296)/\(0<=f/\f<4294967296)/\(0<=e/\e<4294967296)/\d.size<=1000000)/\H b=some pM/\q=⟨pY k i n f e a d,H,s,[b],[]⟩:=by rcases QV args with⟨b,k,i,n,f,e,a,d,v,m⟩|m;{rw[m]at h;split at h;{rename_i r;obtain⟨p,o,t,g,rfl⟩:=AX.bind_some h;unfold AX.cells at t;obtain⟨B,A,c,j,rfl⟩:=AX.bind_some t;unfold AX.get at c;cases l:H b with|none=>{rw[l]at c;cases c}|some x=>{rw[l]at c;simp only[el]at c;subst c;cases x with|map kv=>{cases j}|cells rs T wr=>{simp[AX.ret]at j;subst j;dsimp only at g;split at g;{rename_i u;simp[AX.ret]at g;subst g;refine⟨b,k,i,n,f,e,a,d,v,r,?_,J⟩;simp only[zt,ev,ml,ahc]at u;obtain⟨w,y,z⟩:=u;rw[l,I3 w,y,z];rfl};{cases g}}}};{cases h}};{rw[m]at h;cases h}
def QT(args:ahG)(H:AH)(s:Nat)(q:bE bn)(h:nT args H s=some q)(φ:Ren)(w:bt)(B:ahG)(G:WR prog φ H w)(C:VA φ args B)(hf:dz φ s q.s):Calls prog 120 B w (dH prog φ H w s q):=by obtain⟨b,k,o,n,m,l,p,d,rfl,⟨F,u,a,W⟩,T,rfl⟩:=QU h;obtain⟨im,g,j⟩:=G.blk b _ T;obtain⟨ds,T',fr,O,g2,g3,P,Q,g6,R⟩:=j;have r:im.base=0:=R.1 rfl (by rw[Q,AN];decide);have f:jP w im.blk:=fun i X=>by{obtain⟨v',e1,E,_⟩:=P i (uv (kI i).toNat) (by rw[<-xE];simp[eI,X]);cases E;simp[World.cell?,O];simpa[r]using e1};obtain⟨v0,z0,r0⟩:=C.get (i:=0) (v:=.pointer (some ⟨b,0,none⟩)) rfl;obtain⟨v1,z1,E⟩:=C.get (i:=1) (v:=.agg #[iv k,iv o,uv n,uv m,uv l,.slice none 0 0,.bool p,.string d]) rfl;have M:v0=.pointer (some ⟨im.blk,0,none⟩):=by{cases r0 with|ptr h=>{rw[g]at h;cases h;simp[r]}};have e1:v1=.agg #[iv k,iv o,uv n,uv m,uv l,.slice none 0 0,.bool p,.string d]:=by{cases E with|agg _ es D hv=>{congr 1;apply af0 D.symm;intro i z A;refine(hv i _ _ (qN A) (qN z)).OB ?_;have S:i<8:=by{simpa using A};obtain rfl|rfl|rfl|rfl|rfl|rfl|rfl|rfl:i=0\/i=1\/i=2\/i=3\/i=4\/i=5\/i=6\/i=7:=V;(all_goals rfl)}};have N:B=#[.pointer (some ⟨im.blk,0,none⟩),iR k o n m l (.slice none 0 0) p d]:=by{have D:=C.len;apply af0;{rw[<-D];rfl};{intro i z A;have S:i<2:=by{simpa using A};obtain rfl|rfl:i=0\/i=1:=V;{have:=qN z;rw[z0]at this;simp at this;rw[<-this,M];rfl};{have:=qN z;rw[z1]at this;simp at this;rw[<-this,e1];rfl}}};subst N;have fin:∀e w',e=.returned (pY k o n m l p d)/\Below w.heap.size w w'->dH prog φ H w s ⟨pY k o n m l p d,H,s,[b],[]⟩ e w':=by{rintro e w'⟨rfl,c⟩;obtain⟨K,L⟩:=G.below c;refine⟨φ,_,rfl,Nx.refl φ s,?_,K,L⟩;have st:∀(x y:bn),eJ x=true->eJ y=true->VR φ (.tuple #[x,y]) (.tuple #[x,y]):=fun x y Y hy=>VR.mkTuple (VL.cons (VR.simple Y) (VL.one (VR.simple hy))).array;unfold pY;split;{exact st _ _ rfl rfl};{exact st _ _ rfl rfl}};by_cases t:cS k o n m l [] p d.size=0;{refine(GW im.blk k o n m l (.slice none 0 0) [] p d w f F u a (dJ.nil _ _) J t).mono fun e w' h=>fin e w' ?_;unfold pY;rw[eh t];exact h};{refine(GX im.blk k o n m l (.slice none 0 0) [] p d w F u a (dJ.nil _ _) J W J t).mono fun e w' h=>fin e w' ?_;unfold pY;rw[ed t];exact h}
def uN:List (bn×bn)->List (Int×Int)->Bool
 |[],[]=>true
 |(.agg cs,iv n)::r,p::t=>(match cs.toList with
  |[iv a,iv b]=>a==p.1&&(b==p.2&&(n==1&&uN r t))
  |_=>false)
 |_,_=>false
def I6:∀{d:List (bn×bn)}{l:List (Int×Int)},uN d l=true->d=l.map fun p=>(.agg #[iv p.1,iv p.2],iv 1)
 |[],[],_=>rfl
 |[],_::_,h=>by simp[uN]at h
 |_::_,[],h=>by
  unfold uN at h;split at h<;>simp_all
 |x::r,p::t,h=>by
  unfold uN at h;split at h
  ·rename_i e1 e2;cases e1
  ·rename_i c n m z o e1 e2
   cases e1;cases e2;split at h
   ·rename_i a b k
    simp only[ev,ahr]at h;obtain⟨f,g,i,j⟩:=h;have e:c=c.toList.toArray:=J;rw[I6 j,ahu,e,k,f,g,i]
   ·cases h
  ·cases h
def E0:Ex:=fun _=>none
def KH(n:Nat):qB prog (cE prog E0 n):=Ac BG BH ⟨fun f g a h=>(by cases h),fun f g h=>(by cases h)⟩ n
def Gi(x:Option (bE bn)):Bool:=
 match x with
 |some o=>(match o.val with
  |.map (some m)=>(match o.H m with
   |some (.map kv)=>uN kv qS
   |_=>false)
  |_=>false)
 |none=>false
noncomputable def Bt:Option (bE bn):=cE prog E0 10 168 #[] (fun _=>none) 0
def PQ:Gi Bt=true:=U
def PT:∃o m,Bt=some o/\o.val=.map (some m)/\o.H m=some (.map nP):=by have h:=PQ;unfold Gi at h;cases a:Bt with|none=>{rw[a]at h;cases h}|some o=>{rw[a]at h;dsimp only at h;split at h;{rename_i m c;split at h;{rename_i d b;exact⟨o,m,rfl,c,by rw[b,I6 h];rfl⟩};{cases h}};{cases h}}
def zD{l f:bj}{φ c:Ren}(h:VL c l f)(d:l.all flat=true):VL φ l f:=by have e:=h.gv d;subst e;refine⟨rfl,fun i v v' a b=>?_⟩;rw[a]at b;cases b;exact VR.flat (eu.1 d v (w0 a))
def PW:(nP.map (·.1)).all flat=true:=U
def PR:(nP.map (·.2)).all flat=true:=U
def Gh(args:ahG)(H:AH)(s:Nat)(q:bE bn)(h:qR args H s=some q)(φ:Ren)(w:bt)(B:ahG)(g:WR prog φ H w)(L:VA φ args B)(M:dz φ s q.s):Calls prog 168 B w (dH prog φ H w s q):=by unfold qR at h;split at h;{rename_i O;simp[AX.bind,AX.new,AX.ret]at h;subst h;obtain rfl:B=#[]:=Pp (by rw[<-L.len];exact O);obtain⟨o,m,e1,e2,e3⟩:=PT;refine(KH 10 _ #[] (fun _=>none) 0 o e1 (fun _=>none) w #[] ⟨fun b x h=>(by cases h),fun b Q x R im a h=>(by cases h),mL.start g.env.ok (fun k⟨b,x,im,h,_⟩=>(by cases h))⟩ ⟨rfl,fun i v v' h=>by simp at h⟩ (fun _ _ _=>rfl)).mono ?_;rintro e w'⟨P,v',rfl,_,r,wr,d⟩;rw[e2]at r;cases r with|map hm=>{rename_i im;obtain⟨c,f,A⟩:=wr.blk m _ e3;rw[hm]at f;cases f;have j:∀k,¬gH (fun _=>none) (fun _=>none) k:=fun k h=>by{obtain⟨b,x,im,K,_⟩:=h;cases K};have t:Below w.heap.size w w':=⟨d.os,d.tape,d.output,d.size,fun k N=>d.block k N (j k)⟩;have u:w.heap.size<=im.blk:=(d.sub im.blk ⟨m,_,im,e3,rfl,hm,rfl⟩).elim (fun h=>absurd h (j _)) id;obtain⟨C,p,D,E,F,G⟩:=A;have y:BR prog φ im (.map nP) w':=⟨C,p,D,zD E PW,zD F PR,G⟩;obtain⟨l,n,z⟩:=g.under t (M s Z (X3 _)) u y;exact⟨_,_,rfl,z,.map (im:=im) J,l,n⟩}};{cases h}
def Ij(xs:ahG):LS (qR xs):=LS.ite (LS.bind (LS.new _) fun b=>LS.ret _) LS.fail
def E1(f:cd):Option (ahG->AX bn):=
 if f=57 then some qG
 else if f=120 then some nT
 else if f=168 then some qR
 else if rK.contains f=true then some fun _=>AX.fail
 else none
def Lv{g:ahG->AX bn}(h:E1 f=some g):(f=57/\g=qG)\/(f=120/\g=nT)\/(f=168/\g=qR)\/g=fun _=>AX.fail:=by unfold E1 at h;split at h;{cases h;exact .inl ⟨by assumption,rfl⟩};{split at h;{cases h;exact .inr (.inl ⟨by assumption,rfl⟩)};{split at h;{cases h;exact .inr (.inr (.inl ⟨by assumption,rfl⟩))};{split at h;{cases h;exact .inr (.inr (.inr rfl))};{cases h}}}}
theorem xk:Bare E1 where
 no:=fun f h=>by
  unfold E1;rw[ed,ed,ed,ed (by rw[h];decide)]
  ·intro e;subst e;revert h;decide
  ·intro e;subst e;revert h;decide
  ·intro e;subst e;revert h;decide
 ls:=fun f g a h=>by
  rcases Lv h with⟨_,rfl⟩|⟨_,rfl⟩|⟨_,rfl⟩|rfl
  ·exact Ig a
  ·exact Tv a
  ·exact Ij a
  ·exact LS.fail
 wire:=by unfold E1;rw[eh rfl]
 reqs:=by unfold E1;rw[ed I,ed I,eh rfl]
def abj:xh prog E1 where
 loc:=fun f g d h=>(xk.ls f g d h).loc
 ok:=fun f g h r H s q e φ w p c a b=>by
  rcases Lv h with⟨rfl,rfl⟩|⟨rfl,rfl⟩|⟨rfl,rfl⟩|rfl
  ·exact Ep r H s q e φ w p c a b
  ·exact QT r H s q e φ w p c a b
  ·exact Gh r H s q e φ w p c a b
  ·cases e
end
end
section
open Go.RowKit
section
variable{φ:Ren}{H:AH}{w w':bt}{s:Nat}
def oS(d:WR prog φ H w)(c:VR φ v v)(h:Calls prog f B w fun e w'=>e=.returned v/\Below w.heap.size w w'):Calls prog f B w (dH prog φ H w s ⟨v,H,s,D,[]⟩):=by refine h.mono ?_;rintro e w'⟨rfl,p⟩;obtain⟨a,b⟩:=d.below p;exact⟨φ,_,rfl,Nx.refl φ s,c,a,b⟩
def yI:∀{b:bj}{l:List Int},mf b=some l->b=l.map (Value.int .u32)
 |[],l,h=>by simp[mf]at h;subst h;rfl
 |c::r,l,h=>by
  unfold mf at h;split at h
  ·rename_i e;cases e
  ·rename_i n d e
   cases e;cases a:mf r with
   |none=>rw[a]at h;cases h
   |some t=>
    rw[a]at h;cases h;rw[yI a];rfl
  ·cases h
def zf{c:bn}{o:bE (List Int)}(h:jI lv H s=some o)(K:WR prog φ H w)(B:VR φ lv c):o.H=H/\o.s=s/\o.W=[]/\dJ .u32 w c o.val:=by unfold jI at h;split at h;{simp[AX.ret]at h;subst h;cases B;exact⟨rfl,rfl,rfl,dJ.nil _ _⟩};{rename_i d C n m;obtain⟨p,Y,A,a,rfl⟩:=AX.bind_some h;unfold AX.cells at A;obtain⟨p1,X,b,i,rfl⟩:=AX.bind_some A;unfold AX.get at b;cases k:H d with|none=>{rw[k]at b;cases b}|some x=>{rw[k]at b;simp only[el]at b;subst b;cases x with|map kv=>{cases i}|cells cs T wr=>{simp[AX.ret]at i;subst i;dsimp only at a;cases g:mf ((cs.drop C).take n)with|none=>{rw[g]at a;cases a}|some l=>{rw[g]at a;dsimp only at a;split at a;{rename_i G;obtain⟨y,v,rfl⟩:=G;simp[AX.ret]at a;subst a;have f:l.length=n:=by{have:=congrArg List.length (yI g);simp at this;omega};refine⟨rfl,rfl,rfl,?_⟩;dsimp only;obtain⟨im,r,N,M,O,E,P,Q,F,R,S,W⟩:=K.blk d _ k;cases B with|slice h5 h6 h7 h8=>{rename_i t u;rw[r]at h5;cases h5;refine⟨_,t,by rw[f],by rw[f];exact h6,by unfold maxLen at h8;rw[f];omega,fun _=>⟨_,_,rfl⟩,fun D L e j z=>?_⟩;simp only[el,Addr.mk.injEq,and_true]at e;obtain⟨rfl,rfl⟩:=e;have q:((cs.drop C).take n)[j]? =some (uv (l.getD j 0)):=by{rw[yI g];simp[z]};rw[ade V,NL]at q;obtain⟨v',e1,e2,_⟩:=F _ _ q;cases e2;simp[World.cell?,E,adr,e1]}|slice0=>{obtain rfl:l=[]:=HV.1 f;exact⟨_,0,rfl,Z,J,fun h=>V,fun D L e j z=>(by simp at z)⟩}};{cases a}}}}};{cases h}
end
section
def yL(h:p9 n=true):0<=n/\n<4294967296:=by simpa[p9]using h
def vP(h:fO u=true):(0<=u.n/\u.n<4294967296)/\(0<=u.ps/\u.ps<4294967296)/\(0<=u.mr/\u.mr<4294967296)/\(∀x∈u.list,0<=x/\x<4294967296)/\u.list.length<=100000/\u.data.size<=100000:=by simp only[fO,ev,ml,eu]at h;exact⟨yL h.1,yL h.2.1,yL h.2.2.1,fun x a=>yL (h.2.2.2.1 x a),h.2.2.2.2.1,h.2.2.2.2.2⟩
def I5:∀{a b:bj},rA a b=true->a=b
 |[],[],_=>rfl
 |[],_::_,h=>by simp[rA]at h
 |_::_,[],h=>by
  unfold rA at h;split at h<;>simp_all
 |x::r,y::t,h=>by
  unfold rA at h;split at h
  ·rename_i e1 e2;cases e1
  ·rename_i a c b d e1 e2
   cases e1;cases e2;simp only[ev,ahr]at h;rw[h.1,I5 h.2]
  ·cases h
def aS(u:UnitS):bm×Int:=if mz u=0 then(⟨(sT u.kind u.sq u.n u.ps u.mr u.list u.self u.data.data.toList).toArray⟩,0)else(⟨#[]⟩,mz u)
def tG(u:UnitS):bm:=if mz u=0 then⟨(mD u.kind u.sq u.n u.ps u.mr u.list u.self u.data.data.toList).toArray⟩else⟨#[]⟩
def rF(f:bm):Int×bm×Int:=(((mq f.data.toList).1.toNat:Int),⟨(mq f.data.toList).2.1.toArray⟩,(mq f.data.toList).2.2)
variable{φ:Ren}{H:AH}{w:bt}{s:Nat}
def Eo{b:Nat}{x:bj×bW×Bool}(g:H b=some (.cells x.1 x.2.1 x.2.2))(a:rz x=true)(l:WR prog φ H w)(k:VR φ (aa b) v'):∃t,v'=aa t/\jP w t:=by obtain⟨s,T,wr⟩:=x;simp only[rz,ev,ml,ahc]at a;obtain⟨n,rfl,rfl⟩:=a;obtain rfl:=I5 n;obtain⟨im,q,r⟩:=l.blk b _ g;obtain⟨u,o,v,c,y,z,d,e,A,f⟩:=r;have p:im.base=0:=f.1 rfl (by rw[e,AN];decide);cases k with|ptr h=>{rw[q]at h;cases h;refine⟨im.blk,by simp[p],fun i j=>?_⟩;obtain⟨v',e1,m,_⟩:=d i (uv (kI i).toNat) (by rw[<-xE];simp[eI,j]);cases m;simp[World.cell?,c];simpa[p]using e1}
def tE{b:Nat}{q:bE (bj×bW×Bool)}(h:AX.cells b H s=some q):H b=some (.cells q.val.1 q.val.2.1 q.val.2.2)/\q.H=H/\q.s=s/\q.W=[]:=by unfold AX.cells at h;obtain⟨f,e,a,c,rfl⟩:=AX.bind_some h;unfold AX.get at a;cases d:H b with|none=>{rw[d]at a;cases a}|some x=>{rw[d]at a;simp only[el]at a;subst a;cases x with|map kv=>{cases c}|cells cs T wr=>{simp[AX.ret]at c;subst c;exact⟨rfl,rfl,rfl,rfl⟩}}
def AO{k sq ps mr:Int}{self:Bool}{d:bm}(a:VR φ (.agg #[iv k,iv sq,uv n,uv ps,uv mr,lv,.bool self,.string d]) v'):∃b,v'=iR k sq n ps mr b self d/\VR φ lv b:=by
 cases a with
 |agg _ c hl a=>
  obtain⟨c⟩:=c;simp at hl
  match c,hl with
  |[a0,a1,a2,a3,a4,a5,a6,a7],_=>
   have e:=a 0 _ _ rfl rfl;have f:=a 1 _ _ rfl rfl;have g:=a 2 _ _ rfl rfl;have h:=a 3 _ _ rfl rfl;have i:=a 4 _ _ rfl rfl;have j:=a 5 _ _ rfl rfl;have l:=a 6 _ _ rfl rfl;have m:=a 7 _ _ rfl rfl;cases e;cases f;cases g;cases h;cases i;cases l;cases m;exact⟨a5,rfl,j⟩
def wV{b:bn}(h:VA φ #[a,b] B):∃c d,B=#[c,d]/\VR φ a c/\VR φ b d:=by
 obtain⟨l⟩:=B;have e:=h.len;simp at e
 match l,e with
 |[x,y],_=>exact⟨x,y,rfl,h.at_ 0 _ _ rfl rfl,h.at_ 1 _ _ rfl rfl⟩
def vy(h:VA φ #[a] B):∃b,B=#[b]/\VR φ a b:=by
 obtain⟨l⟩:=B;have c:=h.len;simp at c
 match l,c with
 |[x],_=>exact⟨x,rfl,h.at_ 0 _ _ rfl rfl⟩
def aax{b c:bn}(h:VA φ #[a,b,c] B):∃d e f,B=#[d,e,f]/\VR φ a d/\VR φ b e/\VR φ c f:=by
 obtain⟨l⟩:=B;have g:=h.len;simp at g
 match l,g with
 |[x,y,z],_=>exact⟨x,y,z,rfl,h.at_ 0 _ _ rfl rfl,h.at_ 1 _ _ rfl rfl,h.at_ 2 _ _ rfl rfl⟩
def ED{x y:bn}(a:eJ x=true)(b:eJ y=true):VR φ (.tuple #[x,y]) (.tuple #[x,y]):=VR.mkTuple (VL.cons (VR.simple a) (VL.one (VR.simple b))).array
def QY(args:ahG)(H:AH)(s:Nat)(q:bE bn)(h:ux aS args H s=some q)(φ:Ren)(w:bt)(B:ahG)(y:WR prog φ H w)(M:VA φ args B):Calls prog 120 B w (dH prog φ H w s q):=by obtain⟨args⟩:=args;unfold ux at h;dsimp only at h;split at h;{rename_i b G;obtain⟨G⟩:=G;dsimp only at h;split at h;{rename_i k m n l j lv a d;obtain⟨p,o,K,u,rfl⟩:=AX.bind_some h;obtain⟨c1,c2,c3,c4⟩:=tE K;rw[c2,c3]at u;split at u;{rename_i z;obtain⟨g,o2,L,x,rfl⟩:=AX.bind_some u;split at x;{rename_i O;simp[AX.ret]at x;subst x;obtain⟨Y,u',rfl,Q,R⟩:=wV M;obtain⟨t,rfl,N⟩:=Eo c1 z y Q;obtain⟨r,rfl,S⟩:=AO R;obtain⟨d1,d2,d3,d4⟩:=zf L y S;obtain⟨A,C,E,F,T,W⟩:=vP O;dsimp only at A C E F T W;have fin:=fun(f:cd)(X:ahG)(v:bn)(P:VR φ v v)(i:Calls prog f X w fun e w'=>e=.returned v/\Below w.heap.size w w')=>oS (s:=s) (v:=v) (D:=p.D++(g.D++[])) y P i;simp only[c4,d3,d1,d2,ahl,adu]at fin⊢;by_cases c:cS k m n l j g.val a d.size=0;{have e:aS ⟨k,m,n,l,j,g.val,a,d⟩=(⟨(sT k m n l j g.val a d.data.toList).toArray⟩,0):=eh c;rw[e];exact fin _ _ _ (ED rfl rfl) (GW t k m n l j r g.val a d w N A C E d4 F c)};{have e:aS ⟨k,m,n,l,j,g.val,a,d⟩=(⟨#[]⟩,cS k m n l j g.val a d.size):=ed c;rw[e];exact fin _ _ _ (ED rfl rfl) (GX t k m n l j r g.val a d w A C E d4 F (by omega) (by omega) c)}};{cases x}};{cases u}};{cases h}};{cases h}
def Y2(args:ahG)(H:AH)(s:Nat)(q:bE bn)(h:vg mz args H s=some q)(φ:Ren)(w:bt)(B:ahG)(j:WR prog φ H w)(u:VA φ args B):Calls prog 184 B w (dH prog φ H w s q):=by obtain⟨args⟩:=args;unfold vg at h;dsimp only at h;split at h;{rename_i i;obtain⟨i⟩:=i;dsimp only at h;split at h;{rename_i k F n A z lv b d;obtain⟨l,M,t,c,rfl⟩:=AX.bind_some h;split at c;{rename_i x;simp[AX.ret]at c;subst c;obtain⟨N,rfl,C⟩:=vy u;obtain⟨g,rfl,E⟩:=AO C;obtain⟨d1,d2,d3,d4⟩:=zf t j E;obtain⟨m,o,p,r,G,K⟩:=vP x;dsimp only at m o p r G K;have fin:=fun(f:cd)(L:ahG)(v:bn)(y:VR φ v v)(a:Calls prog f L w fun e w'=>e=.returned v/\Below w.heap.size w w')=>oS (s:=s) (v:=v) (D:=l.D++[]) j y a;simp only[d3,d1,d2,ahl,adu]at fin⊢;exact fin _ _ _ (VR.simple rfl) (tD k F n A z g l.val b d w m o p d4 r (by omega) (by omega))};{cases c}};{cases h}};{cases h}
def Zv(args:ahG)(H:AH)(s:Nat)(q:bE bn)(h:vk tG args H s=some q)(φ:Ren)(w:bt)(B:ahG)(z:WR prog φ H w)(C:VA φ args B):Calls prog 185 B w (dH prog φ H w s q):=by obtain⟨args⟩:=args;unfold vk at h;dsimp only at h;split at h;{rename_i y;obtain⟨y⟩:=y;dsimp only at h;split at h;{rename_i k l n j i lv a d;obtain⟨g,P,A,o,rfl⟩:=AX.bind_some h;split at o;{rename_i E;simp[AX.ret]at o;subst o;obtain⟨Q,rfl,K⟩:=vy C;obtain⟨m,rfl,L⟩:=AO K;obtain⟨d1,d2,d3,d4⟩:=zf A z L;obtain⟨p,r,t,u,M,N⟩:=vP E;dsimp only at p r t u M N;have fin:=fun(f:cd)(O:ahG)(v:bn)(F:VR φ v v)(c:Calls prog f O w fun e w'=>e=.returned v/\Below w.heap.size w w')=>oS (s:=s) (v:=v) (D:=g.D++[]) z F c;simp only[d3,d1,d2,ahl,adu]at fin⊢;by_cases b:cS k l n j i g.val a d.size=0;{have e:tG ⟨k,l,n,j,i,g.val,a,d⟩=⟨(mD k l n j i g.val a d.data.toList).toArray⟩:=eh b;rw[e];exact fin _ _ _ (VR.simple rfl) (KI k l n j i m g.val a d w p.1 r.1 t.1 d4 (fun x G=>(u x G).1) b)};{have e:tG ⟨k,l,n,j,i,g.val,a,d⟩=⟨#[]⟩:=ed b;rw[e];exact fin _ _ _ (VR.simple rfl) (Zq k l n j i m g.val a d w p r t d4 u (by omega) (by omega) b)}};{cases o}};{cases h}};{cases h}
def W4(args:ahG)(H:AH)(s:Nat)(q:bE bn)(h:uu rF args H s=some q)(φ:Ren)(w:bt)(B:ahG)(g:WR prog φ H w)(j:VA φ args B):Calls prog 133 B w (dH prog φ H w s q):=by obtain⟨args⟩:=args;unfold uu at h;dsimp only at h;split at h;{rename_i b f;split at h;{rename_i k;obtain⟨p,o,i,c,rfl⟩:=AX.bind_some h;obtain⟨c1,c2,c3,c4⟩:=tE i;split at c;{rename_i d;simp[AX.ret]at c;subst c;obtain⟨x,y,rfl,n,r⟩:=wV j;obtain⟨t,rfl,l⟩:=Eo c1 d g n;cases r;have fin:=fun(f:cd)(u:ahG)(v:bn)(m:VR φ v v)(a:Calls prog f u w fun e w'=>e=.returned v/\Below w.heap.size w w')=>oS (s:=s) (v:=v) (D:=p.D++[]) g m a;simp only[c4,c2,c3,ahl,adu]at fin⊢;exact fin _ _ _ (VR.mkTuple (VL.cons (VR.ta (VL.cons (VR.simple rfl) (VL.one (VR.simple rfl))).array) (VL.one (VR.simple rfl))).array) (WW t f w l k)};{cases c}};{cases h}};{cases h}
def aap(args:ahG)(H:AH)(s:Nat)(q:bE bn)(h:vw args H s=some q)(φ:Ren)(w:bt)(B:ahG)(c:WR prog φ H w)(a:VA φ args B):Calls prog 282 B w (dH prog φ H w s q):=by obtain⟨args⟩:=args;unfold vw at h;dsimp only at h;split at h;{rename_i t i;split at h;{rename_i b;simp[AX.ret]at h;subst h;obtain⟨g,k,rfl,d,f⟩:=wV a;cases d;cases f;obtain⟨j,rfl⟩:=ac2 b.1;refine oS c (VR.simple rfl) ((aao t j V V w).mono ?_);rintro e w'⟨rfl,rfl⟩;exact⟨rfl,(Below.refl _ _).drew⟩};{cases h}};{cases h}
def Xc(args:ahG)(H:AH)(s:Nat)(q:bE bn)(h:uT args H s=some q)(φ:Ren)(w:bt)(B:ahG)(c:WR prog φ H w)(b:VA φ args B):Calls prog 132 B w (dH prog φ H w s q):=by obtain⟨args⟩:=args;unfold uT at h;dsimp only at h;split at h;{rename_i t p m;split at h;{rename_i a;simp[AX.ret]at h;subst h;obtain⟨g,i,k,rfl,d,e,f⟩:=aax b;cases d;cases e;cases f;obtain⟨j,rfl⟩:=ac2 a.2.2.2.1;exact oS c (VR.simple rfl) (Xd t p j w a.1 a.2.1 a.2.2.1 V)};{cases h}};{cases h}
end
end
def yK(h:0<=n/\n<16777216):p9 n=true:=by simp only[p9,ev,ml];omega
def EB(j:mz u=0)(f:0<=u.n)(g:0<=u.ps)(h:0<=u.mr)(i:∀x∈u.list,0<=x):fO u=true:=by obtain⟨k,l,b,c,d,e,m,n⟩:=Dn j;simp only[fO,ev,ml,eu];exact⟨yK ⟨f,b⟩,yK ⟨g,c⟩,yK ⟨h,d⟩,fun x a=>yK ⟨i x a,e x a⟩,V,V⟩
def Re{c:bm->Int×bm×Int}{b:UnitS->bm}:Ax (oV c mz b):=fun f h=>by
 obtain⟨d,e,a⟩:=G9 h;exact EB d a.n a.ps a.mr a.list
def OT(h:u.sent):fO u=true:=EB h.chk h.n h.ps h.mr fun x a=>(h.list x a).1
def Mi(k sq ps mr:Int)(l:List Int):(jS k sq ps mr l).length<=l.length+4:=by
 unfold jS;simp only[dw,pt]
 repeat' split
 all_goals simp
 all_goals omega
def QB(h:u.sent):(aS u).1.size<=4000:=by have a:mz u=0:=h.chk;obtain⟨b,c,d,e,f,g,i,j⟩:=Dn h.chk;unfold aS;rw[eh a];show(List.toArray _).size<=4000;rw[ahE];unfold sT;rw[WS,KJ];have k:=Mi u.kind u.sq u.ps u.mr u.list;have l:u.data.data.toList.length=u.data.size:=by{rw[P0];rfl};omega
def dx:iq aS:=⟨fun u h=>by unfold aS;rw[eh (show mz u=0 from h.chk)],fun u h=>QB h,fun u h=>OT h⟩
def bC:bm->UnitS×Int:=oV rF mz tG
def gZ:rU bC:=Rd
def yG:Ax bC:=Re
section
open Go.RowKit
section
variable{φ:Ren}{H:AH}{w w':bt}{s:Nat}
def K0:aW prog cr=some 2:=U
def AQ:aW prog 5=some 1:=U
def Rt:sW cr=true:=U
def Rs:sW 5=true:=U
def vj{b:Nat}{q:bE (bj×bW×Bool)}(h:AX.cells b H s=some q):H b=some (.cells q.val.1 q.val.2.1 q.val.2.2)/\q.H=H/\q.s=s:=by unfold AX.cells at h;obtain⟨f,e,a,c,rfl⟩:=AX.bind_some h;unfold AX.get at a;cases d:H b with|none=>{rw[d]at a;cases a}|some x=>{rw[d]at a;simp only[el]at a;subst a;cases x with|map kv=>{cases c}|cells cs T wr=>{simp[AX.ret]at c;subst c;exact⟨rfl,rfl,rfl⟩}}
def WR.Af(m:WR prog φ H w){b:Nat}(l:H b=some (.cells [p,v] cr true)):∃im z v',φ b=some im/\im.base=0/\im.lim=2/\im.es=2/\w.heap[im.blk]? =some (.cells #[z,v'] cr (0,0))/\VR φ p z/\VR φ v v':=by obtain⟨im,r,c,t,u,e,x,y,a,f,g,A,h⟩:=m.blk b _ l;obtain⟨rfl,rfl,B⟩:=g rfl;obtain⟨d,j⟩:=h rfl Rt;have k:=j rfl rfl;rw[d]at a;obtain⟨z,e1,o,_⟩:=a 0 p rfl;obtain⟨v',e2,s,_⟩:=a 1 v rfl;have q:c=#[z,v']:=by{have n:c.size=2:=V;apply af0;{simp[n]};{intro i C D;have:i=0\/i=1:=V;rcases this with rfl|rfl;{rw[qN V]at e1;simpa using e1};{rw[qN V]at e2;simpa using e2}}};subst q;exact⟨im,z,v',r,d,k,by rw[f,K0];rfl,e,o,s⟩
def FH{b:Nat}(a:iz b p=true)(d:φ b=some im)(f:im.base=0)(e:VR φ p z):z=.pointer none\/z=.pointer (some ⟨im.blk,0,none⟩):=by unfold iz at a;split at a;{cases e;exact .inl rfl};{rename_i c;have g:c=b:=by{simpa using a};subst g;cases e with|ptr h=>{rw[d]at h;cases h;right;simp[f]}};{cases a}
def WR.F9(n:WR prog φ H w)(l:H d=some (.cells O 5 true))(a:φ d=some im):∃j,w.heap[im.blk]? =some (.cells j 5 (0,0))/\im.base=0/\im.lim=j.size/\im.es=1/\O.length<=j.size/\VL φ O (j.toList.take O.length):=by obtain⟨q,p,b,o,s,f,t,x,c,g,h,y,k⟩:=n.blk d _ l;rw[a]at p;cases p;obtain⟨rfl,rfl,z⟩:=h rfl;obtain⟨e,A⟩:=k rfl Rs;rw[e]at c;refine⟨b,f,e,V,by rw[g,AQ];rfl,V,?_,fun i v v' e1 e2=>?_⟩;{simp;omega};{obtain⟨u,e3,r,_⟩:=c i v e1;have m:i<O.length:=(nc.1 e1).1;rw[ade m]at e2;rw[ahH]at e3;have:b[i]? =some v':=by{simpa using e2};rw[e3]at this;cases this;exact r}
def Eu(t:bm):VL φ (eM t) (Lib.strCells t):=VL.simple (eu.2 fun v a=>by
 obtain⟨c,_,rfl⟩:=nm.1 a;rfl)
def Ha(t:bm):(eM t).all oneV=true:=eu.2 fun v a=>by
 obtain⟨c,_,rfl⟩:=nm.1 a;rfl
def Ad(t:bm):(eM t).length=t.size:=by simp[eM]
def MP{α:Type}:∀{l:List α},l.length=2->∃a b,l=[a,b]
 |[a,b],_=>⟨a,b,rfl⟩
def Dv{a:Ren}{r:Nat}{c:bt}{b:Nat}{v1:bn}{val:bn}(n:WR prog a K c)(E:bL φ H w a K c)(C:Nx φ a s r)(z:K b=some (.cells [p,v] cr true))(f:a b=some im)(d:im.base=0)(j:im.lim=2)(A:im.es=2)(m:w'.os=c.os/\w'.tape=c.tape/\w'.output=c.output)(G:w'.heap.size=c.heap.size)(B:∀k,k≠im.blk->w'.heap[k]? =c.heap[k]?)(l:w'.heap[im.blk]? =some (.cells #[.pointer (some ⟨im.blk,0,none⟩),R] cr (0,0)))(F:VR a v1 R)(y:oneV v1=true)(g:VR a val val): dH prog φ H w s ⟨val,aG K b (some (.cells [.pointer (some ⟨b,0,none⟩),v1] cr true)),r,D,W⟩ (.returned val) w':=by
 have q:BR prog a im (.cells [.pointer (some ⟨b,0,none⟩),v1] cr true) w':=by
  refine⟨_,cr,(0,0),l,by rw[d,j];simp,by rw[j];simp,fun i u e=>?_,by rw[A,K0];rfl,fun _=>⟨rfl,rfl,by rw[d,j];simp⟩,fun h=>(by cases h),fun _ _=>⟨d,fun _ _=>j⟩⟩;rw[d,ahH]
  match i with
  |0=>
   simp at e;subst e;refine⟨_,rfl,?_,rfl⟩;have:=VR.ptr (o:=0) f;rw[d]at this;exact this
  |1=>
   simp at e;subst e;exact⟨_,rfl,F,y⟩
  |i+2=>simp at e
 obtain⟨t,x⟩:=n.turn (w':=w') z rfl f m.1 m.2.1 m.2.2 G B q rfl;exact⟨a,val,rfl,C,g,t,E.trans x⟩
def BE{b:Nat}{n:Nat}(h:kM b v n H s=some q):∃p u D W,H b=some (.cells [p,u] cr true)/\q=⟨.tuple #[iv n,.nilIface],aG H b (some (.cells [.pointer (some ⟨b,0,none⟩),v] cr true)),s,D,W⟩:=by unfold kM at h;obtain⟨x,o,f,a,rfl⟩:=AX.bind_some h;obtain⟨c1,c2,c3⟩:=vj f;split at a;{rename_i g;obtain⟨i,j,k⟩:=g;obtain⟨p,u,e⟩:=MP k;obtain⟨y,l,c,d,rfl⟩:=AX.bind_some a;simp[AX.set]at c;subst c;simp[AX.ret]at d;subst d;rw[i,j,e]at c1;exact⟨p,u,_,_,c1,by rw[c2,c3]⟩};{cases a}
def lH(w w':bt)(b:Nat):bt:={w' with heap:=w'.heap.setIfInBounds b (w.heap.getD b (.cells #[] 0))}
def K6(w w':bt){b:Nat}{o:Go.Obj}(a:w.heap[b]? =some o)(c:b<w'.heap.size):(lH w w' b).heap[b]? =some o:=by have:w.heap.getD b (.cells #[] 0)=o:=by{rw[qe,a];rfl};simp[lH,this,c]
def vv(w w':bt){b k:Nat}(a:k≠b):(lH w w' b).heap[k]? =w'.heap[k]?:=by simp[lH,aez,adx a]
def Al{w w':bt}{b:Nat}:(lH w w' b).heap.size=w'.heap.size:=by simp[lH]
def Ea{b:Nat}{val:bn}{row g:bj}(X:WR prog φ K w)(E:bL φ H w φ K w)(f:φ s=none)(P:K b=some (.cells [p,v] cr true))(l:φ b=some im)(Y:im.base=0)(il:im.lim=2)(ie:im.es=2)(G:w.heap[im.blk]? =some (.cells #[z,v'] cr (0,0)))(F:VL φ row g)(O:row.all oneV=true)(C:w'.os=w.os/\w'.tape=w.tape/\w'.output=w.output)(n:w'.heap[im.blk]? =some (.cells #[.pointer (some ⟨im.blk,0,none⟩),.slice (some ⟨w.heap.size,0,none⟩) row.length cap] cr (0,0)))(Q:w'.heap[w.heap.size]? =some (.cells j 5 (0,0)))(S:row.length<=cap)(R:cap<=maxLen)(hz:cap<=j.size)(T:j.toList.take row.length=g)(hs:w'.heap.size=w.heap.size+1)(B:∀k,k≠im.blk->k<w.heap.size->w'.heap[k]? =w.heap[k]?)(m:VR φ val val): dH prog φ H w s ⟨val,aG (aG K s (some (.cells row 5 true))) b (some (.cells [.pointer (some ⟨b,0,none⟩),.slice (some ⟨s,0,none⟩) row.length row.length] cr true)),s+1,D,W⟩ (.returned val) w':=by have d:=(yt.1 G).1;have q:b≠s:=by{rintro rfl;rw[l]at f;cases f};have y:∀k,k<w.heap.size->(lH w w' im.blk).heap[k]? =w.heap[k]?:=fun k t=>by{by_cases e:k=im.blk;{subst e;rw[K6 w w' G V,G]};{rw[vv w w' e];exact B k e t}};have a:(lH w w' im.blk).heap[w.heap.size]? =some (.cells j 5 (0,0)):=(vv w w' V).trans Q;have c:BR prog (φ.put s ⟨w.heap.size,0,j.size,1⟩) ⟨w.heap.size,0,j.size,1⟩ (.cells row 5 true) (lH w w' im.blk):=by{refine⟨j,5,(0,0),a,J,by dsimp only;omega,fun i u A=>?_,by rw[AQ];rfl,fun _=>⟨rfl,rfl,J⟩,fun h=>(by cases h),fun _ _=>⟨rfl,fun h=>?_⟩⟩;{obtain⟨u',e1,r⟩:=F.get A;have x:=(nc.1 A).1;rw[<-T,ade x]at e1;refine⟨u',by simpa using e1,r.mono (mv f),eu.1 O _ (w0 A)⟩};{have:(5:bW)≠cr:=I;exact absurd h this}};obtain⟨L,M,N⟩:=X.new (w':=lH w w' im.blk) (s:=s) (im:=⟨w.heap.size,0,j.size,1⟩) f rfl C.1 C.2.1 C.2.2 (by rw[Al];omega) y c;refine Dv (p:=p) (v:=v) (im:=im) L (E.trans N) M (by rw[aH _ _ q];exact P) (by rw[Ren.iQ q];exact l) Y il ie ⟨rfl,rfl,rfl⟩ (Al).symm (fun k B=>(vv w w' B).symm) n ?_ rfl (m.mono (mv f));exact .slice (im:=⟨w.heap.size,0,j.size,1⟩) (o:=0) (Ren.gX _ _ _) S (by simp;omega) R
def LM{b:Nat}{val:bn}{row A:bj}(R:WR prog φ H w)(m:φ s=none)(Q:H d=some (.cells O 5 true))(n:φ d=some l)(C:d≠b)(P:H b=some (.cells [p,v] cr true))(B:φ b=some im)(i0:im.base=0)(il:im.lim=2)(ie:im.es=2)(N:w.heap[im.blk]? =some (.cells #[z,v'] cr (0,0)))(M:VL φ row A)(Y:row.all oneV=true)(L:w'.os=w.os/\w'.tape=w.tape/\w'.output=w.output)(F:w'.heap[im.blk]? =some (.cells #[.pointer (some ⟨im.blk,0,none⟩),.slice (some ⟨l.blk,0,none⟩) row.length cap] cr (0,0)))(hg:w'.heap[l.blk]? =some (.cells j 5 (0,0)))(hn:row.length<=cap)(hm:cap<=maxLen)(hz:cap<=j.size)(ht:j.toList.take row.length=A)(hs:w'.heap.size=w.heap.size)(K:∀k,k≠im.blk->k≠l.blk->w'.heap[k]? =w.heap[k]?)(E:VR φ val val): dH prog φ H w s ⟨val,aG (aG (aG H d none) s (some (.cells row 5 true))) b (some (.cells [.pointer (some ⟨b,0,none⟩),.slice (some ⟨s,0,none⟩) row.length row.length] cr true)),s+1,D,W⟩ (.returned val) w':=by have g:=(yt.1 N).1;have q:b≠s:=by{rintro rfl;rw[B]at m;cases m};have t:l.blk≠im.blk:=R.inj d b _ _ l im Q P C rfl n B;have a:∀k,k≠l.blk->(lH w w' im.blk).heap[k]? =w.heap[k]?:=fun k x=>by{by_cases e:k=im.blk;{subst e;rw[K6 w w' N V,N]};{rw[vv w w' e];exact K k e x}};have c:(lH w w' im.blk).heap[l.blk]? =some (.cells j 5 (0,0)):=(vv w w' t).trans hg;have f:BR prog (φ.put s ⟨l.blk,0,j.size,1⟩) ⟨l.blk,0,j.size,1⟩ (.cells row 5 true) (lH w w' im.blk):=by{refine⟨j,5,(0,0),c,J,by dsimp only;omega,fun i u G=>?_,by rw[AQ];rfl,fun _=>⟨rfl,rfl,J⟩,fun h=>(by cases h),fun _ _=>⟨rfl,fun h=>?_⟩⟩;{obtain⟨u',e1,r⟩:=M.get G;have y:=(nc.1 G).1;rw[<-ht,ade y]at e1;refine⟨u',by simpa using e1,r.mono (mv m),eu.1 Y _ (w0 G)⟩};{have:(5:bW)≠cr:=I;exact absurd h this}};obtain⟨S,T,X⟩:=R.Hz (w':=lH w w' im.blk) (s:=s) (im':=⟨l.blk,0,j.size,1⟩) (x':=.cells row 5 true) Q rfl n m rfl L.1 L.2.1 L.2.2 (by rw[Al];exact hs) a f rfl;refine Dv (p:=p) (v:=v) (im:=im) S X T (by rw[aH _ _ q,aH _ _ (adx C)];exact P) (by rw[Ren.iQ q];exact B) i0 il ie ⟨rfl,rfl,rfl⟩ (Al).symm (fun k K=>(vv w w' K).symm) F ?_ rfl (E.mono (mv m));exact .slice (im:=⟨l.blk,0,j.size,1⟩) (o:=0) (Ren.gX _ _ _) hn (by simp;omega) hm
def M6{b:Nat}{t:bm}{xs:bj}(h:tK w w' b t v xs R):(v=.slice none 0 0)\/ (∃g cap j,v=.slice (some ⟨g,0,none⟩) xs.length cap/\R=sl g 0 (xs.length+t.size) cap/\w'.heap[g]? =some (.cells j 5 (0,0))/\xs.length+t.size<=cap/\cap<=maxLen/\cap<=j.size/\j.toList.take (xs.length+t.size)=xs++Lib.strCells t/\w'.heap.size=w.heap.size/\∀k,k≠b->k≠g->w'.heap[k]? =w.heap[k]?)\/ (∃cap j,R=.slice (some ⟨w.heap.size,0,none⟩) (xs.length+t.size) cap/\w'.heap[w.heap.size]? =some (.cells j 5 (0,0))/\xs.length+t.size<=cap/\cap<=maxLen/\cap<=j.size/\j.toList.take (xs.length+t.size)=xs++Lib.strCells t/\w'.heap.size=w.heap.size+1/\∀k,k≠b->k<w.heap.size->w'.heap[k]? =w.heap[k]?):=by cases h with|nothing=>exact .inl rfl|there g cap j _ hg hn hm hz ht hs hk=>exact .inr (.inl ⟨g,cap,j,rfl,rfl,hg,hn,hm,hz,ht,hs,hk⟩)|new _ _ cap j h0 hg hn hm hz ht hs hk=>{exact .inr (.inr ⟨cap,j,rfl,hg,hn,hm,hz,ht,hs,hk⟩)}
def xw(n:Nat):VR φ (.tuple #[iv n,.nilIface]) (.tuple #[iv n,.nilIface]):=VR.mkTuple (VL.cons (VR.simple rfl) (VL.one .nilIface)).array
def LN(args:ahG)(H:AH)(s:Nat)(q:bE bn)(h:pK args H s=some q)(φ:Ren)(w:bt)(B:ahG)(P:WR prog φ H w)(ha:VA φ args B)(hf:dz φ s q.s):Calls prog 24 B w (dH prog φ H w s q):=by
 obtain⟨args⟩:=args;unfold pK at h;dsimp only at h;split at h
 ·rename_i b t
  obtain⟨l'⟩:=B;obtain⟨a',t',hb,ra,rt⟩:∃a' t',l'=[a',t']/\VR φ (.pointer (some ⟨b,0,none⟩)) a'/\VR φ (.string t) t':=by
   have hl:=ha.len;simp at hl
   match l',hl with
   |[x,y],_=>exact⟨x,y,rfl,ha.at_ 0 _ _ rfl rfl,ha.at_ 1 _ _ rfl rfl⟩
  subst hb;cases rt;obtain⟨x,o,h1,E,rfl⟩:=AX.bind_some h;obtain⟨c1,c2,c3⟩:=vj h1;rw[c2,c3]at E;obtain⟨⟨cs,T,wr⟩,xH,hr,xD,xW⟩:=x;dsimp only at c1 E hf;split at E
  ·rename_i p
   split at E
   ·rename_i hc
    obtain⟨k1,rfl,rfl,k4⟩:=hc;obtain⟨im,z,v',u,Q,il,ie,ib,rp,rv⟩:=P.Af c1;cases rv;cases ra with
    |ptr hra=>
    rw[u]at hra;cases hra;rw[Q,ahH];have ho:=(yt.1 ib).1;refine(Eb im.blk z (.slice none 0 0) [] t w ib (FH k1 u Q rp) .none (by simp;omega)).mono ?_;rintro e w'⟨rfl,o1,o2,o3,R,a,k⟩;split at E;{rename_i K;obtain⟨p2,u2,D,W,e1,rfl⟩:=BE E;rw[K];cases k with|nothing _ hz S=>exact Dv P (bL.refl _ _ _) (Nx.refl _ _) c1 u Q il ie ⟨o1,o2,o3⟩ hz S a .sliceNil rfl (xw 0)|new _ _ l c h0 hg F hm hz G hs S=>{rw[K]at h0;simp at h0}};{rename_i K;obtain⟨d,o4,h3,h4,rfl⟩:=AX.bind_some E;simp only[AX.new,el]at h3;subst h3;obtain⟨p2,u2,D,W,e1,rfl⟩:=BE h4;dsimp only at hf e1;have f:φ s=none:=hf s Z (X3 _);have hq:b≠s:=by{rintro rfl;rw[u]at f;cases f};cases k with|nothing ht1=>exact absurd ht1 K|new _ _ l c h0 hg F hm hz G hs S=>{have e:([]:bj).length+t.size=(eM t).length:=by{rw[Ad];simp};have ez:t.size=(eM t).length:=(Ad t).symm;rw[e]at a F G;have:=Ea (val:=.tuple #[iv t.size,.nilIface]) (D:=D) (W:=W) P (bL.refl _ _ _) f c1 u Q il ie ib (Eu t) (Ha t) ⟨o1,o2,o3⟩ a hg F hm hz (by simpa using G) hs S (xw _);rw[Ad]at this;exact this}}
   {cases E}
  ·rename_i p d n m
   split at E
   ·rename_i hc
    obtain⟨k1,rfl,rfl,L⟩:=hc;obtain⟨y,oy,h3,h4,rfl⟩:=AX.bind_some E;obtain⟨e1,e2,e3⟩:=vj h3;rw[e2,e3]at h4;obtain⟨⟨O,yT,hx⟩,yH,ka,yD,yW⟩:=y;dsimp only at e1 h4 hf;split at h4
    ·rename_i hd
     obtain⟨rfl,rfl,N,kb,rfl,h9⟩:=hd;obtain⟨z1,oz,h5,h6,rfl⟩:=AX.bind_some h4;simp[AX.set]at h5;subst h5;obtain⟨z2,hp,h7,h8,rfl⟩:=AX.bind_some h6;simp[AX.new]at h7;subst h7;obtain⟨p2,u2,D,W,q1,rfl⟩:=BE h8;dsimp only at hf q1;have f:φ s=none:=hf s Z (X3 _);obtain⟨im,z,v',u,Q,il,ie,ib,rp,rv⟩:=P.Af c1;cases ra with
     |ptr hra=>
     rw[u]at hra;cases hra;rw[Q,ahH];cases rv with|slice0=>omega|slice hmd hnc hcl hcm=>{rename_i l A;obtain⟨c,g1,g2,g3,g4,g5,g6⟩:=P.F9 e1 hmd;have hh:A.blk≠im.blk:=P.inj d b _ _ A im e1 c1 L rfl hmd u;rw[g2,ahH]at ib;have j:(c.toList.take O.length).length=n:=by{simp;omega};have hj:tL w im.blk (.slice (some ⟨A.blk,0,none⟩) n l) (c.toList.take O.length):=by{have:=tL.row (w:=w) (b:=im.blk) A.blk l c (c.toList.take O.length) hh g1 V hcm (by rw[g4]at hcl;omega) (by rw[j,N]);rw[j]at this;exact this};refine(Eb im.blk z _ _ t w ib (FH k1 u Q rp) hj V).mono ?_;rintro e w'⟨rfl,o1,o2,o3,R,a,k⟩;have M:VL φ (O++eM t) (c.toList.take O.length++Lib.strCells t):=g6.append (Eu t);have X:(O++eM t).all oneV=true:=by{rw[aey,Ha t,aet];exact eu.2 fun v hv=>by{obtain⟨hu,hy,ds,T',fr,j1,j2,j3,j4,j5⟩:=P.blk d _ e1;obtain⟨i,hi,rfl⟩:=adn hv;obtain⟨_,_,_,r⟩:=j4 i _ (ei hi);exact r}};have C:(O++eM t).length=n+t.size:=by{rw[dw,Ad,N]};rcases M6 k with hno|⟨g,cap2,cur2,hv,rfl,hg,F,hm,hz,G,hs,S⟩|⟨cap2,cur2,rfl,hg,F,hm,hz,G,hs,S⟩;{cases hno};{cases hv;rw[j,<-C]at a F G;have:=LM (val:=.tuple #[iv t.size,.nilIface]) (D:=D) (W:=W) P f e1 hmd L c1 u Q il ie ib M X ⟨o1,o2,o3⟩ a hg F hm hz G hs S (xw _);rw[C]at this;exact this};{rw[j,<-C]at a F G;obtain⟨he,Y⟩:=P.kill d;have:=Ea (val:=.tuple #[iv t.size,.nilIface]) (D:=D) (W:=W) he Y f (by rw[aH _ _ (adx L)];exact c1) u Q il ie ib M X ⟨o1,o2,o3⟩ a hg F hm hz G hs S (xw _);rw[C]at this;exact this}}
    {cases h4}
   {cases E}
  {cases E}
 {cases h}
def WR.NM(g:WR prog φ H w){x:AB}(m:H d=some x)(o:x.wr=true)(b:φ d=some l)(j:w'.os=w.os/\w'.tape=w.tape/\w'.output=w.output)(D:w'.heap.size=w.heap.size)(n:∀k,k≠l.blk->w'.heap[k]? =w.heap[k]?):WR prog φ (aG H d none) w'/\bL φ H w φ (aG H d none) w':=by have a:∀{k y},aG H d none k=some y->k≠d/\H k=some y:=by{intro k y f;by_cases e:k=d;{subst e;rw[bX]at f;cases f};{rw[aH _ _ e]at f;exact⟨e,f⟩}};refine WR.fin g.env (fun k y f=>?_) (fun k A y C t p h i=>g.inj k A y C t p (a h).2 (a i).2) ⟨j.1,j.2.1,j.2.2,V,fun k u z=>n k fun e=>z ⟨d,x,l,m,o,b,e.symm⟩,fun k⟨c,y,p,h,i,s,v⟩=>.inl ⟨c,y,p,(a h).2,i,s,v⟩⟩;obtain⟨r,q⟩:=a f;obtain⟨p,e2,B⟩:=g.blk k y q;exact⟨p,e2,B.keep (n _ fun e=>g.inj d k x y l p m q (adx r) o b e2 e.symm)⟩
def KL:∀{b:bj}{l:af},oe b=some l->b=l.map fun c=>Value.int .u8 c.toNat
 |[],l,h=>by simp[oe]at h;subst h;rfl
 |c::r,l,h=>by
  unfold oe at h;split at h
  ·rename_i e;cases e
  ·rename_i n f e
   cases e;split at h
   ·rename_i d
    cases a:oe r with
    |none=>rw[a]at h;cases h
    |some t=>
     rw[a]at h;cases h;rw[KL a];simp only[ahu];congr 1;have:(UInt8.ofNat n.toNat).toNat=n.toNat:=by
      rw[aeH];omega
     rw[this];congr 1;omega
   ·cases h
  ·cases h
def yA(d:WR prog φ H w)(c:VR φ v v)(h:Calls prog f B w fun e w'=>e=.returned v/\Below w.heap.size w w'):Calls prog f B w (dH prog φ H w s ⟨v,H,s,D,W⟩):=by refine h.mono ?_;rintro e w'⟨rfl,p⟩;obtain⟨a,b⟩:=d.below p;exact⟨φ,_,rfl,Nx.refl φ s,c,a,b⟩
def M7(args:ahG)(H:AH)(s:Nat)(q:bE bn)(h:pP args H s=some q)(φ:Ren)(w:bt)(B:ahG)(Q:WR prog φ H w)(ha:VA φ args B):Calls prog 25 B w (dH prog φ H w s q):=by
 obtain⟨args⟩:=args;unfold pP at h;dsimp only at h;split at h
 ·rename_i b
  obtain⟨l'⟩:=B;obtain⟨S,j,ra⟩:∃S,l'=[S]/\VR φ (.pointer (some ⟨b,0,none⟩)) S:=by
   have hl:=ha.len;simp at hl
   match l',hl with
   |[x],_=>exact⟨x,rfl,ha.at_ 0 _ _ rfl rfl⟩
  subst j;obtain⟨x,o,h1,E,rfl⟩:=AX.bind_some h;obtain⟨c1,c2,c3⟩:=vj h1;rw[c2,c3]at E;obtain⟨⟨cs,T,wr⟩,xH,K,xD,xW⟩:=x;dsimp only at c1 E;split at E
  ·rename_i p
   split at E
   ·rename_i W
    obtain⟨k1,rfl,rfl⟩:=W;simp[AX.ret]at E;subst E;obtain⟨im,z,v',u,X,il,ie,R,rp,Y⟩:=Q.Af c1;cases Y;cases ra with
    |ptr hra=>
    rw[u]at hra;cases hra;rw[X,ahH];exact yA Q (VR.simple rfl) (M8 im.blk z w R)
   {cases E}
  ·rename_i p d n m
   split at E
   ·rename_i W
    obtain⟨k1,rfl,rfl,N⟩:=W;obtain⟨y,oy,h3,G,rfl⟩:=AX.bind_some E;obtain⟨e1,e2,e3⟩:=vj h3;rw[e2,e3]at G;obtain⟨⟨O,yT,L⟩,yH,D,yD,yW⟩:=y;dsimp only at e1 G;split at G
    ·rename_i A
     obtain⟨rfl,rfl,f,M,rfl⟩:=A;obtain⟨z1,oz,h5,P,rfl⟩:=AX.bind_some G;simp[AX.set]at h5;subst h5;cases F:oe O with
     |none=>rw[F]at P;cases P
     |some l=>
      rw[F]at P;simp[AX.ret]at P;subst P;obtain⟨im,z,v',u,X,il,ie,R,rp,Y⟩:=Q.Af c1;cases ra with
      |ptr hra=>
      rw[u]at hra;cases hra;rw[X,ahH];cases Y with|slice0=>omega|slice hmd hnc hcl hcm=>{rename_i k C;obtain⟨a,g1,g2,g3,g4,g5,g6⟩:=Q.F9 e1 hmd;rw[g2,ahH]at R;have r:=KL F;have t:l.length=n:=by{rw[<-f,r];simp};have g:a.toList.take O.length=l.map fun c=>Value.int .u8 c.toNat:=by{have i:O.all flat=true:=by{rw[r];refine eu.2 fun v hv=>?_;obtain⟨c,_,rfl⟩:=nm.1 hv;rfl};have:=g6.gv i;rw[this,r]};rw[<-t]at R;refine(M9 im.blk C.blk k z a l w R g1 V hcm (by rw[g4]at hcl;omega) (by rw[<-g,f,t]) (by intro e;rw[e]at t;simp at t;omega)).mono ?_;rintro e w'⟨rfl,o1,o2,o3,o4,o5⟩;obtain⟨a1,a2⟩:=Q.NM e1 rfl hmd ⟨o1,o2,o3⟩ o4 o5;exact⟨φ,_,rfl,Nx.refl φ s,VR.simple rfl,a1,a2⟩}
    {cases G}
   {cases E}
  {cases E}
 {cases h}
def ET:∀{b:bj}{l:List bm},pQ b=some l->b=l.map Value.string
 |[],l,h=>by simp[pQ]at h;subst h;rfl
 |c::r,l,h=>by
  unfold pQ at h;split at h
  ·rename_i e;cases e
  ·rename_i x d e
   cases e;cases a:pQ r with
   |none=>rw[a]at h;cases h
   |some t=>
    rw[a]at h;cases h;rw[ET a];rfl
  ·cases h
def VG(args:ahG)(H:AH)(s:Nat)(q:bE bn)(h:n7 args H s=some q)(φ:Ren)(w:bt)(B:ahG)(E:WR prog φ H w)(D:VA φ args B):Calls prog 29 B w (dH prog φ H w s q):=by
 obtain⟨args⟩:=args;have v:∀x y,args=[x,y]->∃A C,B=#[A,C]/\VR φ x A/\VR φ y C:=fun x y e=>by
  subst e;obtain⟨S⟩:=B;have M:=D.len;simp at M
  match S,M with
  |[a,b],_=>exact⟨a,b,rfl,D.at_ 0 _ _ rfl rfl,D.at_ 1 _ _ rfl rfl⟩
 unfold n7 at h;dsimp only at h;split at h;{rename_i t;obtain⟨A,C,rfl,F,G⟩:=v _ _ rfl;cases F;cases G;simp[AX.ret]at h;subst h;refine yA E (VR.simple rfl) ((Tryz.strings_Join_none none 0 t w).mono ?_);rintro e w'⟨rfl,rfl⟩;exact⟨rfl,Below.refl _ _⟩};{rename_i d o n m t;obtain⟨A,C,rfl,F,G⟩:=v _ _ rfl;cases G;obtain⟨z,oz,P,i,rfl⟩:=AX.bind_some h;obtain⟨c1,c2,c3⟩:=vj P;rw[c2,c3]at i;cases k:pQ ((z.val.1.drop o).take n)with|none=>{rw[k]at i;cases i}|some l=>{rw[k]at i;dsimp only at i;split at i;{rename_i Q;obtain⟨k1,rfl,k3,k4,k5⟩:=Q;simp[AX.ret]at i;subst i;have r:=ET k;have c:l.length=n:=by{have:=congrArg List.length r;simp at this;omega};cases F with|slice0=>omega|slice hmd hnc hcl hcm=>{rename_i f p;obtain⟨g,L,W,T,X,K,Y,g3,O,g5⟩:=E.blk d _ c1;rw[hmd]at L;cases L;have u:∀(j:Nat)x,l[j]? =some x->w.cell? ⟨p.blk,p.base+o+j,none⟩=some (.string x):=fun j x N=>by{have R:j<n:=by{have:=(nc.1 N).1;omega};have e1:((z.val.1.drop o).take n)[j]? =some (.string x):=by{rw[r];simp[N]};rw[ade R,NL]at e1;obtain⟨v',e2,e3,_⟩:=O _ _ e1;cases e3;simp[World.cell?,K,adr,e2]};rw[<-c];exact yA E (VR.simple rfl) (Tryz.strings_Join p.blk (p.base+o) f l t w u (yt.1 K).1 V V V)}};{cases i}}};{cases h}
end
end
section
open Go.RowKit
def rC(x:Int):Bool:=decide (-9223372036854775808<=x)&&decide (x<=9223372036854775807)
def vN(k sq n ps mr:Int)(l:List Int)(self:Bool)(d:bm):af:=if cS k sq n ps mr l self d.size=0 then rZ ⟨k,sq,n,ps,mr,l,self,d.data.toList⟩else[]
def XQ(h:oD w):jf w:=⟨h.pow,h.powLt,h.words,h.wordsLt,h.most⟩
def zv{x:Int}(h:rC x=true):vE x:=by simp only[rC,ev,ml]at h;exact⟨h.1,h.2⟩
end
section
open Go.RowKit
def aR.text(r:aR):bm:=⟨(gN r.who r.kind (vN r.u.kind r.u.sq r.u.n r.u.ps r.u.mr r.u.list r.u.self r.u.data) (fQ r.sg.kind r.sg.data.data.toList r.sg.self r.sg.code.toNat r.sg.n) r.rk r.rd.data.toList r.rn).toArray⟩
def uq(r:aR):Bool:=rC r.who&&(rC r.rk&&(rC r.rn&&(rC r.sg.n&&(fO r.u&&(decide (0<=r.sg.code)&&(decide (r.sg.code<=255)&&(decide (r.sg.data.size<=4000)&&decide (r.rd.size<=4000))))))))
def aR.fits.b(h:r.fits):uq r=true:=by have i:∀x:Int,0<=x/\x<=20000->rC x=true:=fun x e=>by{simp only[rC,ev,ml];omega};have a:=h.who;have b:=h.sg.code;have c:=h.sg.data;have d:=h.rd;simp only[uq,ev,ml];exact⟨i _ V,i _ h.rk,i _ h.rn,i _ h.sg.n,h.u,V,V,V,V⟩
def sQ(args:ahG):AX bn:=
 match args.toList with
 |[.agg cs]=>(match cs.toList with
  |[iv en,iv kind,iv k,iv sq,uv n,uv ps,uv mr,lv,.bool self,.string d,iv sk,.string sd,.bool ss,.int .u8 sc,iv sn,iv rk,.string rd,iv rn]=>
   AX.bind (jI lv) fun l=>if uq ⟨en,kind,⟨k,sq,n,ps,mr,l,self,d⟩,⟨sk,sd,ss,sc,sn⟩,rk,rd,rn⟩=true then AX.ret (.string (aR.text ⟨en,kind,⟨k,sq,n,ps,mr,l,self,d⟩,⟨sk,sd,ss,sc,sn⟩,rk,rd,rn⟩))else AX.fail
  |_=>AX.fail)
 |_=>AX.fail
def Ey(h:fO u=true):(vN u.kind u.sq u.n u.ps u.mr u.list u.self u.data).length<=4000:=by unfold vN;split;{rename_i p;obtain⟨c1,c2,c3,c4,c5,b⟩:=vP h;have r:ve ⟨u.kind,u.sq,u.n,u.ps,u.mr,u.list,u.self,u.data.data.toList⟩=0:=by{unfold ve;rw[cQ];exact p};have q:=JK ⟨u.kind,u.sq,u.n,u.ps,u.mr,u.list,u.self,u.data.data.toList⟩ c1.1 c2.1 c3.1 (fun x a=>(c4 x a).1) r;obtain⟨_,t,v,_⟩:=Dl p;exact EJ q t (by rw[cQ];exact v)};{simp}
def Qd(args:ahG)(q:bE bn)(h:sQ args H s=some q)(B:ahG)(O:WR prog φ H w)(ha:VA φ args B):Calls prog 65 B w (dH prog φ H w s q):=by
 obtain⟨args⟩:=args;unfold sQ at h;dsimp only at h;split at h
 ·rename_i cs
  obtain⟨cs⟩:=cs;dsimp only at h;split at h
  ·rename_i en b k E n D z lv r d T S Y R X P rd Q
   obtain⟨p,o2,N,F,rfl⟩:=AX.bind_some h;split at F
   ·rename_i hc
    simp[AX.ret]at F;subst F;simp only[uq,ev,ml]at hc;obtain⟨q1,q2,q3,q4,qu,q8,q9,qa,qb⟩:=hc;obtain⟨l'⟩:=B;have L:=ha.len;simp at L;obtain⟨a',rfl⟩:=ahj.1 L.symm;have ra:=ha.at_ 0 _ a' rfl rfl;have e:∃v,a'=.agg #[iv en,iv b,iv k,iv E,uv n,uv D,uv z,v,.bool r,.string d,iv T,.string S,.bool Y,.int .u8 R,iv X,iv P,.string rd,iv Q]/\VR φ lv v:=by
     generalize G:((#[Value.agg #[iv en,iv b,iv k,iv E,uv n,uv D,uv z,lv,.bool r,.string d,iv T,.string S,.bool Y,.int .u8 R,iv X,iv P,.string rd,iv Q]]:ahG)[0])=u at ra;simp at G;subst G;cases ra with
     |agg _ M L hv=>
      obtain⟨M⟩:=M;simp at L
      match M,L with
      |[b0,b1,b2,b3,b4,b5,b6,b7,b8,b9,b10,b11,b12,b13,b14,b15,b16,b17],_=>
       have h0:=hv 0 _ _ rfl rfl;have N:=hv 1 _ _ rfl rfl;have F:=hv 2 _ _ rfl rfl;have h3:=hv 3 _ _ rfl rfl;have h4:=hv 4 _ _ rfl rfl;have h5:=hv 5 _ _ rfl rfl;have h6:=hv 6 _ _ rfl rfl;have h7:=hv 7 _ _ rfl rfl;have h8:=hv 8 _ _ rfl rfl;have h9:=hv 9 _ _ rfl rfl;have g:=hv 10 _ _ rfl rfl;have o:=hv 11 _ _ rfl rfl;have j:=hv 12 _ _ rfl rfl;have c:=hv 13 _ _ rfl rfl;have i:=hv 14 _ _ rfl rfl;have l:=hv 15 _ _ rfl rfl;have A:=hv 16 _ _ rfl rfl;have C:=hv 17 _ _ rfl rfl;cases h0;cases N;cases F;cases h3;cases h4;cases h5;cases h6;cases h8;cases h9;cases g;cases o;cases j;cases c;cases i;cases l;cases A;cases C;exact⟨b7,rfl,h7⟩
    obtain⟨v,rfl,m⟩:=e;obtain⟨e1,e2,e3,a⟩:=zf N O m;obtain⟨K,s1,D1,W1⟩:True/\True/\True/\True:=⟨trivial,trivial,trivial,trivial⟩;obtain⟨c1,c2,c3,c4,c5,c6⟩:=vP qu;dsimp only at c1 c2 c3 c4 c5 c6;have f:=Ey qu;dsimp only at f;obtain⟨la,lc,rfl,_⟩:=a.len;have G:=XQ O.env.ok;have hU:∀W,Below w.heap.size w W->Calls prog 124 #[.agg #[iv k,iv E,uv n,uv D,uv z,.slice la p.val.length lc,.bool r,.string d]] W fun e w'=>e=.returned (.string ⟨(vN k E n D z p.val r d).toArray⟩)/\Below W.heap.size W w':=fun W hb=>by{have y:=a.below hb Z;unfold vN;by_cases t:cS k E n D z p.val r d.size=0;{rw[eh t];exact MG k E n D z _ p.val r d W c1.1 c2.1 c3.1 y (fun x hx=>(c4 x hx).1) t (G.below hb)};{rw[ed t];exact MH k E n D z _ p.val r d W c1 c2 c3 y c4 V V t}};have:=P6 en b k E n D z la p.val.length lc r d T S Y R X P rd Q _ w G (zv q1) (zv q2) (zv q3) (zv q4) q8 q9 qa qb V hU;rw[e1,e2,e3];exact oS O (VR.simple rfl) this
   {cases F}
  {cases h}
 {cases h}
def Tx:LS (jI v):=by unfold jI;split;{exact LS.ret _};{refine LS.bind (jY _) fun z=>?_;split;{exact LS.ite (LS.ret _) LS.fail};{exact LS.fail}};{exact LS.fail}
def Tq(xs:ahG):LS (sQ xs):=by unfold sQ;split;{split;{exact LS.bind (Tx) fun l=>LS.ite (LS.ret _) LS.fail};{exact LS.fail}};{exact LS.fail}
section
variable{E:Ex}{F G:Np}{H:AH}{s b:Nat}{Q:Qt}{W:Wd}{P:List aa3}
def P5(a:E 65=some sQ)(n:Nat)(b:r.fits)(S:St F G H s W P)(f:Fz W lv (bT r.u.list))(h:Q (.string r.text) H s):Wp F G (CA E (n+1) 65 #[.agg (r.cH lv).toArray]) H s Q:=by unfold cE;rw[a];show Wp F G (AX.bind (jI lv) fun l=>if uq ⟨r.who,r.kind,⟨r.u.kind,r.u.sq,r.u.n,r.u.ps,r.u.mr,l,r.u.self,r.u.data⟩,r.sg,r.rk,r.rd,r.rn⟩=true then AX.ret (.string (aR.text ⟨r.who,r.kind,⟨r.u.kind,r.u.sq,r.u.n,r.u.ps,r.u.mr,l,r.u.self,r.u.data⟩,r.sg,r.rk,r.rd,r.rn⟩))else AX.fail) H s Q;rw[bH];refine ze S f ?_;rw[eh (show uq r=true from b.b),acr];exact h
end
end
end Go.Proofs.YtlkceignfhnpoaaGreatDoor
