/-
  Part of a proof, written small.
-/
import Derived.Test.YtlkceignfhnpoaaGreatDoorS1SASLSOSY11
set_option linter.all false
set_option maxRecDepth 10000
set_option maxHeartbeats 4000000
open Go.Proofs.Tryz
namespace Go.Proofs.YtlkceignfhnpoaaGreatDoor
open Go AX
variable{n d:Nat}{w r:aM}{l:List UnitS}{p:UnitS->Bool}{ps:List (Int×Int)}{c0 c1 c2 c3 c4 x y a:Int}{v:bn}{f:FuncId}{B:ahG}{q:Int×Int}{m:bm}
section
variable{E:Ex}{F G:Np}{H:AH}{s b:Nat}{Q:Qt}
structure gh where
 a:cX
 b:cX
 room:Int
def gh.cells(c:gh):bj:=c.a.cells++(c.b.cells++[iv c.room])
def gh.fits(c:gh):Bool:=c.a.fits&&(c.b.fits&&(decide (c.a.start=c.b.start)&&(decide (1<=c.room)&&decide (c.room<=256))))
theorem U9[A:Bare E](c:gh)(a:eU F G s)(h:∀l w,Fr [] H s l w->Q (iv (if c.fits then 0 else 1)) l w):Wp F G (CA E (n+3) 56 #[.agg c.cells.toArray]) H s Q:=by have q:=(a s Z);have p:=(a (s+1) V);refine en A [] func56 ntmps56 ?_;simp[gh.cells,cX.cells,q];refine rX 3 I ?_;simp[fm,p];refine B7 c.a (a.up V) fun y x j=>?_;have t:=j.up;have o:Fr [] H s y x:=(Fr.refl _ _ _).new.new.comp j J;have B:=((j.keep s V J).trans (aH _ _ V)).trans (bX _ _ _);cases i:c.a.fits;{simp;simpa[gh.fits,i]using h _ _ o};have r:=a x V;simp[fm,r];refine B7 c.b (a.up V) fun z D k=>?_;have u:=k.up;have v:Fr [] H s z D:=o.new.comp k J;have C:=((k.keep s V J).trans (aH _ _ V)).trans B;cases m:c.b.fits;{simp;simpa[gh.fits,i,m]using h _ _ v};have b:(c.a.start=c.b.start)\/¬(c.a.start=c.b.start):=V;have d:(c.room<1/\¬1<=c.room)\/(¬c.room<1/\1<=c.room):=V;have f:(256<c.room/\¬c.room<=256)\/(¬256<c.room/\c.room<=256):=V;rcases b with b|b<;>rcases d with⟨d,e⟩|⟨d,e⟩<;>rcases f with⟨f,g⟩|⟨f,g⟩;(all_goals simp[fm,C,q,b,d,f];simpa[gh.fits,i,m,b,d,e,f,g]using h _ _ v)
theorem Mr[a:Bare E](h:Q (aa s) (aG H s (some pM)) (s+1)):Wp F G (CA E (n+1) 57 #[]) H s Q:=by unfold cE;rw[a.wire];simpa[qG]using h
structure aa5(H:AH)(s s':Nat)(c:gh)(l w n0 p0 n1 p1:Nat):Prop where
 own:s<=l/\s<=w/\l<s'/\w<s'/\w≠l
 wire:H w=some pM
 link:H l=some (.cells [aa w,aa n0,aa p0,aa n1,aa p1] 139 true)
 side0:∃s1 s2 bc bp br r,s<=s1/\l<s1/\w<s1/\DR H s1 s2 c.a n0 bc bp br/\s2<=r/\r<p0/\H r=some (.cells [aJ,iv 0,iv 0,iv c.room] 271 true)/\H p0=some (.cells [aa r,iv 0,iv 0,iv 0] 211 true)
 side1:∃s1 s2 bc bp br r,p0<s1/\DR H s1 s2 c.b n1 bc bp br/\s2<=r/\r<p1/\p1<s'/\H r=some (.cells [aJ,iv 0,iv 0,iv c.room] 271 true)/\H p1=some (.cells [aa r,iv 0,iv 0,iv 0] 211 true)
def UH[hE:Bare E](n:Nat)(c:gh)(B:eU F G s)(hB:Bd H s)(h1:c.fits=true->∀P S l w z O R p1,Fr [] H s P S->aa5 P s S c l w z O R p1->Q (.tuple #[aa l,iv 0]) P S) (h2:c.fits=false->∀P S,Fr [] H s P S->Q (.tuple #[.pointer none,iv 1]) P S):Wp F G (CA E (n+4) 30 #[.agg c.cells.toArray]) H s Q:=by have r:=B s Z;have N:Bd (aG H s (some (.cells c.cells 84 true))) (s+1):=fun k hk=>(aH _ _ V).trans (hB k V);refine en hE [(11,[],[],[])] func30 ntmps30 ?_;simp[gh.cells,cX.cells,r];refine cM ((calm).ls _ _) N ?_;refine U9 c (B.up (HT _)) fun H1 a f1 u1 b1=>?_;have k1:=(f1.keep s V J).trans (bX _ _ _);cases e:c.fits;{simp;exact h2 e _ _ ((Fr.refl _ _ _).new.comp f1 J)};simp;refine Mr ?_;have D:s≠a:=V;have A:s≠a+1:=V;have L:=B (a+2) V;simp[aH,D,A,k1,r];refine rX 3 I ?_;simp[fm,L];have b2:Bd (aG (aG (aG H1 a (some pM)) (a+1) (some (.cells [aa a,.pointer none,.pointer none,.pointer none,.pointer none] 139 true))) (a+2) (some (.cells c.a.cells 78 true))) (a+3):=fun k hk=>(aH _ _ V).trans ((aH _ _ V).trans ((aH _ _ V).trans (b1 k V)));have e':=e;simp only[gh.fits,ev,ml]at e';obtain⟨ea,eb,_,er⟩:=e';refine cM ((calm).ls _ _) b2 ?_;refine Hr c.a (B.up V) b2 (fun _ H3 s3 z bc bp br W p u3 b3=>?_) (fun g=>by rw[ea]at g;cases g);have k3:=(W.keep s V J).trans ((aH _ _ V).trans ((aH _ _ V).trans ((aH _ _ V).trans k1)));simp[k3,r];have j:=B (a+1) V;have hc:=W.up;have l3:H3 (a+1)=_:=(W.keep (a+1) V J).trans ((aH _ _ V).trans (bX _ _ _));have w3:H3 a=some pM:=(W.keep a V J).trans ((aH _ _ V).trans ((aH _ _ V).trans (bX _ _ _)));refine cM ((calm).ls _ _) b3 ?_;refine GI c.room fun H4 s4 r0 O b hg X ha x C u4 b4=>?_;have he:=b.up;have l4:=(b.keep (a+1) V J).trans l3;simp[l4,j];have y:Bd (aG (aG H4 (a+1) (some (.cells [aa a,aa z,aa O,.pointer none,.pointer none] 139 true))) s4 (some (.cells c.b.cells 78 true))) (s4+1):=fun k hk=>(aH _ _ V).trans ((aH _ _ V).trans (b4 k V));have K:=B s4 V;simp[fm,K];refine cM ((calm).ls _ _) y ?_;refine Hr c.b (B.up V) y (fun _ H5 s5 R f m i f5 q u5 b5=>?_) (fun d=>by rw[eb]at d;cases d);have Y:=f5.up;have k5:=(f5.keep s V J).trans ((aH _ _ V).trans ((aH _ _ V).trans ((b.keep s V J).trans k3)));have l5:=(f5.keep (a+1) V J).trans ((aH _ _ V).trans (bX _ _ _));simp[k5,r];refine cM ((calm).ls _ _) b5 ?_;refine GI c.room fun H6 s6 r1 p1 f6 hf T hd v o u6 b6=>?_;have hb:=f6.up;have l6:=(f6.keep (a+1) V J).trans l5;simp[l6,j,fm];have M:max 1 (min c.room 256)=c.room:=by{omega};rw[M]at x v;have o0:=p.ord;have o1:=q.ord;have h:∀k,k<s4->k≠a+1->aG H6 (a+1) (some (.cells [aa a,aa z,aa O,aa R,aa p1] 139 true)) k=H4 k:=fun k hk u=>(aH _ _ u).trans ((f6.keep k V J).trans ((f5.keep k V J).trans ((aH _ _ V).trans (aH _ _ u))));have t:∀k,k<s5->k≠a+1->aG H6 (a+1) (some (.cells [aa a,aa z,aa O,aa R,aa p1] 139 true)) k=H5 k:=fun k hk u=>(aH _ _ u).trans (f6.keep k V J);refine h1 e _ s6 (a+1) a z O R p1 ⟨V,fun k hk _=>?_⟩ ⟨V,?_,bX _ _ _,⟨a+3,s3,bc,bp,br,r0,V,V,V,⟨o0,?_,?_,?_,?_⟩,V,V,?_,?_⟩,⟨s4+1,s5,f,m,i,r1,V,⟨o1,?_,?_,?_,?_⟩,V,V,V,?_,?_⟩⟩;{refine(h k V V).trans ((b.keep k V J).trans ((W.keep k V J).trans ((aH _ _ V).trans ((aH _ _ V).trans ((aH _ _ V).trans ((f1.keep k V J).trans (aH _ _ V)))))))};{exact(h a V V).trans ((b.keep a V J).trans w3)};{exact(h bp V V).trans ((b.keep bp V J).trans p.pace)};{exact(h bc V V).trans ((b.keep bc V J).trans p.conn)};{exact(h br V V).trans ((b.keep br V J).trans p.ring)};{exact(h z V V).trans ((b.keep z V J).trans p.node)};{exact(h r0 V V).trans x};{exact(h O V V).trans C};{exact(t m V V).trans q.pace};{exact(t f V V).trans q.conn};{exact(t i V V).trans q.ring};{exact(t R V V).trans q.node};{exact(aH _ _ V).trans v};{exact(aH _ _ V).trans o}
end
def oc:Nat->Nat->af
 |0,_=>[]
 |f+1,u=>if u<10 then[UInt8.ofNat (48+u)]else oc f (u/10)++[UInt8.ofNat (48+u%10)]
def Dd:∀(f u:Nat),u<10^f->0<f->oc f u=Lib.decDigits u
 |0,u,h,h0=>V
 |f+1,u,h,_=>by
  unfold oc Lib.decDigits;by_cases a:u<10
  ·simp[a]
  ·rw[ed a,dif_neg a]
   have b:u/10<10^f:=by
    rw[Nat.pow_succ]at h;omega
   have c:0<f:=by
    cases f with
    |zero=>simp at h;omega
    |succ f=>omega
   rw[Dd f (u/10) b c]
def gq(n:Int):af:=if n<0 then 45::oc 20 n.natAbs else oc 20 n.toNat
def I0{n:Int}(h: -9223372036854775808<=n/\n<=9223372036854775807):gq n=Lib.itoa n:=by have a:(10:Nat)^20=100000000000000000000:=I;unfold gq Lib.itoa;split;{rw[Dd _ _ (by rw[a];omega) I]};{rw[Dd _ _ (by rw[a];omega) I]}
def Km:∀(f u:Nat),(oc f u).length<=u+1
 |0,u=>by unfold oc;simp
 |f+1,u=>by
  unfold oc;split
  ·simp
  ·have:=Km f (u/10)
   rw[dw];simp;omega
def IZ(n:Nat):(gq (n:Int)).length<=n+1:=by unfold gq;rw[ed V];have:=Km 20 (n:Int).toNat;omega
def wF{n:Int}(h: -9223372036854775808<=n/\n<=9223372036854775807):(gq n).length<=21:=by rw[I0 h];exact Lib.itoa_length_le n h.1 h.2
def acy(l:af):ByteArray.size ⟨l.toArray⟩=l.length:=ahE
def jX(a b:bm):(a++b).size=a.size+b.size:=adT
def mj(args:ahG):AX bn:=
 match args.toList with
 |[iv n]=>if-9223372036854775808<=n/\n<=9223372036854775807 then AX.ret (.string ⟨(gq n).toArray⟩)else AX.fail
 |_=>AX.fail
section
variable{E:Ex}{F G:Np}{H:AH}{s b w:Nat}{Q:Qt}{W:Wd}{R P:List aa3}
def bw(l a:bn)(c0 c1 c2 c3 c4:Int):bj:=[l,a,iv c0,iv c1,iv c2,iv c3,iv c4]
theorem FI[d:Bare E](S:St F G H s W R)(h:∀a c w b,St F G a c W (⟨aa w,aE (bw jG (aa b) 4 3 6 12 5) 58⟩::⟨aa b,aE [aJ,aJ] 49⟩::R)->Q (aa w) a c):Wp F G (CA E (n+1) 10 #[]) H s Q:=by refine en d [] func10 ntmps10 ?_;simp;exact h _ _ _ _ ((S.alloc [aJ,aJ] 49).alloc (bw jG (aa s) 4 3 6 12 5) 58)
def Kq(s:bm)(m:Nat)(h:m<=s.size):ij prog 9 (.string s) none (some (iv (m:Nat))) none=ret (.string (s.extract 0 m)):=by unfold ij;dsimp only;have e:Program.underlying prog 9=some .string:=U;rw[e];simp only[df];rw[eh ⟨V,V,V⟩];rfl
def ry(a:E 23=some mj){k:Int}(b: -9223372036854775808<=k/\k<=9223372036854775807)(h:Q (.string ⟨(gq k).toArray⟩) H s):Wp F G (CA E (n+1) 23 #[iv k]) H s Q:=by unfold cE;rw[a];show Wp F G (if-9223372036854775808<=k/\k<=9223372036854775807 then AX.ret (.string ⟨(gq k).toArray⟩)else AX.fail) H s Q;rw[eh b,acr];exact h
theorem VI:gq 1=[49]:=by rfl
def mE{P:c7}{T:bW}{c d:Operand}{a b:bm}(e:a.size<=4000000000000000000)(f:b.size<=4000000000000000000):bZ P .add T c d (.string a) (.string b)=ret (.string (a++b)):=by simp[bZ,flat,dO,cZ,eqGuard,binOp,Op.stringOp,Bind.bind,pure,Sem.bind];rw[ed V];simp[stat]
def iS:bm:=⟨#[111,107]⟩
def rN:bm:=⟨#[99,111,100,101,32,49]⟩
def Dk:bm:=⟨#[99,108,111,115,101,100]⟩
theorem Mu[a:Bare E](h:Q (.string iS) H s):Wp F G (CA E (n+2) 47 #[iv 0]) H s Q:=by refine en a [] func47 ntmps47 ?_;simp;exact h
def Mt[a:Bare E](b:E 23=some mj)(h:Q (.string rN) H s):Wp F G (CA E (n+2) 47 #[iv 1]) H s Q:=by refine en a [] func47 ntmps47 ?_;simp;refine ry b V ?_;rw[VI];simp[mE (I:ByteArray.size ⟨#[99,111,100,101,32]⟩<=4000000000000000000) (I:ByteArray.size ⟨#[49]⟩<=4000000000000000000)];exact h
theorem xt[c:Bare E]{l a:bn}(S:St F G H s W (⟨aa w,aE (bw l a c0 c1 c2 c3 c4) 58⟩::R))(h:Q l H s):Wp F G (CA E (n+1) 12 #[aa w]) H s Q:=by obtain⟨d,b,e,f⟩:=S.cell;refine en c [] func12 ntmps12 ?_;simp[d,b,bw];exact h
def YJ[i:Bare E]{e:bn}{c ask data:bm}{l:Option Addr}{m o:Nat}(a:¬c.toList=[116,105,99,107,115])(b:¬c.toList=[108,105,110,107])(S:St F G H s W (⟨aa w,aE (bw jG e c0 c1 c2 c3 c4) 58⟩::R))(h:∀d f,St F G d f W (⟨aa w,aE (bw jG e c0 c1 c2 c3 c4) 58⟩::R)->Q (.string Dk) d f):Wp F G (CA E (n+1) 11 #[aa w,.agg #[.string c,.slice l m o,.string ask,.string data]]) H s Q:=by obtain⟨k,g,p,q⟩:=S.cell;have j:=S.new s Z;refine en i [(2,[],[],[])] func11 ntmps11 ?_;simp[j,k,g,aH,(V:w≠s),bw,a,b];exact h _ _ (S.skip _)
structure rS(H:AH)(d:Nat)(c0 c1 c2 c3 c4 c5:Int):Prop where
 at_:∃T wr,H d=some (.cells [iv c0,iv c1,iv c2,iv c3,iv c4,iv c5] T wr)
abbrev nM(d:Nat):bn:=sl d 0 6 6
def rS.keep{a:AH}{c5:Int}(h:rS H d c0 c1 c2 c3 c4 c5)(b:a d=H d):rS a d c0 c1 c2 c3 c4 c5:=by obtain⟨T,wr,h⟩:=h;exact⟨T,wr,by rw[b];exact h⟩
def zW(a c b start c0 c1 c2 c3 c4:Int):cX:=⟨3,a,c,8,b,start%4294967296,c0,c1,c2,c3,c4⟩
def G8[v:Bare E]{a b w:Nat}{j T2:bW}(k:Int){C D e f K g:Int}{l m:bn}(x:eU F G s)(A:H a=some (.cells [nM d] j true))(B:H b=some (.cells [aa w] T2 true))(y:rS H d C D e f K g)(z:H w=some (.cells (bw l m c0 c1 c2 c3 c4) 58 true))(q:a<s/\F a)(r:b<s/\F b)(t:d<s/\F d)(u:w<s/\F w)(h:∀c i,Fr [] H s c i->Q (.agg (zW k e f g c0 c1 c2 c3 c4).cells.toArray) c i):Wp F G (CA E (n+1) 46 #[iv k,aa a,aa b]) H s Q:=by have p:=x s Z;obtain⟨T,wr,o⟩:=y.at_;refine en v [(1,[],[],[])] func46 ntmps46 ?_;simp[aH,p,(V:a≠s),(V:b≠s),(V:d≠s),(V:w≠s),A,B,o,z,q,r,t,u,bw];exact h _ _ (Fr.refl _ _ _).new
def od(d e a b f c c0 c1 c2 c3 c4:Int):gh:=⟨zW d a b c c0 c1 c2 c3 c4,zW e a b c c0 c1 c2 c3 c4,f⟩
def IF:bm:=⟨#[108,105,110,107]⟩
end
abbrev dS(l:List UnitS):List (bj):=l.map UnitS.row
abbrev ik(most:Nat)(l:List UnitS):acu:=xb 241 150 8 most (dS l)
abbrev tR:bn:=.agg #[iv 0,iv 0,uv 0,uv 0,uv 0,aJ,.bool false,.string ⟨#[]⟩]
abbrev gU:bj:=[iv 0,iv 0,uv 0,uv 0,uv 0,aJ,.bool false,.string ⟨#[]⟩]
abbrev UnitS.val(u:UnitS):bn:=.agg #[iv u.kind,iv u.sq,uv u.n,uv u.ps,uv u.mr,aJ,.bool u.self,.string u.data]
section
variable{E:Ex}{F G:Np}{H:AH}{s b most:Nat}{Q:Qt}{W:Wd}{R:List aa3}
def F0[c:Bare E]{z:Int}(d:H b=some (.cells [v,iv x,iv y,iv z] 241 true))(a:F b)(h:Q (iv y) H s):Wp F G (CA E (n+1) 75 #[aa b]) H s Q:=by refine en c [] func75 ntmps75 ?_;simp[d,a];exact h
def FM[c:Bare E]{y z:Nat}(f:y<=4096)(g:z<=4096)(e:H b=some (.cells [v,iv x,iv (y:Nat),iv (z:Nat)] 241 true))(a:F b)(h:Q (iv ((z:Int)-y)) H s):Wp F G (CA E (n+1) 246 #[aa b]) H s Q:=by have d:IntKind.i64.wrap ((z:Int)-y)=(z:Int)-y:=cL V V;refine en c [(1,[],[],[])] func246 ntmps246 ?_;simp[e,a,d];exact h
def x7(e:Bare E)(n:Nat){a:Option Addr}{N x:Nat}{z:Int}(f:0<N)(g:N<=4096)(l:x<=4096)(k:H b=some (.cells [.slice a N N,iv (x:Nat),iv y,iv z] 241 true))(d:F b){i:Nat}(hi:i<=4096)(h:∀p:Nat,p=(x+i)%N->p<N->Q (iv (p:Nat)) H s):Wp F G (CA E (n+1) 248 #[aa b,iv (i:Nat)]) H s Q:=by have j:IntKind.i64.wrap ((x:Int)+i)=(x:Int)+i:=cL V V;have c:((x:Int)+i).tmod N=(((x+i)%N:Nat):Int):=by{rw[adZ,Int.natCast_add];exact adB V};have h:=h _ rfl (adP _ f);generalize(x+i)%N=p at c h;refine en e [(1,[],[],[])] func248 ntmps248 ?_;simp[k,d,j,pA (V:(N:Int)≠0),c];exact h
theorem Ps[P:Bare E](S:St F G H s W R)(f:Fz W (aa b) (ik most l))(h:∀A C v,St F G A C W (⟨v,eG l⟩::R)->Q v A C):Wp F G (CA E (n+2) 305 #[aa b]) H s Q:=by obtain⟨v,r,a,m,D,L⟩:=f.ring;obtain⟨av,rfl,_⟩:=L.len;obtain⟨z,B,lb⟩:=S.cw D;have hl:(dS l).length=l.length:=J;have hf:=m.few;have hc:=m.cap;have hm:=m.most;rw[hl]at z hf D;refine en P [(5,[],[],[])] func305 ntmps305 ?_;simp[z,B];refine acs (fun X j A C=>∃i v,i<=l.length/\X=l.length-i/\j.size=26/\aF j 0=aa b/\aF j 3=v/\aF j 8=iv l.length/\aF j 9=iv (i:Nat)/\St F G A C W (⟨v,eG (l.take i)⟩::R)) (k:=l.length) (by unfold LF;omega) ⟨0,aJ,J,J,J,J,J,J,J,S.bG _ _⟩ ?_;rintro X j H1 Y⟨i,v,hi,rfl,K,M,h3,N,O,S⟩;rw[show j=bl j []from rfl];simp[K,M,h3,N,O];split;{rename_i q;obtain⟨z,B,lb⟩:=S.cw D;have c:=S.new Y Z;have hw:=wi (i:=i) V;obtain⟨t,x⟩:=m.item (i:=i) (by simpa using q);obtain⟨d,o,cs,rfl,kd,fd,ld,T,w⟩:=S.mo L t;have e1:(cs.drop (o+(a+i)%r.length*8)).take 8=UnitS.row l[i]:=by{rw[w,x];simp};simp[z,B];refine x7 P _ V V (by have:=m.pos;omega) z B V fun p hp u=>?_;rw[<-hp]at e1 T;simp[K,u,kd,fd,e1,T,UnitS.row,UnitS.cH];refine St.append ((S.cb [UnitS.row l[i]] 1 rfl (by simp[UnitS.row,UnitS.cH]) rfl).cF (k1:=v)) (y:=80) U (by simp;omega) fun H2 s2 a2 l2 m2 S=>?_;simp[K,M,N,O];refine⟨l.length-(i+1),V,i+1,V,rfl,hw,?_⟩;have S:=S.az (sl Y 0 1 1);have e:dS (l.take (i+1))=dS (l.take i)++[UnitS.row l[i]]:=by{show(l.take (i+1)).map _=(l.take i).map _++_;rw[ahi,ei q,ahx,ahh];rfl};show St F G H2 s2 W (⟨_,be _ 8 (dS (l.take (i+1)))⟩::R);rw[e];exact S};{rename_i g;obtain rfl:i=l.length:=V;rw[zs]at S;exact h _ _ _ S}
theorem Pq[f:Bare E](S:St F G H s W (⟨aa b,ik most []⟩::R))(h:∀c d,St F G c d W (⟨aa b,ik most []⟩::R)->Q (.tuple #[tR,iv 9]) c d):Wp F G (CA E (n+1) 251 #[aa b]) H s Q:=by obtain⟨v,q,a,g,S⟩:=S.iP;obtain⟨j,e,k,l⟩:=S.cell;have i:=S.new s Z;have p:=S.new (s+1) (HT _);refine en f [(4,[],[],[])] func251 ntmps251 ?_;simp[j,e,aH,(V:b≠s),i,p];exact h _ _ (St.nO g (((((S.alloc gU 150).skip _).ae (aa s)).set _).drop))
theorem Pr[y:Bare E]{x:UnitS}(S:St F G H s W (⟨aa b,ik most (x::l)⟩::R))(h:∀g j,St F G g j W (⟨aa b,ik most (x::l)⟩::R)->Q (.tuple #[x.val,iv 0]) g j):Wp F G (CA E (n+1) 251 #[aa b]) H s Q:=by obtain⟨v,p,a,c,S⟩:=S.iP;obtain⟨C,m,L,N⟩:=S.cell;have A:=S.new s Z;have f:=c.few;simp at f;obtain⟨k,B⟩:=(S.ae v).cK;subst B;obtain⟨u,q⟩:=c.item (i:=0) J;have e:a<p.length:=by{rcases c.pos with h|h;{exact h};{rw[h.2]at f;simp at f}};have q:p[a]=UnitS.row x:=by{have:=q;simp only[ahs,x3 e]at this;simpa using this};obtain⟨d,o,K,rfl,D,w,M,O,z,t⟩:=(S.ae (.slice k p.length p.length)).row e;have e1:=t.trans q;have r:((List.length (dS (x::l)):Nat):Int)≠0:=by{simp;omega};refine en y [(4,[],[],[])] func251 ntmps251 ?_;simp[C,m,e,D,w,e1,z,aH,(V:b≠s),(V:d≠s),A,UnitS.row,UnitS.cH];rw[ed V];exact h _ _ (St.nO c (S.skip _))
theorem Pb[g:Bare E](S:St F G H s W (⟨aa b,ik most []⟩::R))(h:∀a c,St F G a c W (⟨aa b,ik most []⟩::R)->Q (.tuple #[tR,iv 9]) a c):Wp F G (CA E (n+2) 176 #[aa b]) H s Q:=by have k:=S.new s Z;refine en g [(4,[],[],[])] func176 ntmps176 ?_;simp;refine Pq (S.alloc gU 150 |>.ae (aa b)) fun j d S=>?_;obtain⟨i,fz,f,l⟩:=(S.ae (aa s)).cell;have p:=S.new d Z;simp[p,i,fz,f,aH,(V:s≠d)];refine h _ _ ?_;have e:=(S.alloc gU 150).ae (aa s);exact((e.set _).drop).drop
theorem Pc[D:Bare E]{x:UnitS}(S:St F G H s W (⟨aa b,ik most (x::l)⟩::R))(h:∀C M,St F G C M W (⟨aa b,ik most l⟩::R)->Q (.tuple #[x.val,iv 0]) C M):Wp F G (CA E (n+2) 176 #[aa b]) H s Q:=by have hs:=S.new s Z;refine en D [(4,[],[],[])] func176 ntmps176 ?_;simp;refine Pr (S.alloc gU 150 |>.ae (aa b)) fun O f S=>?_;have u:=S.new f Z;have y:=S.new (f+1) (HT _);obtain⟨v,rows,a,k,S⟩:=S.iP;obtain⟨K,m,gb,lb⟩:=S.cell;have B:=k.few;have hc:=k.cap;have hm:=k.most;simp at B;obtain⟨T,hv⟩:=(S.ae v).cK;subst hv;have z:a<rows.length:=by{rcases k.pos with h|h;{exact h};{rw[h.2]at B;simp at B}};obtain⟨d,o,Y,rfl,L,fd,gd,ld,ho,-⟩:=(S.ae (.slice T rows.length rows.length)).row z;have P:=(S.alloc [iv x.kind,iv x.sq,uv x.n,uv x.ps,uv x.mr,aJ,.bool x.self,.string x.data] 150).skip (some (.cells gU 150 true));have w:(aG (aG O f (some (.cells [iv x.kind,iv x.sq,uv x.n,uv x.ps,uv x.mr,aJ,.bool x.self,.string x.data] 150 true))) (f+1) (some (.cells gU 150 true))) d=some (.cells Y 150 true):=(aH _ _ V).trans ((aH _ _ V).trans L);have g:=(P.ae (.slice (some ⟨d,o,none⟩) rows.length rows.length)).setRow z gU rfl w;obtain⟨q,-,-,-⟩:=(g.ae (aa b)).cell;have r:((List.length (dS (x::l)):Nat):Int)=(l.length:Int)+1:=J;have hw:IntKind.i64.wrap (l.length:Int)=l.length:=cL V V;rw[r]at K q;simp[-cu,u,y,K,m,aH,(V:b≠f),(V:b≠f+1),(V:d≠f),(V:d≠f+1),z,L,fd,gd,ho];refine g.Jr (A:=fun X=>Wp F G _ X _ _) fun HU g=>?_;obtain⟨q,-,-,-⟩:=(g.ae (aa b)).cell;rw[r]at q;refine x7 D _ (N:=rows.length) (x:=a) (i:=1) V V V q m V fun p hp e=>?_;obtain⟨kx,fx,gx,lx⟩:=(g.ae (aa f)).cell;obtain⟨kz,fz,gz,lz⟩:=(g.ae (aa s)).cell;have t:=(g.ae (aa b)).ne (c:=f);have nb:=(g.ae (aa b)).ne (c:=s);simp[q,m,gb,hw,kx,fx,kz,fz,gz,aH,t.symm,nb.symm];have j:=(g.ae (aa b)).set [.slice (some ⟨d,o,none⟩) rows.length rows.length,iv (p:Nat),iv (l.length:Nat),iv (most:Nat)];have j:=((j.ae (aa s)).set x.row).drop;have j:=(j.az (aa f)).ae (aa b);refine h _ _ (St.nO (a:=p) (rows:=rows.set a gU) (v:=.slice (some ⟨d,o,none⟩) rows.length rows.length) ?_ ?_);{have:=k.take (x:=UnitS.row x) gU;rw[hp];exact this};{rw[(J:(dS l).length=l.length)];exact j}
theorem Po[B:Bare E](hl:l.length<most)(S:St F G H s W (⟨aa b,ik most l⟩::R))(h:∀k w v c a,gE c a (dS l) most->l.length<c.length->St F G k w W (⟨aa b,aE [v,iv (a:Nat),iv ((dS l).length:Nat),iv (most:Nat)] 241⟩::⟨v,be 150 8 c⟩::R)->Q (.tuple #[]) k w):Wp F G (CA E (n+3) 247 #[aa b]) H s Q:=by have y:=S;obtain⟨v,c,a,d,S⟩:=S.iP;obtain⟨j,i,u,K⟩:=S.cell;have hf:=d.few;have Y:=d.cap;have hm:=d.most;obtain⟨T,C⟩:=(S.ae v).cK;subst C;refine en B [(0,[],[],[])] func247 ntmps247 ?_;have p:(dS l).length=l.length:=J;have D:IntKind.i64.wrap (2*(c.length:Int))=2*(c.length:Int):=cL V V;obtain⟨N,X⟩:∃N:Nat,N=min most (max 4 (2*c.length)):=⟨_,rfl⟩;have e:min (most:Int) (max 4 (2*(c.length:Int)))=(N:Int):=V;simp[j,i,D,e];refine St.makeSlice y (e:=150) (z:=tR) (zr:=gU) (by_:=80) U U U U rfl J (by rfl) N V (cL V V) fun S=>?_;generalize aG H s (some (.cells (List.replicate N gU).flatten 150 true))=O at S⊢;simp;refine cM ((calm).ls _ _) S.bd ?_;have f:=(S.ae (aa b)).lent;refine Ps (S.ia (fun _ _=>rfl) Z S.bd (fun _ _ h=>h) S.new) f fun x L v2 m q r=>?_;have g:=S.calm q (Wd.le.refl _) m;obtain⟨t,A⟩:=m.cK;subst A;have g:St F G x L W (⟨_,eG l⟩::⟨sl s 0 N N,be 150 8 (List.replicate N gU)⟩::⟨aa b,ik most l⟩::R):=g;generalize(dS l).length=M at g⊢;simp;refine St.copy (g.cF (k1:=sl s 0 N N) (k2:=.slice t M M)) U U (by simp;omega) fun P S=>?_;obtain⟨v,c,a,d,S⟩:=(S.ae (aa b)).iP;obtain⟨j,i,u,K⟩:=S.cell;simp[j,i,u];refine h _ _ (sl s 0 N N) _ 0 (d.grow gU (n:=N) (by rw[p];omega) V V) (by simp;omega) ?_;have o:=((S.set [sl s 0 N N,iv 0,iv ((dS l).length:Nat),iv (most:Nat)]).az v).az (.slice t M M);rw[agx,p]at o;rw[p];exact o
def FO[j:Bare E](m:UnitS)(k:l.length=most)(S:St F G H s W (⟨aa b,ik most l⟩::R))(h:∀d f,St F G d f W (⟨aa b,ik most l⟩::R)->Q (iv 7) d f):Wp F G (CA E (n+4) 171 #[aa b,m.val]) H s Q:=by have w:=S.new s Z;refine en j [(3,[],[],[]),(5,[],[],[])] func171 ntmps171 ?_;simp;have S:=S.skip (some (.cells [iv m.kind,iv m.sq,uv m.n,uv m.ps,uv m.mr,aJ,.bool m.self,.string m.data] 150 true));have g:=S;obtain⟨v,q,a,c,S⟩:=S.iP;obtain⟨e,i,r,x⟩:=S.cell;have u:=c.few;have t:=c.cap;have o:=c.most;have p:(dS l).length=l.length:=J;rw[p]at e;refine FM V o e i ?_;simp[k];exact h _ _ g
theorem FN[M:Bare E](m:UnitS)(hl:l.length<most)(S:St F G H s W (⟨aa b,ik most l⟩::R))(h:∀H' s',St F G H' s' W (⟨aa b,ik most (l++[m])⟩::R)->Q (iv 0) H' s'):Wp F G (CA E (n+4) 171 #[aa b,m.val]) H s Q:=by have hs:=S.new s Z;refine en M [(3,[],[],[]),(5,[],[],[])] func171 ntmps171 ?_;simp;have z:=(S.alloc [iv m.kind,iv m.sq,uv m.n,uv m.ps,uv m.mr,aJ,.bool m.self,.string m.data] 150).ae (aa b);generalize aG H s _=H0 at z⊢;obtain⟨v,rows,a,c,S⟩:=z.iP;obtain⟨g,f,K,lb⟩:=S.cell;have O:=c.few;have hc:=c.cap;have hm:=c.most;have q:(dS l).length=l.length:=J;obtain⟨B,X⟩:=(S.ae v).cK;subst X;rw[q]at g O;have y:((most:Int)-l.length)≠0:=V;refine FM V hm g f ?_;simp[y,g,f];by_cases hq:l.length=rows.length;{rw[eh V];refine Po hl z fun H1 s1 v rows a c w S=>?_;obtain⟨g,f,K,lb⟩:=S.cell;have O:=c.few;have hc:=c.cap;have hm:=c.most;obtain⟨B,X⟩:=(S.ae v).cK;subst X;rw[q]at g O;simp[g,f];refine x7 M _ (N:=rows.length) (x:=a) (i:=l.length) V V (by have:=c.pos;omega) g f V fun p T r=>?_;obtain⟨d,o,cs,rfl,k,D,L,ld,P,-⟩:=(S.ae (.slice B rows.length rows.length)).row r;obtain⟨kz,fz,gz,lz⟩:=(S.ae (aa s)).cell;have j:=(S.ae (.slice (some ⟨d,o,none⟩) rows.length rows.length)).setRow r [iv m.kind,iv m.sq,uv m.n,uv m.ps,uv m.mr,aJ,.bool m.self,.string m.data] rfl k;obtain⟨u,-,-,-⟩:=(j.ae (aa b)).cell;have Y:IntKind.i64.wrap ((l.length:Int)+1)=((l.length+1:Nat):Int):=by{have:IntKind.i64.wrap ((l.length:Int)+1)=(l.length:Int)+1:=cL V V;rw[this];omega};rw[q]at u;simp[-cu,kz,fz,r,k,D,L,P,u,f,K,Y];have A:=(j.ae (aa b)).set [.slice (some ⟨d,o,none⟩) rows.length rows.length,iv (a:Nat),iv ((l.length+1:Nat):Int),iv (most:Nat)];have t:=c.put (by rw[q];exact w) (UnitS.row m);rw[q,<-T]at t;have e:dS (l++[m])=dS l++[UnitS.row m]:=J;have C:(dS (l++[m])).length=l.length+1:=J;refine h _ _ (St.nO (a:=a) (rows:=rows.set p (UnitS.row m)) (v:=.slice (some ⟨d,o,none⟩) rows.length rows.length) (by rw[e];exact t) ?_);rw[C];exact A.az (aa s)};{rw[ed V];have w:l.length<rows.length:=V;refine x7 M _ (N:=rows.length) (x:=a) (i:=l.length) V V (by have:=c.pos;omega) g f V fun p T r=>?_;obtain⟨d,o,cs,rfl,k,D,L,ld,P,-⟩:=(S.ae (.slice B rows.length rows.length)).row r;obtain⟨kz,fz,gz,lz⟩:=(S.ae (aa s)).cell;have j:=(S.ae (.slice (some ⟨d,o,none⟩) rows.length rows.length)).setRow r [iv m.kind,iv m.sq,uv m.n,uv m.ps,uv m.mr,aJ,.bool m.self,.string m.data] rfl k;obtain⟨u,-,-,-⟩:=(j.ae (aa b)).cell;have Y:IntKind.i64.wrap ((l.length:Int)+1)=((l.length+1:Nat):Int):=by{have:IntKind.i64.wrap ((l.length:Int)+1)=(l.length:Int)+1:=cL V V;rw[this];omega};rw[q]at u;simp[-cu,kz,fz,r,k,D,L,P,u,f,K,Y];have A:=(j.ae (aa b)).set [.slice (some ⟨d,o,none⟩) rows.length rows.length,iv (a:Nat),iv ((l.length+1:Nat):Int),iv (most:Nat)];have t:=c.put (by rw[q];exact w) (UnitS.row m);rw[q,<-T]at t;have e:dS (l++[m])=dS l++[UnitS.row m]:=J;have C:(dS (l++[m])).length=l.length+1:=J;refine h _ _ (St.nO (a:=a) (rows:=rows.set p (UnitS.row m)) (v:=.slice (some ⟨d,o,none⟩) rows.length rows.length) (by rw[e];exact t) ?_);rw[C];exact A.az (aa s)}
end
section
variable{E:Ex}{F G:Np}{H:AH}{s b K:Nat}{Q:Qt}{W:Wd}{R P:List aa3}{v:bn}
def DN(E:Ex)(F G:Nat->Prop)(W:Wd)(n:Nat)(f:FuncId)(B:ahG)(p:UnitS->Bool)(l:List UnitS):Prop:=
 ∀(H:AH)(s:Nat)(x:UnitS)(P:List aa3)(Q:bn->AH->Nat->Prop),x∈l->St F G H s W P->(∀a b,St F G a b W P->Q (.bool (p x)) a b)->Wp F G (cE prog E n f (#[x.val]++B)) H s Q
def lh(p:UnitS->Bool):List UnitS->Option Nat
 |[]=>none
 |x::r=>if p x then some 0 else(lh p r).map (· +1)
def Jh:∀{l:List UnitS},lh p l=none->∀x,x∈l->p x=false
 |[],_,x,a=>by cases a
 |y::r,h,x,a=>by
  unfold lh at h;split at h
  ·cases h
  ·rename_i b
   rcases pk.1 a with rfl|a
   ·simpa using b
   ·refine Jh (l:=r) ?_ x a
    cases c:lh p r with
    |none=>rfl
    |some i=>rw[c]at h;cases h
def Jl:∀{l:List UnitS}{i:Nat},(∀j(a:j<l.length),j<i->p l[j]=false)->(hi:i<l.length)->p l[i]=true->lh p l=some i
 |[],i,_,hi,_=>by simp at hi
 |y::r,0,_,_,h=>by simp[lh,show p y=true from h]
 |y::r,i+1,a,hi,h=>by
  have b:p y=false:=a 0 J V;have c:=Jl (l:=r) (i:=i) (fun j q t=>a (j+1) (by simpa using q) V) (by simpa using hi) h;simp[lh,b,c]
def Jf:∀{l:List UnitS},(∀j(a:j<l.length),p l[j]=false)->lh p l=none
 |[],_=>rfl
 |y::r,h=>by
  have b:p y=false:=h 0 J;have:=Jf (l:=r) fun j a=>h (j+1) (by simpa using a);simp[lh,b,this]
def uO(p:UnitS->Bool)(l:List UnitS):Int:=match lh p l with|some i=>(i:Int)|none=> -1
def MK[Y:Bare E](hl:l.length<=100000)(hc:eL prog f=true)(hf:DN E F G W n f B p l)(S:St F G H s W (⟨v,eG l⟩::R))(h:∀m z,St F G m z W (⟨v,eG l⟩::R)->Q (iv (uO p l)) m z):Wp F G (CA E (n+1) 267 #[v,.func (.func f) #[] B]) H s Q:=by obtain⟨a,K,h0⟩:=S.mU;rw[(J:(dS l).length=l.length)]at K;subst K;refine en Y [] func267 ntmps267 ?_;simp;refine acs (fun L b m z=>∃i,i<=l.length/\L=l.length-i/\b.size=19/\aF b 0=.slice a l.length l.length/\aF b 1=.func (.func f) #[] B/\aF b 7=iv l.length/\aF b 8=iv (i:Nat)/\(∀j(w:j<l.length),j<i->p l[j]=false)/\St F G m z W (⟨.slice a l.length l.length,eG l⟩::R)) (k:=l.length) (by unfold LF;omega) ⟨0,J,J,J,J,J,J,J,J,S⟩ ?_;rintro L b H1 s1⟨i,hi,rfl,y,M,N,O,P,A,S⟩;rw[show b=bl b []from rfl];simp[y,M,N,O,P];split;{rename_i q;obtain⟨d,o,T,rfl,kd,X,gd,ld,ho,r⟩:=S.row (i:=i) (by simpa using q);obtain⟨x,C⟩:∃x,x=l[i]:=⟨_,rfl⟩;have e1:(T.drop (o+i*8)).take 8=[iv x.kind,iv x.sq,uv x.n,uv x.ps,uv x.mr,aJ,.bool x.self,.string x.data]:=by{rw[r,C];simp;rfl};have hw:=wi (i:=i) V;simp[y,q,kd,X,e1,ho,hc];refine hf _ _ x _ _ (by rw[C];exact wk q) S fun H2 s2 S=>?_;rw[C];cases g:p l[i];{simp[y,M,N,O,P];refine⟨l.length-(i+1),V,i+1,V,rfl,hw,fun j w t=>?_,S⟩;rcases HK j i with c|D;{exact A j w c};{obtain rfl:j=i:=V;exact g}};{simp[y];have e:uO p l=i:=by{unfold uO;rw[Jl A q g]};rw[<-e];exact h _ _ S}};{rename_i u;have e:uO p l= -1:=by{unfold uO;rw[Jf fun j w=>A j w V]};rw[<-e];exact h _ _ S}
def Jj:∀{l:List UnitS}{i:Nat},lh p l=some i->∃g:i<l.length,p l[i]=true/\∀j(f:j<l.length),j<i->p l[j]=false
 |[],i,h=>by cases h
 |y::r,i,h=>by
  unfold lh at h;split at h
  ·rename_i d
   cases h;exact⟨J,d,fun j _ h=>V⟩
  ·rename_i d
   cases e:lh p r with
   |none=>rw[e]at h;cases h
   |some k=>
    rw[e]at h;simp only[wo,el]at h;subst h;obtain⟨a,b,c⟩:=Jj e;refine⟨by simpa using a,by simpa using b,fun j f q=>?_⟩;cases j with
    |zero=>simpa using d
    |succ j=>exact c j (by simpa using f) V
def JR{q:UnitS->Bool}(h:∀x,x∈l->q x=true):l.filter q=l:=ahv.2 h
def ML[hE:Bare E](hl:l.length<=100000)(hc:eL prog f=true)(hf:∀n,DN E F G W (n+1) f B p l)(S:St F G H s W (⟨v,eG l⟩::R))(h:∀H' s' v',St F G H' s' W (⟨v',eG (l.filter fun x=> !p x)⟩::R)->Q v' H' s'):Wp F G (CA E (n+3) 191 #[v,.func (.func f) #[] B]) H s Q:=by refine en hE [] func191 ntmps191 ?_;simp;refine MK hl hc (hf _) S fun H1 s1 S=>?_;unfold uO;cases hi:lh p l with|none=>{simp;have e:(l.filter fun x=> !p x)=l:=JR fun x P=>by{simp[Jh hi x P]};refine h _ _ _ ?_;rw[e];exact S}|some i0=>{obtain⟨X,Y,ha⟩:=Jj hi;obtain⟨a,hv,h0⟩:=S.mU;rw[(J:(dS l).length=l.length)]at hv;subst hv;obtain⟨d,o,hm,rfl,-⟩:=S.row (i:=0) (by simp;omega);have hw:=wi (i:=i0) V;simp[hw,(V:¬((i0:Int)= -1))];have y:l.take i0=(l.take (i0+1)).filter fun x=> !p x:=by{rw[ahi,ei X,ahx,adA];have e1:((l.take i0).filter fun x=> !p x)=l.take i0:=JR fun x P=>by{obtain⟨j,hj,rfl⟩:=adn P;rw[nl]at hj;rw[afB];simp[ha j V V]};rw[e1];simp[Y]};refine acs (fun kk b H' s'=>∃(i j:Nat)(q:List UnitS),i<j/\j<=l.length/\kk=l.length-j/\b.size=42/\aF b 0=.slice (some ⟨d,o,none⟩) l.length l.length/\aF b 1=.func (.func f) #[] B/\aF b 5=iv (i:Nat)/\aF b 6=iv (j:Nat)/\q.length=l.length/\q.take i=(l.take j).filter (fun x=> !p x)/\q.drop j=l.drop j/\St F G H' s' W (⟨.slice (some ⟨d,o,none⟩) l.length l.length,eG q⟩::R)) (k:=l.length-(i0+1)) (by unfold LF;omega) ⟨i0,i0+1,l,V,V,rfl,J,J,J,J,J,rfl,y,rfl,S⟩ ?_;rintro kk b H2 s2⟨i,j,q,hs,hj,rfl,hz,t0,t1,t5,t6,K,u,m,S⟩;rw[show b=bl b []from rfl];simp[hz,t0,t5,t6];split;{rename_i w;have N:j<q.length:=V;have P:q[j]=l[j]:=by{have:=congrArg (fun l=>l[0]?) m;simp only[NL,ahs]at this;rw[ei N,ei w]at this;exact Option.some.inj this};obtain⟨d',o',cs,h1,kd,fd,gd,ld,ho,hd⟩:=S.row (i:=j) (by simpa using N);cases h1;obtain⟨x,c⟩:∃x,x=l[j]:=⟨_,rfl⟩;have hg:=S.new s2 Z;have e1:(cs.drop (o+j*8)).take 8=[iv x.kind,iv x.sq,uv x.n,uv x.ps,uv x.mr,aJ,.bool x.self,.string x.data]:=by{rw[hd,c,<-P];simp;rfl};have hk:=wi (i:=i) V;have M:=wi (i:=j) V;have A:(l.take (j+1)).filter (fun x=> !p x)=(l.take j).filter (fun x=> !p x)++(if p l[j]then[]else[l[j]]):=by{rw[ahi,ei w,ahx,adA];cases hp:p l[j]<;>simp[hp]};simp[hz,t1,w,kd,fd,e1,ho,hc,hg];have S:=S.alloc [iv x.kind,iv x.sq,uv x.n,uv x.ps,uv x.mr,aJ,.bool x.self,.string x.data] 150;refine hf _ _ _ x _ _ (by rw[c];exact wk w) S fun H3 s3 S=>?_;obtain⟨T,hh,hn,hr⟩:=S.cell;have S:=S.ae (.slice (some ⟨d,o,none⟩) l.length l.length);rw[<-c]at A;cases O:p x;{obtain⟨g,r,t,D,L,C,-,-⟩:=S.qX;have he:i<l.length:=V;have hb:o+i*8+8<=g.length:=by{simp at C;omega};simp[-cu,hz,t0,t1,t5,t6,T,hh,r,t,D,he,hb];have S4:=S.setRow (i:=i) (by simp;omega) [iv x.kind,iv x.sq,uv x.n,uv x.ps,uv x.mr,aJ,.bool x.self,.string x.data] rfl r;refine⟨l.length-(j+1),V,i+1,j+1,V,V,rfl,hk,M,q.set i x,by simp[K],?_,?_,?_⟩;{rw[A,O];rw[ahi,agt V,u,adl V];rfl};{rw[agw V,<-List.drop_drop,m,adV]};{have e2:dS (q.set i x)=(dS q).set i (UnitS.row x):=by{simp[aeX]};show St F G _ _ W (⟨_,be _ 8 (dS (q.set i x))⟩::R);rw[e2];exact S4.az (aa s2)}};{simp[hz,t0,t1,t5,t6];refine⟨l.length-(j+1),V,i,j+1,V,V,rfl,rfl,M,q,K,?_,?_,S.az (aa s2)⟩;{rw[A,O,u];simp};{rw[<-List.drop_drop,m,adV]}}};{rename_i hq;obtain rfl:j=l.length:=V;obtain⟨g,r,t,D,L,C,-,-⟩:=S.qX;rw[zs]at u;simp[df,r,t,(V:i<=l.length)];refine St.Ky S (i:=i) (n:=8) (by simp;omega) (z:=tR) (zr:=gU) U U U ?_ rfl ?_ V fun H3 S=>?_;{intro k;exact D9 (z:=tR) (zr:=gU) rfl J k};{simp;omega};{obtain⟨g,r,t,D,L,C,-,-⟩:=S.qX;simp[hz,t0,t5,df,r,t,(V:i<=l.length)];refine h _ _ _ ?_;rw[<-u];show St F G H3 s2 W (⟨_,be _ 8 (dS (q.take i))⟩::R);rw[show dS (q.take i)=(dS q).take i by simp[aeO]];exact S}}}
end
def mM(ps:List (Int×Int)):Prop:=ps.Pairwise (fun p q=>p.2<q.1)/\∀p,p∈ps->p.1<p.2
def vZ:∀(l:List Int)(o:Option (Int×Int)),qQ l o=dU l o
 |[],none=>rfl
 |[],some p=>rfl
 |x::t,none=>by show qQ t _=dU t _;exact vZ t _
 |x::t,some p=>by
  show(if x=p.2 then qQ t _ else p::qQ t _)=(if x=p.2 then dU t _ else p::dU t _);rw[vZ t,vZ t]
def Bl:∀(k:Nat)(a b:Int)(t:List Int),dU (((List.range k).map fun(i:Nat)=>b+(i:Int))++t) (some (a,b))=dU t (some (a,b+(k:Int)))
 |0,a,b,t=>J
 |k+1,a,b,t=>by
  rw[aeW,ahu,ahz];show(if b+((0:Nat):Int)=b then dU _ (some (a,b+((0:Nat):Int)+1))else _)=_;rw[eh J];have e:((List.range k).map ((fun(i:Nat)=>b+(i:Int))∘Nat.succ))=(List.range k).map fun(i:Nat)=>(b+1)+(i:Int):=by
   apply adK;intro i _;simp;omega
  have c:b+((0:Nat):Int)+1=b+1:=J;rw[e,c];refine(Bl k a (b+1) t).trans ?_;congr 2;simp;omega
def FP:∀(ps:List (Int×Int))(p:Int×Int),(p::ps).Pairwise (fun p q=>p.2<q.1)->(∀q,q∈ps->q.1<q.2)->dU (da ps) (some p)=p::ps
 |[],p,_,_=>rfl
 |q::r,p,h,hq=>by
  have d:=hq q (tl ..);have f:=(x4.1 h).1 q (tl ..);obtain⟨k,b⟩:∃k:Nat,(q.2-q.1).toNat=k+1:=⟨(q.2-q.1).toNat-1,V⟩;show dU (dZ q++da r) _=_;unfold dZ;rw[b,aeW,ahu,ahz];show(if q.1+((0:Nat):Int)=p.2 then _ else p::dU _ (some (q.1+((0:Nat):Int),q.1+((0:Nat):Int)+1)))=_;rw[ed (by simp;omega)];have e:((List.range k).map ((fun(i:Nat)=>q.1+(i:Int))∘Nat.succ))=(List.range k).map fun(i:Nat)=>(q.1+1)+(i:Int):=by
   apply adK;intro i _;simp;omega
  have a:q.1+((0:Nat):Int)=q.1:=J;rw[e,a];refine congrArg (p:: ·) ((Bl k q.1 (q.1+1) (da r)).trans ?_);rw[(V:q.1+1+(k:Int)=q.2),FP r q (x4.1 h).2 fun x c=>hq x (ts _ c)]
def Pe(h:mM ps):cp (da ps)=ps:=by cases ps with|nil=>rfl|cons q r=>{have d:=h.2 q (tl ..);obtain⟨k,b⟩:∃k:Nat,(q.2-q.1).toNat=k+1:=⟨(q.2-q.1).toNat-1,V⟩;show dU (dZ q++da r) none=_;unfold dZ;rw[b,aeW,ahu,ahz];show dU _ (some (q.1+((0:Nat):Int),q.1+((0:Nat):Int)+1))=_;have e:((List.range k).map ((fun(i:Nat)=>q.1+(i:Int))∘Nat.succ))=(List.range k).map fun(i:Nat)=>(q.1+1)+(i:Int):=by{apply adK;intro i _;simp;omega};have a:q.1+((0:Nat):Int)=q.1:=J;rw[e,a];refine(Bl k q.1 (q.1+1) (da r)).trans ?_;rw[(V:q.1+1+(k:Int)=q.2),FP r q h.1 fun x c=>h.2 x (ts _ c)]}
def Bk:∀(l:List Int)(p:Int×Int),l.Pairwise (fun a b=>a<b)->p.1<p.2->(∀x,x∈l->p.2<=x)->
 (dU l (some p)).Pairwise (fun p q=>p.2<q.1)/\(∀q,q∈dU l (some p)->q.1<q.2/\p.1<=q.1)/\∀i,dW (dU l (some p)) i=true↔(p.1<=i/\i<p.2)\/i∈l
 |[],p,_,hp,_=>⟨by simp[dU],by intro q f;simp[dU]at f;subst f;exact⟨hp,adt _⟩,fun i=>by simp[dU,dW]⟩
 |x::t,p,hl,hp,hx=>by
  have d:=x4.1 hl;have r:=hx x (tl ..);by_cases e:x=p.2
  ·have e1:dU (x::t) (some p)=dU t (some (p.1,x+1)):=by show(if x=p.2 then _ else _)=_;rw[eh e]
   obtain⟨a,b,c⟩:=Bk t (p.1,x+1) d.2 (by dsimp only;omega) (fun y g=>by have:=d.1 y g;dsimp only;omega);rw[e1];refine⟨a,b,fun i=>?_⟩;rw[c i,pk];dsimp only;constructor
   ·rintro(h|h)
    ·by_cases j:i=x
     ·exact .inr (.inl j)
     ·exact .inl ⟨h.1,V⟩
    ·exact .inr (.inr h)
   ·rintro(h|h|h)
    ·exact .inl ⟨h.1,V⟩
    ·exact .inl ⟨V,V⟩
    ·exact .inr h
  ·have e1:dU (x::t) (some p)=p::dU t (some (x,x+1)):=by show(if x=p.2 then _ else _)=_;rw[ed e]
   obtain⟨a,b,c⟩:=Bk t (x,x+1) d.2 (by dsimp only;omega) (fun y g=>by have:=d.1 y g;dsimp only;omega);rw[e1];refine⟨x4.2 ⟨fun q f=>by have:=(b q f).2;dsimp only at this;omega,a⟩,fun q f=>?_,fun i=>?_⟩
   ·rcases pk.1 f with rfl|f
    ·exact⟨hp,adt _⟩
    ·have:=b q f;dsimp only at this;exact⟨this.1,V⟩
   ·show(dW (p::_) i=true)↔_
    unfold dW at c⊢;rw[List.any_cons,Ob,c i,pk];simp only[ev,ml];constructor
    ·rintro(h|h|h)
     ·exact .inl h
     ·exact .inr (.inl V)
     ·exact .inr (.inr h)
    ·rintro(h|h|h)
     ·exact .inl h
     ·exact .inr (.inl ⟨V,V⟩)
     ·exact .inr (.inr h)
def sI{l:List Int}(h:l.Pairwise (fun a b=>a<b)):mM (cp l)/\∀i,dW (cp l) i=true↔i∈l:=by cases l with|nil=>exact⟨⟨by simp[cp,dU],by simp[cp,dU]⟩,fun i=>by simp[cp,dU,dW]⟩|cons x t=>{have d:=x4.1 h;obtain⟨a,b,c⟩:=Bk t (x,x+1) d.2 (by dsimp only;omega) (fun y f=>by have:=d.1 y f;dsimp only;omega);refine⟨⟨a,fun q e=>(b q e).1⟩,fun i=>?_⟩;rw[show cp (x::t)=dU t (some (x,x+1))from rfl,c i,pk];dsimp only;constructor;{rintro(h|h);{exact .inl V};{exact .inr h}};{rintro(h|h);{exact .inl ⟨V,V⟩};{exact .inr h}}}
def Gd{l m:List Int}(c:l.Pairwise (fun a b=>a<b))(d:m.Pairwise (fun a b=>a<b))(h:∀y,y∈l↔y∈m):l=m:=yj id l m c d h
def DE(h:mM ps){l:List Int}(c:l.Pairwise (fun a b=>a<b))(d:∀i,dW ps i=true↔i∈l):ps=cp l:=by rw[<-Pe h];congr 1;refine Gd (uH h.1) c fun y=>?_;rw[yP,d]
def Bn{l:List Int}(g:l.Pairwise (fun a b=>a<b)){lo hi:Int}(h:∀i,i∈l->lo<=i/\i<hi)(c:q∈cp l):lo<=q.1/\q.1<q.2/\q.2<=hi:=by obtain⟨a,b⟩:=sI g;have p:=a.2 q c;have d:dW (cp l) q.1=true:=by{unfold dW;exact adj.2 ⟨q,c,by simp;omega⟩};have e:dW (cp l) (q.2-1)=true:=by{unfold dW;exact adj.2 ⟨q,c,by simp;omega⟩};have f:=h _ ((b _).1 d);have j:=h _ ((b _).1 e);exact⟨f.1,p,V⟩
def x8{l:List Int}(c:l.Pairwise (fun a b=>a<b)):(cp l).length<=l.length:=by obtain⟨a,b⟩:=sI c;have e:da (cp l)=l:=Gd (uH a.1) c fun y=>by{rw[yP,b]};have h:∀ps:List (Int×Int),(∀q,q∈ps->q.1<q.2)->ps.length<=(da ps).length:=fun ps=>by{induction ps with|nil=>{intro _;exact Z}|cons p r ih=>{intro h;have g:=h p (tl ..);have d:(dZ p).length=(p.2-p.1).toNat:=by{simp[dZ]};have:=ih fun q f=>h q (ts _ f);show _<=(dZ p++da r).length;rw[dw,hH,d];omega}};have:=h _ a.2;rw[e]at this;exact this
def Du(p d:Int×Int)(i:Int):(decide ((pz p d).1<=i)&&decide (i<(pz p d).2))=true↔(p.1<=i/\i<p.2)/\d.1<=i/\i<d.2:=by rw[ev,ml,ml];show max p.1 d.1<=i/\i<min p.2 d.2↔_;omega
def ZJ(h:mM ps)(d:Int×Int):mM ((dm ps [d]).filter bJ)/\∀i,dW ((dm ps [d]).filter bJ) i=true↔dW ps i=true/\d.1<=i/\i<d.2:=by have e:dm ps [d]=ps.map fun p=>pz p d:=(afk ..).symm;rw[e];refine⟨⟨?_,fun p b=>?_⟩,fun i=>?_⟩;{refine aeu _ ?_;rw[ahe];exact h.1.imp fun{p q}r=>by{show min p.2 d.2<max q.1 d.1;omega}};{have:=(nt.1 b).2;simpa[bJ]using this};{unfold dW;rw[adj,adj];constructor;{rintro⟨q,g,a⟩;obtain⟨p,b,rfl⟩:=nm.1 (nt.1 g).1;have:=(Du p d i).1 a;exact⟨⟨p,b,by simp;exact this.1⟩,this.2⟩};{rintro⟨⟨p,b,a⟩,c,f⟩;simp only[ev,ml]at a;refine⟨pz p d,nt.2 ⟨nm.2 ⟨p,b,rfl⟩,?_⟩,(Du p d i).2 ⟨a,c,f⟩⟩;have:=(Du p d i).2 ⟨a,c,f⟩;rw[ev,ml,ml]at this;unfold bJ;rw[ml];omega}}
def aaA(h:mM ps):ps.filter bJ=ps:=by rw[ahv];intro p a;have:=h.2 p a;simp[bJ];omega
def Kx(h:mM ps)(c:∀p,p∈ps->0<=p.1/\p.2<=8388609):nA ps=ps:=by
 unfold nA;rw[show dm ps [(0,8388609)]=ps.map fun p=>pz p (0,8388609)from(afk ..).symm];have e:(ps.map fun p=>pz p (0,8388609))=ps:=by
  conv=>rhs;rw[<-List.map_id ps]
  apply adK;intro p d;have:=c p d;have a:max p.1 0=p.1:=V;have b:min p.2 8388609=p.2:=V;show(max p.1 0,min p.2 8388609)=p;rw[a,b]
 rw[e,aaA h]
namespace aM
def missing_rise(r:aM):r.missing.Pairwise (fun a b=>a<b):=aeu _ (vO _)
def mem_missing{i:Int}:i∈r.missing↔(0<=i/\i<aq r.r r.h)/\r.has (aV r.r i)=false:=by have:=fi r.r r.h;unfold missing;rw[nt,nX,ahc];constructor;{rintro⟨a,b⟩;exact⟨⟨a.1,V⟩,b⟩};{rintro⟨a,b⟩;exact⟨⟨a.1,V⟩,b⟩}
def miss_eq(r:aM):qg r.r r.h (r.buffer.map (·.1))=cp r.missing:=by unfold qg cp;rw[vZ];congr 1;show List.filter _ (upto (aq r.r r.h).toNat)=List.filter _ (upto (aq r.r r.h).toNat);congr 1;funext i;congr 1;unfold has;rw[adE,ac8,nm,adj];constructor;{rintro⟨p,a,e⟩;exact⟨p,a,z8 e⟩};{rintro⟨p,a,e⟩;exact⟨p,a,adF e⟩}
def miss_in(b:q∈cp r.missing):0<=q.1/\q.1<q.2/\q.2<=aq r.r r.h:=Bn r.missing_rise (fun i a=>(mem_missing.1 a).1) b
def still_eq(r:aM)(g:Int×Int):(dm (cp r.missing) ([(aq r.r g.2-aq g.1 g.2,aq r.r g.2)].filter bJ)).filter bJ=cp (r.missing.filter fun i=>decide (aq r.r g.2-aq g.1 g.2<=i)&&decide (i<aq r.r g.2)):=by have j:(r.missing.filter fun i=>decide (aq r.r g.2-aq g.1 g.2<=i)&&decide (i<aq r.r g.2)).Pairwise (fun a b=>a<b):=r.missing_rise.filter _;by_cases e:bJ (aq r.r g.2-aq g.1 g.2,aq r.r g.2)=true;{rw[aeo,eh e,List.filter_nil];obtain⟨a,b⟩:=sI r.missing_rise;obtain⟨c,d⟩:=ZJ a (aq r.r g.2-aq g.1 g.2,aq r.r g.2);refine DE c j fun i=>?_;rw[d,b,nt];simp};{rw[aeo,ed e,List.filter_nil];have f:dm (cp r.missing) []=[]:=by{unfold dm i7;induction cp r.missing with|nil=>rfl|cons p t ih=>{simp[ahy]}};have h:(r.missing.filter fun i=>decide (aq r.r g.2-aq g.1 g.2<=i)&&decide (i<aq r.r g.2))=[]:=by{rw[List.filter_eq_nil_iff];intro i _ k;simp[bJ]at e k;omega};rw[f,h];rfl}
def still_sep(r:aM)(g:Int×Int):((dm (cp r.missing) ([(aq r.r g.2-aq g.1 g.2,aq r.r g.2)].filter bJ)).filter bJ).Pairwise (fun p q=>p.2<q.1):=by rw[still_eq];exact(sI (r.missing_rise.filter _)).1.1
end aM
namespace aM
structure dok(w:aM)(k:Nat):Prop where
 r:aU w.r
 h:aU w.h
 mr:aU w.mr
 window:1<=w.window/\w.window<=64
 ahead:aq w.r w.h<=aq w.r w.mr/\aq w.r w.mr<=w.window
 buffer:∀p∈w.buffer,aU p.1/\aq w.r p.1<aq w.r w.h/\p.2.size<=200
 nodup:(w.buffer.map (·.1)).Nodup
 room:w.inbox.length+k+aq w.r w.mr<=w.window
 inbox:∀m∈w.inbox,m.size<=200
 gaps:w.gaps.length<=8/\∀g∈w.gaps,aU g.1/\aU g.2
def ok.dok(h:w.ok):w.dok 0:=⟨h.r,h.h,h.mr,h.window,h.ahead,fun p a=>⟨(h.buffer p a).1,(h.buffer p a).2.1,(h.buffer p a).2.2.2⟩,h.nodup,by have:=h.room;omega,h.inbox,h.gaps⟩
def CZ{n:Int}(b:aU a)(c:aU n)(h:n≠a):aq (aV a 1) n=aq a n-1:=by unfold aq aV aU at*;omega
def Xv{n:Int}(b:aU a)(c:aU n)(h:n≠a):1<=aq a n:=by unfold aq aU at*;omega
def dok.step{k:Nat}(h:w.dok k){p:Int×bm}(l:w.buffer.find? (fun p=>decide (p.1=w.r))=some p):({w with r:=aV w.r 1,buffer:=w.buffer.filter fun q=>decide (q.1≠w.r)}:aM).dok (k+1)/\p.2.size<=200/\(w.buffer.filter fun q=>decide (q.1≠w.r)).length<w.buffer.length:=by have j:=ad2 l;have m:p.1=w.r:=by{simpa using List.find?_some l};have i:=h.buffer p j;have b:=h.r;have n:w.h≠w.r:=by{intro e;have:=fi w.r p.1;rw[m]at i;rw[e]at i;omega};have f:=CZ b h.h n;have s:=Xv b h.h n;have y:w.mr≠w.r:=by{intro e;have o:=h.ahead.1;rw[e]at o;have:aq w.r w.r=0:=by{simp[aq]};omega};have d:=CZ b h.mr y;have z:=h.ahead;have g:=h.room;have v:(w.buffer.filter fun q=>decide (q.1≠w.r)).length<w.buffer.length:=by{rcases HK (w.buffer.filter fun q=>decide (q.1≠w.r)).length w.buffer.length with h|h;{exact h};{have e:(w.buffer.filter fun q=>decide (q.1≠w.r))=w.buffer:=ahv.2 (List.length_filter_eq_length_iff.1 (Nat.le_antisymm (D0 _ _) h));rw[<-e]at j;have:=(nt.1 j).2;simp[m]at this}};refine⟨⟨iU,h.h,h.mr,h.window,⟨by dsimp only;omega,by dsimp only;omega⟩,fun q c=>?_,?_,by dsimp only;omega,h.inbox,h.gaps⟩,i.2.2,v⟩;{obtain⟨a,x⟩:=nt.1 c;have u:q.1≠w.r:=by{simpa using x};have t:=h.buffer q a;have:=CZ b t.1 u;exact⟨t.1,by dsimp only;omega,t.2.2⟩};{exact(List.Sublist.map _ (agv ..)).nodup h.nodup}
def dok.fin{out:List bm}(h:w.dok out.length)(e:∀p,p∈w.buffer->p.1≠w.r)(c:∀m∈out,m.size<=200):(({w with inbox:=w.inbox++out}:aM).ok/\∀m∈out,m.size<=200)/\out.length<=64/\w.inbox=w.inbox:=by have f:=h.room;have g:=h.window;have t:=fi w.r w.mr;refine⟨⟨⟨h.r,h.h,h.mr,h.window,h.ahead,fun p q=>?_,h.nodup,?_,?_,h.gaps⟩,c⟩,V,rfl⟩;{have b:=h.buffer p q;exact⟨b.1,b.2.1,e p q,b.2.2⟩};{dsimp only;rw[dw];omega};{intro m d;rcases my.1 d with a|a;{exact h.inbox m a};{exact c m a}}
def deliver_ok:∀(f:Nat)(w:aM)(out:List bm),w.dok out.length->w.buffer.length<=f->(∀m∈out,m.size<=200)->
 (({(deliver f w out).1 with inbox:=(deliver f w out).1.inbox++(deliver f w out).2}:aM).ok/\∀m∈(deliver f w out).2,m.size<=200)/\(deliver f w out).2.length<=64/\(deliver f w out).1.inbox=w.inbox
 |0,w,out,h,hf,ho=>by
  have i:w.buffer=[]:=HV.1 V;exact h.fin (by rw[i];intro p a;cases a) ho
 |f+1,w,out,h,hf,ho=>by
  unfold deliver;cases a:w.buffer.find? (fun p=>decide (p.1=w.r))with
  |none=>
   dsimp only;exact h.fin (fun p q=>by have:=ad9.1 a p q;simpa using this) ho
  |some p=>
   dsimp only;obtain⟨b,c,k⟩:=h.step a;obtain⟨d,e,g⟩:=deliver_ok f _ (out++[p.2]) (by rw[dw];exact b) (by dsimp only;omega) (by intro m j;rcases my.1 j with h|h;exact ho m h;simp at h;subst h;exact c);exact⟨d,e,g⟩
def takes_dok(h:w.ok){n:Int}(d:aU n)(f:m.size<=200)(k:w.has n=false)(r:aq w.r n<aq w.r w.mr):(w.takes n m).dok 0:=by have z:=h.r;have j:=h.ahead;have a:=h.room;have q:((w.buffer++[(n,m)]).map (·.1)).Nodup:=by{rw[ahh,aeN];refine⟨h.nodup,J,fun x l y i=>?_⟩;simp at i;subst i;rintro rfl;obtain⟨p,b,e⟩:=nm.1 l;have:w.has x=true:=by{unfold has;exact adj.2 ⟨p,b,by simpa using e⟩};rw[k]at this;cases this};unfold takes;split;{rename_i t;refine⟨h.r,h.h,h.mr,h.window,h.ahead,fun p b=>?_,q,by dsimp only;omega,h.inbox,h.gaps⟩;rcases my.1 b with b|b;{have:=h.buffer p b;exact⟨this.1,this.2.1,this.2.2.2⟩};{simp at b;subst b;exact⟨d,t,f⟩}};{rename_i v;have e:aq w.r (aV n 1)=aq w.r n+1:=by{have c:=zJ w.r w.mr;have o:=h.mr;unfold aq aV aU at*;omega};refine⟨h.r,iU,h.mr,h.window,⟨by dsimp only;omega,j.2⟩,fun p b=>?_,q,by dsimp only;omega,h.inbox,?_⟩;{dsimp only;rcases my.1 b with b|b;{have:=h.buffer p b;exact⟨this.1,V,this.2.2.2⟩};{simp at b;subst b;exact⟨d,by dsimp only;omega,f⟩}};{dsimp only;split;{rename_i s;refine⟨by rw[dw];simp;omega,fun g u=>?_⟩;rcases my.1 u with c|c;{exact h.gaps.2 g c};{simp at c;subst c;exact⟨h.h,d⟩}};{exact h.gaps}}}
def data_ok(h:w.ok)(n:Int)(i:m.size<=200):(w.data n m).1.ok/\(∀x∈(w.data n m).2,x.size<=200)/\(w.data n m).2.length<=64:=by unfold data;dsimp only;split;{exact⟨h,J,J⟩};{rename_i c;have g:w.has (low n)=false:=by{cases a:w.has (low n)with|false=>rfl|true=>exact absurd (Or.inl a) c};have e:aq w.r (low n)<aq w.r w.mr:=Int.not_le.1 fun a=>c (.inr a);have f:=takes_dok h (jJ n) i g e;have k:(w.takes (low n) m).buffer.length=w.buffer.length+1:=by{unfold takes;split<;>simp};obtain⟨b,d,j⟩:=deliver_ok (w.buffer.length+1) _ [] f V J;exact⟨b.1,b.2,d⟩}
def take_ok(h:w.ok)(n:Int):(w.take n).ok:=by have b:(w.inbox.drop (max 0 (min n w.inbox.length)).toNat).length<=w.inbox.length:=by{rw[vh];omega};have c:=h.room;exact⟨h.r,h.h,h.mr,h.window,h.ahead,h.buffer,h.nodup,by show((w.inbox.drop (max 0 (min n w.inbox.length)).toNat).length:Int)+aq w.r w.mr<=w.window;omega,fun m a=>h.inbox m (adh a),h.gaps⟩
def poll_ok(h:w.ok){s:Int}(a:w.pollB s=true):(w.poll s).ok:=by unfold pollB at a;simp only[ev,ml]at a;have e:aq w.r (low s)=aq w.r s:=by{unfold aq low;omega};exact⟨h.r,jJ _,h.mr,h.window,⟨by show aq w.r (low s)<=aq w.r w.mr;omega,h.ahead.2⟩,fun p b=>by have:=h.buffer p b;exact⟨this.1,by show aq w.r p.1<aq w.r (low s);omega,this.2.2⟩,h.nodup,h.room,h.inbox,h.gaps⟩
def P2(h:w.ok):aU w.renew.mr/\aq w.r w.renew.mr=max (aq w.r w.mr) (w.window-w.inbox.length):=by have c:=h.r;have d:=h.window;have p:=h.room;have b:=fi w.r w.mr;have a:=h.mr;have e:aq w.r (aV w.r (w.window-w.inbox.length))=w.window-w.inbox.length:=by{unfold aq aV aU at*;omega};have e1:low w.mr=w.mr:=by{unfold low aU at*;omega};have e2:low (aV w.r (w.window-w.inbox.length))=aV w.r (w.window-w.inbox.length):=by{unfold low aV;omega};show aU (maxN w.r w.mr _)/\aq w.r (maxN w.r w.mr _)=_;unfold maxN;rw[e];split;{rw[e1];exact⟨a,V⟩};{rw[e2,e];exact⟨iU,V⟩}
def renew_ok(h:w.ok):w.renew.ok:=by obtain⟨a,b⟩:=P2 h;have c:=h.ahead;have p:=h.room;have d:=fi w.r w.mr;exact⟨h.r,h.h,a,h.window,⟨by show aq w.r w.h<=aq w.r w.renew.mr;omega,by show aq w.r w.renew.mr<=w.window;omega⟩,h.buffer,h.nodup,by show(w.inbox.length:Int)+aq w.r w.renew.mr<=w.window;omega,h.inbox,h.gaps⟩
def gaps_ok(h:w.ok){l:List (Int×Int)}(a:l.length<=8/\∀g∈l,aU g.1/\aU g.2):({w with gaps:=l}:aM).ok:=⟨h.r,h.h,h.mr,h.window,h.ahead,h.buffer,h.nodup,h.room,h.inbox,a⟩
def JC:∀(l:List (Int×Int)){w:aM},w.ok->(l.length<=8/\∀g∈l,aU g.1/\aU g.2)->(gapGo l w).1.ok
 |[],w,h,hl=>gaps_ok h ⟨J,J⟩
 |g::t,w,h,hl=>by
  have a:t.length<=8/\∀g∈t,aU g.1/\aU g.2:=⟨by have:=hl.1;simp at this;omega,fun x b=>hl.2 x (ts _ b)⟩;unfold gapGo;cases w.still g with
  |nil=>exact JC t h a
  |cons p r=>exact renew_ok (gaps_ok h a)
def gap_ok(h:w.ok):w.gap.1.ok:=JC w.gaps h h.gaps
def new_ok{start a:Int}:(aM.new start a).ok:=by have e:aq (low start) (aV (low start) (max 1 (min a 64)))=max 1 (min a 64):=by{unfold aq aV low;omega};have c:aq (low start) (low start)=0:=by{unfold aq;omega};refine⟨jJ _,jJ _,iU,?_,?_,(by intro p b;cases b),by simp[new],?_,(by intro p b;cases b),⟨by simp[new],(by intro p b;cases b)⟩⟩;{show 1<=max 1 (min a 64)/\max 1 (min a 64)<=64;omega};{show aq (low start) (low start)<=aq (low start) (aV (low start) (max 1 (min a 64)))/\aq (low start) (aV (low start) (max 1 (min a 64)))<=max 1 (min a 64);rw[e,c];omega};{show((0:Nat):Int)+aq (low start) (aV (low start) (max 1 (min a 64)))<=max 1 (min a 64);rw[e];omega}
end aM
end Go.Proofs.YtlkceignfhnpoaaGreatDoor
