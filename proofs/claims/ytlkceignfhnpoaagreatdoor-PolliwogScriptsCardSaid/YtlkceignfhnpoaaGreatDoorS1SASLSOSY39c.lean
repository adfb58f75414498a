/-
  Part of a proof, written small.
-/
import Derived.Test.YtlkceignfhnpoaaGreatDoorS1SASLSOSY39b
set_option linter.all false
set_option maxRecDepth 10000
set_option maxHeartbeats 2000000
open Go.Proofs.Tryz
namespace Go.Proofs.YtlkceignfhnpoaaGreatDoor
open Go
variable{y x:aT}{n K d M s1 s2:Nat}{tk:jc}{X:Option aZ}{m0 O z m3 m4 c0 c1 c2 c3 c4 m5:Int}{l v:bn}{s:af}{xs:List aT}{c:Ren}{H1:AH}{cs:bj}{T:bW}{q:bE bn}
section
open AX
def Dc:∀(f u:Nat),(oc f u).length<=f
 |0,u=>by unfold oc;simp
 |f+1,u=>by
  unfold oc;split
  ·simp
  ·have:=Dc f (u/10)
   rw[dw];simp;omega
def CG(n:Int):(gq n).length<=21:=by unfold gq;split;{have:=Dc 20 n.natAbs;rw[hH];omega};{have:=Dc 20 n.toNat;omega}
def Su(st:Int):(sZ st).size<=10:=by unfold sZ;rw[acy];have:∀l∈B8,l.length<=10:=I;rw[N0];cases h:B8[(st-1).toNat]? with|none=>simp|some l=>{exact this l (w0 h)}
def Uf{x:ah}:x.rm.size<=1000:=by unfold ah.rm;rw[jX,jX];have b:=Su x.conn.state;have c:(ph (x.nY.map nV) om).size<=x.nY.length*22:=by{unfold ph;rw[acy];refine fq (CF om.data.toList 21 _ fun t a=>?_) ?_;{rw[ahz]at a;obtain⟨p,f,rfl⟩:=nm.1 a;exact CG p};{rw[pt,pt];exact Z}};have d:x.nY.length=12:=by{unfold ah.nY;split<;>rfl};have e:om.size=1:=rfl;omega
def YF{e:Int}:(zV e).size<=26:=by unfold zV;rw[jX];have a:=CG e;have b:=acy (gq e);have c:ByteArray.size ⟨#[99,111,100,101,32]⟩=5:=rfl;omega
def K1(x:ca):x.text.size<=10+4*x.size:=by unfold ca.text;rw[jX,jX,jX];have a:=wL x.a;have b:=wL x.b;have c:K5.size=1:=rfl;have d:(if x.sound=true then Fe else Hm).size<=6:=by{split<;>decide};unfold ca.size;omega
def NV{X:aZ}{N:Nat}(h:X.ok K N)(l:K+1<=1000)(n:N<=400000000000)(o:nE y)(g:y.small):(X.step y).2.size<=1700000000000:=by have a:=h.lk;have ask:∀e k d m,(X.ask e k d m).2.size<=1700000000000:=fun e k d m=>by{obtain⟨c,f⟩:=aN.request_ok dx a V e k m d;have b:=aN.request_fits dx a V e k m d;unfold aZ.ask;split;{exact fq (vS b) V};{exact fq (YF) V}};have carry:∀e k p m,(X.carry e k p m).2.size<=1700000000000:=fun e k p m=>by{obtain⟨c,f⟩:=aN.qw dx gZ a e k p m;have b:=aN.KD dx gZ yG a e k p m;unfold aZ.carry;split;{exact fq (vS b) V};{show 4<=_;omega}};unfold aZ.step;split;{exact ask _ _ _ _};split;{exact ask _ _ _ _};split;{rename_i i;have q:=g (.inl i);obtain⟨b1,b2,b3⟩:=aZ.ticks_ok (y.num 0).toNat (out:=[]) a eH.nil;have:=vS b3;simp at b2;have:(y.num 0).toNat<=60:=V;show(nH _).size<=_;omega};split;{exact carry _ _ _ _};split;{exact carry _ _ _ _};split;{exact carry _ _ _ _};split;{obtain⟨c,f⟩:=aN.bring_ok dx gZ a (y.num 0) ⟨y.data.toArray⟩;have b:=aN.Dt dx gZ yG a (y.num 0) ⟨y.data.toArray⟩;exact fq (vS b) V};split;{unfold aZ.settle;rw[jX,acy];have:=CG (((aZ.settleGo (y.num 0).toNat X.deliver 0).2:Nat):Int);have j:(if(aZ.settleGo (y.num 0).toNat X.deliver 0).1.lk.quiet=true then aZ.quietT else aZ.busyT).size<=6:=by{split<;>decide};omega};split;{exact fq (Uf) V};split;{have:=K1 X.bk;have:=h.bk;exact fq (K1 X.bk) V};{show 0<=_;omega}
def Yi{N:Nat}(h:iT X K N)(a:K+1<=1000)(b:N<=400000000000)(d:nE y)(c:y.small):(cj y tk X).2.2.size<=1700000000000:=by unfold cj;split;{show 2<=_;omega};split;{split;{show 2<=_;omega};{show 6<=_;omega}};{cases X with|none=>{show 6<=_;omega}|some X=>{exact NV (h X rfl) a b d c}}
def yN:bm:=⟨#[10]⟩
def wt:List bm->bm
 |[]=>.empty
 |t::r=>t++yN++wt r
def Z4(a b c:bm):a++b++c=a++(b++c):=by apply aeR;simp[ael]
def Z3(a:bm):a++ByteArray.empty=a:=Zp rfl
section
variable{E:Ex}{F G:Np}{H:AH}{s w K N:Nat}{Q:Qt}{W:Wd}{R:List aa3}{v nv:bn}{y:aT}{tk:jc}{X:Option (aZ × Nat)}
def Pf(hX:eV E)(n:Nat)(t:bm)(ht:t.size<=100000)(hxs:(cY t.data.toList).1=xs)(hp:(cY t.data.toList).2.2=true)(hy:∀y∈xs,y.uU)(hl:xs.length<=40)(hok:iT (X.map Prod.fst) K N)(hK:K+xs.length<=999)(hN:N+xs.length*8000000000<=400000000000)(hw:oH W X)(S:St F G H s W (⟨aa w,ov tk X⟩::R))(h:∀H' s' z b,W.le z->oH z b->b.map Prod.fst=(fC xs tk (X.map Prod.fst)).2.1->St F G H' s' z (⟨aa w,ov (fC xs tk (X.map Prod.fst)).1 b⟩::R)->Q (.string (wt (fC xs tk (X.map Prod.fst)).2.2)) H' s'):Wp F G (CA E (n+22) 14 #[aa w,.string t]) H s Q:=by have hE:=hX.bare;have j:∀i,i<=xs.length->N+i*8000000000<=400000000000:=fun i hi=>fq (Nat.add_le_add_left (adg _ hi) N) hN;clear hN;refine en hE [] func14 ntmps14 ?_;simp;refine Is hX.parse t ht S fun H1 s1 W1 v1 l f1 S1=>?_;rw[hxs]at f1;obtain⟨av,rfl⟩:=f1.shape;have L:=S1.new s1 Z;simp[hp,L];have S2:=S1.ZN;refine acs (fun kk tm H' s'=>∃(i:Nat)(p:jc)(b:Option (aZ×Nat))(z:Wd)(T:bm),i<=xs.length/\kk=xs.length-i/\W1.le z/\oH z b/\iT (b.map Prod.fst) (K+i) (N+i*8000000000)/\(fC (xs.drop i) p (b.map Prod.fst)).1=(fC xs tk (X.map Prod.fst)).1/\(fC (xs.drop i) p (b.map Prod.fst)).2.1=(fC xs tk (X.map Prod.fst)).2.1/\T++wt (fC (xs.drop i) p (b.map Prod.fst)).2.2=wt (fC xs tk (X.map Prod.fst)).2.2/\T.size<=i*1700000000001/\tm.size=36/\aF tm 0=aa w/\aF tm 8=aa s1/\aF tm 23=.slice av xs.length xs.length/\aF tm 24=iv xs.length/\aF tm 25=iv (i:Nat)/\St F G H' s' z (⟨aa s1,xl T⟩::⟨aa w,ov p b⟩::R)) (k:=xs.length) (by unfold LF;omega) ⟨0,tk,X,W1,.empty,V,rfl,Wd.le.refl W1,hw.up l,hok,rfl,rfl,Dq rfl,J,J,J,J,J,J,J,S2⟩ ?_;clear S S1 S2;rintro kk tm H3 s3⟨i,p,b,z,T,hi,rfl,e,g,a,P,r2,O,hT,hz,t0,t8,x,v,q,S⟩;rw[mk0 tm];simp[hz,t0,t8,x,v,q];have A:=S.new s3 Z;rcases HK i xs.length with B|hge;{have f2:=f1.up e;obtain⟨d,cs,nv,rfl,kd,fd,ld,ho,M,f⟩:=pH.row S f2 B;obtain⟨an,rfl⟩:=dR.shape f;have C:=wi (i:=i) V;have r:=hy _ (wk B);simp[hz,t0,t8,x,v,q,B,kd,fd,ho,M,fW,A];have S3:=S.skip (some (.cells [.string ⟨xs[i].word.toArray⟩,.slice an xs[i].nums.length xs[i].nums.length,.string ⟨xs[i].ask.toArray⟩,.string ⟨xs[i].data.toArray⟩] 31 true));generalize aG H3 s3 _=H4 at S3⊢;refine Db hX r a V (j i hi) g f (S3.ae (aa w)) fun H5 s5 W5 X5 D Y e5 S5=>?_;have o:=Yi (tk:=p) a V (j i hi) r.ok r.small;have c:=zR (tk:=p) a V r.ok r.small;rw[<-e5]at c;rw[R2 B]at P r2 O;have er:fC (xs[i]::xs.drop (i+1)) p (b.map Prod.fst)=((fC (xs.drop (i+1)) (cj xs[i] p (b.map Prod.fst)).1 (cj xs[i] p (b.map Prod.fst)).2.1).1,(fC (xs.drop (i+1)) (cj xs[i] p (b.map Prod.fst)).1 (cj xs[i] p (b.map Prod.fst)).2.1).2.1,(cj xs[i] p (b.map Prod.fst)).2.2::(fC (xs.drop (i+1)) (cj xs[i] p (b.map Prod.fst)).1 (cj xs[i] p (b.map Prod.fst)).2.1).2.2):=rfl;rw[er,<-e5]at P r2 O;dsimp only at P r2 O;have ha:((cj xs[i] p (b.map Prod.fst)).2.2++yN).size<=1700000000001:=by{rw[jX];show _+1<=_;omega};generalize(cj xs[i] p (b.map Prod.fst)).2.2=dt at*;simp[hz,t0,t8,x,v,q,mE (fq o V) (I:ByteArray.size ⟨#[10]⟩<=4000000000000000000)];refine LK hX.write _ (u:=dt++yN) (t:=T) V (S5.ae (aa s1)) fun H6 s6 S6=>?_;simp[hz,t0,t8,x,v,q];have m:iT (X5.map Prod.fst) (K+(i+1)) (N+(i+1)*8000000000):=by{rw[(V:K+(i+1)=K+i+1),(V:N+(i+1)*8000000000=N+i*8000000000+8000000000)];exact c};refine⟨xs.length-(i+1),V,i+1,V,rfl,(cj xs[i] p (b.map Prod.fst)).1,X5,W5,e.trans D,Y,m,P,r2,T++(dt++yN),?_,?_,C,S6⟩;{rw[Z4];exact O};{rw[jX];omega}};{obtain rfl:i=xs.length:=V;rw[List.drop_length]at P r2 O;simp[hz,t0,t8,x,v,q];refine ZF hX.tell S fun H4 s4 S4=>?_;simp[hz];have P:p=(fC xs tk (X.map Prod.fst)).1:=P;have r2:b.map Prod.fst=(fC xs tk (X.map Prod.fst)).2.1:=r2;have O:T++ByteArray.empty=wt (fC xs tk (X.map Prod.fst)).2.2:=O;rw[Z3]at O;rw[O];rw[P]at S4;exact h _ _ z b (l.trans e) g r2 S4}
end
end
end Go.Proofs.YtlkceignfhnpoaaGreatDoor
