/-
  Part of a proof, written small.
-/
import Derived.Test.YtlkceignfhnpoaaGreatDoorS1SASLSOSY12
import Derived.Test.YtlkceignfhnpoaaGreatDoorS1SASLSOSY32
set_option linter.all false
set_option maxRecDepth 10000
set_option maxHeartbeats 4000000
open Go.Proofs.Tryz
namespace Go.Proofs.YtlkceignfhnpoaaGreatDoor
open Go AX
variable{i m:Nat}{z:bn}{rows:List (bj)}{xs:List aT}{l:List Int}{c:bj}{x:aT}
def JI:∀(rows:List (bj))(k i:Nat),(∀r,r∈rows->r.length=k)->(h:i<rows.length)->(rows.flatten.drop (i*k)).take k=rows[i]/\i*k+k<=rows.flatten.length
 |[],k,i,_,h=>by simp at h
 |r::t,k,0,hk,h=>by
  have:=hk r J;refine⟨?_,?_⟩
  ·simp[List.take_append,this]
  ·simp;omega
 |r::t,k,i+1,hk,h=>by
  have c:=hk r J;obtain⟨a,b⟩:=JI t k i (fun x d=>hk x (by simp[d])) (by simpa using h);have e:(i+1)*k=r.length+i*k:=by rw[c,ady,afe,af2]
  refine⟨?_,?_⟩
  ·rw[aek,e,List.drop_length_add_append]
   simpa using a
  ·rw[aek,dw,e];omega
def D6(hi:i<xs.length)(h:c[i]? =some z)(b:c.length=xs.length):∃a:i<(List.zipWith fW xs c).length,(List.zipWith fW xs c)[i]=fW xs[i] z:=by refine⟨by simp;omega,?_⟩;have:c[i]'V=z:=by{rw[ei V]at h;exact Option.some.inj h};simp[this]
def Lz:∀r,r∈List.zipWith fW xs c->r.length=4:=fun r a=>by
 obtain⟨i,b,rfl⟩:=adn a;simp[fW]
section
variable{E:Ex}{F G:Np}{H:AH}{s b w:Nat}{Q:Qt}{W:Wd}{P:List aa3}{v:bn}{xs:List aT}
def pH.shape(f:pH W xs v):∃a,v=.slice a xs.length xs.length:=by rcases f with⟨rfl,rfl⟩|⟨_,b,c,rfl,_⟩;{exact⟨none,rfl⟩};{exact⟨_,rfl⟩}
def pH.row{a:Option Addr}{l:Nat}(S:St F G H s W P)(f:pH W xs (.slice a l m))(hi:i<xs.length):∃d g z,a=some ⟨d,0,none⟩/\H d=some (.cells g 31 false)/\F d/\d<s/\i*4+4<=g.length/\(g.drop (i*4)).take 4=fW xs[i] z/\Fz W z (dR xs[i].nums):=by rcases f with⟨rfl,_⟩|⟨_,b,c,e,j,k,h⟩;{simp at hi};{cases e;obtain⟨z,e1,e2⟩:=h.2 i hi;obtain⟨o,p,q⟩:=S.froz b j;obtain⟨n,e3⟩:=D6 hi e1 h.1;obtain⟨e4,e5⟩:=JI (List.zipWith fW xs c) 4 i Lz n;exact⟨b,_,z,rfl,q.trans k,p,o,e5,e4.trans e3,e2⟩}
def dR.at(S:St F G H s W P)(f:Fz W z (dR l)):(l=[]/\z=aJ)\/(l≠[]/\∃d wr,z=.slice (some ⟨d,0,none⟩) l.length l.length/\H d=some (.cells (gm l) 3 wr)/\F d/\d<s):=by refine S.qn f ?_;rintro D(h|⟨c,b,wr,e,g,a⟩)q;{exact .inl h};{exact .inr ⟨c,b,wr,e,g,(q b a).2,(q b a).1⟩}
def dR.shape(f:Fz W z (dR l)):∃a,z=.slice a l.length l.length:=by obtain⟨D,(⟨rfl,rfl⟩|⟨_,b,wr,rfl,_⟩),_⟩:=f;{exact⟨none,rfl⟩};{exact⟨_,rfl⟩}
def St.Hj{cs:bj}(S:St F G H s W P)(f:l≠[])(e:cs=gm l):∃c,W.le c/\Fz c (.slice (some ⟨s,0,none⟩) l.length l.length) (dR l)/\St F G (aG H s (some (.cells cs 3 true))) (s+1) c P:=by obtain⟨a,b⟩:=S.CN (HT s) S.bd.new (fun b d=>aH _ (some (.cells cs 3 true)) V);exact⟨_,a,⟨fun b=>b=s,.inr ⟨f,s,true,rfl,by rw[e];exact bX _ _ _,rfl⟩,fun b d=>.inr V⟩,b⟩
def ju(W:Wd)(xs:List aT)(rows:List (bj)):Prop:=∃c,vC W xs c/\rows=List.zipWith fW xs c
def ju.up{W c:Wd}{xs:List aT}(h:ju W xs rows)(k:W.le c):ju c xs rows:=by obtain⟨p,a,b⟩:=h;exact⟨p,a.up k,b⟩
def ju.len(h:ju W xs rows):rows.length=xs.length:=by obtain⟨p,a,rfl⟩:=h;simp[a.1]
def ju.snoc(h:ju W xs rows)(f:Fz W z (dR x.nums)):ju W (xs++[x]) (rows++[fW x z]):=by obtain⟨q,a,rfl⟩:=h;refine⟨q++[z],⟨by simp[a.1],fun j d=>?_⟩,by rw[adw a.1.symm];rfl⟩;by_cases p:j<xs.length;{obtain⟨u,b,c⟩:=a.2 j p;exact⟨u,by rw[z6 (by rw[a.1];exact p)];exact b,by rw[aeP p];exact c⟩};{have r:j=xs.length:=by{simp at d;omega};subst r;exact⟨z,by rw[<-a.1];simp,by simp;exact f⟩}
def JY(m:Nat):gQ m []=[]:=by simp[gQ]
def Xp(xs:List aT):gQ 0 xs=[]:=by simp[gQ]
def ju.nil(W:Wd):ju W [] []:=⟨[],⟨rfl,fun j a=>by simp at a⟩,rfl⟩
def Xr(xs:List aT)(h:i<xs.length):gQ (i+1) xs=gQ i xs++[sy xs[i]]:=by unfold gQ;rw[ahi,ei h,ahx,ahh];rfl
def Xt(xs:List aT)(h:m<=xs.length):(gQ m xs).length=m:=by unfold gQ;simp;omega
def Fl(h:nE x)(b:x.word=pO\/x.word=[115,101,116,116,108,101]):∃n,x.nums=[n]:=by obtain⟨c,a,d⟩:=h.need;have e:c=[78]:=by{rcases b with b|b;{rw[b]at a;have:iF pO=some [78]:=Sj;rw[this]at a;cases a;rfl};{rw[b]at a;have:iF [115,101,116,116,108,101]=some [78]:=by{decide+kernel};rw[this]at a;cases a;rfl}};rw[e]at d;exact ahj.1 d
def Xq[hE:Bare E](hP:E 18=some me){n:Nat}(t:bm)(ht:t.size<=100000)(m:Nat)(hm:m<=1000)(S:St F G H s W P) (h:∀H' s' W' a l k rows,W.le W'->ju W' (gQ m (cY t.data.toList).1) rows->St F G H' s' W' (⟨.slice a l k,be 31 4 rows⟩::P)->Q (.tuple #[.slice a l k,.bool (cY t.data.toList).2.2]) H' s'):Wp F G (CA E (n+2) 9 #[.string t,iv (m:Nat)]) H s Q:=by refine en hE [] func9 ntmps9 ?_;simp;refine Is hP t ht S fun H1 s1 W1 v1 l1 f1 S1=>?_;have ha:=QI t.data.toList;have hl:=QL t.data.toList;cases hk:(cY t.data.toList).2.2;{simp;have e0:(cY t.data.toList).1=[]:=x6 _ _ _ _ (cY t.data.toList).2.1 (by rw[<-hk];rfl);rw[hk,e0]at h;rw[JY]at h;exact h _ _ W1 none 0 0 [] l1 (ju.nil _) (S1.bG _ _)};rw[hk]at h;generalize(cY t.data.toList).1=xs at*;generalize(cY t.data.toList).2.1=kn at*;obtain⟨a1,rfl⟩:=f1.shape;simp;refine acs (fun kk tm H' s'=>∃i W' vo rows,W1.le W'/\i<=xs.length/\i<=m/\kk=xs.length-i/\tm.size=51/\aF tm 1=iv (m:Nat)/\aF tm 9=vo/\aF tm 20=.slice a1 xs.length xs.length/\aF tm 21=iv xs.length/\aF tm 22=iv (i:Nat)/\ju W' (gQ i xs) rows/\St F G H' s' W' (⟨vo,be 31 4 rows⟩::P)) (k:=xs.length) (by unfold LF;omega) ⟨0,W1,aJ,[],Wd.le.refl _,J,J,J,J,J,J,J,J,J,(by rw[Xp];exact ju.nil _),S1.bG _ _⟩ ?_;rintro kk tm H2 b⟨i,W2,vo,rows,l2,hi,hj,rfl,R,t1,t9,r,q,u,hR,B⟩;rw[mk0 tm];have fin:∀j,gQ m xs=gQ j xs->ju W2 (gQ j xs) rows->∃a l k,vo=.slice a l k/\Q (.tuple #[vo,.bool true]) H2 b:=fun j e hc=>by{obtain⟨a,l,k,rfl⟩:=B.rsl;exact⟨a,l,k,rfl,h _ _ W2 a l k rows (l1.trans l2) (by rw[e];exact hc) B⟩};simp[R,t1,t9,r,q,u];split;{rename_i o;obtain⟨d,cs,z,rfl,kd,fd,ld,ho,he,A⟩:=(f1.up l2).row B o;have C:=B.new b Z;obtain⟨an,rfl⟩:=dR.shape A;obtain⟨D,p,M,rfl⟩:=B.rsl;simp[R,t1,t9,r,q,u,o,kd,fd,ho,he,fW,C];obtain⟨hh,hd⟩:=B.cK;have c:=hR.len;rw[Xt xs hi]at c;have hb:p=i:=by{cases hd;exact c};subst hb;by_cases Y:p=m;{subst Y;simp;exact h _ _ W2 _ _ _ rows (l1.trans l2) hR (B.skip _)};have g:¬((p:Int)=(m:Int)):=V;have hf:=ha xs[p] (wk o);have v:=Xr xs o;have hw:=wi (i:=p) V;generalize xs[p]=x at*;by_cases w:x.word=pO\/x.word=[115,101,116,116,108,101];{have f:sy x={x with nums:=[min (x.nums.headD 0) 60]}:=eh w;obtain⟨O,L⟩:=Fl hf w;rw[L]at A f;rcases dR.at B A with⟨h1,_⟩|⟨_,dn,wrn,e1,kn,fn,ln⟩;{cases h1};cases e1;have hn:b≠dn:=V;have N:gm [O]=[iv O]:=rfl;rcases w with w1|w1;{have X:x.word=[116,105,99,107]:=w1;simp[-bM,g,X,C,R,t1,t9,r,q,u,L,aH,(V:dn≠b),kn,fn,N];replace w1:=X;have SA:=B.alloc [.string ⟨#[116,105,99,107]⟩,sl dn 0 1 1,.string ⟨x.ask.toArray⟩,.string ⟨x.data.toArray⟩] 31;obtain⟨W3,l3,fN,SB⟩:=SA.Hj (cs:=[iv (min O 60)]) (l:=[min O 60]) J rfl;have SC:=SB.set [.string ⟨#[116,105,99,107]⟩,.slice (some ⟨b+1,0,none⟩) 1 1,.string ⟨x.ask.toArray⟩,.string ⟨x.data.toArray⟩];refine St.append (((SC.az (aa b)).cb (T:=31) (n:=4) [[.string ⟨#[116,105,99,107]⟩,.slice (some ⟨b+1,0,none⟩) 1 1,.string ⟨x.ask.toArray⟩,.string ⟨x.data.toArray⟩]] 1 rfl J rfl).cF (k1:=.slice D p M) (k2:=.slice (some ⟨b+1+1,0,none⟩) 1 1)) (y:=72) U (by rw[c];simp;omega) fun H3 s3 a3 q3 m3 S3=>?_;simp[R,t1,t9,r,q,u];have K:=(hR.up l3).snoc (x:={x with nums:=[min O 60]}) fN;rw[f]at v;refine⟨xs.length-(p+1),V,p+1,W3,l2.trans l3,V,V,rfl,hw,_,by rw[v];exact K,?_⟩;have e3:fW {x with nums:=[min O 60]} (.slice (some ⟨b+1,0,none⟩) 1 1)=[.string ⟨#[116,105,99,107]⟩,.slice (some ⟨b+1,0,none⟩) 1 1,.string ⟨x.ask.toArray⟩,.string ⟨x.data.toArray⟩]:=by{simp[fW,w1]};have S4:=S3.az (.slice (some ⟨b+1+1,0,none⟩) 1 1);rw[<-e3]at S4;exact S4};{have w2:¬([115,101,116,116,108,101]:af)=[116,105,99,107]:=I;simp[-bM,g,w1,w2,C,R,t1,t9,r,q,u,L,aH,(V:dn≠b),kn,fn,N];have SA:=B.alloc [.string ⟨#[115,101,116,116,108,101]⟩,sl dn 0 1 1,.string ⟨x.ask.toArray⟩,.string ⟨x.data.toArray⟩] 31;obtain⟨W3,l3,fN,SB⟩:=SA.Hj (cs:=[iv (min O 60)]) (l:=[min O 60]) J rfl;have SC:=SB.set [.string ⟨#[115,101,116,116,108,101]⟩,.slice (some ⟨b+1,0,none⟩) 1 1,.string ⟨x.ask.toArray⟩,.string ⟨x.data.toArray⟩];refine St.append (((SC.az (aa b)).cb (T:=31) (n:=4) [[.string ⟨#[115,101,116,116,108,101]⟩,.slice (some ⟨b+1,0,none⟩) 1 1,.string ⟨x.ask.toArray⟩,.string ⟨x.data.toArray⟩]] 1 rfl J rfl).cF (k1:=.slice D p M) (k2:=.slice (some ⟨b+1+1,0,none⟩) 1 1)) (y:=72) U (by rw[c];simp;omega) fun H3 s3 a3 q3 m3 S3=>?_;simp[R,t1,t9,r,q,u];have K:=(hR.up l3).snoc (x:={x with nums:=[min O 60]}) fN;rw[f]at v;refine⟨xs.length-(p+1),V,p+1,W3,l2.trans l3,V,V,rfl,hw,_,by rw[v];exact K,?_⟩;have e3:fW {x with nums:=[min O 60]} (.slice (some ⟨b+1,0,none⟩) 1 1)=[.string ⟨#[115,101,116,116,108,101]⟩,.slice (some ⟨b+1,0,none⟩) 1 1,.string ⟨x.ask.toArray⟩,.string ⟨x.data.toArray⟩]:=by{simp[fW,w1]};have S4:=S3.az (.slice (some ⟨b+1+1,0,none⟩) 1 1);rw[<-e3]at S4;exact S4}};{have f:sy x=x:=ed w;have w1:¬x.word=[116,105,99,107]:=fun e=>w (.inl e);have w2:¬x.word=[115,101,116,116,108,101]:=fun e=>w (.inr e);simp[-bM,g,w1,w2,C,R,t1,t9,r,q,u];refine St.append (((B.skip _).cb (T:=31) (n:=4) [fW x (.slice an x.nums.length x.nums.length)] 1 rfl (by simp[fW]) rfl).cF (k1:=.slice D p M) (k2:=.slice (some ⟨b+1,0,none⟩) 1 1)) (y:=72) U (by rw[c];simp;omega) fun H3 s3 a3 l3 m3 S3=>?_;simp[R,t1,t9,r,q,u];rw[f]at v;exact⟨xs.length-(p+1),V,p+1,W2,l2,V,V,rfl,hw,_,(by rw[v];exact hR.snoc A),S3.az (.slice (some ⟨b+1,0,none⟩) 1 1)⟩}};{rename_i hg;have e1:gQ m xs=gQ i xs:=by{unfold gQ;rw[wm V,wm V]};obtain⟨a,l,k,rfl,hq⟩:=fin i e1 hR;exact hq}
end
section
variable{F G:Np}{H:AH}{s b:Nat}{W:Wd}{xs:List aT}
def St.start(c:eU F G s)(a:Bd H s):St F G H s (Go.Proofs.YtlkceignfhnpoaaGreatDoor.lent F H s) []:=⟨a,c,fun b h=>⟨h.1,h.2,rfl⟩,fun _=>False,fun _ h=>h,fun _ h=>h.elim⟩
def ju.at(h:ju W xs rows)(hi:i<rows.length):∃x z,rows[i]=fW x z/\xs[i]? =some x/\Fz W z (dR x.nums):=by have d:=h.len;obtain⟨p,a,rfl⟩:=h;have b:i<xs.length:=V;obtain⟨z,e1,e2⟩:=a.2 i b;obtain⟨c,e3⟩:=D6 b e1 a.1;exact⟨xs[i],z,e3,ei b,e2⟩
end
end Go.Proofs.YtlkceignfhnpoaaGreatDoor
