/-
  Part of a proof, written small.
-/
import Derived.Test.YtlkceignfhnpoaaGreatDoorS1SASLSOSY39e
set_option linter.all false
set_option maxRecDepth 10000
set_option maxHeartbeats 2000000
open Go.Proofs.Tryz
namespace Go.Proofs.YtlkceignfhnpoaaGreatDoor
open Go
variable{y x:aT}{n K d M s1 s2:Nat}{tk:jc}{X:Option aZ}{m0 O z m3 m4 c0 c1 c2 c3 c4 m5:Int}{l v:bn}{s:af}{xs:List aT}{c:Ren}{H1:AH}{cs:bj}{T:bW}{q:bE bn}
section
open AX Go.RowKit
section
variable{P:c7}{φ:Ren}{H:AH}{w:bt}{s B:Nat}
structure kG(P:c7)(φ:Ren)(H:AH)(w:bt)(s:Nat)(φ':Ren)(H':AH)(s':Nat):Prop where
 wr:WR P φ' H' w
 nx:Nx φ φ' s s'
 sub:∀k,gH φ' H' k->gH φ H k
 le:s<=s'
def kG.refl(a:WR P φ H w)(s:Nat):kG P φ H w s φ H s:=⟨a,Nx.refl φ s,fun _ h=>h,Z⟩
def kG.trans{a:Ren}{b:AH}(h:kG P φ H w s c H1 s1)(k:kG P c H1 w s1 a b s2):kG P φ H w s a b s2:=
 ⟨k.wr,h.nx.trans k.nx h.le k.le,fun j d=>h.sub j (k.sub j d),fq h.le k.le⟩
def kG.free(h:kG P φ H w s c H1 s1)(f:dz φ s s2):dz c s1 s2:=fun b a d=>by
 cases e:c b with
 |none=>rfl
 |some im=>
  rcases h.nx.dom b im e with e|e
  ·rw[f b (fq h.le a) d]at e;cases e
  ·omega
def WR.aaT(i:WR P φ H w){im:jQ}(g:φ s=none)(o:¬gH φ H im.blk)(x:BR P φ im (.cells cs T false) w): kG P φ H w s (φ.put s im) (aG H s (some (.cells cs T false))) (s+1):=by have v:∀k y,H k=some y->k≠s:=by{rintro k y b rfl;obtain⟨p,e2,_⟩:=i.blk k y b;rw[g]at e2;cases e2};have f:∀k,gH (φ.put s im) (aG H s (some (.cells cs T false))) k->gH φ H k:=by{rintro k⟨c,y,p,a,d,l,n⟩;by_cases e:c=s;{subst e;rw[bX]at a;cases a;cases d};{rw[aH _ _ e]at a;rw[Ren.iQ e]at l;exact⟨c,y,p,a,d,l,n⟩}};have t:bL φ H w (φ.put s im) (aG H s (some (.cells cs T false))) w:=⟨rfl,rfl,rfl,Z,fun _ _ _=>rfl,fun k h=>.inl (f k h)⟩;refine⟨⟨fun k y b=>?_,fun k m y A r p a d u q e1 e2=>?_,i.env.xy t⟩,BZ g,f,HT _⟩;{by_cases e:k=s;{subst e;rw[bX]at b;cases b;exact⟨im,Ren.gX _ _ _,x.mono (mv g)⟩};{rw[aH _ _ e]at b;obtain⟨p,e2,z⟩:=i.blk k y b;exact⟨p,by rw[Ren.iQ e];exact e2,z.mono (mv g)⟩}};{by_cases e:k=s;{subst e;rw[bX]at a;cases a;cases q};{rw[aH _ _ e]at a;rw[Ren.iQ e]at e1;by_cases j:m=s;{subst j;rw[Ren.gX]at e2;cases e2;exact fun e3=>o ⟨k,y,r,a,q,e1,e3⟩};{rw[aH _ _ j]at d;rw[Ren.iQ j]at e2;exact i.inj k m y A r p a d u q e1 e2}}}
def F8{z:Nat}{xs:bj}(C:WR P φ H w)(l:φ s=none)(j:∀k,gH φ H k->k<B)(D:aW P T=some z)(E:1<=z)(F:z<256)(x:n≠0)(h:w.ownsRow B T z v n xs)(c:VL φ cs xs)(f:cs.all oneV=true): ∃im,kG P φ H w s (φ.put s im) (aG H s (some (.cells cs T false))) (s+1)/\VR (φ.put s im) (sl s 0 n n) v:=by obtain⟨o,⟨_,d⟩|⟨g,p,q,rfl,K,m,a,u,t,A⟩⟩:=h;{exact absurd d x};{refine⟨⟨g,0,p*z,z⟩,C.aaT l (fun y=>by have:=j g y;omega) ?_,?_⟩;{refine⟨q,T,(0,0),m,by simp[t],?_,fun i v b=>?_,by simp[D],fun h=>(by cases h),fun _ _=>rfl,fun h=>(by cases h)⟩;{rw[c.len,o];exact adg _ a};{obtain⟨G,e,r⟩:=c.get b;refine⟨G,?_,r,eu.1 f v (w0 b)⟩;rw[<-A]at e;rw[R1]at e;split at e;{simpa using e};{cases e}}};{exact .slice (im:=⟨g,0,p*z,z⟩) (Ren.gX _ _ _) a J u}}
def RZ{l:List Int}{nv:bn}(h:sX l H s=some q)(g:WR prog φ H w)(j:dz φ s q.s)(i:∀k,gH φ H k->k<B)(m:w.ownsRow B 3 1 nv l.length (gm l))(p:l=[]->nv=.slice none 0 0): ∃c,kG prog φ H w s c q.H q.s/\VR c q.val nv:=by unfold sX at h;split at h;{rename_i d;simp[AX.ret]at h;subst h;rw[p d];exact⟨φ,kG.refl g s,.sliceNil⟩};{rename_i d;simp[AX.bind,AX.new,AX.ret]at h;subst h;have o:∀v∈gm l,eJ v=true:=fun v f=>by{obtain⟨n,_,rfl⟩:=nm.1 f;rfl};obtain⟨r,a,b⟩:=F8 (T:=3) (z:=1) g (j s Z (X3 _)) i U I I (fun e=>d (HV.1 e)) m (VL.simple (eu.2 o)) (eu.2 fun v f=>by obtain⟨n,_,rfl⟩:=nm.1 f;rfl);exact⟨_,a,b⟩}
def Bo:∀(xs:List aT)(nvs:bj)(s:Nat)(H:AH)(φ:Ren)(q:bE (bj)),pT xs H s=some q->WR prog φ H w->dz φ s q.s->(∀k,gH φ H k->k<B)->nvs.length=xs.length->
 (∀j(h:j<xs.length),∃nv,nvs[j]? =some nv/\w.ownsRow B 3 1 nv xs[j].nums.length (gm xs[j].nums))->(∀j(h:j<xs.length),xs[j].nums=[]->nvs[j]? =some (.slice none 0 0))->
 ∃d,kG prog φ H w s d q.H q.s/\VL d q.val nvs/\q.val.all oneV=true
 |[],nvs,s,H,φ,q,h,hw,hf,hB,hl,ho,hz=>by
  simp[pT,AX.ret]at h;subst h;obtain rfl:nvs=[]:=HV.1 hl;exact⟨φ,kG.refl hw s,VL.nil,rfl⟩
 |x::r,[],s,H,φ,q,h,hw,hf,hB,hl,ho,hz=>by simp at hl
 |x::r,nv::nvs,s,H,φ,q,h,hw,hf,hB,hl,ho,hz=>by
  simp only[pT]at h;obtain⟨p,o,a,m,rfl⟩:=AX.bind_some h;obtain⟨D,L,i,l,rfl⟩:=AX.bind_some m;simp[AX.ret]at l;subst l;have t:=((Il).loc _ _ _ a).up;have u:=((yX r).loc _ _ _ i).up;dsimp only at hf t u;obtain⟨v,e1,C⟩:=ho 0 J;simp at e1;subst e1;obtain⟨c,O,E⟩:=RZ a hw (fun b n K=>hf b n V) hB C (fun e=>by have:=hz 0 J e;simpa using this);obtain⟨g,z,F,G⟩:=Bo r nvs p.s p.H c D i O.wr (O.free hf) (fun k A=>hB k (O.sub k A)) (by simpa using hl) (fun j f=>by
   have:=ho (j+1) (by simpa using f);simpa using this) (fun j f y=>by
   have:=hz (j+1) (by simpa using f) (by simpa using y);simpa using this)
  refine⟨g,O.trans z,VL.cons (E.mono z.nx.ext) F,?_⟩;simp only[aes,ev];refine⟨?_,G⟩;unfold sX at a;split at a
  ·simp[AX.ret]at a;subst a;rfl
  ·simp[AX.bind,AX.new,AX.ret]at a;subst a;rfl
def EY:∀(xs:List aT)(a b:bj),a.length=xs.length->VL φ a b->VL φ (jW xs a) (jW xs b)
 |[],a,b,_,_=>by simp[jW];exact VL.nil
 |x::r,[],b,h,_=>by simp at h
 |x::r,u::a,[],h,k=>by have:=k.len;simp at this
 |x::r,u::a,v::b,h,k=>by
  have c:VR φ u v:=k.at_ 0 u v rfl rfl;have d:VL φ a b:=⟨by have:=k.len;simpa using this,fun i y f e1 e2=>k.at_ (i+1) y f (by simpa using e1) (by simpa using e2)⟩;have:=EY r a b (by simpa using h) d;have e:∀(y:bn)(l:bj),jW (x::r) (y::l)=fW x y++jW r l:=fun y l=>by simp[jW]
  rw[e,e];exact(VL.cons (VR.simple rfl) (VL.cons c (VL.cons (VR.simple rfl) (VL.cons (VR.simple rfl) VL.nil)))).append this
def EZ:∀(xs:List aT)(a:bj),a.all oneV=true->(jW xs a).all oneV=true
 |[],a,_=>by simp[jW]
 |x::r,[],_=>by simp[jW]
 |x::r,u::a,h=>by
  simp only[aes,ev]at h;have:=EZ r a h.2;have e:jW (x::r) (u::a)=fW x u++jW r a:=by simp[jW]
  rw[e,aey,this];simp only[fW,aes,af3,aet,h.1];rfl
def NT{f:bj}(h:qL xs H s=some q)(u:WR prog φ H w)(g:dz φ s q.s)(m:∀k,gH φ H k->k<B)(d:jd w B v xs f):∃j,kG prog φ H w s j q.H q.s/\VR j q.val v:=by unfold qL at h;obtain⟨p,o,l,i,rfl⟩:=AX.bind_some h;have r:=((yX _).loc _ _ _ l).up;dsimp only at g;split at i;{rename_i n;simp[AX.ret]at i;subst i;dsimp only at g;obtain⟨c,O,t,x⟩:=Bo xs f s H φ p l u g m d.len d.nums d.nilN;rw[d.nilV n];exact⟨c,O,.sliceNil⟩};{rename_i n;simp[AX.bind,AX.new,AX.ret]at i;subst i;dsimp only at g;obtain⟨c,O,t,x⟩:=Bo xs f s H φ p l u (fun b y C=>g b y V) m d.len d.nums d.nilN;obtain⟨D,a,b⟩:=F8 (T:=31) (z:=4) (s:=p.s) O.wr (O.free g p.s Z (X3 _)) (fun k A=>m k (O.sub k A)) U I I (fun e=>n (HV.1 e)) d.row (EY xs _ _ (t.len.trans d.len) t) (EZ xs _ x);exact⟨_,O.trans a,b⟩}
def QM(args:ahG):(∃(t:bm),args=#[.string t]/\me args=if t.size<=100000 then AX.bind (qL (cY t.data.toList).1) fun v=>AX.ret (.tuple #[v,iv ((cY t.data.toList).2.1:Int),.bool (cY t.data.toList).2.2])else AX.fail)\/me args=AX.fail:=by obtain⟨l⟩:=args;unfold me;split;{rename_i t a;have p:l=_:=a;subst p;exact .inl ⟨t,rfl,rfl⟩};{exact .inr rfl}
def QH(args:ahG)(H:AH)(s:Nat)(q:bE bn)(h:me args H s=some q)(φ:Ren)(w:bt)(d:ahG)(i:WR prog φ H w)(n:VA φ args d)(z:dz φ s q.s):Calls prog 18 d w (dH prog φ H w s q):=by rcases QM args with⟨t,rfl,g⟩|g;{rw[g]at h;split at h;{rename_i G;obtain⟨p,o,C,l,rfl⟩:=AX.bind_some h;simp[AX.ret]at l;subst l;dsimp only at z;obtain⟨K⟩:=d;obtain rfl:K=[.string t]:=by{have A:=n.len;simp at A;obtain⟨a,rfl⟩:=ahj.1 A.symm;have:=n.at_ 0 _ a rfl rfl;cases this;rfl};refine(T8 t w G ⟨i.env.ok.most⟩).mono ?_;rintro e M⟨E,v,y,rfl,u⟩;obtain⟨B,f⟩:=i.below E;have D:∀k,gH φ H k->k<w.heap.size:=by{rintro k⟨b,x,L,e1,_,e3,rfl⟩;obtain⟨c,e4,r⟩:=i.blk b x e1;rw[e3]at e4;cases e4;exact r.lt};obtain⟨j,m,r⟩:=NT C B z D u;refine⟨j,_,rfl,m.nx,VR.mkTuple (VL.cons r (VL.cons (VR.simple rfl) (VL.one (VR.simple rfl)))).array,m.wr,f.os,f.tape,f.output,f.size,f.block,fun k F=>f.sub k (m.sub k F)⟩};{cases h}};{rw[g]at h;cases h}
def E2(f:cd):Option (ahG->AX bn):=if f=18 then some me else E1 f
end
end
end Go.Proofs.YtlkceignfhnpoaaGreatDoor
