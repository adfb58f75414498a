/-
  Part of a proof, written small.
-/
import Derived.Test.YtlkceignfhnpoaaGreatDoorS1SASLSOSY23
import Derived.LoopN
import Derived.Scope
import Derived.Laws.Sem
set_option linter.all false
set_option maxRecDepth 100000
open Go.Proofs.Tryz
namespace Go.Proofs.YtlkceignfhnpoaaGreatDoor
open Go
variable{i s:Nat}{E:Nat->Bool}{ops:Array Oper}{tm z:ahG}{a:Array Bool}{φ:Ren}{H:AH}{w:bt}
def cO(E:Nat->Bool):Nat->Nat
 |0=>0
 |m+1=>cO E m+if E m then 0 else 1
def Ku:∀m,m<=i->cO (fh E i) m=cO E m
 |0,_=>rfl
 |m+1,h=>by
  unfold cO;rw[Ku m V];have:fh E i m=E m:=by simp[fh,show¬m=i from by omega]
  rw[this]
def Kv(a:E i=false):∀m,i<m->cO (fh E i) m+1=cO E m
 |0,h=>V
 |m+1,h=>by
  unfold cO;by_cases b:m=i
  ·subst b
   rw[Ku m Z,a];have:fh E m m=true:=by simp[fh]
   rw[this];simp
  ·have:=Kv a m V
   have e:fh E i m=E m:=by simp[fh,b]
   rw[e];omega
def Kt:∀m,cO E m=0->∀k,k<m->E k=true
 |0,_,k,hk=>V
 |m+1,h,k,hk=>by
  unfold cO at h;by_cases b:k=m
  ·subst b
   cases a:E k with
   |true=>rfl
   |false=>rw[a]at h;simp at h
  ·exact Kt m V k V
def Xa{d e:cJ}(hi:∀b,b∈d.q.W->b∈d.q.D)(q:∀b,b∈e.q.W->b∈e.q.D)(r:d.q.s<=e.c)(h:d.mu.apart e.mu=true):(∀b,d.wr b->¬e.dom b)/\∀b,e.wr b->¬d.dom b:=by unfold du.apart at h;simp only[Ob,ev]at h;rcases h with⟨f,g⟩|⟨⟨⟨f,g⟩,o⟩,p⟩;{simp only[du.calm,cJ.mu,ev,aeS,ahr]at f g;constructor;{rintro b(a|a);{rw[f.1]at a;cases a};{omega}};{rintro b(a|a);{rw[g.1]at a;cases a};{omega}}};{have m:∀b∈d.q.W,b∉e.q.D:=fun b a c=>by{have:=eu.1 f b a;simp[cJ.mu,c]at this};have n:∀b∈e.q.W,b∉d.q.D:=fun b a c=>by{have:=eu.1 g b a;simp[cJ.mu,c]at this};have k:∀b∈e.q.D,d.c<=b->d.q.s<=b:=fun b a=>by{have:=eu.1 o b a;exact fun i=>afF fun j=>by{simp[cJ.mu,i,j]at this}};have l:∀b∈d.q.D,e.c<=b->e.q.s<=b:=fun b a=>by{have:=eu.1 p b a;exact fun i=>afF fun j=>by{simp[cJ.mu,i,j]at this}};constructor;{rintro b(a|a)(c|c);{exact m b a c};{have:=l b (hi b a) c.1;omega};{have:=k b c a.1;omega};{omega}};{rintro b(a|a)(c|c);{exact n b a c};{have:=k b (q b a) c.1;omega};{have:=l b c a.1;omega};{omega}}}
section
variable{P:c7}{call:FuncId -> ahG -> AX bn}{φ:Ren}{H:AH}{w:bt}
def acT(h:i∈Region.ready .any ops a):∃o,ops.toList[i]? =some o/\a.getD i true=false/\∀e∈o.after.toList,Region.binds .any e=true->a.getD e.on false=true:=by unfold Region.ready at h;simp only[nt,adb,ev,ahc]at h;obtain⟨c,d,b⟩:=h;have p:ops[i]? =some ops[i]:=qN c;refine⟨ops[i],J,d,fun e g f=>?_⟩;rw[p]at b;simp only[wo,adz,afE]at b;have:=b e (by simpa using g);simpa[f]using this
def Qe{o:Oper}(c:ops.toList[i]? =some o)(d:a.getD i true=false)(f:∀e∈o.after.toList,Region.binds .any e=true->a.getD e.on false=true):i∈Region.ready .any ops a:=by unfold Region.ready;have q:i<ops.size:=by{have:=(nc.1 c).1;simpa using this};have p:ops[i]? =some o:=by{simpa using c};simp only[nt,adb,ev,ahc];refine⟨q,d,?_⟩;rw[p];simp only[wo,adz,afE];intro e g;by_cases b:Region.binds .any e=true;{simp[b,f e (by simpa using g) b]};{simp[b]}
def Yf(hcall:qB P call)(hl:∀f ags,ai (call f ags)){q:bE (ahG×List du)}{Q:Exit->Act->bt->Prop}(hreg:yo ops=true)(h:dy P call ops ops.toList tm H s=some q)(hlog:p8 (Region.before ops) q.val.2=true)(hw:WR P φ H w)(ht:VA φ tm z)(hf:dz φ s q.s)(hQ:∀φ' tmC' w',Nx φ φ' s q.s->VA φ' q.val.1 tmC'->WR P φ' q.H w'->bL φ H w φ' q.H w'->Q .normal {tmps:=tmC',defers:=[]} w'): wpAny P .any ops Q ops.size (Array.replicate ops.size false) {tmps:=z,defers:=[]} w:=by
 obtain⟨u,h6,kj,kr,kx,kg,kq⟩:=Ln ops.toList tm H s q h;have hm:=KA hl u 0 tm H s kj;obtain⟨kb,ka,k8,hq,D⟩:=Kz hl u 0 tm H s kj;simp only[ahH]at hm;have k9:u.length=ops.size:=by{have:=congrArg List.length h6;simpa using this};have h8:∀(k:Nat)o,ops.toList[k]? =some o->∃r,u[k]? =some r/\r.o=o:=by{intro k o S;rw[<-h6,z7]at S;cases B:u[k]? with|none=>{rw[B]at S;cases S}|some r=>{rw[B]at S;exact⟨r,rfl,by simpa using S⟩}};have C:∀(k:Nat)r,u[k]? =some r->ops.toList[k]? =some r.o:=by{intro k r B;rw[<-h6,z7,B];rfl};unfold yo at hreg;simp only[ev]at hreg;obtain⟨kk,ki⟩:=hreg;have kc:∀(j:Nat)o,ops.toList[j]? =some o->∀e∈o.after.toList,Region.binds .any e=true->e.on<j:=by{intro j o S e he hb;rw[eu]at kk;have:=kk (o,j) (sv.2 S);simp only[ev,eu]at this;have:=this.1.1 e he;simpa[hb]using this};have Y:∀(i j:Nat)oi oj,i<j->ops.toList[i]? =some oi->ops.toList[j]? =some oj->((Region.before ops).getD j 0).testBit i=true\/Oper.apart ops oi oj=true:=by{intro i j oi oj n hi R;rw[eu]at ki;have:=ki (oj,j) (sv.2 R);rw[eu]at this;have:=this (oi,i) (sv.2 hi);simpa[n]using this};have hz:∀(i j:Nat)ri rj,i<j->u[i]? =some ri->u[j]? =some rj->((Region.before ops).getD j 0).testBit i=true\/((∀b,ri.wr b->¬rj.dom b)/\∀b,rj.wr b->¬ri.dom b):=by{intro i j ri rj n hi R;unfold p8 at hlog;rw[kq,eu]at hlog;have F:(rj.mu,j)∈(u.map cJ.mu).zipIdx:=sv.2 (by rw[z7,R];rfl);have h2:(ri.mu,i)∈(u.map cJ.mu).zipIdx:=sv.2 (by rw[z7,hi];rfl);have:=hlog _ F;rw[eu]at this;have:=this _ h2;simp only[Ob,ahc,R3,n,afy,false_or]at this;rcases this with h3|h3;{exact .inl h3};{right;have li:=(te hl ops ri.o ri.tm ri.H ri.c ri.q (hm i ri hi).1);have lj:=(te hl ops rj.o rj.tm rj.H rj.c rj.q (hm j rj R).1);exact Xa li.sub lj.sub (D i j ri rj hi R n) h3}}
 suffices claim:∀(d:Nat)(p:Array Bool)(c:Ren)(y:ahG)(w1:bt),p.size=ops.size->cO (fun k=>p.getD k false) ops.size<=d->
  (∀j o,ops.toList[j]? =some o->p.getD j false=true->∀e∈o.after.toList,Region.binds .any e=true->p.getD e.on false=true)->
  WR P c (gL (fun k=>p.getD k false) u 0 H) w1->VA c (fX (fun k=>p.getD k false) u 0 tm) y->jw φ c->
  (∀b im,c b=some im->φ b=some im\/∃(k:Nat)(r:cJ),u[k]? =some r/\p.getD k false=true/\r.c<=b/\b<r.q.s)->bL φ H w c (gL (fun k=>p.getD k false) u 0 H) w1->
  wpAny P .any ops Q d p {tmps:=y,defers:=[]} w1 by
  have hg:∀k,(Array.replicate ops.size false).getD k false=false:=by
   intro k;rw[qe,afZ];split<;>rfl
  have e1:gL (fun k=>(Array.replicate ops.size false).getD k false) u 0 H=H:=by
   funext b;exact xQ _ _ _ (fun k r B he=>by simp only[hg]at he;cases he)
  have e2:fX (fun k=>(Array.replicate ops.size false).getD k false) u 0 tm=tm:=by
   apply aeL;intro t;exact xN _ _ _ (fun k r B he=>by simp only[hg]at he;cases he)
  have kp:∀m,cO (fun k=>(Array.replicate ops.size false).getD k false) m=m:=by
   intro m;induction m with|zero=>rfl|succ m ih=>{unfold cO;rw[ih,hg];rfl}
  refine claim ops.size _ φ z w J (by rw[kp];exact Z) (fun j o S R=>by rw[hg]at R;cases R) (by rw[e1];exact hw) (by rw[e2];exact ht) (jw.refl _) (fun b im hb=>.inl hb) (by rw[e1];exact bL.refl _ _ _)
 have hp:∀(p:Array Bool)(c:Ren)(y:ahG)(w1:bt),(∀k,k<ops.size->p.getD k false=true)->WR P c (gL (fun k=>p.getD k false) u 0 H) w1->VA c (fX (fun k=>p.getD k false) u 0 tm) y->jw φ c->
  (∀b im,c b=some im->φ b=some im\/∃(k:Nat)(r:cJ),u[k]? =some r/\p.getD k false=true/\r.c<=b/\b<r.q.s)->bL φ H w c (gL (fun k=>p.getD k false) u 0 H) w1->Q .normal {tmps:=y,defers:=[]} w1:=by
  intro p c y w1 K k1 k2 k3 k4 k5;have kf:∀(k:Nat)r,u[k]? =some r->p.getD (0+k) false=true:=fun k r B=>by
   rw[ahH];exact K k (by have:=(nc.1 B).1;omega)
  have e1:gL (fun k=>p.getD k false) u 0 H=q.H:=by
   rw[kx,<-kb];funext b;exact xP _ _ _ _ (fun k r B _=>kf k r B) rfl
  have e2:fX (fun k=>p.getD k false) u 0 tm=q.val.1:=by
   rw[kr,<-ka];apply aeL;intro t;exact xM _ _ _ _ (fun k r B _=>kf k r B) rfl
  rw[e1]at k1 k5;rw[e2]at k2;refine hQ c y w1 ⟨k3,fun b im hb=>?_⟩ k2 k1 k5;rcases k4 b im hb with F|⟨k,r,B,_,h2,h3⟩
  ·exact .inl F
  ·obtain⟨a1,a2,a3⟩:=hq k r B
   rw[kg];exact .inr ⟨V,V⟩
 intro d;induction d with
 |zero=>
  intro p c y w1 ke kl ha k1 k2 k3 k4 k5;have K:=Kt ops.size (by omega:cO (fun k=>p.getD k false) ops.size=0);refine⟨?_,hp p c y w1 K k1 k2 k3 k4 k5⟩;cases B:Region.ready .any ops p with|nil=>rfl|cons i l=>{obtain⟨o,S,hi,_⟩:=acT (B▸tl .. :i∈Region.ready .any ops p);have hc:i<ops.size:=by{have:=(nc.1 S).1;simpa using this};have:=K i hc;simp only[qe]at this hi;cases hx:p[i]? with|none=>{rw[hx]at this;cases this}|some x=>{rw[hx]at this hi;simp at this hi;rw[this]at hi;cases hi}}
 |succ d ih=>
  intro p c y w1 ke kl ha k1 k2 k3 k4 k5;have hh:∀k,k<ops.size->p.getD k true=p.getD k false:=by{intro k O;have:p[k]? =some p[k]:=qN V;simp only[qe,this];rfl};refine⟨fun B=>?_,fun i hi=>?_⟩
  ·
   refine hp p c y w1 (fun k=>?_) k1 k2 k3 k4 k5;induction k using Nat.strongRecOn with
   |_ k ihk=>
    intro O;cases hx:p.getD k false with|true=>rfl|false=>{have S:ops.toList[k]? =some ops[k]:=by{simp[O]};have:k∈Region.ready .any ops p:=Qe S (by rw[hh k O];exact hx) (fun e he hb=>by have:=kc k _ S e he hb;exact ihk e.on this V);rw[B]at this;cases this}
  {obtain⟨o,S,ky,hu⟩:=acT hi;have hc:i<ops.size:=by{have:=(nc.1 S).1;simpa using this};have L:p.getD i false=false:=by{rw[<-hh i hc];exact ky};obtain⟨r,B,ko⟩:=h8 i o S;subst ko;obtain⟨v1,v2,v3⟩:=hm i r B;have A:=ZP (ops:=ops) (E:=fun k=>p.getD k false) (fun j o S R e he hb=>ha j o S R e he hb);have ahead:∀j,((Region.before ops).getD i 0).testBit j=true->p.getD j false=true:=by{intro j hb;rw[Aj]at hb;have:=Dy ops.toList #[] i r.o S j (by simpa using hb);obtain⟨e,F,h2,h3⟩:=this;have he:=hu e F h2;rcases h3 with h3|⟨h3,h4⟩;{rw[h3];exact he};{simp only[ahE,RT,ahH]at h3;have kt:e.on<ops.toList.length:=by{have:=(nc.1 S).1;omega};exact A e.on ops.toList[e.on] (ei kt) he j (by rw[Aj];exact h4)}};have T:∀(j:Nat)oj,ops.toList[j]? =some oj->p.getD j false=true->((Region.before ops).getD j 0).testBit i=true->False:=by{intro j oj N R hb;have:=A j oj N R i hb;rw[L]at this;cases this};have hs:∀(k:Nat)G,u[k]? =some G->∀t,G.o.dst=some t->(t∈r.o.looksAt ops\/r.o.dst=some t)->k≠i->p.getD (0+k) false=decide (k<i):=by{intro k G O t hd hv v;rw[ahH];rcases afv v with W|hgt;{rcases Y k i G.o r.o W (C k G O) S with F|F;{rw[ahead k F];simp[W]};{obtain⟨a1,a2,a3⟩:=Oper.apart_spec F;rcases hv with h2|h2;{exact absurd h2 (a1 t hd)};{exact absurd h2 (a2 t hd)}}};{cases hx:p.getD k false with|false=>{simp;omega}|true=>{rcases Y i k r.o G.o hgt S (C k G O)with F|F;{exact(T k G.o (C k G O) hx F).elim};{obtain⟨a1,a2,a3⟩:=Oper.apart_spec F;rcases hv with h2|h2;{exact absurd h2 (a3 t hd)};{exact absurd hd (a2 t h2)}}}}};have hn:∀(k:Nat)G,u[k]? =some G->∀b,G.wr b->r.dom b->k≠i->p.getD (0+k) false=decide (k<i):=by{intro k G O b a hy v;rw[ahH];rcases afv v with W|hgt;{rcases hz k i G r W O B with F|F;{rw[ahead k F];simp[W]};{exact absurd hy (F.1 b a)}};{cases hx:p.getD k false with|false=>{simp;omega}|true=>{rcases hz i k r G hgt B O with F|F;{exact(T k G.o (C k G O) hx F).elim};{exact absurd hy (F.2 b a)}}}};have h0:tQ ops r.o (fX (fun k=>p.getD k false) u 0 tm) r.tm:=by{intro t ks;rw[<-v3];refine xM _ _ _ _ (fun k G O hd=>?_) rfl;by_cases v:k=i;{subst v;rw[ahH,L];simp};{rw[hs k G O t hd (.inl ks) v,ahH]}};have kd:∀b,r.dom b->gL (fun k=>p.getD k false) u 0 H b=r.H b:=by{intro b hy;rw[<-v2];refine xP _ _ _ _ (fun k G O a=>?_) rfl;by_cases v:k=i;{subst v;rw[ahH,L];simp};{rw[hn k G O b a hy v,ahH]}};have h7:=te hl ops r.o r.tm r.H r.c r.q v1;obtain⟨o2,e1,e2,e3,e4,e5,e6,e7⟩:=h7.sees (gL (fun k=>p.getD k false) u 0 H) kd;rw[<-aaY h0]at e1;have km:∀b,r.wr b->r.dom b:=fun b hb=>hb.elim (fun h=>.inl (h7.sub b h)) (fun h=>.inr h);have g:(fun k=>(p.setIfInBounds i true).getD k false)=fh (fun k=>p.getD k false) i:=by{funext k;simp only[fh,qe,aez];by_cases h5:i=k;{subst h5;simp[show i<p.size from by omega]};{simp[h5,show¬k=i from fun e=>h5 e.symm]}};have kh:gL (fh (fun k=>p.getD k false) i) u 0 H=o2.H:=by{funext b;by_cases a:r.wr b;{rw[e6 b a];have:=E8 (E:=fun k=>p.getD k false) (b:=b) u 0 H i r B a (fun j rj R n M kw=>by have:=hn j rj R b kw (km b a) V;rw[this]at M;simp at M;omega);rwa [ahH]at this};{rw[e7 b a];refine xP _ _ _ _ (fun k G O ku=>?_) rfl;rw[ahH];have:¬k=i:=by{rintro rfl;rw[B]at O;cases O;exact a ku};simp[fh,this]}};have kv:fX (fh (fun k=>p.getD k false) i) u 0 tm=cq (fX (fun k=>p.getD k false) u 0 tm) r.o.dst o2.val:=by{apply aeL;intro t;rw[qY];by_cases hd:r.o.dst=some t;{rw[eh hd,e2];have:=E4 (E:=fun k=>p.getD k false) (t:=t) u 0 tm i r B hd (fun j rj R n M k6=>by have:=hs j rj R t k6 (.inr hd) V;rw[this]at M;simp at M;omega);rw[ahH]at this;rw[this];have pa:=E3 (E:=fun k=>p.getD k false) u 0 tm;by_cases kn:t<tm.size;{rw[qN kn,qN (by omega:t<(fX (fun k=>p.getD k false) u 0 tm).size)];rfl};{rw[ae0 V,ae0 (by omega:(fX (fun k=>p.getD k false) u 0 tm).size<=t)]}};{rw[ed hd];refine xM _ _ _ _ (fun k G O k0=>?_) rfl;rw[ahH];have:¬k=i:=by{rintro rfl;rw[B]at O;cases O;exact hd k0};simp[fh,this]}};have h9:dz c r.c o2.s:=by{intro b pb kz;rw[e3]at kz;cases hφ:c b with|none=>rfl|some im=>{obtain⟨a1,a2,a3⟩:=hq i r B;rcases k4 b im hφ with F|⟨k,G,O,hkE,h2,h3⟩;{rw[hf b V (by rw[kg];omega)]at F;cases F};{have v:k≠i:=by{rintro rfl;rw[L]at hkE;cases hkE};rcases afv v with W|hgt;{have:=D k i G r O B W;omega};{have:=D i k r G B O hgt;omega}}}};have k7:ops[i]? =some r.o:=by{simpa using S};unfold wpOp;rw[k7];dsimp only;refine Ew hcall e1 k1 k2 h9 (fun φ' v' w' m1 m2 m3 m4=>?_);refine ih (p.setIfInBounds i true) φ' _ w' (by simpa using ke) ?_ ?_ ?_ ?_ (k3.trans m1.ext) ?_ ?_;{rw[g];have:=Kv (E:=fun k=>p.getD k false) L ops.size hc;omega};{intro j oj N R e he hb;have X:=congrFun g;rw[X e.on];rw[X j]at R;unfold fh at R⊢;simp only[Ob,ahr]at R⊢;rcases R with R|R;{exact .inl (ha j oj N R e he hb)};{subst R;rw[S]at N;cases N;exact .inl (hu e he hb)}};{rw[g,kh];exact m3};{rw[g,kv];exact(k2.mono m1.ext).put r.o.dst m2};{intro b im hb;have X:=congrFun g;rcases m1.dom b im hb with F|F;{rcases k4 b im F with h2|⟨k,G,O,hkE,h3,h4⟩;{exact .inl h2};{refine .inr ⟨k,G,O,?_,h3,h4⟩;rw[X k];simp[fh,hkE]}};{refine .inr ⟨i,r,B,?_,F.1,by rw[<-e3];exact F.2⟩;rw[X i];simp[fh]}};{rw[g,kh];exact k5.trans m4}}
end
def J6:gi->Exit
 |.normal=>.normal
 |.exit id=>.exit id
 |.ret=>.ret
section
variable{P:c7}{call:FuncId -> ahG -> AX bn}
def ny(N:P.follows .mixedOrders=true)(l:qB P call)(M:∀f T,ai (call f T)):∀(c:Code)(tm z:ahG)(H:AH)(s:Nat)(q:bE (gi×ahG))(φ:Ren)(w:bt)(Q:Exit->Act->bt->Prop),iJ c=true->bh P call c tm H s=some q->WR P φ H w->VA φ tm z->dz φ s q.s->
 (∀i e C,Nx φ i s q.s->VA i q.val.2 e->WR P i q.H C->bL φ H w i q.H C->Q (J6 q.val.1) {tmps:=e,defers:=[]} C)->c.wp P Q {tmps:=z,defers:=[]} w
 |.skip,tm,z,H,s,q,φ,w,Q,hk,h,B,A,D,m=>by
  unfold bh at h;have:=bz h;subst this;exact wp_skip (m φ z w (Nx.refl _ _) A B (bL.refl _ _ _))
 |.label _,tm,z,H,s,q,φ,w,Q,hk,h,B,A,D,m=>by
  unfold bh at h;have:=bz h;subst this;exact wp_label (m φ z w (Nx.refl _ _) A B (bL.refl _ _ _))
 |.exit id,tm,z,H,s,q,φ,w,Q,hk,h,B,A,D,m=>by
  unfold bh at h;have:=bz h;subst this;exact wp_exit (m φ z w (Nx.refl _ _) A B (bL.refl _ _ _))
 |.ret,tm,z,H,s,q,φ,w,Q,hk,h,B,A,D,m=>by
  unfold bh at h;have:=bz h;subst this;exact wp_ret (m φ z w (Nx.refl _ _) A B (bL.refl _ _ _))
 |.region id ops draw,tm,z,H,s,q,φ,w,Q,hk,h,B,A,D,m=>by
  unfold bh at h;obtain⟨o,O,e1,e2,rfl⟩:=AX.bind_some h;have:=bz e2;subst this;unfold mG at e1;cases draw with
  |false=>
   simp only[X1,RP]at e1;obtain⟨o3,o4,e3,e4,rfl⟩:=AX.bind_some e1;have:=bz e4;subst this;refine wp_region ?_;have hr:List.range ops.size=List.range' 0 ops.toList.length:=by rw[List.range_eq_range'];simp
   rw[hr];exact G7 l M ops.toList 0 tm z H s o3 φ w rfl e3 B A D (fun i e C E G K L=>m i e C E G K L)
  |true=>
   simp only[rq]at e1;have d:yo ops=true:=by simpa[iJ]using hk
   obtain⟨o3,o4,e3,e4,rfl⟩:=AX.bind_some e1;split at e4
   ·rename_i y
    have:=bz e4;subst this;refine wp_region_any N ?_;exact Yf l M d e3 y B.drew A D (fun i e C E G K L=>m i e C E G K ((bL.drew φ H w).trans L))
   ·cases e4
 |.seq a b,tm,z,H,s,q,φ,w,Q,hk,h,B,A,D,m=>by
  simp only[iJ,ev]at hk;unfold bh at h;obtain⟨o,O,e1,e2,rfl⟩:=AX.bind_some h;have r:s<=o.s:=(mh M a tm H s o e1).up;cases F:o.val.1 with
  |normal=>
   rw[F]at e2;dsimp only at e2;have p:o.s<=O.s:=(mh M b o.val.2 o.H o.s O e2).up;refine wp_seq (ny N l M a tm z H s o φ w _ hk.1 e1 B A (D.sub Z p) (fun i e C E G K L=>?_));rw[F];refine ny N l M b o.val.2 e o.H o.s O i C Q hk.2 e2 K G (E.free D r) (fun S x w2 Y m2 m3 m4=>?_);exact m S x w2 (E.trans Y r p) m2 m3 (L.trans m4)
  |exit id=>
   rw[F]at e2;have:=bz e2;subst this;refine wp_seq (ny N l M a tm z H s o φ w _ hk.1 e1 B A D (fun i e C E G K L=>?_));rw[F];exact m i e C E G K L
  |ret=>
   rw[F]at e2;have:=bz e2;subst this;refine wp_seq (ny N l M a tm z H s o φ w _ hk.1 e1 B A D (fun i e C E G K L=>?_));rw[F];exact m i e C E G K L
 |.cond c a b,tm,z,H,s,q,φ,w,Q,hk,h,B,A,D,m=>by
  simp only[iJ,ev]at hk;unfold bh at h;by_cases W:Operand.rB c=true
  ·rw[eh W]at h;cases h
  rw[ed W]at h;obtain⟨vc,u⟩:∃v,bo tm c=v:=⟨_,rfl⟩;rw[u]at h;cases vc
  case bool t=>
   dsimp only at h;have hc:Act.eval {tmps:=z,defers:=[]} c=.bool t:=by
    cases c with
    |tmp k=>
     have h1:=A.getD k;have h2:tm.getD k undef=.bool t:=u;rw[h2]at h1;exact h1.gv rfl
    |const v=>exact u
    |global g=>exact absurd rfl W
    |func f=>cases u
   cases t with
   |true=>exact wp_cond_true hc (ny N l M a tm z H s q φ w Q hk.1 (by simpa using h) B A D m)
   |false=>exact wp_cond_false hc (ny N l M b tm z H s q φ w Q hk.2 (by simpa using h) B A D m)
  all_goals cases h
 |.block id c,tm,z,H,s,q,φ,w,Q,hk,h,B,A,D,m=>by
  unfold bh at h;obtain⟨o,O,e1,e2,rfl⟩:=AX.bind_some h;have p:o.s<=O.s:=by
   cases F:o.val.1 with
   |normal=>rw[F]at e2;rw[bz e2];exact Z
   |exit j=>
    rw[F]at e2;dsimp only at e2;split at e2<;>(rw[bz e2];exact Z)
   |ret=>rw[F]at e2;rw[bz e2];exact Z
  refine wp_block (ny N l M c tm z H s o φ w _ (by simpa[iJ]using hk) e1 B A (D.sub Z p) (fun i e C E G K L=>?_));cases F:o.val.1 with
  |normal=>
   rw[F]at e2;have:=bz e2;subst this;exact m i e C E G K L
  |exit j=>
   rw[F]at e2;dsimp only at e2;show Exit.inBlock id Q (.exit j) _ _;unfold Exit.inBlock;dsimp only;split at e2
   ·rename_i X
    have:=bz e2;subst this;rw[eh X];exact m i e C E G K L
   ·rename_i X
    have:=bz e2;subst this;rw[ed X];exact m i e C E G K L
  |ret=>
   rw[F]at e2;have:=bz e2;subst this;exact m i e C E G K L
 |.loop c,tm,z,H,s,q,φ,w,Q,hk,h,B,A,D,m=>by
  unfold bh at h;have R:∀n(tm z:ahG)(H:AH)(s:Nat)(q:bE (gi×ahG))(φ:Ren)(w:bt),jb (bh P call c) n tm H s=some q->WR P φ H w->VA φ tm z->dz φ s q.s->
   (∀i e C,Nx φ i s q.s->VA i q.val.2 e->WR P i q.H C->bL φ H w i q.H C->Q (J6 q.val.1) {tmps:=e,defers:=[]} C)->Code.rounds P c Q n {tmps:=z,defers:=[]} w:=by
   intro n;induction n with
   |zero=>intro tm z H s q φ w h;cases h
   |succ n ih=>
    intro tm z H s q φ w h B A D m;unfold jb at h;obtain⟨o,O,e1,e2,rfl⟩:=AX.bind_some h;have r:s<=o.s:=(mh M c tm H s o e1).up;rw[rounds_succ];cases F:o.val.1 with
    |normal=>
     rw[F]at e2;dsimp only at e2;have p:o.s<=O.s:=(Co (fun tm=>mh M c tm) n o.val.2 o.H o.s O e2).up;refine ny N l M c tm z H s o φ w _ (by simpa[iJ]using hk) e1 B A (D.sub Z p) (fun i e C E G K L=>?_);rw[F];refine ih o.val.2 e o.H o.s O i C e2 K G (E.free D r) (fun S x w2 Y m2 m3 m4=>?_);exact m S x w2 (E.trans Y r p) m2 m3 (L.trans m4)
    |exit id=>
     rw[F]at e2;have:=bz e2;subst this;refine ny N l M c tm z H s o φ w _ (by simpa[iJ]using hk) e1 B A D (fun i e C E G K L=>?_);rw[F];exact m i e C E G K L
    |ret=>
     rw[F]at e2;have:=bz e2;subst this;refine ny N l M c tm z H s o φ w _ (by simpa[iJ]using hk) e1 B A D (fun i e C E G K L=>?_);rw[F];exact m i e C E G K L
  exact wp_loop_rounds LF (R LF tm z H s q φ w h B A D m)
 |.scope c,tm,z,H,s,q,φ,w,Q,hk,h,B,A,D,m=>by
  unfold bh at h;refine wp_scope_straight (ny N l M c tm z H s q φ w _ (by simpa[iJ]using hk) h B A D (fun i e C E G K L=>?_));have:=m i e C E G K L;cases F:q.val.1<;>(rw[F]at this;exact this)
 |.rangeFunc ..,tm,z,H,s,q,φ,w,Q,hk,h,B,A,D,m=>by unfold bh at h;cases h
 |.goto _,tm,z,H,s,q,φ,w,Q,hk,h,B,A,D,m=>by unfold bh at h;cases h
 |.refuse _,tm,z,H,s,q,φ,w,Q,hk,h,B,A,D,m=>by unfold bh at h;cases h
def Bq(tm:ahG):ResultVar->Sem bn
 |.tmp t=>pure (tm.getD t undef)
 |.cell a t=>do loadVar t (<-asAddr (tm.getD a undef))
def Br(e:WR P φ H w)(d:VA φ tm z):∀(l:List ResultVar)(s:Nat)(q:bE (bj)),eQ P tm l H s=some q->
 ∃c,(l.mapM (Bq z)).run P w=.ok c w/\VL φ q.val c/\q.H=H/\q.s=s
 |[],s,q,h=>by
  have:=bz h;subst this;exact⟨[],rfl,VL.nil,rfl,rfl⟩
 |.tmp t::r,s,q,h=>by
  unfold eQ at h;obtain⟨m,o,e1,e2,rfl⟩:=AX.bind_some h;obtain⟨c,f,g,i,j⟩:=Br e d r s m e1;have:=bz e2;subst this;refine⟨z.getD t undef::c,?_,VL.cons (d.getD t) g,i,j⟩;rw[List.mapM_cons,aQ (a:=z.getD t undef) (w':=w) rfl,aQ f];rfl
 |.cell a t::r,s,q,h=>by
  unfold eQ at h;obtain⟨m,o,e1,e2,rfl⟩:=AX.bind_some h;obtain⟨x,C,e3,e4,rfl⟩:=AX.bind_some e2;obtain⟨u,b,y,A,B⟩:=IB e1 e (d.getD a);rw[A,B]at e3;obtain⟨c,f,g,i,j⟩:=Br e d r s x e3;have:=bz e4;subst this;refine⟨u::c,?_,VL.cons y g,i,j⟩;have n:(do loadVar t (<-asAddr (z.getD a undef)):Sem bn).run P w=.ok u w:=by
   unfold Instr.loadAt at b;cases k:z.getD a undef
   case pointer p=>
    rw[k]at b;cases p with
    |none=>simp[Instr.sureAddr,Sem.run_bind,stuck,Sem.run,Result.andThen]at b
    |some ad=>exact b
   all_goals (rw[k]at b;simp[Instr.sureAddr,Sem.run_bind,stuck,Sem.run,Result.andThen]at b)
  rw[List.mapM_cons];have v:(Bq z (.cell a t)).run P w=.ok u w:=n;rw[aQ v,aQ f];rfl
def PK{fn:Func}(i:WR P φ H w)(g:VA φ tm z){q:bE (bj)}(h:eQ P tm fn.results.toList H s=some q): ∃v,(results fn z).run P w=.ok v w/\VR φ (oI q.val) v/\q.H=H/\q.s=s:=by obtain⟨b,j,d,k,l⟩:=Br i g fn.results.toList s q h;refine⟨oI b,?_,?_,k,l⟩;{have e:results fn z=(fn.results.mapM (Bq z) >>= fun b=>pure (if h:b.size=1 then b[0]else .tuple b)):=by{unfold results;congr 1};rw[e,Array.mapM_eq_mapM_toList];rw[aQ (a:=b.toArray) (w':=w) (by rw[map_eq_pure_bind,aQ j];rfl)];cases b with|nil=>rfl|cons v r=>{cases r with|nil=>rfl|cons u r=>{simp[oI,run_pure]}}};{have c:=d.len;cases f:q.val with|nil=>{rw[f]at d c;have:b=[]:=TB (by simpa using c.symm);subst this;exact VR.undef}|cons v r=>{rw[f]at d c;cases b with|nil=>simp at c|cons v' r'=>{cases r with|nil=>{have:r'=[]:=TB (by simpa using c.symm);subst this;exact d.at_ 0 v v' rfl rfl}|cons u r=>{cases r' with|nil=>simp at c|cons u' r'=>{exact VR.mkTuple d.array}}}}}
structure xh(P:c7)(ext:FuncId->Option (ahG->AX bn)):Prop where
 loc:∀f g ags,ext f=some g->ai (g ags)
 ok:∀f g,ext f=some g->∀args H s q,g args H s=some q->∀φ w args',WR P φ H w->VA φ args args'->dz φ s q.s->Calls P f args' w (dH P φ H w s q)
def Ac(hm:P.follows .mixedOrders=true)(N:∀(f:FuncId)(fn:Func)(c:Code),P.funcs[f]? =some fn->fn.body=some c->iJ c=true){ext:FuncId->Option (ahG->AX bn)}(T:xh P ext):∀n,qB P (cE P ext n)
 |0=>by
  intro f C H s q h;cases h
 |n+1=>by
  intro f C H s q h φ w B hw S hf;unfold cE at h;cases W:ext f with
  |some g=>
   rw[W]at h;exact T.ok f g W C H s q h φ w B hw S hf
  |none=>
   rw[W]at h;dsimp only at h;cases L:P.funcs[f]? with
   |none=>rw[L]at h;cases h
   |some fn=>
    rw[L]at h;dsimp only at h;unfold rQ at h;cases O:fn.body with
    |none=>rw[O]at h;cases h
    |some c=>
     rw[O]at h;dsimp only at h;obtain⟨D,E,e1,e2,rfl⟩:=AX.bind_some h;have d:∀f y,ai (cE P ext n f y):=fun f y=>IA T.loc n f y;have A:s<=D.s:=(mh d c _ H s D e1).up;have fin:∃F,eQ P D.val.2 fn.results.toList D.H D.s=some F/\E.val=oI F.val/\E.H=F.H/\E.s=F.s/\(D.val.1=.normal\/D.val.1=.ret):=by
      cases K:D.val.1 with
      |exit id=>rw[K]at e2;cases e2
      |normal=>
       rw[K]at e2;obtain⟨F,o4,e3,e4,rfl⟩:=AX.bind_some e2;have:=bz e4;subst this;exact⟨F,e3,rfl,rfl,rfl,.inl rfl⟩
      |ret=>
       rw[K]at e2;obtain⟨F,o4,e3,e4,rfl⟩:=AX.bind_some e2;have:=bz e4;subst this;exact⟨F,e3,rfl,rfl,rfl,.inr rfl⟩
     obtain⟨F,g1,g2,g3,g4,g5⟩:=fin;have j:F.s=D.s/\F.H=D.H:=by
      have e:∀(l:List ResultVar)(tm:ahG)(H:AH)(s:Nat)(q:bE (bj)),eQ P tm l H s=some q->q.s=s/\q.H=H:=by
       intro l;induction l with
       |nil=>intro tm H s q h;have:=bz h;subst this;exact⟨rfl,rfl⟩
       |cons r l ih=>
        intro tm H s q h;cases r with
        |tmp t=>
         unfold eQ at h;obtain⟨X,p2,z,R,rfl⟩:=AX.bind_some h;have:=bz R;subst this;have i:=ih _ _ _ _ z;exact i
        |cell a t=>
         unfold eQ at h;obtain⟨X,p2,z,R,rfl⟩:=AX.bind_some h;obtain⟨p3,p4,f3,f4,rfl⟩:=AX.bind_some R;have:=bz f4;subst this;obtain⟨i1,i2⟩:=ih _ _ _ _ f3;have u:X.s=s/\X.H=H:=by
          unfold js at z;cases K:tm.getD a undef
          case pointer ad=>
           rw[K]at z;cases ad with
           |none=>cases z
           |some ad=>
            obtain⟨b,o,sp⟩:=ad;cases sp with
            |some t=>cases z
            |none=>
             dsimp only at z;cases M:bS P t with
             |none=>rw[M]at z;cases z
             |some ag=>
              rw[M]at z;cases ag with
              |true=>
               cases hn:aW P t with
               |none=>rw[hn]at z;cases z
               |some k=>
                rw[hn]at z;obtain⟨Q,Y,t1,t2,rfl⟩:=AX.bind_some z;obtain⟨_,_,_,_,_,_,h4,h5⟩:=Bz t1;have:=bz t2;subst this;exact⟨h5,h4⟩
              |false=>
               obtain⟨Q,Y,t1,t2,rfl⟩:=AX.bind_some z;obtain⟨_,h2,h3⟩:=qt t1;obtain⟨_,_,rfl⟩:=uA t2;exact⟨h3,h2⟩
          all_goals (rw[K]at z;cases z)
         exact⟨i1.trans u.1,i2.trans u.2⟩
      exact e _ _ _ _ _ g1
     have x:VA φ (C++Array.replicate (fn.ntmps-C.size) undef) (B++Array.replicate (fn.ntmps-B.size) undef):=by
      rw[<-S.len];exact S.append (VA.P3)
     refine calls_of_wp L O (ny hm (Ac hm N T n) d c _ _ H s D φ w _ (N f fn c L O) e1 hw x (hf.sub Z (by rw[g4,j.1];exact Z)) (fun G m w' k1 k2 k3 k4=>?_));obtain⟨v,Q,Y,r3,r4⟩:=PK (fn:=fn) k3 k2 g1;have p:dH P φ H w s ⟨E.val,E.H,E.s,D.D++E.D,D.W++E.W⟩ (.returned v) w':=by
      refine⟨G,v,rfl,?_,?_,?_,?_⟩
      ·show Nx φ G s E.s
       rw[g4,r4];exact k1
      ·show VR G E.val v
       rw[g2];exact Y
      ·show WR P G E.H w'
       rw[g3,r3];exact k3
      ·show bL φ H w G E.H w'
       rw[g3,r3];exact k4
     rcases g5 with K|K
     ·rw[K];exact⟨rfl,v,Q,p⟩
     ·rw[K];exact⟨rfl,v,Q,p⟩
end
section
open AX
def BG:prog.follows .mixedOrders=true:=U
def YD(P:c7):Bool:=P.funcs.toList.all fun a=>match a.body with
 |some c=>iJ c
 |none=>true
def Qu:YD prog=true:=U
def BH(f:FuncId)(fn:Func)(c:Code)(h:prog.funcs[f]? =some fn)(a:fn.body=some c):iJ c=true:=by have:=eu.1 Qu fn (by simpa using Array.mem_of_getElem? h);rw[a]at this;exact this
end
end Go.Proofs.YtlkceignfhnpoaaGreatDoor
