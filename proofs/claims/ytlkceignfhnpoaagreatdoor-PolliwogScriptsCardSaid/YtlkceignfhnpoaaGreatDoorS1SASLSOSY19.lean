/-
  Part of a proof, written small.
-/
import Derived.Test.YtlkceignfhnpoaaGreatDoorS1SASLSOSY18
set_option linter.all false
set_option maxRecDepth 10000
set_option maxHeartbeats 2000000
open Go.Proofs.Tryz
namespace Go.Proofs.YtlkceignfhnpoaaGreatDoor
open Go AX
variable{a:aj}{d:bm}{e k i m:Int}{u:UnitS}{l1 l2 cs:bj}{y:bn}{g:bP}{l:List bP}{q:List (bn×bn)}{p:bn×bn}{n:Nat}
structure bP.fits(g:bP):Prop where
 data:g.data.size<=200
 code:0<=g.code/\g.code<256
 n:0<=g.n/\g.n<=20000
def eT(l:List bP):Prop:=∀g,g∈l->g.fits
def aj.z(a:aj):Prop:=∀g,g∈a.r.sigs->g.n=0
namespace aj
def z_tell(a:aj)(g:bP):(a.tell g).z↔a.z/\g.n=0:=by unfold z tell;constructor;{intro h;exact⟨fun g e=>h g (adi _ e),h g (ac7 _ J)⟩};{rintro⟨c,d⟩x b;rcases my.1 b with b|b;{exact c x b};{simp at b;subst b;exact d}}
theorem AE(a:aj)(st:Int):(a.to st).z↔a.z:=ac6
theorem z_stop(a:aj)(st:Int):(a.stop st).z↔a.z:=ac6
theorem xn(a:aj):a.ready.z↔a.z:=ac6
theorem LD(a:aj)(st:Int)(d:bm):(a.begin_ st d).z↔a.z:=ac6
theorem z_quit(a:aj):a.quit.z↔a.z:=ac6
def tT(a:aj)(p:UnitS)(k:Int)(l:List Int):(a.back p k l).z↔a.z:=by unfold back;split<;>rfl
def z_report(a:aj)(i:Int):(a.report i).z↔a.z:=by unfold report;rw[z_tell];simp[A5]
def z_ite{c:Prop}[Decidable c]{b:aj}(d:a.z)(e:b.z):(if c then a else b).z:=by split<;>assumption
def LC{c:Prop}[Decidable c]{a b:bP}(d:a.n=0)(e:b.n=0):(if c then a else b).n=0:=by split<;>assumption
def handle_z(h:a.z)(p:UnitS):(a.handle p).z:=by unfold handle;refine z_ite (z_ite ?_ ?_) (z_ite ?_ (z_ite (z_ite ?_ ?_) (z_ite (z_ite ?_ ?_) (z_ite ?_ h))));{unfold oldBegin;rw[tT,tT];exact h};{unfold newBegin;refine z_ite ?_ (z_ite ?_ ?_);{rw[AE,z_tell];exact⟨h,rfl⟩};{rw[xn,z_tell,tT];exact⟨h,rfl⟩};{rw[z_stop,z_tell];refine⟨z_ite ?_ ?_,rfl⟩;{rw[z_tell];exact⟨h,rfl⟩};{rw[z_tell];exact⟨h,rfl⟩}}};{unfold end_;refine z_ite h (z_ite ?_ ?_);{rw[z_stop,z_tell];exact⟨h,rfl⟩};{rw[z_stop,z_tell];exact⟨h,rfl⟩}};{rw[tT];exact h};{unfold resync;refine z_ite ?_ (z_ite h ?_);{rw[xn,z_tell];exact⟨h,rfl⟩};{rw[z_stop,z_tell];exact⟨h,rfl⟩}};{rw[tT];exact h};{unfold recover;have b:((a.heard p).back p 15 [7,8]).z:=by{rw[tT];exact h};refine z_ite ?_ (z_ite ?_ b);{rw[z_stop,z_tell];exact⟨b,rfl⟩};{rw[AE,z_tell];exact⟨b,rfl⟩}};{unfold answer;refine z_ite ?_ (z_ite ?_ (z_ite ?_ (z_ite ?_ h)));{rw[xn,z_tell];exact⟨h,rfl⟩};{rw[xn,z_tell];exact⟨h,rfl⟩};{rw[z_stop,z_tell];exact⟨h,rfl⟩};{rw[z_stop,z_tell];exact⟨h,LC rfl rfl⟩}}
def ask_z(h:a.z):(a.ask k d).z:=by unfold ask;exact z_ite h (z_ite h (z_ite (z_ite h h) (z_ite h (z_ite h (z_ite (z_ite h h) h)))))
def expire_z(h:a.z):a.expire.z:=by unfold expire;refine z_ite (z_ite h ?_) h;rw[z_stop];refine z_ite ?_ ?_;{rw[z_tell,z_report];exact⟨h,rfl⟩};{rw[z_tell,z_quit,z_report];exact⟨h,rfl⟩}
def silent_z(h:a.z):a.silent.z:=by unfold silent;rw[AE,z_tell,z_quit,z_report];exact⟨h,rfl⟩
def fail_z(h:a.z)(i:Int):(a.fail i).z:=by unfold fail;rw[LD,z_report];exact h
end aj
namespace aO
variable{c:aO}
def act_z(c:aO):c.act.z:=by intro g a;simp[aO.act,mJ.none]at a
def receive_z{c:aO}{p:UnitS}:(c.receive p).z:=by have h:=act_z c;unfold aO.receive;refine aj.z_ite (aj.handle_z h p) (aj.z_ite ?_ (aj.z_ite ?_ (aj.z_ite ?_ h)));{rw[aj.z_report];exact h};{rw[aj.z_quit,aj.z_report];exact h};{rw[aj.z_stop,aj.z_tell,aj.z_report];exact⟨h,rfl⟩}
def fail_z{c:aO}:(c.fail i).z:=by unfold aO.fail;exact aj.z_ite (aj.fail_z (act_z c) i) (act_z c)
def silent_z{c:aO}:c.silent.z:=by unfold aO.silent;exact aj.z_ite (aj.silent_z (act_z c)) (act_z c)
def expire_z{c:aO}:c.expire.z:=aj.expire_z (act_z c)
end aO
def aj.inv.fits{d:Int}(h:a.inv d)(c:a.z):eT a.r.sigs:=fun g b=>⟨by have:=(h.sigs g b).1;omega,(h.sigs g b).2,by rw[c g b];omega⟩
def eT.append{a b:List bP}(c:eT a)(d:eT b):eT (a++b):=fun g e=>(my.1 e).elim (c g) (d g)
def eT.nil:eT []:=fun g a=>(by cases a)
def eT.one(h:g.fits):eT [g]:=fun x a=>by simp at a;subst a;exact h
def CT(k:Int)(a:d.size<=200):(dY k d).fits:=⟨a,by simp[dY],by simp[dY]⟩
def eT.data(k:Int){l:List bm}(h:∀m,m∈l->m.size<=200):eT (l.map (dY k)):=fun g a=>by
 obtain⟨m,b,rfl⟩:=nm.1 a;exact CT k (h m b)
def MD(n:Nat):(upto n).length=n:=by simp[upto]
def aI.Gm(s:aI)(f g:Int->Bool):0<=(s.rep f g).2/\(s.rep f g).2<=s.kept.length:=by unfold aI.rep;dsimp only;have:=D0 (fun i=>s.more f g i) (upto s.kept.length);rw[MD]at this;omega
def aI.opens_kept(s:aI)(m:Int):(s.opens m).kept=s.kept:=by unfold aI.opens;split<;>rfl
def aI.NX(s:aI)(r mr ps:Int)(l:List Int):0<=(s.stat r mr ps l).2.1/\(s.stat r mr ps l).2.1<=s.kept.length:=by unfold aI.stat;split;{dsimp only;omega};{split;{dsimp only;omega};{split;{dsimp only;omega};{rename_i p _;dsimp only;have:=aI.Gm (({s.ack r with pa:=low ps}:aI).opens mr) (dW p) (fun q=>aI.ahead q ps);rw[aI.opens_kept]at this;have a:({s.ack r with pa:=low ps}:aI).kept.length<=s.kept.length:=by{show(s.kept.drop (s.ix r)).length<=_;rw[vh];omega};refine⟨this.1,Int.le_trans this.2 ?_⟩;exact Int.ofNat_le.2 a}}}
def aI.MA(s:aI)(r mr:Int)(l:List Int):0<=(s.ustat r mr l).2.1/\(s.ustat r mr l).2.1<=s.kept.length:=by unfold aI.ustat;split;{dsimp only;omega};{split;{dsimp only;omega};{rename_i p _;dsimp only;have:=aI.Gm ((s.ack r).opens mr) (dW p) (fun _=>true);rw[aI.opens_kept]at this;have a:(s.ack r).kept.length<=s.kept.length:=by{show(s.kept.drop (s.ix r)).length<=_;rw[vh];omega};omega}}
namespace ah
variable{x:ah}{K:Nat}
def rep_fits{c n:Int}(a:0<=c/\c<256)(b:0<=n/\n<=20000):(rep c n).fits:=⟨qd _,a,b⟩
def Dg(x:ah)(h:eT l):eT (x.credit l).2:=by have e:(x.credit l).2=(if x.now&& !x.lacks then l++[rep 87 0]else if x.lacks&& !x.now&&x.ready then l++[rep 88 0]else l):=rfl;rw[e];by_cases a:(x.now&& !x.lacks)=true;{rw[eh a];exact h.append (.one (rep_fits V V))};{rw[ed a];by_cases b:(x.lacks&& !x.now&&x.ready)=true;{rw[eh b];exact h.append (.one (rep_fits V V))};{rw[ed b];exact h}}
def zL(b:x.ok K)(a:0<=i/\i<256):eT (x.fail i).2:=(aO.fail_inv b.conn a).fits (aO.fail_z)
def Lf{c:Int}(a:0<=c/\c<=20000):eT (againL c):=by unfold againL;split;{exact .nil};{exact .one (rep_fits V a)}
def MT(a:x.ok K){e:aI×aM}(d:x.ep=some e)(f:u.data.size<=200):eT (x.transfer e u).2:=by obtain⟨b,c⟩:=a.ep e d;have g:=a.hK;have h:=b.num;unfold transfer;split;{exact .data 8 (aM.data_ok c u.n f).2.1};{split;{split;{exact .nil};{exact zL a V}};{split;{dsimp only;split;{exact zL a V};{split;{exact zL a V};{have:=e.1.NX u.n u.mr u.ps u.list;exact Lf V}}};{dsimp only;split;{exact zL a V};{have:=e.1.MA u.n u.mr u.list;exact Lf V}}}}
def Wm(c:x.ok K)(d:u.came)(a:u.data.size<=200):eT (x.hear u).2:=by have b:eT (x.bring (x.conn.receive u)).2:=(aO.receive_inv c.conn d).fits (aO.receive_z);unfold hear;split;{exact .one (CT 9 a)};{split;{exact .one (CT 10 a)};{cases f:x.ep with|none=>exact b|some e=>{dsimp only;split;{exact MT c f a};{exact b}}}}
def receive_fits(c:x.ok K)(a:u.came)(b:u.data.size<=200):eT (x.receive u).2:=Dg _ (Wm c a b)
def aav(b:x.ok K)(k m:Int)(f:jH x.conn.state k=true)(a:k<7->d.size<=64)(g:k<=11):eT (x.ask k d m).2.1:=by unfold ask;split;{cases c:x.ep with|none=>exact .nil|some e=>{dsimp only;split;{exact .nil};{exact .nil}}};{split;{split;{exact .nil};{exact .nil}};{split;{cases c:x.ep with|none=>exact .nil|some e=>{exact .nil}};{split;{exact .data 11 b.left.2};{exact(aO.ask_inv b.conn k (a V) f).fits (aj.ask_z (aO.act_z _))}}}}
def request_fits(b:x.ok K)(k m:Int):eT (x.request k d m).2.1:=by unfold request;split;{exact .nil};{rename_i p;have p:reqCheck k d.size m=0:=V;obtain⟨c,f,g,e⟩:=reqCheck_sz p;split;{exact .nil};{rename_i a;have a:jH x.conn.state k=true:=by{simpa using a};dsimp only;split;{exact .nil};{exact Dg _ (aav b k m a e c.2)}}}
def M3{q:ah×List bP}(h:q.1.ok K)(a:eT q.2)(t:Int):eT (tick1 q t).2:=by unfold tick1;split;{exact a.append ((aO.expire_inv h.conn).fits (aO.expire_z))};{split;{exact a.append ((aO.silent_inv h.conn).fits (aO.silent_z))};{exact a}}
def EI:∀(l:List Int){q:ah×List bP},q.1.ok K->eT q.2->eT (l.foldl tick1 q).2
 |[],q,_,h=>h
 |t::l,q,h,hq=>EI l (tick1_ok h t).1 (M3 h hq t)
def tick_fits(a:x.ok K):eT x.tick.2:=Dg _ (EI _ (q:=({x with pace:=x.pace.tick},[])) (tickp_ok a) .nil)
def take_ok0(a:x.ok K)(m:Int)(d:bm):(x.request 10 d m).1.ok K:=by
 unfold request;split;{exact a}
 ·split
  {exact a}
  ·have c:(x.ask 10 d m).1.ok K:=by
    unfold ask;rw[ed I,ed I,eh rfl];cases b:x.ep with
    |none=>exact a
    |some e=>
     dsimp only;rw[sE b];obtain⟨f,g⟩:=a.ep e b;exact mS (e':=(e.1,e.2.take m)) a b (ahk K) a.hK f (aM.take_ok g m)
   dsimp only;split
   ·exact c
   ·exact zU c (x.ask 10 d m).2.1
end ah
structure aR.fits(r:aR):Prop where
 who:r.who=0\/r.who=1
 u:fO r.u=true
 sg:r.sg.fits
 rk:0<=r.rk/\r.rk<=20000
 rd:r.rd.size<=200
 rn:0<=r.rn/\r.rn<=20000
def eH(l:List aR):Prop:=∀r,r∈l->r.fits
def Ax(op:bm->UnitS×Int):Prop:=∀f,(op f).2=0->fO (op f).1=true
def eH.append{a b:List aR}(c:eH a)(d:eH b):eH (a++b):=fun g e=>(my.1 e).elim (c g) (d g)
def eH.nil:eH []:=fun g a=>(by cases a)
def eH.cons{g:aR}{l:List aR}(h:g.fits)(a:eH l):eH (g::l):=fun x b=>(pk.1 b).elim (fun e=>e▸h) (a x)
def eH.one{g:aR}(h:g.fits):eH [g]:=.cons h .nil
def AD:tS.fits:=⟨qd _,by simp[tS],by simp[tS]⟩
def AC:fO iN=true:=I
def Gu(k:Int)(a:e=0\/e=1):(jC e k).fits:=⟨a,AC,AD,by simp[jC],qd _,by simp[jC]⟩
def Gs(k:Int)(a:e=0\/e=1)(b:fO u=true):(iC e k u).fits:=⟨a,b,AD,by simp[iC],qd _,by simp[iC]⟩
def Gt(a:e=0\/e=1)(b:g.fits):(fE e g).fits:=⟨a,AC,b,by simp[fE],qd _,by simp[fE]⟩
def Qa(b:e=0\/e=1)(c:0<=k/\k<=20000)(a:d.size<=200)(f:0<=m/\m<=20000):(pW e k d m).fits:=⟨b,AC,AD,c,a,f⟩
def eH.told(a:e=0\/e=1)(h:eT l):eH (l.map (fE e)):=fun r c=>by
 obtain⟨g,b,rfl⟩:=nm.1 c;exact Gt a (h g b)
section
variable{h:UnitS -> bm × Int}{op:bm -> UnitS × Int}{K:Nat}{x:aN}
def BF(d:iq h)(c:e=0\/e=1):∀(k:Nat)(n:ah)(p:bR)(out:List aR),n.ok K->eH out->eH (jE h e k n p out).2.2
 |0,n,p,out,_,ho=>ho
 |k+1,n,p,out,hn,ho=>by
  unfold jE;obtain⟨a,b⟩:=ah.next_ok hn;cases f:n.next with
  |mk m u=>
   rw[f]at a b;cases u with
   |none=>exact ho
   |some u=>exact BF d c k m _ _ a (ho.append (.one (Gs 1 c (d.unit u (b u rfl)))))
def aN.wj(a:iq h)(b:x.ok K){out:List aR}(c:eH out):eH (x.kS h out).2:=BF a (.inr rfl) _ _ _ _ b.n1 (BF a (.inl rfl) _ _ _ _ b.n0 c)
def aN.tick_fits(b:iq h)(a:x.ok K):eH (x.tick h).2:=
 aN.wj (K:=K) (x:={x with n0:=x.n0.tick.1,n1:=x.n1.tick.1}) b ⟨(ah.tick_ok a.n0).1,(ah.tick_ok a.n1).1,a.p0,a.p1⟩ (.append (.told (.inl rfl) (ah.tick_fits a.n0)) (.told (.inr rfl) (ah.tick_fits a.n1)))
def ah.PO{x:ah}(h:(x.request k d m).2.2=0):(1<=k/\k<=11)/\d.size<=200/\0<=m/\m<=64:=by have a:ah.reqCheck k d.size m=0:=by{unfold ah.request at h;split at h;{exact h};{rename_i e;omega}};obtain⟨b,f,c,g⟩:=ah.reqCheck_sz a;refine⟨b,c,?_⟩;unfold ah.reqCheck at a;rw[ed V]at a;dsimp only at a;generalize(if k=1\/k=3\/k=4 then 64 else if 7<=k/\k<=9 then 200 else 0:Nat)=y at a;split at a;{omega};{split at a;{omega};{omega}}
def aN.request_fits(j:iq h)(a:x.ok K)(b:K+1<=20000)(e k m:Int)(d:bm):eH (x.request h e k d m).2.1:=by have g:=(ah.request_ok (x.re a e) b k m (d:=d) (ah.reqCheck_sz)).1;have i:=aN.oM (e:=e) (a.up (HT K) b) g;unfold aN.request;split;{rename_i c;split;{rename_i f;obtain⟨n,l,o⟩:=ah.PO f;exact aN.wj j i (.cons (Qa c V l V) (.told c (ah.request_fits (x.re a e) k m)))};{exact .nil}};{exact .nil}
def aN.take_ok0(c:iq h)(a:x.ok K)(e m:Int)(d:bm):(x.request h e 10 d m).1.ok K:=by have b:=aN.oM (e:=e) a (ah.take_ok0 (x.re a e) m d);unfold aN.request;split;{split;{exact(aN.qZ c b _).1};{exact b}};{exact a}
def aN.Dt(g:iq h)(b:rU op)(j:Ax op)(d:x.ok K)(e:Int)(f:bm):eH (x.bring h op e f).2:=by unfold aN.bring;split;{rename_i c;split;{rename_i a;obtain⟨i,k⟩:=ah.receive_ok (aN.re d e) (b.came f a) (b.data f a) (b.ps f a);exact aN.wj g (aN.oM (e:=e) d i) (.cons (Gs 2 c (j f a)) (.told c (ah.receive_fits (aN.re d e) (b.came f a) (b.data f a))))};{exact aN.wj g d (.cons (Gu 3 c) (.one (Gt c (ah.rep_fits V V))))}};{exact .nil}
def aN.KD(a:iq h)(g:rU op)(f:Ax op)(c:x.ok K)(e k p m:Int):eH (x.carry h op e k p m).2.1:=by have b:=aN.xY (e:=e) c (bR.take_ok (aN.GJ c e) k p m);unfold aN.carry;split;{rename_i d;split;{split;{exact aN.Dt a g f b e _};{exact aN.wj a b (.one (Gu 4 d))}};{exact .nil}};{exact .nil}
end
structure cg where
 sent:List bm
 got:List bm
structure ca where
 a:List cg
 b:List cg
def aR.begins(r:aR):Bool:=if r.kind=5 then decide (r.sg.kind=2)||decide (r.sg.kind=6)else if r.kind=6 then decide (r.rk=2)||(decide (r.rk=5)||decide (r.rk=6))else false
def nh(f:cg->cg):List cg->List cg
 |[]=>[]
 |[x]=>[f x]
 |x::r=>x::nh f r
def zh(f:cg->cg)(x:cg):∀l:List cg,nh f (l++[x])=l++[f x]
 |[]=>rfl
 |[y]=>rfl
 |y::z::r=>by
  show y::nh f ((z::r)++[x])=_;rw[zh f x (z::r)];rfl
def sG(d:bm)(e:cg):cg:=⟨e.sent++[d],e.got⟩
def tt(d:bm)(e:cg):cg:=⟨e.sent,e.got++[d]⟩
def aR.j0(r:aR)(l:List cg):List cg:=
 if r.kind=6/\r.rk=7 then nh (sG r.rd) (if r.begins then l++[⟨[],[]⟩]else l)
 else if r.kind=5/\r.sg.kind=8 then nh (tt r.sg.data) (if r.begins then l++[⟨[],[]⟩]else l)
 else(if r.begins then l++[⟨[],[]⟩]else l)
namespace ca
def add1(x:ca)(r:aR):ca:=if r.who=0 then⟨r.j0 x.a,x.b⟩else if r.who=1 then⟨x.a,r.j0 x.b⟩else x
def add(x:ca)(rs:List aR):ca:=rs.foldl add1 x
end ca
def dh(l:List cg):Nat:=(l.map fun e=>1+e.sent.length+e.got.length).sum
def wN(l:List cg)(e:cg):dh (l++[e])=dh l+(1+e.sent.length+e.got.length):=by simp[dh]
def uW:∀l:List cg,l.length<=dh l
 |[]=>Z
 |e::r=>by
  have:=uW r;simp[dh]at this⊢;omega
def zi{f:cg->cg}(a:∀e,1+(f e).sent.length+(f e).got.length<=1+e.sent.length+e.got.length+1){l:List cg}:dh (nh f l)<=dh l+1:=by rcases afa l with rfl|⟨i,x,rfl⟩;{simp[nh,dh]};{rw[afb,zh,wN,wN];have:=a x;omega}
def aR.I7(r:aR)(l:List cg):dh (r.j0 l)<=dh l+2:=by have a:dh (if r.begins then l++[⟨[],[]⟩]else l)<=dh l+1:=by{split;{rw[wN];simp};{omega}};unfold aR.j0;split;{exact fq (zi (fun e=>by simp[sG];omega)) V};{split;{exact fq (zi (fun e=>by simp[tt];omega)) V};{omega}}
namespace ca
def size(x:ca):Nat:=dh x.a+dh x.b
def add1_size(x:ca)(r:aR):(x.add1 r).size<=x.size+2:=by unfold add1 size;split;{have:=r.I7 x.a;dsimp only;omega};{split;{have:=r.I7 x.b;dsimp only;omega};{omega}}
def add_size:∀(rs:List aR)(x:ca),(x.add rs).size<=x.size+2*rs.length
 |[],x=>Z
 |r::t,x=>by
  have a:=add_size t (x.add1 r);have b:=x.add1_size r;show((x.add1 r).add t).size<=_;rw[hH];omega
def aaO(x:ca)(rs f:List aR):x.add (rs++f)=(x.add rs).add f:=aej ..
def add_snoc(x:ca)(rs:List aR)(r:aR):x.add (rs++[r])=(x.add rs).add1 r:=by rw[aaO];rfl
end ca
abbrev dM(q:List (bn×bn)):bn:=.tuple (q.map fun p=>Value.tuple #[p.1,p.2]).toArray
def uX(e:cg)(p:bn×bn):List aa3:=[⟨p.1,bO e.sent⟩,⟨p.2,bO e.got⟩]
def uZ(l:List cg)(q:List (bn×bn)):List aa3:=(List.zipWith uX l q).flatten
def lL(l:List cg):acu where
 p v H D:=∃q:List (bn×bn),v=dM q/\q.length=l.length/\Holds (uZ l q) H D
 loc:=by
  rintro v H d D⟨q,a,b,c⟩k
  exact⟨q,a,b,c.loc k⟩
def BM{a:List (bn×bn)}(h:dM q=dM a):q=a:=by have c:(q.map fun p=>Value.tuple #[p.1,p.2])=a.map fun p=>Value.tuple #[p.1,p.2]:=by{have:=congrArg (fun v=>match v with|Value.tuple xs=>xs.toList|_=>[]) h;simpa using this};have b:=congrArg (List.map fun v=>match v with|Value.tuple xs=>(xs.toList.getD 0 Go.undef,xs.toList.getD 1 Go.undef)|_=>(Go.undef,Go.undef)) c;rw[ahz,ahz]at b;have e:∀l:List (bn×bn),l.map ((fun v=>match v with|Value.tuple xs=>(xs.toList.getD 0 Go.undef,xs.toList.getD 1 Go.undef)|_=>(Go.undef,Go.undef))∘fun p=>Value.tuple #[p.1,p.2])=l:=fun l=>by{rw[show((fun v=>match v with|Value.tuple xs=>(xs.toList.getD 0 Go.undef,xs.toList.getD 1 Go.undef)|_=>(Go.undef,Go.undef))∘fun(p:bn×bn)=>Value.tuple #[p.1,p.2])=id from rfl];exact List.map_id _};rwa [e,e]at b
def dX(q:List (bn×bn)):List (bj):=q.map fun p=>[p.1,p.2]
def fL(l:List cg):acu:=kH (fun(q:List (bn×bn))v=>[⟨v,be 113 2 (dX q)⟩,⟨dM q,lL l⟩]) (fun q=>q.length=l.length)
def bQ(x:ca):acu:=kH (fun(q:bn×bn)v=>[⟨v,aE [q.1,q.2] 49⟩,⟨q.1,fL x.a⟩,⟨q.2,fL x.b⟩]) (fun _=>True)
def Kb{l:List cg}(h:q.length=l.length)(e:cg)(p:bn×bn):uZ (l++[e]) (q++[p])=uZ l q++uX e p:=by unfold uZ;rw[adw h.symm];simp
section
variable{E:Ex}{F G:Np}{H:AH}{s b:Nat}{Q:Qt}{W:Wd}{R P:List aa3}{v:bn}{l:List cg}{q:List (bn × bn)}{x:ca}{k:bn}{X:acu}
def St.MF{Q:List aa3}(S:St F G H s W (⟨k,X⟩::R))(h:∀D,X.p k H D->Holds Q H D):St F G H s W (Q++R):=by obtain⟨D,⟨e,f,a,b,c,d⟩,q⟩:=S.hold;exact⟨S.bd,S.new,S.froz,D,Holds.join a b (h _ c) d,q⟩
def St.C2(S:St F G H s W (⟨v,fL l⟩::R)):∃q,q.length=l.length/\St F G H s W (⟨v,be 113 2 (dX q)⟩::⟨dM q,lL l⟩::R):=by obtain⟨q,h,S⟩:=S.opens;exact⟨q,h,S⟩
def St.tA(h:q.length=l.length)(S:St F G H s W (⟨v,be 113 2 (dX q)⟩::⟨dM q,lL l⟩::R)):St F G H s W (⟨v,fL l⟩::R):=S.nz q h
def St.K2(S:St F G H s W (⟨aa b,bQ x⟩::R)):∃a c,St F G H s W (⟨aa b,aE [a,c] 49⟩::⟨a,fL x.a⟩::⟨c,fL x.b⟩::R):=by obtain⟨q,h,S⟩:=S.opens;exact⟨q.1,q.2,S⟩
def St.Dw{v0 v1:bn}(S:St F G H s W (⟨aa b,aE [v0,v1] 49⟩::⟨v0,fL x.a⟩::⟨v1,fL x.b⟩::R)):St F G H s W (⟨aa b,bQ x⟩::R):=S.nz (v0,v1) trivial
def St.XO(S:St F G H s W R):St F G H s W (⟨dM [],lL []⟩::R):=St.whole (Q:=[]) S fun D h=>⟨[],rfl,rfl,h⟩
def St.C3(S:St F G H s W R):St F G H s W (⟨aJ,fL []⟩::R):=St.tA (q:=[]) rfl (S.XO.bG _ _)
def St.zO{e:cg}(j:q.length=l.length)(S:St F G H s W (⟨dM q,lL l⟩::⟨p.1,bO e.sent⟩::⟨p.2,bO e.got⟩::R)):St F G H s W (⟨dM (q++[p]),lL (l++[e])⟩::R):=by refine St.whole (Q:=[⟨dM q,lL l⟩,⟨p.1,bO e.sent⟩,⟨p.2,bO e.got⟩]) S ?_;rintro D⟨h,i,a,b,⟨k,d,c,f⟩,g⟩;have:=BM d;subst this;exact⟨q++[p],rfl,by simp[c],by rw[Kb c];exact Holds.join a b f g⟩
def St.XM{e:cg}(g:q.length=l.length)(S:St F G H s W (⟨dM (q++[p]),lL (l++[e])⟩::R)):St F G H s W (⟨dM q,lL l⟩::⟨p.1,bO e.sent⟩::⟨p.2,bO e.got⟩::R):=by refine St.MF (Q:=[⟨dM q,lL l⟩,⟨p.1,bO e.sent⟩,⟨p.2,bO e.got⟩]) S ?_;rintro D⟨m,j,k,f⟩;have:=BM j;subst this;rw[Kb g]at f;obtain⟨h,i,a,b,c,d⟩:=f.append;exact⟨h,i,a,b,⟨q,rfl,g,c⟩,d⟩
def zN(q:List (bn×bn))(p:bn×bn):dX (q++[p])=dX q++[[p.1,p.2]]:=by simp[dX]
def jo(q:List (bn×bn)):(dX q).length=q.length:=by simp[dX]
def aR.cells(r:aR)(lv:bn):bn:=.agg (r.cH lv).toArray
theorem ZX(i:Bare E)(n:Nat){r:aR}{la:Option Addr}{ll lm:Nat}(S:St F G H s W P)(h:∀e g,St F G e g W P->Q (.bool r.begins) e g):Wp F G (CA E (n+1) 122 #[r.cells (.slice la ll lm)]) H s Q:=by have a:=S.new s Z;unfold aR.begins at h;unfold aR.cells aR.cH;refine en i [] func122 ntmps122 ?_;simp[a];by_cases d:r.kind=5;{rw[eh d]at h;by_cases c:r.sg.kind=2;{simp[a,d,c]at h⊢;exact h _ _ (S.skip _)};{simp[a,d,c]at h⊢;exact h _ _ (S.skip _)}};{rw[ed d]at h;by_cases b:r.kind=6;{rw[eh b]at h;by_cases c:r.rk=2;{simp[a,b,c]at h⊢;exact h _ _ (S.skip _)};{by_cases f:r.rk=5;{simp[a,b,f]at h⊢;exact h _ _ (S.skip _)};{simp[a,b,c,f]at h⊢;exact h _ _ (S.skip _)}}};{rw[ed b]at h;simp[a,d,b];exact h _ _ (S.skip _)}}
end
section
variable{E:Ex}{F G:Np}{H:AH}{s b:Nat}{Q:Qt}{W:Wd}{R:List aa3}{v:bn}{l:List cg}{q:List (bn × bn)}{x:ca}{rs:List aR}
def Jn:∀{L:List aa3}{H:AH}{D:Nat->Prop}{o:aa3},Holds L H D->o∈L->∃a,o.X.p o.k H a
 |[],_,_,_,_,h=>by cases h
 |p::r,H,D,o,⟨D1,D2,_,_,c,d⟩,h=>by
  rcases pk.1 h with rfl|h
  ·exact⟨_,c⟩
  ·exact Jn d h
def St.GY{lvs:bj}(S:St F G H s W (⟨dc lvs,iM rs⟩::R))(k:lvs.length=rs.length){i:Nat}(hi:i<lvs.length):∃f b,lvs[i]=.slice f b b:=by refine S.ask ?_;rintro D⟨p,c,j,d⟩_;have:p=lvs:=by{have:=congrArg (fun v=>match v with|Value.tuple xs=>xs.toList|_=>[]) c;simpa using this.symm};subst this;obtain⟨g,L,h,_⟩:=Jn (o:=⟨p[i],bT rs[i].u.list⟩) d (by unfold oQ;refine w0 (i:=i) ?_;rw[ae9,ei V,ei hi]);obtain⟨a,e,_⟩:=h.len;exact⟨a,_,e⟩
def Fv{k:Nat}(h:cs[k]? =some y):cs.set k y=cs:=by apply ahp;intro i;rw[aei];split;{rename_i e;subst e;rw[h];split;{rfl};{rename_i a;rw[wy V]at h;cases h}};{rfl}
def OL{k:Nat}{x:bn}(h:cs[k+1]? =some y):cu cs k [x,y]=cu cs k [x]:=by show(cs.set k x).set (k+1) y=cs.set k x;exact Fv (by rw[adG V];exact h)
def OK{k:Nat}{x:bn}(h:cs[k]? =some x):cu cs k [x,y]=cu cs (k+1) [y]:=by show(cs.set k x).set (k+1) y=cs.set (k+1) y;rw[Fv h]
def J8(a:List (bn×bn))(p:bn×bn)(x y:bn):(dX (a++[p])).set a.length [x,y]=dX (a++[(x,y)]):=by rw[zN,zN,af6 _ _ (by simp[dX])];simp[dX]
def IS[f:Bare E]{a:Option Addr}{m:Nat}{T:bW}{rows:List (bj)}(S:St F G H s W (⟨.slice a m m,be T 2 rows⟩::R))(j:m=rows.length)(h:m<=2000000000000)(c:m=0->Q jG H s)(e:∀d o,a=some ⟨d,o,none⟩->0<m->Q (.pointer (some ⟨d,o+(m-1)*2,none⟩)) H s):Wp F G (CA E (n+1) 123 #[.slice a m m]) H s Q:=by refine en f [] func123 ntmps123 ?_;by_cases b:m=0;{subst b;simp;exact c rfl};{have g:IntKind.i64.wrap ((m:Int)-1)=((m-1:Nat):Int):=by{have:IntKind.i64.wrap ((m:Int)-1)=(m:Int)-1:=cL V V;rw[this];omega};obtain⟨d,o,cs,rfl,_⟩:=S.row (i:=m-1) V;simp[b,g,(V:m-1<m)];exact e d o rfl V}
def St.ZO(S:St F G H s W (⟨aa b,bQ x⟩::R)){w:Int}(j:w=0\/w=1):∃(i e:bn)(C:bn->bj)(Y Z:List cg),(∀u,C u=if w=0 then[u,e]else[e,u])/\dh Y<=x.size/\(Y=if w=0 then x.a else x.b)/\St F G H s W (⟨aa b,aE (C i) 49⟩::⟨i,fL Y⟩::⟨e,fL Z⟩::R)/\∀{f h g u a},St F G f h W (⟨aa b,aE (C u) 49⟩::⟨u,fL a⟩::⟨e,fL Z⟩::g)->St F G f h W (⟨aa b,bQ (if w=0 then⟨a,x.b⟩else⟨x.a,a⟩)⟩::g):=by obtain⟨c,d,S⟩:=S.K2;unfold ca.size;rcases j with rfl|rfl;{exact⟨c,d,fun u=>[u,d],x.a,x.b,fun _=>rfl,V,rfl,S,fun{_ _ _ _ a}S=>St.Dw (x:=⟨a,x.b⟩) S⟩};{exact⟨d,c,fun u=>[c,u],x.b,x.a,fun _=>rfl,V,rfl,S.jN (k1:=aa b) (k2:=d) (k3:=c),fun{_ _ _ u a}S=>St.Dw (x:=⟨x.a,a⟩) (S.jN (k1:=aa b) (k2:=c) (k3:=u))⟩}
theorem Z2[hE:Bare E](hsz:x.size+2*rs.length<=1000000000000)(S:St F G H s W (⟨v,ej rs⟩::⟨aa b,bQ x⟩::R))(h:∀H' s',St F G H' s' W (⟨v,ej rs⟩::⟨aa b,bQ (x.add rs)⟩::R)->Q (.tuple #[]) H' s'):Wp F G (CA E (n+2) 64 #[aa b,v]) H s Q:=by obtain⟨f,ht,S⟩:=S.pV;have ko:=qU ht;obtain⟨av,hv,_⟩:=S.mU;rw[ko]at hv;subst hv;refine en hE [(6,[],[],[]),(9,[4],[8],[]),(11,[4],[8],[])] func64 ntmps64 ?_;simp;refine acs (fun kk tm H' s'=>∃(i:Nat),i<=rs.length/\kk=rs.length-i/\tm.size=94/\aF tm 0=aa b/\aF tm 7=.slice av rs.length rs.length/\aF tm 8=iv rs.length/\aF tm 9=iv (i:Nat)/\St F G H' s' W (⟨.slice av rs.length rs.length,be 154 18 (dV rs f)⟩::⟨dc f,iM rs⟩::⟨aa b,bQ (x.add (rs.take i))⟩::R)) (k:=rs.length) (by unfold LF;omega) ⟨0,V,rfl,J,J,J,J,J,by simpa[ca.add]using S⟩ ?_;clear S;rintro kk tm H1 s1⟨i,hi,rfl,B,P,t7,t8,t9,S⟩;rw[mk0 tm];simp[B,P,t7,t8,t9];rcases HK i rs.length with hlt|hge;{obtain⟨r,hr⟩:∃r,r=rs[i]:=⟨_,rfl⟩;obtain⟨la,ll,kp⟩:=(S.ae (dc f)).GY ht (i:=i) V;obtain⟨d,o,cs,rfl,kd,fd,gd,ld,ho,h4⟩:=S.row (i:=i) V;have e1:(cs.drop (o+i*18)).take 18=r.cH (.slice la ll ll):=by{rw[h4,hr];simp[dV,kp]};unfold aR.cH at e1;have hm:=S.new s1 Z;have hw:=wi (i:=i) V;have he:x.add (rs.take (i+1))=(x.add (rs.take i)).add1 r:=by{rw[fy hlt,ca.add_snoc,hr]};have kv:(x.add (rs.take i)).size<=1000000000000:=by{have:=ca.add_size (rs.take i) x;rw[nl]at this;omega};generalize hX:x.add (rs.take i)=X at S he kv;clear hX h4;have ky:b<s1:=by{obtain⟨u0,u1,S'⟩:=(S.ae (aa b)).K2;exact S'.cell.2.2.2};have S1:=S.alloc (r.cH (.slice la ll ll)) 154;unfold aR.cH at S1;have out:(r.who<0\/2<=r.who)->X.add1 r=X:=fun hh=>by{unfold ca.add1;rw[ed V,ed V]};by_cases D:r.who<0;{simp[-bM,B,P,t7,t8,t9,hlt,kd,fd,e1,ho,hm,D,(V:¬0<=r.who)];refine⟨rs.length-(i+1),V,i+1,V,rfl,hw,?_⟩;rw[he,out (.inl D)];exact S1.az (aa s1)};by_cases hk:2<=r.who;{simp[-bM,B,P,t7,t8,t9,hlt,kd,fd,e1,ho,hm,D,hk,(V:0<=r.who)];refine⟨rs.length-(i+1),V,i+1,V,rfl,hw,?_⟩;rw[he,out (.inr hk)];exact S1.az (aa s1)};simp[-bM,B,P,t7,t8,t9,hlt,kd,fd,e1,ho,hm,D,hk,(V:0<=r.who)];refine ZX hE _ (r:=r) (la:=la) (ll:=ll) (lm:=ll) S1 fun H2 s2 S2=>?_;have w:r.who=0\/r.who=1:=V;obtain⟨vm,vo,C,Y,Z',hC,kw,hY,S3,bk⟩:=(S2.ae (aa b)).ZO w;have kj:X.add1 r=if r.who=0 then⟨r.j0 Y,X.b⟩else⟨X.a,r.j0 Y⟩:=by{rcases w with h|h<;>simp[ca.add1,hY,h]};have fin:∀{H' s' u},St F G H' s' W (⟨aa b,aE (C u) 49⟩::⟨u,fL (r.j0 Y)⟩::⟨vo,fL Z'⟩::⟨aa s1,aE (r.cH (.slice la ll ll)) 154⟩::⟨.slice (some ⟨d,o,none⟩) rs.length rs.length,be 154 18 (dV rs f)⟩::⟨dc f,iM rs⟩::R)->St F G H' s' W (⟨.slice (some ⟨d,o,none⟩) rs.length rs.length,be 154 18 (dV rs f)⟩::⟨dc f,iM rs⟩::⟨aa b,bQ (x.add (rs.take (i+1)))⟩::R):=fun S=>by{rw[he,kj];exact(bk (S.az (aa s1))).aD [.slice (some ⟨d,o,none⟩) rs.length rs.length,dc f]};rcases w with w|w;(all_goals simp[w]at hC;obtain⟨q,hq,S4⟩:=(S3.ae vm).C2;have g:=jo q;have kh:q.length<=1000000000000:=by{have:=uW Y;omega};obtain⟨a0,hl⟩:=S4.cK;rw[g]at hl;obtain⟨z,A⟩:∃m,m=q.length:=⟨_,rfl⟩;rw[<-A]at hl kh;subst hl;obtain⟨k1,f1,g1,l1⟩:=(S4.ae (aa s1)).cell;obtain⟨kb,fb,gb,lb⟩:=(S4.ae (aa b)).cell;rw[hC]at kb;have kr:=S4.new s2 Z;cases hbg:r.begins with|true=>{have hA:¬(r.kind=6/\r.rk=7):=by{rintro⟨h6,h7⟩;simp[aR.begins,h6,h7]at hbg};have hT:¬(r.kind=5/\r.sg.kind=8):=by{rintro⟨h6,h7⟩;simp[aR.begins,h6,h7]at hbg};simp[-bM,B,P,t7,t8,t9,k1,f1];refine mN (calm) [(2,11),(5,11),(9,11),(2,12)] [(2,(fun y=>y=s1),(fun _=>False)),(5,(fun y=>y=s1),(fun _=>False)),(9,(fun y=>y=b),(fun _=>False)),(11,(fun _=>False),(fun y=>s2<=y)),(12,(fun _=>True),(fun y=>y≠s1))] U ?_;simp[-bM,B,P,t7,t8,t9,k1,f1,kb,fb,w,kr];have S0:=S4.ae (aa s1);have SL:=S0.still;refine St.append (F:=F) (G:=fun y=>G y/\y≠s1) ((SL.cb (T:=113) (n:=2) [[aJ,aJ]] 1 rfl J rfl).cF (k1:=.slice a0 z z) (k2:=sl s2 0 1 1)) (y:=48) U (by rw[g];simp;omega) fun H5 s5 a5 l5 m5 S5=>?_;obtain⟨ki,ks⟩:l5=z+1/\m5=z+1:=by{obtain⟨a,hh⟩:=S5.cK;injection hh with h1 h2 h3;simp[g]at h2 h3;omega};subst ki;subst ks;have S6:=S0.again (S5.az (sl s2 0 1 1));have S7:=((S6.ae (aa b)).set (C (.slice a5 (z+1) (z+1))));obtain⟨km,ku,k0,kz⟩:=S6.cell;obtain⟨h9,kn,kl,k4⟩:=(S6.ae (aa b)).cell;rw[hC]at S7 h9;simp[-bM,B,P,t7,t8,t9,km,ku,h9,kn,kl,w,aH,(V:s1≠b)];refine⟨⟨⟨fun y hy=>V,fun hy=>V⟩,⟨fun y hy=>V,fun hy=>V⟩,fun hy=>V⟩,?_⟩;have S8:=((S7.bG 9 1).bG 9 1).jN (k1:=dM q) (k2:=aJ) (k3:=aJ);have S9:=St.zO (e:=⟨[],[]⟩) (p:=(aJ,aJ)) hq S8;rw[<-zN q (aJ,aJ)]at S9;have SR:=S9.aD [aa b,.slice a5 (z+1) (z+1)];have kt:(q++[(aJ,aJ)]).length=(Y++[(⟨[],[]⟩:cg)]).length:=by{simp[hq]};have kg:z+1=(q++[(aJ,aJ)]).length:=by{simp[A]};have c:r.j0 Y=Y++[⟨[],[]⟩]:=by{unfold aR.j0;rw[ed hA,ed hT,hbg];rfl};obtain⟨k1,f1,g1,l1⟩:=(SR.ae (aa s1)).cell;refine IS (SR.ae (.slice a5 (z+1) (z+1))) (by rw[jo];exact kg) V (fun h0=>absurd h0 V) (fun d' O ha hp=>?_);have t:=fin (u:=.slice a5 (z+1) (z+1)) (by rw[c,hC];exact(SR.ae (.slice a5 (z+1) (z+1))) |> fun S=>(St.tA kt (S.cF (k1:=.slice a5 (z+1) (z+1)) (k2:=dM (q++[(aJ,aJ)])))).aD [aa b,.slice a5 (z+1) (z+1),vo,aa s1]);by_cases h6:r.kind=6;{have h7:¬r.rk=7:=fun e=>hA ⟨h6,e⟩;simp[B,P,t7,t8,t9,k1,f1,h6,h7];exact⟨rs.length-(i+1),V,i+1,V,rfl,hw,t⟩};{by_cases h5:r.kind=5;{have h8:¬r.sg.kind=8:=fun e=>hT ⟨h5,e⟩;simp[B,P,t7,t8,t9,k1,f1,h5,h8];exact⟨rs.length-(i+1),V,i+1,V,rfl,hw,t⟩};{simp[B,P,t7,t8,t9,k1,f1,h5,h6];exact⟨rs.length-(i+1),V,i+1,V,rfl,hw,t⟩}}}|false=>{have SR:=S4.aD [aa b,.slice a0 z z];have c:r.j0 Y=if r.kind=6/\r.rk=7 then nh (sG r.rd) Y else if r.kind=5/\r.sg.kind=8 then nh (tt r.sg.data) Y else Y:=by{unfold aR.j0;rw[hbg];rfl};simp[-bM,B,P,t7,t8,t9,k1,f1,kb,fb,w];refine IS (SR.ae (.slice a0 z z)) (by rw[jo];exact A) V (fun h0=>?_) (fun d' O ha hp=>?_);{have L:Y=[]:=HV.1 V;have t:=fin (by rw[show r.j0 Y=Y by rw[c,L];simp[nh]];exact(SR.ae (.slice a0 z z)) |> fun S=>(St.tA hq (S.cF (k1:=.slice a0 z z) (k2:=dM q))).aD [aa b,.slice a0 z z,vo,aa s1]);simp[B,P,t7,t8,t9];exact⟨rs.length-(i+1),V,i+1,V,rfl,hw,t⟩};{obtain⟨li,e,L⟩:∃li e,Y=li++[e]:=by{rcases afa Y with h|⟨li,e,h⟩;{rw[h,RT]at hq;omega};{exact⟨li,e,by rw[h,afb]⟩}};obtain⟨qi,p,kx⟩:∃qi p,q=qi++[p]:=by{rcases afa q with h|⟨li,e,h⟩;{rw[h]at A;rw[RT]at A;omega};{exact⟨li,e,by rw[h,afb]⟩}};subst kx;have c:r.j0 Y=if r.kind=6/\r.rk=7 then nh (sG r.rd) (li++[e])else if r.kind=5/\r.sg.kind=8 then nh (tt r.sg.data) (li++[e])else li++[e]:=by{rw[c,L]};rw[L]at SR hq;have M:qi.length=li.length:=by{simpa using hq};have j:z-1=qi.length:=by{rw[A];simp};subst ha;obtain⟨d2,o2,hf,kf,hu,hx,k6,k5,kc,ke⟩:=(SR.ae (sl d' O z z)).row (i:=z-1) (by rw[g];omega);cases kf;have e2:(hf.drop (O+(z-1)*2)).take 2=[p.1,p.2]:=by{rw[ke];simp[dX,j]};have e3:hf[O+(z-1)*2]? =some p.1:=by{have:=congrArg (fun l=>l[0]?) e2;simpa[R1,NL]using this};have e4:hf[O+(z-1)*2+1]? =some p.2:=by{have:=congrArg (fun l=>l[1]?) e2;simpa[R1,NL]using this};have SP:=St.XM M ((SR.ae (dM (qi++[p]))));have ka:e.sent.length<=1000000000000/\e.got.length<=1000000000000:=by{have:=wN li e;rw[L]at kw;omega};by_cases hA:r.kind=6/\r.rk=7;{rw[eh hA,zh]at c;simp[-bM,B,P,t7,t8,t9,k1,f1,hA.1,hA.2,hu,hx,e3,kc];refine⟨V,?_⟩;refine St.append ((SP.cb (T:=9) (n:=1) [[.string r.rd]] 1 rfl J rfl).cF (k1:=p.1) (k2:=sl s2 0 1 1)) (y:=16) U (by have:=ka.1;simp;omega) fun H5 s5 a5 l5 m5 S5=>?_;have S6:=S5.az (sl s2 0 1 1);obtain⟨d3,o3,hb,hj,K,hs,hn,kq,hg,hd⟩:=(S6.ae (sl d' O z z)).row (i:=z-1) (by rw[g];omega);cases hj;have f2:(hb.drop (O+(z-1)*2)).take 2=[p.1,p.2]:=by{rw[hd];simp[dX,j]};have f3:hb[O+(z-1)*2+1]? =some p.2:=by{have:=congrArg (fun l=>l[1]?) f2;simpa[R1,NL]using this};simp[B,P,t7,t8,t9,K,hs,hn,hg];have S7:=(S6.ae (sl d' O z z)).setRow (i:=z-1) (by rw[g];omega) [.slice a5 l5 m5,p.2] rfl K;rw[OL f3,j,J8,<-j,(J:bI e.sent++[[.string r.rd]]=bI (e.sent++[r.rd]))]at S7;have S8:=S7.jN (k1:=dM qi) (k2:=.slice a5 l5 m5) (k3:=p.2);have S9:=St.zO (e:=sG r.rd e) (p:=(.slice a5 l5 m5,p.2)) M S8;have hc:(qi++[(Value.slice a5 l5 m5,p.2)]).length=(li++[sG r.rd e]).length:=by{simp[M]};have N:=(St.tA hc (S9.cF (k1:=sl d' O z z) (k2:=dM (qi++[(.slice a5 l5 m5,p.2)])))).aD [aa b,sl d' O z z,vo,aa s1];rw[<-c]at N;exact⟨V,rs.length-(i+1),V,i+1,V,rfl,hw,fin N⟩};{rw[ed hA]at c;by_cases hT:r.kind=5/\r.sg.kind=8;{rw[eh hT,zh]at c;simp[-bM,B,P,t7,t8,t9,k1,f1,hT.1,hT.2,hu,hx,e4,kc];refine⟨V,?_⟩;refine St.append ((SP.cb (T:=9) (n:=1) [[.string r.sg.data]] 1 rfl J rfl).cF (k1:=p.2) (k2:=sl s2 0 1 1)) (y:=16) U (by have:=ka.2;simp;omega) fun H5 s5 a5 l5 m5 S5=>?_;have S6:=S5.az (sl s2 0 1 1);obtain⟨d3,o3,hb,hj,K,hs,hn,kq,hg,hd⟩:=(S6.ae (sl d' O z z)).row (i:=z-1) (by rw[g];omega);cases hj;have f2:(hb.drop (O+(z-1)*2)).take 2=[p.1,p.2]:=by{rw[hd];simp[dX,j]};have f3:hb[O+(z-1)*2]? =some p.1:=by{have:=congrArg (fun l=>l[0]?) f2;simpa[R1,NL]using this};simp[B,P,t7,t8,t9,K,hs,hn,hg];have S7:=(S6.ae (sl d' O z z)).setRow (i:=z-1) (by rw[g];omega) [p.1,.slice a5 l5 m5] rfl K;rw[OK f3,j,J8,<-j,(J:bI e.got++[[.string r.sg.data]]=bI (e.got++[r.sg.data]))]at S7;have S8:=S7.jN (k1:=dM qi) (k2:=p.1) (k3:=.slice a5 l5 m5);have S9:=St.zO (e:=tt r.sg.data e) (p:=(p.1,.slice a5 l5 m5)) M S8;have hc:(qi++[(p.1,Value.slice a5 l5 m5)]).length=(li++[tt r.sg.data e]).length:=by{simp[M]};have N:=(St.tA hc (S9.cF (k1:=sl d' O z z) (k2:=dM (qi++[(p.1,.slice a5 l5 m5)])))).aD [aa b,sl d' O z z,vo,aa s1];rw[<-c]at N;exact⟨rs.length-(i+1),V,i+1,V,rfl,hw,fin N⟩};{rw[ed hT]at c;have t:=fin (by rw[c];exact(SR.ae (sl d' O z z)) |> fun S=>(St.tA hq (S.cF (k1:=sl d' O z z) (k2:=dM (qi++[p])))).aD [aa b,sl d' O z z,vo,aa s1]);by_cases h6:r.kind=6;{have h7:¬r.rk=7:=fun e=>hA ⟨h6,e⟩;simp[B,P,t7,t8,t9,k1,f1,h6,h7];exact⟨rs.length-(i+1),V,i+1,V,rfl,hw,t⟩};{by_cases h5:r.kind=5;{have h8:¬r.sg.kind=8:=fun e=>hT ⟨h5,e⟩;simp[B,P,t7,t8,t9,k1,f1,h5,h8];exact⟨rs.length-(i+1),V,i+1,V,rfl,hw,t⟩};{simp[B,P,t7,t8,t9,k1,f1,h5,h6];exact⟨rs.length-(i+1),V,i+1,V,rfl,hw,t⟩}}}}}})};{simp[B,P,t7,t8,t9,(V:¬i<rs.length)];obtain rfl:i=rs.length:=V;rw[zs]at S;exact h _ _ (S.yq ht)}
end
section
variable{F G:Np}{H:AH}{s b:Nat}{Q:Qt}{W:Wd}{R:List aa3}{v w:bn}{rs f:List aR}
def P9(h:l1.length=rs.length):dV (rs++f) (l1++l2)=dV rs l1++dV f l2:=by unfold dV;rw[adw h.symm]
def Qc(h:l1.length=rs.length):oQ (rs++f) (l1++l2)=oQ rs l1++oQ f l2:=by unfold oQ;rw[adw h.symm]
def BL(h:dc l1=dc l2):l1=l2:=by have:=congrArg (fun v=>match v with|Value.tuple xs=>xs.toList|_=>[]) h;simpa using this
def St.QX(c:l1.length=rs.length)(d:l2.length=f.length)(S:St F G H s W (⟨dc l1,iM rs⟩::⟨dc l2,iM f⟩::R)):St F G H s W (⟨dc (l1++l2),iM (rs++f)⟩::R):=by refine St.whole (Q:=[⟨dc l1,iM rs⟩,⟨dc l2,iM f⟩]) S ?_;rintro D⟨k,l,a,e,⟨q,e1,n,i⟩,E1,E2,m,e2,⟨p,e3,o,j⟩,g⟩;obtain rfl:=BL e1;obtain rfl:=BL e3;refine⟨l1++l2,rfl,by simp[c,d],?_⟩;rw[Qc c];refine Holds.join a e i (j.iff fun b=>?_);rw[e2 b];exact⟨.inl,fun h=>h.elim id fun h=>(g b h).elim⟩
def wh(B:rs.length+f.length<=800000000000)(S:St F G H s W (⟨v,ej rs⟩::⟨w,ej f⟩::R)) (x:∀e l a,St F G e l W (⟨.slice a (rs.length+f.length) (rs.length+f.length),ej (rs++f)⟩::R)->Q (.slice a (rs.length+f.length) (rs.length+f.length)) e l):Wp F G (j9 prog 90 90 v w) H s Q:=by obtain⟨l1,b,n⟩:=S.pV;obtain⟨l2,c,o⟩:=(n.ae w).pV;have j:=qU b;have k:=qU c;refine St.append (o.aD [v,w]) (y:=168) U (by rw[j,k];omega) fun m z d D C g=>?_;have e3:(dV rs l1++dV f l2).length=rs.length+f.length:=by{rw[dw,j,k]};obtain⟨A,u⟩:=g.cK;cases u;have q:=(g.az w).aD [.slice d (dV rs l1++dV f l2).length (dV rs l1++dV f l2).length,dc l1,dc l2];have r:=(q.ae (dc l1)).cF (k1:=dc l1) (k2:=dc l2);have t:=St.QX b c r;have h:=t.cF (k1:=.slice d (dV rs l1++dV f l2).length (dV rs l1++dV f l2).length) (k2:=dc (l1++l2));rw[<-P9 b]at h;have i:=St.yq (lvs:=l1++l2) (by simp[b,c]) h;rw[qU (show(l1++l2).length=(rs++f).length by simp[b,c]),dw]at i;have p:=x m z d i;rw[e3];exact p
end
end Go.Proofs.YtlkceignfhnpoaaGreatDoor
