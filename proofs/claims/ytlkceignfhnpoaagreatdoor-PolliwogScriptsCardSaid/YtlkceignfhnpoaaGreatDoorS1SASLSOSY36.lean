/-
  Part of a proof, written small.
-/
import Derived.Test.YtlkceignfhnpoaaGreatDoorS1SASLSOSY35
import Derived.Shelf.SlSortCmp.NoneTotal
set_option linter.all false
set_option maxRecDepth 100000
set_option maxHeartbeats 4000000
open Go.Proofs.Tryz
namespace Go.Proofs.YtlkceignfhnpoaaGreatDoor
open Go AX
def agB:=@Sort.alloc_eq_grow
variable{n o m:Nat}{f:cd}{L:List (cd×(ahG->AX bn))}{α:Type}{v':bn}{d:Array α}{l:List Int}{cs:bj}{T:bW}{im:jQ}
def jU(x:aN)(e:Int)(out:List aR):aN×List aR:=
 ((x.request aS e 10 .empty 64).1,if(x.request aS e 10 .empty 64).2.2=0 then out++(x.request aS e 10 .empty 64).2.1 else out)
def oW(x:aN)(out:List aR):Option (aN×List aR):=
 if(x.carry aS bC 1 0 0 0).2.2=true then some (jU (x.carry aS bC 1 0 0 0).1 1 (out++(x.carry aS bC 1 0 0 0).2.1))
 else if((x.carry aS bC 1 0 0 0).1.carry aS bC 0 0 0 0).2.2=true then some (jU ((x.carry aS bC 1 0 0 0).1.carry aS bC 0 0 0 0).1 0 (out++((x.carry aS bC 1 0 0 0).1.carry aS bC 0 0 0 0).2.1))
 else none
def Gf(x:aN):aN:=((x.carry aS bC 1 0 0 0).1.carry aS bC 0 0 0 0).1
def qq:Nat->aN->List aR->aN×List aR×Bool
 |0,x,out=>(x,out,decide (x.p0.l.length+x.p1.l.length=0))
 |k+1,x,out=>match oW x out with
  |none=>(Gf x,out,true)
  |some q=>qq k q.1 q.2
def aN.deliver(x:aN):aN×List aR×Bool:=qq 100000 x []
section
variable{x:aN}{K:Nat}
def ah.aaw(x:ah)(k m:Int)(d:bm):0<=(x.ask k d m).2.2/\(x.ask k d m).2.2<=100:=by unfold ah.ask;split;{cases x.ep with|none=>{(dsimp only;omega)}|some e=>{dsimp only;split;{(dsimp only;omega)};{(dsimp only;omega)}}};{split;{split;{(dsimp only;omega)};{(dsimp only;omega)}};{split;{cases x.ep<;>(dsimp only;omega)};{split;{(dsimp only;omega)};{(dsimp only;omega)}}}}
def ah.PY{k m:Int}{z:Nat}:0<=ah.reqCheck k z m/\ah.reqCheck k z m<=100:=by unfold ah.reqCheck;split;{omega};{dsimp only;generalize(if k=1\/k=3\/k=4 then 64 else if 7<=k/\k<=9 then 200 else 0:Nat)=y;split;{omega};{split<;>omega}}
def ah.Bs(x:ah)(k m:Int)(d:bm):0<=(x.request k d m).2.2/\(x.request k d m).2.2<=100:=by unfold ah.request;split;{exact ah.PY};{split;{(dsimp only;omega)};{dsimp only;split;{exact x.aaw k m d};{(dsimp only;omega)}}}
def aN.Bs(x:aN)(e k m:Int)(d:bm): -9223372036854775808<=(x.request aS e k d m).2.2/\(x.request aS e k d m).2.2<=9223372036854775807:=by have:=(x.eK e).Bs k m d;unfold aN.request;split;{split;{dsimp only;omega};{dsimp only;omega}};{dsimp only;omega}
def ah.take_len(x:ah)(m:Int)(d:bm):(x.request 10 d m).2.1.length<=1:=by unfold ah.request;split;{exact qd _};{split;{exact qd _};{have a:(x.ask 10 d m).2.1=[]:=by{unfold ah.ask;rw[ed I,ed I,eh rfl];cases x.ep<;>rfl};dsimp only;split;{exact qd _};{have:=ah.credit_len (x.ask 10 d m).1 (x.ask 10 d m).2.1;rw[a]at this⊢;simpa using this}}}
def aN.take_len(a:x.ok K)(e m:Int)(d:bm):(x.request aS e 10 d m).2.1.length<=600:=by have b:=aN.oM (e:=e) a (ah.take_ok0 (x.re a e) m d);have c:=(aN.qZ dx b (pW e 10 d m::((x.eK e).request 10 d m).2.1.map (fE e))).2;have f:=ah.take_len (x.eK e) m d;unfold aN.request;split;{split;{refine fq c ?_;rw[hH,pt];omega};{exact qd _}};{exact qd _}
def EL(a:x.ok K)(e:Int)(out:List aR):(jU x e out).1.ok K/\(jU x e out).2.length<=out.length+600:=by refine⟨aN.take_ok0 dx a e 64 .empty,?_⟩;unfold jU;dsimp only;split;{have:=aN.take_len a e 64 .empty;rw[dw];omega};{omega}
def BS(b:x.ok K)(out:List aR){q:aN×List aR}(h:oW x out=some q):q.1.ok K/\q.2.length<=out.length+1200:=by obtain⟨a,c⟩:=aN.qw dx gZ b 1 0 0 0;obtain⟨b1,b2⟩:=aN.qw dx gZ a 0 0 0 0;unfold oW at h;split at h;{cases h;obtain⟨c1,c2⟩:=EL a 1 (out++(x.carry aS bC 1 0 0 0).2.1);rw[dw]at c2;exact⟨c1,V⟩};{split at h;{cases h;obtain⟨c1,c2⟩:=EL b1 0 (out++((x.carry aS bC 1 0 0 0).1.carry aS bC 0 0 0 0).2.1);rw[dw]at c2;exact⟨c1,V⟩};{cases h}}
def PL(a:x.ok K):(Gf x).ok K:=(aN.qw dx gZ (aN.qw dx gZ a 1 0 0 0).1 0 0 0 0).1
def Kn:∀(k:Nat){x:aN}{out:List aR},x.ok K->(qq k x out).1.ok K/\(qq k x out).2.1.length<=out.length+k*1200
 |0,x,out,h=>⟨h,by simp[qq]⟩
 |k+1,x,out,h=>by
  unfold qq;cases a:oW x out with
  |none=>exact⟨PL h,by dsimp only;omega⟩
  |some q=>
   obtain⟨c1,c2⟩:=BS h out a;obtain⟨d1,d2⟩:=Kn k (out:=q.2) c1;exact⟨d1,by dsimp only;omega⟩
def aN.deliver_ok(a:x.ok K):x.deliver.1.ok K/\x.deliver.2.1.length<=120000000:=by have:=Kn 100000 (out:=[]) a;unfold aN.deliver;simpa using this
end
structure aZ where
 lk:aN
 bk:ca
structure aZ.ok(X:aZ)(K N:Nat):Prop where
 lk:X.lk.ok K
 bk:X.bk.size<=N
def aR.I8(r:aR)(l:List cg):dh (r.j0 l)<=dh l+1:=by have a:dh (if r.begins then l++[⟨[],[]⟩]else l)<=dh l+(if r.begins then 1 else 0):=by{split;{rw[wN];simp};{omega}};unfold aR.j0;split;{rename_i h;have b:r.begins=false:=by{unfold aR.begins;rw[ed V,eh h.1];simp[h.2]};rw[b]at a⊢;exact fq (zi (fun e=>by simp[sG];omega)) (by simp at a⊢)};{split;{rename_i h;have b:r.begins=false:=by{unfold aR.begins;rw[eh h.1];simp[h.2]};rw[b]at a⊢;exact fq (zi (fun e=>by simp[tt];omega)) (by simp at a⊢)};{exact fq a (by split<;>omega)}}
namespace ca
def add1_one(x:ca)(r:aR):(x.add1 r).size<=x.size+1:=by unfold add1 size;split;{have:=r.I8 x.a;dsimp only;omega};{split;{have:=r.I8 x.b;dsimp only;omega};{omega}}
def add_one:∀(a:List aR)(x:ca),(x.add a).size<=x.size+a.length
 |[],x=>Z
 |r::t,x=>by
  have b:=add_one t (x.add1 r);have c:=x.add1_one r;show((x.add1 r).add t).size<=_;rw[hH];omega
end ca
def Yg:bm:=⟨#[46]⟩
def Sa:bm:=⟨#[110,111,110,101]⟩
def OX:bm:=⟨#[59,32]⟩
def zV(e:Int):bm:=⟨#[99,111,100,101,32]⟩++⟨(gq e).toArray⟩
def nH(rs:List aR):bm:=if rs=[]then Yg else⟨(Lib.join ((rs.map aR.text).map (·.data.toList)) OX.data.toList).toArray⟩
namespace aZ
def ask(X:aZ)(e k:Int)(d:bm)(m:Int):aZ×bm:=
 if(X.lk.request aS e k d m).2.2=0 then(⟨(X.lk.request aS e k d m).1,X.bk.add (X.lk.request aS e k d m).2.1⟩,nH (X.lk.request aS e k d m).2.1)
 else(⟨(X.lk.request aS e k d m).1,X.bk⟩,zV (X.lk.request aS e k d m).2.2)
end aZ
def jy:Nat->aN->List aR->aN×List aR
 |0,x,out=>(x,out)
 |k+1,x,out=>jy k (x.tick aS).1 (out++(x.tick aS).2)
namespace aZ
def tick(X:aZ)(n:Nat):aZ×bm:=(⟨(jy n X.lk []).1,X.bk.add (jy n X.lk []).2⟩,nH (jy n X.lk []).2)
def carry(X:aZ)(e k p m:Int):aZ×bm:=
 if(X.lk.carry aS bC e k p m).2.2=true then(⟨(X.lk.carry aS bC e k p m).1,X.bk.add (X.lk.carry aS bC e k p m).2.1⟩,nH (X.lk.carry aS bC e k p m).2.1)
 else(⟨(X.lk.carry aS bC e k p m).1,X.bk⟩,Sa)
def bring(X:aZ)(e:Int)(f:bm):aZ×bm:=(⟨(X.lk.bring aS bC e f).1,X.bk.add (X.lk.bring aS bC e f).2⟩,nH (X.lk.bring aS bC e f).2)
def deliver(X:aZ):aZ:=⟨X.lk.deliver.1,X.bk.add X.lk.deliver.2.1⟩
def tick1(X:aZ):aZ:=⟨(X.lk.tick aS).1,X.bk.add (X.lk.tick aS).2⟩
def settleGo:Nat->aZ->Nat->aZ×Nat
 |0,X,n=>(X,n)
 |k+1,X,n=>if X.lk.quiet=true then(X,n)else settleGo k X.tick1.deliver (n+1)
def quietT:bm:=⟨#[32,113,117,105,101,116]⟩
def busyT:bm:=⟨#[32,98,117,115,121]⟩
def settle(X:aZ)(m:Nat):aZ×bm:=((settleGo m X.deliver 0).1,⟨(gq ((settleGo m X.deliver 0).2:Nat)).toArray⟩++(if(settleGo m X.deliver 0).1.lk.quiet=true then quietT else busyT))
end aZ
def pw(e:cg):bm:=⟨(gq (e.sent.length:Nat)).toArray⟩++⟨#[47]⟩++⟨(gq (e.got.length:Nat)).toArray⟩
def ob(l:List cg):bm:=if l=[]then⟨#[45]⟩else⟨(Lib.join ((l.map pw).map (·.data.toList)) [32]).toArray⟩
def aR.M5{r:aR}(h:r.fits):r.text.size<=4200:=by have g:=Ey h.u;have i:(Lib.itoa r.who).length<=21:=ahA _ (by rcases h.who with e|e<;>omega) (by rcases h.who with e|e<;>omega);have c:(Lib.itoa r.rk).length<=21:=ahA _ (by have:=h.rk;omega) (by have:=h.rk;omega);have d:(Lib.itoa r.rn).length<=21:=ahA _ (by have:=h.rn;omega) (by have:=h.rn;omega);have f:=Ft r.sg.kind r.sg.data.data.toList r.sg.self r.sg.code.toNat r.sg.n (by have:=h.sg.n;omega) (by have:=h.sg.n;omega);have a:r.sg.data.data.toList.length<=200:=by{have:=h.sg.data;rw[P0];exact this};have b:=tq r.rd.data.toList;have p:r.rd.data.toList.length<=200:=by{have:=h.rd;rw[P0];exact this};unfold aR.text;rw[acy];unfold gN;(repeat' split);(all_goals simp only[dw,hH,RT];omega)
def vS{rs:List aR}(h:eH rs):(nH rs).size<=1+rs.length*4202:=by unfold nH;split;{show 1<=_;omega};{rw[acy];refine fq (CF _ 4200 _ fun x a=>?_) ?_;{rw[ahz]at a;obtain⟨r,b,rfl⟩:=nm.1 a;have:=aR.M5 (h r b);show(r.text.data.toList).length<=_;rw[P0];exact this};{rw[pt,pt];show _*(4200+2)<=_;omega}}
def XL(e:cg):(pw e).size<=e.sent.length+e.got.length+3:=by unfold pw;rw[jX,jX,acy,acy,acy];have a:=IZ e.sent.length;have b:=IZ e.got.length;simp only[hH,RT];omega
def VE(a:af)(l:List (af)):(Lib.join l a).length<=Lib.lens l+l.length*a.length:=by cases l with|nil=>simp[Lib.join_nil]|cons x r=>{rw[Lib.join_length,hH,ady,afA a.length];omega}
def J7:∀l:List cg,Lib.lens ((l.map pw).map (·.data.toList))+l.length<=4*dh l
 |[]=>by simp[Lib.lens,dh]
 |e::r=>by
  have a:=J7 r;have b:=XL e;have c:(pw e).data.toList.length=(pw e).size:=by rw[P0];rfl
  simp only[ahu,Lib.lens,hH,dh,afW]at a⊢;omega
def wL(l:List cg):(ob l).size<=1+4*dh l:=by unfold ob;split;{show 1<=_;omega};{rw[acy];have a:=VE [32] ((l.map pw).map (·.data.toList));have b:=J7 l;simp only[pt,hH,RT,ahd]at a;omega}
namespace aZ
variable{X:aZ}{K N:Nat}
def ticks_ok:∀(k:Nat){x:aN}{out:List aR},x.ok K->eH out->(jy k x out).1.ok K/\(jy k x out).2.length<=out.length+k*600/\eH (jy k x out).2
 |0,x,out,h,hf=>⟨h,by simp[jy],hf⟩
 |k+1,x,out,h,hf=>by
  obtain⟨d,f⟩:=aN.tick_ok dx h;have e:=aN.tick_fits dx h;obtain⟨a,b,c⟩:=ticks_ok k (out:=out++(x.tick aS).2) d (hf.append e);refine⟨a,?_,c⟩;rw[dw]at b;show(jy k (x.tick aS).1 (out++(x.tick aS).2)).2.length<=_;omega
def deliver_ok(h:X.ok K N):X.deliver.ok K (N+120000000):=by obtain⟨a,b⟩:=aN.deliver_ok h.lk;refine⟨a,?_⟩;have:=ca.add_one X.lk.deliver.2.1 X.bk;have:=h.bk;show(X.bk.add X.lk.deliver.2.1).size<=_;omega
def tick1_ok(h:X.ok K N):X.tick1.ok K (N+600):=by obtain⟨a,b⟩:=aN.tick_ok dx h.lk;refine⟨a,?_⟩;have:=ca.add_one (X.lk.tick aS).2 X.bk;have:=h.bk;show(X.bk.add (X.lk.tick aS).2).size<=_;omega
def settleGo_ok:∀(m:Nat){X:aZ}{N:Nat}(n:Nat),X.ok K N->(settleGo m X n).1.ok K (N+m*120000600)/\(settleGo m X n).2<=n+m
 |0,X,N,n,h=>⟨by simpa[settleGo]using h,by simp[settleGo]⟩
 |m+1,X,N,n,h=>by
  unfold settleGo;split
  ·exact⟨⟨h.lk,by have:=h.bk;dsimp only;omega⟩,by dsimp only;omega⟩
  ·obtain⟨a,b⟩:=settleGo_ok m (n+1) (deliver_ok (tick1_ok h))
   exact⟨⟨a.lk,by have:=a.bk;omega⟩,V⟩
end aZ
section
variable{E:Ex}{F G:Np}{H:AH}{s w b K:Nat}{Q:Qt}{W:Wd}{R:List aa3}{v:bn}{x:aN}
def U8(hX:oF aS rF E)(hO:xc E bC)(hx:x.ok K)(hK:K+1<=20000)(fw:Fz W (aa w) dQ)(S:St F G H s W (⟨aa b,bN w x⟩::R))(h:∀H' s' v',St F G H' s' W (⟨v',ej x.deliver.2.1⟩::⟨aa b,bN w x.deliver.1⟩::R)->Q (.tuple #[v',.bool x.deliver.2.2]) H' s'):Wp F G (CA E (n+14) 73 #[aa b]) H s Q:=by have hE:=hX.toBare;refine en hE [] func73 ntmps73 ?_;simp;refine acs (fun kk tm H' s'=>∃(i:Nat)(Y:aN)(O:List aR)(vo:bn),i+kk=100000/\Y.ok K/\O.length+kk*1200<=120000000/\qq kk Y O=x.deliver/\tm.size=62/\aF tm 0=aa b/\aF tm 4=vo/\aF tm 10=iv (i:Nat)/\St F G H' s' W (⟨vo,ej O⟩::⟨aa b,bN w Y⟩::R)) (k:=100000) (by unfold LF;omega) ⟨0,x,[],aJ,V,hx,J,rfl,J,J,J,J,S.ma⟩ ?_;clear S;rintro kk tm H1 s1⟨i,Y,O,vo,D,hY,m,p,l,z,B,r,S⟩;rw[mk0 tm];obtain⟨hd,g,S0⟩:=S.pV;obtain⟨ao,lo,rfl,-⟩:=S0.shape;clear S0;simp[l,z,r];cases kk with|zero=>{have hi:i=100000:=V;subst hi;unfold qq at p;obtain⟨q,S1⟩:=(S.ae (aa b)).uI;obtain⟨kb,fb,gb,lb⟩:=S1.cell;obtain⟨r0,S2⟩:=(S1.ae (aa q.p0)).ur;obtain⟨k0,f0,g0,l0⟩:=S2.cell;obtain⟨hb,f,a0,N,S3⟩:=(S2.ae (aa r0)).iP;obtain⟨c,fr0,X,C⟩:=S3.cell;obtain⟨r1,T2⟩:=(S1.ae (aa q.p1)).ur;obtain⟨k1,f1,g1,l1⟩:=T2.cell;obtain⟨M,e,a1,hc,T3⟩:=(T2.ae (aa r1)).iP;obtain⟨d,fr1,L,T⟩:=T3.cell;have ha:=hY.p0.len;have A:=hY.p1.len;have o:=hY.p0.room;have j:=hY.p1.room;have hw:IntKind.i64.wrap ((Y.p0.l.length:Int)+Y.p1.l.length)=(Y.p0.l.length:Int)+Y.p1.l.length:=cL V V;have v:decide (Y.p0.l.length+Y.p1.l.length=0)=decide ((Y.p0.l.length:Int)+Y.p1.l.length=0):=by{by_cases h0:Y.p0.l.length+Y.p1.l.length=0;{rw[z8 h0,z8 V]};{rw[HQ h0,HQ V]}};simp[l,z,B,r];refine Ir kb fb 0 ?_;simp[k0,f0,bR.cells,l,z,B,r];refine sJ c fr0 ?_;simp[l,z,B,r];refine Ir kb fb 1 ?_;simp[k1,f1,bR.cells,l,z,B,r];refine sJ d fr1 ?_;simp[l,z,B,r,hw];rw[<-p]at h;dsimp only at h;rw[v]at h;exact h _ _ _ S}|succ k=>{have hw:=wi (i:=i) V;have a:(i:Int)<100000:=V;unfold qq at p;simp[l,z,B,r,a];refine Cx hX dx hO gZ hY fw 1 0 0 0 V V (S.ae (aa b)) fun H2 s2 v2 S2=>?_;obtain⟨c1,c2⟩:=aN.qw dx gZ hY 1 0 0 0;cases hs1:(Y.carry aS bC 1 0 0 0).2.2 with|true=>{simp[-bM,l,z,B,r];refine wh V (S2.aD [.slice ao lo lo,v2]) fun H4 s4 a4 S4=>?_;simp[l,z,B,r];refine Cl hX dx c1 hK fw 1 10 64 .empty (S4.ae (aa b)) fun H5 s5 v5 S5=>?_;have u:oW Y O=some (jU (Y.carry aS bC 1 0 0 0).1 1 (O++(Y.carry aS bC 1 0 0 0).2.1)):=(by unfold oW;rw[eh hs1]);obtain⟨P,n2⟩:=BS hY O u;rw[u]at p;dsimp only at p;by_cases h0:(((Y.carry aS bC 1 0 0 0).1).request aS 1 10 .empty 64).2.2=0;{have t:jU (Y.carry aS bC 1 0 0 0).1 1 (O++(Y.carry aS bC 1 0 0 0).2.1)=((((Y.carry aS bC 1 0 0 0).1).request aS 1 10 .empty 64).1,O++(Y.carry aS bC 1 0 0 0).2.1++(((Y.carry aS bC 1 0 0 0).1).request aS 1 10 .empty 64).2.1):=by{unfold jU;rw[eh h0]};rw[t]at p P n2;dsimp only at p P n2;have n3:=n2;rw[dw,dw]at n3;simp[-bM,l,z,B,r,h0];have S6:=S5.aD [.slice a4 (O.length+((Y.carry aS bC 1 0 0 0).2.1).length) (O.length+((Y.carry aS bC 1 0 0 0).2.1).length),v5];refine wh (by rw[dw];omega) S6 fun H7 s7 a7 S7=>?_;simp[l,z,B,r];simp only[dw]at S7;exact⟨k,V,i+1,V,_,P,_,V,p,hw,S7⟩};{have t:jU (Y.carry aS bC 1 0 0 0).1 1 (O++(Y.carry aS bC 1 0 0 0).2.1)=((((Y.carry aS bC 1 0 0 0).1).request aS 1 10 .empty 64).1,O++(Y.carry aS bC 1 0 0 0).2.1):=by{unfold jU;rw[ed h0]};rw[t]at p P n2;dsimp only at p P n2;simp[l,z,B,r,h0];exact⟨k,V,i+1,V,_,P,_,V,p,hw,(S5.az v5).aD [.slice a4 (O.length+((Y.carry aS bC 1 0 0 0).2.1).length) (O.length+((Y.carry aS bC 1 0 0 0).2.1).length),aa b]⟩}}|false=>{simp[l,z,B,r];refine Cx hX dx hO gZ c1 fw 0 0 0 0 V V ((S2.az v2).ae (aa b)) fun H3 s3 v3 S3=>?_;obtain⟨d1,d2⟩:=aN.qw dx gZ c1 0 0 0 0;cases hs0:((Y.carry aS bC 1 0 0 0).1.carry aS bC 0 0 0 0).2.2 with|true=>{simp[-bM,l,z,B,r];refine wh V (S3.aD [.slice ao lo lo,v3]) fun H4 s4 a4 S4=>?_;simp[l,z,B,r];refine Cl hX dx d1 hK fw 0 10 64 .empty (S4.ae (aa b)) fun H5 s5 v5 S5=>?_;have u:oW Y O=some (jU ((Y.carry aS bC 1 0 0 0).1.carry aS bC 0 0 0 0).1 0 (O++((Y.carry aS bC 1 0 0 0).1.carry aS bC 0 0 0 0).2.1)):=(by unfold oW;rw[ed (by rw[hs1];simp),eh hs0]);obtain⟨P,n2⟩:=BS hY O u;rw[u]at p;dsimp only at p;by_cases h0:((((Y.carry aS bC 1 0 0 0).1.carry aS bC 0 0 0 0).1).request aS 0 10 .empty 64).2.2=0;{have t:jU ((Y.carry aS bC 1 0 0 0).1.carry aS bC 0 0 0 0).1 0 (O++((Y.carry aS bC 1 0 0 0).1.carry aS bC 0 0 0 0).2.1)=(((((Y.carry aS bC 1 0 0 0).1.carry aS bC 0 0 0 0).1).request aS 0 10 .empty 64).1,O++((Y.carry aS bC 1 0 0 0).1.carry aS bC 0 0 0 0).2.1++((((Y.carry aS bC 1 0 0 0).1.carry aS bC 0 0 0 0).1).request aS 0 10 .empty 64).2.1):=by{unfold jU;rw[eh h0]};rw[t]at p P n2;dsimp only at p P n2;have n3:=n2;rw[dw,dw]at n3;simp[-bM,l,z,B,r,h0];have S6:=S5.aD [.slice a4 (O.length+(((Y.carry aS bC 1 0 0 0).1.carry aS bC 0 0 0 0).2.1).length) (O.length+(((Y.carry aS bC 1 0 0 0).1.carry aS bC 0 0 0 0).2.1).length),v5];refine wh (by rw[dw];omega) S6 fun H7 s7 a7 S7=>?_;simp[l,z,B,r];simp only[dw]at S7;exact⟨k,V,i+1,V,_,P,_,V,p,hw,S7⟩};{have t:jU ((Y.carry aS bC 1 0 0 0).1.carry aS bC 0 0 0 0).1 0 (O++((Y.carry aS bC 1 0 0 0).1.carry aS bC 0 0 0 0).2.1)=(((((Y.carry aS bC 1 0 0 0).1.carry aS bC 0 0 0 0).1).request aS 0 10 .empty 64).1,O++((Y.carry aS bC 1 0 0 0).1.carry aS bC 0 0 0 0).2.1):=by{unfold jU;rw[ed h0]};rw[t]at p P n2;dsimp only at p P n2;simp[l,z,B,r,h0];exact⟨k,V,i+1,V,_,P,_,V,p,hw,(S5.az v5).aD [.slice a4 (O.length+(((Y.carry aS bC 1 0 0 0).1.carry aS bC 0 0 0 0).2.1).length) (O.length+(((Y.carry aS bC 1 0 0 0).1.carry aS bC 0 0 0 0).2.1).length),aa b]⟩}}|false=>{have y:oW Y O=none:=by{unfold oW;rw[ed (by rw[hs1];simp),ed (by rw[hs0];simp)]};rw[y]at p;dsimp only at p;simp[l,z,B,r];rw[<-p]at h;exact h _ _ _ ((S3.az v3).aD [.slice ao lo lo,aa b])}}}
end
section
open Go.RowKit
def uL:List (bn×bn)->List (Int×Int×Int)->Bool
 |[],[]=>true
 |(.agg cs,iv n)::r,p::t=>(match cs.toList with
  |[iv a,iv b]=>a==p.1&&(b==p.2.1&&(n==p.2.2&&uL r t))
  |_=>false)
 |_,_=>false
def I2:∀{c:List (bn×bn)}{l:List (Int×Int×Int)},uL c l=true->c=l.map fun p=>(.agg #[iv p.1,iv p.2.1],iv p.2.2)
 |[],[],_=>rfl
 |[],_::_,h=>by simp[uL]at h
 |_::_,[],h=>by
  unfold uL at h;split at h<;>simp_all
 |x::r,p::t,h=>by
  unfold uL at h;split at h
  ·rename_i e1 e2;cases e1
  ·rename_i cs n m k o e1 e2
   cases e1;cases e2;split at h
   ·rename_i a b j
    simp only[ev,ahr]at h;obtain⟨e,f,g,i⟩:=h;have d:cs=cs.toList.toArray:=J;rw[I2 i,ahu,d,j,e,f,g]
   ·cases h
  ·cases h
def EK(x:Option (bE bn)):Bool:=
 match x with
 |some o=>(match o.val with
  |.map (some m)=>(match o.H m with
   |some (.map kv)=>uL kv qI
   |_=>false)
  |_=>false)
 |none=>false
noncomputable def AT:Option (bE bn):=cE prog E0 10 329 #[] (fun _=>none) 0
def Nd:EK AT=true:=U
def Nf:∃o m,AT=some o/\o.val=.map (some m)/\o.H m=some (.map qJ):=by have h:=Nd;unfold EK at h;cases a:AT with|none=>{rw[a]at h;cases h}|some o=>{rw[a]at h;dsimp only at h;split at h;{rename_i m c;split at h;{rename_i d b;exact⟨o,m,rfl,c,by rw[b,I2 h];rfl⟩};{cases h}};{cases h}}
def Nc:(qJ.map (·.1)).all flat=true:=U
def Nb:(qJ.map (·.2)).all flat=true:=U
def Ng (args:ahG) (H:AH) (s:Nat) (q:bE bn) (h:tZ args H s=some q) (φ:Ren) (w:bt) (a:ahG) (n:WR prog φ H w) (K:VA φ args a) (L:dz φ s q.s):Calls prog 329 a w (dH prog φ H w s q):=by unfold tZ at h;split at h;{rename_i N;simp[AX.bind,AX.new,AX.ret]at h;subst h;obtain rfl:a=#[]:=Pp (by rw[<-K.len];exact N);obtain⟨o,m,e1,e2,e3⟩:=Nf;refine(KH 10 _ #[] (fun _=>none) 0 o e1 (fun _=>none) w #[] ⟨fun b x h=>(by cases h),fun b R x S im O h=>(by cases h),mL.start n.env.ok (fun k⟨b,x,im,h,_⟩=>(by cases h))⟩ ⟨rfl,fun i v v' h=>by simp at h⟩ (fun _ _ _=>rfl)).mono ?_;rintro e t⟨Q,v',rfl,_,r,wr,d⟩;rw[e2]at r;cases r with|map hm=>{rename_i im;obtain⟨P,l,A⟩:=wr.blk m _ e3;rw[hm]at l;cases l;have p:∀k,¬gH (fun _=>none) (fun _=>none) k:=fun k h=>by{obtain⟨b,x,im,G,_⟩:=h;cases G};have f:Below w.heap.size w t:=⟨d.os,d.tape,d.output,d.size,fun k M=>d.block k M (p k)⟩;have j:w.heap.size<=im.blk:=(d.sub im.blk ⟨m,_,im,e3,rfl,hm,rfl⟩).elim (fun h=>absurd h (p _)) id;obtain⟨B,c,C,D,E,F⟩:=A;have g:BR prog φ im (.map qJ) t:=⟨B,c,C,zD D Nc,zD E Nb,F⟩;obtain⟨u,y,z⟩:=n.under f (L s Z (X3 _)) j g;exact⟨_,_,rfl,z,.map (im:=im) J,u,y⟩}};{cases h}
def Tn(xs:ahG):LS (tZ xs):=LS.ite (LS.bind (LS.new _) fun b=>LS.ret _) LS.fail
def Kw(D:∀(b:Nat)(d:Array MapEntry)(a:Nat)(w:bt),w.heap[b]? =some (.map d a)->Calls prog f #[.map (some b)] w fun e g=>e=.returned (.map (some w.heap.size))/\g=w.alloc (.map d a))(C:∀w:bt,Calls prog f #[.map none] w fun e g=>e=.returned (.map none)/\g=w)(args:ahG)(H:AH)(s:Nat)(q:bE bn)(h:py args H s=some q)(φ:Ren)(w:bt)(c:ahG)(i:WR prog φ H w)(n:VA φ args c)(o:dz φ s q.s):Calls prog f c w (dH prog φ H w s q):=by obtain⟨args⟩:=args;unfold py at h;dsimp only at h;split at h;{obtain⟨u,rfl,j⟩:=vy n;cases j;simp[AX.ret]at h;subst h;exact oS i .mapNil ((C w).mono fun e g⟨e1,e2⟩=>⟨e1,by rw[e2];exact Below.refl _ _⟩)};{rename_i b;obtain⟨u,rfl,j⟩:=vy n;obtain⟨L,N,A,B,rfl⟩:=AX.bind_some h;obtain⟨d1,d2,d3⟩:=u7 A;obtain⟨M,O,l,m,rfl⟩:=AX.bind_some B;simp only[AX.new,el]at l;subst l;simp[AX.ret]at m;subst m;simp only[d2,d3]at o⊢;cases j with|map hb=>{rename_i im;obtain⟨t,k,z⟩:=i.iW d1;rw[hb]at k;cases k;obtain⟨d,a,E,F,G,K⟩:=z;refine(D im.blk d a w E).mono ?_;rintro e g⟨rfl,rfl⟩;have p:Below w.heap.size w (w.alloc (.map d a)):=(Below.refl _ w).alloc Z _;have r:BR prog φ ⟨w.heap.size,0,0,0⟩ (.map L.val) (w.alloc (.map d a)):=⟨d,a,aec w _,F,G,K⟩;obtain⟨v,x,y⟩:=i.under p (o s Z (X3 _)) Z r;exact⟨_,_,rfl,y,.map (im:=⟨w.heap.size,0,0,0⟩) J,v,x⟩}};{cases h}
def Io(xs:ahG):LS (py xs):=by unfold py;split;{exact LS.ret _};{exact LS.bind (yY) fun a=>LS.bind (LS.new _) fun c=>LS.ret _};{exact LS.fail}
def YK(args:ahG)(H:AH)(s:Nat)(q:bE bn)(h:py args H s=some q)(φ:Ren)(w:bt)(a:ahG)(g:WR prog φ H w)(d:VA φ args a)(f:dz φ s q.s):Calls prog 294 a w (dH prog φ H w s q):=
 Kw (fun b c p w e=>AnyW.maps_Clone Tryz.Jz b c p w e) (fun w=>AnyW.maps_Clone_nil Tryz.Jz w) args H s q h φ w a g d f
def YL(args:ahG)(H:AH)(s:Nat)(q:bE bn)(h:py args H s=some q)(φ:Ren)(w:bt)(a:ahG)(g:WR prog φ H w)(d:VA φ args a)(f:dz φ s q.s):Calls prog 295 a w (dH prog φ H w s q):=
 Kw (fun b c p w e=>AnyW.maps_Clone Tryz.JA b c p w e) (fun w=>AnyW.maps_Clone_nil Tryz.JA w) args H s q h φ w a g d f
structure vG(f:cd)(g:ahG->AX bn):Prop where
 ls:∀xs,LS (g xs)
 ok:∀(args:ahG)(H:AH)(s:Nat)(q:bE bn),g args H s=some q->∀(φ:Ren)(w:bt)(args':ahG),WR prog φ H w->VA φ args args'->dz φ s q.s->Calls prog f args' w (dH prog φ H w s q)
def jR(L:List (cd×(ahG->AX bn)))(f:cd):Option (ahG->AX bn):=
 match L.find? (fun p=>p.1==f)with
 |some p=>some p.2
 |none=>if rK.contains f=true/\f≠68 then some fun _=>AX.fail else none
def DX{g:ahG->AX bn}(h:jR L f=some g):(f,g)∈L\/g=fun _=>AX.fail:=by unfold jR at h;cases a:L.find? (fun p=>p.1==f)with|some p=>{rw[a]at h;cases h;have b:=List.find?_some a;rw[ahr]at b;rw[<-b];exact .inl (ad2 a)}|none=>{rw[a]at h;dsimp only at h;split at h;{cases h;exact .inr rfl};{cases h}}
def abe(c:L.all (fun p=>rK.contains p.1)=true)(h:rK.contains f=false):jR L f=none:=by unfold jR;cases b:L.find? (fun p=>p.1==f)with|some p=>{have a:=List.find?_some b;rw[ahr]at a;have:=eu.1 c p (ad2 b);rw[a,h]at this;cases this}|none=>{dsimp only;rw[ed (by rw[h];simp)]}
def abd(h:∀p∈L,vG p.1 p.2):xh prog (jR L) where
 loc:=fun f g j e=>by
  rcases DX e with a|rfl
  ·exact((h _ a).ls j).loc
  ·exact LS.fail.loc
 ok:=fun f g e t H s q b φ w r i c d=>by
  rcases DX e with a|rfl
  ·exact(h _ a).ok t H s q b φ w r i c d
  ·cases b
def abf(h:∀p∈L,vG p.1 p.2)(f:cd)(g:ahG->AX bn)(xs:ahG)(e:jR L f=some g):LS (g xs):=by rcases DX e with a|rfl;{exact(h _ a).ls xs};{exact LS.fail}
end
section
open Go.Lib Go.RowKit
def K4(w:bt)(n:Nat)(os:Array Go.Obj):Below w.heap.size w (Sort.grow (Sort.ahead w n) os):=by refine⟨rfl,rfl,rfl,?_,fun k a=>?_⟩;{show w.heap.size<=(w.heap++os).size;rw[Array.size_append];omega};{show(w.heap++os)[k]? =w.heap[k]?;rw[Array.getElem?_append_left a]}
def YI(x y:Int):(Lib.compareInt x y<0)↔x<y:=by unfold Lib.compareInt;by_cases a:x<y;{simp[a]};{by_cases b:y<x<;>simp[a,b]}
def yU(x y:Int×Int):ltOf (fun x y:Int×Int=>Lib.compareInt x.1 y.1) x y=decide (x.1<y.1):=by unfold ltOf;simp only[YI]
def Nz:Sort.SWO (ltOf fun x y:Int×Int=>Lib.compareInt x.1 y.1) where
 irrefl x:=by rw[yU];simp
 trans x y z h1 h2:=by rw[yU]at*;simp at*;omega
 ntrans x y z h1 h2:=by rw[yU]at*;simp at*;omega
def vi(base x y:Int):Int:=ch base x-ch base y
def yV(base x y:Int):ltOf (vi base) x y=decide (ch base x<ch base y):=by unfold ltOf vi;by_cases h:ch base x<ch base y<;>simp<;>omega
def NA(base:Int):Sort.SWO (ltOf (vi base)) where
 irrefl x:=by rw[yV];simp
 trans x y z h1 h2:=by rw[yV]at*;simp at*;omega
 ntrans x y z h1 h2:=by rw[yV]at*;simp at*;omega
def Ff(key:α->Int):∀{a b:List α},a.Perm b->a.Pairwise (fun x y=>key x<key y)->b.Pairwise (fun x y=>key x<key y)->a=b:=by intro a b e c d;refine List.Perm.eq_of_pairwise (le:=fun x y=>key x<key y) (fun x y _ _ f g=>?_) c d e;omega
def Fg[Inhabited α]{key:α->Int}{k:α->α->Bool}(b:∀x y,k x y=decide (key x<key y))(o:n=d.size)(h:Sort.SortedIn k 0 n d)(a:(d.toList.map key).Nodup):d.toList.Pairwise (fun x y=>key x<key y):=by rw[ad1];intro i j f g p;have r:i<d.size:=by{simpa using f};have q:j<d.size:=by{simpa using g};have c:=h i j (qd _) p V;rw[b,aeD d j q,aeD d i r]at c;have l:key d[i]≠key d[j]:=by{intro e;rw[aeI,ahe,ad1]at a;exact a i j f g p (by simpa using e)};have m:¬key d[j]<key d[i]:=of_decide_eq_false c;simp only[agq];omega
def GM[Inhabited α]{a:Array α}(h:Sort.PermIn 0 d.size d a):a.toList.Perm d.toList/\a.size=d.size:=by obtain⟨q,_,p⟩:=h;rw[show a.extract 0 d.size=a by rw[<-q];exact agJ,agJ]at p;exact⟨p,q⟩
def Jc(key:Int->Int)(x:Int):∀l:List Int,l.Pairwise (fun a b=>key a<=key b)->(np key x l).Pairwise (fun a b=>key a<=key b)
 |[],_=>by simp[np]
 |y::r,h=>by
  obtain⟨d,e⟩:=x4.1 h;unfold np;split
  ·rename_i p
   refine x4.2 ⟨fun z c=>?_,h⟩;rcases pk.1 c with rfl|c
   ·exact p
   ·have:=d z c;omega
  ·rename_i q
   refine x4.2 ⟨fun z c=>?_,Jc key x r e⟩;rcases pk.1 ((zu key x r).mem_iff.1 c)with rfl|c
   ·omega
   ·exact d z c
def Fj(key:Int->Int):∀l:List Int,(eY key l).Pairwise (fun a b=>key a<=key b)
 |[]=>List.Pairwise.nil
 |x::r=>Jc key x _ (Fj key r)
def Om{key:Int->Int}(h:(l.map key).Nodup):(eY key l).Pairwise (fun a b=>key a<key b):=by have c:((eY key l).map key).Nodup:=((vW key l).map key).nodup_iff.2 h;rw[aeI,ahe]at c;refine(c.and (Fj key l)).imp fun h=>?_;omega
def gA(x:Int×Int):bj:=[iv x.1,iv x.2]
def GU:∀{d:bj}{l:List (Int×Int)},nS d=some l->d=l.flatMap gA
 |[],l,h=>by simp[nS]at h;subst h;rfl
 |[v],l,h=>by
  unfold nS at h;split at h<;>simp_all
 |v::u::r,l,h=>by
  unfold nS at h;split at h
  ·rename_i e;cases e
  ·rename_i a b f e
   cases e;cases c:nS r with
   |none=>rw[c]at h;cases h
   |some t=>
    rw[c]at h;cases h;rw[GU c];rfl
  ·cases h
def CR(l:List (Int×Int)):(l.flatMap gA).length=l.length*2:=by induction l with|nil=>rfl|cons p r ih=>{rw[ahy,dw,ih,hH];simp[gA];omega}
def JH:∀(l:List (Int×Int))(t:Nat),t<l.length*2->(l.flatMap gA)[t]? =some ((gA l.toArray[t/2]!)[t%2]!)
 |[],t,h=>by simp at h
 |p::r,0,_=>by simp[gA]
 |p::r,1,_=>by simp[gA]
 |p::r,t+2,h=>by
  have a:t<r.length*2:=by simp at h;omega
  have:=JH r t a;have e1:((p::r).flatMap gA)[t+2]? =(r.flatMap gA)[t]?:=by
   rw[ahy];show(gA p++r.flatMap gA)[t+2]? =_;rw[aho (by simp[gA])];simp[gA]
  have e2:(t+2)/2=t/2+1:=V;have e3:(t+2)%2=t%2:=V;rw[e1,this,e2,e3];simp
def Ga:∀{l:List (Int×Int)},sK l=true->l.Pairwise (fun p q=>p.1<q.1)
 |[],_=>List.Pairwise.nil
 |[_],_=>J
 |p::q::r,h=>by
  have a:(decide (p.1<q.1)&&sK (q::r))=true:=h;rw[ev,ml]at a;have c:=Ga a.2;refine x4.2 ⟨fun z b=>?_,c⟩;rcases pk.1 b with rfl|b
  ·exact a.1
  ·have:=(x4.1 c).1 z b;omega
theorem Rr (x y:Int×Int) (W:bt):Calls prog 343 #[.agg (gA x).toArray,.agg (gA y).toArray] W fun e d=>e=.returned (iv (Lib.compareInt x.1 y.1))/\∃q b,d=Sort.grow (W.drewN q) b:=by have a:=fun c=>AnyG.cmp_Compare_int Tryz.WI x.1 y.1 c;change∀c,Calls prog 344 _ _ _ at a;generalize Lib.compareInt x.1 y.1=r at a⊢;show Calls prog _ #[.agg #[iv x.1,iv x.2],.agg #[iv y.1,iv y.2]] _ _;go_enter func343,ntmps343;go_wp2_with (go_at_call 344;refine(a _).mono ?_;rintro e d ⟨rfl,rfl⟩);go_ret;exact⟨rfl,0,_,by rw[agB,agB,Sort.grow_grow];rfl⟩
def Oi(b c cap:Nat)(l:List (Int×Int))(w:bt)(j:Sort.HoldsK gA 2 w b c l.toArray)(f:b<w.heap.size)(i:l.length<4611686018427387904)(B:sK l=true): Calls prog 342 #[.slice (some ⟨b,c,none⟩) l.length cap,.func (.func 343) #[] #[]] w fun e o=>e=.returned (.tuple #[])/\Below w.heap.size w o:=by have s:∀d w,(callFunc 343 d).run prog w=.ok (.enter 343 d) w:=enters_of func343 U rfl;have r:CmpLays prog 343 #[] gA 2 (fun x y=>Lib.compareInt x.1 y.1) b c l.toArray.size w:=fun _ _ _ _ x y=>Rr x y _;have p:=AnyQ.slices_SortFunc Tryz.Jw 2 isAgg387 sizeOf387 gA (fun _=>rfl) (fun x v k=>by simp[gA]at k;rcases k with rfl|rfl<;>rfl) (fun x y=>Lib.compareInt x.1 y.1) Nz 343 #[] b c cap l.toArray w s r j f (by simpa using i);change Calls prog 342 _ _ _ at p;rw[(J:l.toArray.size=l.length)]at p;refine p.mono ?_;rintro e o⟨rfl,g,n,D,A,C,rfl⟩;refine⟨rfl,?_⟩;have t:Sort.PermIn 0 l.toArray.size l.toArray g:=by{simpa using A};obtain⟨m,E⟩:=GM t;have q:=Ga B;have a:(g.toList.map (·.1)).Nodup:=by{have:(l.map (·.1)).Nodup:=by{rw[aeI,ahe];exact q.imp fun h=>V};exact(m.map _).nodup_iff.2 (by simpa using this)};have z:g.toList=l:=Ff (·.1) (by simpa using m) (Fg (key:=(·.1)) yU (by simpa using E.symm) C a) q;have u:g=l.toArray:=by{rw[<-z]};subst u;unfold sortWorldK;rw[Sort.putRowK_self _ _ _ _ _ _ (Sort.holdsK_ahead gA 2 w n b c _ j)];exact K4 w n D
section
variable{φ:Ren}{H:AH}{w:bt}{s:Nat}
def VR.fn{g cs:ahG}(h:VR φ (.func (.func f) g cs) v'):∃i e,v'=.func (.func f) i e/\VA φ g i/\VA φ cs e:=by cases h with|func a b c d h1 h2 h3 h4=>{exact⟨_,_,rfl,⟨h1,h2⟩,⟨h3,h4⟩⟩}
def VA.empty{l:ahG}(h:VA φ #[] l):l=#[]:=Pp h.len.symm
def VR.sl{a:Option Addr}(h:VR φ (.slice a n m) v'):∃p b,v'=.slice p n b:=by cases h<;>exact⟨_,_,rfl⟩
def VR.Fp{d:Nat}(h:VR φ (.slice (some ⟨d,o,none⟩) n m) v')(b:n≠0):∃im a,φ d=some im/\v'=.slice (some ⟨im.blk,im.base+o,none⟩) n a/\n<=a/\o+a*im.es<=im.lim/\a<=maxLen:=by cases h with|slice hb hn hc hm=>exact⟨_,_,hb,rfl,hn,hc,hm⟩|slice0=>{exact absurd rfl b}
def ME{b:Nat}{x:AB}(h:H b=some x):aG H b (some x)=H:=by funext k;by_cases a:k=b;{subst a;rw[bX,h]};{rw[aH _ _ a]}
def Jo{b:Nat}(f:H b=some (.cells cs T true))(m:WR prog φ H w)(a:φ b=some im){l:bj}(k:(cs.drop o).take n=l)(B:l.length=n)(h:l.all flat=true):im.blk<w.heap.size/\∀j,j<n->w.cell? ⟨im.blk,im.base+o+j,none⟩=l[j]?/\w.frozen? ⟨im.blk,im.base+o+j,none⟩=false:=by obtain⟨t,p,r⟩:=m.blk b _ f;rw[a]at p;cases p;obtain⟨u,s,v,c,x,y,d,z,e,A⟩:=id r;obtain⟨rfl,_,_⟩:=e rfl;refine⟨r.lt,fun j i=>⟨?_,by simp[World.frozen?,c]⟩⟩;have q:l[j]? =some l[j]:=ei V;have g:cs[o+j]? =some l[j]:=by{rw[<-q,<-k,ade i,NL]};obtain⟨v',e1,e2,_⟩:=d _ _ g;have:=e2.gv (eu.1 h _ (wk _));subst this;rw[q];simp[World.cell?,c,adr,e1]
def CS:∀l:List (Int×Int),(l.flatMap gA).all flat=true
 |[]=>rfl
 |p::r=>by rw[ahy,aey,CS r];rfl
def Fh (args:ahG) (H:AH) (s:Nat) (q:bE bn) (h:mQ args H s=some q) (φ:Ren) (w:bt) (b:ahG) (C:WR prog φ H w) (N:VA φ args b):Calls prog 342 b w (dH prog φ H w s q):=by obtain⟨args⟩:=args;unfold mQ at h;dsimp only at h;split at h;{rename_i a n m f L cs;split at h;{rename_i P;obtain⟨rfl,B,A⟩:=P;obtain⟨E,c',rfl,K,r2⟩:=wV N;obtain⟨gs,ds,rfl,X,Y⟩:=r2.fn;obtain rfl:L=#[]:=Pp (by have:=congrArg List.length B;simpa using this);obtain rfl:cs=#[]:=Pp (by have:=congrArg List.length A;simpa using this);obtain rfl:=X.empty;obtain rfl:=Y.empty;have c:∀{p:Option Addr}{g:Nat}{D:List Nat},n=0->E=.slice p n g->Calls prog 342 #[E,.func (.func 343) #[] #[]] w (dH prog φ H w s ⟨.tuple #[],H,s,D,[]⟩):=by{intro p g D y e;subst y;subst e;refine oS C VR.undef ?_;have k:=AnyF.slices_SortFunc_none Tryz.Jw p g (.func (.func 343) #[] #[]) w;change Calls prog 342 _ _ _ at k;refine k.mono ?_;rintro e w'⟨rfl,rfl⟩;exact⟨rfl,Below.refl _ _⟩};obtain⟨p,g,G⟩:=K.sl;split at h;{rename_i d o;obtain⟨z,o1,M,i,rfl⟩:=AX.bind_some h;obtain⟨c1,c2,c3,c4⟩:=tE M;rw[c2,c3]at i;generalize S:nS ((z.val.1.drop o).take (n*2))=yl at i;split at i;{rename_i l;split at i;{rename_i r;obtain⟨T,k2,k3,W,k5⟩:=r;simp[AX.ret]at i;subst i;simp only[c4,ahl,adu];by_cases x:n=0;{exact c x G};{have v:=GU S;have F:l.length*2=n*2:=by{have:=congrArg List.length v;rw[CR]at this;simp at this;omega};obtain rfl:l.length=n:=V;obtain⟨im,u,O,rfl,hn,Q,hm⟩:=K.Fp x;rw[T]at c1;obtain⟨b1,b2⟩:=Jo (o:=o) (n:=l.length*2) c1 C O v (CR l) (CS l);refine oS C VR.undef ?_;refine Oi im.blk (im.base+o) u l w ?_ b1 ?_ W;{intro j R;have t:j<l.length*2:=by{simpa using R};obtain⟨e1,e2⟩:=b2 j t;refine⟨?_,e2⟩;rw[e1,JH l j t,Sort.get_flatK _ _ _ _ (by simpa using t)];rfl};{omega}}};{cases i}};{cases i}};{split at h;{rename_i y;simp[AX.ret]at h;subst h;exact c y G};{cases h}}};{cases h}};{cases h}
theorem P1 (g b f a:Nat) (base x y:Int) (W:bt) (c:W.cell? ⟨g,b,none⟩=some (.pointer (some ⟨f,a,none⟩))) (d:W.cell? ⟨f,a+1,none⟩=some (uv base)): Calls prog 356 #[uv x,uv y,.pointer (some ⟨g,b,none⟩)] W fun e i=>e=.returned (iv (vi base x y))/\∃q,i=W.drewN q:=by have h:IntKind.i64.wrap ((x-base)%16777216-(y-base)%16777216)=(x-base)%16777216-(y-base)%16777216:=by{rw[aeq];omega};go_enter func356,ntmps356;go_wp2_with fail;go_quiet ((go_at_call 271;exact afo ((AR _ _ _).mono fun _ _⟨c,d⟩=>⟨c,d.symm⟩)));go_wp2_with fail;go_ret;exact⟨by simp only[h];rfl,_,rfl⟩
def Ok(b c cap:Nat)(l:List Int)(base:Int)(j d k g:Nat)(w:bt)(F:Sort.Holds (Value.int .u32) w b c l.toArray)(s:b<w.heap.size)(z:l.length<4611686018427387904)(u:(l.map (ch base)).Nodup) (D:w.cell? ⟨j,d,none⟩=some (.pointer (some ⟨k,g,none⟩))) (E:w.cell? ⟨k,g+1,none⟩=some (uv base)) (n1:j≠b) (N:k≠b) (l1:j<w.heap.size) (l2:k<w.heap.size): Calls prog 355 #[.slice (some ⟨b,c,none⟩) l.length cap,.func (.func 356) #[] #[.pointer (some ⟨j,d,none⟩)]] w fun e B=>e=.returned (.tuple #[])/\∃n f,B=Sort.grow (Sort.putRow (Value.int .u32) (Sort.ahead w n) b c (eY (ch base) l).toArray) f:=by
 have C:∀h w,(callFunc 356 h).run prog w=.ok (.enter 356 h) w:=enters_of func356 U rfl;have i:∀(a:Addr),a.block≠b->a.block<w.heap.size->∀m f(o:Array Int),(sortWorld (Value.int .u32) w b c m o f).cell? a=w.cell? a:=by{intro a G K m f o;unfold sortWorld;rw[Sort.cell?_grow _ _ _ (by rw[Sort.size_putRow];exact K),Sort.cell?_putRow_other _ _ _ _ _ _ (.inl G)];rfl}
 have q:CmpReads prog 356 #[.pointer (some ⟨j,d,none⟩)] (Value.int .u32) (vi base) b c l.toArray.size w:=fun m f o _ x y=>
  P1 j d k g base x y _ ((i ⟨j,d,none⟩ n1 l1 m f o).trans D) ((i ⟨k,g+1,none⟩ N l2 m f o).trans E)
 have p:=Any.slices_SortFunc Tryz.Jy (Value.int .u32) (fun _=>rfl) (vi base) (NA base) 356 #[.pointer (some ⟨j,d,none⟩)] b c cap l.toArray w C q.lays F s (by simpa using z);change Calls prog 355 _ _ _ at p;rw[(J:l.toArray.size=l.length)]at p;refine p.mono ?_;rintro e B⟨rfl,v,n,f,L,M,rfl⟩;refine⟨rfl,n,f,?_⟩;have t:Sort.PermIn 0 l.toArray.size l.toArray v:=by{simpa using L};obtain⟨O,P⟩:=GM t;have A:v.toList.Perm l:=by{simpa using O};have H:v.toList=eY (ch base) l:=Ff (ch base) (A.trans (vW _ l).symm) (Fg (yV base) (by simpa using P.symm) M ((A.map _).nodup_iff.2 u)) (Om u);have r:v=(eY (ch base) l).toArray:=by{rw[<-H]};subst r;rfl
def WR.PE(z:WR prog φ H w){b:Nat}(m:H b=some (.cells cs T true))(d:φ b=some im)(Q:o+l.length<=cs.length)(n:Nat)(os:Array Go.Obj): WR prog φ (aG H b (some (.cells (cu cs o (l.map (Value.int .u32))) T true))) (Sort.grow (Sort.putRow (Value.int .u32) (Sort.ahead w n) im.blk (im.base+o) l.toArray) os)/\bL φ H w φ (aG H b (some (.cells (cu cs o (l.map (Value.int .u32))) T true))) (Sort.grow (Sort.putRow (Value.int .u32) (Sort.ahead w n) im.blk (im.base+o) l.toArray) os):=by obtain⟨y,e2,S⟩:=z.iW m;rw[d]at e2;cases e2;obtain⟨e,f,W,D,E,F,G,K,g⟩:=id S;obtain⟨r,O,L⟩:=g.1 rfl;subst r;subst O;have t:BR prog φ im (.cells (cu cs o (l.map (Value.int .u32))) f true) (Sort.putRow (Value.int .u32) (Sort.ahead w n) im.blk (im.base+o) l.toArray):=by{refine⟨Sort.putCells (Value.int .u32) (im.base+o) l.toArray e,f,(0,0),?_,by simpa[Sort.putCells]using E,by rw[uh];exact F,fun i v c=>?_,K,fun _=>⟨rfl,rfl,by simpa[Sort.putCells]using L⟩,fun h=>(by cases h),fun _ j=>⟨(g.2.2 rfl j).1,fun M N=>(g.2.2 rfl j).2 M (by rwa [uh]at N)⟩⟩;{show(w.heap.modify im.blk (Sort.onCells (Sort.putCells (Value.int .u32) (im.base+o) l.toArray)))[im.blk]? =_;rw[adD,eh rfl,D];rfl};{have a:i<cs.length:=by{have:=(nc.1 c).1;rwa [uh]at this};rw[A8 _ _ _ _ (by simpa using Q)]at c;have q:(Sort.putCells (Value.int .u32) (im.base+o) l.toArray e)[im.base+i]? =e[im.base+i]?.map fun x=>if im.base+o<=im.base+i/\im.base+i<im.base+o+l.length then uv l.toArray[im.base+i-(im.base+o)]! else x:=by{simp[Sort.putCells,Array.getElem?_mapIdx]};obtain⟨x,A⟩:∃x,e[im.base+i]? =some x:=⟨_,qN V⟩;rw[q,A];simp only[pt]at c;split at c;{rename_i R;have s:i-o<l.length:=V;rw[z7,ei s]at c;cases c;refine⟨uv l[i-o],?_,VR.int _ _,rfl⟩;rw[wo,eh V,(V:im.base+i-(im.base+o)=i-o),aeD l.toArray (i-o) (by simpa using s)];rfl};{rename_i R;obtain⟨u,b1,b2,b3⟩:=G i v c;rw[A]at b1;cases b1;refine⟨x,?_,b2,b3⟩;rw[wo,ed V]}}};obtain⟨B,C⟩:=z.turn (w':=Sort.putRow (Value.int .u32) (Sort.ahead w n) im.blk (im.base+o) l.toArray) (x':=.cells (cu cs o (l.map (Value.int .u32))) f true) m rfl d rfl rfl rfl (by rw[Sort.size_putRow];rfl) (fun k P=>by show(w.heap.modify im.blk (Sort.onCells (Sort.putCells (Value.int .u32) (im.base+o) l.toArray)))[k]? =_;rw[adD,ed (adx P)]) t rfl;have p:Below (Sort.putRow (Value.int .u32) (Sort.ahead w n) im.blk (im.base+o) l.toArray).heap.size (Sort.putRow (Value.int .u32) (Sort.ahead w n) im.blk (im.base+o) l.toArray) (Sort.grow (Sort.putRow (Value.int .u32) (Sort.ahead w n) im.blk (im.base+o) l.toArray) os):=K4 _ 0 os;obtain⟨b1,b2⟩:=B.below p;exact⟨b1,C.trans b2⟩
def GD{a:ahG}{v:bn}{D W:List Nat}{b:AH}(i:VR φ v v)(h:Calls prog f a w fun e c=>e=.returned v/\(WR prog φ b c/\bL φ H w φ b c)):Calls prog f a w (dH prog φ H w s ⟨v,b,s,D,W⟩):=by refine h.mono ?_;rintro e c⟨rfl,d,g⟩;exact⟨φ,_,rfl,Nx.refl φ s,i,d,g⟩
def Ol (args:ahG) (H:AH) (s:Nat) (q:bE bn) (h:sx args H s=some q) (φ:Ren) (w:bt) (c:ahG) (K:WR prog φ H w) (ha:VA φ args c):Calls prog 355 c w (dH prog φ H w s q):=by obtain⟨args⟩:=args;unfold sx at h;dsimp only at h;split at h;{rename_i a n m f fs cs;split at h;{rename_i hf;subst hf;generalize hfs:fs.toList=yf at h;generalize Y:cs.toList=yc at h;split at h;{rename_i t;obtain⟨a',c',rfl,r1,r2⟩:=wV ha;obtain⟨gs,ds,rfl,q1,q2⟩:=r2.fn;obtain rfl:fs=#[]:=Pp (by have:=congrArg List.length hfs;simpa using this);obtain rfl:cs=#[aa t]:=by{rw[<-Array.toArray_toList (xs:=cs),Y]};obtain rfl:=q1.empty;obtain⟨tv,rfl,q3⟩:=vy q2;obtain⟨p,S,hp⟩:=r1.sl;obtain⟨x,o1,h1,O,rfl⟩:=AX.bind_some h;obtain⟨c1,c2,c3,c4⟩:=tE h1;rw[c2,c3]at O;generalize hx:x.val.1=yx at O;split at O;{rename_i b;obtain⟨y,o2,h3,k,rfl⟩:=AX.bind_some O;obtain⟨d1,d2,d3,d4⟩:=tE h3;rw[d2,d3]at k;generalize E:qv y.val.1 1=yb at k;split at k;{rename_i base;have g:∀{D W:List Nat},n=0->Calls prog 355 #[a',.func (.func 356) #[] #[tv]] w (dH prog φ H w s ⟨.tuple #[],H,s,D,W⟩):=by{intro D W X;subst X;subst hp;refine GD VR.undef ?_;have B:=AnyF.slices_SortFunc_none {Tryz.Jy with} p S (.func (.func 356) #[] #[tv]) w;change Calls prog 355 _ _ _ at B;refine B.mono ?_;rintro e w'⟨rfl,rfl⟩;exact⟨rfl,K,bL.refl _ _ _⟩};split at k;{rename_i d o;obtain⟨z,o3,h5,C,rfl⟩:=AX.bind_some k;obtain⟨e1,e2,e3,e4⟩:=tE h5;rw[e2,e3]at C;generalize hl:mf ((z.val.1.drop o).take n)=yl at C;split at C;{rename_i l;split at C;{rename_i F;obtain⟨k1,k2,k3,k4,k5,k6⟩:=F;have u:=yI hl;have P:l.length=n:=by{have:=congrArg List.length u;simp at this;omega};subst P;obtain⟨o4,o5,h7,h8,rfl⟩:=AX.bind_some C;simp only[AX.set,el]at h7;subst h7;simp[AX.ret]at h8;subst h8;rw[k1]at e1;have Q:l=[]->eY (ch base) l=[]:=fun e=>by{rw[e];rfl};by_cases A:l.length=0;{have hl0:l=[]:=HV.1 A;have hu:aG H d (some (.cells (cu z.val.1 o ((eY (ch base) l).map (Value.int .u32))) z.val.2.1 true))=H:=by{rw[Q hl0];exact ME e1};rw[hu];exact g A};obtain⟨im,N,R,rfl,hn,hcp,hm⟩:=r1.Fp A;obtain⟨b1,b2⟩:=Jo (o:=o) (n:=l.length) e1 K R u J (eu.2 fun v hv=>by obtain⟨n,_,rfl⟩:=nm.1 hv;rfl);cases q3 with|ptr htb=>{rename_i M;obtain⟨im2,f1,T⟩:=K.iW c1;rw[htb]at f1;cases f1;rw[hx]at T;obtain⟨pv,u1,u2,_⟩:=T.cell (i:=0) rfl;cases u2 with|ptr hbb=>{rename_i L;obtain⟨im3,f3,f4⟩:=K.iW d1;rw[hbb]at f3;cases f3;obtain⟨bv,u3,u4,_⟩:=f4.cell (i:=1) E;cases u4;have hdy:d≠b:=by{rintro rfl;have:=e1.symm.trans d1;simp at this;exact k5 (by rw[<-this.2.1,k2])};have hdt:d≠t:=by{rintro rfl;have:=e1.symm.trans c1;simp at this;have hx0:z.val.1=[aa b]:=by{rw[this.1];exact hx};rw[hx0]at u k3;have ho0:o=0:=by{simp at k3;omega};subst ho0;cases l with|nil=>exact A rfl|cons y r=>{simp at u}};have i1:=K.inj d t _ _ im M e1 c1 hdt rfl R htb;have i2:=K.inj d b _ _ im L e1 d1 hdy rfl R hbb;refine GD VR.undef ?_;refine(Ok im.blk (im.base+o) N l base M.blk (M.base+0) L.blk (L.base+0) w ?_ b1 V k4 u1 u3 (adx i1) (adx i2) T.lt f4.lt).mono ?_;{intro j hj;have G:j<l.length:=by{simpa using hj};obtain⟨e1,e2⟩:=b2 j G;refine⟨?_,e2⟩;rw[e1,z7,ei G,aeD l.toArray j (by simpa using G)];rfl};{rintro e w'⟨rfl,nn,os,rfl⟩;exact⟨rfl,K.PE e1 R (l:=eY (ch base) l) (by rw[vX];exact k3) nn os⟩}}}};{cases C}};{cases C}};{split at k;{rename_i X;simp[AX.ret]at k;subst k;simp only[c4,d4,ahl,adu];exact g X};{cases k}}};{cases k}};{cases O}};{cases h}};{cases h}};{cases h}
end
end
end Go.Proofs.YtlkceignfhnpoaaGreatDoor
