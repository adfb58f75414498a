/-
  Part of a proof, written small.
-/
import Derived.Test.YtlkceignfhnpoaaGreatDoorS1SASLSOSY22
set_option linter.all false
namespace Go.Proofs.YtlkceignfhnpoaaGreatDoor
open Go
variable{s t:Nat}{tm b:ahG}{ops:Array Oper}{q:bE bn}{E:Nat->Bool}{o:Oper}{T ty T2:bW}{v' k v m F z x x':bn}{a:Act}{Q:Exit->Act->bt->Prop}{H:AH}
section
variable{P:c7}{φ B:Ren}{H:AH}{w w':bt}
def x9{b:Nat}{c:Array MapEntry}{a:Nat}(h:w.heap[b]? =some (.map c a)){o:Obj}:(setObj b o).run P w=.ok () {w with heap:=w.heap.setIfInBounds b o}:=by simp[setObj,Sem.run,h]
def WR.xZ(d:WR P φ H w){b:Nat}{i kv':List (bn×bn)}{im:jQ}(c:H b=some (.map i))(a:φ b=some im){es':Array MapEntry}{clock':Nat}(e:VL φ (kv'.map (·.1)) (es'.toList.map (·.key)))(f:VL φ (kv'.map (·.2)) (es'.toList.map (·.val)))(g:kA es' clock'): WR P φ (aG H b (some (.map kv'))) {w with heap:=w.heap.setIfInBounds im.blk (.map es' clock')}/\bL φ H w φ (aG H b (some (.map kv'))) {w with heap:=w.heap.setIfInBounds im.blk (.map es' clock')}:=by obtain⟨q,e2,j⟩:=d.iW c;rw[a]at e2;cases e2;have p:=j.lt;refine d.turn (w':={w with heap:=w.heap.setIfInBounds im.blk (.map es' clock')}) (x':=.map kv') c rfl a rfl rfl rfl J (fun k h=>?_) ?_ rfl;{exact adJ (adx h)};{exact⟨es',clock',by simp[p],e,f,g⟩}
def Pj{kt:bW}(h:dI P kt k=true):(Instr.keyThatStays k k).run P w=.ok k w:=by unfold Instr.keyThatStays;have:Instr.sameBits 10000 k k=true:=by{rcases pf h with⟨q,a,c,rfl⟩|⟨e,q,a,b,c,d,f,rfl⟩;{simp[Instr.sameBits]};{show Instr.sameBits (9999+1) _ _=true;unfold Instr.sameBits;simp[Instr.sameBits]}};rw[this];rfl
def Tf(h:pD P T m k v H s=some q)(R:WR P φ H w)(hm:VR φ m F)(hk:VR φ k z)(Y:VR φ v v'): ∃w',(Instr.mapUpdate T F z v').run P w=.ok () w'/\q.val=undef/\WR P φ q.H w'/\bL φ H w φ q.H w'/\q.s=s:=by unfold pD at h;cases O:iH P T with|none=>{rw[O]at h;cases h}|some p=>{obtain⟨kt,et⟩:=p;rw[O]at h;dsimp only at h;have X:=yQ O;split at h;{rename_i r;have:=hk.gv (tf r);subst this;cases hm;(case map b im him=>obtain⟨C,o2,e1,e2,rfl⟩:=AX.bind_some h;obtain⟨N,h2,h3⟩:=u7 e1;obtain⟨o,e3,r3⟩:=R.iW N;rw[him]at e3;cases e3;obtain⟨B,t,G,D,S,W⟩:=id r3;split at e2;{rename_i y;obtain⟨o3,o4,e4,e5,rfl⟩:=AX.bind_some e2;simp only[AX.set,el]at e4;subst e4;have:=bz e5;subst this;have K:=yd (w:=w) r C.val B.toList D y;simp only[h2,h3];have n:C.val.length=B.size:=by{have:=D.len;simpa using this};cases E:eF z C.val with|none=>{rw[E]at K;have u:jD z v C.val=C.val++[(z,v)]:=by{rw[BC,E]};obtain⟨L,M⟩:=R.xZ (kv':=C.val++[(z,v)]) (es':=B.push {key:=z,val:=v',born:=t}) (clock':=t+1) N him (by simpa using D.append (VL.one (VR.flat (tf r)))) (by simpa using S.append (VL.one Y)) (W.push z v');refine⟨_,?_,trivial,by rw[u];exact L,by rw[u];exact M,trivial⟩;unfold Instr.mapUpdate;rw[aQ (dE X)];dsimp only;rw[aQ (we G)];dsimp only;rw[aQ (um r),aQ K];exact x9 G}|some j=>{rw[E]at K;obtain⟨p,Q,f⟩:=zw E;have A:=(nc.1 Q).1;have l:p.1=z:=((XK r (eu.1 y p (w0 Q))).1 f).symm;have u:jD z v C.val=C.val.set j (z,v):=by{rw[BC,E]};have d:B[j]? =some B[j]:=qN V;have g:B[j].key=z:=by{have:=D.at_ j p.1 B[j].key (by rw[z7,Q];rfl) (by rw[z7];simp[(V:j<B.size)]);rw[l]at this;exact(this.gv (tf r))};have c:(B.modify j fun e=>{e with key:=z,val:=v'}).toList.map (·.key)=(B.toList.map (·.key)).set j z:=by{apply ahp;intro i;simp only[z7,aei,aem,adD,pt,P0];by_cases x:j=i;{subst x;simp[(V:j<B.size)]};{simp[x]}};have a:(B.modify j fun e=>{e with key:=z,val:=v'}).toList.map (·.val)=(B.toList.map (·.val)).set j v':=by{apply ahp;intro i;simp only[z7,aei,aem,adD,pt,P0];by_cases x:j=i;{subst x;simp[(V:j<B.size)]};{simp[x]}};obtain⟨L,M⟩:=R.xZ (kv':=C.val.set j (z,v)) (es':=B.modify j fun e=>{e with key:=z,val:=v'}) (clock':=t) N him (by rw[c,aeX];exact D.set j (VR.flat (tf r))) (by rw[a,aeX];exact S.set j Y) (W.modify j z v');refine⟨_,?_,trivial,by rw[u];exact L,by rw[u];exact M,trivial⟩;unfold Instr.mapUpdate;rw[aQ (dE X)];dsimp only;rw[aQ (we G)];dsimp only;rw[aQ (um r),aQ K];simp only[wo];rw[d];simp only[wo,adz];rw[g,aQ (Pj r)];exact x9 G}};{cases e2});(all_goals cases h)};{cases h}}
def VL.eraseIdx{l d:bj}(h:VL φ l d)(j:Nat):VL φ (l.eraseIdx j) (d.eraseIdx j):=by refine⟨by rw[agi,agi,h.len],fun i v v' a b=>?_⟩;rw[List.getElem?_eraseIdx]at a b;split at a;{rename_i c;rw[eh c]at b;exact h.at_ i v v' a b};{rename_i c;rw[ed c]at b;exact h.at_ _ v v' a b}
def wz{α a:Type}(f:α->a):∀(l:List α)(j:Nat),(l.eraseIdx j).map f=(l.map f).eraseIdx j
 |[],j=>J
 |x::l,0=>J
 |x::l,j+1=>by simp[wz f l j]
def Yk(h:pE P T m k H s=some q)(G:WR P φ H w)(hm:VR φ m F)(Y:VR φ k z): ∃v' w',(Builtin.delete_ #[T,T2] ty #[F,z]).run P w=.ok v' w'/\VR φ q.val v'/\WR P φ q.H w'/\bL φ H w φ q.H w'/\q.s=s:=by unfold pE at h;cases E:iH P T with|none=>{rw[E]at h;cases h}|some p=>{obtain⟨kt,et⟩:=p;rw[E]at h;dsimp only at h;have hu:=yQ E;split at h;{rename_i y;have:=Y.gv (tf y);subst this;cases hm;(case map b im him=>obtain⟨g,o2,e1,e2,rfl⟩:=AX.bind_some h;obtain⟨D,S,W⟩:=u7 e1;obtain⟨d,e3,r3⟩:=G.iW D;rw[him]at e3;cases e3;obtain⟨i,r,C,o,L,M⟩:=id r3;split at e2;{rename_i a;obtain⟨o3,o4,e4,e5,rfl⟩:=AX.bind_some e2;simp only[AX.set,el]at e4;subst e4;have:=bz e5;subst this;have X:=yd (w:=w) y g.val i.toList o a;simp only[S,W];have c:g.val.length=i.size:=by{have:=o.len;simpa using this};have start:∀es' K,(setObj im.blk (.map es' r)).run P w=.ok () K->((eF z g.val=none->es'=i)/\∀j,eF z g.val=some j->es'=i.eraseIdxIfInBounds j)->(Builtin.delete_ #[T,T2] ty #[.map (some im.blk),z]).run P w=.ok (.tuple #[]) K:=by{intro es' K x u;unfold Builtin.delete_;have O:(#[T,T2]:Array bW)[0]? =some T:=rfl;have Q:(#[Value.map (some im.blk),z]:ahG)[0]? =some (.map (some im.blk)):=rfl;have R:(#[Value.map (some im.blk),z]:ahG)[1]? =some z:=rfl;rw[O,Q,R];dsimp only;rw[aQ (dE hu)];dsimp only;rw[aQ (we C)];dsimp only;rw[aQ (um y),aQ X];cases l:eF z g.val with|none=>{have:=u.1 l;subst this;simp only[aex];rw[aQ x];rfl}|some j=>{have:=u.2 j l;subst this;simp only[wo];rw[aQ x];rfl}};cases l:eF z g.val with|none=>{have t:mw z g.val=g.val:=by{rw[De,l]};obtain⟨A,B⟩:=G.xZ (kv':=g.val) (es':=i) (clock':=r) D him o L M;exact⟨_,_,start i _ (x9 C) ⟨fun _=>rfl,fun j n=>by rw[l]at n;cases n⟩,VR.undef,by rw[t];exact A,by rw[t];exact B,trivial⟩}|some j=>{obtain⟨p,hp,f⟩:=zw l;have e:=(nc.1 hp).1;have t:mw z g.val=g.val.eraseIdx j:=by{rw[De,l]};have v:(i.eraseIdxIfInBounds j).toList=i.toList.eraseIdx j:=by{unfold Array.eraseIdxIfInBounds;rw[dif_pos V];simp};obtain⟨A,B⟩:=G.xZ (kv':=g.val.eraseIdx j) (es':=i.eraseIdxIfInBounds j) (clock':=r) D him (by rw[v,wz,wz];exact o.eraseIdx j) (by rw[v,wz,wz];exact L.eraseIdx j) (M.erase v);exact⟨_,_,start (i.eraseIdxIfInBounds j) _ (x9 C) ⟨fun N=>(by rw[l]at N;cases N),fun j' n=>(by rw[l]at n;cases n;rfl)⟩,VR.undef,by rw[t];exact A,by rw[t];exact B,trivial⟩}};{cases e2});(all_goals cases h)};{cases h}}
def Ic(h:AX.bind (AX.new (.map [])) (fun b=>AX.ret (.map (some b))) H s=some q)(i:WR P φ H w)(e:dz φ s q.s): ∃B,(newObj (.map #[] 0)).run P w=.ok w.heap.size {w with heap:=w.heap.push (.map #[] 0)}/\Nx φ B s q.s/\VR B q.val (.map (some w.heap.size))/\WR P B q.H {w with heap:=w.heap.push (.map #[] 0)}/\bL φ H w B q.H {w with heap:=w.heap.push (.map #[] 0)}:=by obtain⟨j,l,e1,e2,rfl⟩:=AX.bind_some h;simp only[AX.new,el]at e1;subst e1;have:=bz e2;subst this;have g:φ s=none:=e s Z J;obtain⟨a,c,d⟩:=i.new (w':={w with heap:=w.heap.push (.map #[] 0)}) (x:=.map []) (im:=⟨w.heap.size,0,0,0⟩) g rfl rfl rfl rfl J (fun k f=>Gy f) ⟨#[],0,Ju,VL.nil,VL.nil,kA.nil⟩;exact⟨_,rfl,c,VR.map (Ren.gX φ s ⟨w.heap.size,0,0,0⟩),a,d⟩
def YA{d M:bn}(h:pF P T d x H s=some q)(S:WR P φ H w)(O:VR φ d M)(G:VR φ x x'): ∃v' w',(Builtin.copy_ #[T,T2] ty #[M,x']).run P w=.ok v' w'/\VR φ q.val v'/\WR P φ q.H w'/\bL φ H w φ q.H w'/\q.s=s:=by
 unfold pF at h;cases Q:dj P T with
 |none=>rw[Q]at h;cases h
 |some e=>
  rw[Q]at h;dsimp only at h;cases R:aW P e with
  |none=>rw[R]at h;cases h
  |some size=>
   rw[R]at h;have hu:=tB Q;have start:∀(base z:Option Addr)(n p m B k:Nat)(cells:ahG)(E:bt),k=min m n->(Builtin.firstCells size k (.slice z m B)).run P w=.ok cells w->(∀a,base=some a->(storeCells a cells.toList).run P w=.ok () E)->(base=none->E=w)->
    (Builtin.copy_ #[T,T2] ty #[.slice base n p,.slice z m B]).run P w=.ok (.int .i64 k) E:=by
    intro base z n p m B k cells E hk r f l;unfold Builtin.copy_;have ea:(#[T,T2]:Array bW)[0]? =some T:=rfl;have eb:(#[Value.slice base n p,Value.slice z m B]:ahG)[0]? =some (.slice base n p):=rfl;have ec:(#[Value.slice base n p,Value.slice z m B]:ahG)[1]? =some (.slice z m B):=rfl;rw[ea,eb,ec];dsimp only;rw[aQ (dE hu)];dsimp only;rw[aQ (a:=m) (w':=w) rfl,aQ (lX R)];have:Nat.min m n=k:=hk.symm;rw[this,aQ r];cases base with
    |none=>
     have:=l rfl;subst this;rfl
    |some a=>
     dsimp only;rw[aQ (f a rfl)];rfl
   have g:∀(base:Option Addr)(n p:Nat)(z:Option Addr)(m B:Nat),d=.slice base n p->x=.slice z m B->∃v' w',(Builtin.copy_ #[T,T2] ty #[M,x']).run P w=.ok v' w'/\VR φ q.val v'/\WR P φ q.H w'/\bL φ H w φ q.H w'/\q.s=s:=by{intro base n p z m B e1 e2;subst e1;subst e2;dsimp only at h;have y:∃b c,M=.slice b n c/\(base=none->b=none):=by{cases O<;>exact⟨_,_,rfl,J⟩};have i:∃b c,x'=.slice b m c:=by{cases G<;>exact⟨_,_,rfl⟩};split at h;{rename_i h0;have:=bz h;subst this;obtain⟨b1,c1,rfl,_⟩:=y;obtain⟨b2,c2,rfl⟩:=i;have r:(Builtin.firstCells size 0 (.slice b2 m c2)).run P w=.ok #[] w:=by{cases b2 with|none=>rw[afj]|some a=>{simpa using run_firstCells_some (P:=P) w size 0 a m c2 [] J J}};exact⟨_,w,start b1 b2 n c1 m c2 0 #[] w V r (fun a _=>by simp[storeCells,run_pure]) (fun _=>rfl),VR.int _ _,S,bL.refl _ _ _,rfl⟩};{rename_i h0;split at h;{rename_i L;obtain⟨o1,o2,e1,e2,rfl⟩:=AX.bind_some h;obtain⟨j,F,u,vs,W,k1,k2,k3,k4,k5,k6,k7⟩:=Fo e1 S G;have C:F=m:=by{rw[W]at G;cases G<;>rfl};subst C;subst W;have r:=FT (P:=P) (c:=u) k2 k4 k5;cases base with|none=>{cases e2}|some ab=>{obtain⟨b,o,v⟩:=ab;cases v with|some t=>{cases e2}|none=>{dsimp only at e2;obtain⟨o3,o4,e3,e4,rfl⟩:=AX.bind_some e2;obtain⟨N,X,Y⟩:=qt e3;split at e4;{rename_i hc;obtain⟨K,A⟩:=hc;obtain⟨o5,o6,e5,e6,rfl⟩:=AX.bind_some e4;simp only[AX.set,el]at e5;subst e5;have:=bz e6;subst this;rw[K]at N;rw[k6]at N X;rw[k7]at Y;simp only[X,Y];cases O;(case slice0 a=>omega);(case slice cap' im _ _ _ _=>have D:φ b=some im:=by{assumption};obtain⟨E,s1,s2,s3⟩:=BR.stored (vs:=o1.val) (vs':=vs) (o:=o) S N D A k1 (k1.DJ k3);exact⟨_,E,start (some ⟨im.blk,im.base+o,none⟩) j n cap' F u F vs.toArray E V r (fun a ha=>by cases ha;exact s1) (fun hh=>by cases hh),VR.int _ _,s2,s3,trivial⟩)};{cases e4}}}};{cases h}}};(cases O<;>cases G<;>first|exact g _ _ _ _ _ _ rfl rfl|(cases h))
def YM(h:pG P T x H s=some q)(l:WR P φ H w)(Q:VR φ x x'): ∃v' w',(Builtin.clear_ #[T] ty #[x']).run P w=.ok v' w'/\VR φ q.val v'/\WR P φ q.H w'/\bL φ H w φ q.H w'/\q.s=s:=by unfold pG at h;cases B:dj P T with|none=>{rw[B]at h;cases h}|some e=>{rw[B]at h;dsimp only at h;have K:=tB B;cases C:aW P e with|none=>{rw[C]at h;cases h}|some size=>{cases m:bF P e with|none=>{rw[C,m]at h;cases h}|some z=>{rw[C,m]at h;have D:(#[T]:Array bW)[0]? =some T:=rfl;have E:∀v:bn,(#[v]:ahG)[0]? =some v:=fun _=>rfl;have j:∀(base:Option Addr)(c:Nat),(Builtin.clear_ #[T] ty #[.slice base 0 c]).run P w=.ok (.tuple #[]) w:=by{intro base c;unfold Builtin.clear_;rw[D,E];dsimp only;rw[aQ (dE K)];cases base<;>rfl};cases Q;(case sliceNil=>dsimp only at h;rw[eh rfl]at h;have:=bz h;subst this;exact⟨_,w,j _ _,VR.undef,l,bL.refl _ _ _,rfl⟩);(case slice0 b o a=>dsimp only at h;rw[eh rfl]at h;have:=bz h;subst this;exact⟨_,w,j _ _,VR.undef,l,bL.refl _ _ _,rfl⟩);(case slice b o n cap im _ _ _ _=>have f:φ b=some im:=by{assumption};dsimp only at h;by_cases r:n=0;{subst r;rw[eh rfl]at h;have:=bz h;subst this;exact⟨_,w,j _ _,VR.undef,l,bL.refl _ _ _,rfl⟩};{rw[ed r]at h;obtain⟨Y,o4,e3,e4,rfl⟩:=AX.bind_some h;obtain⟨F,M,N⟩:=qt e3;split at e4;{rename_i O;obtain⟨g,d⟩:=O;obtain⟨o5,o6,e5,L,rfl⟩:=AX.bind_some e4;simp only[AX.set,el]at e5;subst e5;have:=bz L;subst this;rw[g]at F;simp only[M,N];have p:(Builtin.zeroCells z.cells n).toList.all eJ=true:=by{have t:=(pS (w:=w) m).2;rw[eu]at t⊢;intro v k;unfold Builtin.zeroCells at k;simp only[aeT,agH,nm,adb]at k;obtain⟨i,G,rfl⟩:=k;have u:0<z.cells.size:=by{rcases Nat.eq_zero_or_pos z.cells.size with A|A;{rw[A]at G;simp at G};{exact A}};rw[aeD z.cells _ (adP _ u)];exact t _ J};have y:(Builtin.zeroCells z.cells n).toList.all oneV=true:=by{rw[eu]at p⊢;exact fun v k=>Fq (p v k)};obtain⟨X,R,S,W⟩:=BR.stored (vs:=(Builtin.zeroCells z.cells n).toList) (vs':=(Builtin.zeroCells z.cells n).toList) (o:=o) l F f d (VL.simple p) y;refine⟨.tuple #[],X,?_,VR.undef,S,W,trivial⟩;unfold Builtin.clear_;rw[D,E];dsimp only;rw[aQ (dE K)];cases n with|zero=>exact absurd rfl r|succ n=>{show(do let z <-zeroValue e;storeCells ⟨im.blk,im.base+o,none⟩ (Builtin.zeroCells z.cells (n+1)).toList;pure (.tuple #[]):Sem bn).run P w=_;rw[aQ (pS m).1,aQ R];rfl}};{cases e4}});(all_goals cases h)}}}
end
section
variable{P:c7}{φ B:Ren}{H:AH}{w w':bt}
def xx(c:VA φ tm a.tmps){x:Operand}(b:Operand.bU x=true):VR φ (bo tm x) (a.eval x):=by cases x with|tmp t=>exact c.getD t|const v=>exact VR.const b|global g=>{cases b}|func f=>{exact .func #[] #[] #[] #[] rfl (fun i v v' h=>by simp at h) rfl (fun i v v' h=>by simp at h)}
def xv(c:VA φ tm a.tmps){xs:Array Operand}(d:∀x∈xs.toList,Operand.bU x=true):VA φ (xs.map (bo tm)) (xs.map a.eval):=by refine⟨J,fun i v v' e1 e2=>?_⟩;rw[agI]at e1 e2;cases b:xs[i]? with|none=>{rw[b]at e1;cases e1}|some x=>{rw[b]at e1 e2;simp only[wo,el]at e1 e2;subst e1;subst e2;exact xx c (d x (by simpa using Array.mem_of_getElem? b))}
def GP(c:VA φ tm a.tmps){ps:Array (Nat×Operand)}(d:∀p∈ps.toList,Operand.bU p.2=true):DP φ (ps.map fun(i,x)=>(i,bo tm x)) (ps.map fun(i,x)=>(i,a.eval x)):=by refine⟨J,fun i p e e1 e2=>?_⟩;simp only[aeT,z7]at e1 e2;cases b:ps.toList[i]? with|none=>{rw[b]at e1;cases e1}|some x=>{rw[b]at e1 e2;simp only[wo,el]at e1 e2;subst e1;subst e2;exact⟨rfl,xx c (d x (w0 b))⟩}
def dB.o9{r:Result Next}(e:r=.ok (.value v') w')(a:Nx φ B s q.s)(b:VR B q.val v')(c:WR P B q.H w')(d:bL φ H w B q.H w'):Aw P φ H w s q r:=⟨B,v',w',.inl e,a,b,c,d⟩
def dB.quiet{r:Result Next}(e:r=.ok (.value v') w)(b:VR φ q.val v')(c:WR P φ H w)(a:q.H=H)(d:q.s=s):Aw P φ H w s q r:=
 ⟨φ,v',w,.inl e,by rw[d];exact Nx.refl _ _,b,by rw[a];exact c,by rw[a];exact bL.refl _ _ _⟩
def yM(o:Oper):Prop:=∀c f,o.op=.call c->c.callee≠ .value f
def Pi{d:Operand->bn}{x:Operand}(e:o.op=.nilCheck x)(g:d x=v)(h:(∃a,v=.pointer (some a))\/∃f c b,v=.func (.func f) c b):(execOp d o).run P w=.ok (.value v) w:=by rcases h with⟨a,rfl⟩|⟨f,c,b,rfl⟩<;>(unfold execOp;rw[e];dsimp only;rw[g];rfl)
def ZA{b:Builtin}{C:Array bW}{cs:Array Bool}{vs vs':ahG}(h:gD P b C vs H s=some q)(A:WR P φ H w)(L:VA φ vs vs')(M:dz φ s q.s): Aw P φ H w s q ((Go.builtin b C ty cs vs').run P w):=by have c:∀{x y:bn},vs.toList=[x,y]->∃x' F,vs'=#[x',F]/\VR φ x x'/\VR φ y F:=by{intro x y e;have i:=L.list;rw[e]at i;cases g:vs'.toList with|nil=>{rw[g]at i;have:=i.len;simp at this}|cons x' r=>{cases r with|nil=>{rw[g]at i;have:=i.len;simp at this}|cons F r=>{cases r with|cons z r=>{rw[g]at i;have:=i.len;simp at this}|nil=>{rw[g]at i;exact⟨x',F,adI g,i.at_ 0 _ _ rfl rfl,i.at_ 1 _ _ rfl rfl⟩}}}};obtain⟨m,j⟩:∃m,gD P b C vs=m:=⟨_,rfl⟩;rw[j]at h;unfold gD at j;split at j;{rename_i t v e1 e2;subst j;have p:C=#[t]:=adI e1;have a:∃v',vs'=#[v']/\VR φ v v':=by{have i:=L.list;rw[e2]at i;cases g:vs'.toList with|nil=>{rw[g]at i;have:=i.len;simp at this}|cons x' r=>{cases r with|cons y r=>{rw[g]at i;have:=i.len;simp at this}|nil=>{rw[g]at i;exact⟨x',adI g,i.at_ 0 _ _ rfl rfl⟩}}};obtain⟨v',rfl,f⟩:=a;subst p;obtain⟨u,k,l,n,o⟩:=U6 (ty:=ty) h A f;exact dB.quiet (eD k) l A n o};{rename_i t E x y e1 e2;subst j;have p:C=#[t,E]:=adI e1;obtain⟨x',F,rfl,G,K⟩:=c e2;subst p;obtain⟨B,v',w',k,l,n,o,D⟩:=aaz (ty:=ty) h A G K M;exact dB.o9 (eD k) l n o D};{rename_i t E x y e1 e2;subst j;have p:C=#[t,E]:=adI e1;obtain⟨x',F,rfl,G,K⟩:=c e2;subst p;obtain⟨v',w',k,l,n,o,D⟩:=YA (T2:=E) (ty:=ty) h A G K;exact dB.o9 (eD k) (by rw[D];exact Nx.refl _ _) l n o};{rename_i t E x y e1 e2;subst j;have p:C=#[t,E]:=adI e1;obtain⟨x',F,rfl,G,K⟩:=c e2;subst p;obtain⟨v',w',k,l,n,o,D⟩:=Yk (T2:=E) (ty:=ty) h A G K;exact dB.o9 (eD k) (by rw[D];exact Nx.refl _ _) l n o};{rename_i t x e1 e2;subst j;have p:C=#[t]:=adI e1;have a:∃v',vs'=#[v']/\VR φ x v':=by{have i:=L.list;rw[e2]at i;cases g:vs'.toList with|nil=>{rw[g]at i;have:=i.len;simp at this}|cons x' r=>{cases r with|cons y r=>{rw[g]at i;have:=i.len;simp at this}|nil=>{rw[g]at i;exact⟨x',adI g,i.at_ 0 _ _ rfl rfl⟩}}};obtain⟨v',rfl,f⟩:=a;subst p;obtain⟨u,w',k,l,n,o,D⟩:=YM (ty:=ty) h A f;exact dB.o9 (eD k) (by rw[D];exact Nx.refl _ _) l n o};{split at j;{rename_i d;subst j;have:=L.list.gv d;have a:vs'=vs:=adI this;subst a;obtain⟨u,k,l,n,o⟩:=stat_ok (φ:=φ) (w:=w) h;exact dB.quiet (eD k) l A n o};{subst j;cases h}};{split at j;{rename_i d;subst j;have:=L.list.gv d;have a:vs'=vs:=adI this;subst a;obtain⟨u,k,l,n,o⟩:=stat_ok (φ:=φ) (w:=w) h;exact dB.quiet (eD k) l A n o};{subst j;cases h}};{subst j;cases h}
def Rf{call:FuncId->ahG->AX bn}(h:bA P call o tm H s=some q)(hnc:yM o)(Q:WR P φ H w)(ht:VA φ tm a.tmps)(hf:dz φ s q.s): Aw P φ H w s q ((execOp a.eval o).run P w):=by
 unfold bA at h;by_cases j:o.op.operands.toList.all Operand.bU=true;(case neg=>rw[ed j]at h;cases h);rw[eh j]at h;rw[eu]at j;have g:∀x,x∈o.op.operands.toList->VR φ (bo tm x) (a.eval x):=fun x R=>xx ht (j x R);obtain⟨Y,op,K,ha,T,X⟩:=o;dsimp only at h j g hnc;unfold yM at hnc;dsimp only at hnc;cases op<;>dsimp only at h;(case move x=>have:=bz h;subst this;exact dB.quiet (v':=a.eval x) rfl (g x (by simp[Op.operands])) Q rfl rfl);(case assign x=>have:=bz h;subst this;exact dB.quiet (v':=a.eval x) rfl (g x (by simp[Op.operands])) Q rfl rfl);(case pick c x y=>have hc:=g c (by simp[Op.operands]);have R:=g x (by simp[Op.operands]);have hy:=g y (by simp[Op.operands]);obtain⟨vc,N⟩:∃v,bo tm c=v:=⟨_,rfl⟩;rw[N]at h hc;cases vc;(case bool t=>have:=bz h;subst this;have M:a.eval c=.bool t:=hc.gv rfl;refine dB.quiet (v':=if t then a.eval x else a.eval y) ?_ (by cases t<;>assumption) Q rfl rfl;unfold execOp;dsimp only;rw[M,aQ (a:=t) (w':=w) rfl];rfl);(all_goals cases h));(case alloc e=>cases hz:bF P e with|none=>{rw[hz]at h;cases h}|some z=>{rw[hz]at h;obtain⟨B,E,F,G,O,S⟩:=Hu h Q hf (sV (φ:=φ) hz).cells.list;refine dB.o9 (eD ?_) F G O S;unfold Instr.alloc;rw[aQ (pS hz).1];dsimp only;have:(newVar e z).run P w=.ok ⟨w.heap.size,0,none⟩ {w with heap:=w.heap.push (.cells z.cells.toList.toArray e)}:=E;rw[aQ this];rfl});(case box e x=>obtain⟨B,E,F,G,O,S⟩:=Hu h Q hf (g x (by simp[Op.operands])).cells.list;refine dB.o9 (eD ?_) F G O S;unfold Instr.box;have:(newVar e (a.eval x)).run P w=.ok ⟨w.heap.size,0,none⟩ {w with heap:=w.heap.push (.cells (a.eval x).cells.toList.toArray e)}:=E;rw[aQ this];rfl);(case build t ps=>split at h;{rename_i hz;obtain⟨r,hr,rfl⟩:=uA h;obtain⟨r',e1,e2⟩:=ZB (w:=w) hz (GP ht (fun p hp=>j p.2 (by simp[Op.operands];exact⟨p.1,by simpa using hp⟩))) hr;exact dB.quiet (eD e1) e2 Q rfl rfl};{cases h});(case buildSlice t len ps=>obtain⟨B,v',w',E,F,G,O,S⟩:=ZC h Q (GP ht (fun p hp=>j p.2 (by simp[Op.operands];exact⟨p.1,by simpa using hp⟩))) hf;exact dB.o9 (eD E) F G O S);(case load t x=>obtain⟨u,E,F,G,O⟩:=IB h Q (g x (by simp[Op.operands]));exact dB.quiet (eD E) F Q G O);(case store t x y=>obtain⟨w',E,F,G,O,S⟩:=NP h Q (g x (by simp[Op.operands])) (g y (by simp[Op.operands]));exact⟨φ,undef,w',.inr ⟨FQ E,rfl⟩,by rw[S];exact Nx.refl _ _,by rw[F];exact VR.undef,G,O⟩);(case nilCheck x=>obtain⟨E,F,G,O⟩:=Sc h (g x (by simp[Op.operands]));exact dB.quiet (Pi rfl rfl E) F Q G O);(case binOp op t x y ty=>obtain⟨u,E,F,G,O⟩:=ZS (w:=w) h (g x (by simp[Op.operands])) (g y (by simp[Op.operands]));exact dB.quiet (eD E) F Q G O);(case unOp op t x=>split at h;{rename_i D;obtain⟨u,E,F,G,O⟩:=stat_ok (φ:=φ) (w:=w) h;have:=(g x (by simp[Op.operands])).gv D;exact dB.quiet (by unfold execOp;dsimp only;rw[this];exact eD E) F Q G O};{cases h});(case convert t1 t2 x=>split at h;{rename_i D;obtain⟨u,E,F,G,O⟩:=stat_ok (φ:=φ) (w:=w) h;have:=(g x (by simp[Op.operands])).gv D;exact dB.quiet (by unfold execOp;dsimp only;rw[this];exact eD E) F Q G O};{cases h});(case makeInterface t x=>have R:=g x (by simp[Op.operands]);obtain⟨vx,A⟩:∃v,bo tm x=v:=⟨_,rfl⟩;rw[A]at h R;unfold ou at h;cases vx;(case int k n=>dsimp only at h;have C:a.eval x=.int k n:=R.gv rfl;cases hu:P.underlying t with|none=>{rw[hu]at h;cases h}|some d=>{rw[hu]at h;cases d;(case interface ms=>cases h);(all_goals have:=bz h;subst this;refine dB.quiet (eD (v:=.iface t (.int k n)) ?_) (.iface t k n) Q rfl rfl;unfold Instr.makeInterface;rw[aQ (dE hu),C];rfl)});(all_goals cases h));(case typeAssert x t0 t ok=>have R:=g x (by simp[Op.operands]);obtain⟨vx,A⟩:∃v,bo tm x=v:=⟨_,rfl⟩;rw[A]at h R;generalize hax:a.eval x=ax at R;unfold mI at h;cases R;(case iface t1 k n=>dsimp only at h;cases hu:P.underlying t with|none=>{rw[hu]at h;cases h}|some d=>{rw[hu]at h;by_cases j:ok=true;{subst j;by_cases ht:t1=t;{cases d;(case interface ms=>cases h);(all_goals dsimp only at h;rw[eh rfl,eh ht]at h;have:=bz h;subst this;refine dB.quiet (eD (v:=.tuple #[.int k n,.bool true]) ?_) (VR.mkTuple (VL.cons (.int k n) (VL.one (.bool true))).array) Q rfl rfl;unfold Instr.typeAssert;rw[aQ (dE hu),hax];simp[ht])};{cases d;(case interface ms=>cases h);(all_goals dsimp only at h;rw[eh rfl,ed ht]at h;cases hz:bF P t with|none=>{rw[hz]at h;cases h}|some z=>{rw[hz]at h;have:=bz h;subst this;refine dB.quiet (eD (v:=.tuple #[z,.bool false]) ?_) (VR.mkTuple (VL.cons (sV hz) (VL.one (.bool false))).array) Q rfl rfl;unfold Instr.typeAssert;rw[aQ (dE hu),hax];simp only[ht,RP,rq];rw[aQ (pS hz).1];rfl})}};{cases d<;>(dsimp only at h;first|(rw[ed j]at h;cases h)|cases h)}});(all_goals cases h));(case makeFunc fn first captured=>cases fn with|func f=>{have:=bz h;subst this;have h1:=xv (φ:=φ) ht (xs:=first) (fun x R=>j x (by simp[Op.operands]at R⊢;exact .inl R));have h2:=xv (φ:=φ) ht (xs:=captured) (fun x R=>j x (by simp[Op.operands]at R⊢;exact .inr R));exact dB.quiet (v':=.func (.func f) (first.map a.eval) (captured.map a.eval)) rfl (.func _ _ _ _ h1.len h1.at_ h2.len h2.at_) Q rfl rfl}|_=>{cases h});(case makeMap t r=>cases hT:iH P t with|none=>{rw[hT]at h;cases h}|some p=>{obtain⟨kt,et⟩:=p;rw[hT]at h;cases r with|none=>{obtain⟨B,E,F,G,O,S⟩:=Ic h Q hf;refine dB.o9 (eD ?_) F G O S;unfold Instr.makeMap;simp only[aex];rw[aQ E];rfl}|some x=>{dsimp only at h;have R:=g x (by simp[Op.operands]);obtain⟨vx,L⟩:∃v,bo tm x=v:=⟨_,rfl⟩;rw[L]at h R;cases vx;(case int k n=>have C:a.eval x=.int k n:=R.gv rfl;obtain⟨B,E,F,G,O,S⟩:=Ic h Q hf;refine dB.o9 (eD ?_) F G O S;unfold Instr.makeMap;simp only[wo,C];rw[aQ (dE (yQ hT))];dsimp only;rw[aQ (a:=n) (w':=w) rfl,aQ E];rfl);(all_goals cases h)}});(case makeSlice t l c=>obtain⟨B,v',w',E,F,G,O,S⟩:=Th h Q (g l (by simp[Op.operands])) (g c (by simp[Op.operands])) hf;exact dB.o9 (eD E) F G O S)
 case slice t x lo hi mx=>
  cases mx with
  |some m=>cases h
  |none=>
   obtain⟨u,E,F,G,O⟩:=Oz (lo':=lo.map a.eval) (hi':=hi.map a.eval) h Q (g x (by simp[Op.operands]))
    (fun v W=>by
     cases lo with
     |none=>cases W
     |some l=>simp at W;subst W;exact⟨_,rfl,g l (by simp[Op.operands])⟩)
    (fun W=>by
     cases lo with
     |none=>rfl
     |some l=>cases W)
    (fun v W=>by
     cases hi with
     |none=>cases W
     |some l=>simp at W;subst W;exact⟨_,rfl,g l (by simp[Op.operands])⟩)
    (fun W=>by
     cases hi with
     |none=>rfl
     |some l=>cases W)
   exact dB.quiet (eD E) F Q G O
 (case fieldAddr t x i=>obtain⟨u,E,F,G,O⟩:=Xo (w:=w) h (g x (by simp[Op.operands]));exact dB.quiet (eD E) F Q G O);(case field t x i=>obtain⟨u,E,F,G,O⟩:=Xn (w:=w) h (g x (by simp[Op.operands]));exact dB.quiet (eD E) F Q G O);(case indexAddr t x i=>obtain⟨u,E,F,G,O⟩:=V3 (w:=w) h (g x (by simp[Op.operands])) (g i (by simp[Op.operands]));exact dB.quiet (eD E) F Q G O);(case index t x i=>obtain⟨u,E,F,G,O⟩:=VZ (w:=w) h (g x (by simp[Op.operands])) (g i (by simp[Op.operands]));exact dB.quiet (eD E) F Q G O);(case lookup t m k ok=>obtain⟨u,E,F,G,O⟩:=Ud h Q (g m (by simp[Op.operands])) (g k (by simp[Op.operands]));exact dB.quiet (eD E) F Q G O);(case mapUpdate t m k v=>obtain⟨w',E,F,G,O,S⟩:=Tf h Q (g m (by simp[Op.operands])) (g k (by simp[Op.operands])) (g v (by simp[Op.operands]));exact⟨φ,undef,w',.inr ⟨FQ E,rfl⟩,by rw[S];exact Nx.refl _ _,by rw[F];exact VR.undef,G,O⟩);(case extract t i=>have R:=g t (by simp[Op.operands]);obtain⟨vx,A⟩:∃v,bo tm t=v:=⟨_,rfl⟩;rw[A]at h;cases vx;(case tuple vs=>obtain⟨v,W,rfl⟩:=uA h;obtain⟨u,E,F⟩:=XA (w:=w) R A W;exact dB.quiet (eD E) F Q rfl rfl);(all_goals cases h));(case call c=>cases hc:c.callee with|value f=>exact absurd hc (hnc c f rfl)|builtin b=>{rw[hc]at h;dsimp only at h;have:=ZA (ty:=K) (cs:=c.args.map fun|.const _=>true|_=>false) h Q (xv (φ:=φ) ht (xs:=c.args) (fun x R=>j x (by simp[Op.operands,Call.operands,hc];simpa using R))) hf;unfold execOp;dsimp only;unfold resolve;rw[hc];exact this}|invoke r m=>{rw[hc]at h;cases h});(all_goals cases h)
end
def dH(P:c7)(φ:Ren)(H:AH)(w:bt)(s:Nat)(q:bE bn)(e:Ending)(w':bt):Prop:=
 ∃B v',e=.returned v'/\Nx φ B s q.s/\VR B q.val v'/\WR P B q.H w'/\bL φ H w B q.H w'
def qB(P:c7)(call:FuncId->ahG->AX bn):Prop:=
 ∀f b H s q,call f b H s=some q->∀φ w a,WR P φ H w->VA φ b a->dz φ s q.s->Calls P f a w (dH P φ H w s q)
section
variable{P:c7}{call:FuncId -> ahG -> AX bn}{φ B:Ren}{H:AH}{w w':bt}
def VA.Wz(h:VA φ tm b)(t:Nat):(∃v v',tm[t]? =some v/\b[t]? =some v'/\VR φ v v')\/(tm[t]? =none/\b[t]? =none):=by cases a:tm[t]? with|some v=>{obtain⟨v',e,r⟩:=h.get a;exact .inl ⟨v,v',rfl,e,r⟩}|none=>{right;refine⟨rfl,?_⟩;rw[Array.getElem?_eq_none_iff]at a⊢;have:=h.len;omega}
def LH(h:VA φ tm b)(j:Nat):yielded ops b j=yielded ops tm j:=by unfold yielded;cases a:(ops[j]?).bind (·.dst)with|none=>rfl|some t=>{simp only[ahf];rcases h.Wz t with⟨v,v',e1,e2,r⟩|⟨e1,e2⟩;{rw[e1,e2];cases r<;>rfl};{rw[e1,e2]}}
def Mv(h:VA φ tm b):Region.wanted o (yielded ops b)=Region.wanted o (yielded ops tm):=by unfold Region.wanted;cases o.guard with|none=>rfl|some g=>{simp only[LH h]}
def yy(tm:ahG)(d:Option Tmp)(v:bn):({tmps:=cq tm d v,defers:=[]}:Act)=Act.put {tmps:=tm,defers:=[]} d v:=by cases d<;>rfl
def VA.put(h:VA φ tm b)(d:Option Tmp)(a:VR φ v v'):VA φ (cq tm d v) (cq b d v'):=by cases d with|none=>exact h|some t=>{exact h.set t a}
def Zn{f:FuncId}(h:eL P f=true):∃a,P.funcs[f]? =some a∧a.body.isNone=false∧(a.name== "runtime.NumGoroutine")=false:=by unfold eL at h;cases b:P.funcs[f]? with|none=>{rw[b]at h;cases h}|some a=>{rw[b]at h;simp only[ev,ahc]at h;refine⟨a,rfl,?_,h.2⟩;cases d:a.body with|none=>{rw[d]at h;simp at h}|some c=>{rfl}}
def Ew(A:qB P call){b:ahG}(h:cP P call ops o tm H s=some q)(N:WR P φ H w)(D:VA φ tm b)(R:dz φ s q.s){K:Act->bt->Prop}(C:∀B v' w',Nx φ B s q.s->VR B q.val v'->WR P B q.H w'->bL φ H w B q.H w'->K {tmps:=cq b o.dst v',defers:=[]} w'): if Region.wanted o (yielded ops b)=true then o.wp P {tmps:=b,defers:=[]} w K Q\/(o.asks P {tmps:=b,defers:=[]} w/\LetsOut Q)else K (Act.put {tmps:=b,defers:=[]} o.dst undef) w:=by rw[Mv D];unfold cP at h;by_cases j:Region.wanted o (yielded ops tm)=true;(case neg=>rw[ed j]at h⊢;have:=bz h;subst this;rw[<-yy];exact C φ undef w (Nx.refl _ _) VR.undef N (bL.refl _ _ _));rw[eh j]at h⊢;left;by_cases t:yM o;{obtain⟨B,v',w',z⟩:=Rf (a:={tmps:=b,defers:=[]}) h t N D R;unfold Oper.wp;rcases z.run with M|⟨M,rfl⟩;{rw[M,Oper.upon_value,<-yy];exact C B v' w' z.nx z.vr z.wr z.tr};{rw[M,Oper.upon_skip,<-yy];exact C B undef w' z.nx z.vr z.wr z.tr}};{obtain⟨c,f,d,p⟩:∃c f,o.op=.call c/\c.callee=.value f:=by{unfold yM at t;simp only[Classical.not_forall]at t;obtain⟨c,f,z,G⟩:=t;exact⟨c,f,z,Classical.not_not.1 G⟩};unfold bA at h;by_cases r:o.op.operands.toList.all Operand.bU=true;(case neg=>rw[ed r]at h;cases h);rw[eh r]at h;rw[eu,d]at r;rw[d]at h;dsimp only at h;rw[p]at h;dsimp only at h;have u:VR φ (bo tm f) (Act.eval {tmps:=b,defers:=[]} f):=xx (a:={tmps:=b,defers:=[]}) D (r f (by simp[Op.operands,Call.operands,p]));have i:VA φ (c.args.map (bo tm)) (c.args.map (Act.eval {tmps:=b,defers:=[]})):=xv (a:={tmps:=b,defers:=[]}) D (fun x Y=>r x (by simp[Op.operands,Call.operands,p];right;simpa using Y));obtain⟨vf,m⟩:∃v,bo tm f=v:=⟨_,rfl⟩;rw[m]at h u;cases vf;(case func O first captured=>cases O;(case func g=>dsimp only at h;by_cases y:eL P g=true;(case neg=>rw[ed y]at h;cases h);rw[eh y]at h;obtain⟨O,n,W,X⟩:=Zn y;generalize L:Act.eval {tmps:=b,defers:=[]} f=fe at u;cases u;rename_i F E z G S T;have k:VA φ (first++c.args.map (bo tm)++captured) (F++c.args.map (Act.eval {tmps:=b,defers:=[]})++E):=(VA.append (VA.append ⟨z,G⟩ i) ⟨S,T⟩);have l:(execOp (Act.eval {tmps:=b,defers:=[]}) o).run P w=.ok (.enter g (F++c.args.map (Act.eval {tmps:=b,defers:=[]})++E)) w:=by{unfold execOp;rw[d];dsimp only;unfold resolve;rw[p];dsimp only;rw[L];rw[aQ (a:=({target:=.fn (.func g) E,args:=F++c.args.map (Act.eval {tmps:=b,defers:=[]})}:Deferred)) (w':=w) rfl];unfold invoke;dsimp only;unfold callFunc;rw[aQ (a:=P) (w':=w) rfl];rw[n];dsimp only;rw[X,W];rfl};unfold Oper.wp;rw[l,Oper.upon_enter];refine(A g _ H s q h φ w _ N k R).mono ?_;rintro e w'⟨B,v',rfl,k1,k2,k3,k4⟩;dsimp only;rw[<-yy];exact C B v' w' k1 k2 k3 k4);(all_goals cases h));(all_goals cases h)}
def Lm{r:List Oper}{q:bE (ahG×List du)}(h:dy P call ops (o::r) tm H s=some q): ∃x y,cP P call ops o tm H s=some x/\dy P call ops r (cq tm o.dst x.val) x.H x.s=some y/\q.val=(y.val.1,⟨s,x.s,x.D,x.W⟩::y.val.2)/\q.H=y.H/\q.s=y.s:=by unfold dy at h;cases a:j8 P call ops o tm H s with|none=>{rw[a]at h;cases h}|some x=>{rw[a]at h;dsimp only at h;unfold j8 at a;obtain⟨b,d,e1,e2,rfl⟩:=AX.bind_some a;have:=bz e2;subst this;dsimp only at h;cases c:dy P call ops r (cq tm o.dst b.val) b.H b.s with|none=>{rw[c]at h;cases h}|some y=>{rw[c]at h;simp only[el,ahl]at h;subst h;exact⟨b,y,e1,c,rfl,rfl,rfl⟩}}
def OO(b:∀f a,ai (call f a)){l:List Oper}{q:bE (ahG×List du)}(h:dy P call ops l tm H s=some q):s<=q.s:=(wA b ops l tm H s q h).up
def G7(a:qB P call)(d:∀f c,ai (call f c)):∀(l:List Oper)(i:Nat)(tm tmC:ahG)(H:AH)(s:Nat)(q:bE (ahG×List du))(φ:Ren)(w:bt),ops.toList.drop i=l->dy P call ops l tm H s=some q->WR P φ H w->VA φ tm tmC->dz φ s q.s->
 (∀B b w',Nx φ B s q.s->VA B q.val.1 b->WR P B q.H w'->bL φ H w B q.H w'->Q .normal {tmps:=b,defers:=[]} w')->wpOps P ops Q (List.range' i l.length) {tmps:=tmC,defers:=[]} w
 |[],i,tm,tmC,H,s,q,φ,w,_,h,hw,ht,hf,hQ=>by
  have:=bz h;subst this;exact hQ φ tmC w (Nx.refl _ _) ht hw (bL.refl _ _ _)
 |o::r,i,tm,tmC,H,s,q,φ,w,hd,h,hw,ht,hf,hQ=>by
  obtain⟨x,y,j,k,e1,e2,e3⟩:=Lm h;have v:ops[i]? =some o:=by
   have:(ops.toList.drop i)[0]? =some o:=by rw[hd];rfl
   rw[NL]at this;simpa using this
  have p:s<=x.s:=(te d ops o tm H s x j).up;have u:=OO d k;rw[hH,List.range'_succ,wpOps_cons];unfold wpOp;rw[v];dsimp only;refine Ew a j hw ht (hf.sub Z V) (fun B v' w' e m n z=>?_);refine G7 a d r (i+1) (cq tm o.dst x.val) _ x.H x.s y B w' ?_ k n ((ht.mono e.ext).put o.dst m) ?_ (fun g t F A C D E=>?_)
  ·rw[<-List.drop_drop,hd];rfl
  ·rw[e3]at hf
   exact e.free hf p
  ·refine hQ g t F ?_ ?_ ?_ ?_
   ·rw[e3];exact e.trans A p u
   ·rw[e1];exact C
   ·rw[e2];exact D
   ·rw[e2];exact z.trans E
end
structure cJ where
 o:Oper
 tm:ahG
 H:AH
 c:Nat
 q:bE bn
def cJ.mu(r:cJ):du:=⟨r.c,r.q.s,r.q.D,r.q.W⟩
def cJ.wr(r:cJ)(b:Nat):Prop:=b∈r.q.W\/(r.c<=b/\b<r.q.s)
def cJ.dom(r:cJ)(b:Nat):Prop:=b∈r.q.D\/(r.c<=b/\b<r.q.s)
instance (r:cJ) (b:Nat):Decidable (r.wr b):=inferInstanceAs (Decidable (_\/_))
def cJ.pat(r:cJ)(H:AH):AH:=fun b=>if r.wr b then r.q.H b else H b
section
variable{P:c7}{call:FuncId -> ahG -> AX bn}
def Az(P:c7)(call:FuncId->ahG->AX bn)(ops:Array Oper):List cJ->ahG->AH->Nat->Prop
 |[],_,_,_=>True
 |r::l,tm,H,s=>r.tm=tm/\r.H=H/\r.c=s/\cP P call ops r.o tm H s=some r.q/\Az P call ops l (cq tm r.o.dst r.q.val) r.q.H r.q.s
def C5:List cJ->ahG->ahG
 |[],tm=>tm
 |r::l,tm=>C5 l (cq tm r.o.dst r.q.val)
def C6:List cJ->AH->AH
 |[],H=>H
 |r::l,_=>C6 l r.q.H
def zP:List cJ->Nat->Nat
 |[],s=>s
 |r::l,_=>zP l r.q.s
def Ln:∀(l:List Oper)(tm:ahG)(H:AH)(s:Nat)(q:bE (ahG×List du)),dy P call ops l tm H s=some q->
 ∃a:List cJ,a.map (·.o)=l/\Az P call ops a tm H s/\q.val.1=C5 a tm/\q.H=C6 a H/\q.s=zP a s/\q.val.2=a.map cJ.mu
 |[],tm,H,s,q,h=>by
  have:=bz h;subst this;exact⟨[],rfl,trivial,rfl,rfl,rfl,rfl⟩
 |o::r,tm,H,s,q,h=>by
  obtain⟨x,y,i,j,e1,e2,e3⟩:=Lm h;obtain⟨a,b,c,d,e,f,g⟩:=Ln r _ _ _ y j;refine⟨⟨o,tm,H,s,x⟩::a,by simp[b],⟨rfl,rfl,rfl,i,c⟩,by rw[e1];exact d,by rw[e2];exact e,by rw[e3];exact f,by rw[e1];simp[g,cJ.mu]⟩
def gL(E:Nat->Bool):List cJ->Nat->AH->AH
 |[],_,H=>H
 |r::l,i,H=>gL E l (i+1) (if E i then r.pat H else H)
def fX(E:Nat->Bool):List cJ->Nat->ahG->ahG
 |[],_,tm=>tm
 |r::l,i,tm=>fX E l (i+1) (if E i then cq tm r.o.dst r.q.val else tm)
def yB{r:cJ}{b:Nat}(h:r.wr b):r.pat H b=r.q.H b:=eh h
def yC{r:cJ}{b:Nat}(h:¬r.wr b):r.pat H b=H b:=ed h
def xP{E1 E2:Nat->Bool}{b:Nat}:∀(l:List cJ)(i:Nat)(H H':AH),(∀k r,l[k]? =some r->r.wr b->E1 (i+k)=E2 (i+k))->H b=H' b->gL E1 l i H b=gL E2 l i H' b
 |[],i,H,H',_,h=>h
 |r::l,i,H,H',hE,h=>by
  refine xP l (i+1) _ _ (fun k d c a=>by have:=hE (k+1) d (by simpa using c) a;rwa [show i+(k+1)=i+1+k from by omega]at this) ?_;by_cases a:r.wr b
  ·have:=hE 0 r rfl a
   simp only[ahs]at this;rw[this];cases E2 i
   ·simpa using h
   ·simp only[rq];rw[yB a,yB a]
  ·have e1:∀x:Bool,(if x=true then r.pat H else H) b=H b:=fun x=>by cases x;rfl;exact yC a
   have e2:∀x:Bool,(if x=true then r.pat H' else H') b=H' b:=fun x=>by cases x;rfl;exact yC a
   rw[e1,e2];exact h
def xQ{b:Nat}:∀(l:List cJ)(i:Nat)(H:AH),(∀k r,l[k]? =some r->E (i+k)=true->¬r.wr b)->gL E l i H b=H b
 |[],i,H,_=>rfl
 |r::l,i,H,hE=>by
  unfold gL;rw[xQ l (i+1) _ (fun k d c a=>hE (k+1) d (by simpa using c) (by rwa [show i+(k+1)=i+1+k from by omega]))];cases a:E i with
  |false=>simp
  |true=>simp only[rq];exact yC (hE 0 r rfl (by simpa using a))
def fh(E:Nat->Bool)(x:Nat):Nat->Bool:=fun j=>E j||j==x
def E8{b:Nat}:∀(l:List cJ)(i:Nat)(H:AH)(k:Nat)(r:cJ),l[k]? =some r->r.wr b->(∀j c,l[j]? =some c->k<j->E (i+j)=true->¬c.wr b)->gL (fh E (i+k)) l i H b=r.q.H b
 |[],i,H,k,r,h,_,_=>by simp at h
 |r0::l,i,H,0,r,h,hw,hl=>by
  simp only[mb,el]at h;subst h;unfold gL;have:fh E (i+0) i=true:=by simp[fh]
  rw[this];simp only[rq];rw[xQ l (i+1) _ (fun k c e a=>?_),yB hw];refine hl (k+1) c (by simpa using e) V ?_;simp only[fh,Ob,ahr]at a;rw[show i+(k+1)=i+1+k from by omega];rcases a with a|a
  ·exact a
  ·omega
 |r0::l,i,H,k+1,r,h,hw,hl=>by
  unfold gL;rw[show i+(k+1)=i+1+k from by omega];exact E8 l (i+1) _ k r (by simpa using h) hw (fun j c d p a=>hl (j+1) c (by simpa using d) V (by rwa [show i+(j+1)=i+1+j from by omega]))
def qY(tm:ahG)(d:Option Tmp)(v:bn)(t:Nat):(cq tm d v)[t]? =if d=some t then tm[t]?.map (fun _=>v)else tm[t]?:=by cases d with|none=>simp[cq]|some d=>{unfold cq;simp only[el];rw[aez];by_cases h:d=t;{subst h;simp only[rq];by_cases p:d<tm.size;{simp[p]};{simp[p]}};{simp[h]}}
def xM{E1 E2:Nat->Bool}:∀(l:List cJ)(i:Nat)(tm b:ahG),(∀(k:Nat)(r:cJ),l[k]? =some r->r.o.dst=some t->E1 (i+k)=E2 (i+k))->tm[t]? =b[t]?->(fX E1 l i tm)[t]? =(fX E2 l i b)[t]?
 |[],i,tm,b,_,h=>h
 |r::l,i,tm,b,hE,h=>by
  refine xM l (i+1) _ _ (fun k d c a=>by have:=hE (k+1) d (by simpa using c) a;rwa [show i+(k+1)=i+1+k from by omega]at this) ?_;by_cases a:r.o.dst=some t
  ·have:=hE 0 r rfl a
   simp only[ahs]at this;rw[this];cases E2 i
   ·simpa using h
   ·simp only[rq];rw[qY,qY,eh a,eh a,h]
  ·have e1:∀x:Bool,(if x=true then cq tm r.o.dst r.q.val else tm)[t]? =tm[t]?:=fun x=>by
    cases x
    ·rfl
    ·simp only[rq];rw[qY,ed a]
   have e2:∀x:Bool,(if x=true then cq b r.o.dst r.q.val else b)[t]? =b[t]?:=fun x=>by
    cases x
    ·rfl
    ·simp only[rq];rw[qY,ed a]
   rw[e1,e2];exact h
def xN:∀(l:List cJ)(i:Nat)(tm:ahG),(∀(k:Nat)(r:cJ),l[k]? =some r->E (i+k)=true->r.o.dst≠some t)->(fX E l i tm)[t]? =tm[t]?
 |[],i,tm,_=>rfl
 |r::l,i,tm,hE=>by
  unfold fX;rw[xN l (i+1) _ (fun k c b a=>hE (k+1) c (by simpa using b) (by rwa [show i+(k+1)=i+1+k from by omega]))];cases a:E i with
  |false=>simp
  |true=>simp only[rq];rw[qY,ed (hE 0 r rfl (by simpa using a))]
def E3:∀(l:List cJ)(i:Nat)(tm:ahG),(fX E l i tm).size=tm.size
 |[],i,tm=>rfl
 |r::l,i,tm=>by
  unfold fX;rw[E3 l];cases E i
  ·rfl
  ·simp only[rq];cases r.o.dst<;>simp[cq]
def E4:∀(l:List cJ)(i:Nat)(tm:ahG)(k:Nat)(r:cJ),l[k]? =some r->r.o.dst=some t->(∀(j:Nat)(b:cJ),l[j]? =some b->k<j->E (i+j)=true->b.o.dst≠some t)->(fX (fh E (i+k)) l i tm)[t]? =tm[t]?.map (fun _=>r.q.val)
 |[],i,tm,k,r,h,_,_=>by simp at h
 |r0::l,i,tm,0,r,h,hw,hl=>by
  simp only[mb,el]at h;subst h;unfold fX;have:fh E (i+0) i=true:=by simp[fh]
  rw[this];simp only[rq];rw[xN l (i+1) _ (fun k b d a=>?_),qY,eh hw];refine hl (k+1) b (by simpa using d) V ?_;simp only[fh,Ob,ahr]at a;rw[show i+(k+1)=i+1+k from by omega];rcases a with a|a
  ·exact a
  ·omega
 |r0::l,i,tm,k+1,r,h,hw,hl=>by
  unfold fX;rw[show i+(k+1)=i+1+k from by omega];rw[E4 l (i+1) _ k r (by simpa using h) hw (fun j b c p a=>hl (j+1) b (by simpa using c) V (by rwa [show i+(j+1)=i+1+j from by omega]))];cases fh E (i+1+k) i
  ·rfl
  ·simp only[rq];rw[qY]
   split
   ·cases tm[t]?<;>rfl
   ·rfl
def GO(d:∀f a,ai (call f a)){r:cJ}(h:cP P call ops r.o r.tm r.H r.c=some r.q):r.pat r.H=r.q.H:=by funext b;by_cases c:r.wr b;{exact yB c};{rw[yC c];exact((te d ops r.o r.tm r.H r.c r.q h).keep b c).symm}
def KA(p:∀f d,ai (call f d)):∀(l:List cJ)(i:Nat)(tm:ahG)(H:AH)(s:Nat),Az P call ops l tm H s->∀(k:Nat)(r:cJ),l[k]? =some r->
 cP P call ops r.o r.tm r.H r.c=some r.q/\gL (fun j=>decide (j<i+k)) l i H=r.H/\fX (fun j=>decide (j<i+k)) l i tm=r.tm
 |[],i,tm,H,s,_,k,r,h=>by simp at h
 |r0::l,i,tm,H,s,hc,0,r,h=>by
  simp only[mb,el]at h;subst h;obtain⟨c,a,g,m,o⟩:=hc;refine⟨by rw[c,a,g];exact m,?_,?_⟩
  ·funext b
   rw[xQ _ _ _ (fun k r w n=>absurd (adF n) V),a]
  ·apply aeL
   intro t;rw[xN _ _ _ (fun k r w n=>absurd (adF n) V),c]
 |r0::l,i,tm,H,s,hc,k+1,r,h=>by
  obtain⟨c,a,g,m,o⟩:=hc;obtain⟨q,u,v⟩:=KA p l (i+1) _ _ _ o k r (by simpa using h);refine⟨q,?_,?_⟩
  ·unfold gL
   have:decide (i<i+(k+1))=true:=J;rw[this];simp only[rq];rw[show i+(k+1)=i+1+k from by omega];have e:r0.pat H=r0.q.H:=by
    have:=GO (P:=P) p (ops:=ops) (r:=r0) (by rw[c,a,g];exact m)
    rwa [a]at this
   rw[e];exact u
  ·unfold fX
   have:decide (i<i+(k+1))=true:=J;rw[this];simp only[rq];rw[show i+(k+1)=i+1+k from by omega];exact v
def Kz(n:∀f g,ai (call f g)):∀(l:List cJ)(i:Nat)(tm:ahG)(H:AH)(s:Nat),Az P call ops l tm H s->gL (fun _=>true) l i H=C6 l H/\fX (fun _=>true) l i tm=C5 l tm/\s<=zP l s/\(∀(k:Nat)(r:cJ),l[k]? =some r->s<=r.c/\r.c<=r.q.s/\r.q.s<=zP l s)/\(∀(j k:Nat)(r d:cJ),l[j]? =some r->l[k]? =some d->j<k->r.q.s<=d.c)
 |[],i,tm,H,s,_=>⟨rfl,rfl,Z,fun k r h=>by simp at h,fun j k r d h=>by simp at h⟩
 |r0::l,i,tm,H,s,hc=>by
  obtain⟨z,t,A,u,B⟩:=hc;obtain⟨w,x,o,q,y⟩:=Kz n l (i+1) _ _ _ B;have C:s<=r0.q.s:=(te n ops r0.o tm H s r0.q u).up;refine⟨?_,?_,fq C o,fun k r h=>?_,fun j k r d m v p=>?_⟩
  ·unfold gL
   simp only[rq];have e:r0.pat H=r0.q.H:=by
    have:=GO (P:=P) n (ops:=ops) (r:=r0) (by rw[z,t,A];exact u)
    rwa [t]at this
   rw[e];exact w
  ·unfold fX
   simp only[rq];exact x
  ·cases k with
   |zero=>
    simp only[mb,el]at h;subst h;exact⟨V,V,o⟩
   |succ k=>
    obtain⟨a,b,c⟩:=q k r (by simpa using h);exact⟨V,b,c⟩
  ·cases k with
   |zero=>omega
   |succ k=>
    cases j with
    |zero=>
     simp only[mb,el]at m;subst m;exact(q k d (by simpa using v)).1
    |succ j=>exact y j k r d (by simpa using m) (by simpa using v) V
def JG{acc:Array Nat}:∀(l:List Edge)(s:Nat)(i:Nat),(l.foldl (fun s e=>if Region.binds .any e then s|||2^e.on|||acc.getD e.on 0 else s) s).testBit i=true->s.testBit i=true\/∃e∈l,Region.binds .any e=true/\(i=e.on\/(acc.getD e.on 0).testBit i=true)
 |[],s,i,h=>.inl h
 |e::l,s,i,h=>by
  rw[adv]at h;rcases JG l _ i h with a|⟨c,a,d,f⟩
  ·by_cases b:Region.binds .any e=true
   ·rw[eh b,afR,afR,Nat.testBit_two_pow]at a
    simp only[Ob,ml]at a;rcases a with(a|a)|a
    ·exact .inl a
    ·exact .inr ⟨e,J,b,.inl a.symm⟩
    ·exact .inr ⟨e,J,b,.inr a⟩
   ·rw[ed b]at a
    exact .inl a
  ·exact .inr ⟨c,by simp[a],d,f⟩
def oo(l:List Oper)(acc:Array Nat):Array Nat:=l.foldl (init:=acc) fun acc o=>acc.push (o.after.foldl (fun s e=>if Region.binds .any e then s|||2^e.on|||acc.getD e.on 0 else s) 0)
def Aj(ops:Array Oper):Region.before ops=oo ops.toList #[]:=by unfold Region.before oo;rw[<-Array.foldl_toList]
def Dx:∀(l:List Oper)(acc:Array Nat)(j:Nat),j<acc.size->(oo l acc).getD j 0=acc.getD j 0
 |[],acc,j,_=>rfl
 |o::l,acc,j,h=>by
  unfold oo;rw[adv];have:=Dx l (acc.push (o.after.foldl (fun s e=>if Region.binds .any e then s|||2^e.on|||acc.getD e.on 0 else s) 0)) j (by simp;omega);unfold oo at this;rw[this];simp[qe,aeC,show¬j=acc.size from by omega]
def Dy:∀(l:List Oper)(acc:Array Nat)(k:Nat)(o:Oper),l[k]? =some o->∀i,((oo l acc).getD (acc.size+k) 0).testBit i=true->∃e∈o.after.toList,Region.binds .any e=true/\(i=e.on\/(e.on<acc.size+k/\((oo l acc).getD e.on 0).testBit i=true))
 |[],acc,k,o,h,i,_=>by simp at h
 |o0::l,acc,0,o,h,i,hb=>by
  simp only[mb,el]at h;subst h;have b:oo (o0::l) acc=oo l (acc.push (o0.after.foldl (fun s e=>if Region.binds .any e then s|||2^e.on|||acc.getD e.on 0 else s) 0)):=rfl;rw[b,Dx _ _ _ J]at hb;simp only[ahs,qe,Array.getElem?_push_size,adz]at hb;rw[<-Array.foldl_toList]at hb;have p:=JG (acc:=acc) o0.after.toList 0 i (by simpa[qe]using hb);rcases p with c|⟨e,c,d,a⟩
  ·simp at c
  ·refine⟨e,c,d,?_⟩
   rcases a with a|a
   ·exact .inl a
   ·right
    by_cases q:e.on<acc.size
    ·refine⟨V,?_⟩
     rw[b,Dx _ _ _ (by simp;omega)];simpa[qe,aeC,show¬e.on=acc.size from by omega]using a
    ·simp[qe,show¬e.on<acc.size from q]at a
 |o0::l,acc,k+1,o,h,i,hb=>by
  have b:oo (o0::l) acc=oo l (acc.push (o0.after.foldl (fun s e=>if Region.binds .any e then s|||2^e.on|||acc.getD e.on 0 else s) 0)):=rfl;rw[b]at hb⊢;have:=Dy l (acc.push (o0.after.foldl (fun s e=>if Region.binds .any e then s|||2^e.on|||acc.getD e.on 0 else s) 0)) k o (by simpa using h) i (by simpa[show acc.size+(k+1)=acc.size+1+k from by omega]using hb);simpa[show acc.size+1+k=acc.size+(k+1)from by omega]using this
def ZP(k:∀j o,ops.toList[j]? =some o->E j=true->∀e∈o.after.toList,Region.binds .any e=true->E e.on=true): ∀(j:Nat)(o:Oper),ops.toList[j]? =some o->E j=true->∀i,((Region.before ops).getD j 0).testBit i=true->E i=true:=by intro j;induction j using Nat.strongRecOn with|_ j ih=>{intro o b l i c;rw[Aj]at c;have:=Dy ops.toList #[] j o b i (by simpa using c);obtain⟨e,f,g,a⟩:=this;have d:=k j o b l e f g;rcases a with a|⟨a,h⟩;{rw[a];exact d};{simp only[ahE,RT,ahH]at a;have p:e.on<ops.toList.length:=by{have:=(nc.1 b).1;omega};exact ih e.on a ops.toList[e.on] (ei p) d i (by rw[Aj];exact h)}}
end
end Go.Proofs.YtlkceignfhnpoaaGreatDoor
