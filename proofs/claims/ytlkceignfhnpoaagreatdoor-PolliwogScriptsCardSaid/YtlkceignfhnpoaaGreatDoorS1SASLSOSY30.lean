/-
  Part of a proof, written small.
-/
import Derived.Test.YtlkceignfhnpoaaGreatDoorS1SASLSOSY29
set_option linter.all false
set_option maxRecDepth 100000
set_option maxHeartbeats 4000000
open Go.Proofs.Tryz
namespace Go.Proofs.YtlkceignfhnpoaaGreatDoor
open Go.RowKit Go.Shelf
attribute [local go_sem] Oper.semAt_some
def ahw:=@KeepsOthers.setCell
def ae1:=@grownBy_putObj'
def afP:=@CallsIn.inRound
variable{w W a w':bt}{v x i:bn}{f:bj}{d b1 b2 b3 b4 B E j n lo hi D:Nat}{k:Int}{b:List (af)}{xs:List aT}{o:Obj}
def qK(x:aT)(i:bn):bj:=[.string ⟨x.word.toArray⟩,i,.string ⟨x.ask.toArray⟩,.string ⟨x.data.toArray⟩]
def ud(xs:List aT)(f:bj):bj:=(List.zipWith qK xs f).flatten
def NO{x:aT}(h:f.length=xs.length):ud (xs++[x]) (f++[i])=ud xs f++qK x i:=by unfold ud;rw[adw h.symm];simp
def yh{base:Nat}{xs:bj}{row:Option Nat}(h:w.ownsRow base E j v n xs)(f:w.grownBy w' row)(i:∀r,row=some r->r<base\/∀a,w.heap[r]?≠some (.cells a E (0,0))):w'.ownsRow base E j v n xs:=by refine h.kept f ?_;rcases h.2 with⟨rfl,_⟩|⟨g,d,a,rfl,k,b,_⟩;{exact .inl rfl};{refine .inr fun e=>?_;rcases i g (by simpa[Value.ownBlock]using e.symm)with c|c;{omega};{exact c a b}}
structure jd(w:bt)(B:Nat)(v:bn)(xs:List aT)(f:bj):Prop where
 len:f.length=xs.length
 row:w.ownsRow B 31 4 v xs.length (ud xs f)
 nums:∀j(h:j<xs.length),∃i,f[j]? =some i/\w.ownsRow B 3 1 i xs[j].nums.length (oX xs[j].nums)
 nilN:∀j(h:j<xs.length),xs[j].nums=[]->f[j]? =some (.slice none 0 0)
 nilV:xs=[]->v=.slice none 0 0
def jd.nil(w:bt)(B:Nat):jd w B (.slice none 0 0) [] []:=⟨rfl,aee _ _ _ _,fun j h=>by simp at h,fun j h=>by simp at h,fun _=>rfl⟩
def jd.kept{row:Option Nat}(h:jd w B v xs f)(b:w.grownBy w' row)(c:∀r,row=some r->r<B\/∀a T,w.heap[r]?≠some (.cells a T (0,0))):jd w' B v xs f:=
 ⟨h.len,yh h.row b (fun r e=>(c r e).imp id (fun k a=>k a _)),fun j l=>by
  obtain⟨i,d,g⟩:=h.nums j l;exact⟨i,d,yh g b (fun r e=>(c r e).imp id (fun k a=>k a _))⟩,h.nilN,h.nilV⟩
def CM(a:Below w.heap.size w w'):w.grownBy w' none:=⟨a.os,a.tape,a.output,a.size,fun k b _=>a.block k b⟩
def jd.low{C:Nat}(h:jd w B v xs f)(c:C<=B):jd w C v xs f:=
 ⟨h.len,by
  obtain⟨a,b|⟨q,r,p,g,k,e,rest⟩⟩:=h.row
  ·exact⟨a,.inl b⟩
  ·exact⟨a,.inr ⟨q,r,p,g,V,e,rest⟩⟩,fun j d=>by
  obtain⟨i,a,b⟩:=h.nums j d;exact⟨i,a,BN b c⟩,h.nilN,h.nilV⟩
def jd.snoc{v':bn}{x:aT}(h:jd w B v xs f)(z:w.ownsRow B 3 1 i x.nums.length (oX x.nums))(A:x.nums=[]->i=.slice none 0 0)(l:w.grownBy w' v.ownBlock)(s:w'.ownsRow B 31 4 v' (xs.length+1) (ud xs f++qK x i)):jd w' B v' (xs++[x]) (f++[i]):=by have y:∀r,v.ownBlock=some r->r<B\/∀t,w.heap[r]?≠some (.cells t 3 (0,0)):=fun r e=>.inr fun t k=>by{rcases h.row.2 with⟨rfl,_⟩|⟨g,m,d,rfl,C,b,_⟩;{simp[Value.ownBlock]at e};{simp[Value.ownBlock]at e;subst e;rw[b]at k;simp at k}};refine⟨by simp[h.len],by rw[NO h.len,dw];exact s,fun j c=>?_,fun j c=>?_,fun h=>by simp at h⟩;{by_cases p:j<xs.length;{obtain⟨u,n,o⟩:=h.nums j p;exact⟨u,by rw[z6 (by rw[h.len];exact p)];exact n,by rw[aeP p];exact yh o l y⟩};{have q:j=xs.length:=by{simp at c;omega};subst q;exact⟨i,by rw[<-h.len];simp,by simp;exact yh z l y⟩}};{by_cases p:j<xs.length;{intro a;rw[z6 (by rw[h.len];exact p)];exact h.nilN j p (by rw[aeP p]at a;exact a)};{have q:j=xs.length:=by{simp at c;omega};subst q;intro a;rw[<-h.len];simp at a⊢;exact A a}}
def DS(R:List aT×Nat×Bool)(w:bt)(e:Ending)(w':bt):Prop:=
 Below w.heap.size w w'/\∃v f,e=.returned (.tuple #[v,.int .i64 (R.2.1:Int),.bool R.2.2])/\jd w' w.heap.size v R.1 f
theorem Oa(s:bm)(w:bt):Calls prog 82 #[.string s,.string ⟨#[10]⟩,.int .i64 0] w fun e w'=>e=.returned (.func (.func 147) #[] #[.pointer (some ⟨w.heap.size+1,0,none⟩),.pointer (some ⟨w.heap.size,0,none⟩),.pointer (some ⟨w.heap.size+2,0,none⟩)])/\ w'=((w.alloc (.cells #[.string s] 9)).alloc (.cells #[.string ⟨#[10]⟩] 9)).alloc (.cells #[.int .i64 0] 3):=by go_enter func82,ntmps82;go_wp2_with fail;go_ret;exact⟨rfl,rfl⟩
theorem aa1(s:bm):Calls prog 43 #[.string s,.string ⟨#[10]⟩] w fun e w'=>e=.returned (.func (.func 147) #[] #[.pointer (some ⟨w.heap.size+1,0,none⟩),.pointer (some ⟨w.heap.size,0,none⟩),.pointer (some ⟨w.heap.size+2,0,none⟩)])/\ w'=((w.alloc (.cells #[.string s] 9)).alloc (.cells #[.string ⟨#[10]⟩] 9)).alloc (.cells #[.int .i64 0] 3):=by go_enter func43,ntmps43;go_wp2_with fail;refine(Oa s w).mono ?_;rintro e w'⟨rfl,rfl⟩;go_wp2_with fail;go_ret;exact⟨rfl,rfl⟩
structure ir(w:bt)(d b1 b2 b3 b4:Nat)(k:Int)(W:bt)(out:List aT)(v:bn)(f:bj):Prop where
 le:out.length<=400
 r0:bf W d 25 [.slice none 0 0]
 r1:bf W b1 3 [.int .i64 0]
 r2:bf W b2 4 [.bool false]
 o:bf W b3 25 [v]
 n:bf W b4 3 [.int .i64 k]
 steps:jd W (d+8) v out f
 bel:Below d w W
 ge:d+8<=W.heap.size
structure oA(w:bt)(d b1 b2:Nat)(b:List (af))(W:bt):Prop where
 bad:xm b
 r0:bf W d 25 [.slice none 0 0]
 r1:bf W b1 3 [.int .i64 (b.length:Int)]
 r2:bf W b2 4 [.bool false]
 bel:Below d w W
def lG{b T:Nat}{cs:bj}{row:Option Nat}(h:bf W b T cs)(f:W.grownBy a row)(g:∀r,row=some r->∃o:Obj,W.heap[r]? =some o/\o.isCells=false):bf a b T cs:=
 h.grown f (fun e=>by
  obtain⟨o,c,d⟩:=g b e.symm;unfold bf at h;rw[h]at c;cases c;cases d)
def ir.own{out:List aT}{row:Option Nat}(h:ir w d b1 b2 b3 b4 k W out v f)(b:W.grownBy a row)(i:∀r,row=some r->d<=r/\∃o:Obj,W.heap[r]? =some o/\o.isCells=false):ir w d b1 b2 b3 b4 k a out v f:=
 have c:=fun r e=>(i r e).2
 ⟨h.le,lG h.r0 b c,lG h.r1 b c,lG h.r2 b c,lG h.o b c,lG h.n b c,h.steps.kept b (fun r e=>.inr fun p T j=>by
  obtain⟨o,g,l⟩:=c r e;rw[j]at g;cases g;cases l),h.bel.grown b (aeG h.r0.lt) (fun r e=>(i r e).1),fq h.ge b.size⟩
def ir.below{out:List aT}(h:ir w d b1 b2 b3 b4 k W out v f)(b:Below W.heap.size W a):ir w d b1 b2 b3 b4 k a out v f:=
 h.own (CM b) (fun r e=>by cases e)
def oA.own{row:Option Nat}(h:oA w d b1 b2 b W)(c:W.grownBy a row)(g:∀r,row=some r->d<=r/\∃o:Obj,W.heap[r]? =some o/\o.isCells=false):oA w d b1 b2 b a:=
 have f:=fun r e=>(g r e).2
 ⟨h.bad,lG h.r0 c f,lG h.r1 c f,lG h.r2 c f,h.bel.grown c (aeG h.r0.lt) (fun r e=>(g r e).1)⟩
def uQ(W:bt)(b:Nat)(v:bn):W.grownBy (W.setCell ⟨b,0,none⟩ v) (some b):=⟨rfl,rfl,rfl,J,fun k a h=>Below.heap_setCell _ _ _ _ (fun e=>h (by rw[e]))⟩
def ir.turn{out:List aT}(h:ir w d b1 b2 b3 b4 k W out x f)(b:d<B)(c:b1<B)(g:b2<B)(i:b3<B)(j:b4<B)(a:B<d+8)(v:bn):ir w d b1 b2 b3 b4 k (W.setCell ⟨B,0,none⟩ v) out x f:=
 ⟨h.le,h.r0.other (by simp;omega) v,h.r1.other (by simp;omega) v,h.r2.other (by simp;omega) v,h.o.other (by simp;omega) v,h.n.other (by simp;omega) v,h.steps.kept (uQ W B v) (fun r e=>by cases e;exact .inl a),h.bel.setCell (p:=⟨B,0,none⟩) (by simp;omega) v,by simpa using h.ge⟩
def ir.tick{out:List aT}(h:ir w d b1 b2 b3 b4 k W out x f)(b:d+1=b1)(c:b1+1=b2)(g:b2+1=b3)(i:b3+1=b4)(a:Int):ir w d b1 b2 b3 b4 a (W.setCell ⟨b4,0,none⟩ (.int .i64 a)) out x f:=
 ⟨h.le,h.r0.other (by simp;omega) _,h.r1.other (by simp;omega) _,h.r2.other (by simp;omega) _,h.o.other (by simp;omega) _,h.n.set 0 _,h.steps.kept (uQ W b4 _) (fun r e=>by cases e;exact .inl V),h.bel.setCell (p:=⟨b4,0,none⟩) (by simp;omega) _,by simpa using h.ge⟩
def ir.left{out:List aT}{f:bj}(h:ir w d b1 b2 b3 b4 k W out x f)(e:xm b)(g:k=(b.length:Int))(a:d+1=b1)(c:b1+1=b2): oA w d b1 b2 b (((W.setCell ⟨d,0,none⟩ (.slice none 0 0)).setCell ⟨b1,0,none⟩ (.int .i64 k)).setCell ⟨b2,0,none⟩ (.bool false)):=by
 subst g;exact⟨e,((h.r0.set 0 _).other (by simp;omega) _).other (by simp;omega) _,(((h.r1.other (by simp;omega) _).set 0 _)).other (by simp;omega) _,((h.r2.other (by simp;omega) _).other (by simp;omega) _).set 0 _,
  ((h.bel.setCell (p:=⟨d,0,none⟩) Z _).setCell (p:=⟨b1,0,none⟩) (by simp;omega) _).setCell (p:=⟨b2,0,none⟩) (by simp;omega) _⟩
def zl{b:Nat}(h:b<lo):je lo hi W (W.setCell ⟨b,0,none⟩ v):=⟨J,fun k a _=>Below.heap_setCell _ _ _ _ (by simp;omega)⟩
def zo{row:Option Nat}(b:W.grownBy a row)(f:hi<=W.heap.size)(c:∀r,row=some r->hi<=r):je lo hi W a:=⟨b.size,fun k _ d=>b.block k V (fun e=>by have:=c k e.symm;omega)⟩
def zk(b:Below W.heap.size W a):KeepsFrom D W a:=⟨b.size,fun k o _ c _=>(b.block k (agd c)).trans c⟩
def VC{row:Option Nat}(g:W.grownBy a row)(i:∀r,row=some r->∃b T d,W.heap[r]? =some (.cells b T d)):KeepsFrom D W a:=
 ⟨g.size,fun k o _ c h=>(g.block k (agd c) (fun e=>by
  obtain⟨b,T,d,f⟩:=i k e.symm;rw[c]at f;cases f;cases h)).trans c⟩
def Q3{base:Nat}{xs:bj}(h:w.ownsRow base E j v n xs):∀r,v.ownBlock=some r->∃a T d,w.heap[r]? =some (.cells a T d):=fun r e=>by
 rcases h.2 with⟨rfl,_⟩|⟨g,c,a,rfl,_,b,_⟩
 ·simp[Value.ownBlock]at e
 ·simp[Value.ownBlock]at e;subst e;exact⟨_,_,_,b⟩
def QE{l:List (af)}{x:af}(h:b++[x] <+: l):x∈l/\b.length+1<=l.length:=by obtain⟨t,rfl⟩:=h;exact⟨J,J⟩
def VW:(prog.info? 31).map (fun i=>(i.zero,i.size,i.bytes))=some (some (.agg #[.string .empty,.slice none 0 0,.string .empty,.string .empty]),4,72):=U
def oA.turn(h:oA w d b1 b2 b W)(a:d<B)(c:b1<B)(e:b2<B)(v:bn):oA w d b1 b2 b (W.setCell ⟨B,0,none⟩ v):=
 ⟨h.bad,h.r0.other (by simp;omega) v,h.r1.other (by simp;omega) v,h.r2.other (by simp;omega) v,h.bel.setCell (p:=⟨B,0,none⟩) (by simp;omega) v⟩
def OR{s:af}(c:s.length<=1000000)(B:Nat)(w:bt)(a:kE w B s):
 DO Fence.wide (4-1) prog 147 #[.pointer (some ⟨B+1,0,none⟩),.pointer (some ⟨B,0,none⟩),.pointer (some ⟨B+2,0,none⟩)] gK B (B+3) (fun xs=>xs=bY 10 s) (fun b=>b <+: bY 10 s) w:=
 OP s c B w a
def BO{w:bt}{base:Nat}{xs:bj}(h:w.ownsRow base E j v n xs):∃a c,v=.slice a n c:=by rcases h.2 with⟨rfl,rfl⟩|⟨g,b,d,rfl,_⟩;{exact⟨none,0,rfl⟩};{exact⟨_,b,rfl⟩}
def IH{a b c:Addr}{u:bn}:KeepsFrom D W (((W.setCell a u).setCell b v).setCell c x).drew:=
 ((((ahw W a u).trans (ahw _ b v)).trans (ahw _ c x)).trans (KeepsOthers.drew _)).from D
def oA.drew(h:oA w d b1 b2 b W):oA w d b1 b2 b W.drew:=⟨h.bad,h.r0,h.r1,h.r2,h.bel.drew⟩
def ir.more{out:List aT}{y:aT}{g cap:Nat}(h:ir w d b1 b2 b3 b4 k W out v f)(j:(W.alloc o).grownBy a v.ownBlock)(u:a.ownsRow (d+8) 31 4 (.slice (some ⟨g,0,none⟩) (out.length+1) cap) (out.length+1) (ud out f++qK y i))(z:W.ownsRow (d+8) 3 1 i y.nums.length (oX y.nums))(A:y.nums=[]->i=.slice none 0 0)(B:out.length<=400)(C:out.length≠400)(l:d+1=b1)(m:b1+1=b2)(n:b2+1=b3)(s:b3+1=b4):
 ir w d b1 b2 b3 b4 k (a.setCell ⟨b3,0,none⟩ (.slice (some ⟨g,0,none⟩) (out.length+1) cap)) (out++[y]) (.slice (some ⟨g,0,none⟩) (out.length+1) cap) (f++[i]):=by
 have t:=h.steps.row.lt;have q:∀b,b<d+8->some b≠v.ownBlock:=fun b D e=>by have:=(t b e.symm).1;omega
 have c:=h.below ((Below.refl _ W).alloc Z o);have x:jd a (d+8) (.slice (some ⟨g,0,none⟩) (out.length+1) cap) (out++[y]) (f++[i]):=c.steps.snoc (z.alloc o) A j u;exact⟨by simp;omega,(c.r0.grown j (q _ V)).other (by simp;omega) _,(c.r1.grown j (q _ V)).other (by simp;omega) _,(c.r2.grown j (q _ V)).other (by simp;omega) _,(c.o.grown j (q _ V)).set 0 _,(c.n.grown j (q _ V)).other (by simp;omega) _,
  x.kept (uQ a b3 _) (fun r e=>by cases e;exact .inl V),(c.bel.grown j (aeG c.r0.lt) (fun r e=>by have:=(t r e).1;omega)).setCell (p:=⟨b3,0,none⟩) (by simp;omega) _,by have:=j.size;have:=c.ge;simp;omega⟩
def VD{row:Option Nat}(b:(W.alloc o).grownBy a row)(c:hi<=W.heap.size)(d:∀r,row=some r->hi<=r):je lo hi W a:=
 (zo (World.grownBy_alloc W o none) c (fun r e=>by cases e)).trans (zo b (by simp;omega) d)
theorem T8 (s:bm) (w:bt) (z:s.size<=100000) (he:pI w): Calls prog 18 #[.string s] w (DS (cY s.data.toList) w):=by
 refine(aed (n:=4)).1 ?_;refine callsIn_of_wp_marks func18 rfl trivial ?_ rfl;simp only[ntmps18,ahE,hH,RT,Nat.reduceAdd,Nat.reduceSub,ago,agn,List.push_toArray,agy,adu,List.cons_append];gi_wp2;refine⟨trivial,?_⟩;refine(aed.2 (aa1 s)).mono ?_;rintro e w1⟨rfl,hw1⟩;have hz:w1.heap.size=w.heap.size+1+1+1+1+1+3:=by{rw[hw1];simp};have HSQ:Hid (kE w1 (w.heap.size+1+1+1+1+1) s.data.toList):=dk (by rw[hw1];refine⟨?_,?_,?_⟩;{exact((bf.newAt J _ _).alloc).alloc};{exact(bf.newAt J _ _).alloc};·exact bf.newAt J _ _);have HI0:Hid (ir w w.heap.size (w.heap.size+1) (w.heap.size+1+1) (w.heap.size+1+1+1) (w.heap.size+1+1+1+1) 0 w1 [] (.slice none 0 0) []):=dk (by rw[hw1];refine⟨J,?_,?_,?_,?_,?_,jd.nil _ _,?_,J⟩;{exact((((((bf.newAt J _ _).alloc).alloc).alloc).alloc).alloc).alloc.alloc};{exact(((((bf.newAt J _ _).alloc).alloc).alloc).alloc).alloc.alloc};{exact((((bf.newAt J _ _).alloc).alloc).alloc).alloc.alloc};{exact(((bf.newAt J _ _).alloc).alloc).alloc.alloc};{exact((bf.newAt J _ _).alloc).alloc.alloc};·exact((((((((Below.refl _ _).alloc Z _).alloc J _).alloc (by simp;omega) _).alloc (by simp;omega) _).alloc (by simp;omega) _).alloc (by simp;omega) _).alloc (by simp;omega) _).alloc (by simp;omega) _);clear hw1;have hwz:w.heap.size=w.heap.size:=rfl;generalize e5:w.heap.size+1+1+1+1+1=B at*;generalize e4:w.heap.size+1+1+1+1=b4 at*;generalize e3:w.heap.size+1+1+1=b3 at*;generalize e2:w.heap.size+1+1=b2 at*;generalize e1:w.heap.size+1=b1 at*;generalize e0:w.heap.size=d at*;gi_wp2;have h01:d+1=b1:=e1;have h12:b1+1=b2:=V;have h23:b2+1=b3:=V;have h34:b3+1=b4:=V;have h45:b4+1=B:=V;have HSL:=dk (cQ s);have HPL:Hid (∀x∈bY 10 s.data.toList,x.length<=100000):=dk (fun x hx=>by have:=ue 10 s.data.toList x hx;rw[cQ]at this;omega);have hwl:(bY 10 s.data.toList).length<=100001:=by{rw[xR];have:=agl (a:=(10:bq)) (l:=s.data.toList);rw[cQ]at this;omega}
 have HB0:=dk e0;clear e0 e1 e2 e3 e4 e5;refine Ql (n:=4) rfl V (gf:=147) (lb:=#[.pointer (some ⟨B+1,0,none⟩),.pointer (some ⟨B,0,none⟩),.pointer (some ⟨B+2,0,none⟩)]) ?fv trivial (enters_of func147 U rfl)
  (enc:=gK) (B:=B) (hi:=B+3) (S:=fun xs=>xs=bY 10 s.data.toList) (Sp:=fun b=>b <+: bY 10 s.data.toList) V V (OR (by rw[HSL.out];omega) B w1 HSQ.out)
  (fun b W=>∃out v f,lK b out/\ir w d b1 b2 b3 b4 (b.length:Int) W out v f) (fun c b W=>c=.ret/\oA w d b1 b2 b W)
  (fun s A A' row z hg hr=>by obtain⟨out,v,f,hd,h⟩:=z;exact⟨out,v,f,hd,h.own hg (fun r e=>by have:=hr r e;exact⟨V,this.2⟩)⟩)
  (fun c s A A' row z hg hr=>⟨z.1,z.2.own hg (fun r e=>by have:=hr r e;exact⟨V,this.2⟩)⟩)
  (fun s A v z=>by obtain⟨out,x,f,hd,h⟩:=z;exact⟨out,x,f,hd,h.turn V V V V V V v⟩)
  (fun c s A v z=>⟨z.1,z.2.turn V V V v⟩)
  ⟨[],_,[],lK.nil,HI0.out⟩
  (fun x=>{tmps:=#[.string s,undef,.pointer (some ⟨d,0,none⟩),.pointer (some ⟨b1,0,none⟩),.pointer (some ⟨b2,0,none⟩),.pointer (some ⟨b3,0,none⟩),.pointer (some ⟨b4,0,none⟩),.string ⟨x.toArray⟩,undef,undef,.string s,.func (.func 147) #[] #[.pointer (some ⟨B+1,0,none⟩),.pointer (some ⟨B,0,none⟩),.pointer (some ⟨B+2,0,none⟩)],.string ⟨x.toArray⟩,undef,undef,undef,undef,undef,undef,undef,undef,undef,undef,undef,undef,undef,undef,undef,undef,undef,undef,undef,undef,undef,undef,undef,undef,undef,undef],defers:=[]}) ?assign ?body ?done ?stop
 (case fv=>rfl);(case assign=>intro l x W K hK;gi_wp2;exact hK)
 case body=>
  rintro l b x W⟨out,v,f,hd,E⟩N;have HD:=dk hd;obtain⟨hxm,hpl⟩:=QE N;have hxl:=HPL.out x hxm;have F:=dk (E.tick h01 h12 h23 h34 ((b.length:Int)+1));have HP:=dk E;have c4:=E.n.cell 0;have f4:=E.n.froz 0;simp only[mb]at c4;have Y:Hid ((⟨x.toArray⟩:bm).data.toList=x):=dk rfl;have HXS:Hid ((⟨x.toArray⟩:bm).size=x.length):=dk (kL x);have C:=dk (fun W=>Tryz.strings_HasPrefix ⟨x.toArray⟩ ⟨#[35]⟩ W);have HEW:Hid (pI (W.setCell ⟨b4,0,none⟩ (.int .i64 ((b.length:Int)+1)))):=dk (he.below (F.out.bel.mono (by have:=HB0.out;omega)));clear hd N hxm E;unfold gK at*;by_cases hk:mR x=true;{have HN:=dk (HD.out.skip hk);by_cases u:x=[];{have hq:(⟨x.toArray⟩:bm).toList.isEmpty=true:=by{rw[ahm,Y.out,u];rfl};clear hk C u;generalize(⟨x.toArray⟩:bm)=X at*;gi_wp2;refine⟨trivial,?_⟩;gi_wp2;exact⟨(ahw _ _ _).from _,zl V,_,_,_,HN.out,by rw[dw];exact F.out⟩};{have hq:(⟨x.toArray⟩:bm).toList.isEmpty=false:=by{rw[ahm,Y.out];simp[u]};have hpf:Lib.hasPrefix (⟨x.toArray⟩:bm).data.toList (⟨#[35]⟩:bm).data.toList=true:=by{rw[Y.out];cases x with|nil=>exact absurd rfl u|cons a t=>{simp[mR]at hk;subst hk;simp[Lib.hasPrefix]}};rw[hpf]at C;clear hk u hpf;generalize(⟨x.toArray⟩:bm)=X at*;gi_wp2_with (refine⟨trivial,?_⟩;gi_at_call 44;refine(afP l (aed.2 (C.out _))).mono ?_;rintro e w' ⟨rfl,rfl⟩);exact⟨(ahw _ _ _).from _,zl V,_,_,_,HN.out,by rw[dw];exact F.out⟩}}
  ·have hk2:mR x=false:=by simpa using hk
   have u:x≠[]:=fun e=>by{subst e;simp[mR]at hk};have hq:(⟨x.toArray⟩:bm).toList.isEmpty=false:=by{rw[ahm,Y.out];simp[u]};have hpf:Lib.hasPrefix (⟨x.toArray⟩:bm).data.toList (⟨#[35]⟩:bm).data.toList=false:=by{rw[Y.out];cases x with|nil=>exact absurd rfl u|cons a t=>{have ha:a≠35:=fun e=>hk (by subst e;simp[mR]);have:(35==a)=false:=pe.2 (fun e=>ha e.symm);simp[Lib.hasPrefix,List.isPrefixOf,this]}};rw[hpf]at C;have O:=dk (NU ⟨x.toArray⟩ _ (by rw[HXS.out];omega) HEW.out);rw[Y.out]at O;have HSK:=dk hk2;clear hk u hpf hk2;generalize(⟨x.toArray⟩:bm)=X at*;unfold At at O;gi_wp2_with (refine⟨trivial,?_⟩;gi_at_call 44;refine(afP l (aed.2 (C.out _))).mono ?_;rintro e w' ⟨rfl,rfl⟩)
   refine⟨trivial,?_⟩;refine(afP l (aed.2 O.out)).mono ?_;rintro e m⟨G,k⟩;have R:=dk (F.out.below G);have HK2:Hid (KeepsFrom w1.heap.size W m):=dk (((ahw W ⟨b4,0,none⟩ (.int .i64 ((b.length:Int)+1))).from _).trans (zk G));have HG2:Hid (je B (B+3) W m):=dk ((zl V).trans (zo (CM G) (by have:=F.out.ge;omega) (fun r e=>by cases e)));have hsz2:=G.size;clear c4 f4;cases z:gl x with
   |none=>
    rw[z]at k;simp only at k;subst k;have HBD:=dk (HD.out.bad HSK.out (.inl z));have g:=dk (R.out.below ((Below.refl _ m).alloc Z (.cells #[.string ⟨#[]⟩,.slice none 0 0,.string ⟨#[]⟩,.string ⟨#[]⟩] 31)));have HKA:Hid (KeepsFrom w1.heap.size m (m.alloc (.cells #[.string ⟨#[]⟩,.slice none 0 0,.string ⟨#[]⟩,.string ⟨#[]⟩] 31))):=dk (zk ((Below.refl _ m).alloc Z _));clear z G O C;unfold jV;gi_wp2;generalize m.alloc (.cells #[.string ⟨#[]⟩,.slice none 0 0,.string ⟨#[]⟩,.string ⟨#[]⟩] 31)=w3 at*;have c4:=g.out.n.cell 0;have f0:=g.out.r0.froz 0;have f1:=g.out.r1.froz 0;have f2:=g.out.r2.froz 0;have q0:=g.out.r0.cell 0;have q1:=g.out.r1.cell 0;have q2:=g.out.r2.cell 0;simp only[mb]at c4 q0 q1 q2;have hmx:prog.follows .mixedOrders=true:=U
    gi_region_with_o (fail)
    (all_goals gi_wp2);(all_goals exact⟨(HK2.out.trans (HKA.out)).trans (IH),rfl,(g.out.left HBD.out J h01 h12).drew⟩)
   |some y=>
    rw[z]at k;obtain⟨i,rfl,hnv,hnz⟩:=k;have HNZ:=dk hnz;clear hnz;have HOW:Hid (m.ownsRow (d+8) 3 1 i y.nums.length (oX y.nums)):=dk (BN hnv (by have:=F.out.ge;omega));obtain⟨P,Q,rfl⟩:=BO hnv;obtain⟨va,vc,rfl⟩:=BO R.out.steps.row;have g:=dk (R.out.below ((Below.refl _ m).alloc Z (.cells #[.string ⟨y.word.toArray⟩,.slice P y.nums.length Q,.string ⟨y.ask.toArray⟩,.string ⟨y.data.toArray⟩] 31)));have HKA:Hid (KeepsFrom w1.heap.size m (m.alloc (.cells #[.string ⟨y.word.toArray⟩,.slice P y.nums.length Q,.string ⟨y.ask.toArray⟩,.string ⟨y.data.toArray⟩] 31))):=dk (zk ((Below.refl _ m).alloc Z _));have HSA:Hid (bf (m.alloc (.cells #[.string ⟨y.word.toArray⟩,.slice P y.nums.length Q,.string ⟨y.ask.toArray⟩,.string ⟨y.data.toArray⟩] 31)) m.heap.size 31 (qK y (.slice P y.nums.length Q))):=dk (bf.new m 31 (qK y (.slice P y.nums.length Q)));have HOA:=dk (HOW.out.alloc (.cells #[.string ⟨y.word.toArray⟩,.slice P y.nums.length Q,.string ⟨y.ask.toArray⟩,.string ⟨y.data.toArray⟩] 31));have c3:=g.out.o.cell 0;simp only[mb]at c3;have hol:=g.out.le;by_cases M:out.length=400
    ·have HBD:=dk (HD.out.bad HSK.out (.inr M))
     have e400:((out.length:Int)==400)=true:=by{simp;omega};clear z G O C hnv M;unfold jV;gi_wp2;generalize m.alloc (.cells #[.string ⟨y.word.toArray⟩,.slice P y.nums.length Q,.string ⟨y.ask.toArray⟩,.string ⟨y.data.toArray⟩] 31)=w3 at*;have c4:=g.out.n.cell 0;have f0:=g.out.r0.froz 0;have f1:=g.out.r1.froz 0;have f2:=g.out.r2.froz 0;have q0:=g.out.r0.cell 0;have q1:=g.out.r1.cell 0;have q2:=g.out.r2.cell 0;simp only[mb]at c4 q0 q1 q2;have hmx:prog.follows .mixedOrders=true:=U
     gi_region_with_o (fail)
     (all_goals gi_wp2);(all_goals exact⟨(HK2.out.trans (HKA.out)).trans (IH),rfl,(g.out.left HBD.out J h01 h12).drew⟩)
    ·have HN:=dk (HD.out.step HSK.out z M)
     have e400:((out.length:Int)==400)=false:=pe.2 V;have hol4:out.length<400:=V;obtain⟨i0,hi,hz0,hz1,hz2⟩:=afs VW;have HG3:Hid (je B (B+3) W (m.alloc (.cells #[.string ⟨y.word.toArray⟩,.slice P y.nums.length Q,.string ⟨y.ask.toArray⟩,.string ⟨y.data.toArray⟩] 31))):=dk (HG2.out.trans (zo (CM ((Below.refl _ m).alloc Z _)) (by have:=R.out.ge;omega) (fun r e=>by cases e)));clear z G O C hnv M HP F R HG2 HOW;unfold jV;have q:=dk g.out.steps.row;have hge:=g.out.ge;have g3:=g.out.o.froz 0;obtain⟨k0,k1,k2,k3⟩:=HSA.out.wS;have hz3:(m.alloc (.cells #[.string ⟨y.word.toArray⟩,.slice P y.nums.length Q,.string ⟨y.ask.toArray⟩,.string ⟨y.data.toArray⟩] 31)).heap.size=m.heap.size+1:=J;have hwb:m.heap.size+1+1=m.heap.size+2:=rfl;gi_wp2_with (gi_at_builtin;refine wpListIn_append_own _ rfl _ _ 25 rfl (d+8) 31 i0 _ 4 72 underlying25 hi hz0 hz1 hz2 rfl I _ _ _ rfl (q.out.alloc _) ⟨m.heap.size+1,0,none⟩ 1 1 (qK y (.slice P y.nums.length Q)) rfl rfl ?c1 ?c2 ?c3 ?c4 ?c5 ?_);(case c1=>exact World.news_of_block (cs:=#[.string ⟨y.word.toArray⟩,.slice P y.nums.length Q,.string ⟨y.ask.toArray⟩,.string ⟨y.data.toArray⟩]) (t:=31) (fr:=(0,0)) (by rw[<-hz3];exact aec _ _));(case c2=>simp[qK,Value.oneCell']);(case c3=>unfold maxLen;omega);(case c4=>omega);(case c5=>simp;omega)
     intro v' w4 H j _;obtain⟨g',L,rfl⟩:=ownsRow_succ H;have HN4:Hid (ir w d b1 b2 b3 b4 ((b.length:Int)+1) (w4.setCell ⟨b3,0,none⟩ (.slice (some ⟨g',0,none⟩) (out.length+1) L)) (out++[y]) (.slice (some ⟨g',0,none⟩) (out.length+1) L) (f++[.slice P y.nums.length Q])):=dk
      (g.out.more j H HOA.out HNZ.out hol V h01 h12 h23 h34)
     have HG4:Hid (je B (B+3) W (w4.setCell ⟨b3,0,none⟩ (.slice (some ⟨g',0,none⟩) (out.length+1) L))):=dk ((HG3.out.trans (VD j V (fun r e=>by have:=(q.out.lt r e).1;omega))).trans (zl V));have HK4:Hid (KeepsFrom w1.heap.size W (w4.setCell ⟨b3,0,none⟩ (.slice (some ⟨g',0,none⟩) (out.length+1) L))):=dk (((HK2.out.trans HKA.out).trans ((zk ((Below.refl _ _).alloc Z _)).trans (VC j (Q3 (q.out.alloc _))))).trans ((ahw _ _ _).from _));have d3:=((g.out.o.alloc).grown j (fun e=>by have:=(q.out.lt b3 e.symm).1;omega)).cell 0;have g4:=((g.out.o.alloc).grown j (fun e=>by have:=(q.out.lt b3 e.symm).1;omega)).froz 0;simp only[mb]at d3;clear k0 k1 k2 k3 c3 g3 H j HSA HOA q g;gi_wp2;exact⟨HK4.out,HG4.out,_,_,_,HN.out,by rw[dw];exact HN4.out⟩
 case done=>
  rintro D ys W hD rfl⟨out,v,f,hd,E⟩hK;have HP:=dk E;have HR:Hid (cY s.data.toList=(out,0,true)):=dk hd.all;have c3:=E.o.cell 0;have f0:=E.r0.froz 0;have f1:=E.r1.froz 0;have f2:=E.r2.froz 0;have q0:=E.r0.cell 0;have q1:=E.r1.cell 0;have q2:=E.r2.cell 0;simp only[mb]at c3 q0 q1 q2;obtain⟨va,vc,rfl⟩:=BO E.steps.row;clear E hd;gi_wp2
  have hb:=HP.out;have HK':=(((ahw W ⟨d,0,none⟩ (.slice va out.length vc)).trans (ahw _ ⟨b1,0,none⟩ (.int .i64 0))).trans (ahw _ ⟨b2,0,none⟩ (.bool true))).same D _ hK rfl;refine⟨J,.inl ⟨_,_,rfl,run_takeDeferred HK',?_⟩⟩;have x0:=(((hb.r0.set 0 (.slice va out.length vc)).other (a:=⟨b1,0,none⟩) (by simp;omega) (.int .i64 0)).other (a:=⟨b2,0,none⟩) (by simp;omega) (.bool true));have x1:=(((hb.r1.other (a:=⟨d,0,none⟩) (by simp;omega) (.slice va out.length vc)).set 0 (.int .i64 0)).other (a:=⟨b2,0,none⟩) (by simp;omega) (.bool true));have x2:=(((hb.r2.other (a:=⟨d,0,none⟩) (by simp;omega) (.slice va out.length vc)).other (a:=⟨b1,0,none⟩) (by simp;omega) (.int .i64 0)).set 0 (.bool true));have hst:jd (((W.setCell ⟨d,0,none⟩ (.slice va out.length vc)).setCell ⟨b1,0,none⟩ (.int .i64 0)).setCell ⟨b2,0,none⟩ (.bool true)) (d+8) (.slice va out.length vc) out f:=
   ((hb.steps.kept (uQ W d _) (fun r e=>by cases e;exact .inl V)).kept (uQ _ b1 _) (fun r e=>by cases e;exact .inl V)).kept (uQ _ b2 _) (fun r e=>by cases e;exact .inl V)
  have hbl:Below d w (((W.setCell ⟨d,0,none⟩ (.slice va out.length vc)).setCell ⟨b1,0,none⟩ (.int .i64 0)).setCell ⟨b2,0,none⟩ (.bool true)):=
   ((hb.bel.setCell (p:=⟨d,0,none⟩) Z _).setCell (p:=⟨b1,0,none⟩) (by simp;omega) _).setCell (p:=⟨b2,0,none⟩) (by simp;omega) _
  generalize((W.setCell ⟨d,0,none⟩ (.slice va out.length vc)).setCell ⟨b1,0,none⟩ (.int .i64 0)).setCell ⟨b2,0,none⟩ (.bool true)=W5 at*;have hg:=ae1 W5 D (.deferred none);have hno:∀r,some D=some r->∃o:Obj,W5.heap[r]? =some o/\o.isCells=false:=fun r e=>by{cases e;exact⟨_,HK',rfl⟩};have y0:=(lG x0 hg hno).cell 0;have y1:=(lG x1 hg hno).cell 0;have y2:=(lG x2 hg hno).cell 0;simp only[List.set_cons_zero,mb]at y0 y1 y2;refine⟨.tuple #[.slice va out.length vc,.int .i64 0,.bool true],by simp[results,Tryz.f18,go_sem,y0,y1,y2],?_⟩;unfold DS;rw[HR.out,HB0.out];refine⟨hbl.trans (belowK_b (w:=w1) V W5 D _ _ hD HK' rfl rfl),_,f,rfl,?_⟩;exact(hst.kept hg (fun r e=>.inr fun cur T hc=>by obtain⟨o,ho,hq⟩:=hno r e;rw[hc]at ho;cases ho;cases hq)).low V
 (case stop=>rintro D c b W hD N⟨rfl,hX⟩hK;have Y:=dk hX;have HR:Hid (cY s.data.toList=([],b.length,false)):=dk (hX.bad.all N);clear hX;gi_wp2;refine⟨J,.inl ⟨_,_,rfl,run_takeDeferred hK,?_⟩⟩;have c0:=(lG Y.out.r0 (ae1 W D (.deferred none)) (fun r e=>by cases e;exact⟨_,hK,rfl⟩)).cell 0;have c1:=(lG Y.out.r1 (ae1 W D (.deferred none)) (fun r e=>by cases e;exact⟨_,hK,rfl⟩)).cell 0;have c2:=(lG Y.out.r2 (ae1 W D (.deferred none)) (fun r e=>by cases e;exact⟨_,hK,rfl⟩)).cell 0;simp only[mb]at c0 c1 c2;refine⟨.tuple #[.slice none 0 0,.int .i64 (b.length:Int),.bool false],by simp[results,Tryz.f18,go_sem,c0,c1,c2],?_⟩;unfold DS;rw[HR.out];refine⟨?_,_,[],rfl,jd.nil _ _⟩;rw[HB0.out];exact Y.out.bel.trans (belowK_b (w:=w1) V W D _ _ hD hK rfl rfl))
end Go.Proofs.YtlkceignfhnpoaaGreatDoor
