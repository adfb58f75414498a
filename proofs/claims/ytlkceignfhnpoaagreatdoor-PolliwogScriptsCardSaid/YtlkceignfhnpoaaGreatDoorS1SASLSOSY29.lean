/-
  Part of a proof, written small.
-/
import Derived.Test.YtlkceignfhnpoaaGreatDoorS1SASLSOSY25
import Derived.Test.YtlkceignfhnpoaaGreatDoorS1SASLSOSY27
import Derived.RangeFuncBox
import Derived.Maps.AppendAt
import Derived.Lib.Join
import Derived.Deep.AppendLies
import Derived.Shelf.Abstract
import Derived.Shelf.RegionOpen
import Derived.OwnWalkIn
import Derived.TacticsInMore
import Derived.LoopNIn
import Derived.LoopIn
import Derived.Lib.IndexLaws
set_option linter.all false
set_option maxRecDepth 100000
set_option maxHeartbeats 4000000
open Go.Proofs.Tryz
namespace Go.Proofs.YtlkceignfhnpoaaGreatDoor
def aed:=@callsIn_wide
variable{B n o j:Nat}{w w' d W g a:bt}{f v0 v1 c l:bn}{x y:aT}{R i:Option aT}{e:Ending}{xs:bj}{need r:af}{b:List (af)}
section
open Go.RowKit
structure ek(B b:Nat)(w w':bt):Prop where
 os:w'.os=w.os
 tape:w'.tape=w.tape
 output:w'.output=w.output
 size:w.heap.size<=w'.heap.size
 block:∀k,k<B->k≠b->w'.heap[k]? =w.heap[k]?
def ek.trans{b:Nat}{x y z:bt}(h:ek B b x y)(k:ek B b y z):ek B b x z:=
 ⟨k.os.trans h.os,k.tape.trans h.tape,k.output.trans h.output,fq h.size k.size,fun i a c=>(k.block i a c).trans (h.block i a c)⟩
def ek.BW{b:Nat}(a:Below w.heap.size w w')(d:B<=w.heap.size):ek B b w w':=⟨a.os,a.tape,a.output,a.size,fun k c _=>a.block k V⟩
def ek.Ro{b:Nat}{row:Option Nat}(a:w.grownBy w' row)(f:B<=w.heap.size)(c:∀j,row=some j->B<=j):ek B b w w':=
 ⟨a.os,a.tape,a.output,a.size,fun k d _=>a.block k V (fun e=>by have:=c k e.symm;omega)⟩
def ek.set{b:Nat}(w:bt)(o:Nat)(v:bn):ek B b w (w.setCell ⟨b,o,none⟩ v):=
 ⟨rfl,rfl,rfl,J,fun k _ a=>Below.heap_setCell _ _ _ _ a⟩
def oX(l:List Int):bj:=l.map (Value.int .i64)
structure iK(w:bt)(B b:Nat)(x:aT)(f:bn):Prop where
 box:bf w b 31 [.string ⟨x.word.toArray⟩,f,.string ⟨x.ask.toArray⟩,.string ⟨x.data.toArray⟩]
 own:w.ownsRow B 3 1 f x.nums.length (oX x.nums)
 lt:b<B
 le:B<=w.heap.size
 nil:x.nums=[]->f=.slice none 0 0
def sU{b:Nat}{v:bn}(h:w.ownsRow B 3 1 f n xs)(c:b<B):(w.setCell ⟨b,o,none⟩ v).ownsRow B 3 1 f n xs:=
 h.kept (row:=some b) ⟨rfl,rfl,rfl,J,fun k _ a=>Below.heap_setCell _ _ _ _ (fun e=>a (by rw[e]))⟩ (Or.inr (fun e=>by have:=(h.lt b e).1;omega))
def iK.below{b:Nat}(h:iK w B b x f)(a:Below w.heap.size w w'):iK w' B b x f:=
 ⟨h.box.below a h.box.lt,h.own.kept (row:=none) ⟨a.os,a.tape,a.output,a.size,fun k c _=>a.block k c⟩ (by cases d:f.ownBlock<;>simp),h.lt,fq h.le a.size,h.nil⟩
def iK.ON{b:Nat}(h:iK w B b x f)(a:bm):iK (w.setCell ⟨b,2,none⟩ (.string a)) B b {x with ask:=a.data.toList} f:=
 ⟨h.box.set 2 _,sU h.own h.lt,h.lt,by simpa using h.le,h.nil⟩
def iK.OM{b:Nat}(h:iK w B b x f)(a:bm):iK (w.setCell ⟨b,3,none⟩ (.string a)) B b {x with data:=a.data.toList} f:=
 ⟨h.box.set 3 _,sU h.own h.lt,h.lt,by simpa using h.le,h.nil⟩
def tN(R:Option aT)(w:bt)(B b:Nat)(e:Ending)(w':bt):Prop:=
 ek B b w w'/\match R with
  |some y=>e=.returned (.bool true)/\∃f,iK w' B b y f
  |none=>e=.returned (.bool false)
def yR{b:Nat}{f:bn}(h:R=some y)(c:ek B b w w')(d:iK w' B b y f)(a:e=.returned (.bool true)):tN R w B b e w':=by subst h;exact⟨c,a,f,d⟩
def yS{b:Nat}(h:R=none)(c:ek B b w w')(a:e=.returned (.bool false)):tN R w B b e w':=by subst h;exact⟨c,a⟩
theorem Tj (x:aT) (f:bn) (b B:Nat) (s:bm) (w:bt) (a:iK w B b x f): Calls prog 85 #[.pointer (some ⟨b,0,none⟩),.int .i32 87,.string s] w (tN (eX 87 s.data.toList x) w B b):=by have h:Hid (eX 87 s.data.toList x=if jr s.data.toList=0 then none else some {x with ask:=s.data.toList}):=dk rfl;generalize eX 87 s.data.toList x=l at*;have c:=dk (fun W=>UL s W);have k:=dk a;have c2:=a.box.cell 2;have m:=a.box.froz 2;simp only[SS,mb]at c2 m;clear a;have j:=dk (k.out.ON s);by_cases d:jr s.data.toList=0;{have i:Hid (l=none):=dk (by rw[h.out,eh d]);rw[d]at c;clear d h;go_enter func85,ntmps85;go_wp2_with fail;refine(c.out _).mono ?_;rintro e g⟨rfl,rfl⟩;go_wp2_with fail;go_ret;exact yS i.out (ek.set _ _ _) rfl};{have i:Hid (l=some {x with ask:=s.data.toList}):=dk (by rw[h.out,ed d]);have n:(jr s.data.toList !=0)=true:=by{simpa using d};clear d h;generalize jr s.data.toList=K at*;go_enter func85,ntmps85;go_wp2_with fail;refine(c.out _).mono ?_;rintro e g⟨rfl,rfl⟩;go_wp2_with fail;go_ret;exact yR i.out (ek.set _ _ _) j.out (by simp[n])}
theorem Tk (x:aT) (f:bn) (b B:Nat) (s:bm) (w:bt) (r:s.size<=1000000) (l:iK w B b x f): Calls prog 85 #[.pointer (some ⟨b,0,none⟩),.int .i32 72,.string s] w (tN (eX 72 s.data.toList x) w B b):=by have j:Hid (eX 72 s.data.toList x=(iw s.data.toList).map fun d=>{x with data:=d}):=dk rfl;generalize eX 72 s.data.toList x=p at*;have h:=dk (MJ s w r);have c:=dk l;clear l;unfold Lo at h;go_enter func85,ntmps85;go_wp2_with fail;refine h.out.mono ?_;rintro e g⟨rfl,i⟩;have a:=dk (c.out.below i);have k:Hid (ek B b w g):=dk (ek.BW i c.out.le);have c3:=a.out.box.cell 3;have q:=a.out.box.froz 3;simp only[SS,mb]at c3 q;clear i h c;cases m:iw s.data.toList with|none=>{rw[m]at j;have n:Hid (p=none):=dk j.out;simp only[Option.getD_none,agD];clear m j;go_wp2_with fail;go_ret;exact yS n.out (k.out.trans (ek.set _ _ _)) rfl}|some d=>{rw[m]at j;have n:Hid (p=some {x with data:=d}):=dk j.out;have o:=dk (a.out.OM ⟨d.toArray⟩);simp only[adz,agC];clear m j;go_wp2_with fail;go_ret;exact yR n.out (k.out.trans (ek.set _ _ _)) o.out rfl}
def VX:(prog.info? 3).map (fun i=>(i.zero,i.size,i.bytes))=some (some (.int .i64 0),1,8):=U
def R5(l:List Int)(n:Int):oX l++[Value.int .i64 n]=oX (l++[n]):=by simp[oX]
theorem If (c:Nat) (hc:c=69\/c=78) (x:aT) (f:bn) (b B:Nat) (s:bm) (w:bt) (hs:s.size<=1000000) (hn:x.nums.length<=1000) (L:iK w B b x f): Calls prog 85 #[.pointer (some ⟨b,0,none⟩),.int .i32 (c:Int),.string s] w (tN (eX (UInt8.ofNat c) s.data.toList x) w B b):=by
 obtain⟨i0,hi,Y,hz1,hz2⟩:=afs VX;have v:Hid (eX (UInt8.ofNat c) s.data.toList x=match iD s.data.toList with
  |some n=>if c=69/\1<n then none else some {x with nums:=x.nums++[(n:Int)]}
  |none=>none):=dk (by unfold eX;rcases hc with rfl|rfl<;>cases iD s.data.toList<;>simp)
 have hc1:((c:Int)==87)=false:=pe.2 V;have hc2:((c:Int)==72)=false:=pe.2 V;generalize eX (UInt8.ofNat c) s.data.toList x=W at*;have M:=dk (UF s w hs);have G:=dk L;have O:=L.lt;clear L;go_enter func85,ntmps85;go_wp2_with fail;refine M.out.mono ?_;rintro e g⟨H,a⟩;have p:=dk (G.out.below H);have D:Hid (ek B b w g):=dk (ek.BW H G.out.le);have i:=p.out.own;have P:=p.out.le;have hw2:=p.out.box.lt;have c1:=p.out.box.cell 1;have f1:=p.out.box.froz 1;simp only[SS,mb]at c1 f1;obtain⟨n,is,C,hN⟩:∃(n:Int)(is:Bool),e=.returned (.tuple #[.int .i64 n,.bool is])/\((is=true/\iD s.data.toList=some n.toNat/\0<=n)\/(is=false/\iD s.data.toList=none)):=by{cases hq:iD s.data.toList with|none=>{rw[hq]at a;obtain⟨y,he⟩:=a;exact⟨y,false,he,.inr ⟨rfl,rfl⟩⟩}|some m=>{rw[hq]at a;exact⟨m,true,a.1,.inl ⟨rfl,J,V⟩⟩}};subst C;clear H a M G;go_wp2_with (at_builtin;refine adU _ rfl _ _ 22 rfl B 3 i0 (.int .i64 0) 1 8 underlying22 hi Y hz1 hz2 rfl I _ _ _ rfl (i.alloc _) ⟨g.heap.size,0,none⟩ 1 1 [.int .i64 n] rfl rfl ?c1 ?c2 ?c3 ?c4 ?c5 ?_);(case c1=>exact(aeF _ _ _));(case c2=>simp[Value.oneCell']);(case c3=>unfold maxLen;omega);(case c4=>omega);(case c5=>simp;omega);intro l T o d S;obtain⟨X,t,rfl⟩:=ownsRow_succ o;have r:bf T b 31 _:=(p.out.box.alloc).grown d (fun e=>by have:=(i.lt b e.symm).1;omega);have E:Hid (ek B b w T):=dk ((D.out.trans (ek.BW ((Below.refl _ g).alloc Z _) P)).trans (ek.Ro d (by simp;omega) (fun j hj=>(i.lt j hj).1)));have Q:B<=T.heap.size:=by{have:=E.out.size;have:=D.out.size;have:=d.size;simp at this;omega}
 have N:Hid (iK (T.setCell ⟨b,1,none⟩ (.slice (some ⟨X,0,none⟩) (x.nums.length+1) t)) B b {x with nums:=x.nums++[n]} (.slice (some ⟨X,0,none⟩) (x.nums.length+1) t)):=dk
  ⟨r.set 1 _,by rw[dw,ado];rw[R5]at o;exact sU o O,O,by simpa using Q,fun h=>(by simp at h)⟩
 have z:Hid (ek B b w (T.setCell ⟨b,1,none⟩ (.slice (some ⟨X,0,none⟩) (x.nums.length+1) t))):=dk (E.out.trans (ek.set _ _ _));have k1:=r.cell 1;have g1:=r.froz 1;simp only[SS,mb]at k1 g1;clear r E D p i o d S c1 f1;rcases hN with⟨rfl,q,R⟩|⟨rfl,q⟩;{rw[q]at v;by_cases u:c=69;{have A:((c:Int) !=69)=false:=by{simp;omega};by_cases h1:1<n.toNat;{have F:Hid (W=none):=dk (by rw[v.out];simp only;rw[eh ⟨u,h1⟩]);have K:¬(n<=1):=V;clear v q u;go_wp2_with fail;go_ret;exact yS F.out z.out (by simp[A,K])};{have F:Hid (W=some {x with nums:=x.nums++[n]}):=dk (by rw[v.out];simp only;rw[ed (fun k=>h1 k.2)];rw[adL R]);have K:n<=1:=V;clear v q u;go_wp2_with fail;go_ret;exact yR F.out z.out N.out (by simp[A,K])}};{have A:((c:Int) !=69)=true:=by{simp;omega};have F:Hid (W=some {x with nums:=x.nums++[n]}):=dk (by rw[v.out];simp only;rw[ed (fun k=>u k.1)];rw[adL R]);clear v q u;go_wp2_with fail;go_ret;exact yR F.out z.out N.out (by simp[A])}};{rw[q]at v;have F:Hid (W=none):=dk v.out;clear v q;go_wp2_with fail;go_ret;exact yS F.out z.out rfl}
def Ti(c:bq)(g:c=87\/c=72\/c=69\/c=78)(x:aT)(f:bn)(b B:Nat)(s:bm)(w:bt)(d:s.size<=1000000)(e:x.nums.length<=1000)(a:iK w B b x f): Calls prog 85 #[.pointer (some ⟨b,0,none⟩),.int .i32 ((c.toNat:Nat):Int),.string s] w (tN (eX c s.data.toList x) w B b):=by rcases g with rfl|rfl|rfl|rfl;{exact Tj x f b B s w a};{exact Tk x f b B s w d a};{exact If 69 (.inl rfl) x f b B s w d e a};{exact If 78 (.inr rfl) x f b B s w d e a}
def acZ{c:bq}{w:af}(h:eX c w x=some y):y.nums.length<=x.nums.length+1:=by unfold eX at h;split at h;{split at h<;>cases h;exact HT _};{split at h;{cases a:iw w with|none=>{rw[a]at h;cases h}|some d=>{rw[a]at h;cases h;exact HT _}};{split at h;{split at h;{cases h};{cases h;simp}};{cases h}}}
end
section
open Go.RowKit
def jV(x:aT)(f:bn):bn:=.agg #[.string ⟨x.word.toArray⟩,f,.string ⟨x.ask.toArray⟩,.string ⟨x.data.toArray⟩]
def At(R:Option aT)(w:bt)(e:Ending)(w':bt):Prop:=
 Below w.heap.size w w'/\match R with
  |some x=>∃f,e=.returned (.tuple #[jV x f,.bool true])/\w'.ownsRow w.heap.size 3 1 f x.nums.length (oX x.nums)/\(x.nums=[]->f=.slice none 0 0)
  |none=>e=.returned (.tuple #[jV ⟨[],[],[],[]⟩ (.slice none 0 0),.bool false])
def ac0(h:R=some x)(a:Below w.heap.size w w')(c:w'.ownsRow w.heap.size 3 1 f x.nums.length (oX x.nums))(d:x.nums=[]->f=.slice none 0 0)(b:e=.returned (.tuple #[jV x f,.bool true])):At R w e w':=by subst h;exact⟨a,f,b,c,d⟩
def AW(h:R=none)(a:Below w.heap.size w w')(b:e=.returned (.tuple #[jV ⟨[],[],[],[]⟩ (.slice none 0 0),.bool false])):At R w e w':=by subst h;exact⟨a,b⟩
def Ah(h:Below B w d):
 Below B w ((((d.setCell ⟨B,0,none⟩ v0).setCell ⟨B,1,none⟩ v1).setCell ⟨B,2,none⟩ c).setCell ⟨B,3,none⟩ l):=
 (((h.setCell (p:=⟨B,0,none⟩) Z v0).setCell (p:=⟨B,1,none⟩) Z v1).setCell (p:=⟨B,2,none⟩) Z c).setCell (p:=⟨B,3,none⟩) Z l
structure xd(w d:bt)(need:af)(b:List (af))(i:Option aT)(j:Nat):Prop where
 it:d.heap[w.heap.size+3]? =some (.stringIter ⟨need.toArray⟩ j)
 words:bf d (w.heap.size+1) 9 (b.map gK)
 res:bf d w.heap.size 31 [.string ⟨#[]⟩,.slice none 0 0,.string ⟨#[]⟩,.string ⟨#[]⟩]
 bel:Below w.heap.size w d
 st:∃x f,iK d (w.heap.size+4) (w.heap.size+2) x f/\i6 (need.drop j) (b.tail.drop j) x=i/\x.nums.length<=j
structure DU(w d:bt)(need:af)(b:List (af))(j:Nat)(x:aT)(f:bn):Prop where
 it:d.heap[w.heap.size+3]? =some (.stringIter ⟨need.toArray⟩ (j+1))
 words:bf d (w.heap.size+1) 9 (b.map gK)
 res:bf d w.heap.size 31 [.string ⟨#[]⟩,.slice none 0 0,.string ⟨#[]⟩,.string ⟨#[]⟩]
 bel:Below w.heap.size w d
 st:iK d (w.heap.size+4) (w.heap.size+2) x f
def xd.Cb(h:xd w d need b i j): ∃x f,DU w (d.iterAt (w.heap.size+3) ⟨need.toArray⟩ (j+1)) need b j x f/\i6 (need.drop j) (b.tail.drop j) x=i/\x.nums.length<=j:=by
 obtain⟨x,f,a,k,l⟩:=h.st;have t:d.heap.size<=(d.iterAt (w.heap.size+3) ⟨need.toArray⟩ (j+1)).heap.size:=by{have c:=ae6 d (w.heap.size+3) ⟨need.toArray⟩ j (j+1) h.it;unfold World.iterAt;simp}
 refine⟨x,f,⟨ae6 _ _ _ _ _ h.it,(Lib.iterAt_other _ _ _ _ _ V).trans h.words,(Lib.iterAt_other _ _ _ _ _ V).trans h.res,afK h.bel V _ _,
  ⟨(Lib.iterAt_other _ _ _ _ _ V).trans a.box,?_,a.lt,fq a.le t,a.nil⟩⟩,k,l⟩
 obtain⟨c,e|⟨q,r,p,n,g,m,rest⟩⟩:=a.own;{exact⟨c,.inl e⟩};{refine⟨c,.inr ⟨q,r,p,n,g,?_,rest⟩⟩;rw[Lib.iterAt_other _ _ _ _ _ V];exact m}
def DU.next{f c:bn}(h:DU w d need b j x f)(a:ek (w.heap.size+4) (w.heap.size+2) d g)(n:iK g (w.heap.size+4) (w.heap.size+2) y c)(e:i6 (need.drop (j+1)) (b.tail.drop (j+1)) y=i)(m:y.nums.length<=j+1):xd w g need b i (j+1):=
 ⟨(a.block _ V V).trans h.it,(a.block _ V V).trans h.words,(a.block _ V V).trans h.res,
  ⟨a.os.trans h.bel.os,a.tape.trans h.bel.tape,a.output.trans h.bel.output,fq h.bel.size a.size,fun k l=>(a.block k V V).trans (h.bel.block k l)⟩,y,c,n,e,m⟩
def ek.bel{b:Nat}(c:ek B b d g)(a:Below w.heap.size w d)(f:w.heap.size<=B)(h:w.heap.size<=b):Below w.heap.size w g:=
 ⟨c.os.trans a.os,c.tape.trans a.tape,c.output.trans a.output,fq a.size c.size,fun k e=>(c.block k V V).trans (a.block k e)⟩
def BN{C:Nat}(h:w.ownsRow B 3 1 f n xs)(g:C<=B):w.ownsRow C 3 1 f n xs:=by obtain⟨a,b|⟨q,r,p,d,e,c,rest⟩⟩:=h;{exact⟨a,.inl b⟩};{exact⟨a,.inr ⟨q,r,p,d,V,c,rest⟩⟩}
def Q2{b:Nat}(h:w.ownsRow B 3 1 f n xs)(a:b<B):
 ((((w.setCell ⟨b,0,none⟩ v0).setCell ⟨b,1,none⟩ v1).setCell ⟨b,2,none⟩ c).setCell ⟨b,3,none⟩ l).ownsRow b 3 1 f n xs:=
 BN (sU (sU (sU (sU h a) a) a) a) (aeG a)
theorem NU (s:bm) (w:bt) (hs:s.size<=100000) (he:pI w): Calls prog 45 #[.string s] w (At (gl s.data.toList) w):=by have m:Hid (gl s.data.toList=qM (bY 32 s.data.toList)):=dk rfl;have HE:=dk he;have HSP:=dk (fun W h=>N9 s 32 W V h);have hwp:1<=(bY 32 s.data.toList).length:=by{rw[xR];omega};have hwl:(bY 32 s.data.toList).length<=100001:=by{rw[xR];have:=agl (a:=(32:bq)) (l:=s.data.toList);rw[cQ]at this;omega};have HPL:Hid (∀x∈bY 32 s.data.toList,x.length<=100000):=dk (fun x hx=>by have:=ue 32 s.data.toList x hx;rw[cQ]at this;omega);generalize gl s.data.toList=RN at*;generalize bY 32 s.data.toList=b at*;clear he;go_enter func45,ntmps45;have L:=dk (bf.new w 31 [.string ⟨#[]⟩,.slice none 0 0,.string ⟨#[]⟩,.string ⟨#[]⟩]);go_wp2_with fail;refine(HSP.out _ HE.out.alloc).mono ?_;rintro e z⟨rfl,E⟩;have Q:z.heap.size=w.heap.size+1+1:=by{rw[E];simp};have n:=dk (show bf z w.heap.size 31 [.string ⟨#[]⟩,.slice none 0 0,.string ⟨#[]⟩,.string ⟨#[]⟩]from by rw[E];exact L.out.alloc);have p:=dk (show bf z (w.heap.size+1) 9 (b.map gK)from by rw[E];exact bf.newAt J 9 (b.map gK));have G:=dk (show Below w.heap.size w z from by rw[E];exact((Below.refl _ _).alloc Z _).alloc J _);have hc0:z.cell? ⟨w.heap.size+1,0,none⟩=some (.string ⟨(b.getD 0 []).toArray⟩):=by{rw[p.out.cell];cases b with|nil=>simp at hwp|cons a t=>{rfl}};have H:=dk (fun W=>UJ ⟨(b.getD 0 []).toArray⟩ W);rw[show(⟨(b.getD 0 []).toArray⟩:bm).data.toList=b.getD 0 []from rfl]at H;clear E HSP L;go_wp2_with fail;refine(H.out _).mono ?_;rintro e g⟨rfl,rfl⟩;obtain⟨g0,g1,g2,g3⟩:=n.out.CO;obtain⟨Y,r1,r2,r3⟩:=n.out.wS;cases o:iF (b.getD 0 [])with|none=>{have M:Hid (RN=none):=dk (by rw[m.out];unfold qM;rw[o]);simp only[Option.getD_none,agD];clear o m H;go_wp2_with fail;refine ahF (v:=.tuple #[jV ⟨[],[],[],[]⟩ (.slice none 0 0),.bool false]) (by unfold jV;simp[results,Tryz.results45,go_sem,Y,r1,r2,r3]) rfl (AW M.out ?_ rfl);exact Ah G.out}|some need=>{have T:=Sl _ (Hv o);have hnl6:need.length<=6:=T.2.2.1;have HLT:=dk T.2.2.2;simp only[adz,agC];clear T H;by_cases hl:b.length=1+need.length;{have e1:((b.length:Int) !=1+(need.length:Int))=false:=by{simp;omega};have M:Hid (RN=i6 need b.tail ⟨b.getD 0 [],[],[],[]⟩):=dk (by rw[m.out];unfold qM;rw[o];exact eh hl);clear o m;have HNL:=dk hl;clear hl;have hp0:∀i,i=i6 need b.tail ⟨b.getD 0 [],[],[],[]⟩->xd w ((z.alloc (.cells #[.string ⟨(b.getD 0 []).toArray⟩,.slice none 0 0,.string ⟨#[]⟩,.string ⟨#[]⟩] 31)).iter ⟨need.toArray⟩ 0) need b i 0:=fun i hF=>by{have h1:=ae2 (z.alloc (.cells #[.string ⟨(b.getD 0 []).toArray⟩,.slice none 0 0,.string ⟨#[]⟩,.string ⟨#[]⟩] 31)) ⟨need.toArray⟩ 0;have h2:Below z.heap.size z ((z.alloc (.cells #[.string ⟨(b.getD 0 []).toArray⟩,.slice none 0 0,.string ⟨#[]⟩,.string ⟨#[]⟩] 31)).iter ⟨need.toArray⟩ 0):=((Below.refl _ _).alloc Z _).alloc J _;have h3:=bf.newAt Q 31 [.string ⟨(b.getD 0 []).toArray⟩,.slice none 0 0,.string ⟨#[]⟩,.string ⟨#[]⟩];have hz:(z.alloc (.cells #[.string ⟨(b.getD 0 []).toArray⟩,.slice none 0 0,.string ⟨#[]⟩,.string ⟨#[]⟩] 31)).heap.size=w.heap.size+3:=by{simp[Q]};rw[hz]at h1;exact⟨h1,p.out.below h2 p.out.lt,n.out.below h2 n.out.lt,ig G.out h2,⟨b.getD 0 [],[],[],[]⟩,.slice none 0 0,⟨h3.alloc,aee _ _ _ _,V,by have:=ae2 (z.alloc (.cells #[.string ⟨(b.getD 0 []).toArray⟩,.slice none 0 0,.string ⟨#[]⟩,.string ⟨#[]⟩] 31)) ⟨need.toArray⟩ 0;have:=(yt.1 this).1;omega,fun _=>rfl⟩,hF.symm,J⟩};have HP0:=dk (hp0 _ rfl);generalize i6 need b.tail ⟨b.getD 0 [],[],[],[]⟩=i at*;clear hp0 n p G g0 g1 g2 g3 Y r1 r2 r3;generalize b.getD 0 []=wd at*;go_wp2_with fail;generalize(z.alloc (.cells #[.string ⟨wd.toArray⟩,.slice none 0 0,.string ⟨#[]⟩,.string ⟨#[]⟩] 31)).iter ⟨need.toArray⟩ 0=W0 at*;go_loopw [] (fun d=>∃j:Nat,j<=need.length/\xd w d need b i j) (fun d=>need.length-d.iterPos (w.heap.size+3));(case atStart=>exact⟨0,V,HP0.out⟩);(case round=>obtain⟨j,hj,hpl⟩:=hrel;have F:=dk hpl;clear hpl;by_cases u:j<need.length;{have hlt':j<(⟨need.toArray⟩:bm).size:=by{rw[kL];exact u};have hgb:(⟨need.toArray⟩:bm)[j]=need[j]:=rfl;have C:=HLT.out _ (wk u);have hc7:(need[j]'u).toNat<128:=by{rcases C with h|h|h|h<;>rw[h]<;>decide};have hnx:∀ty,(Instr.next (.pointer (some ⟨w.heap.size+3,0,none⟩)) true ty).run prog wr=.ok (.tuple #[.bool true,.int .i64 (j:Int),.int .i32 (((need[j]'u).toNat:Nat):Int)]) (wr.iterAt (w.heap.size+3) ⟨need.toArray⟩ (j+1)):=fun ty=>Lib.run_next_ascii_at (P:=prog) wr (w.heap.size+3) ⟨need.toArray⟩ j ty F.out.it hlt' (by rw[hgb];exact hc7);obtain⟨x,f,hM,N,hnl⟩:=F.out.Cb;have hl1:1+j<b.length:=by{have:=HNL.out;omega};have S:(wr.iterAt (w.heap.size+3) ⟨need.toArray⟩ (j+1)).cell? ⟨w.heap.size+1,1+j,none⟩=some (.string ⟨(b[1+j]).toArray⟩):=by{rw[hM.words.cell];simp[hl1,gK]};have hxl:=HPL.out _ (wk hl1);have hdn:need.drop j=need[j]::need.drop (j+1):=R2 u;have hdr:b.tail.drop j=b[1+j]::b.tail.drop (j+1):=by{rw[R2 (by rw[List.length_tail];omega)];congr 1;rw[List.getElem_tail];congr 1;omega};rw[hdn,hdr]at N;simp only[i6]at N;have r:=dk N;have K:=dk (Ti need[j] C x f (w.heap.size+2) (w.heap.size+4) ⟨(b[1+j]).toArray⟩ _ (by rw[kL];omega) V hM.st);have HM:=dk hM;rw[show(⟨(b[1+j]).toArray⟩:bm).data.toList=b[1+j]from rfl]at K;clear hgb hc7 hM N hdn hdr C;generalize need[j]=c at*;generalize b[1+j]=y at*;generalize wr.iterAt (w.heap.size+3) ⟨need.toArray⟩ (j+1)=W1 at*;have hl1':(1:Int)+(j:Int)<(b.length:Int):=V;unfold tN at K;go_wp2_with fail;refine K.out.mono ?_;rintro e g⟨hg2,k⟩;have A:=dk hg2;clear hg2 S K;cases D:eX c y x with|none=>{rw[D]at k r;simp only at k;subst k;have B:Hid (RN=none):=dk (by rw[M.out,<-r.out]);have HX2:Hid (bf g w.heap.size 31 [.string ⟨#[]⟩,.slice none 0 0,.string ⟨#[]⟩,.string ⟨#[]⟩]):=dk ((A.out.block _ V V).trans HM.out.res);have HB2:Hid (Below w.heap.size w g):=dk (A.out.bel HM.out.bel V V);obtain⟨Y,r1,r2,r3⟩:=HX2.out.wS;obtain⟨g0,g1,g2,g3⟩:=HX2.out.CO;clear D r M A HM F;go_wp2_with fail;refine ahF (v:=.tuple #[jV ⟨[],[],[],[]⟩ (.slice none 0 0),.bool false]) (by unfold jV;simp[results,Tryz.results45,go_sem,Y,r1,r2,r3]) rfl (AW B.out ?_ rfl);exact Ah HB2.out}|some q=>{rw[D]at k r;obtain⟨rfl,lv2,O⟩:=k;have hql:=acZ D;have HN2:=dk (HM.out.next A.out O r.out V);have HIT:=dk F.out.it;clear D O r A HM F;go_wp2_with fail;go_roundw;(case rel=>exact⟨j+1,V,HN2.out⟩);(case measure=>rw[zq HN2.out.it,zq HIT.out];omega)}};{have hnx:=fun ty=>afm (P:=prog) wr (w.heap.size+3) ⟨need.toArray⟩ j ty F.out.it (by rw[kL];exact u);obtain⟨x,f,X,N,hnl⟩:=F.out.st;rw[aeY V]at N;have B:Hid (RN=some x):=dk (by rw[M.out,<-N];simp[i6]);obtain⟨al,cl,rfl,-,-,-⟩:=(dJ.BV X.own V).len;have R:=dk X;have HX:=dk F.out.res;have HB:=dk F.out.bel;clear N X M F;obtain⟨p0,p1,p2,p3⟩:=R.out.box.wS;obtain⟨Y,r1,r2,r3⟩:=HX.out.wS;obtain⟨g0,g1,g2,g3⟩:=HX.out.CO;go_wp2_with fail;refine ahF (v:=.tuple #[jV x (.slice al x.nums.length cl),.bool true]) (by unfold jV;simp[results,Tryz.results45,go_sem,Y,r1,r2,r3]) rfl (ac0 B.out (Ah HB.out) ?_ R.out.nil rfl);exact Q2 R.out.own V})};{have e1:((b.length:Int) !=1+(need.length:Int))=true:=by{simp;omega};have M:Hid (RN=none):=dk (by rw[m.out];unfold qM;rw[o];exact ed hl);clear o m hl;go_wp2_with fail;refine ahF (v:=.tuple #[jV ⟨[],[],[],[]⟩ (.slice none 0 0),.bool false]) (by unfold jV;simp[results,Tryz.results45,go_sem,Y,r1,r2,r3]) rfl (AW M.out ?_ rfl);exact Ah G.out}}
end
section
open Go
def MI{w d:af}(h:iw w=some d):d.length<=w.length:=by have a:=We h;rw[<-a];unfold iX;split;{rename_i e;rw[e];simp};{rw[CK];omega}
def Bi:∀(g:List (af))(n:Nat)(out xs:List aT)(k:Nat)(ok:Bool),iA n out g=(xs,k,ok)->∀x∈xs,x∈out\/∃l∈g,gl l=some x
 |[],n,out,xs,k,ok,h=>by simp only[iA,adq]at h;rw[<-h.1];exact fun x a=>.inl a
 |l::t,n,out,xs,k,ok,h=>by
  rw[sH]at h;by_cases f:mR l=true
  ·rw[eh f]at h
   intro x a;rcases Bi t _ _ _ _ _ h x a with b|⟨m,b,c⟩
   ·exact .inl b
   ·exact .inr ⟨m,by simp[b],c⟩
  ·rw[ed f]at h
   cases a:gl l with
   |none=>rw[a]at h;simp only[adq]at h;rw[<-h.1];intro x a;cases a
   |some y=>
    rw[a]at h;simp only at h;by_cases e:out.length=400
    ·rw[eh e]at h;simp only[adq]at h;rw[<-h.1];intro x a;cases a
    ·rw[ed e]at h
     intro x i;rcases Bi t _ _ _ _ _ h x i with b|⟨m,b,c⟩
     ·rcases my.1 b with d|d
      ·exact .inl d
      ·rw[adQ.1 d];exact .inr ⟨l,J,a⟩
     ·exact .inr ⟨m,by simp[b],c⟩
def QJ{s:af}{xs:List aT}{k:Nat}{ok:Bool}(h:cY s=(xs,k,ok)):∀x∈xs,∃l∈bY 10 s,gl l=some x:=fun x b=>by
 rcases Bi _ _ _ _ _ _ h x b with a|a
 ·cases a
 ·exact a
end
section
open Go.RowKit Go.Shelf
attribute [local go_sem] Oper.semAt_some
structure kE(W:bt)(B:Nat)(rest:af):Prop where
 s:bf W B 9 [gK rest]
 sep:bf W (B+1) 9 [.string ⟨#[10]⟩]
 save:bf W (B+2) 3 [.int .i64 0]
def kE.keep{rest:af}(h:kE W B rest)(b:je B (B+3) W a):kE a B rest:=
 ⟨(b.same _ V V).trans h.s,(b.same _ V V).trans h.sep,(b.same _ V V).trans h.save⟩
def kE.set{rest:af}(h:kE W B rest)(r:af):kE (W.setCell ⟨B,0,none⟩ (gK r)) B r:=
 ⟨h.s.set 0 _,(Below.heap_setCell _ _ _ _ J).trans h.sep,(Below.heap_setCell _ _ _ _ J).trans h.save⟩
def kE.below{rest:af}(h:kE W B rest)(b:Below W.heap.size W a):kE a B rest:=
 ⟨h.s.below b h.s.lt,h.sep.below b h.sep.lt,h.save.below b h.save.lt⟩
def Cw(B:Nat)(W:bt):Nat:=match W.cell? ⟨B,0,none⟩with|some (.string s)=>s.size|_=>0
def IG{rest:af}(h:kE W B rest):Cw B W=rest.length:=by unfold Cw;have a:=h.s.cell 0;simp only[mb]at a;rw[a];unfold gK;simp only;rw[kL]
def V0(h:Lib.indexByte r 10= -1):bY 10 r=[r]:=
 A1 10 r (fun b=>by
  obtain⟨k,a⟩:=agk b;exact Lib.indexByte_none h k a)
def VY(h:Lib.indexByte r 10=o):o<r.length/\bY 10 r=r.take o::bY 10 (r.drop (o+1)):=by obtain⟨b,c⟩:=Lib.indexByte_some h;obtain⟨p,g⟩:=nc.1 b;refine⟨p,?_⟩;have e:r=r.take o++10::r.drop (o+1):=by{rw[<-g,<-List.drop_eq_getElem_cons p,X2]};have f:(10:bq)∉r.take o:=fun d=>by{obtain⟨k,a⟩:=agk d;rw[R1]at a;split at a;{exact c k V a};{cases a}};have:=Fa 10 (r.take o) (r.drop (o+1)) f;rw[<-e]at this;exact this
def BK{l a:List (af)}{x:af}{t:List (af)}(h:l=a++x::t):a++[x] <+: l:=⟨t,by rw[h];simp⟩
theorem OQ (s:af) (hs:s.length<=1000000) (l B:Nat) (J H:List (af)->bt->Prop) (L:wZ B J) (M:∀b x D,J b D->b++[x] <+: bY 10 s->YieldAt Fence.wide (3-1) prog l #[gK x] D fun e a=> (e=.returned (.bool true)/\J (b++[x]) a/\je B (B+3) D a)\/(e=.returned (.bool false)/\H (b++[x]) a)) (W:bt) (N:kE W B s) (Q:J [] W): CallsIn Fence.wide 3 prog 147 #[.func (.yield l) #[] #[],.pointer (some ⟨B+1,0,none⟩),.pointer (some ⟨B,0,none⟩),.pointer (some ⟨B+2,0,none⟩)] W fun e a=>(∃v,e=.returned v)/\ ((∃xs,xs=bY 10 s/\J xs a)\/(∃b,b <+: bY 10 s/\H b a)):=by
 have t:=dk N;have u:=dk L;have j:=dk M;clear L M N;have k:=t.out.s.cell 0;have c1:=t.out.sep.cell 0;have c2:=t.out.save.cell 0;simp only[mb]at k c1 c2;refine callsIn_of_wp func147 rfl trivial ?_ rfl;simp only[ntmps147,ahE,hH,RT,Nat.reduceAdd,Nat.reduceSub,ago,agn,List.push_toArray,agy,adu,List.cons_append];gi_wp2
 gi_loopw [] (fun wr=>∃(b:List (af))(rest:af),bY 10 s=b++bY 10 rest/\rest.length<=s.length/\kE wr B rest/\J b wr)
  (fun wr=>Cw B wr)
 (case atStart=>exact⟨[],s,by simp,ahk _,t.out,Q⟩);(case round=>obtain⟨b,rest,c,Y,q,z⟩:=hrel;have d:=dk q;have C:=dk (IG q);clear q t k c1 c2;have k:=d.out.s.cell 0;have c1:=d.out.sep.cell 0;have c2:=d.out.save.cell 0;have K:=d.out.s.froz 0;simp only[mb]at k c1 c2;unfold gK at k;have f:=dk (fun W=>Tryz.strings_Index_one ⟨rest.toArray⟩ 10 W);rw[show(⟨rest.toArray⟩:bm).data.toList=rest from rfl]at f;by_cases A:Lib.indexByte rest 10= -1;{rw[V0 A]at c;obtain⟨P,y,assign,body,G,E⟩:=j.out b rest wr z (BK c);have g:=dk c;rw[A]at f;unfold gK at G;clear c A j u z;gi_wp2;refine⟨trivial,?_⟩;refine(aed.2 (f.out _)).mono ?_;rintro e w'⟨rfl,rfl⟩;gi_wp2;refine E.mono ?_;rintro e O(⟨rfl,m,p⟩|⟨rfl,h⟩);{gi_wp2;go_end0;exact⟨⟨_,rfl⟩,.inl ⟨_,g.out.symm,m⟩⟩};{gi_wp2;go_end0;exact⟨⟨_,rfl⟩,.inr ⟨_,⟨[],by rw[ahl];exact g.out.symm⟩,h⟩⟩}};{obtain⟨o,F⟩:∃o:Nat,Lib.indexByte rest 10=o:=⟨(Lib.indexByte rest 10).toNat,by have:=Lib.indexByte_ge rest 10;omega⟩;obtain⟨X,w⟩:=VY F;rw[w]at c;obtain⟨P,y,assign,body,G,E⟩:=j.out b (rest.take o) wr z (BK c);have g:=dk c;rw[F]at f;have T:¬((o:Int)<0):=by{omega};have hsz:(⟨rest.toArray⟩:bm).size=rest.length:=kL rest;have S:(⟨rest.toArray⟩:bm).extract 0 o=⟨(rest.take o).toArray⟩:=by{apply so;rw[Lib.extract_data];simp};have R:(⟨rest.toArray⟩:bm).extract (o+1) rest.length=⟨(rest.drop (o+1)).toArray⟩:=by{apply so;rw[Lib.extract_data];simp;rw[wm (by simp)]};unfold gK at G;clear c A F w j z;gi_wp2;refine⟨trivial,?_⟩;refine(aed.2 (f.out _)).mono ?_;rintro e w'⟨rfl,rfl⟩;gi_wp2;refine E.mono ?_;rintro e O(⟨rfl,m,p⟩|⟨rfl,h⟩);{have i:=dk (d.out.keep p);have n:=dk (i.out.set (rest.drop (o+1)));have r:=dk (u.out _ _ (gK (rest.drop (o+1))) m);unfold gK at n r;clear k c1 c2 K m p d;have k:=i.out.s.cell 0;have c1:=i.out.sep.cell 0;have K:=i.out.s.froz 0;simp only[mb]at k c1;unfold gK at k;gi_wp2;go_roundw;(case rel=>exact⟨b++[rest.take o],rest.drop (o+1),by rw[g.out];simp,by simp;omega,n.out,r.out⟩);(case measure=>rw[IG n.out,C.out];simp;omega)};{gi_wp2;refine ahF (results_none rfl _ _ _) rfl ?_;exact⟨⟨_,rfl⟩,.inr ⟨b++[rest.take o],BK g.out,h⟩⟩}})
def OP(s:af)(k:s.length<=1000000)(B:Nat)(w:bt)(j:kE w B s):
 DO Fence.wide 3 prog 147 #[.pointer (some ⟨B+1,0,none⟩),.pointer (some ⟨B,0,none⟩),.pointer (some ⟨B+2,0,none⟩)] gK B (B+3) (fun xs=>xs=bY 10 s) (fun a=>a <+: bY 10 s) w:=
 fun l J b W f e _ g d=>OQ s k l B J b e (fun a x c h i=>g a x c h i) W (j.below f) d
end
end Go.Proofs.YtlkceignfhnpoaaGreatDoor
