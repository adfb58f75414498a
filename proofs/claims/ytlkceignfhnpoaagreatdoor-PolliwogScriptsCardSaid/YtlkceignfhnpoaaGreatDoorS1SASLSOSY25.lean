/-
  Part of a proof, written small.
-/
import Derived.Test.YtlkceignfhnpoaaGreatDoorS1SASLSOSY2
import Derived.OneCell
import Derived.Deep.MidRow
set_option linter.all false
set_option maxRecDepth 100000
set_option maxHeartbeats 1000000
open Go.Proofs.Tryz
namespace Go.Proofs.YtlkceignfhnpoaaGreatDoor
open Go.RowKit
def aec:=@heap_alloc_new
def agb:=@u32_xor_nat
def agd:=@lt_of_block
def aeM:=@below_drewN
variable{w w':bt}{T:bW}{cs:bj}{c0 c1 c2 c3:bn}{B:Nat}
def bf(w:bt)(b:Nat)(T:bW)(cs:bj):Prop:=w.heap[b]? =some (.cells cs.toArray T (0,0))
def bf.cell{b:Nat}(h:bf w b T cs)(o:Nat):w.cell? ⟨b,o,none⟩=cs[o]?:=by unfold bf at h;simp[World.cell?,h]
def bf.froz{b:Nat}{cs:bj}(h:bf w b T cs)(o:Nat):w.frozen? ⟨b,o,none⟩=false:=by unfold bf at h;simp[World.frozen?,h]
def bf.lt{b:Nat}(h:bf w b T cs):b<w.heap.size:=agd h
def bf.below{b:Nat}(h:bf w b T cs)(c:Below B w w')(a:b<B):bf w' b T cs:=
 (c.block b a).trans h
def bf.new(w:bt)(T:bW)(cs:bj):bf (w.alloc (.cells cs.toArray T)) w.heap.size T cs:=by unfold bf;exact aec _ _
def bf.newAt{b:Nat}(a:w.heap.size=b)(T:bW)(cs:bj):bf (w.alloc (.cells cs.toArray T)) b T cs:=a▸bf.new w T cs
def bf.alloc{b:Nat}{o:Obj}(h:bf w b T cs):bf (w.alloc o) b T cs:=
 h.below ((Below.refl _ _).alloc Z o) h.lt
def bf.set{b:Nat}(h:bf w b T cs)(o:Nat)(v:bn):bf (w.setCell ⟨b,o,none⟩ v) b T (cs.set o v):=by have p:=h.lt;unfold bf at h⊢;have a:w.heap[b]=.cells cs.toArray T (0,0):=by{simpa[qN p]using h};show(w.heap.modify b _)[b]? =_;rw[qN (by simpa using p),Array.getElem_modify_self,a];simp
def bf.other{b:Nat}(h:bf w b T cs){a:Addr}(c:b≠a.block)(v:bn):bf (w.setCell a v) b T cs:=by unfold bf at h⊢;rw[Below.heap_setCell _ _ _ _ c];exact h
def bf.grown{b:Nat}{row:Option Nat}(h:bf w b T cs)(a:w.grownBy w' row)(c:some b≠row):bf w' b T cs:=(a.block b h.lt c).trans h
def bf.zZ{b:Nat}(h:bf w b T [c0,c1]):w.cell? ⟨b,0,none⟩=some c0/\w.cell? ⟨b,1,none⟩=some c1:=
 ⟨h.cell 0,h.cell 1⟩
def bf.CP{b:Nat}(h:bf w b T [c0,c1]):w.frozen? ⟨b,0,none⟩=false/\w.frozen? ⟨b,1,none⟩=false:=
 ⟨h.froz 0,h.froz 1⟩
def bf.wS{b:Nat}(h:bf w b T [c0,c1,c2,c3]):w.cell? ⟨b,0,none⟩=some c0/\w.cell? ⟨b,1,none⟩=some c1/\w.cell? ⟨b,2,none⟩=some c2/\w.cell? ⟨b,3,none⟩=some c3:=
 ⟨h.cell 0,h.cell 1,h.cell 2,h.cell 3⟩
def bf.CO{b:Nat}(h:bf w b T [c0,c1,c2,c3]):w.frozen? ⟨b,0,none⟩=false/\w.frozen? ⟨b,1,none⟩=false/\w.frozen? ⟨b,2,none⟩=false/\w.frozen? ⟨b,3,none⟩=false:=
 ⟨h.froz 0,h.froz 1,h.froz 2,h.froz 3⟩
def bf.zY{b:Nat}{c4 c5 a c:bn}(h:bf w b T [c0,c1,c2,c3,c4,c5,a,c]):w.cell? ⟨b,0,none⟩=some c0/\w.cell? ⟨b,1,none⟩=some c1/\w.cell? ⟨b,2,none⟩=some c2/\w.cell? ⟨b,3,none⟩=some c3/\w.cell? ⟨b,4,none⟩=some c4/\w.cell? ⟨b,5,none⟩=some c5/\w.cell? ⟨b,6,none⟩=some a/\w.cell? ⟨b,7,none⟩=some c:=
 ⟨h.cell 0,h.cell 1,h.cell 2,h.cell 3,h.cell 4,h.cell 5,h.cell 6,h.cell 7⟩
def jz(i:Nat):bj:=(List.range 256).map fun m=>if m<i then Value.int .u32 (kI m).toNat else Value.int .u32 0
def xF(i:Nat):(jz i).length=256:=by simp[jz]
def vT{i m:Nat}(h:m<256):(jz i)[m]? =some (if m<i then Value.int .u32 (kI m).toNat else Value.int .u32 0):=by simp[jz,h]
def Nv(i:Nat)(h:i<256):(jz i).set i (Value.int .u32 (kI i).toNat)=jz (i+1):=by apply ahp;intro m;by_cases a:m<256;{by_cases c:i=m;{subst c;rw[adl (by rw[xF];exact h),vT a,eh V]};{rw[adG c,vT a,vT a];by_cases b:m<i;{rw[eh b,eh V]};{rw[ed b,ed V]}}};{rw[wy (by rw[ad8,xF];omega),wy (by rw[xF];omega)]}
def eI:bj:=(List.range 256).map fun i=>Value.int .u32 (kI i).toNat
def Nw:jz 256=eI:=by unfold jz eI;apply adK;intro m a;rw[eh (adb.1 a)]
def D7:Tryz.zeroCells197=(jz 0).toArray:=U
def N4(x:BitVec 32):bits .xor .u32 ((x.toNat:Int)*2%4294967296) (79764919*((x.toNat:Int)/2147483648))=((st x).toNat:Int):=by
 have a:=x.isLt;rw[(V:(x.toNat:Int)*2%4294967296=((x.toNat*2%4294967296:Nat):Int)),(V:79764919*((x.toNat:Int)/2147483648)=((79764919*(x.toNat/2147483648):Nat):Int)),
  agb _ _ V V]
 congr 1;unfold st;rw[aer,adR,aen,agm];by_cases h:2147483648<=x.toNat;{rw[(V:x.toNat/2147483648=1),z8 (by simpa using h),eh rfl];rfl};{rw[(V:x.toNat/2147483648=0),HQ (by simpa using h),ed J];rfl}
def MV(k:Nat)(h:k<256):((gV k).toNat:Int)=(k:Int)*16777216:=by unfold gV;rw[ahB,x3 V];omega
def bf.setCells{b:Nat}:∀(d a c:bj)(w:bt),c.length=d.length->bf w b T (a++c)->bf (w.setCells b a.length d) b T (a++d)
 |[],a,c,w,h,hb=>by
  have:c=[]:=TB (by simpa using h);subst this;exact hb
 |v::d,a,[],w,h,hb=>by simp at h
 |v::d,a,p::c,w,h,hb=>by
  have f:=hb.set a.length v;have e1:(a++p::c).set a.length v=(a++[v])++c:=J;rw[e1]at f;have g:=bf.setCells d (a++[v]) c _ (by simpa using h) f;show bf ((w.setCell ⟨b,a.length,none⟩ v).setCells b (a.length+1) d) b T _;have e:a.length+1=(a++[v]).length:=J;rw[e];simpa using g
def Below.setCells{b:Nat}{d:bt}(c:B<=b):∀(a:bj)(o:Nat)(w:bt),Below B d w->Below B d (w.setCells b o a)
 |[],_,_,h=>h
 |v::a,o,w,h=>Below.setCells c a (o+1) _ (h.setCell c v)
def Nr:(prog.info? 197).map (·.size)=some 256:=U
def vU:eI.toArray.size=256:=by simp[eI]
def Ny:eI.toArray.all (·.oneCell')=true:=all_oneCell_toArray (by
 intro v a;obtain⟨i,_,rfl⟩:=nm.1 a;rfl)
def E5:∀(n:Nat)(x:BitVec 32),gW (n+1) x=st (gW n x)
 |0,_=>rfl
 |n+1,x=>E5 n (st x)
theorem Tg (w:bt):Calls prog 108 #[] w fun e w'=>e=.returned (.agg eI.toArray)/\Below w.heap.size w w':=by go_enter func108,ntmps108;have o:Hid (bf ((w.alloc (.cells Tryz.zeroCells197 197)).alloc (.cells Tryz.zeroCells197 197)) (w.heap.size+1) 197 (jz 0)):=dk (by rw[D7];exact bf.newAt J _ _);have q:Hid (bf ((w.alloc (.cells Tryz.zeroCells197 197)).alloc (.cells Tryz.zeroCells197 197)) w.heap.size 197 (jz 0)):=dk (by rw[D7];exact(bf.new _ _ _).alloc);have p:Hid (Below w.heap.size w ((w.alloc (.cells Tryz.zeroCells197 197)).alloc (.cells Tryz.zeroCells197 197))):=dk (((Below.refl _ _).alloc Z _).alloc J _);go_wp2_with fail;generalize(w.alloc (.cells Tryz.zeroCells197 197)).alloc (.cells Tryz.zeroCells197 197)=W0 at*;go_loopw [5,2,3,4,11] (fun i _ _ _ _ A=>∃k:Nat,k<=256/\i=.int .i64 k/\bf A (w.heap.size+1) 197 (jz k)/\bf A w.heap.size 197 (jz 0)/\Below w.heap.size w A) (fun i _ _ _ _ _=>256-(intOf i).toNat);(case atStart=>exact⟨0,V,rfl,o.out,q.out,p.out⟩);(case round=>obtain⟨k,P,rfl,f,g,d⟩:=hrel;have a:=dk f;have c:=dk g;have B:=dk d;clear f g d o q p;by_cases l:k<256;{obtain⟨z,rfl⟩:∃z:bt,z=wr:=⟨_,rfl⟩;go_wp2_with fail;go_loop [3,11,4] (fun x j _=>∃n:Nat,n<=8/\j=.int .i64 n/\x=.int .u32 ((gW n (gV k)).toNat:Int)) (fun _ j _=>8-(intOf j).toNat);(case atStart=>exact⟨0,V,rfl,congrArg (Value.int .u32) (MV k l).symm⟩);(case round=>obtain⟨n,Q,rfl,rfl⟩:=hrel;by_cases C:n<8;{have R:=(gW n (gV k)).isLt;have D:Hid (bits .xor .u32 (((gW n (gV k)).toNat:Int)*2%4294967296) (79764919*(((gW n (gV k)).toNat:Int)/2147483648))=((gW (n+1) (gV k)).toNat:Int)):=dk (by rw[N4,E5]);generalize u:(gW n (gV k)).toNat=y at*;clear u;go_wp2_with fail;go_round;(case rel=>exact⟨n+1,V,by go_num,congrArg (Value.int .u32) D.out⟩);(case measure=>go_light;simp[intOf];omega)};{obtain rfl:n=8:=V;have N:z.cell? ⟨w.heap.size+1,k,none⟩=some (.int .u32 0):=by{rw[a.out.cell,vT l,ed V]};have O:=a.out.froz k;have F:Hid (gW 8 (gV k)=kI k):=dk rfl;rw[F.out];have K:(0:Int)<=(k:Int):=V;have L:(k:Int)<256:=V;have E:=dk (Nv k l);generalize r:((kI k).toNat:Int)=M at*;have G:=dk r;clear r;go_wp2_with fail;go_roundw;(case rel=>refine⟨k+1,V,by go_num,?_,c.out.other J _,B.out.setCell J _⟩;have h:=a.out.set k (.int .u32 M);rw[E.out]at h;exact h);(case measure=>go_light;simp[intOf];omega)})};{obtain rfl:k=256:=V;rw[Nw]at a;have t:wr.there w.heap.size 0 eI.toArray.size:=by{intro j H;rw[vU]at H;refine⟨?_,c.out.froz _⟩;rw[c.out.cell,vT V];rfl};have m:(prog.info? 197).map (·.size)=some eI.toArray.size:=by{rw[vU];exact Nr};go_wp2_with (first|(refine wpList_load_row rfl 197 _ rfl (w.heap.size+1) rfl 197 eI.toArray (0,0) _ a.out underlying197 rfl m ?_)|(refine wpList_store_mid rfl 197 _ _ rfl w.heap.size 0 eI.toArray rfl rfl t m Ny ?_));have s:=bf.setCells (b:=w.heap.size) (T:=197) eI [] (jz 0) wr (by rw[xF];simp[eI]) c.out;exact ahF (v:=.agg eI.toArray) (results_cell_row Tryz.results108 _ _ w.heap.size 197 eI.toArray (0,0) _ rfl s underlying197 rfl m) rfl ⟨rfl,Below.setCells Z _ _ _ B.out⟩})
def jP(w:bt)(b:Nat):Prop:=∀i,i<256->w.cell? ⟨b,i,none⟩=some (.int .u32 ((kI i).toNat:Int))
def jP.lt{b:Nat}(h:jP w b):b<w.heap.size:=ahD (h 0 V)
def jP.below{b:Nat}(h:jP w b)(c:Below B w w')(a:b<B):jP w' b:=fun i d=>(eP c b i a).trans (h i d)
def Ri(x:BitVec 32)(b:bq):bits .xor .u32 ((x.toNat:Int)*256%4294967296) ((kI (x.toNat/16777216^^^b.toNat)).toNat:Int)=((on x b).toNat:Int):=by have a:=x.isLt;rw[(V:(x.toNat:Int)*256%4294967296=((x.toNat*256%4294967296:Nat):Int)),agb _ _ V (kI _).isLt,Rh,aer,adR,aen]
def VH(x:BitVec 32)(b:bq):bits .xor .u8 ((x.toNat:Int)/16777216) (b.toNat:Int)=((x.toNat/16777216^^^b.toNat:Nat):Int):=by have a:=x.isLt;rw[(V:(x.toNat:Int)/16777216=((x.toNat/16777216:Nat):Int)),u8_xor_nat _ _ V b.toNat_lt]
def R9(x:BitVec 32):bits .xor .u32 IntKind.u32.max (x.toNat:Int)=((jm^^^x).toNat:Int):=by rw[show IntKind.u32.max=((4294967295:Nat):Int)from rfl,agb _ _ V x.isLt,aer];rfl
def Ph(x:BitVec 32)(l:af)(b:bq):run x (l++[b])=on (run x l) b:=by simp[run]
theorem ER (u b:Nat) (s:bm) (w:bt) (r:jP w u) (f:w.cell? ⟨b,0,none⟩=some (.string s)) (R:s.size<=100000): Calls prog 274 #[.pointer (some ⟨u,0,none⟩),.slice (some ⟨b,0,none⟩) 1 1] w fun e w'=>e=.returned (.int .u32 ((nK s.data.toList).toNat:Int))/\Below w.heap.size w w':=by have E:=dk r;have A:=dk f;have o:=ahD f;have t:=r.lt;clear r f;go_enter func274,ntmps274;go_wp2_with fail;go_loopw [11,5,7,8,17] (fun i x _ _ _ v=>∃k:Nat,k<=1/\i=.int .i64 k/\x=.int .u32 ((run jm (if k=0 then[]else s.data.toList)).toNat:Int)/\Below w.heap.size w v) (fun i _ _ _ _ _=>1-(intOf i).toNat);(case atStart=>exact⟨0,V,rfl,rfl,Below.refl _ _⟩);(case round=>obtain⟨k,P,rfl,rfl,a⟩:=hrel;by_cases L:k<1;{obtain rfl:k=0:=V;have f:=(eP a b 0 o).trans A.out;have B:=dk a;clear a;obtain⟨z,rfl⟩:∃z:bt,z=wr:=⟨_,rfl⟩;go_wp2_with fail;clear f;go_loopw [17,5,8] (fun i x _ v=>∃j:Nat,j<=s.size/\i=.int .i64 j/\x=.int .u32 ((run jm (s.data.toList.take j)).toNat:Int)/\Below w.heap.size w v) (fun i _ _ _=>s.size-(intOf i).toNat);(case atStart=>exact⟨0,V,rfl,rfl,B.out⟩);(case round=>obtain⟨j,O,rfl,rfl,a⟩:=hrel;by_cases h:j<s.size;{have d:=fun i K=>(eP a u i t).trans (E.out i K);have G:=(run jm (s.data.toList.take j)).isLt;have Q:=VH (run jm (s.data.toList.take j)) s[j];have M:(run jm (s.data.toList.take j)).toNat/16777216^^^s[j].toNat<256:=agE (n:=8) V s[j].toNat_lt;have H:=d _ M;have C:=dk (Ri (run jm (s.data.toList.take j)) s[j]);have c:=dk a;have D:Hid (run jm (s.data.toList.take (j+1))=on (run jm (s.data.toList.take j)) s[j]):=dk (by rw[<-Ph];congr 1;rw[fy (by simpa using h)];rfl);clear d a;generalize q:run jm (s.data.toList.take j)=rg at*;clear q;generalize p:rg.toNat/16777216^^^s[j].toNat=m at*;clear p;have N:=s[j].toNat_lt;have S:(0:Int)<=(m:Int):=V;have T:(m:Int)<256:=V;have W:(j:Int)<(s.size:Int):=V;have X:(0:Int)<=(j:Int):=V;go_wp2_with fail;go_quiet (fail);go_wp2_with fail;go_roundw;(case rel=>exact⟨j+1,V,by go_num,by rw[D.out,<-C.out],aeM c.out _⟩);(case measure=>go_light;simp[intOf];omega)};{have g:s.data.toList.take j=s.data.toList:=wm (by rw[cQ];omega);rw[g];have c:=dk a;clear a g;go_wp2_with fail;go_roundw;(case rel=>exact⟨1,V,by go_num,rfl,c.out⟩);(case measure=>go_light;simp[intOf])})};{obtain rfl:k=1:=V;have c:=dk a;have G:=(run jm s.data.toList).isLt;have F:=dk (R9 (run jm s.data.toList));clear a;rw[ed V];have l:Hid (nK s.data.toList=jm^^^run jm s.data.toList):=dk rfl;generalize run jm s.data.toList=y at*;go_wp2_with fail;go_ret;exact⟨jl (by rw[F.out,l.out]),c.out⟩})
def KM(n:Nat):UInt8.ofNat (n%256)=UInt8.ofNat n:=by apply UInt8.toNat_inj.1;simp
theorem Ks(n:Nat)(a:n<4294967296)(w:bt): Calls prog 273 #[.int .u32 n] w fun e w'=>e=.returned (.string ⟨(ja n).toArray⟩)/\Below w.heap.size w w':=by have b:=Dh;go_enter func273,ntmps273;go_wp2;go_ret;refine⟨jk ?_,(Below.refl _ _).alloc Z _⟩;simp[KM,ja]
def ui(l:af):af:=l++ja (nK l).toNat
theorem O1 (i:Nat) (s:bm) (w:bt) (g:jP w i) (n:s.size<=100000): Calls prog 265 #[.pointer (some ⟨i,0,none⟩),.string s] w fun e w'=>e=.returned (.string ⟨(ui s.data.toList).toArray⟩)/\Below w.heap.size w w':=by have k:=dk g;have h:=g.lt;clear g;have j:Hid (ui s.data.toList=s.data.toList++ja (nK s.data.toList).toNat):=dk rfl;have f:=(nK s.data.toList).isLt;go_enter func265,ntmps265;go_wp2_with fail;refine(ER i w.heap.size s _ (k.out.below ((Below.refl _ _).alloc Z _) h) J n).mono ?_;rintro e o⟨rfl,c⟩;generalize(nK s.data.toList).toNat=sm at*;go_wp2_with fail;refine(Ks sm f _).mono ?_;rintro e p⟨rfl,d⟩;have m:(⟨(ja sm).toArray⟩:bm).size<=4:=by{rw[kL,vq];omega};generalize a:(⟨(ja sm).toArray⟩:bm)=l at*;have b:Hid (l.data.toList=ja sm):=dk (by rw[<-a]);clear a;go_wp2_with fail;go_ret;exact⟨jk (by rw[ic,b.out,j.out]),ig (gC c J) d⟩
def acx(n:Int):Int:=((if n<0 then 0 else n)+7)/48+1
theorem KB(n:Int)(h:n<=4611686018427387904):Calls prog 214 #[.int .i64 n] w fun e w'=>e=.returned (.int .i64 (acx n))/\w=w':=by have a:Hid (acx n=((if n<0 then 0 else n)+7)/48+1):=dk rfl;generalize acx n=r at*;by_cases b:n<0;{go_enter func214,ntmps214;go_wp2;(all_goals (go_ret;exact⟨jl (by rw[a.out,eh (V:n<0)];omega),rfl⟩))};{have c:0<=n:=V;go_enter func214,ntmps214;go_wp2;(all_goals (go_ret;exact⟨jl (by rw[a.out,ed (V:¬n<0)];omega),rfl⟩))}
end Go.Proofs.YtlkceignfhnpoaaGreatDoor
