/-
  Part of a proof, written small.
-/
import Derived.Test.YtlkceignfhnpoaaGreatDoorS1SASLSOSY3
import Derived.Laws.Tables
import Derived.Laws.CopyRow
import Derived.Laws.Cells
import Derived.Laws.Append
import Derived.Laws.AppendOwn
set_option linter.all false
namespace Go.Proofs.YtlkceignfhnpoaaGreatDoor
open Go
def ada:=@run_underlying
variable{v v':bn}{s n i g s' o k:Nat}{T:bW}{x x':AB}{α p:Type}{l c a f:ahG}{cs j:bj}{q:bE bn}{es:Array MapEntry}{e:AH}{lo hi lo' hi':Option bn}
structure jQ where
 blk:Nat
 base:Nat
 lim:Nat
 es:Nat
abbrev Ren:=Nat->Option jQ
inductive VR(φ:Ren):bn->bn->Prop
 |bool (b:Bool):VR φ (.bool b) (.bool b)
 |int (k:IntKind) (n:Int):VR φ (.int k n) (.int k n)
 |string (s:bm):VR φ (.string s) (.string s)
 |ptrNil:VR φ (.pointer none) (.pointer none)
 |ptr {b o:Nat} {im:jQ} (h:φ b=some im):VR φ (.pointer (some ⟨b,o,none⟩)) (.pointer (some ⟨im.blk,im.base+o,none⟩))
 |sliceNil:VR φ (.slice none 0 0) (.slice none 0 0)
 |slice {b o n cap:Nat} {im:jQ} (h:φ b=some im) (hn:n<=cap) (hc:o+cap*im.es<=im.lim) (hm:cap<=maxLen):VR φ (.slice (some ⟨b,o,none⟩) n n) (.slice (some ⟨im.blk,im.base+o,none⟩) n cap)
 |slice0 {b o:Nat} {a:Addr}:VR φ (.slice (some ⟨b,o,none⟩) 0 0) (.slice (some a) 0 0)
 |mapNil:VR φ (.map none) (.map none)
 |map {b:Nat} {im:jQ} (h:φ b=some im):VR φ (.map (some b)) (.map (some im.blk))
 |func {f:FuncId} (fs gs cs ds:ahG) (h1:fs.size=gs.size) (h2:∀(i:Nat)v v',fs[i]? =some v->gs[i]? =some v'->VR φ v v') (h3:cs.size=ds.size) (h4:∀(i:Nat)v v',cs[i]? =some v->ds[i]? =some v'->VR φ v v'):VR φ (.func (.func f) fs cs) (.func (.func f) gs ds)
 |nilFunc:VR φ .nilFunc .nilFunc
 |nilIface:VR φ .nilIface .nilIface
 |iface (t:bW) (k:IntKind) (n:Int):VR φ (.iface t (.int k n)) (.iface t (.int k n))
 |agg (cs ds:ahG) (h1:cs.size=ds.size) (h2:∀(i:Nat)v v',cs[i]? =some v->ds[i]? =some v'->VR φ v v'):VR φ (.agg cs) (.agg ds)
 |tuple (cs ds:ahG) (h1:cs.size=ds.size) (h2:∀(i:Nat)v v',cs[i]? =some v->ds[i]? =some v'->VR φ v v'):VR φ (.tuple cs) (.tuple ds)
structure VL(φ:Ren)(l c:bj):Prop where
 len:l.length=c.length
 at_:∀(i:Nat)v v',l[i]? =some v->c[i]? =some v'->VR φ v v'
structure VA(φ:Ren)(l c:ahG):Prop where
 len:l.size=c.size
 at_:∀(i:Nat)v v',l[i]? =some v->c[i]? =some v'->VR φ v v'
section
variable{φ d:Ren}
def VA.list(h:VA φ l c):VL φ l.toList c.toList:=⟨by simpa using h.len,fun i v v' a b=>h.at_ i v v' (by simpa using a) (by simpa using b)⟩
def VL.array{l c:bj}(h:VL φ l c):VA φ l.toArray c.toArray:=⟨by simpa using h.len,fun i v v' a b=>h.at_ i v v' (by simpa using a) (by simpa using b)⟩
def VR.ta(h:VA φ l c):VR φ (.agg l) (.agg c):=.agg _ _ h.len h.at_
def VR.mkTuple(h:VA φ l c):VR φ (.tuple l) (.tuple c):=.tuple _ _ h.len h.at_
def VR.undef:VR φ Go.undef Go.undef:=.tuple _ _ rfl (fun i v v' h=>by simp at h)
def jw(φ d:Ren):Prop:=∀b a,φ b=some a->d b=some a
def VR.mono(h:jw φ d)(a:VR φ v v'):VR d v v':=by induction a with|bool b=>exact .bool b|int k n=>exact .int k n|string s=>exact .string s|ptrNil=>exact .ptrNil|ptr hb=>exact .ptr (h _ _ hb)|sliceNil=>exact .sliceNil|slice hb hn hc hm=>exact .slice (h _ _ hb) hn hc hm|slice0=>exact .slice0|mapNil=>exact .mapNil|map hb=>exact .map (h _ _ hb)|func fs gs cs ds h1 h2 h3 h4 ih2 ih4=>exact .func fs gs cs ds h1 ih2 h3 ih4|nilFunc=>exact .nilFunc|nilIface=>exact .nilIface|iface t k n=>exact .iface t k n|agg cs ds h1 h2 ih=>exact .agg cs ds h1 ih|tuple cs ds h1 h2 ih=>{exact .tuple cs ds h1 ih}
def VL.mono(h:jw φ d){l c:bj}(e:VL φ l c):VL d l c:=⟨e.len,fun i v v' a b=>(e.at_ i v v' a b).mono h⟩
def VA.mono(h:jw φ d)(e:VA φ l c):VA d l c:=⟨e.len,fun i v v' a b=>(e.at_ i v v' a b).mono h⟩
def VL.nil:VL φ [] []:=⟨rfl,fun i v v' h=>by simp at h⟩
def VL.cons{l c:bj}(h:VR φ v v')(d:VL φ l c):VL φ (v::l) (v'::c):=by refine⟨by simp[d.len],fun i u e a b=>?_⟩;cases i with|zero=>{simp at a b;subst a;subst b;exact h}|succ i=>{exact d.at_ i u e (by simpa using a) (by simpa using b)}
def VL.one(h:VR φ v v'):VL φ [v] [v']:=.cons h .nil
def VL.get{l c:bj}(h:VL φ l c)(hi:l[i]? =some v):∃v',c[i]? =some v'/\VR φ v v':=by have p:i<c.length:=by{have:=(nc.1 hi).1;have:=h.len;omega};exact⟨c[i],ei p,h.at_ i v _ hi (ei p)⟩
def VA.get(h:VA φ l c)(hi:l[i]? =some v):∃v',c[i]? =some v'/\VR φ v v':=by obtain⟨v',a,b⟩:=h.list.get (i:=i) (v:=v) (by simpa using hi);exact⟨v',by simpa using a,b⟩
def VL.append{a f b c:bj}(h:VL φ a f)(k:VL φ b c):VL φ (a++b) (f++c):=by refine⟨by simp[h.len,k.len],fun i v v' x y=>?_⟩;by_cases hi:i<a.length;{rw[z6 hi]at x;rw[z6 (by have:=h.len;omega)]at y;exact h.at_ i v v' x y};{rw[aho V]at x;rw[aho (by have:=h.len;omega)]at y;rw[<-h.len]at y;exact k.at_ _ v v' x y}
def VL.set{a f:bj}(h:VL φ a f)(i:Nat)(b:VR φ v v'):VL φ (a.set i v) (f.set i v'):=by refine⟨by simp[h.len],fun j u c x y=>?_⟩;rw[aei]at x y;split at x;{rename_i p;rw[eh p]at y;split at x;{rename_i d;rw[eh (by have:=h.len;omega)]at y;cases x;cases y;exact b};{cases x}};{rename_i p;rw[ed p]at y;exact h.at_ j u c x y}
def VA.set(h:VA φ a f)(i:Nat)(b:VR φ v v'):VA φ (a.setIfInBounds i v) (f.setIfInBounds i v'):=by have:=(h.list.set i b).array;have e1:(a.toList.set i v).toArray=a.setIfInBounds i v:=by{rw[<-Array.toList_setIfInBounds]};have e2:(f.toList.set i v').toArray=f.setIfInBounds i v':=by{rw[<-Array.toList_setIfInBounds]};rw[e1,e2]at this;exact this
def VA.append{b c:ahG}(h:VA φ a f)(k:VA φ b c):VA φ (a++b) (f++c):=by have:=(h.list.append k.list).array;rw[<-Array.toList_append,<-Array.toList_append]at this;exact this
def VA.P3:VA φ (Array.replicate n Go.undef) (Array.replicate n Go.undef):=by refine⟨rfl,fun i v v' a b=>?_⟩;rw[a]at b;cases b;have:v∈Array.replicate n Go.undef:=Array.mem_of_getElem? a;rw[(Array.mem_replicate.1 this).2];exact VR.undef
def VA.getD(h:VA φ a f)(i:Nat):VR φ (a.getD i Go.undef) (f.getD i Go.undef):=by by_cases hi:i<a.size;{have p:i<f.size:=by{have:=h.len;omega};have:=h.at_ i a[i] f[i] (qN hi) (qN p);simpa[Array.getD,hi,p]using this};{have p:¬i<f.size:=by{have:=h.len;omega};simp[Array.getD,hi,p];exact VR.undef}
def VR.cells(h:VR φ v v'):VA φ v.cells v'.cells:=by
 have one:∀{u a:bn},VR φ u a->VA φ #[u] #[a]:=fun{u a}b=>by simpa using(VL.one b).array
 cases h
 case agg cs ds h1 h2=>exact⟨h1,h2⟩
 case func fs gs cs ds h1 h2 h3 h4=>exact one (.func fs gs cs ds h1 h2 h3 h4)
 case tuple cs ds h1 h2=>exact one (.tuple cs ds h1 h2)
 case slice hb hn hc hm=>exact one (.slice hb hn hc hm)
 case ptr hb=>exact one (.ptr hb)
 case map hb=>exact one (.map hb)
 all_goals exact one (by constructor)
def VR.size(h:VR φ v v'):v.cells.size=v'.cells.size:=h.cells.len
def VR.oneV(h:VR φ v v'):oneV v=oneV v':=by cases h<;>rfl
def BQ(v:bn):oneV v=v.oneCell':=by cases v<;>rfl
def VR.simple(h:eJ v=true):VR φ v v:=by
 cases v with
 |bool b=>exact .bool b
 |int k n=>exact .int k n
 |string s=>exact .string s
 |pointer a=>cases a with
  |none=>exact .ptrNil
  |some a=>cases h
 |slice a n c=>
  cases a with
  |none=>
   cases n with
   |zero=>cases c with
    |zero=>exact .sliceNil
    |succ c=>cases h
   |succ n=>cases h
  |some a=>cases h
 |map r=>cases r with
  |none=>exact .mapNil
  |some a=>cases h
 |nilFunc=>exact .nilFunc
 |nilIface=>exact .nilIface
 |_=>cases h
def VL.simple:∀{l:bj},l.all eJ=true->VL φ l l
 |[],_=>VL.nil
 |v::l,h=>by
  simp only[aes,ev]at h;exact VL.cons (VR.simple h.1) (VL.simple h.2)
def VR.const(h:wR v=true):VR φ v v:=by unfold wR at h;by_cases a:eJ v=true;{exact VR.simple a};{simp only[a,Bool.false_or]at h;cases v with|agg cs=>{have:=(VL.simple (φ:=φ) h).array;simp only[afi]at this;exact VR.ta this}|tuple cs=>{have b:cs=#[]:=by{simp only[Array.isEmpty_toList]at h;exact Array.isEmpty_iff.1 h};subst b;exact VR.undef}|_=>{cases h}}
def VR.O6(h:VR φ v v')(a:dO v=true):v'=v:=by
 cases h<;>first|rfl|(simp[dO]at a)
def VR.gv(h:VR φ v v')(a:flat v=true):v'=v:=by cases h;(case agg cs ds h1 h2=>congr 1;apply af0 h1.symm;intro i hi p;simp only[flat,eu]at a;exact(h2 i cs[i] ds[i] (qN p) (qN hi)).O6 (a _ J));(all_goals first|rfl|(simp[flat,dO]at a))
def VL.gv{l c:bj}(h:VL φ l c)(a:l.all flat=true):c=l:=by apply List.ext_getElem h.len.symm;intro i hi p;simp only[eu]at a;exact(h.at_ i l[i] c[i] (ei p) (ei hi)).gv (a _ (wk p))
def VR.flat(h:flat v=true):VR φ v v:=by have c:∀{u:bn},dO u=true->VR φ u u:=fun{u}d=>by{(cases u<;>first|(exact VR.simple rfl)|cases d)};cases v with|agg cs=>{refine VR.agg cs cs rfl (fun i v v' a b=>?_);rw[a]at b;cases b;simp only[Go.Proofs.YtlkceignfhnpoaaGreatDoor.flat,eu]at h;exact c (h v (by simpa using Array.mem_of_getElem? a))}|_=>{exact c h}
end
section
open Go.RowKit
def AB.wr:AB->Bool
 |.cells _ _ wr=>wr
 |.map _=>true
def kA(es:Array MapEntry)(g:Nat):Prop:=(∀x∈es.toList,x.born<g)/\(es.toList.map (·.born)).Nodup
def kA.nil:kA #[] 0:=⟨J,J⟩
def kA.push(h:kA es g)(k v:bn):kA (es.push {key:=k,val:=v,born:=g}) (g+1):=by refine⟨fun x c=>?_,?_⟩;{rw[Array.toList_push,my]at c;rcases c with c|c;{exact Nat.lt_succ_of_lt (h.1 x c)};{rw[adQ]at c;subst c;exact X3 _}};{rw[Array.toList_push,ahh,aeN];refine⟨h.2,J,fun a d b f e=>?_⟩;obtain⟨x,c,rfl⟩:=nm.1 d;simp only[ahu,List.map_nil,adQ]at f;have:=h.1 x c;omega}
def kA.modify(h:kA es g)(i:Nat)(k v:bn):kA (es.modify i fun e=>{e with key:=k,val:=v}) g:=by have e:((es.modify i fun e=>{e with key:=k,val:=v}).toList.map (·.born))=es.toList.map (·.born):=by{apply ahp;intro j;simp only[z7,aem,adD];by_cases p:i=j;{subst p;cases a:es[i]?<;>simp};{simp[p]}};refine⟨fun x a=>?_,by rw[e];exact h.2⟩;have:x.born∈es.toList.map (·.born):=by{rw[<-e];exact nm.2 ⟨x,a,rfl⟩};obtain⟨y,b,e2⟩:=nm.1 this;rw[<-e2];exact h.1 y b
def kA.erase{es':Array MapEntry}(h:kA es g)(b:es'.toList=es.toList.eraseIdx i):kA es' g:=by have a:es'.toList.Sublist es.toList:=by{rw[b];exact List.eraseIdx_sublist _ _};exact⟨fun x c=>h.1 x (a.subset c),(a.map _).nodup h.2⟩
section
variable(P:c7)
def BR(φ:Ren)(im:jQ)(x:AB)(w:bt):Prop:=
 match x with
 |.cells cs T wr=>∃a b c,w.heap[im.blk]? =some (.cells a b c)/\im.base+im.lim<=a.size/\cs.length<=im.lim/\(∀(i:Nat)v,cs[i]? =some v->∃v',a[im.base+i]? =some v'/\VR φ v v'/\oneV v=true)/\im.es=(aW P T).getD 0/\(wr=true->c=(0,0)/\b=T/\im.base+im.lim=a.size)/\(wr=false->256<=im.es->im.base=0)/\(wr=true->sW T=true->im.base=0/\(T=cr->cs.length=2->im.lim=2))
 |.map kv=>∃es g,w.heap[im.blk]? =some (.map es g)/\VL φ (kv.map (·.1)) (es.toList.map (·.key))/\VL φ (kv.map (·.2)) (es.toList.map (·.val))/\kA es g
def gH(φ:Ren)(H:AH)(k:Nat):Prop:=∃b x a,H b=some x/\x.wr=true/\φ b=some a/\a.blk=k
def mL(φ:Ren)(H:AH)(w:bt):Prop:=∃a:bt,oD a/\Below a.heap.size a w/\∀k,k<a.heap.size->¬gH φ H k
structure WR(φ:Ren)(H:AH)(w:bt):Prop where
 blk:∀b x,H b=some x->∃im,φ b=some im/\BR P φ im x w
 inj:∀b b' x x' im im',H b=some x->H b'=some x'->b≠b'->x.wr=true->φ b=some im->φ b'=some im'->im.blk≠im'.blk
 env:mL φ H w
structure bL(φ:Ren)(H:AH)(w:bt)(d:Ren)(e:AH)(w':bt):Prop where
 os:w'.os=w.os
 tape:w'.tape=w.tape
 output:w'.output=w.output
 size:w.heap.size<=w'.heap.size
 block:∀k,k<w.heap.size->¬gH φ H k->w'.heap[k]? =w.heap[k]?
 sub:∀k,gH d e k->gH φ H k\/w.heap.size<=k
structure Nx(φ d:Ren)(s s':Nat):Prop where
 ext:jw φ d
 dom:∀b im,d b=some im->φ b=some im\/(s<=b/\b<s')
def dz(φ:Ren)(s s':Nat):Prop:=∀b,s<=b->b<s'->φ b=none
end
section
variable{P:c7}{φ d:Ren}{H:AH}{w w':bt}
def jw.refl(φ:Ren):jw φ φ:=fun _ _ h=>h
def jw.trans{a c d:Ren}(h:jw a c)(k:jw c d):jw a d:=fun b f e=>k b f (h b f e)
def Nx.refl(φ:Ren)(s:Nat):Nx φ φ s s:=⟨jw.refl φ,fun b a h=>.inl h⟩
def Nx.trans{a c d:Ren}{g f i:Nat}(h:Nx a c g f)(k:Nx c d f i)(l:g<=f)(m:f<=i):Nx a d g i:=by refine⟨h.ext.trans k.ext,fun b j e=>?_⟩;rcases k.dom b j e with e|e;{rcases h.dom b j e with e|e;{exact .inl e};{exact .inr ⟨e.1,V⟩}};{exact .inr ⟨V,e.2⟩}
def Nx.free{a:Nat}(h:Nx φ d s s')(f:dz φ s a)(i:s<=s'):dz d s' a:=by intro b g c;cases e:d b with|none=>rfl|some im=>{rcases h.dom b im e with e|e;{rw[f b V c]at e;cases e};{omega}}
def dz.sub{t d:Nat}(f:dz φ s s')(e:s<=t)(g:d<=s'):dz φ t d:=fun b a c=>f b V V
def bL.refl(φ:Ren)(H:AH)(w:bt):bL φ H w φ H w:=⟨rfl,rfl,rfl,Z,fun _ _ _=>rfl,fun _ h=>.inl h⟩
def bL.trans{a b c:Ren}{f g i:AH}{l m n:bt}(h:bL a f l b g m)(k:bL b g m c i n):bL a f l c i n:=by refine⟨k.os.trans h.os,k.tape.trans h.tape,k.output.trans h.output,fq h.size k.size,fun x d j=>?_,fun x d=>?_⟩;{exact(k.block x (Lq d h.size) (fun e=>(h.sub x e).elim j (fun e=>V))).trans (h.block x d j)};{rcases k.sub x d with e|e;{exact h.sub x e};{exact .inr (fq h.size e)}}
def BR.mono(h:jw φ d){im:jQ}(l:BR P φ im x w):BR P d im x w:=by cases x with|cells cs T wr=>{obtain⟨n,m,o,f,g,j,k,q⟩:=l;exact⟨n,m,o,f,g,j,fun i v e=>let⟨v',a,b,c⟩:=k i v e;⟨v',a,b.mono h,c⟩,q⟩}|map kv=>{obtain⟨es,p,f,g,j,k⟩:=l;exact⟨es,p,f,g.mono h,j.mono h,k⟩}
def BR.keep{im:jQ}(c:BR P φ im x w)(h:w'.heap[im.blk]? =w.heap[im.blk]?):BR P φ im x w':=by cases x with|cells cs T wr=>{obtain⟨e,d,f,a,b⟩:=c;exact⟨e,d,f,h.trans a,b⟩}|map kv=>{obtain⟨es,p,a,b⟩:=c;exact⟨es,p,h.trans a,b⟩}
def mL.ok(h:mL φ H w):oD w:=let⟨_,h1,h2,_⟩:=h;h1.below h2
def mL.xy{d:Ren}(h:mL φ H w)(t:bL φ H w d e w'):mL d e w':=by
 obtain⟨i,f,a,c⟩:=h;exact⟨i,f,⟨t.os.trans a.os,t.tape.trans a.tape,t.output.trans a.output,fq a.size t.size,fun k b=>(t.block k (Lq b a.size) (c k b)).trans (a.block k b)⟩,
  fun k b g=>(t.sub k g).elim (c k b) (fun h=>Nat.not_lt.2 h (Lq b a.size))⟩
def mL.start(h:oD w)(a:∀k,¬gH φ H k):mL φ H w:=⟨w,h,Below.refl _ _,fun k _=>a k⟩
def BR.lt{im:jQ}(b:BR P φ im x w):im.blk<w.heap.size:=by cases x with|cells cs T wr=>{obtain⟨e,d,f,a,c⟩:=b;exact(yt.1 a).1}|map kv=>{obtain⟨es,p,a,c⟩:=b;exact(yt.1 a).1}
def WR.iW(h:WR P φ H w){b:Nat}(c:H b=some x):∃a,φ b=some a/\BR P φ a x w:=h.blk b x c
def WR.drew(h:WR P φ H w):WR P φ H {w with drawn:=w.drawn+1}:=⟨fun b x a=>let⟨im,e,r⟩:=h.blk b x a;⟨im,e,r.keep rfl⟩,h.inj,h.env.xy ⟨rfl,rfl,rfl,Z,fun _ _ _=>rfl,fun _ h=>.inl h⟩⟩
def bL.drew(φ:Ren)(H:AH)(w:bt):bL φ H w φ H {w with drawn:=w.drawn+1}:=⟨rfl,rfl,rfl,Z,fun _ _ _=>rfl,fun _ h=>.inl h⟩
def WR.fin{d:Ren}(h:mL φ H w)(g:∀b x,e b=some x->∃a,d b=some a/\BR P d a x w')(hi:∀b f x x' a c,e b=some x->e f=some x'->b≠f->x.wr=true->d b=some a->d f=some c->a.blk≠c.blk)(t:bL φ H w d e w'):WR P d e w'/\bL φ H w d e w':=⟨⟨g,hi,h.xy t⟩,t⟩
def WR.JQ{d:Ren}(h:mL φ H w)(g:∀b x,e b=some x->∃a,d b=some a/\BR P d a x w')(hi:∀b f x x' a c,e b=some x->e f=some x'->b≠f->x.wr=true->d b=some a->d f=some c->a.blk≠c.blk)(n:Nx φ d s s')(t:bL φ H w d e w'):WR P d e w'/\Nx φ d s s'/\bL φ H w d e w':=⟨⟨g,hi,h.xy t⟩,n,t⟩
def WR.turn(h:WR P φ H w){b:Nat}{x:AB}{im:jQ}(i:H b=some x)(n:x.wr=true)(a:φ b=some im)(m:w'.os=w.os)(E:w'.tape=w.tape)(C:w'.output=w.output)(K:w'.heap.size=w.heap.size)(v:∀k,k≠im.blk->w'.heap[k]? =w.heap[k]?)(D:BR P φ im x' w')(F:x'.wr=true):WR P φ (aG H b (some x')) w'/\bL φ H w φ (aG H b (some x')) w':=by have r:gH φ H im.blk:=⟨b,x,im,i,n,a,rfl⟩;refine WR.fin h.env (fun k y g=>?_) (fun k j y A t p d f q z e1 e2=>?_) ⟨m,E,C,V,fun k u B=>v k (fun e=>B (e▸r)),fun k u=>?_⟩;{by_cases e:k=b;{subst e;rw[bX]at g;cases g;exact⟨im,a,D⟩};{rw[aH _ _ e]at g;obtain⟨p,e2,G⟩:=h.blk k y g;exact⟨p,e2,G.keep (v _ (fun e3=>h.inj b k x y im p i g (adx e) n a e2 e3.symm))⟩}};{by_cases e:k=b;{subst e;rw[aH _ _ (adx q)]at f;exact h.inj k j x A t p i f q n e1 e2};{rw[aH _ _ e]at d;by_cases o:j=b;{subst o;exact h.inj k j y x t p d i q z e1 e2};{rw[aH _ _ o]at f;exact h.inj k j y A t p d f q z e1 e2}}};{obtain⟨c,y,p,d,f,l,s⟩:=u;by_cases e:c=b;{subst e;rw[a]at l;cases l;exact .inl (s▸r)};{rw[aH _ _ e]at d;exact .inl ⟨c,y,p,d,f,l,s⟩}}
def Ren.put(φ:Ren)(s:Nat)(im:jQ):Ren:=fun k=>if k=s then some im else φ k
def Ren.gX(φ:Ren)(s:Nat)(im:jQ):φ.put s im s=some im:=by simp[Ren.put]
def Ren.iQ{φ:Ren}{im:jQ}(h:k≠s):φ.put s im k=φ k:=by simp[Ren.put,h]
def mv{im:jQ}(h:φ s=none):jw φ (φ.put s im):=by intro b p a;rw[Ren.iQ];{exact a};{rintro rfl;rw[h]at a;cases a}
def BZ{im:jQ}(h:φ s=none):Nx φ (φ.put s im) s (s+1):=by refine⟨mv h,fun b p a=>?_⟩;by_cases e:b=s;{exact .inr V};{rw[Ren.iQ e]at a;exact .inl a}
def WR.new(h:WR P φ H w){im:jQ}(j:φ s=none)(hi:im.blk=w.heap.size)(i:w'.os=w.os)(D:w'.tape=w.tape)(B:w'.output=w.output)(F:w.heap.size<=w'.heap.size)(n:∀k,k<w.heap.size->w'.heap[k]? =w.heap[k]?)(C:BR P (φ.put s im) im x w'):WR P (φ.put s im) (aG H s (some x)) w'/\Nx φ (φ.put s im) s (s+1)/\bL φ H w (φ.put s im) (aG H s (some x)) w':=by have v:∀k y,H k=some y->k≠s:=by{rintro k y d rfl;obtain⟨p,e2,_⟩:=h.blk k y d;rw[j]at e2;cases e2};refine WR.JQ h.env (fun k y d=>?_) (fun k l y z u p a b r E e1 e2=>?_) (BZ j) ⟨i,D,B,F,fun k q _=>n k q,fun k q=>?_⟩;{by_cases e:k=s;{subst e;rw[bX]at d;cases d;exact⟨im,Ren.gX _ _ _,C⟩};{rw[aH _ _ e]at d;obtain⟨p,e2,o⟩:=h.blk k y d;exact⟨p,by rw[Ren.iQ e];exact e2,(o.mono (mv j)).keep (n _ o.lt)⟩}};{by_cases e:k=s;{subst e;rw[Ren.gX]at e1;cases e1;rw[aH _ _ (adx r)]at b;rw[Ren.iQ (adx r)]at e2;obtain⟨t,e3,m⟩:=h.blk l z b;rw[e2]at e3;cases e3;have:=m.lt;omega};{rw[aH _ _ e]at a;rw[Ren.iQ e]at e1;by_cases g:l=s;{subst g;rw[Ren.gX]at e2;cases e2;obtain⟨t,e3,m⟩:=h.blk k y a;rw[e1]at e3;cases e3;have:=m.lt;omega};{rw[aH _ _ g]at b;rw[Ren.iQ g]at e2;exact h.inj k l y z u p a b r E e1 e2}}};{obtain⟨c,y,p,a,b,f,A⟩:=q;by_cases e:c=s;{subst e;rw[Ren.gX]at f;cases f;exact .inr V};{rw[aH _ _ e]at a;rw[Ren.iQ e]at f;exact .inl ⟨c,y,p,a,b,f,A⟩}}
def WR.kill(h:WR P φ H w)(b:Nat):WR P φ (aG H b none) w/\bL φ H w φ (aG H b none) w:=by have a:∀{k y},aG H b none k=some y->H k=some y:=by{intro k y d;by_cases e:k=b;{subst e;rw[bX]at d;cases d};{rwa [aH _ _ e]at d}};exact WR.fin h.env (fun k y d=>h.blk k y (a d)) (fun k l y m q p f g=>h.inj k l y m q p (a f) (a g)) ⟨rfl,rfl,rfl,Z,fun _ _ _=>rfl,fun k⟨c,y,p,f,g,i,j⟩=>.inl ⟨c,y,p,a f,g,i,j⟩⟩
def WR.Hz(h:WR P φ H w){b:Nat}{x:AB}{im im':jQ}(E:H b=some x)(K:x.wr=true)(l:φ b=some im)(G:φ s=none)(hi:im'.blk=im.blk)(C:w'.os=w.os)(O:w'.tape=w.tape)(M:w'.output=w.output)(T:w'.heap.size=w.heap.size)(F:∀k,k≠im.blk->w'.heap[k]? =w.heap[k]?)(N:BR P (φ.put s im') im' x' w')(R:x'.wr=true):WR P (φ.put s im') (aG (aG H b none) s (some x')) w'/\Nx φ (φ.put s im') s (s+1)/\bL φ H w (φ.put s im') (aG (aG H b none) s (some x')) w':=by have t:gH φ H im.blk:=⟨b,x,im,E,K,l,rfl⟩;have fG:∀k y,k≠s->aG (aG H b none) s (some x') k=some y->k≠b/\H k=some y:=by{intro k y i j;rw[aH _ _ i]at j;by_cases e:k=b;{subst e;rw[bX]at j;cases j};{rw[aH _ _ e]at j;exact⟨e,j⟩}};have aq:∀k y p,k≠b->H k=some y->φ k=some p->p.blk≠im.blk:=fun k y p q j e2 e3=>h.inj b k x y im p E j (adx q) K l e2 e3.symm;refine WR.JQ h.env (fun k y j=>?_) (fun k m y z f p B n q Q e1 e2=>?_) (BZ G) ⟨C,O,M,V,fun k d L=>F k (fun e=>L (e▸t)),fun k d=>?_⟩;{by_cases e:k=s;{subst e;rw[bX]at j;cases j;exact⟨im',Ren.gX _ _ _,N⟩};{obtain⟨q,g⟩:=fG k y e j;obtain⟨p,e2,S⟩:=h.blk k y g;exact⟨p,by rw[Ren.iQ e];exact e2,(S.mono (mv G)).keep (F _ (aq k y p q g e2))⟩}};{by_cases e:k=s;{subst e;rw[Ren.gX]at e1;cases e1;obtain⟨v,a⟩:=fG m z (adx q) n;rw[Ren.iQ (adx q)]at e2;rw[hi];exact fun e3=>aq m z p v a e2 e3.symm};{obtain⟨u,r⟩:=fG k y e B;rw[Ren.iQ e]at e1;by_cases A:m=s;{subst A;rw[Ren.gX]at e2;cases e2;rw[hi];exact aq k y f u r e1};{obtain⟨v,a⟩:=fG m z A n;rw[Ren.iQ A]at e2;exact h.inj k m y z f p r a q Q e1 e2}}};{obtain⟨c,y,p,B,n,o,D⟩:=d;by_cases e:c=s;{subst e;rw[Ren.gX]at o;cases o;exact .inl (by rw[<-D,hi];exact t)};{obtain⟨u,r⟩:=fG c y e B;rw[Ren.iQ e]at o;exact .inl ⟨c,y,p,r,n,o,D⟩}}
def AZ:∀(m:Sem α)(a:α),stat P m=some a->∀w,m.run P w=.ok a w
 |.pure b,a,h,w=>by simp[stat]at h;subst h;rfl
 |.program k,a,h,w=>AZ (k P) a h w
 |.load ..,a,h,w=>by simp[stat]at h
 |.store ..,a,h,w=>by simp[stat]at h
 |.new ..,a,h,w=>by simp[stat]at h
 |.shape ..,a,h,w=>by simp[stat]at h
 |.freeze ..,a,h,w=>by simp[stat]at h
 |.frozen ..,a,h,w=>by simp[stat]at h
 |.getObj ..,a,h,w=>by simp[stat]at h
 |.setObj ..,a,h,w=>by simp[stat]at h
 |.choose ..,a,h,w=>by simp[stat]at h
 |.sys ..,a,h,w=>by simp[stat]at h
 |.mark ..,a,h,w=>by simp[stat]at h
 |.halt ..,a,h,w=>by simp[stat]at h
def bz{α:Type}{a:α}{H:AH}{o:bE α}(h:AX.ret a H s=some o):o=⟨a,H,s,[],[]⟩:=by simp[AX.ret]at h;exact h.symm
def uA{α:Type}{x:Option α}{H:AH}{o:bE α}(h:AX.ofOpt x H s=some o):∃a,x=some a/\o=⟨a,H,s,[],[]⟩:=by cases x with|none=>simp[AX.ofOpt]at h|some a=>{simp[AX.ofOpt]at h;exact⟨a,rfl,h.symm⟩}
def qt{b:Nat}{H:AH}{o:bE (bj×bW×Bool)}(h:AX.cells b H s=some o):H b=some (.cells o.val.1 o.val.2.1 o.val.2.2)/\o.H=H/\o.s=s:=by unfold AX.cells at h;obtain⟨c,d,e1,e2,rfl⟩:=AX.bind_some h;unfold AX.get at e1;cases a:H b with|none=>{rw[a]at e1;cases e1}|some x=>{rw[a]at e1;simp only[el]at e1;subst e1;cases x with|cells cs T wr=>{have:=bz e2;subst this;exact⟨rfl,rfl,rfl⟩}|map kv=>{cases e2}}
def u7{b:Nat}{H:AH}{o:bE (List (bn×bn))}(h:AX.entries b H s=some o):H b=some (.map o.val)/\o.H=H/\o.s=s:=by unfold AX.entries at h;obtain⟨c,d,e1,e2,rfl⟩:=AX.bind_some h;unfold AX.get at e1;cases a:H b with|none=>{rw[a]at e1;cases e1}|some x=>{rw[a]at e1;simp only[el]at e1;subst e1;cases x with|map kv=>{have:=bz e2;subst this;exact⟨rfl,rfl,rfl⟩}|cells cs T wr=>{cases e2}}
def Bz{b:Nat}{H:AH}{q:bE (bj)}(h:AX.readN b o n H s=some q):∃cs T wr,H b=some (.cells cs T wr)/\o+n<=cs.length/\q.val=(cs.drop o).take n/\q.H=H/\q.s=s:=by unfold AX.readN at h;obtain⟨e,f,e1,e2,rfl⟩:=AX.bind_some h;obtain⟨a,c,d⟩:=qt e1;split at e2;{rename_i p;have:=bz e2;subst this;exact⟨_,_,_,a,p,rfl,c,d⟩};{cases e2}
def BR.cell{im:jQ}{wr:Bool}(h:BR P φ im (.cells cs T wr) w)(hi:cs[i]? =some v):∃v',w.cell? ⟨im.blk,im.base+i,none⟩=some v'/\VR φ v v'/\oneV v=true:=by obtain⟨g,f,j,d,k,l,e,m⟩:=h;obtain⟨v',a,b,c⟩:=e i v hi;exact⟨v',by simp[World.cell?,d,a],b,c⟩
def vz(c d k:Nat):(⟨c,d,none⟩:Addr).add k=⟨c,d+k,none⟩:=by unfold Addr.add;split;{rename_i h;subst h;rfl};{rfl}
def BR.readN{im:jQ}{wr:Bool}(h:BR P φ im (.cells cs T wr) w)(x:o+n<=cs.length): ∃f,VL φ ((cs.drop o).take n) f/\f.length=n/\(∀j v,f[j]? =some v->w.cell? ((⟨im.blk,im.base+o,none⟩:Addr).add j)=some v)/\(∀v∈f,v.oneCell'=true):=by obtain⟨g,p,q,l,r,s,m,t⟩:=h;have get:∀j,j<n->∃v',g[im.base+o+j]? =some v'/\VR φ ((cs.drop o).take n)[j]! v'/\v'.oneCell'=true:=by{intro j d;have k:cs[o+j]? =some cs[o+j]:=ei V;obtain⟨v',a,b,c⟩:=m _ _ k;refine⟨v',by rw[adr];exact a,?_,?_⟩;{have:((cs.drop o).take n)[j]! =cs[o+j]:=by{rw[afH,R1,eh d,NL,k];rfl};rw[this];exact b};{rw[<-BQ,<-b.oneV];exact c}};refine⟨(List.range n).map fun j=>g.getD (im.base+o+j) undef,⟨by simp;omega,fun i v v' a b=>?_⟩,J,fun j v e=>?_,fun v e=>?_⟩;{have hi:i<n:=by{have:=(nc.1 a).1;simp at this;omega};obtain⟨u,e1,e2,e3⟩:=get i hi;rw[z7,ad5 hi]at b;simp only[wo,el]at b;subst b;rw[afH,a]at e2;simpa[qe,e1]using e2};{have d:j<n:=by{have:=(nc.1 e).1;simpa using this};obtain⟨u,e1,e2,e3⟩:=get j d;rw[z7,ad5 d]at e;simp only[wo,el]at e;subst e;rw[vz];simp[World.cell?,l,e1,qe]};{obtain⟨j,d,rfl⟩:=nm.1 e;obtain⟨u,e1,e2,e3⟩:=get j (by simpa using d);simpa[qe,e1]using e3}
end
end
section
variable{P:c7}{φ d:Ren}{H:AH}{w w':bt}
def aQ{α:Type}{m:Sem α}{a:α}(h:m.run P w=.ok a w')(f:α->Sem p):(m >>= f).run P w=(f a).run P w':=by rw[Sem.run_bind,h];rfl
structure dB(P:c7)(φ:Ren)(H:AH)(w:bt)(s:Nat)(q:bE bn)(r:Result Next)(d:Ren)(v':bn)(w':bt):Prop where
 run:r=.ok (.value v') w'\/(r=.ok .skip w'/\v'=undef)
 nx:Nx φ d s q.s
 vr:VR d q.val v'
 wr:WR P d q.H w'
 tr:bL φ H w d q.H w'
def Aw(P:c7)(φ:Ren)(H:AH)(w:bt)(s:Nat)(q:bE bn)(r:Result Next):Prop:=∃d v' w',dB P φ H w s q r d v' w'
def eD{m:Sem bn}(h:m.run P w=.ok v w'):(do let x <-m;pure (Next.value x):Sem Next).run P w=.ok (.value v) w':=by rw[aQ h];rfl
def FQ{m:Sem Unit}(h:m.run P w=.ok () w'):(do m;pure Next.skip:Sem Next).run P w=.ok .skip w':=by rw[aQ h];rfl
def dE{d:TypeDesc}(h:P.underlying T=some d):(underlying T).run P w=.ok d w:=ada h w
def Bm{i:TypeInfo}(h:P.info? T=some i):(typeInfo T).run P w=.ok i w:=by unfold typeInfo;rw[aQ (a:=P) (w':=w) (by rfl)];simp[h]
def lX(h:aW P T=some n):(sizeOf T).run P w=.ok n w:=by unfold aW at h;cases hi:P.info? T with|none=>{rw[hi]at h;cases h}|some i=>{rw[hi]at h;simp only[wo,el]at h;unfold sizeOf;rw[aQ (Bm hi),h];rfl}
def ya{b:Bool}(h:bS P T=some b):(isAgg T).run P w=.ok b w:=by unfold bS at h;cases hi:P.underlying T with|none=>{rw[hi]at h;cases h}|some d=>{rw[hi]at h;simp only[wo,el]at h;unfold isAgg;rw[aQ (dE hi)];subst h;cases d<;>rfl}
def pS{z:bn}(h:bF P T=some z):(zeroValue T).run P w=.ok z w/\z.cells.toList.all eJ=true:=by unfold bF at h;cases hi:P.info? T with|none=>{rw[hi]at h;cases h}|some i=>{rw[hi]at h;simp only[ahf]at h;cases a:i.zero with|none=>{rw[a]at h;cases h}|some z2=>{rw[a]at h;simp only at h;split at h;{rename_i b;cases h;refine⟨?_,b⟩;unfold zeroValue;rw[aQ (Bm hi)];simp[a]};{cases h}}}
def sV{z:bn}(h:bF P T=some z):VR φ z z:=by obtain⟨_,a⟩:=pS (w:=default) h;cases z with|agg cs=>{have:=(VL.simple (φ:=φ) a).array;simp only[afi]at this;exact VR.ta this}|_=>{exact VR.simple (by simpa[Value.cells]using a)}
def IB(h:js P T v H s=some q)(l:WR P φ H w)(z:VR φ v v'): ∃u,(Instr.loadAt T v').run P w=.ok u w/\VR φ q.val u/\q.H=H/\q.s=s:=by unfold js at h;cases z;(case ptr b o im him=>dsimp only at h;unfold Instr.loadAt Instr.sureAddr;rw[aQ (a:=(⟨im.blk,im.base+o,none⟩:Addr)) (w':=w) (by rfl)];unfold loadVar;cases c:bS P T with|none=>{rw[c]at h;cases h}|some ag=>{rw[c]at h;cases ag with|true=>{cases g:aW P T with|none=>{rw[g]at h;cases h}|some n=>{rw[g]at h;obtain⟨A,B,e1,e2,rfl⟩:=AX.bind_some h;obtain⟨cs,C,wr,d,e,f,t,x⟩:=Bz e1;have:=bz e2;subst this;obtain⟨p,e3,k⟩:=l.iW d;rw[him]at e3;cases e3;obtain⟨r,i,j,m,_⟩:=k.readN e;rw[aQ (ya c)];simp only[rq];rw[aQ (lX g)];rw[aQ (a:=r.toArray) (w':=w) (by rw[<-j];exact run_loadCells_list w _ r m)];exact⟨_,rfl,by rw[f];exact VR.ta i.array,t,x⟩}}|false=>{obtain⟨A,B,e1,e2,rfl⟩:=AX.bind_some h;obtain⟨d,e,f⟩:=qt e1;obtain⟨a,y,rfl⟩:=uA e2;obtain⟨p,e3,k⟩:=l.iW d;rw[him]at e3;cases e3;obtain⟨u,i,j,m⟩:=k.cell y;rw[aQ (ya c)];simp only[X1,RP];exact⟨u,by simp[load,Sem.run,i],j,e,f⟩}});(all_goals cases h)
def Fw(g:Nat)(cs:ahG):(w.setRow g cs).os=w.os/\(w.setRow g cs).tape=w.tape/\(w.setRow g cs).output=w.output/\(w.setRow g cs).heap.size=w.heap.size:=⟨rfl,rfl,rfl,by simp[World.setRow]⟩
def uh:∀(a:bj)(o:Nat)(cs:bj),(cu cs o a).length=cs.length
 |[],o,cs=>rfl
 |v::r,o,cs=>by simp[cu,uh r]
def A8:∀(a:bj)(o:Nat)(cs:bj)(i:Nat),o+a.length<=cs.length->(cu cs o a)[i]? =if o<=i/\i<o+a.length then a[i-o]? else cs[i]?
 |[],o,cs,i,_=>by
  have d:¬(o<=i/\i<o+([]:bj).length):=fun e=>by simp at e;omega
  rw[ed d];rfl
 |v::r,o,cs,i,h=>by
  simp only[hH]at h⊢;rw[cu,A8 r (o+1) _ i (by simp;omega)];by_cases b:o+1<=i/\i<o+1+r.length
  ·rw[eh b,eh V,show i-o=(i-(o+1))+1 from by omega];rfl
  ·rw[ed b,aei]
   by_cases c:o=i
   ·subst c
    rw[eh rfl,eh V,eh V];simp
   ·rw[ed c,ed V]
def BR.stored{im:jQ}{vs vs':bj}(z:WR P φ H w){b:Nat}(s:H b=some (.cells cs T true))(j:φ b=some im)(M:o+vs.length<=cs.length)(n:VL φ vs vs')(g:vs.all oneV=true): ∃w',(storeCells ⟨im.blk,im.base+o,none⟩ vs').run P w=.ok () w'/\WR P φ (aG H b (some (.cells (cu cs o vs) T true))) w'/\bL φ H w φ (aG H b (some (.cells (cu cs o vs) T true))) w':=by obtain⟨d,e2,W⟩:=z.iW s;rw[j]at e2;cases e2;obtain⟨f,X,Y,l,g2,C,D,E,m⟩:=id W;obtain⟨t,K,g7⟩:=m.1 rfl;rw[t,K]at l;have hl:=n.len;have y:∀v∈vs',v.oneCell'=true:=by{intro v' r;obtain⟨i,hi,rfl⟩:=adn r;have q:i<vs.length:=V;have k:=n.at_ i vs[i] vs'[i] (ei q) (ei hi);rw[<-BQ,<-k.oneV];exact eu.1 g _ (wk q)};have p:=run_storeCells_at P im.blk (im.base+o) T vs' 0 f w l V y;simp only[ahs]at p;obtain⟨O,Q,R,S⟩:=Fw (w:=w) im.blk (f.toList.take (im.base+o)++vs'++f.toList.drop (im.base+o+vs'.length)).toArray;have x:f.size=f.toList.length:=J;have a:BR P φ im (.cells (cu cs o vs) T true) (w.setRow im.blk (f.toList.take (im.base+o)++vs'++f.toList.drop (im.base+o+vs'.length)).toArray):=by{refine⟨_,T,(0,0),setRow_heap _ _ _ _ _ _ l,?_,by rw[uh];exact C,fun i v hi=>?_,E,fun _=>⟨rfl,rfl,?_⟩,fun h=>(by cases h),fun _ g=>⟨(m.2.2 rfl g).1,fun F G=>(m.2.2 rfl g).2 F (by rwa [uh]at G)⟩⟩;{simp only[ahE,dw,nl,vh];omega};{rw[A8 _ _ _ _ M]at hi;split at hi;{rename_i N;obtain⟨u,b1,b2⟩:=n.get hi;refine⟨u,?_,b2,eu.1 g _ (w0 hi)⟩;simp only[adS];rw[ahq,aho (by simp;omega),z6 (by simp;omega)];rw[<-b1];congr 1;simp;omega};{rename_i N;obtain⟨u,b1,b2,b3⟩:=D i v hi;refine⟨u,?_,b2,b3⟩;have e:=(nc.1 hi).1;simp only[adS];by_cases c:i<o;{rw[ahq,z6 (by simp;omega),R1,eh V];simpa using b1};{rw[aho (by simp;omega),NL,<-b1];simp only[dw,nl,<-x];rw[<-Array.getElem?_toList];congr 1;omega}}};{simp only[ahE,dw,nl,vh];omega}};obtain⟨A,B⟩:=z.turn (w':=w.setRow im.blk (f.toList.take (im.base+o)++vs'++f.toList.drop (im.base+o+vs'.length)).toArray) (x':=.cells (cu cs o vs) T true) s rfl j O Q R S (fun k L=>setRow_other _ _ _ _ L) a rfl;exact⟨_,p,A,B⟩
def NP{p f:bn}(h:pC P T p v H s=some q)(l:WR P φ H w)(k:VR φ p f)(e:VR φ v v'): ∃w',(Instr.storeAt T f v').run P w=.ok () w'/\q.val=undef/\WR P φ q.H w'/\bL φ H w φ q.H w'/\q.s=s:=by unfold pC at h;cases k;(case ptr b o im him=>dsimp only at h;split at h;{rename_i i;obtain⟨y,r⟩:=i;obtain⟨A,B,e1,e2,rfl⟩:=AX.bind_some h;obtain⟨c,d,g⟩:=qt e1;split at e2;{rename_i u;obtain⟨x,t⟩:=u;obtain⟨C,D,e3,e4,rfl⟩:=AX.bind_some e2;simp only[AX.set,el]at e3;subst e3;have:=bz e4;subst this;rw[x]at c;obtain⟨w',m,n,z⟩:=BR.stored (vs:=v.cells.toList) (vs':=v'.cells.toList) (o:=o) l c him (by simpa using t) e.cells.list r;refine⟨w',?_,rfl,by rw[d];exact n,by rw[d];exact z,g⟩;unfold Instr.storeAt Instr.sureAddr;rw[aQ (a:=(⟨im.blk,im.base+o,none⟩:Addr)) (w':=w) (by rfl)];unfold storeVar;rw[aQ (lX y)];have j:v'.cells.size=v.cells.size:=e.size.symm;simp only[j,ne_eq,afy,RP];exact m};{cases e2}};{cases h});(all_goals cases h)
def Ju{o:Obj}:({w with heap:=w.heap.push o}:bt).heap[w.heap.size]? =some o:=J
def Gy{o:Obj}(h:k<w.heap.size):({w with heap:=w.heap.push o}:bt).heap[k]? =w.heap[k]?:=by simp only[aeC];rw[ed V]
def B6(e:WR P φ H w)(a:φ s=none)(b:VL φ cs j)(c:cs.all oneV=true): WR P (φ.put s ⟨w.heap.size,0,cs.length,(aW P T).getD 0⟩) (aG H s (some (.cells cs T true))) {w with heap:=w.heap.push (.cells j.toArray T)}/\ Nx φ (φ.put s ⟨w.heap.size,0,cs.length,(aW P T).getD 0⟩) s (s+1)/\bL φ H w (φ.put s ⟨w.heap.size,0,cs.length,(aW P T).getD 0⟩) (aG H s (some (.cells cs T true))) {w with heap:=w.heap.push (.cells j.toArray T)}:=by have f:=b.len;refine e.new (w':={w with heap:=w.heap.push (.cells j.toArray T)}) a rfl rfl rfl rfl J (fun k d=>Gy d) ?_;refine⟨j.toArray,T,(0,0),Ju,by simp;omega,Z,fun i v hi=>?_,rfl,fun _=>⟨rfl,rfl,by simp;omega⟩,fun h=>(by cases h),fun _ _=>⟨rfl,fun _ h=>h⟩⟩;obtain⟨u,b1,b2⟩:=b.get hi;exact⟨u,by simpa using b1,b2.mono (mv a),eu.1 c _ (w0 hi)⟩
def Hu(h:AX.newC T cs H s=some q)(l:WR P φ H w)(g:dz φ s q.s)(k:VL φ cs j): ∃d,(newRow T j.toArray).run P w=.ok ⟨w.heap.size,0,none⟩ {w with heap:=w.heap.push (.cells j.toArray T)}/\Nx φ d s q.s/\VR d q.val (.pointer (some ⟨w.heap.size,0,none⟩))/\WR P d q.H {w with heap:=w.heap.push (.cells j.toArray T)}/\bL φ H w d q.H {w with heap:=w.heap.push (.cells j.toArray T)}:=by unfold AX.newC at h;split at h;{rename_i f;obtain⟨m,n,e1,e2,rfl⟩:=AX.bind_some h;simp only[AX.new,el]at e1;subst e1;have:=bz e2;subst this;have i:φ s=none:=g s Z J;obtain⟨a,c,e⟩:=B6 (T:=T) l i k f;refine⟨_,by rfl,c,?_,a,e⟩;have:=VR.ptr (φ:=φ.put s ⟨w.heap.size,0,cs.length,(aW P T).getD 0⟩) (b:=s) (o:=0) (Ren.gX _ _ _);exact this};{cases h}
def F7{φ:Ren}{b:Nat}{im:jQ}(h:φ b=some im)(a:im.base=0)(d:n*im.es<=im.lim)(c:n<=maxLen):VR φ (.slice (some ⟨b,0,none⟩) n n) (.slice (some ⟨im.blk,0,none⟩) n n):=by have:=VR.slice (o:=0) h (ahk n) V c;rw[a]at this;exact this
end
section
variable{P:c7}{φ:Ren}{H:AH}{w w':bt}
def qO:∀(m:Sem α)(f:α->Sem p),stat P (m >>= f)=(stat P m).bind fun a=>stat P (f a)
 |.pure b,f=>rfl
 |.program k,f=>qO (k P) f
 |.load ..,f=>rfl
 |.store ..,f=>rfl
 |.new ..,f=>rfl
 |.shape ..,f=>rfl
 |.freeze ..,f=>rfl
 |.frozen ..,f=>rfl
 |.getObj ..,f=>rfl
 |.setObj ..,f=>rfl
 |.choose ..,f=>rfl
 |.sys ..,f=>rfl
 |.mark ..,f=>rfl
 |.halt ..,f=>rfl
def GH(b:Nat):∀(l c:bj)(k:Nat)(a f:ahG),VL φ l c->VA φ a f->
 VA φ ((l.zipIdx k).foldl (fun cs x=>cs.setIfInBounds (b+x.2) x.1) a) ((c.zipIdx k).foldl (fun cs x=>cs.setIfInBounds (b+x.2) x.1) f)
 |[],[],k,a,f,_,h=>h
 |[],v::r,k,a,f,hv,_=>by have:=hv.len;simp at this
 |v::r,[],k,a,f,hv,_=>by have:=hv.len;simp at this
 |v::r,v'::r',k,a,f,hv,h=>by
  simp only[afG,adv];exact GH b r r' (k+1) _ _ ⟨by have:=hv.len;simpa using this,fun i u d x y=>hv.at_ (i+1) u d (by simpa using x) (by simpa using y)⟩ (h.set _ (hv.at_ 0 v v' rfl rfl))
def BJ(b:Nat)(v:ahG)(a:ahG):v.zipIdx.foldl (fun cs(x:bn×Nat)=>cs.setIfInBounds (b+x.2) x.1) a=(v.toList.zipIdx).foldl (fun cs x=>cs.setIfInBounds (b+x.2) x.1) a:=by rw[<-Array.foldl_toList,afq]
def zE(b:Nat->Option (Nat×Nat)):∀(l c:List (Nat×bn))(a f r:ahG),l.length=c.length->(∀(i:Nat)p g,l[i]? =some p->c[i]? =some g->p.1=g.1/\VR φ p.2 g.2)->VA φ a f->Instr.fill b a l=some r->∃m,Instr.fill b f c=some m/\VA φ r m
 |[],[],a,f,r,_,_,h,e=>by
  simp only[Instr.fill,el]at e⊢;subst e;exact⟨f,rfl,h⟩
 |[],p::c,a,f,r,hl,_,_,_=>by simp at hl
 |p::l,[],a,f,r,hl,_,_,_=>by simp at hl
 |(i,v)::l,(i',v')::c,a,f,r,hl,hp,h,e=>by
  obtain⟨hi,k⟩:=hp 0 _ _ rfl rfl;dsimp only at hi k;subst hi;have t:=k.size;have q:=h.len;unfold Instr.fill at e⊢;cases d:b i with
  |none=>rw[d]at e;cases e
  |some os=>
   rw[d]at e;dsimp only at e⊢;rw[<-t,<-q];split at e
   ·cases e
   ·rename_i n
    rw[ed n];refine zE b l c _ _ r (by simpa using hl) (fun j p g x y=>hp (j+1) p g (by simpa using x) (by simpa using y)) ?_ e;have e1:=BJ os.1 v.cells a;have e2:=BJ os.1 v'.cells f;rw[e1,e2];exact GH os.1 _ _ 0 _ _ k.cells.list h
def DP(φ:Ren)(ps a:Array (Nat×bn)):Prop:=ps.toList.length=a.toList.length/\∀(i:Nat)p p',ps.toList[i]? =some p->a.toList[i]? =some p'->p.1=p'.1/\VR φ p.2 p'.2
def ZB{ps g:Array (Nat×bn)}{r:bn}(a:(bF P T).isSome=true)(n:DP φ ps g)(h:stat P (Instr.build T ps)=some r):∃j,(Instr.build T g).run P w=.ok j w/\VR φ r j:=by
 obtain⟨z,a⟩:=ad7.1 a;have t:VA φ z.cells z.cells:=(sV (φ:=φ) a).cells
 suffices hs:∃j,stat P (Instr.build T g)=some j/\VR φ r j by
  obtain⟨j,k,l⟩:=hs;exact⟨j,AZ _ _ k w,l⟩
 have q:stat P (zeroValue T)=some z:=by{unfold bF at a;cases hi:P.info? T with|none=>{rw[hi]at a;cases a}|some i=>{rw[hi]at a;simp only[ahf]at a;cases c:i.zero with|none=>{rw[c]at a;cases a}|some z2=>{rw[c]at a;simp only at a;split at a;{cases a;have e:stat P (typeInfo T)=some i:=by{unfold typeInfo;rw[qO];show stat P (match P.info? T with|some i=>pure i|none=>stuck "no such type")=_;rw[hi];rfl};unfold zeroValue;rw[qO,e];show stat P (match i.zero with|some v=>pure v|none=>unsupported (.resourceLimit "a value of more than 2^22 cells"))=_;rw[c];rfl};{cases a}}}};unfold Instr.build at h⊢;rw[qO,q]at h;rw[qO,q];simp only[ahf]at h⊢;rw[qO]at h⊢;cases o:stat P (underlying T)with|none=>{rw[o]at h;cases h}|some d=>{rw[o]at h;simp only[ahf]at h⊢;cases d;(case struct fields=>dsimp only at h⊢;rw[qO]at h⊢;cases m:stat P (fields.mapM fun f=>do pure (f.offset,<-sizeOf f.type))with|none=>{rw[m]at h;cases h}|some places=>{rw[m]at h;simp only[ahf]at h⊢;cases b:Instr.fill (fun x=>places[x]?) z.cells ps.toList with|none=>{rw[b]at h;cases h}|some cs=>{rw[b]at h;obtain⟨p,k,l⟩:=zE _ _ _ _ _ _ n.1 n.2 t b;rw[k];have:r=.agg cs:=by{simpa[stat,pure]using h.symm};exact⟨.agg p,rfl,this▸VR.ta l⟩}});(case array len e=>dsimp only at h⊢;rw[qO]at h⊢;cases m:stat P (sizeOf e)with|none=>{rw[m]at h;cases h}|some size=>{rw[m]at h;simp only[ahf]at h⊢;cases b:Instr.fill (fun i=>some (i*size,size)) z.cells ps.toList with|none=>{rw[b]at h;cases h}|some cs=>{rw[b]at h;obtain⟨p,k,l⟩:=zE _ _ _ _ _ _ n.1 n.2 t b;rw[k];have:r=.agg cs:=by{simpa[stat,pure]using h.symm};exact⟨.agg p,rfl,this▸VR.ta l⟩}});(all_goals cases h)}
def tB{e:bW}(h:dj P T=some e):P.underlying T=some (.slice e):=by unfold dj at h;split at h;{rename_i b a;cases h;exact a};{cases h}
theorem run_pure(a:α):(pure a:Sem α).run P w=.ok a w:=rfl
def Fq(h:eJ v=true):oneV v=true:=by cases v<;>first|rfl|cases h
def CI{φ:Ren}{x x':Option bn}{d:Nat}{l:Int}(h:df x d=some l)(c:∀v,x=some v->∃v',x'=some v'/\VR φ v v')(a:x=none->x'=none): (x'=none/\l=d)\/∃k,x'=some (.int k l):=by cases x with|none=>{left;simp[df]at h;exact⟨a rfl,h.symm⟩}|some v=>{obtain⟨v',e,b⟩:=c v rfl;cases v<;>simp[df]at h;subst h;cases b;exact .inr ⟨_,e⟩}
def acS{k:IntKind}{l:Int}{y:Nat}{c:BoundsCode}(h:0<=l/\l<=y):(Instr.sliceBound (.int k l) y c).run P w=.ok l.toNat w:=by unfold Instr.sliceBound asIntOf;rw[aQ (a:=(k,l)) (w':=w) rfl];simp only[h,afz,rq];rfl
def FS{isSlice:Bool}{l b:Int}{cap:Nat}(o:df lo 0=some l)(g:df hi n=some b)(e:∀v,lo=some v->∃v',lo'=some v'/\VR φ v v')(a:lo=none->lo'=none)(h:∀v,hi=some v->∃v',hi'=some v'/\VR φ v v')(d:hi=none->hi'=none)(p:0<=l/\l<=b/\b<=n)(m:n<=cap): (Instr.sliceBounds isSlice n cap lo' hi' none).run P w=.ok (l.toNat,b.toNat,cap) w:=by rcases CI g h d with⟨e1,e2⟩|⟨k,e1⟩;{rcases CI o e a with⟨e3,e4⟩|⟨i,e3⟩;{rw[e1,e3,e2,e4];rfl};{have f:∀c,(Instr.sliceBound (.int i l) n c).run P w=.ok l.toNat w:=fun c=>acS ⟨V,V⟩;rw[e1,e3,e2];simp[Instr.sliceBounds,Sem.run_bind,Result.andThen,f,run_pure]}};{have j:∀c,(Instr.sliceBound (.int k b) cap c).run P w=.ok b.toNat w:=fun c=>acS ⟨V,V⟩;rcases CI o e a with⟨e3,e4⟩|⟨i,e3⟩;{rw[e1,e3,e4];simp[Instr.sliceBounds,Sem.run_bind,Result.andThen,j,run_pure]};{have f:∀c,(Instr.sliceBound (.int i l) b.toNat c).run P w=.ok l.toNat w:=fun c=>acS ⟨V,V⟩;rw[e1,e3];simp[Instr.sliceBounds,Sem.run_bind,Result.andThen,j,f,run_pure]}}
def Oz{x x':bn}(h:ij P T x lo hi none H s=some q)(R:WR P φ H w)(S:VR φ x x')(F:∀v,lo=some v->∃v',lo'=some v'/\VR φ v v')(B:lo=none->lo'=none)(E:∀v,hi=some v->∃v',hi'=some v'/\VR φ v v')(A:hi=none->hi'=none): ∃v',(Instr.sliceAt T x' lo' hi' none).run P w=.ok v' w/\VR φ q.val v'/\q.H=H/\q.s=s:=by
 have cp:∀{e size:Nat}{l i:Int}{n p:Nat}{a:Option Addr},dj P T=some e->aW P e=some size->df lo 0=some l->df hi n=some i->(0<=l/\l<=i/\i<=n)->n<=p->
  (Instr.sliceAt T (.slice a n p) lo' hi' none).run P w=.ok (.slice (if p=l.toNat then a else a.map (·.add (l.toNat*size))) (i.toNat-l.toNat) (p-l.toNat)) w:=by
  intro e size l i n p a m k j c z y;have C:=tB m;unfold Instr.sliceAt;rw[aQ (dE C)];dsimp only;unfold Instr.slice;rw[aQ (dE C)];dsimp only;have r:=FS (P:=P) (w:=w) (isSlice:=true) j c F B E A z y;rw[aQ r];dsimp only;rw[aQ (lX k)];rfl
 unfold ij at h;dsimp only at h;cases S;(case string str=>dsimp only at h;cases C:P.underlying T with|none=>{rw[C]at h;cases h}|some d=>{rw[C]at h;cases d;(case string=>cases j:df lo 0 with|none=>{rw[j]at h;cases h}|some l=>{cases i:df hi str.size with|none=>{rw[j,i]at h;cases h}|some hh2=>{rw[j,i]at h;dsimp only at h;split at h;{rename_i z;have:=bz h;subst this;refine⟨.string (str.extract l.toNat hh2.toNat),?_,.string _,rfl,rfl⟩;unfold Instr.sliceAt;rw[aQ (dE C)];dsimp only;unfold Instr.slice;rw[aQ (dE C)];have r:=FS (P:=P) (w:=w) (isSlice:=false) j i F B E A z Z;simp[Sem.run_bind,Result.andThen,r,run_pure]};{cases h}}});(all_goals cases h)});(case sliceNil=>dsimp only at h;cases m:dj P T with|none=>{rw[m]at h;cases h}|some e=>{rw[m]at h;dsimp only at h;cases k:aW P e with|none=>{rw[k]at h;cases h}|some size=>{cases j:df lo 0 with|none=>{rw[k,j]at h;cases h}|some l=>{cases i:df hi 0 with|none=>{rw[k,j,i]at h;cases h}|some hh2=>{rw[k,j,i]at h;dsimp only at h;split at h;{rename_i z;have:=bz h;subst this;have K:l=0:=V;have D:hh2=0:=V;subst K;subst D;exact⟨_,cp (a:=none) m k j i z Z,by simpa using VR.sliceNil,rfl,rfl⟩};{cases h}}}}});(case slice b o n p im him hn hc hm=>dsimp only at h;cases m:dj P T with|none=>{rw[m]at h;cases h}|some e=>{rw[m]at h;dsimp only at h;cases k:aW P e with|none=>{rw[k]at h;cases h}|some size=>{cases j:df lo 0 with|none=>{rw[k,j]at h;cases h}|some l=>{cases i:df hi n with|none=>{rw[k,j,i]at h;cases h}|some hh2=>{rw[k,j,i]at h;dsimp only at h;split at h;{rename_i z;obtain⟨W,X,e1,e2,rfl⟩:=AX.bind_some h;obtain⟨D,L,M⟩:=qt e1;split at e2;{rename_i f;have:=bz e2;subst this;obtain⟨g,N,Q⟩:=R.iW D;rw[him]at N;cases N;obtain⟨ds,Y,fr,k1,k2,k3,k4,G,k6⟩:=Q;rw[f]at G;simp only[adz]at G;refine⟨_,cp (a:=some ⟨im.blk,im.base+o,none⟩) m k j i z hn,?_,L,M⟩;by_cases t:p=l.toNat;{rw[eh t];have e5:hh2.toNat-l.toNat=0:=V;have O:p-l.toNat=0:=V;rw[e5,O];exact VR.slice0};{rw[ed t];simp only[wo,vz];have u:(p-l.toNat)*im.es+l.toNat*im.es=p*im.es:=by{rw[<-Nat.add_mul];congr 1;omega};rw[G]at u hc;rw[adr];exact VR.slice him V (by rw[G];omega) V}};{cases e2}};{cases h}}}}});(case slice0 b o a=>dsimp only at h;cases m:dj P T with|none=>{rw[m]at h;cases h}|some e=>{rw[m]at h;dsimp only at h;cases k:aW P e with|none=>{rw[k]at h;cases h}|some size=>{cases j:df lo 0 with|none=>{rw[k,j]at h;cases h}|some l=>{cases i:df hi 0 with|none=>{rw[k,j,i]at h;cases h}|some hh2=>{rw[k,j,i]at h;dsimp only at h;split at h;{rename_i z;obtain⟨W,X,e1,e2,rfl⟩:=AX.bind_some h;obtain⟨D,L,M⟩:=qt e1;split at e2;{have:=bz e2;subst this;have K:l=0:=V;have D:hh2=0:=V;subst K;subst D;refine⟨_,cp (a:=some a) m k j i z Z,?_,L,M⟩;simpa using VR.slice0};{cases e2}};{cases h}}}}});(all_goals cases h)
end
end Go.Proofs.YtlkceignfhnpoaaGreatDoor
