/-
  Part of a proof, written small.
-/
import Derived.Test.YtlkceignfhnpoaaGreatDoorS1SASLSOSY6
import Derived.Lib.Join
set_option linter.all false
namespace Go.Proofs.YtlkceignfhnpoaaGreatDoor
open Go AX
variable{H C:AH}{Q:bn->AH->Nat->Prop}{s k n s' i o m c cap d l z:Nat}{T kt et t:bW}{cs zr:bj}{α:Type}{v v' u k1 k2:bn}{F G E K:Nat->Prop}{x:Option AB}{L:List Nat}{rows:List (bj)}{tm:ahG}{a:Option Addr}{S:List FuncId}{p:(Nat->Prop)×(Nat->Prop)}
section
variable{P:c7}
def AY{b:Type}(f:α->Sem b):∀m:Sem α,stat P (Sem.bind m f)=(stat P m).bind fun a=>stat P (f a):=by intro m;induction m with|pure a=>simp[Sem.bind,stat]|program k ih=>{simp only[Sem.bind,stat];exact ih P}|_=>{simp[Sem.bind,stat]}
def nr(a:Nat->Option (Nat×Nat)):bj->List (Nat×bn)->Option (bj)
 |cs,[]=>some cs
 |cs,(i,v)::r=>
  match a i with
  |none=>none
  |some (off,size)=>if v.cells.size=size/\off+v.cells.size<=cs.length then nr a (cu cs off v.cells.toList) r else none
def JF:∀(l:bj)(j off:Nat)(cs:ahG),(l.zipIdx j).foldl (fun cs(p:bn×Nat)=>cs.setIfInBounds (off+p.2) p.1) cs=(cu cs.toList (off+j) l).toArray
 |[],j,off,cs=>by simp[cu]
 |v::r,j,off,cs=>by
  rw[afG,adv,JF r (j+1) off];simp[cu,adr]
def FA:∀(l cs:bj)(o:Nat),(cu cs o l).length=cs.length
 |[],cs,o=>rfl
 |v::r,cs,o=>by simp[cu,FA r]
def zF(a:Nat->Option (Nat×Nat)):∀(b:List (Nat×bn))(cs:bj),Instr.fill a cs.toArray b=(nr a cs b).map List.toArray
 |[],cs=>rfl
 |(i,v)::r,cs=>by
  unfold Instr.fill nr;cases f:a i with
  |none=>rfl
  |some q=>
   obtain⟨c,size⟩:=q;dsimp only;by_cases d:v.cells.size=size/\c+v.cells.size<=cs.length
   ·rw[eh d,ed (by simp;omega)]
    have:(v.cells.zipIdx.foldl (fun cs(p:bn×Nat)=>cs.setIfInBounds (c+p.2) p.1) cs.toArray)=(cu cs c v.cells.toList).toArray:=by
     rw[<-Array.foldl_toList,afq,JF];simp
    have e:=zF a r (cu cs c v.cells.toList);rw[<-e,<-this]
   ·rw[ed d,eh (by simp;omega)]
    rfl
def ZH{c:Nat}{a:Array (Nat×bn)}{e:bW}{size:Nat}{row:bj}(h:eO P T c=some (e,size,row)):mH P T c a=(match nr (fun i=>some (i*size,size)) row a.toList with|some cs=>if cs.all oneV=true then bind (new (.cells cs e true)) fun b=>ret (.slice (some ⟨b,0,none⟩) c c)else fail|none=>fail):=by unfold eO at h;unfold mH;cases f:dj P T with|none=>{rw[f]at h;cases h}|some e'=>{rw[f]at h;dsimp only at h⊢;cases d:aW P e' with|none=>{rw[d]at h;cases h}|some sz=>{cases g:bF P e' with|none=>{rw[d,g]at h;cases h}|some z=>{rw[d,g]at h;dsimp only at h⊢;split at h;{rename_i j;simp only[el,adq]at h;obtain⟨rfl,rfl,rfl⟩:=h;rw[eh j,zF];cases nr (fun i=>some (i*sz,sz)) (eo z (c*sz)) a.toList with|none=>rfl|some cs=>{rfl}};{cases h}}}}
def ZD{a:Array (Nat×bn)}{j:Array (Nat×Nat)}{k:Option Nat}{row:bj}(h:stat P (cU t)=some (j,k,row.toArray)):stat P (Instr.build t a)=(match nr (rO j k) row a.toList with|some cs=>some (.agg cs.toArray)|none=>none):=by unfold cU at h;unfold Instr.build;simp only[Bind.bind,AY]at h⊢;cases g:stat P (zeroValue t)with|none=>{rw[g]at h;cases h}|some z=>{rw[g]at h;simp only[ahf]at h⊢;cases d:stat P (underlying t)with|none=>{rw[d]at h;cases h}|some u=>{rw[d]at h;simp only[ahf]at h⊢;cases u with|struct fields=>{simp only[AY]at h⊢;cases b:stat P (fields.mapM fun f=>do pure (f.offset,<-sizeOf f.type))with|none=>{simp only[Bind.bind]at b;rw[b]at h;cases h}|some q=>{simp only[Bind.bind]at b;rw[b]at h;simp only[ahf,pure,stat,el,adq]at h⊢;obtain⟨rfl,rfl,e⟩:=h;rw[e,zF];have c:(fun x=>q[x]?)=rO q none:=rfl;rw[c];cases nr (rO q none) row a.toList with|none=>rfl|some cs=>{rfl}}}|array n elem=>{simp only[AY]at h⊢;cases b:stat P (sizeOf elem)with|none=>{rw[b]at h;cases h}|some q=>{rw[b]at h;simp only[ahf,pure,stat,el,adq]at h⊢;obtain⟨rfl,rfl,e⟩:=h;rw[e,zF];have c:(fun i=>some (i*q,q))=rO #[] (some q):=rfl;rw[c];cases nr (rO #[] (some q)) row a.toList with|none=>rfl|some cs=>{rfl}}}|_=>{cases h}}}
def Qm{a:Nat}{c:Array (Nat×bn)}:mH P T a c=(match eO P T a with|some (e,size,d)=>(match nr (fun i=>some (i*size,size)) d c.toList with|some cs=>if cs.all oneV=true then bind (new (.cells cs e true)) fun b=>ret (.slice (some ⟨b,0,none⟩) a a)else fail|none=>fail)|none=>fail):=by cases h:eO P T a with|some q=>{obtain⟨e,size,d⟩:=q;exact ZH h}|none=>{unfold eO at h;unfold mH;cases g:dj P T with|none=>rfl|some e'=>{rw[g]at h;dsimp only at h⊢;cases j:aW P e' with|none=>rfl|some sz=>{cases k:bF P e' with|none=>rfl|some z=>{rw[j,k]at h;dsimp only at h⊢;split at h;{cases h};{rename_i f;rw[ed f]}}}}}
def Qn{call:FuncId->ahG->AX bn}{d:Option Tmp}{ty:bW}{pos:String}{D:Array Edge}{g:Option (Nat×Bool)}{a:Array (Nat×Operand)}(e:(a.toList.map (·.2)).all Operand.bU=true)(f:(bF P t).isSome=true)(hi:(stat P (cU t)).isSome=true): bA P call ⟨d,.build t a,ty,pos,D,g⟩ tm=(match stat P (cU t)with|some (b,c,row)=>(match nr (rO b c) row.toList (a.toList.map fun p=>(p.1,bo tm p.2))with|some cs=>ret (.agg cs.toArray)|none=>fail)|none=>fail):=by rw[RO e,eh f];cases h:stat P (cU t)with|none=>{rw[h]at hi;cases hi}|some q=>{obtain⟨b,c,row⟩:=q;rw[ZD (row:=row.toList) (by rw[h])];simp only[aeT];cases nr (rO b c) row.toList (a.toList.map fun p=>(p.1,bo tm p.2))with|none=>rfl|some cs=>{rfl}}
end
attribute [simp] nr rO Qn Qm
section
variable{P:c7}{F G:Nat -> Prop}{H:AH}{s:Nat}{T:bW}
def Ed{b:Nat}{Q:bj->AH->Nat->Prop}:Wp F G (readN b o n) H s Q=(match H b with|some (.cells cs _ _)=>F b/\(if o+n<=cs.length then Q ((cs.drop o).take n) H s else False)|_=>False):=by unfold readN;simp only[bH,fV,eW,acr,fM];cases H b with|none=>rfl|some x=>{cases x with|cells cs T wr=>rfl|map j=>{rfl}}
def O8{size:Nat}{Q:bj->AH->Nat->Prop}:Wp F G (kK size (.slice none n c)) H s Q=Q [] H s:=by unfold kK;rw[acr]
def O7{size b:Nat}{Q:bj->AH->Nat->Prop}:Wp F G (kK size (.slice (some ⟨b,o,none⟩) n c)) H s Q=if n=0 then Q [] H s else(match H b with|some (.cells cs _ _)=>F b/\(if o+n*size<=cs.length then Q ((cs.drop o).take (n*size)) H s else False)|_=>False):=by unfold kK;rw[eW,acr,Ed]
def AA(F G:Nat->Prop)(e:bW)(size n m:Nat)(base:Option Addr)(news:bj)(H:AH)(s:Nat)(Q:bn->AH->Nat->Prop):Prop:=
 match base with
 |none=>if n=0 then Q (.slice (some ⟨s,0,none⟩) m m) (aG H s (some (.cells news e true))) (s+1)else False
 |some ⟨b,o,none⟩=>(match H b with|some (.cells cs T' wr)=>F b/\(if wr=true/\T'=e/\o+n*size<=cs.length then G b/\Q (.slice (some ⟨s,0,none⟩) (n+m) (n+m)) (aG (aG H b none) s (some (.cells ((cs.drop o).take (n*size)++news) e true))) (s+1)else False)|_=>False)
 |_=>False
def bM{base i:Option Addr}{l:Nat}(hi:(rP P T).isSome=true):Wp F G (j9 P T T (.slice base n cap) (.slice i m l)) H s Q=(match rP P T with|some (e,size,c)=>if m=0 then Q (.slice base n cap) H s else if(n+m)*c<=140737488355328/\n+m<=9223372036854775807 then Wp F G (kK size (.slice i m l)) H s (fun news C s'=>AA F G e size n m base news C s' Q)else False|none=>False):=by cases h:rP P T with|none=>{rw[h]at hi;cases hi}|some q=>{obtain⟨e,size,c⟩:=q;unfold rP at h;unfold j9;cases r:dj P T with|none=>{rw[r]at h;cases h}|some e'=>{rw[r]at h;dsimp only at h⊢;cases d:aW P e' with|none=>{rw[d]at h;cases h}|some sz=>{cases g:bF P e' with|none=>{rw[d,g]at h;cases h}|some z=>{cases t:qx P e' with|none=>{rw[d,g,t]at h;cases h}|some y=>{rw[d,g,t]at h;dsimp only at h⊢;split at h;{rename_i f;simp only[el,adq]at h;obtain⟨rfl,rfl,rfl⟩:=h;obtain⟨f,p⟩:=f;simp only[ne_eq,afy,false_or,p,X1,RP,f,and_true,eW,acr,fM,bH];congr 2;refine nG fun news C s'=>?_;unfold AA;cases base with|none=>simp only[eW,bH,oG,acr,fM]|some a=>{obtain⟨b,o,k⟩:=a;cases k with|none=>{simp only[bH,fV];cases C b with|none=>rfl|some x=>{cases x with|cells cs T wr=>{simp only[eW,bH,nF,oG,acr,fM];by_cases hF:F b;{simp[hF]};{simp[hF]}}|map j=>{rfl}}}|some k=>{simp only[fM]}}};{cases h}}}}}}
end
def eU(F G:Nat->Prop)(s:Nat):Prop:=∀k,s<=k->F k/\G k
def eU.up{s:Nat}(h:eU F G s)(b:s<=s'):eU F G s':=fun k a=>h k (fq b a)
structure Fr(own:List Nat)(H:AH)(s:Nat)(C:AH)(s':Nat):Prop where
 up:s<=s'
 keep:∀k,k<s->k∉own->C k=H k
def Fr.refl(own:List Nat)(H:AH)(s:Nat):Fr own H s H s:=⟨Z,fun _ _ _=>rfl⟩
def Fr.new{own:List Nat}(h:Fr own H s C s'):Fr own H s (aG C s' x) (s'+1):=⟨Nat.le_succ_of_le h.up,fun k a b=>(aH _ _ (by have:=h.up;omega)).trans (h.keep k a b)⟩
def Fr.own{own:List Nat}(h:Fr own H s C s'){b:Nat}(c:b∈own):Fr own H s (aG C b x) s':=⟨h.up,fun k d a=>(aH _ _ (fun e=>a (by rw[e];exact c))).trans (h.keep k d a)⟩
def Fr.trans{own:List Nat}{a b:AH}{e f:Nat}(h:Fr own H s a e)(k:Fr own a e b f):Fr own H s b f:=⟨fq h.up k.up,fun x d c=>(k.keep x (Lq d h.up) c).trans (h.keep x d c)⟩
attribute [simp] Ed O8 O7 AA bM
section
variable{P:c7}{F G:Nat -> Prop}{H:AH}{s:Nat}{T:bW}
def Au(P:c7)(F:Nat->Prop)(a:Option Addr)(size:Nat)(l h:Int)(H:AH)(s:Nat)(Q:bn->AH->Nat->Prop):Prop:=
 match a with
 |none=>Q (.slice none 0 0) H s
 |some ⟨b,o,none⟩=>(match H b with|some (.cells cs T' wr)=>F b/\(if aW P T'=some size then Q (.slice (some ⟨b,o+l.toNat*size,none⟩) (h.toNat-l.toNat) (h.toNat-l.toNat)) H s else False)|_=>False)
 |_=>False
def jx{c:Nat}{lo hi:Option bn}:Wp F G (ij P T (.slice a c cap) lo hi none) H s Q=(match dj P T with|some e=>(match aW P e,df lo 0,df hi c with|some size,some l,some h=>if 0<=l/\l<=h/\h<=c then Au P F a size l h H s Q else False|_,_,_=>False)|none=>False):=by unfold ij;dsimp only;cases dj P T with|none=>exact fM|some e=>{dsimp only;cases aW P e with|none=>exact fM|some size=>{cases df lo 0 with|none=>exact fM|some l=>{cases df hi c with|none=>exact fM|some h=>{dsimp only;rw[eW,fM];congr 1;unfold Au;cases a with|none=>exact acr|some a=>{obtain⟨b,o,k⟩:=a;cases k with|some k=>exact fM|none=>{simp only[bH,fV,eW,acr,fM];cases H b with|none=>rfl|some x=>{cases x with|cells cs T wr=>rfl|map j=>{rfl}}}}}}}}
def look0q(z:bn)(ok:Bool)(r:Option bn):bn:=
 match r with
 |some v=>if ok=true then .tuple #[v,.bool true]else v
 |none=>if ok=true then .tuple #[z,.bool false]else z
def qC{z:bn}{m:Option Nat}{k:bn}{ok:Bool}(d:iH P T=some (kt,et))(a:bF P et=some z)(c:dI P kt k=true):Wp F G (nC P T (.map m) k ok) H s Q=(match m with|none=>Q (look0q z ok none) H s|some b=>(match H b with|some (.map j)=>F b/\(if j.all (fun p=>dI P kt p.1)=true then Q (look0q z ok (iZ k j)) H s else False)|_=>False)):=by unfold nC;rw[d];dsimp only;rw[eh c];cases m with|none=>{dsimp only;rw[a];exact acr}|some b=>{simp only[bH,tU];cases H b with|none=>rfl|some x=>{cases x with|cells cs T wr=>rfl|map j=>{dsimp only;rw[eW,fM,a];congr 2;cases iZ k j with|none=>exact acr|some v=>{exact acr}}}}
def AJ{b:Nat}{k:bn}(c:iH P T=some (kt,et))(a:dI P kt k=true):Wp F G (pD P T (.map (some b)) k v) H s Q=(match H b with|some (.map j)=>F b/\(if j.all (fun p=>dI P kt p.1)=true then G b/\Q undef (aG H b (some (.map (jD k v j)))) s else False)|_=>False):=by unfold pD;rw[c];dsimp only;rw[eh a];simp only[bH,tU];cases H b with|none=>rfl|some x=>{cases x with|cells cs T wr=>rfl|map j=>{dsimp only;simp only[eW,bH,nF,acr,fM];by_cases hF:F b<;>simp[hF]}}
def Ef{b:Nat}{k:bn}(c:iH P T=some (kt,et))(a:dI P kt k=true):Wp F G (pE P T (.map (some b)) k) H s Q=(match H b with|some (.map j)=>F b/\(if j.all (fun p=>dI P kt p.1)=true then G b/\Q (.tuple #[]) (aG H b (some (.map (mw k j)))) s else False)|_=>False):=by unfold pE;rw[c];dsimp only;rw[eh a];simp only[bH,tU];cases H b with|none=>rfl|some x=>{cases x with|cells cs T wr=>rfl|map j=>{dsimp only;simp only[eW,bH,nF,acr,fM];by_cases hF:F b<;>simp[hF]}}
end
attribute [simp] jx Au
def Fr.comp{own:List Nat}{c:AH}{a:Nat}(h:Fr own c a H s)(k:Fr L H s C s')(f:∀b,b∈L->a<=b\/b∈own):Fr own c a C s':=
 ⟨fq h.up k.up,fun b d e=>(k.keep b (Lq d h.up) (fun g=>(f b g).elim (fun h=>V) e)).trans (h.keep b d e)⟩
def Bd.new(h:Bd H s):Bd (aG H s x) (s+1):=fun k a=>(aH _ _ V).trans (h k V)
def Bd.set{b:Nat}(h:Bd H s)(c:b<s):Bd (aG H b x) s:=fun k a=>(aH _ _ V).trans (h k a)
def c8(H:AH)(T:bW)(k:Nat)(v:bn)(rows:List (bj))(L:List Nat):Prop:=
 (∀r,r∈rows->r.length=k)/\
  ((v=.slice none 0 0/\rows=[]/\L=[])\/
   ∃d o cs,v=.slice (some ⟨d,o,none⟩) rows.length rows.length/\L=[d]/\H d=some (.cells cs T true)/\o+rows.length*k<=cs.length/\(cs.drop o).take (rows.length*k)=rows.flatten)
def c8.keep(h:c8 H T k v rows L)(f:∀b,b∈L->C b=H b):c8 C T k v rows L:=by obtain⟨a,h|⟨d,o,cs,rfl,rfl,e,g,c⟩⟩:=h;{exact⟨a,.inl h⟩};{exact⟨a,.inr ⟨d,o,cs,rfl,rfl,by rw[f d J];exact e,g,c⟩⟩}
def c8.nil(H:AH)(T:bW)(k:Nat):c8 H T k (.slice none 0 0) [] []:=⟨J,.inl ⟨rfl,rfl,rfl⟩⟩
def j6:∀{rows:List (bj)},(∀r,r∈rows->r.length=k)->rows.flatten.length=rows.length*k
 |[],_=>J
 |r::t,h=>by
  have a:=h r J;have b:=j6 (rows:=t) (fun x c=>h x (by simp[c]));simp only[aek,dw,hH,a,b,ady,afe];omega
def c8.made(a:∀r,r∈rows->r.length=k)(b:H d=some (.cells rows.flatten T true)):c8 H T k (.slice (some ⟨d,0,none⟩) rows.length rows.length) rows [d]:=
 ⟨a,.inr ⟨d,0,_,rfl,rfl,b,by rw[j6 a];omega,by simp[wm,j6 a]⟩⟩
def c8.len(h:c8 H T k v rows L):∃a,v=.slice a rows.length rows.length/\(a=none->rows=[]):=by obtain⟨f,⟨rfl,rfl,rfl⟩|⟨d,o,cs,rfl,rfl,c,e,b⟩⟩:=h;{exact⟨none,rfl,fun _=>rfl⟩};{exact⟨_,rfl,fun h=>by cases h⟩}
section
variable{P:c7}{F G:Nat -> Prop}{H:AH}{s:Nat}{T e:bW}{k y:Nat}{v w:bn}{rows news:List (bj)}{L M:List Nat}
def c8.cells(h:c8 H T k v rows L)(hF:∀b,b∈L->F b){Q:bj->AH->Nat->Prop}(a:Q rows.flatten H s):Wp F G (kK k v) H s Q:=by obtain⟨i,⟨rfl,rfl,rfl⟩|⟨d,o,cs,rfl,rfl,f,g,e⟩⟩:=h;{simpa using a};{simp[f,hF d J,g,e];split;{rename_i c;subst c;simpa using a};{exact a}}
def c8.append(h:c8 H e k v rows L)(g:c8 H e k w news M)(hi:rP P T=some (e,k,y))(i:∀b,b∈L->F b/\G b)(l:∀b,b∈M->F b)(m:∀b,b∈L->b<s)(f:(rows.length+news.length)*y<=140737488355328/\rows.length+news.length<=9223372036854775807)(n:∀C s' v' A,Fr L H s C s'->c8 C e k v' (rows++news) A->(∀b,b∈A->(b∈L\/s<=b)/\(b∈L\/b<s'))->(news=[]->v'=v)->Q v' C s'):Wp F G (j9 P T T v w) H s Q:=by obtain⟨a,rfl,R⟩:=h.len;obtain⟨O,rfl,u⟩:=g.len;rw[bM (by rw[hi];rfl),hi];dsimp only;split;{rename_i j;have:news=[]:=HV.1 j;subst this;exact n _ _ _ L (Fr.refl _ _ _) (by simpa using h) (fun b f=>⟨.inl f,.inl f⟩) (fun _=>rfl)};{rename_i j;have p:news≠[]:=fun e=>j (by rw[e];rfl);refine g.cells l ?_;have x:news.flatten.length=news.length*k:=j6 g.1;have q:∀r,r∈rows++news->r.length=k:=fun r D=>(my.1 D).elim (h.1 r) (g.1 r);unfold AA;obtain⟨D,⟨z,rfl,rfl⟩|⟨d,o,cs,z,rfl,K,N,E⟩⟩:=h;{cases z;simp only[RT,rq];have:=c8.made (H:=aG H s (some (.cells news.flatten e true))) (d:=s) g.1 (bX _ _ _);exact n _ _ _ [s] (Fr.refl _ _ _).new this (fun b f=>by simp at f;subst f;exact⟨.inr Z,.inr (X3 _)⟩) (fun h=>absurd h p)};{cases z;simp only[K,(i d J).1,(i d J).2,true_and,N,afz,rq,E];have c:d<s:=m d J;have B:=c8.made (H:=aG (aG H d none) s (some (.cells (rows++news).flatten e true))) (d:=s) q (bX _ _ _);rw[dw]at B;have t:rows.flatten++news.flatten=(rows++news).flatten:=J;rw[t];exact n _ _ _ [s] ((Fr.refl _ _ _).own J).new B (fun b f=>by simp at f;subst f;exact⟨.inr Z,.inr (X3 _)⟩) (fun h=>absurd h p)}}
def CQ{k:Nat}:∀{rows:List (bj)}(hr:∀r,r∈rows->r.length=k){i j:Nat}(hi:i<rows.length)(hj:j<k),rows.flatten[i*k+j]? =(rows[i])[j]?
 |[],_,i,j,hi,_=>absurd hi J
 |r::t,hr,0,j,hi,hj=>by
  have a:=hr r J;simp only[aek,Nat.zero_mul,ahH,List.getElem_cons_zero];rw[z6 V]
 |r::t,hr,i+1,j,hi,hj=>by
  have a:=hr r J;simp only[aek,List.getElem_cons_succ];rw[aho (by rw[a,ady];omega),a,show(i+1)*k+j-k=i*k+j by rw[ady];omega];exact CQ (fun x b=>hr x (by simp[b])) (by simpa using hi) hj
def c8.at(h:c8 H T k v rows L)(hi:i<rows.length):∃d o cs,v=.slice (some ⟨d,o,none⟩) rows.length rows.length/\L=[d]/\H d=some (.cells cs T true)/\o+i*k+k<=cs.length/\(cs.drop (o+i*k)).take k=rows[i]:=by obtain⟨b,⟨rfl,rfl,rfl⟩|⟨d,o,cs,rfl,rfl,e,f,c⟩⟩:=h;{simp at hi};{have q:i*k+k<=rows.length*k:=by{have:(i+1)*k<=rows.length*k:=adg _ hi;rw[ady,afe]at this;exact this};refine⟨d,o,cs,rfl,rfl,e,V,?_⟩;have p:(rows[i]).length=k:=b _ (wk _);apply ahp;intro j;by_cases a:j<k;{rw[R1,eh a,NL,<-CQ b hi a,<-c,R1,eh V,NL];congr 1;omega};{rw[wy (by simp;omega),wy V]}}
end
def eM(t:bm):bj:=t.data.toList.map fun c=>.int .u8 c.toNat
def iz(b:Nat)(v:bn):Bool:=
 match v with
 |.pointer none=>true
 |.pointer (some ⟨c,0,none⟩)=>c==b
 |_=>false
def kM(b:Nat)(v:bn)(n:Nat):AX bn:=
 AX.bind (AX.cells b) fun x=>if x.2.2=true/\x.2.1=cr/\x.1.length=2 then AX.bind (AX.set b (some (.cells [.pointer (some ⟨b,0,none⟩),v] cr true))) (fun _=>AX.ret (.tuple #[.int .i64 n,.nilIface]))else AX.fail
def pK(args:ahG):AX bn:=
 match args.toList with
 |[.pointer (some ⟨b,0,none⟩),.string t]=>AX.bind (AX.cells b) fun x=>(match x.1 with
  |[p,.slice none 0 0]=>if iz b p=true/\x.2.2=true/\x.2.1=cr/\t.size<=140737488355328 then(if t.size=0 then kM b (.slice none 0 0) 0 else AX.bind (AX.new (.cells (eM t) 5 true)) fun d=>kM b (.slice (some ⟨d,0,none⟩) t.size t.size) t.size)else AX.fail
  |[p,.slice (some ⟨d,0,none⟩) n m]=>if iz b p=true/\x.2.2=true/\x.2.1=cr/\d≠b then AX.bind (AX.cells d) fun y=>if y.2.2=true/\y.2.1=5/\y.1.length=n/\0<n/\n=m/\n+t.size<=140737488355328 then AX.bind (AX.set d none) (fun _=>AX.bind (AX.new (.cells (y.1++eM t) 5 true)) fun d2=>kM b (.slice (some ⟨d2,0,none⟩) (n+t.size) (n+t.size)) t.size)else AX.fail else AX.fail
  |_=>AX.fail)
 |_=>AX.fail
def oe:bj->Option (af)
 |[]=>some []
 |.int .u8 n::r=>if 0<=n/\n<256 then(oe r).map (UInt8.ofNat n.toNat:: ·)else none
 |_::_=>none
def pP(args:ahG):AX bn:=
 match args.toList with
 |[.pointer (some ⟨b,0,none⟩)]=>AX.bind (AX.cells b) fun x=>(match x.1 with
  |[p,.slice none 0 0]=>if iz b p=true/\x.2.2=true/\x.2.1=cr then AX.ret (.string ⟨#[]⟩)else AX.fail
  |[p,.slice (some ⟨d,0,none⟩) n m]=>if iz b p=true/\x.2.2=true/\x.2.1=cr/\d≠b then AX.bind (AX.cells d) fun y=>if y.2.2=true/\y.2.1=5/\y.1.length=n/\0<n/\n=m then AX.bind (AX.set d none) (fun _=>match oe y.1 with
   |some l=>AX.ret (.string ⟨l.toArray⟩)
   |none=>AX.fail)else AX.fail else AX.fail
  |_=>AX.fail)
 |_=>AX.fail
def Cf{b:Nat}:LS (kM b v n):=LS.qP fun x=>LS.ret _
def Tl(xs:ahG):LS (pK xs):=by unfold pK;split;{refine LS.bind (jY _) fun x=>?_;split;{exact LS.ite (LS.ite (Cf) (LS.bind (LS.new _) fun d=>Cf)) LS.fail};{exact LS.ite (LS.qP fun y=>LS.bind (LS.new _) fun d=>Cf) LS.fail};{exact LS.fail}};{exact LS.fail}
def Tm(xs:ahG):LS (pP xs):=by unfold pP;split;{refine LS.bind (jY _) fun x=>?_;split;{exact LS.ite (LS.ret _) LS.fail};{refine LS.ite (LS.qP fun y=>?_) LS.fail;split;{exact LS.ret _};{exact LS.fail}};{exact LS.fail}};{exact LS.fail}
def pQ:bj->Option (List bm)
 |[]=>some []
 |.string x::r=>(pQ r).map (x:: ·)
 |_::_=>none
def n7(args:ahG):AX bn:=
 match args.toList with
 |[.slice none 0 0,.string _]=>AX.ret (.string ⟨#[]⟩)
 |[.slice (some ⟨d,o,none⟩) n m,.string sep]=>AX.bind (AX.cells d) fun z=>(match pQ ((z.1.drop o).take n)with
  |some l=>if o+n<=z.1.length/\n=m/\0<n/\n<=140737488355328/\(Lib.join (l.map (·.data.toList)) sep.data.toList).length<=140737488355328 then AX.ret (.string ⟨(Lib.join (l.map (·.data.toList)) sep.data.toList).toArray⟩)else AX.fail
  |none=>AX.fail)
 |_=>AX.fail
def Ty(xs:ahG):LS (n7 xs):=by unfold n7;split;{exact LS.ret _};{refine LS.bind (jY _) fun z=>?_;split;{exact LS.ite (LS.ret _) LS.fail};{exact LS.fail}};{exact LS.fail}
structure acu where
 p:bn->AH->(Nat->Prop)->Prop
 loc:∀{v:bn}{H C:AH}{D:Nat->Prop},p v H D->(∀b,D b->C b=H b)->p v C D
structure aa3 where
 k:bn
 X:acu
def Holds:List aa3->AH->(Nat->Prop)->Prop
 |[],H,D=>∀b,¬D b
 |o::r,H,D=>∃a c:Nat->Prop,(∀b,a b->¬c b)/\(∀b,D b↔(a b\/c b))/\o.X.p o.k H a/\Holds r H c
def Holds.loc:∀{P:List aa3}{H C:AH}{D:Nat->Prop},Holds P H D->(∀b,D b->C b=H b)->Holds P C D
 |[],H,C,D,h,_=>h
 |o::r,H,C,D,⟨D1,D2,a,b,c,d⟩,k=>⟨D1,D2,a,b,o.X.loc c fun x e=>k x ((b x).2 (.inl e)),Holds.loc d fun x e=>k x ((b x).2 (.inr e))⟩
def Holds.iff:∀{P:List aa3}{H:AH}{D a:Nat->Prop},Holds P H D->(∀b,D b↔a b)->Holds P H a:=by intro P H D a h e;have:D=a:=funext fun b=>propext (e b);subst this;exact h
def Holds.swap{o q:aa3}{r:List aa3}{D:Nat->Prop}(h:Holds (o::q::r) H D):Holds (q::o::r) H D:=by obtain⟨g,k,a,b,c,E1,E2,i,f,j,z⟩:=h;refine⟨E1,fun x=>g x\/E2 x,fun x e d=>?_,fun x=>?_,j,g,E2,fun x e d=>a x e ((f x).2 (.inr d)),fun x=>ac6,c,z⟩;{rcases d with d|d;{exact a x d ((f x).2 (.inl e))};{exact i x e d}};{rw[b,f];constructor;{rintro(h|h|h);{exact .inr (.inl h)};{exact .inl h};{exact .inr (.inr h)}};{rintro(h|h|h);{exact .inr (.inl h)};{exact .inl h};{exact .inr (.inr h)}}}
def Holds.perm{P A:List aa3}(e:P.Perm A):∀{H:AH}{D:Nat->Prop},Holds P H D->Holds A H D:=by induction e with|nil=>{intro H D h;exact h}|cons x _ ih=>{rintro H D ⟨f,g,a,b,c,d⟩;exact⟨f,g,a,b,c,ih d⟩}|swap x y l=>{intro H D h;exact h.swap}|trans _ _ h1 h2=>{intro H D h;exact h2 (h1 h)}
def Holds.append:∀{P R:List aa3}{H:AH}{D:Nat->Prop},Holds (P++R) H D->∃f g:Nat->Prop,(∀b,f b->¬g b)/\(∀b,D b↔(f b\/g b))/\Holds P H f/\Holds R H g
 |[],R,H,D,h=>⟨fun _=>False,D,fun _ h=>h.elim,fun b=>J,fun _ h=>h,h⟩
 |o::r,R,H,D,⟨f,g,a,b,c,d⟩=>by
  obtain⟨E1,E2,k,j,l,z⟩:=Holds.append d;refine⟨fun x=>f x\/E1 x,E2,fun x e i=>?_,fun x=>?_,⟨f,E1,fun x e i=>a x e ((j x).2 (.inl i)),fun x=>ac6,c,l⟩,z⟩
  ·rcases e with e|e
   ·exact a x e ((j x).2 (.inr i))
   ·exact k x e i
  ·rw[b,j];exact or_assoc.symm
def Holds.join:∀{P R:List aa3}{H:AH}{D D1 D2:Nat->Prop},(∀b,D1 b->¬D2 b)->(∀b,D b↔(D1 b\/D2 b))->Holds P H D1->Holds R H D2->Holds (P++R) H D
 |[],R,H,D,D1,D2,a,b,h,k=>k.iff fun x=>by rw[b];constructor;exact .inr;rintro(q|q);exact absurd q (h x);exact q
 |o::r,R,H,D,D1,D2,a,b,⟨E1,E2,a',b',c',z⟩,k=>by
  refine⟨E1,fun x=>E2 x\/D2 x,fun x d c=>?_,fun x=>?_,c',Holds.join (fun x d=>a x ((b' x).2 (.inr d))) (fun x=>ac6) z k⟩
  ·rcases c with c|c
   ·exact a' x d c
   ·exact a x ((b' x).2 (.inl d)) c
  ·rw[b,b'];exact or_assoc
class mK(P:List aa3)(k:bn)(X:outParam acu)(R:outParam (List aa3)):Prop where
 perm:P.Perm (⟨k,X⟩::R)
instance (priority:=2000) lookHere {k:bn} {X:acu} {R:List aa3}:mK (⟨k,X⟩::R) k X R:=⟨.refl _⟩
instance (priority:=1000) lookThere {k:bn} {X:acu} {R R':List aa3} {o:aa3} [h:mK R k X R']:mK (o::R) k X (o::R'):=⟨(h.perm.cons _).trans (.swap _ _ _)⟩
structure Wd where
 Z:Nat->Prop
 H:AH
structure St(F G:Nat->Prop)(H:AH)(s:Nat)(W:Wd)(P:List aa3):Prop where
 bd:Bd H s
 new:eU F G s
 froz:∀b,W.Z b->b<s/\F b/\H b=W.H b
 hold:∃D,Holds P H D/\∀b,D b->b<s/\F b/\G b/\¬W.Z b
def Fz(W:Wd)(v:bn)(X:acu):Prop:=∃D,X.p v W.H D/\∀b,D b->W.Z b
def Wd.le(W a:Wd):Prop:=∀b,W.Z b->a.Z b/\a.H b=W.H b
def Wd.le.refl(W:Wd):W.le W:=fun b h=>⟨h,rfl⟩
def Wd.le.trans{W c d:Wd}(h:W.le c)(k:c.le d):W.le d:=fun b a=>⟨(k b (h b a).1).1,((k b (h b a).1).2).trans (h b a).2⟩
def Fz.up{W d:Wd}{X:acu}(h:Fz W v X)(k:W.le d):Fz d v X:=by obtain⟨D,a,b⟩:=h;exact⟨D,X.loc a fun x c=>(k x (b x c)).2,fun x c=>(k x (b x c)).1⟩
abbrev aa(b:Nat):bn:=.pointer (some ⟨b,0,none⟩)
abbrev jG:bn:=.pointer none
abbrev aJ:bn:=.slice none 0 0
def aE(cs:bj)(T:bW):acu where
 p v H D:=∃b,v=aa b/\H b=some (.cells cs T true)/\∀k,D k↔k=b
 loc:=by
  rintro v H C D⟨b,c,d,a⟩k
  exact⟨b,c,(k b ((a b).2 rfl)).trans d,a⟩
def iu(j:List (bn×bn)):acu where
 p v H D:=∃b,v=.map (some b)/\H b=some (.map j)/\∀k,D k↔k=b
 loc:=by
  rintro v H C D⟨b,c,d,a⟩k
  exact⟨b,c,(k b ((a b).2 rfl)).trans d,a⟩
def be(T:bW)(k:Nat)(rows:List (bj)):acu where
 p v H D:=∃L,c8 H T k v rows L/\∀b,D b↔b∈L
 loc:=by
  rintro v H C D⟨L,c,a⟩k
  exact⟨L,c.keep fun b d=>k b ((a b).2 d),a⟩
def kH(A:α->bn->List aa3)(c:α->Prop):acu where
 p v H D:=∃a,c a/\Holds (A a v) H D
 loc:=by
  rintro v H C D⟨a,b,d⟩k
  exact⟨a,b,d.loc k⟩
section
variable{F G:Nat -> Prop}{H C:AH}{s s':Nat}{W:Wd}{P R:List aa3}{k:bn}{X:acu}
def St.perm(S:St F G H s W P){A:List aa3}(e:P.Perm A):St F G H s W A:=by obtain⟨D,h,k⟩:=S.hold;exact⟨S.bd,S.new,S.froz,D,h.perm e,k⟩
def St.ae(k:bn)(S:St F G H s W P)[h:mK P k X R]:St F G H s W (⟨k,X⟩::R):=S.perm h.perm
def St.cF{c d:acu}{a b:List aa3}(S:St F G H s W P)[e:mK P k1 c a][f:mK a k2 d b]:St F G H s W (⟨k1,c⟩::⟨k2,d⟩::b):=S.perm (e.perm.trans (f.perm.cons _))
def St.jN{k3:bn}{d e f:acu}{a b c:List aa3}(S:St F G H s W P)[g:mK P k1 d a][h:mK a k2 e b][i:mK b k3 f c]:St F G H s W (⟨k1,d⟩::⟨k2,e⟩::⟨k3,f⟩::c):=S.perm (g.perm.trans ((h.perm.trans (i.perm.cons _)).cons _))
def St.drop{o:aa3}(S:St F G H s W (o::R)):St F G H s W R:=by obtain⟨D,⟨g,e,a,b,c,d⟩,k⟩:=S.hold;exact⟨S.bd,S.new,S.froz,e,d,fun x f=>k x ((b x).2 (.inr f))⟩
def St.az(k:bn)(S:St F G H s W P)[h:mK P k X R]:St F G H s W R:=(S.ae k).drop
def St.same(S:St F G H s W P)(c:∀b,b<s->C b=H b)(d:s<=s')(a:Bd C s'):St F G C s' W P:=by obtain⟨D,h,k⟩:=S.hold;exact⟨a,S.new.up d,fun b a=>by have:=S.froz b a;exact⟨V,this.2.1,(c b this.1).trans this.2.2⟩,D,h.loc fun b a=>c b (k b a).1,fun b a=>⟨Lq (k b a).1 d,(k b a).2⟩⟩
def St.fr0(S:St F G H s W P)(f:Fr [] H s C s')(a:Bd C s'):St F G C s' W P:=S.same (fun b a=>f.keep b a J) f.up a
def St.skip(S:St F G H s W P)(x:Option AB):St F G (aG H s x) (s+1) W P:=S.same (fun b a=>aH _ _ V) (HT _) S.bd.new
def St.turn{m:acu}(S:St F G H s W (⟨k,X⟩::R))(v:s<=s')(t:Bd C s')(h:∀D:Nat->Prop,X.p k H D->(∀b,D b->b<s/\F b/\G b)->∃f,m.p u C f/\(∀b,f b->(D b\/s<=b)/\b<s')/\∀b,b<s->¬D b->C b=H b):St F G C s' W (⟨u,m⟩::R):=by obtain⟨D,⟨l,i,a,b,c,d⟩,q⟩:=S.hold;have g:∀x,l x->x<s/\F x/\G x/\¬W.Z x:=fun x e=>q x ((b x).2 (.inl e));obtain⟨f,p,j,n⟩:=h l c fun x e=>⟨(g x e).1,(g x e).2.1,(g x e).2.2.1⟩;have r:∀x,i x->x<s:=fun x e=>(q x ((b x).2 (.inr e))).1;refine⟨t,S.new.up v,fun x e=>?_,fun x=>f x\/i x,⟨f,i,fun x e o=>?_,fun x=>ac6,p,d.loc fun x e=>n x (r x e) fun h=>a x h e⟩,fun x e=>?_⟩;{have:=S.froz x e;exact⟨V,this.2.1,(n x this.1 fun h=>(g x h).2.2.2 e).trans this.2.2⟩};{rcases(j x e).1 with h|h;{exact a x h o};{have:=r x o;omega}};{rcases e with e|e;{refine⟨(j x e).2,?_⟩;rcases(j x e).1 with h|h;{exact(g x h).2};{exact⟨(S.new x h).1,(S.new x h).2,fun w=>by have:=(S.froz x w).1;omega⟩}};{have:=q x ((b x).2 (.inr e));exact⟨V,this.2⟩}}
def St.make{e:acu}(S:St F G H s W R)(k:s<=s')(j:Bd C s')(f:∀b,b<s->C b=H b)(h:∃c,e.p u C c/\∀b,c b->s<=b/\b<s'):St F G C s' W (⟨u,e⟩::R):=by obtain⟨D,d,q⟩:=S.hold;obtain⟨c,i,g⟩:=h;refine⟨j,S.new.up k,fun x a=>?_,fun x=>c x\/D x,⟨c,D,fun x a l=>?_,fun x=>ac6,i,d.loc fun x a=>f x (q x a).1⟩,fun x a=>?_⟩;{have:=S.froz x a;exact⟨V,this.2.1,(f x this.1).trans this.2.2⟩};{have:=g x a;have:=(q x l).1;omega};{rcases a with a|a;{have:=g x a;exact⟨this.2,(S.new x this.1).1,(S.new x this.1).2,fun m=>by have:=(S.froz x m).1;omega⟩};{have:=q x a;exact⟨V,this.2⟩}}
def St.as{e:acu}(S:St F G H s W (⟨k,X⟩::R))(h:∀D,X.p k H D->e.p u H D):St F G H s W (⟨u,e⟩::R):=by obtain⟨D,⟨f,g,a,b,c,d⟩,q⟩:=S.hold;exact⟨S.bd,S.new,S.froz,D,⟨f,g,a,b,h _ c,d⟩,q⟩
def St.parts{Q:List aa3}(S:St F G H s W (⟨k,X⟩::R))(h:∀D,X.p k H D->Holds Q H D):St F G H s W (Q++R):=by obtain⟨D,⟨e,f,a,b,c,d⟩,q⟩:=S.hold;exact⟨S.bd,S.new,S.froz,D,Holds.join a b (h _ c) d,q⟩
def St.whole{Q:List aa3}(S:St F G H s W (Q++R))(h:∀D,Holds Q H D->X.p k H D):St F G H s W (⟨k,X⟩::R):=by obtain⟨D,g,q⟩:=S.hold;obtain⟨e,f,a,b,c,d⟩:=g.append;exact⟨S.bd,S.new,S.froz,D,⟨e,f,a,b,h _ c,d⟩,q⟩
def St.opens{A:α->bn->List aa3}{c:α->Prop}(S:St F G H s W (⟨k,kH A c⟩::R)):∃a,c a/\St F G H s W (A a k++R):=by obtain⟨D,⟨g,h,a,b,⟨x,f,e⟩,d⟩,q⟩:=S.hold;exact⟨x,f,S.bd,S.new,S.froz,D,Holds.join a b e d,q⟩
def St.nz{A:α->bn->List aa3}{c:α->Prop}(a:α)(b:c a)(S:St F G H s W (A a k++R)):St F G H s W (⟨k,kH A c⟩::R):=
 S.whole fun D h=>⟨a,b,h⟩
def St.ask{A:Prop}(S:St F G H s W (⟨k,X⟩::R))(h:∀D,X.p k H D->(∀b,D b->b<s/\F b/\G b)->A):A:=by
 obtain⟨D,⟨f,g,a,b,c,d⟩,q⟩:=S.hold;exact h _ c fun x e=>by have:=q x ((b x).2 (.inl e));exact⟨this.1,this.2.1,this.2.2.1⟩
def St.qn{A:Prop}(S:St F G H s W P)(f:Fz W k X)(h:∀D,X.p k H D->(∀b,D b->b<s/\F b)->A):A:=by obtain⟨D,a,b⟩:=f;exact h D (X.loc a fun x c=>(S.froz x (b x c)).2.2) fun x c=>⟨(S.froz x (b x c)).1,(S.froz x (b x c)).2.1⟩
def St.freeze(S:St F G H s W (⟨k,X⟩::R)):∃f,W.le f/\Fz f k X/\St F G H s f R:=by obtain⟨D,⟨h,i,a,b,c,d⟩,q⟩:=S.hold;refine⟨⟨fun x=>W.Z x\/h x,H⟩,fun x e=>⟨.inl e,(S.froz x e).2.2⟩,⟨h,c,fun x e=>.inr e⟩,S.bd,S.new,fun x e=>?_,i,d,fun x e=>?_⟩;{rcases e with e|e;{have:=S.froz x e;exact⟨this.1,this.2.1,rfl⟩};{have:=q x ((b x).2 (.inl e));exact⟨this.1,this.2.1,rfl⟩}};{have:=q x ((b x).2 (.inr e));refine⟨this.1,this.2.1,this.2.2.1,?_⟩;rintro(g|g);{exact this.2.2.2 g};{exact a x g e}}
def lent(F:Nat->Prop)(H:AH)(s:Nat):Wd:=⟨fun b=>b<s/\F b,H⟩
def St.ia(S:St F G H s W P)(d:∀b,b<s->C b=H b)(e:s<=s')(c:Bd C s')(hF:∀b,b<s->F b->K b)(a:eU K E s'):St K E C s' (lent F H s) []:=
 ⟨c,a,fun b h=>⟨Lq h.1 e,hF b h.1 h.2,d b h.1⟩,fun _=>False,fun _ h=>h,fun _ h=>h.elim⟩
def St.lent(S:St F G H s W (⟨k,X⟩::R)):Fz (lent F H s) k X:=by obtain⟨D,⟨e,g,a,b,c,d⟩,q⟩:=S.hold;exact⟨e,c,fun x f=>by have:=q x ((b x).2 (.inl f));exact⟨this.1,this.2.1⟩⟩
def St.oa(S:St F G H s W P)(f:Fz W k X):Fz (Go.Proofs.YtlkceignfhnpoaaGreatDoor.lent F H s) k X:=by obtain⟨D,a,b⟩:=f;exact⟨D,X.loc a fun x c=>(S.froz x (b x c)).2.2,fun x c=>⟨(S.froz x (b x c)).1,(S.froz x (b x c)).2.1⟩⟩
def St.beside{g:Wd}{A:List aa3}(S:St F G H s W P)(i:∀b,b<s->F b->C b=H b)(l:s<=s')(f:St K E C s' g A)(k:∀b,K b->E b->¬g.Z b->s<=b):St F G C s' W (A++P):=by obtain⟨D,d,q⟩:=S.hold;obtain⟨e,z,c⟩:=f.hold;have p:∀x,e x->s<=x:=fun x a=>k x (c x a).2.1 (c x a).2.2.1 (c x a).2.2.2;have j:∀x,e x->¬D x:=fun x a m=>by{have:=p x a;have:=(q x m).1;omega};refine⟨f.bd,S.new.up l,fun x a=>?_,fun x=>e x\/D x,Holds.join j (fun x=>ac6) z (d.loc fun x a=>i x (q x a).1 (q x a).2.1),fun x a=>?_⟩;{have:=S.froz x a;exact⟨V,this.2.1,(i x this.1 this.2.1).trans this.2.2⟩};{rcases a with a|a;{have h:=p x a;exact⟨(c x a).1,(S.new x h).1,(S.new x h).2,fun n=>by have:=(S.froz x n).1;omega⟩};{have:=q x a;exact⟨V,this.2⟩}}
def St.calm{e:Wd}{A:List aa3}(S:St F G H s W P)(g:s<=s')(c:(Go.Proofs.YtlkceignfhnpoaaGreatDoor.lent F H s).le e)(d:St F E C s' e A):St F G C s' W (A++P):=
 S.beside (fun b f a=>(d.froz b (c b ⟨f,a⟩).1).2.2.trans (c b ⟨f,a⟩).2) g d fun b a _ i=>afF fun h=>i (c b ⟨h,a⟩).1
def St.owns{c:Wd}{A:List aa3}(S:St F G H s W P)(f:∀b,b<s->C b=H b)(h:s<=s')(a:St K E C s' c A)(g:∀b,E b->s<=b):St F G C s' W (A++P):=
 S.beside (fun b d _=>f b d) h a fun b _ e _=>g b e
def Mf{α:Type}{m:AX α}{Q:α->AH->Nat->Prop}(g:LS m)(w:Wp F G m H s (fun v C s'=>(∀b,b<s->¬G b->C b=H b)->Q v C s')):Wp F G m H s Q:=by obtain⟨o,e,c,a,d⟩:=w;refine⟨o,e,c,a,d fun b i f=>(g.loc _ _ _ e).keep b ?_⟩;rintro(h|h);{exact f (a b h)};{omega}
section
variable{b c:Nat}{cs h:bj}{T:bW}{j kv':List (bn × bn)}
def St.cell(S:St F G H s W (⟨aa b,aE cs T⟩::R)):H b=some (.cells cs T true)/\F b/\G b/\b<s:=by refine S.ask ?_;rintro D⟨e,a,c,d⟩q;cases a;have:=q b ((d b).2 rfl);exact⟨c,this.2.1,this.2.2,this.1⟩
def St.set(S:St F G H s W (⟨aa b,aE cs T⟩::R))(h:bj):St F G (aG H b (some (.cells h T true))) s W (⟨aa b,aE h T⟩::R):=by have f:=S.cell.2.2.2;refine S.turn Z (S.bd.set f) ?_;rintro D⟨g,d,i,c⟩q;cases d;exact⟨D,⟨b,rfl,bX _ _ _,c⟩,fun x a=>⟨.inl a,(q x a).1⟩,fun x _ a=>aH _ _ fun e=>a ((c x).2 e)⟩
def St.alloc(S:St F G H s W R)(cs:bj)(T:bW):St F G (aG H s (some (.cells cs T true))) (s+1) W (⟨aa s,aE cs T⟩::R):=
 S.make (HT _) S.bd.new (fun x a=>aH _ _ V) ⟨fun x=>x=s,⟨s,rfl,bX _ _ _,fun _=>ac6⟩,fun x a=>V⟩
def St.qh(S:St F G H s W (⟨.map (some b),iu j⟩::R)):H b=some (.map j)/\F b/\G b/\b<s:=by refine S.ask ?_;rintro D⟨e,a,c,d⟩q;cases a;have:=q b ((d b).2 rfl);exact⟨c,this.2.1,this.2.2,this.1⟩
def St.mset(S:St F G H s W (⟨.map (some b),iu j⟩::R))(kv':List (bn×bn)):St F G (aG H b (some (.map kv'))) s W (⟨.map (some b),iu kv'⟩::R):=by have f:=S.qh.2.2.2;refine S.turn Z (S.bd.set f) ?_;rintro D⟨g,d,h,c⟩q;cases d;exact⟨D,⟨b,rfl,bX _ _ _,c⟩,fun x a=>⟨.inl a,(q x a).1⟩,fun x _ a=>aH _ _ fun e=>a ((c x).2 e)⟩
def St.HH(S:St F G H s W R)(j:List (bn×bn)):St F G (aG H s (some (.map j))) (s+1) W (⟨.map (some s),iu j⟩::R):=
 S.make (HT _) S.bd.new (fun x a=>aH _ _ V) ⟨fun x=>x=s,⟨s,rfl,bX _ _ _,fun _=>ac6⟩,fun x a=>V⟩
def St.ne{f:bj}{T2:bW}(S:St F G H s W (⟨aa b,aE cs T⟩::R)){j:List aa3}[h:mK R (aa c) (aE f T2) j]:b≠c:=by obtain⟨D,⟨n,o,a,e,⟨r,i,v,m⟩,d⟩,q⟩:=S.hold;obtain⟨E1,E2,p,k,⟨t,g,u,l⟩,z⟩:=d.perm h.perm;dsimp only at i g;cases i;cases g;rintro rfl;exact a b ((m b).2 rfl) ((k b).2 (.inl ((l b).2 rfl)))
end
section
variable{T e:bW}{n y:Nat}{v w:bn}{rows news:List (bj)}
def St.mU(S:St F G H s W (⟨v,be T n rows⟩::R)):∃a,v=.slice a rows.length rows.length/\(a=none->rows=[]):=by refine S.ask ?_;rintro D⟨L,h,_⟩_;exact h.len
def St.rsl(S:St F G H s W (⟨v,be T n rows⟩::R)):∃a l m,v=.slice a l m:=by obtain⟨a,rfl,_⟩:=S.mU;exact⟨_,_,_,rfl⟩
def St.cK(S:St F G H s W (⟨v,be T n rows⟩::R)):∃a,v=.slice a rows.length rows.length:=by obtain⟨a,h,_⟩:=S.mU;exact⟨a,h⟩
def St.row(S:St F G H s W (⟨.slice a l m,be T n rows⟩::R))(hi:i<rows.length):∃d o cs,a=some ⟨d,o,none⟩/\H d=some (.cells cs T true)/\F d/\G d/\d<s/\o+i*n+n<=cs.length/\(cs.drop (o+i*n)).take n=rows[i]:=by refine S.ask ?_;rintro D⟨L,h,j⟩q;obtain⟨d,o,cs,b,c,e,f,g⟩:=h.at hi;have:=q d ((j d).2 (by rw[c];simp));cases b;exact⟨d,o,cs,rfl,e,this.2.1,this.2.2,this.1,f,g⟩
def jj{x:bn}{k:Nat}(h:(cs.drop k).take 1=[x]):cs[k]? =some x:=by have:=congrArg (fun l=>l[0]?) h;simpa using this
def St.bG(S:St F G H s W R)(T:bW)(n:Nat):St F G H s W (⟨aJ,be T n []⟩::R):=
 S.make Z S.bd (fun _ _=>rfl) ⟨fun _=>False,⟨[],c8.nil _ _ _,J⟩,fun _ h=>h.elim⟩
def St.yi(S:St F G H s W R)(rows:List (bj))(a:cs=rows.flatten)(b:∀r,r∈rows->r.length=n):St F G (aG H s (some (.cells cs T true))) (s+1) W (⟨.slice (some ⟨s,0,none⟩) rows.length rows.length,be T n rows⟩::R):=by subst a;exact S.make (HT _) S.bd.new (fun x c=>aH _ _ V) ⟨fun x=>x=s,⟨[s],c8.made b (bX _ _ _),J⟩,fun x c=>V⟩
def St.cb(S:St F G H s W R)(rows:List (bj))(N:Nat)(b:cs=rows.flatten)(c:∀r,r∈rows->r.length=n)(a:rows.length=N):St F G (aG H s (some (.cells cs T true))) (s+1) W (⟨.slice (some ⟨s,0,none⟩) N N,be T n rows⟩::R):=by subst a;exact S.yi rows b c
def St.append{A:c7}(S:St F G H s W (⟨v,be e n rows⟩::⟨w,be e n news⟩::R))(hi:rP A T=some (e,n,y))(i:(rows.length+news.length)*y<=140737488355328/\rows.length+news.length<=9223372036854775807)(hq:∀C s' a l m,St F G C s' W (⟨.slice a l m,be e n (rows++news)⟩::⟨w,be e n news⟩::R)->Q (.slice a l m) C s'):Wp F G (j9 A T T v w) H s Q:=by
 obtain⟨D,⟨D1,B,a,z,⟨L,hL,t⟩,E1,E2,a2,E,⟨M,Y,u⟩,d⟩,q⟩:=S.hold;have own:∀b,b∈L->b<s/\F b/\G b:=fun b i=>by{have:=q b ((z b).2 (.inl ((t b).2 i)));exact⟨this.1,this.2.1,this.2.2.1⟩};have c:∀b,b∈M->b<s/\F b/\G b:=fun b i=>by{have:=q b ((z b).2 (.inr ((E b).2 (.inl ((u b).2 i)))));exact⟨this.1,this.2.1,this.2.2.1⟩};refine cM (Ck) S.bd ?_;refine c8.append hL Y hi (fun b i=>(own b i).2) (fun b i=>(c b i).2.1) (fun b i=>(own b i).1) i fun C s' v' K f h hl hv hu g=>?_
 suffices S':St F G C s' W (⟨v',be e n (rows++news)⟩::⟨w,be e n news⟩::R)from by
  obtain⟨a,l,m,rfl⟩:=S'.rsl;exact hq C s' a l m S'
 have r:∀b,b∈L->¬W.Z b:=fun b i=>(q b ((z b).2 (.inl ((t b).2 i)))).2.2.2;have p:∀b,B b->b<s/\b∉L:=fun b i=>⟨(q b ((z b).2 (.inr i))).1,fun P=>a b ((t b).2 P) i⟩;have k:∀b,B b->C b=H b:=fun b i=>f.keep b (p b i).1 (p b i).2;refine⟨g,S.new.up hu,fun x j=>?_,fun x=>x∈K\/B x,⟨fun x=>x∈K,B,fun x j hy=>?_,fun x=>ac6,⟨K,h,fun x=>ac6⟩,E1,E2,a2,E,⟨M,Y.keep fun b i=>k b ((E b).2 (.inl ((u b).2 i))),u⟩,d.loc fun b i=>k b ((E b).2 (.inr i))⟩,fun x j=>?_⟩;{have N:=S.froz x j;exact⟨V,N.2.1,(f.keep x N.1 fun P=>r x P j).trans N.2.2⟩};{rcases(hl x j).1 with h|h;{exact(p x hy).2 h};{have:=(p x hy).1;omega}};{rcases j with j|j;{have X:=hl x j;rcases X.1 with o|o;{have:=own x o;exact⟨V,this.2.1,this.2.2,r x o⟩};{refine⟨?_,(S.new x o).1,(S.new x o).2,fun hz=>by have:=(S.froz x hz).1;omega⟩;rcases X.2 with O|O;{have:=(own x O).1;omega};{exact O}}};{have:=q x ((z x).2 (.inr j));exact⟨V,this.2⟩}}
end
end
abbrev oC:=List (Nat×(Nat->Prop)×(Nat->Prop))
def dN:oC->Nat->Option ((Nat->Prop)×(Nat->Prop))
 |[],_=>none
 |p::r,i=>if p.1=i then some p.2 else dN r i
def gS:List (Nat×Nat×Nat)->Nat->Option (Nat×Nat)
 |[],_=>none
 |p::r,i=>if p.1=i then some p.2 else gS r i
def wW(x y:Option ((Nat->Prop)×(Nat->Prop)))(p q:Option (Nat×Nat)):Prop:=
 match x,y,p,q with
 |some (Di,Wi),some (Dj,Wj),some (si,ti),some (sj,tj)=>(∀b,Wi b->¬Dj b)/\(∀b,Wj b->¬Di b)/\(∀b,Dj b->¬(si<=b/\b<ti))/\(∀b,Di b->¬(sj<=b/\b<tj))
 |_,_,_,_=>False
def tJ(tbl:oC)(acc:List (Nat×Nat×Nat)):List (Nat×Nat)->Prop
 |[]=>True
 |p::r=>wW (dN tbl p.1) (dN tbl p.2) (gS acc p.1) (gS acc p.2)/\tJ tbl acc r
def Ak(S:List FuncId)(ops:Array Oper)(bad:List (Nat×Nat)):Bool:=
 let bits:=Region.before ops
 ops.toList.zipIdx.all fun g=>ops.toList.zipIdx.all fun f=> !(f.2<g.2)||(bits.getD g.2 0).testBit f.2||fZ S f.1==0||fZ S g.1==0||(Nat.ble (fZ S f.1) 1&&Nat.ble (fZ S g.1) 1)||(nk f.1&&nk g.1)||bad.contains (f.2,g.2)
def oh(x:Option ((Nat->Prop)×(Nat->Prop)))(F:Nat->Prop):Nat->Prop:=match x with|none=>F|some p=>fun b=>F b/\p.1 b
def og(x:Option ((Nat->Prop)×(Nat->Prop)))(G:Nat->Prop):Nat->Prop:=match x with|none=>G|some p=>fun b=>G b/\p.2 b
def KV{x:Option ((Nat->Prop)×(Nat->Prop))}{b:Nat}(h:oh x F b):F b:=by cases x with|none=>exact h|some p=>{exact h.1}
def KU{x:Option ((Nat->Prop)×(Nat->Prop))}{b:Nat}(h:og x G b):G b:=by cases x with|none=>exact h|some p=>{exact h.1}
def nw(P:c7)(call:FuncId->ahG->AX bn)(F G:Nat->Prop)(tbl:oC)(bad:List (Nat×Nat))(ops:Array Oper):List Oper->Nat->ahG->List (Nat×Nat×Nat)->AH->Nat->(ahG->AH->Nat->Prop)->Prop
 |[],i,tm,acc,H,s,Q=>tJ tbl acc bad/\Q tm H s
 |o::r,i,tm,acc,H,s,Q=>Wp (oh (dN tbl i) F) (og (dN tbl i) G) (cP P call ops o tm) H s (fun v C s'=>nw P call F G tbl bad ops r (i+1) (cq tm o.dst v) ((i,s,s')::acc) C s' Q)
section
variable{P:c7}{call:FuncId -> ahG -> AX bn}{F G:Nat -> Prop}{H:AH}{s:Nat}{tbl:oC}{bad:List (Nat × Nat)}{ops:Array Oper}
def Lk:∀{acc:List (Nat×Nat×Nat)}{p:Nat×Nat×Nat},p.1≠i->gS (p::acc) i=gS acc i:=by intro acc p h;simp[gS,h]
structure abc(S:List FuncId)(tbl:oC)(i:Nat)(o:Oper)(f:du):Prop where
 dry:fZ S o=0->f.D=[]/\f.W=[]/\f.s'=f.s
 reads:Nat.ble (fZ S o) 1=true->f.W=[]/\f.s'=f.s
 news:nk o=true->f.D=[]/\f.W=[]
 bound:∀p,dN tbl i=some p->(∀b,b∈f.D->p.1 b)/\∀b,b∈f.W->p.2 b
def Kg(B:acA S call):∀(l:List Oper)(i:Nat)(tm:ahG)(acc:List (Nat×Nat×Nat))(H:AH)(s:Nat)(Q:ahG->AH->Nat->Prop),nw P call F G tbl bad ops l i tm acc H s Q->
 ∃(o:bE (ahG))(d:List du)(a:List (Nat×Nat×Nat)),dy P call ops l tm H s=some ⟨(o.val,d),o.H,o.s,o.D,o.W⟩/\(∀b,b∈o.D->F b)/\(∀b,b∈o.W->G b)/\Q o.val o.H o.s/\tJ tbl a bad/\(∀k,k<i->gS a k=gS acc k)/\
  ∀(j:Nat)(f:du),d[j]? =some f->gS a (i+j)=some (f.s,f.s')/\∃x:Oper,l[j]? =some x/\abc S tbl (i+j) x f
 |[],i,tm,acc,H,s,Q,h=>by
  obtain⟨E,K⟩:=h;exact⟨⟨tm,H,s,[],[]⟩,[],acc,rfl,fun b c=>(by cases c),fun b c=>(by cases c),K,E,fun _ _=>rfl,fun j f M=>by simp at M⟩
 |o::r,i,tm,acc,H,s,Q,h=>by
  unfold nw at h;obtain⟨p,e1,A,C,O⟩:=h;obtain⟨q,d,a,e2,R,T,L,w,t,u⟩:=Kg B r (i+1) _ _ _ _ _ O;have y:∀b,b∈p.D->F b:=fun b c=>KV (A b c);have v:∀b,b∈p.W->G b:=fun b c=>KU (C b c);refine⟨⟨q.val,q.H,q.s,p.D++q.D,p.W++q.W⟩,⟨s,p.s,p.D,p.W⟩::d,a,by simp[dy,j8,AX.bind,AX.ret,e1,e2],fun b c=>?_,fun b c=>?_,L,w,fun k W=>?_,fun j f m=>?_⟩
  ·rcases my.1 c with h|h
   ·exact y b h
   ·exact R b h
  ·rcases my.1 c with h|h
   ·exact v b h
   ·exact T b h
  ·rw[t k V]
   exact Lk (by show i≠k;omega)
  ·cases j with
   |zero=>
    simp at m;subst m;refine⟨by rw[ahs,t i V];simp[gS],o,rfl,?_⟩;refine⟨fun e=>?_,fun e=>yu B e _ _ _ e1,fun N=>B5 N _ _ _ e1,fun X g=>⟨fun b c=>?_,fun b c=>?_⟩⟩
    ·unfold fZ at e
     split at e
     ·cases e
     ·exact C9 e _ _ _ e1
    ·have:=A b c
     rw[ahs]at g;rw[g]at this;exact this.2
    ·have:=C b c
     rw[ahs]at g;rw[g]at this;exact this.2
   |succ j=>
    obtain⟨n,x,D,z⟩:=u j f (by simpa using m);rw[(V:i+1+j=i+(j+1))]at n z;exact⟨n,x,by simpa using D,z⟩
def Lc{acc:List (Nat×Nat×Nat)}:∀{l:List (Nat×Nat)},tJ tbl acc l->∀p,p∈l->wW (dN tbl p.1) (dN tbl p.2) (gS acc p.1) (gS acc p.2)
 |[],_,p,a=>by cases a
 |q::r,h,p,a=>by
  rcases pk.1 a with rfl|a
  ·exact h.1
  ·exact Lc h.2 p a
def mN{id:Nat}{A:List Oper}{Q:gi×ahG->AH->Nat->Prop}(hS:acA S call)(bad:List (Nat×Nat))(tbl:oC)(z:Ak S (List.toArray A) bad=true)(h:nw P call F G tbl bad (List.toArray A) A 0 tm [] H s (fun t C s'=>Q (.normal,t) C s')):Wp F G (bh P call (.region id (List.toArray A) true) tm) H s Q:=by obtain⟨o,k,n,e,hD,hW,hQ,m,_,r⟩:=Kg hS _ _ _ _ _ _ _ h;have d:p8 (Region.before (List.toArray A)) k=true:=by{unfold p8;simp only[eu];rintro⟨g,j⟩hg⟨f,i⟩hf;have w:=sv.1 hg;have u:=sv.1 hf;dsimp only at w u⊢;obtain⟨D,x,hx,E⟩:=r _ _ u;obtain⟨T,y,hy,K⟩:=r _ _ w;rw[ahH]at D T E K;unfold Ak at z;simp only[eu]at z;have:=z (y,j) (sv.2 hy) (x,i) (sv.2 hx);dsimp only at this;by_cases v:i<j;{simp only[Ob,ev,ahr]at this⊢;rcases this with(((((a|a)|a)|a)|a)|a)|a;{simp[v]at a};{exact .inl (.inr a)};{exact .inr (DH (E.dry a))};{exact .inr (DG (K.dry a))};{exact .inr (DI (E.reads a.1) (K.reads a.2))};{exact .inr (DF (E.news a.1) (K.news a.2))};{right;have B:=Lc m (i,j) (ac8.1 a);dsimp only at B;rw[D,T]at B;cases L:dN tbl i with|none=>{rw[L]at B;simp[wW]at B}|some p=>{cases O:dN tbl j with|none=>{rw[L,O]at B;obtain⟨p1,p2⟩:=p;simp[wW]at B}|some q=>{rw[L,O]at B;obtain⟨Di,Wi⟩:=p;obtain⟨Dj,Wj⟩:=q;obtain⟨W,X,Y,h4⟩:=B;have M:=E.bound _ L;have N:=K.bound _ O;have c:∀(l:List Nat)(b:Nat),b∉l->l.contains b=false:=fun l b z=>by{cases hc:l.contains b with|false=>rfl|true=>{exact absurd (ac8.1 hc) z}};unfold du.apart;simp only[Ob,ev,eu,ahc];refine .inr ⟨⟨⟨fun b z=>c _ _ fun R=>W b (M.2 b z) (N.1 b R),fun b z=>c _ _ fun R=>X b (N.2 b z) (M.1 b R)⟩,fun b z=>?_⟩,fun b z=>?_⟩;{have:=Y b (N.1 b z);simp only[ac9,ml,R3];exact fun k1 k2=>this ⟨k1,k2⟩};{have:=h4 b (M.1 b z);simp only[ac9,ml,R3];exact fun k1 k2=>this ⟨k1,k2⟩}}}}};{simp[v]}};unfold bh;rw[bH];refine⟨⟨o.val,o.H,o.s,o.D,o.W⟩,?_,hD,hW,?_⟩;{unfold mG;simp only[rq,AX.bind,e];rw[eh d];simp[AX.ret]};{show Wp F G (ret (gi.normal,o.val)) o.H o.s Q;rw[acr];exact hQ}
variable{B:ahG}{l:List (Nat × bn)}{Q:ahG -> AH -> Nat -> Prop}{d:Option Tmp}{op:Op}{ty:bW}{pos:String}{D:Array Edge}{g:Option (Nat × Bool)}{r:List Oper}{i:Nat}{acc:List (Nat × Nat × Nat)}
@[simp ↓] theorem acq:nw P call F G tbl bad ops (⟨d,op,ty,pos,D,g⟩::r) i (bl B l) acc H s Q=Wp (oh (dN tbl i) F) (og (dN tbl i) G) (cP P call ops ⟨d,op,ty,pos,D,g⟩ (bl B l)) H s (fun v C s'=>nw P call F G tbl bad ops r (i+1) (cq (bl B l) d v) ((i,s,s')::acc) C s' Q):=rfl
@[simp ↓] theorem acm:nw P call F G tbl bad ops (⟨d,op,ty,pos,D,g⟩::r) i (cq (bl B l) (some z) v') acc H s Q=Wp (oh (dN tbl i) F) (og (dN tbl i) G) (cP P call ops ⟨d,op,ty,pos,D,g⟩ (bl B ((z,v')::l))) H s (fun v C s'=>nw P call F G tbl bad ops r (i+1) (cq (bl B ((z,v')::l)) d v) ((i,s,s')::acc) C s' Q):=rfl
@[simp ↓] theorem acp:nw P call F G tbl bad ops (⟨d,op,ty,pos,D,g⟩::r) i (cq (bl B l) none v') acc H s Q=Wp (oh (dN tbl i) F) (og (dN tbl i) G) (cP P call ops ⟨d,op,ty,pos,D,g⟩ (bl B l)) H s (fun v C s'=>nw P call F G tbl bad ops r (i+1) (cq (bl B l) d v) ((i,s,s')::acc) C s' Q):=rfl
@[simp ↓] theorem acn:nw P call F G tbl bad ops [] i (cq (bl B l) (some z) v') acc H s Q=(tJ tbl acc bad/\Q (bl B ((z,v')::l)) H s):=rfl
@[simp ↓] theorem aco:nw P call F G tbl bad ops [] i (cq (bl B l) none v') acc H s Q=(tJ tbl acc bad/\Q (bl B l) H s):=rfl
end
def Z0:oh none F=F:=TC rfl rfl
def ZZ:oh (some p) F=fun b=>F b/\p.1 b:=TC rfl rfl
def Zx:og none G=G:=TC rfl rfl
def Zw:og (some p) G=fun b=>G b/\p.2 b:=TC rfl rfl
def aaC{a d c e:Nat->Prop}{f h g i:Nat}:wW (some (a,d)) (some (c,e)) (some (f,h)) (some (g,i))=((∀b,d b->¬c b)/\(∀b,e b->¬a b)/\(∀b,c b->¬(f<=b/\b<h))/\(∀b,a b->¬(g<=b/\b<i))):=TC rfl rfl
section
variable{P:c7}{call:FuncId -> ahG -> AX bn}{d:Option Tmp}{ty:bW}{pos:String}{D:Array Edge}{g:Option (Nat × Bool)}{tm:ahG}{f:FuncId}
@[simp ↓] theorem abt{x:Operand}(a:Operand.bU x=true):bA P call ⟨d,.makeFunc (.func f) #[] #[x],ty,pos,D,g⟩ tm=ret (.func (.func f) #[] #[bo tm x]):=by rw[BX (by rfl) (by simp[a])];simp
@[simp ↓] theorem abr{x y:Operand}(a:Operand.bU x=true)(b:Operand.bU y=true):bA P call ⟨d,.makeFunc (.func f) #[] #[x,y],ty,pos,D,g⟩ tm=ret (.func (.func f) #[] #[bo tm x,bo tm y]):=by rw[BX (by rfl) (by simp[a,b])];simp
end
attribute [simp] dN gS tJ aaC Z0 ZZ Zx Zw
def Fy:∀(l U M V:bj),l.length=M.length->cu (U++(M++V)) U.length l=U++(l++V)
 |[],U,[],V,_=>rfl
 |[],U,_::_,V,h=>by simp at h
 |_::_,U,[],V,h=>by simp at h
 |v::r,U,m::M,V,h=>by
  have a:(U++((m::M)++V)).set U.length v=(U++[v])++(M++V):=J;show cu ((U++((m::M)++V)).set U.length v) (U.length+1) r=_;rw[a,(J:U.length+1=(U++[v]).length),Fy r (U++[v]) M V (by simpa using h)];simp
def c8.ug(h:c8 H T k (.slice (some ⟨d,o,none⟩) l m) rows L)(i:Nat)(rs:List (bj))(hi:i+rs.length<=rows.length)(b:∀r,r∈rs->r.length=k)(A:H d=some (.cells cs T true)): c8 (aG H d (some (.cells (cu cs (o+i*k) rs.flatten) T true))) T k (.slice (some ⟨d,o,none⟩) l m) (rows.take i++(rs++rows.drop (i+rs.length))) L/\(cu cs (o+i*k) rs.flatten).length=cs.length:=by
 obtain⟨p,⟨e,-,-⟩|⟨z,C,a,e,rfl,v,B,s⟩⟩:=h;{cases e}
 ·cases e
  rw[A]at v;cases v;have j:(rows.take i).flatten.length=i*k:=by{rw[j6 (k:=k) fun r b=>p r (acv b),nl,aht V]};have g:((rows.drop i).take rs.length).flatten.length=rs.flatten.length:=by{rw[j6 (k:=k) fun r b=>p r (adh (acv b)),j6 (k:=k) b,nl,vh,aht V]};have u:rows=rows.take i++((rows.drop i).take rs.length++rows.drop (i+rs.length)):=by{rw[<-List.drop_drop,X2,X2]}
  have x:rows.flatten=(rows.take i).flatten++(((rows.drop i).take rs.length).flatten++(rows.drop (i+rs.length)).flatten):=by
   conv=>lhs;rw[u]
   simp
  have y:cs=(cs.take o++(rows.take i).flatten)++(((rows.drop i).take rs.length).flatten++((rows.drop (i+rs.length)).flatten++(cs.drop o).drop (rows.length*k))):=by
   have e1:cs=cs.take o++((cs.drop o).take (rows.length*k)++(cs.drop o).drop (rows.length*k)):=by{rw[X2,X2]};rw[s,x]at e1
   conv=>lhs;rw[e1]
   simp[ahq]
  have n:(cs.take o++(rows.take i).flatten).length=o+i*k:=by{rw[dw,j,nl,aht V]}
  have w:cu cs (o+i*k) rs.flatten=(cs.take o++(rows.take i).flatten)++(rs.flatten++((rows.drop (i+rs.length)).flatten++(cs.drop o).drop (rows.length*k))):=by
   conv=>lhs;rw[y,<-n]
   exact Fy _ _ _ _ g.symm
  have t:(cu cs (o+i*k) rs.flatten).length=cs.length:=FA _ _ _;have q:(rows.take i++(rs++rows.drop (i+rs.length))).length=rows.length:=by{simp;omega};refine⟨⟨fun r f=>?_,.inr ⟨d,o,_,by rw[q],rfl,bX _ _ _,by rw[q,t];exact B,?_⟩⟩,t⟩;{rcases my.1 f with h|h;{exact p r (acv h)};{rcases my.1 h with h|h;{exact b r h};{exact p r (adh h)}}};{rw[q,w];have c:(cs.take o).length=o:=by{rw[nl,aht V]};rw[ahq,List.drop_append_of_le_length V,aeY (by omega:(cs.take o).length<=o),adu];have e2:(rows.take i).flatten++(rs.flatten++((rows.drop (i+rs.length)).flatten++(cs.drop o).drop (rows.length*k)))=(rows.take i++(rs++rows.drop (i+rs.length))).flatten++(cs.drop o).drop (rows.length*k):=J;rw[e2];refine afO ?_;rw[j6 (k:=k) ?_,q];intro r f;rcases my.1 f with h|h;{exact p r (acv h)};{rcases my.1 h with h|h;{exact b r h};{exact p r (adh h)}}}
section
variable{F G:Nat -> Prop}{H:AH}{s:Nat}{W:Wd}{R:List aa3}{T:bW}{n d o l m:Nat}{rows:List (bj)}
def St.ug(S:St F G H s W (⟨.slice (some ⟨d,o,none⟩) l m,be T n rows⟩::R))(i:Nat)(rs:List (bj))(hi:i+rs.length<=rows.length)(v:∀r,r∈rs->r.length=n)(g:H d=some (.cells cs T true)): St F G (aG H d (some (.cells (cu cs (o+i*n) rs.flatten) T true))) s W (⟨.slice (some ⟨d,o,none⟩) l m,be T n (rows.take i++(rs++rows.drop (i+rs.length)))⟩::R):=by have p:H d≠none:=by{rw[g];simp};refine S.turn Z (S.bd.set (Nat.lt_of_not_le fun h=>p (S.bd d h))) ?_;rintro D⟨L,h,f⟩q;have j:=h;obtain⟨_,⟨c,-,-⟩|⟨z,w,t,c,k,u,-,-⟩⟩:=j;{cases c};{cases c;refine⟨D,⟨L,(h.ug i rs hi v g).1,f⟩,fun b a=>⟨.inl a,(q b a).1⟩,fun b _ a=>aH _ _ fun e=>a ((f b).2 (by rw[k,e];simp))⟩}
def St.setRow(S:St F G H s W (⟨.slice (some ⟨d,o,none⟩) l m,be T n rows⟩::R))(hi:i<rows.length)(r:bj)(b:r.length=n)(a:H d=some (.cells cs T true)): St F G (aG H d (some (.cells (cu cs (o+i*n) r) T true))) s W (⟨.slice (some ⟨d,o,none⟩) l m,be T n (rows.set i r)⟩::R):=by have:=S.ug i [r] (by simp;omega) (by simpa using b) a;rw[(J:[r].flatten=r),show rows.take i++([r]++rows.drop (i+[r].length))=rows.set i r by rw[List.set_eq_take_append_cons_drop,eh hi];rfl]at this;exact this
end
def D8{z:bn}(g:z.cells.toList=zr)(d:0<zr.length)(n:Nat):eo z (n*zr.length)=(List.replicate n zr).flatten:=by have f:∀r,r∈List.replicate n zr->r.length=zr.length:=fun r h=>by{rw[adH h]};have q:z.cells.size=zr.length:=by{rw[<-g];simp};apply ahp;intro j;by_cases m:n=0;{subst m;simp[eo]};by_cases c:j<n*zr.length;{have o:j/zr.length<n:=(Nat.div_lt_iff_lt_mul d).2 c;have a:j%zr.length<zr.length:=adP _ d;have k:j/zr.length*zr.length+j%zr.length=j:=Nat.div_add_mod' j zr.length;have e:=CQ f (i:=j/zr.length) (j:=j%zr.length) (by simpa using o) a;rw[k]at e;rw[e];have p:n*zr.length≠0:=V;unfold eo;simp only[p,RP,q,aeT,z7,agH,List.getElem_replicate];rw[ad5 c];simp only[wo];have b:j%zr.length<z.cells.size:=V;rw[aeD z.cells _ b,ei a];congr 1;have:=congrArg (fun l=>l[j%zr.length]?) g;simp only[aem,ei a,qN b]at this;exact Option.some.inj this};{rw[wy,wy];{rw[j6 f,af7];omega};{unfold eo;simp;omega}}
section
variable{A:c7}{F G:Nat -> Prop}{H:AH}{s:Nat}{W:Wd}{R:List aa3}{T e:bW}{Q:bn -> AH -> Nat -> Prop}
def PZ(h:zr.all eJ=true)(N:Nat):(List.replicate N zr).flatten.all eJ=true:=by rw[eu]at h⊢;intro x a;obtain⟨l,b,a⟩:=List.mem_flatten.1 a;rw[adH b]at a;exact h x a
def St.makeSlice(S:St F G H s W R){z:bn}{by_:Nat}(d:dj A T=some e)(i:aW A e=some zr.length)(m:bF A e=some z)(l:qx A e=some by_)(b:z.cells.toList=zr)(f:0<zr.length)(a:zr.all eJ=true){k u:IntKind}(N:Nat)(c:(by_:Int)*N<=2^47)(j:IntKind.i64.wrap (N:Int)=N)(g:St F G (aG H s (some (.cells (List.replicate N zr).flatten e true))) (s+1) W (⟨.slice (some ⟨s,0,none⟩) N N,be e zr.length (List.replicate N zr)⟩::R)->Q (.slice (some ⟨s,0,none⟩) N N) (aG H s (some (.cells (List.replicate N zr).flatten e true))) (s+1)):Wp F G (ot A T (.int k N) (.int u N)) H s Q:=by unfold ot;simp only[d,i,m,l,afD];rw[eh ⟨trivial,V,j,c⟩,D8 b f N,eh (PZ a N)];simp only[bH,oG,acr];exact g (S.cb (List.replicate N zr) N rfl (fun r h=>by rw[adH h]) J)
end
end Go.Proofs.YtlkceignfhnpoaaGreatDoor
