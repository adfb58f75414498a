/-
  Part of a proof, written small.
-/
import Derived.Test.YtlkceignfhnpoaaGreatDoorS1SASLSOSY39c
set_option linter.all false
set_option maxRecDepth 10000
set_option maxHeartbeats 2000000
open Go.Proofs.Tryz
namespace Go.Proofs.YtlkceignfhnpoaaGreatDoor
open Go
variable{y x:aT}{n K d M s1 s2:Nat}{tk:jc}{X:Option aZ}{m0 O z m3 m4 c0 c1 c2 c3 c4 m5:Int}{l v:bn}{s:af}{xs:List aT}{c:Ren}{H1:AH}{cs:bj}{T:bW}{q:bE bn}
def No{c:bq}{w:af}(h:eX c w x=some y)(e:w.length<=M)(b:x.data.length<=M):y.data.length<=M:=by unfold eX at h;split at h;{split at h<;>cases h;exact b};{split at h;{cases a:iw w with|none=>{rw[a]at h;cases h}|some d=>{rw[a]at h;cases h;exact fq (MI a) e}};{split at h;{split at h<;>cases h;exact b};{cases h}}}
def JU:∀(a:af)(ws:List (af))(x y:aT),i6 a ws x=some y->(∀w∈ws,w.length<=M)->x.data.length<=M->y.data.length<=M
 |[],ws,x,y,h,hw,hx=>by simp only[i6,el]at h;subst h;exact hx
 |c::t,[],x,y,h,hw,hx=>by simp[i6]at h
 |c::t,w::ws,x,y,h,hw,hx=>by
  simp only[i6]at h;cases b:eX c w x with
  |none=>rw[b]at h;cases h
  |some z=>
   rw[b]at h;exact JU t ws z y h (fun v d=>hw v (ts _ d)) (No b (hw w (tl ..)) hx)
def EX{l:af}(h:gl l=some x):x.data.length<=l.length:=by unfold gl qM at h;cases a:iF ((bY 32 l).getD 0 [])with|none=>{rw[a]at h;cases h}|some need=>{rw[a]at h;dsimp only at h;split at h;{exact JU _ _ _ _ h (fun w b=>ue 32 l w (List.mem_of_mem_tail b)) (qd _)};{cases h}}
def EW{l:af}(h:gl l=some x)(i:x.word=rl):x.num 0=0\/x.num 0=1:=by
 unfold gl qM at h;generalize bY 32 l=e at h;cases d:iF (e.getD 0 [])with
 |none=>rw[d]at h;cases h
 |some need=>
  rw[d]at h;dsimp only at h;split at h
  ·rename_i g
   obtain⟨f,-,-⟩:=CV _ _ _ _ h (fun n d=>by simp at d);have p:e.getD 0 []=rl:=by{rw[<-i,f]};rw[p,show iF rl=some [69]by decide+kernel,el]at d;subst d
   match e,g,h with
   |[a,b],_,h=>
    have h:(match eX 69 b ⟨a,[],[],[]⟩with|none=>none|some y=>some y)=some x:=h;cases c:eX 69 b ⟨a,[],[],[]⟩with|none=>{rw[c]at h;cases h}|some y=>{rw[c]at h;cases h;unfold eX at c;rw[ed I,ed I]at c;cases d:iD b with|none=>{rw[d]at c;cases c}|some n=>{rw[d]at c;dsimp only at c;split at c;{cases c};{rename_i q;cases c;have:¬1<n:=fun h=>q ⟨rfl,h⟩;unfold aT.num;simp;omega}}}
  {cases h}
def GR(a:x∈(cY s).1):∃l∈bY 10 s,gl l=some x:=QJ (s:=s) (xs:=(cY s).1) (k:=(cY s).2.1) (ok:=(cY s).2.2) rfl x a
def QK(f:s.length<=100000)(c:x∈(cY s).1)(a:x.small):x.uU:=by obtain⟨l,b,p⟩:=GR c;have d:=ue 10 s l b;have e:=EX p;exact⟨AV p,a,EW p,V⟩
def Xu(u:s.length<=100000)(m:Nat):∀y∈gQ m (cY s).1,y.uU:=fun y j=>by
 unfold gQ at j;obtain⟨x,g,rfl⟩:=nm.1 j;have g:=acv g;obtain⟨l,b,p⟩:=GR g;have k:=ue 10 s l b;have o:=EX p;have d:=AV p;by_cases a:x.word=pO\/x.word=xX
 ·have e:sy x={x with nums:=[min (x.nums.headD 0) 60]}:=eh a
  obtain⟨i,q⟩:=Fl d a;have t:=d.nums i (by rw[q];simp);have e2:sy x={x with nums:=[min i 60]}:=by rw[e,q];rfl
  rw[e2];obtain⟨c,f,r⟩:=d.need;rw[q]at r;refine⟨⟨⟨c,f,r⟩,fun n f=>?_⟩,fun _=>?_,fun b=>?_,by show x.data.length<=_;omega⟩
  ·simp at f;omega
  ·show min i 60<=60;omega
  ·have b:x.word=rl:=b
   rcases a with a|a<;>rw[a]at b<;>cases b
 ·have e:sy x=x:=ed a
  rw[e];exact⟨d,fun h=>absurd h a,EW p,V⟩
end Go.Proofs.YtlkceignfhnpoaaGreatDoor
