/-
  Part of a proof, written small.
-/
import Derived.Test.YtlkceignfhnpoaaGreatDoorS1SASLSOSY7
import Derived.Test.YtlkceignfhnpoaaGreatDoorS1SASLSOSY24
set_option linter.all false
namespace Go.Proofs.YtlkceignfhnpoaaGreatDoor
open Go AX Go.RowKit
variable{s:Nat}
structure tM where
 blk:Nat
 off:Nat
 T:bW
 cs:bj
def nN(L:List tM):AH:=fun b=>match L[b]? with
 |some r=>some (.cells r.cs r.T false)
 |none=>none
def oP(L:List tM):Ren:=fun b=>match L[b]? with
 |some r=>some ⟨r.blk,r.off,r.cs.length,1⟩
 |none=>none
section
variable{P:c7}{w:bt}
def F6{L:List tM}{k:Nat}:¬gH (oP L) (nN L) k:=by rintro⟨b,x,e,a,d,_⟩;unfold nN at a;cases c:L[b]? with|none=>{rw[c]at a;cases a}|some r=>{rw[c]at a;simp only[el]at a;subst a;cases d}
def PB{L:List tM}(n:oD w)(m:∀r,r∈L->aW P r.T=some 1/\∀(i:Nat)v,r.cs[i]? =some v->eJ v=true/\w.cell? ⟨r.blk,r.off+i,none⟩=some v)(l:∀r,r∈L->r.cs≠[]):WR P (oP L) (nN L) w:=by refine⟨fun b x d=>?_,fun b C x E D u d y a A=>?_,mL.start n (fun k=>F6)⟩;{unfold nN at d;cases e:L[b]? with|none=>{rw[e]at d;cases d}|some r=>{rw[e]at d;simp only[el]at d;subst d;have g:r∈L:=w0 e;obtain⟨B,f⟩:=m r g;refine⟨⟨r.blk,r.off,r.cs.length,1⟩,by simp[oP,e],?_⟩;have t:0<r.cs.length:=ad4.2 (l r g);have p:=(f (r.cs.length-1) _ (ei V)).2;cases c:w.heap[r.blk]? with|none=>simp[World.cell?,c]at p|some o=>{cases o with|cells ds T' fr=>{have q:∀i,w.cell? ⟨r.blk,r.off+i,none⟩=ds[r.off+i]?:=fun i=>by{simp[World.cell?,c]};refine⟨ds,T',fr,c,?_,Z,fun i v s=>?_,by rw[B];rfl,fun h=>(by cases h),fun _ h=>?_,fun h=>(by cases h)⟩;{have:ds[r.off+(r.cs.length-1)]? =some (r.cs[r.cs.length-1]):=(q _).symm.trans p;have:=(yt.1 this).1;dsimp only;omega};{obtain⟨j,z⟩:=f i v s;refine⟨v,(q i).symm.trans z,VR.simple j,?_⟩;revert j;cases v<;>simp[eJ,oneV]};{simp at h}}|map es clock=>simp[World.cell?,c]at p|_=>{simp[World.cell?,c]at p}}}};{unfold nN at d;cases e:L[b]? with|none=>{rw[e]at d;cases d}|some r=>{rw[e]at d;simp only[el]at d;subst d;cases A}}
def PC{L:List tM}(c:L.length<=s){d:Nat}:dz (oP L) s d:=fun b a _=>by
 simp[oP,wy (fq c a)]
def PD{L:List tM}(a:L.length<=s):Bd (nN L) s:=fun b h=>by simp[nN,wy (fq a h)]
def Pg{call:FuncId->ahG->AX bn}(d:qB P call){f:FuncId}{args a:ahG}{L:List tM}(m:WR P (oP L) (nN L) w)(c:VA (oP L) args a){F G:Nat->Prop}(j:L.length<=s)(h:Wp F G (call f args) (nN L) s (fun v _ _=>v=.bool true)):Calls P f a w fun e b=>e=.returned (.bool true)/\Below w.heap.size w b:=by obtain⟨o,g,_,_,l⟩:=h;refine(d f args (nN L) s o g (oP L) w a m c (PC j)).mono ?_;rintro e b⟨n,p,rfl,_,r,_,t⟩;rw[l]at r;cases r;exact⟨rfl,t.os,t.tape,t.output,t.size,fun k i=>t.block k i F6⟩
end
end Go.Proofs.YtlkceignfhnpoaaGreatDoor
