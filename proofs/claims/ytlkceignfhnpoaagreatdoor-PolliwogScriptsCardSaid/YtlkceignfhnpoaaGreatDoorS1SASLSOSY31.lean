/-
  Part of a proof, written small.
-/
import Derived.Test.YtlkceignfhnpoaaGreatDoorS1SASLSOSY1
set_option linter.all false
namespace Go.Proofs.YtlkceignfhnpoaaGreatDoor
open Go
variable{x:aT}
def uc:af->Nat
 |[]=>0
 |c::t=>if c=87\/c=72 then uc t else uc t+1
structure nE(x:aT):Prop where
 need:∃n,iF x.word=some n/\x.nums.length=uc n
 nums:∀n∈x.nums,0<=n/\n<=1099511627776
def Nn{c:bq}{w:af}{y:aT}(h:eX c w x=some y)(g:∀n∈x.nums,0<=n/\n<=1099511627776):y.nums.length=x.nums.length+(if c=87\/c=72 then 0 else 1)/\∀n∈y.nums,0<=n/\n<=1099511627776:=by unfold eX at h;split at h;{rename_i b;split at h<;>cases h;exact⟨by simp[b],g⟩};{rename_i b;split at h;{rename_i e;cases i:iw w with|none=>{rw[i]at h;cases h}|some d=>{rw[i]at h;cases h;exact⟨by simp[e],g⟩}};{rename_i e;cases f:iD w with|none=>{rw[f]at h;cases h}|some n=>{rw[f]at h;dsimp only at h;split at h;{cases h};{cases h;refine⟨by simp[b,e],fun m a=>?_⟩;rcases my.1 a with a|a;{exact g m a};{have:=(R7 f).2;simp at a;omega}}}}}
def CV:∀(a:af)(ws:List (af))(x y:aT),i6 a ws x=some y->(∀n∈x.nums,0<=n/\n<=1099511627776)->y.word=x.word/\y.nums.length=x.nums.length+uc a/\∀n∈y.nums,0<=n/\n<=1099511627776
 |[],ws,x,y,h,hx=>by simp only[i6,el]at h;subst h;exact⟨rfl,rfl,hx⟩
 |c::t,[],x,y,h,hx=>by simp[i6]at h
 |c::t,w::ws,x,y,h,hx=>by
  simp only[i6]at h;cases b:eX c w x with
  |none=>rw[b]at h;cases h
  |some z=>
   rw[b]at h;obtain⟨e,f⟩:=Nn b hx;obtain⟨g,i,j⟩:=CV t ws z y h f;refine⟨g.trans (Nl b),?_,j⟩;rw[i,e];by_cases d:c=87\/c=72
   ·simp[uc,d]
   ·simp[uc,d];omega
def AV{s:af}(h:gl s=some x):nE x:=by unfold gl qM at h;cases a:iF ((bY 32 s).getD 0 [])with|none=>{rw[a]at h;cases h}|some need=>{rw[a]at h;dsimp only at h;split at h;{obtain⟨b,c,d⟩:=CV _ _ _ _ h (fun n a=>by simp at a);exact⟨⟨need,by rw[b];exact a,by simpa using c⟩,d⟩};{cases h}}
def Bh:∀(c:List (af))(n:Nat)(out:List aT),(∀x∈out,nE x)->∀x∈(iA n out c).1,nE x
 |[],n,out,h,x,hx=>h x (by simpa[iA]using hx)
 |l::t,n,out,h,x,hx=>by
  rw[sH]at hx;split at hx
  ·exact Bh t _ _ h x hx
  ·cases b:gl l with
   |none=>rw[b]at hx;simp at hx
   |some y=>
    rw[b]at hx;dsimp only at hx;split at hx
    ·simp at hx
    ·refine Bh t _ _ (fun z a=>?_) x hx
     rcases my.1 a with a|a
     ·exact h z a
     ·simp at a;subst a;exact AV b
def QI(s:af):∀x∈(cY s).1,nE x:=Bh _ _ _ (fun x a=>by simp at a)
def Bj:∀(a:List (af))(n:Nat)(out:List aT),out.length<=400->(iA n out a).1.length<=400
 |[],n,out,h=>by simpa[iA]using h
 |l::t,n,out,h=>by
  rw[sH];split
  ·exact Bj t _ _ h
  ·cases b:gl l with
   |none=>simp
   |some y=>
    dsimp only;split
    ·simp
    ·exact Bj t _ _ (by rw[dw];simp;omega)
def QL(s:af):(cY s).1.length<=400:=Bj _ _ _ J
def sy(x:aT):aT:=if x.word=pO\/x.word=[115,101,116,116,108,101]then {x with nums:=[min (x.nums.headD 0) 60]}else x
def gQ(n:Nat)(xs:List aT):List aT:=(xs.take n).map sy
end Go.Proofs.YtlkceignfhnpoaaGreatDoor
