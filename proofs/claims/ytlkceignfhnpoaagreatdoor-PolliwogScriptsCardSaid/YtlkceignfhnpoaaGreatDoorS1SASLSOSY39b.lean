/-
  Part of a proof, written small.
-/
import Derived.Test.YtlkceignfhnpoaaGreatDoorS1SASLSOSY39a
set_option linter.all false
set_option maxRecDepth 10000
set_option maxHeartbeats 2000000
open Go.Proofs.Tryz
namespace Go.Proofs.YtlkceignfhnpoaaGreatDoor
open Go
variable{y x:aT}{n K d M s1 s2:Nat}{tk:jc}{X:Option aZ}{m0 O z m3 m4 c0 c1 c2 c3 c4 m5:Int}{l v:bn}{s:af}{xs:List aT}{c:Ren}{H1:AH}{cs:bj}{T:bW}{q:bE bn}
section
open AX
def kW(y:aT)(t:bm)(a:Bool):Bool:=a||(decide (y.word=nf)&&decide (t=iS))
structure DQ(A B:Option aZ)(made:Bool):Prop where
 is:A.isSome=made
 there:B.isSome=true
 same:made=true->A=B
def Kj(h:X.isSome=true):(cj y tk X).2.1.isSome=true:=by unfold cj;split;{exact h};split;{split;{rfl};{exact h}};{cases X with|none=>{cases h}|some X=>{rfl}}
def Yh(A B:Option aZ):(cj y tk A).1=(cj y tk B).1:=by unfold cj;split;{rfl};split;{split<;>rfl};{cases A<;>cases B<;>rfl}
def YG:¬rN=iS:=I
def QS{A B:Option aZ}{a:Bool}(h:DQ A B a):DQ (cj y tk A).2.1 (cj y tk B).2.1 (kW y (cj y tk A).2.2 a)/\(kW y (cj y tk A).2.2 a=true->(cj y tk A).2.2=(cj y tk B).2.2):=by by_cases c:y.word=pN;{have j:¬y.word=nf:=by{rw[c];decide};have e:∀X,cj y tk X=(⟨y.num 0,y.num 1,y.num 2,y.num 3,y.num 4⟩,X,iS):=fun X=>by{unfold cj;rw[eh c]};rw[e,e];have b:kW y iS a=a:=by{unfold kW;simp[j]};dsimp only;rw[b];exact⟨h,fun _=>rfl⟩};{by_cases d:y.word=nf;{by_cases g:(y.cfg tk).fits=true;{have e:∀X,cj y tk X=(tk,some ⟨(y.cfg tk).link,⟨[],[]⟩⟩,iS):=fun X=>by{unfold cj;rw[ed c,eh d,eh g]};rw[e,e];have b:kW y iS a=true:=by{unfold kW;simp[d]};dsimp only;rw[b];exact⟨⟨rfl,rfl,fun _=>rfl⟩,fun _=>rfl⟩};{have e:∀X,cj y tk X=(tk,X,rN):=fun X=>by{unfold cj;rw[ed c,eh d,ed g]};rw[e,e];have b:kW y rN a=a:=by{unfold kW;simp[YG]};dsimp only;rw[b];exact⟨h,fun _=>rfl⟩}};{have b:∀t,kW y t a=a:=fun t=>by{unfold kW;simp[d]};rw[b];have i:=h.there;refine⟨⟨?_,Kj i,fun f=>by rw[h.same f]⟩,fun f=>by rw[h.same f]⟩;have e:(cj y tk A).2.1.isSome=A.isSome:=by{unfold cj;rw[ed c,ed d];cases A<;>rfl};rw[e];exact h.is}}
def fC:List aT->jc->Option aZ->jc×Option aZ×List bm
 |[],tk,X=>(tk,X,[])
 |y::r,tk,X=>let a:=cj y tk X;let b:=fC r a.1 a.2.1;(b.1,b.2.1,a.2.2::b.2.2)
end
end Go.Proofs.YtlkceignfhnpoaaGreatDoor
