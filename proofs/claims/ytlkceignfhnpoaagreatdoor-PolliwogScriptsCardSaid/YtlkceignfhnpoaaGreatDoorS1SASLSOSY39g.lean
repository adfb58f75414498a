/-
  Part of a proof, written small.
-/
import Derived.Test.YtlkceignfhnpoaaGreatDoorS1SASLSOSY39f
set_option linter.all false
set_option maxRecDepth 10000
set_option maxHeartbeats 2000000
open Go.Proofs.Tryz
namespace Go.Proofs.YtlkceignfhnpoaaGreatDoor
open Go
variable{y x:aT}{n K d M s1 s2:Nat}{tk:jc}{X:Option aZ}{m0 O z m3 m4 c0 c1 c2 c3 c4 m5:Int}{l v:bn}{s:af}{xs:List aT}{c:Ren}{H1:AH}{cs:bj}{T:bW}{q:bE bn}
section
open AX Go.RowKit
def Tz(xs:ahG):LS (mj xs):=by unfold mj;split;{exact LS.ite (LS.ret _) LS.fail};{exact LS.fail}
def VJ(args:ahG)(H:AH)(s:Nat)(q:bE bn)(h:mj args H s=some q)(φ:Ren)(w:bt)(a:ahG)(f:WR prog φ H w)(c:VA φ args a):Calls prog 23 a w (dH prog φ H w s q):=by
 obtain⟨args⟩:=args;unfold mj at h;dsimp only at h;split at h
 ·rename_i n
  split at h
  ·rename_i b
   simp[AX.ret]at h;subst h;obtain⟨g⟩:=a;obtain rfl:g=[iv n]:=by
    have d:=c.len;simp at d
    match g,d with
    |[x],_=>
     have:=c.at_ 0 _ x rfl rfl;cases this;rfl
   rw[I0 b];refine yA f (VR.simple rfl) ((Tryz.strconv_Itoa n b.1 b.2 w f.env.ok.pow).mono ?_);rintro e j⟨h,k,i,p⟩;exact⟨h,by rw[p];exact DB⟩
  ·cases h
 ·cases h
def Be:List (cd×(ahG->AX bn)):=[(18,me),(65,sQ),(23,mj),(29,n7),(24,pK),(25,pP)]
def Bc:∀p∈Be,vG p.1 p.2:=by intro p d;simp only[Be,pk,ahg,adM]at d;rcases d with rfl|rfl|rfl|rfl|rfl|rfl;{exact⟨Tt,fun t H s q h φ w r b a c=>QH t H s q h φ w r b a c⟩};{exact⟨Tq,fun t H s q h φ w r b a c=>Qd t q h r b a⟩};{exact⟨Tz,fun t H s q h φ w r b a c=>VJ t H s q h φ w r b a⟩};{exact⟨Ty,fun t H s q h φ w r b a c=>VG t H s q h φ w r b a⟩};{exact⟨Tl,fun t H s q h φ w r b a c=>LN t H s q h φ w r b a c⟩};{exact⟨Tm,fun t H s q h φ w r b a c=>M7 t H s q h φ w r b a⟩}
def vH{L M:List (cd×(ahG->AX bn))}{f:cd}{g:ahG->AX bn}(a:L.find? (fun p=>p.1==f)=none)(h:M.find? (fun p=>p.1==f)=some (f,g)):jR (L++M) f=some g:=by unfold jR;rw[afC,a,h];rfl
def E7:Ex:=jR (qp++Be)
def abg:eV E7 where
 b3:=(J4 Bc rfl rfl).1
 bu:=(J4 Bc rfl rfl).2
 line:=vH rfl rfl
 join:=vH rfl rfl
 itoa:=vH rfl rfl
 parse:=vH rfl rfl
 write:=vH rfl rfl
 tell:=vH rfl rfl
def abh:xh prog E7:=abd fun p a=>(my.1 a).elim (J3 p) (Bc p)
def Zl(n:Nat):qB prog (cE prog E7 n):=Ac BG BH abh n
end
end Go.Proofs.YtlkceignfhnpoaaGreatDoor
