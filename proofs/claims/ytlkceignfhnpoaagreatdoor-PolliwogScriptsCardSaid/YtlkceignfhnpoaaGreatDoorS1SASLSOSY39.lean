/-
  Part of a proof, written small.
-/
import Derived.Test.YtlkceignfhnpoaaGreatDoorS1SASLSOSY39g
set_option linter.all false
set_option maxRecDepth 10000
set_option maxHeartbeats 2000000
open Go.Proofs.Tryz
namespace Go.Proofs.YtlkceignfhnpoaaGreatDoor
open Go
variable{y x:aT}{n K d M s1 s2:Nat}{tk:jc}{X:Option aZ}{m0 O z m3 m4 c0 c1 c2 c3 c4 m5:Int}{l v:bn}{s:af}{xs:List aT}{c:Ren}{H1:AH}{cs:bj}{T:bW}{q:bE bn}
section
open AX Go.RowKit
def AX.every:Nat->Prop:=fun _=>True
def O4(w:bt)(a:oD w)(t:bm): Calls prog 6 #[.string t] w fun e c=>e=.returned (.bool true)/\Below w.heap.size w c:=by have b:WR prog (oP []) (nN []) w:=PB a (fun r h=>by cases h) (fun r h=>by cases h);have p:VA (oP []) #[.string t] #[.string t]:=(VL.one (.string t)).array;refine Pg (Zl 30) b p (F:=AX.every) (G:=AX.every) (s:=3) J ?_;exact O3 abg 7 t (fun _ _=>⟨trivial,trivial⟩) (PD J) fun _ _=>rfl
end
end Go.Proofs.YtlkceignfhnpoaaGreatDoor
