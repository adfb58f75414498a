/-
  Part of a proof, written small.
-/
import Derived.Test.YtlkceignfhnpoaaGreatDoorS1SASLSOSY4
import Derived.Test.YtlkceignfhnpoaaGreatDoorS1SASLSOSY8
import Derived.Test.YtlkceignfhnpoaaGreatDoorS1SASLSOSY31
set_option linter.all false
open Go.Proofs.Tryz
namespace Go.Proofs.YtlkceignfhnpoaaGreatDoor
open Go AX
variable{xs:List aT}{Q:bn->AH->Nat->Prop}{l:List Int}{c:Wd}
def gm(l:List Int):bj:=l.map (Value.int .i64)
def fW(x:aT)(a:bn):bj:=[.string ⟨x.word.toArray⟩,a,.string ⟨x.ask.toArray⟩,.string ⟨x.data.toArray⟩]
def jW(xs:List aT)(a:bj):bj:=(List.zipWith fW xs a).flatten
def sX(l:List Int):AX bn:=if l=[]then AX.ret (.slice none 0 0)else AX.bind (AX.new (.cells (gm l) 3 false)) fun b=>AX.ret (.slice (some ⟨b,0,none⟩) l.length l.length)
def pT:List aT->AX (bj)
 |[]=>AX.ret []
 |x::r=>AX.bind (sX x.nums) fun v=>AX.bind (pT r) fun a=>AX.ret (v::a)
def qL(xs:List aT):AX bn:=AX.bind (pT xs) fun a=>if xs=[]then AX.ret (.slice none 0 0)else AX.bind (AX.new (.cells (jW xs a) 31 false)) fun b=>AX.ret (.slice (some ⟨b,0,none⟩) xs.length xs.length)
def me(args:ahG):AX bn:=
 match args.toList with
 |[.string s]=>if s.size<=100000 then AX.bind (qL (cY s.data.toList).1) fun v=>AX.ret (.tuple #[v,.int .i64 ((cY s.data.toList).2.1:Int),.bool (cY s.data.toList).2.2])else AX.fail
 |_=>AX.fail
def Il:LS (sX l):=LS.ite (LS.ret _) (LS.bind (LS.new _) fun b=>LS.ret _)
def yX:∀xs:List aT,LS (pT xs)
 |[]=>LS.ret _
 |x::r=>LS.bind (Il) fun v=>LS.bind (yX r) fun a=>LS.ret _
def To:LS (qL xs):=LS.bind (yX xs) fun p=>LS.ite (LS.ret _) (LS.bind (LS.new _) fun b=>LS.ret _)
def Tt(xs:ahG):LS (me xs):=by unfold me;split;{exact LS.ite (LS.bind (To) fun v=>LS.ret _) LS.fail};{exact LS.fail}
def dR(l:List Int):acu where
 p v H D:=(l=[]/\v=aJ)\/(l≠[]/\∃b wr,v=.slice (some ⟨b,0,none⟩) l.length l.length/\H b=some (.cells (gm l) 3 wr)/\D b)
 loc:=by
  rintro v H d D(h|⟨c,b,wr,e,f,a⟩)k
  ·exact .inl h
  ·exact .inr ⟨c,b,wr,e,(k b a).trans f,a⟩
def vC(W:Wd)(xs:List aT)(a:bj):Prop:=a.length=xs.length/\∀j(h:j<xs.length),∃b,a[j]? =some b/\Fz W b (dR xs[j].nums)
section
variable{F G:Nat -> Prop}{H d:AH}{s s':Nat}{W:Wd}{P:List aa3}
def St.CN(S:St F G H s W P)(f:s<=s')(a:Bd d s')(c:∀b,b<s->d b=H b):W.le ⟨fun b=>W.Z b\/(s<=b/\b<s'),d⟩/\St F G d s' ⟨fun b=>W.Z b\/(s<=b/\b<s'),d⟩ P:=by obtain⟨D,e,q⟩:=S.hold;refine⟨fun b a=>⟨.inl a,(c b (S.froz b a).1).trans (S.froz b a).2.2⟩,a,S.new.up f,fun b h=>?_,D,e.loc fun b a=>c b (q b a).1,fun b a=>?_⟩;{rcases h with h|h;{have:=S.froz b h;exact⟨V,this.2.1,rfl⟩};{exact⟨h.2,(S.new b h.1).1,rfl⟩}};{have:=q b a;refine⟨V,this.2.1,this.2.2.1,?_⟩;rintro(h|h);{exact this.2.2.2 h};{omega}}
def RY(S:St F G H s W P)(h:∀d s' c v,W.le c->Fz c v (dR l)->St F G d s' c P->Q v d s'):Wp F G (sX l) H s Q:=by unfold sX;split;{rename_i e;rw[acr];exact h _ _ W _ (Wd.le.refl W) ⟨fun _=>False,.inl ⟨e,rfl⟩,fun _ h=>h.elim⟩ S};{rename_i e;rw[bH,oG,acr];obtain⟨a,b⟩:=S.CN (HT s) S.bd.new (fun b f=>aH _ (some (.cells (gm l) 3 false)) V);exact h _ _ _ _ a ⟨fun b=>b=s,.inr ⟨e,s,false,rfl,bX _ _ _,rfl⟩,fun b f=>.inr V⟩ b}
def F5:∀(xs:List aT){Q:bj->AH->Nat->Prop}{H:AH}{s:Nat}{W:Wd}(S:St F G H s W P)(h:∀d s' c e,W.le c->vC c xs e->St F G d s' c P->Q e d s'),Wp F G (pT xs) H s Q
 |[],Q,H,s,W,S,h=>by
  unfold pT;rw[acr];exact h _ _ W _ (Wd.le.refl W) ⟨rfl,fun j f=>by simp at f⟩ S
 |x::r,Q,H,s,W,S,h=>by
  unfold pT;rw[bH];refine RY S fun t w v q o n k=>?_;rw[bH];refine F5 r k fun u y m e i g l=>?_;rw[acr];refine h _ _ m _ (o.trans i) ⟨by simp[g.1],fun j f=>?_⟩ l;cases j with
  |zero=>exact⟨q,rfl,n.up i⟩
  |succ j=>
   obtain⟨p,a,b⟩:=g.2 j (by simpa using f);exact⟨p,by simpa using a,by simpa using b⟩
def pH(W:Wd)(xs:List aT)(v:bn):Prop:=(xs=[]/\v=aJ)\/(xs≠[]/\∃b a,v=.slice (some ⟨b,0,none⟩) xs.length xs.length/\W.Z b/\W.H b=some (.cells (jW xs a) 31 false)/\vC W xs a)
def vC.up{W:Wd}{d:bj}(h:vC W xs d)(k:W.le c):vC c xs d:=⟨h.1,fun j e=>by
 obtain⟨f,a,b⟩:=h.2 j e;exact⟨f,a,b.up k⟩⟩
def pH.up{W:Wd}{v:bn}(h:pH W xs v)(k:W.le c):pH c xs v:=by rcases h with h|⟨h,b,a,e,d,f,g⟩;{exact .inl h};{exact .inr ⟨h,b,a,e,(k b d).1,(k b d).2.trans f,g.up k⟩}
def NS(S:St F G H s W P)(h:∀d s' c v,W.le c->pH c xs v->St F G d s' c P->Q v d s'):Wp F G (qL xs) H s Q:=by unfold qL;rw[bH];refine F5 xs S fun l i j p g k e=>?_;split;{rename_i f;rw[acr];exact h _ _ j _ g (.inl ⟨f,rfl⟩) e};{rename_i f;rw[bH,oG,acr];obtain⟨a,b⟩:=e.CN (HT i) e.bd.new (fun b m=>aH _ (some (.cells (jW xs p) 31 false)) V);exact h _ _ _ _ (g.trans a) (.inr ⟨f,i,p,rfl,.inr ⟨Z,X3 _⟩,bX _ _ _,k.up a⟩) b}
def Is{E:FuncId->Option (ahG->AX bn)}(f:E 18=some me){n:Nat}(t:bm)(g:t.size<=100000)(S:St F G H s W P)(h:∀d s' c v,W.le c->pH c (cY t.data.toList).1 v->St F G d s' c P->Q (.tuple #[v,.int .i64 ((cY t.data.toList).2.1:Int),.bool (cY t.data.toList).2.2]) d s'):Wp F G (cE prog E (n+1) 18 #[.string t]) H s Q:=by unfold cE;rw[f];show Wp F G (me #[.string t]) H s Q;have e:me #[.string t]=AX.bind (qL (cY t.data.toList).1) fun v=>AX.ret (.tuple #[v,.int .i64 ((cY t.data.toList).2.1:Int),.bool (cY t.data.toList).2.2]):=eh g;rw[e,bH];refine NS S fun j l k v i b a=>?_;rw[acr];exact h _ _ _ _ i b a
end
end Go.Proofs.YtlkceignfhnpoaaGreatDoor
