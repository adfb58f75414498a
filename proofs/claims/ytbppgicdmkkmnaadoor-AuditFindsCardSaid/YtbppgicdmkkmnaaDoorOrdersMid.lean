/-
  A store of a whole struct at a step of a drawn region, by one law; what a block and a row are behind it.
-/
import Derived.Test.YtbppgicdmkkmnaaDoorBox
import Derived.Test.YtbppgicdmkkmnaaDoorOrdersL
import Derived.Deep.MidRow
import Derived.Laws.AppendOwn
set_option linter.unusedVariables false
set_option linter.unusedSimpArgs false
namespace Go.Proofs.YtbppgicdmkkmnaaDoor
open Go Go.RowKit

theorem step_store_mid {P : Program} {ops : Array Oper} {o : Oper} {a : Act} {w : World} {K : Act → World → Prop} {Q : Exit → Act → World → Prop} {E : Prop} (hgd : o.guard = none) (ty : TypeId) (x y : Operand) (ho : o.op = .store ty x y)
    (b off : Nat) (cells : Array Value) (hx : a.eval x = .pointer (some ⟨b, off, none⟩)) (hy : a.eval y = .agg cells) (ht : w.there b off cells.size) (hi : (P.info? ty).map (·.size) = some cells.size) (h1 : cells.all (·.oneCell') = true)
    (h : K (a.put o.dst undef) (w.setCells b off cells.toList)) : if Region.wanted o (yielded ops a.tmps) = true then Oper.wp P o a w K Q else E := by
  have hw : Region.wanted o (yielded ops a.tmps) = true := by simp [Region.wanted, hgd]
  rw [if_pos hw]
  exact wp_store_mid ty x y ho b off cells hx hy ht hi h1 h
theorem BoxAt.setAll {T : TypeId} {b : Nat} : ∀ (vs pre post : List Value) (w : World), BoxAt w b T (pre ++ post) → post.length = vs.length → BoxAt (w.setCells b pre.length vs) b T (pre ++ vs)
  | [], pre, post, w, h, hl => by
    have : post = [] := List.eq_nil_of_length_eq_zero (by simpa using hl)
    subst this; exact h
  | v :: vs, pre, [], w, h, hl => by simp at hl
  | v :: vs, pre, p :: post, w, h, hl => by
    have h1 := h.set pre.length v
    have e1 : (pre ++ p :: post).set pre.length v = (pre ++ [v]) ++ post := by simp
    rw [e1] at h1
    have h2 := BoxAt.setAll vs (pre ++ [v]) post _ h1 (by simpa using hl)
    rw [List.length_append, List.length_singleton] at h2
    have e2 : pre ++ v :: vs = (pre ++ [v]) ++ vs := by simp
    rw [e2]
    exact h2
theorem BoxAt.setWhole {T : TypeId} {b : Nat} {w : World} {old vs : List Value} (h : BoxAt w b T old) (hl : old.length = vs.length) : BoxAt (w.setCells b 0 vs) b T vs := BoxAt.setAll vs [] old w h hl
theorem BoxAt.setApart {T : TypeId} {b b' : Nat} (hne : b ≠ b') {cs : List Value} : ∀ (vs : List Value) (o : Nat) (w : World), BoxAt w b T cs → BoxAt (w.setCells b' o vs) b T cs
  | [], _, _, h => h
  | v :: vs, o, w, h => BoxAt.setApart hne vs (o + 1) _ (h.other (a := ⟨b', o, none⟩) hne v)
theorem BoxAt.there {T : TypeId} {b n : Nat} {w : World} {cs : List Value} (h : BoxAt w b T cs) (hn : n ≤ cs.length) : w.there b 0 n := fun j hj => by
  rw [Nat.zero_add, h.cell, h.froz]
  refine ⟨?_, rfl⟩
  have : j < cs.length := by omega
  simp [this]
theorem grown_set1 (w : World) (a : Addr) (u : Value) : w.grownBy (w.setCell a u) (some a.block) :=
  ⟨rfl, rfl, rfl, by simp [World.setCell], fun k _ hk => Below.heap_setCell _ _ _ _ (fun e => hk (by rw [e]))⟩
theorem own_setCells {B : Nat} {e : TypeId} {s : Nat} {v : Value} {n : Nat} {xs : List Value} {b : Nat} (hne : v.ownBlock ≠ some b) : ∀ (vs : List Value) (o : Nat) (w : World), w.ownsRow B e s v n xs → (w.setCells b o vs).ownsRow B e s v n xs
  | [], _, _, h => h
  | u :: vs, o, w, h => own_setCells hne vs (o + 1) _ (h.kept (grown_set1 w ⟨b, o, none⟩ u) (Or.inr hne))
theorem bel_setCells (B b : Nat) (hb : B ≤ b) : ∀ (vs : List Value) (o : Nat) (a w : World), Below B a w → Below B a (w.setCells b o vs)
  | [], _, _, _, h => h
  | u :: vs, o, a, w, h => bel_setCells B b hb vs (o + 1) a _ (h.setCell (p := ⟨b, o, none⟩) hb u)
/-- A row lies apart from a block of another type. -/
theorem own_apart {w : World} {B : Nat} {e T : TypeId} {s : Nat} {v : Value} {n : Nat} {xs : List Value} {b : Nat} {cs : List Value} (h : w.ownsRow B e s v n xs) (hb : BoxAt w b T cs) (hne : T ≠ e) : v.ownBlock ≠ some b := by
  rcases h.2 with ⟨rfl, _⟩ | ⟨g, cap, cur, rfl, _, hg, _⟩
  · simp [Value.ownBlock]
  · simp only [Value.ownBlock, ne_eq, Option.some.injEq]
    intro hgg
    subst hgg
    unfold BoxAt at hb
    rw [hg] at hb
    simp only [Option.some.injEq, Obj.cells.injEq] at hb
    exact hne hb.2.1.symm
end Go.Proofs.YtbppgicdmkkmnaaDoor
