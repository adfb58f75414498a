/-
  The memory of an audit: its block of fifteen cells, the row of its problems, its two maps.
-/
import Derived.Test.YtbppgicdmkkmnaaDoorShelf
import Derived.Test.YtbppgicdmkkmnaaDoorAuSeq
import Derived.Test.YtbppgicdmkkmnaaDoorBox
import Derived.Laws.AppendOwn
import Derived.Maps.OwnOps
import Derived.Maps.OwnSet
import Derived.Maps.Views
set_option linter.unusedVariables false
set_option linter.unusedSimpArgs false
namespace Go.Proofs.YtbppgicdmkkmnaaDoor
open Go.RowKit

def strV (l : List UInt8) : Value := .string ⟨l.toArray⟩
/-- What is known of an end. -/
structure EndS where
  begun : Bool
  s : Int
  a : Int
  ms : Int
  credit : Int
  m : Option Nat
  f : Int → Int
  cnt : Nat
/-- An audit: the starts, the ends, the problems. -/
structure AudS where
  st0 : Int
  st1 : Int
  e0 : EndS
  e1 : EndS
  l : List (List UInt8)
def audC (S : AudS) (lv : Value) : List Value :=
  [.int .u32 S.st0, .int .u32 S.st1, .bool S.e0.begun, .int .u32 S.e0.s, .int .u32 S.e0.a, .int .u32 S.e0.ms, .int .i64 S.e0.credit, .map S.e0.m,
   .bool S.e1.begun, .int .u32 S.e1.s, .int .u32 S.e1.a, .int .u32 S.e1.ms, .int .i64 S.e1.credit, .map S.e1.m, lv]
def NamedAt (w : World) (B : Nat) (m : Option Nat) (f : Int → Int) (cnt : Nat) : Prop := match m with
  | none => ∀ x, f x = 0
  | some mb => B ≤ mb ∧ ∃ D : DataW Unit, w.ownsMap Tryd.prog 24 (plainElem Tryd.prog 3) mb cnt D ∧ ∀ x : Int, 0 ≤ x → x < 4294967296 → D.atKey (.int .u32 x) (.lit (.int .i64 0)) = .lit (.int .i64 (f x))
structure AudAt (w : World) (B b : Nat) (S : AudS) (lv : Value) : Prop where
  box : BoxAt w b 55 (audC S lv)
  own : w.ownsRow B 9 1 lv S.l.length (S.l.map strV)
  n0 : NamedAt w B S.e0.m S.e0.f S.e0.cnt
  n1 : NamedAt w B S.e1.m S.e1.f S.e1.cnt
  apart : ∀ m, S.e0.m = some m → S.e1.m ≠ some m
  ge : B ≤ b
/-- What an audit's methods may turn: its own blocks, no others. -/
structure KeepA (B : Nat) (w w' : World) : Prop where
  os : w'.os = w.os
  tape : w'.tape = w.tape
  output : w'.output = w.output
  size : w.heap.size ≤ w'.heap.size
  low : ∀ k, k < B → k < w.heap.size → w'.heap[k]? = w.heap[k]?
  kind : ∀ (k : Nat) (cs : Array Value) (T : TypeId) (fr : Nat × Nat), w.heap[k]? = some (Obj.cells cs T fr) → T ≠ 55 → T ≠ 9 → w'.heap[k]? = w.heap[k]?
theorem KeepA.refl (B : Nat) (w : World) : KeepA B w w := ⟨rfl, rfl, rfl, Nat.le_refl _, fun _ _ _ => rfl, fun _ _ _ _ _ _ _ => rfl⟩
theorem KeepA.trans {B : Nat} {x y z : World} (h : KeepA B x y) (k : KeepA B y z) : KeepA B x z :=
  ⟨k.os.trans h.os, k.tape.trans h.tape, k.output.trans h.output, Nat.le_trans h.size k.size, fun i h1 h2 => (k.low i h1 (by have := h.size; omega)).trans (h.low i h1 h2),
   fun i cs T fr h1 h2 h3 => (k.kind i cs T fr ((h.kind i cs T fr h1 h2 h3).trans h1) h2 h3).trans (h.kind i cs T fr h1 h2 h3)⟩
theorem KeepA.of_below {B : Nat} {w w' : World} (hb : Below w.heap.size w w') : KeepA B w w' :=
  ⟨hb.os, hb.tape, hb.output, hb.size, fun k _ h => hb.block k h, fun k cs T fr h _ _ => hb.block k (lt_of_block h)⟩
theorem KeepA.of_grown {B : Nat} {w w' : World} {r : Nat} (hg : w.grownBy w' (some r)) (hB : B ≤ r) (hk : ∀ (cs : Array Value) (T : TypeId) (fr : Nat × Nat), w.heap[r]? = some (Obj.cells cs T fr) → T = 55 ∨ T = 9) : KeepA B w w' :=
  ⟨hg.os, hg.tape, hg.output, hg.size, fun k h1 h2 => hg.block k h2 (by simp; omega), fun k cs T fr h1 h2 h3 => hg.block k (lt_of_block h1) (fun e => by
    cases e
    rcases hk cs T fr h1 with h | h
    · exact h2 h
    · exact h3 h)⟩
theorem KeepA.of_none {B : Nat} {w w' : World} (hg : w.grownBy w' none) : KeepA B w w' :=
  ⟨hg.os, hg.tape, hg.output, hg.size, fun k h1 h2 => hg.block k h2 (by simp), fun k cs T fr h1 h2 h3 => hg.block k (lt_of_block h1) (by simp)⟩
/-- At the end of a call: what lay below stays. -/
theorem KeepA.to_below {B : Nat} {w w' : World} (h : KeepA B w w') (hB : B ≤ w.heap.size) : Below B w w' :=
  ⟨h.os, h.tape, h.output, h.size, fun k hk => h.low k hk (by omega)⟩
theorem KeepA.box {B : Nat} {w w' : World} (h : KeepA B w w') {x T : Nat} {cs : List Value} (hx : BoxAt w x T cs) (h1 : T ≠ 55) (h2 : T ≠ 9) : BoxAt w' x T cs :=
  (h.kind x _ _ _ hx h1 h2).trans hx
theorem grown_set (w : World) (b i : Nat) (v : Value) : w.grownBy (w.setCell ⟨b, i, none⟩ v) (some b) := ⟨rfl, rfl, rfl, by simp, fun k _ h => Below.heap_setCell _ _ _ _ (fun e => h (by rw [e]))⟩
theorem NamedAt.kept {w w' : World} {B : Nat} {m : Option Nat} {f : Int → Int} {cnt : Nat} {row : Option Nat} (h : NamedAt w B m f cnt) (hg : w.grownBy w' row) (hr : ∀ r, m = some r → some r ≠ row) : NamedAt w' B m f cnt := by
  cases m with
  | none => exact h
  | some mb =>
    obtain ⟨h1, D, h2, h3⟩ := h
    exact ⟨h1, D, h2.kept hg (hr mb rfl), h3⟩
theorem NamedAt.is_map {w : World} {B : Nat} {m : Option Nat} {f : Int → Int} {cnt : Nat} (h : NamedAt w B m f cnt) {r : Nat} (hr : m = some r) : B ≤ r ∧ ∃ es c, w.heap[r]? = some (.map es c) := by
  subst hr
  obtain ⟨h1, D, ⟨es, c, h2, _⟩, _⟩ := h
  exact ⟨h1, es, c, h2⟩
theorem own_block {w : World} {base E sz n : Nat} {v : Value} {xs : List Value} (h : w.ownsRow base E sz v n xs) : ∀ r, v.ownBlock = some r → base ≤ r ∧ ∃ cur, w.heap[r]? = some (.cells cur E (0, 0)) := fun r e => by
  rcases h.2 with ⟨rfl, _⟩ | ⟨g, cap, cur, rfl, hb, hg, _⟩
  · simp [Value.ownBlock] at e
  · simp [Value.ownBlock] at e; subst e; exact ⟨hb, cur, hg⟩
theorem own_row {w w' : World} {base E sz n : Nat} {v : Value} {xs : List Value} {row : Option Nat} (h : w.ownsRow base E sz v n xs) (hg : w.grownBy w' row) (hr : ∀ r, row = some r → v.ownBlock ≠ some r) : w'.ownsRow base E sz v n xs := by
  obtain ⟨h1, h2 | ⟨q, cap, cur, hv, hB, hq, rest⟩⟩ := h
  · exact ⟨h1, .inl h2⟩
  · refine ⟨h1, .inr ⟨q, cap, cur, hv, hB, (hg.block q (lt_of_block hq) (fun e => hr q e.symm (by rw [hv]; rfl))).trans hq, rest⟩⟩
/-- Something else has turned. -/
theorem AudAt.kept {w w' : World} {B b : Nat} {S : AudS} {lv : Value} {row : Option Nat} (h : AudAt w B b S lv) (hg : w.grownBy w' row) (hr : ∀ r, row = some r → r ≠ b ∧ lv.ownBlock ≠ some r ∧ S.e0.m ≠ some r ∧ S.e1.m ≠ some r) : AudAt w' B b S lv :=
  ⟨h.box.grown hg (fun e => (hr b e.symm).1 rfl), own_row h.own hg (fun r e => (hr r e).2.1), h.n0.kept hg (fun r e k => (hr r k.symm).2.2.1 e), h.n1.kept hg (fun r e k => (hr r k.symm).2.2.2 e), h.apart, h.ge⟩
theorem grown_below {w w' : World} (hb : Below w.heap.size w w') : w.grownBy w' none := ⟨hb.os, hb.tape, hb.output, hb.size, fun k hk _ => hb.block k hk⟩
theorem AudAt.below {w w' : World} {B b : Nat} {S : AudS} {lv : Value} (h : AudAt w B b S lv) (hb : Below w.heap.size w w') : AudAt w' B b S lv := h.kept (grown_below hb) (fun r e => by cases e)
theorem AudAt.lt {w : World} {B b : Nat} {S : AudS} {lv : Value} (h : AudAt w B b S lv) : b < w.heap.size := h.box.lt
/-- A cell of its own block is written: no map, no row. -/
theorem AudAt.set {w : World} {B b i : Nat} {S S' : AudS} {lv v : Value} (h : AudAt w B b S lv) (hc : audC S' lv = (audC S lv).set i v) (hl : S'.l = S.l) (m0 : S'.e0.m = S.e0.m) (f0 : S'.e0.f = S.e0.f) (c0 : S'.e0.cnt = S.e0.cnt)
    (m1 : S'.e1.m = S.e1.m) (f1 : S'.e1.f = S.e1.f) (c1 : S'.e1.cnt = S.e1.cnt) : AudAt (w.setCell ⟨b, i, none⟩ v) B b S' lv := by
  have hg := grown_set w b i v
  have hbx : ∃ cs, w.heap[b]? = some (.cells cs 55 (0, 0)) := ⟨_, h.box⟩
  obtain ⟨cs, hcs⟩ := hbx
  refine ⟨by rw [hc]; exact h.box.set i v, ?_, ?_, ?_, by rw [m0, m1]; exact h.apart, h.ge⟩
  · rw [hl]
    refine own_row h.own hg (fun r e k => ?_)
    cases e
    obtain ⟨_, cur, h1⟩ := own_block h.own _ k
    rw [hcs] at h1; simp at h1
  · rw [m0, f0, c0]
    refine h.n0.kept hg (fun r e k => ?_)
    cases k
    obtain ⟨_, es, c, h1⟩ := h.n0.is_map e
    rw [hcs] at h1; cases h1
  · rw [m1, f1, c1]
    refine h.n1.kept hg (fun r e k => ?_)
    cases k
    obtain ⟨_, es, c, h1⟩ := h.n1.is_map e
    rw [hcs] at h1; cases h1
theorem AudAt.keep_set {w : World} {B b i : Nat} {S : AudS} {lv v : Value} (h : AudAt w B b S lv) : KeepA B w (w.setCell ⟨b, i, none⟩ v) :=
  KeepA.of_grown (grown_set w b i v) h.ge (fun cs T fr h1 => by have := h.box; unfold BoxAt at this; rw [this] at h1; cases h1; exact .inl rfl)
/-- One more problem: the row has grown, and is written into its cell. -/
theorem AudAt.tell {w w2 : World} {B b : Nat} {S : AudS} {lv lv' : Value} {x : List UInt8} (h : AudAt w B b S lv) (hg : w.grownBy w2 lv.ownBlock) (ho : w2.ownsRow B 9 1 lv' (S.l.length + 1) (S.l.map strV ++ [strV x])) :
    AudAt (w2.setCell ⟨b, 14, none⟩ lv') B b { S with l := S.l ++ [x] } lv' ∧ KeepA B w (w2.setCell ⟨b, 14, none⟩ lv') := by
  have hbx : ∃ cs, w.heap[b]? = some (.cells cs 55 (0, 0)) := ⟨_, h.box⟩
  obtain ⟨cs, hcs⟩ := hbx
  have hne : some b ≠ lv.ownBlock := fun e => by
    obtain ⟨_, cur, h1⟩ := own_block h.own _ e.symm
    rw [hcs] at h1; simp at h1
  have hn : ∀ m f cnt, NamedAt w B m f cnt → NamedAt w2 B m f cnt := fun m f cnt hn => hn.kept hg (fun r e k => by
    obtain ⟨_, es, c, h1⟩ := hn.is_map e
    obtain ⟨_, cur, h2⟩ := own_block h.own _ k.symm
    rw [h1] at h2; cases h2)
  have hb2 : BoxAt w2 b 55 (audC S lv) := h.box.grown hg hne
  have hg2 := grown_set w2 b 14 lv'
  have hcs2 : w2.heap[b]? = some (.cells (audC S lv).toArray 55 (0, 0)) := hb2
  have hk : ∀ m f cnt, NamedAt w2 B m f cnt → NamedAt (w2.setCell ⟨b, 14, none⟩ lv') B m f cnt := fun m f cnt hn => hn.kept hg2 (fun r e k => by
    cases k
    obtain ⟨_, es, c, h1⟩ := hn.is_map e
    rw [hcs2] at h1; cases h1)
  refine ⟨⟨hb2.set 14 lv', ?_, hk _ _ _ (hn _ _ _ h.n0), hk _ _ _ (hn _ _ _ h.n1), h.apart, h.ge⟩, ?_⟩
  · have : w2.ownsRow B 9 1 lv' (S.l ++ [x]).length ((S.l ++ [x]).map strV) := by rw [List.length_append, List.map_append]; exact ho
    refine own_row this hg2 (fun r e k => ?_)
    cases e
    obtain ⟨_, cur, h1⟩ := own_block this _ k
    rw [hcs2] at h1; simp at h1
  · have k2 : KeepA B w2 (w2.setCell ⟨b, 14, none⟩ lv') := KeepA.of_grown hg2 h.ge (fun cs T fr h1 => by rw [hcs2] at h1; cases h1; exact .inl rfl)
    refine KeepA.trans ?_ k2
    cases hl : lv.ownBlock with
    | none => rw [hl] at hg; exact KeepA.of_none hg
    | some r =>
      rw [hl] at hg
      obtain ⟨h1, cur, h2⟩ := own_block h.own _ hl
      exact KeepA.of_grown hg h1 (fun cs T fr h3 => by rw [h2] at h3; cases h3; exact .inr rfl)
theorem info_s1 : (Tryd.prog.info? 9).map (fun i => (i.zero, i.size, i.bytes)) = some (some (.string ⟨#[]⟩), 1, 16) := by kernel_rfl
end Go.Proofs.YtbppgicdmkkmnaaDoor
