/-
  A law for a range over a function whose iterator keeps its state in a cell of its own.
-/
import Derived.RangeFuncNested
import Derived.RangeFuncBound
import Derived.RangeFuncCalls
import Derived.RangeFuncLeaves
import Derived.Lib.Hide
set_option linter.unusedVariables false
set_option linter.unusedSimpArgs false
namespace Go.Proofs.YtgilbdhoddmpbaaDoor
open Go Go.RowKit

/-- What a round leaves alone: the blocks from lo to hi. -/
structure KeepB (lo hi : Nat) (W W' : World) : Prop where
  size : W.heap.size ≤ W'.heap.size
  same : ∀ k, lo ≤ k → k < hi → W'.heap[k]? = W.heap[k]?
theorem KeepB.refl (lo hi : Nat) (W : World) : KeepB lo hi W W := ⟨Nat.le_refl _, fun _ _ _ => rfl⟩
theorem KeepB.trans {lo hi : Nat} {A B C : World} (h : KeepB lo hi A B) (k : KeepB lo hi B C) : KeepB lo hi A C :=
  ⟨Nat.le_trans h.size k.size, fun i h1 h2 => (k.same i h1 h2).trans (h.same i h1 h2)⟩
theorem KeepB.putObj {lo hi : Nat} {W : World} {l : Nat} {o : Obj} (h : hi ≤ l) : KeepB lo hi W (W.putObj l o) :=
  ⟨by simp, fun k _ h2 => World.putObj_heap_other (by omega)⟩

/-- The iterator's word: it may store into its own cell at any time. -/
def Turns {β : Type} (B : Nat) (J : β → World → Prop) : Prop := ∀ s W v, J s W → J s (W.setCell ⟨B, 0, none⟩ v)

def SeqCell {α : Type} (F : Fence) (n : Nat) (P : Program) (g : Nat) (lb : Array Value) (enc : α → Value) (B hi : Nat) (S Sp : List α → Prop) (w : World) : Prop :=
  ∀ (l : Nat) (J Jx : List α → World → Prop) (W : World), Below w.heap.size w W → Turns B J → Turns B Jx →
    (∀ pre x W1, J pre W1 → Sp (pre ++ [x]) → YieldAt F (n - 1) P l #[enc x] W1 fun e W' =>
      (e = .returned (.bool true) ∧ J (pre ++ [x]) W' ∧ KeepB B hi W1 W') ∨ (e = .returned (.bool false) ∧ Jx (pre ++ [x]) W')) →
    J [] W →
    CallsIn F n P g (#[.func (.yield l) #[] #[]] ++ lb) W fun e W' => (∃ v, e = .returned v) ∧ ((∃ xs, S xs ∧ J xs W') ∨ (∃ pre, Sp pre ∧ Jx pre W'))

variable {F : Fence} {n : Nat} {P : Program}

theorem range_cell {α : Type} {g : Operand} {p : Tmp} {assign body : Code} {Q : Exit → Act → World → Prop} {a : Act} {w : World}
    (hro : F.round = none) (h1 : 1 ≤ n) {gf : Nat} {lb : Array Value} (hg : a.eval g = .func (.func gf) #[] lb) (hFg : F.fn gf) (eg : ∀ args w, (callFunc gf args).run P w = .ok (.enter gf args) w)
    {enc : α → Value} {B hi : Nat} {S Sp : List α → Prop} (hB : B < w.heap.size) (hhi : hi ≤ w.heap.size) (hseq : SeqCell F (n - 1) P gf lb enc B hi S Sp w)
    (I : List α → World → Prop) (Ix : Code → List α → World → Prop) (hI : OwnFrom w.heap.size I) (hIx : ∀ c, OwnFrom w.heap.size (Ix c)) (hT : Turns B I) (hTx : ∀ c, Turns B (Ix c)) (h0 : I [] w) (a₁ : α → Act)
    (hassign : ∀ (l : Nat) (x : α) (W : World) (K : Act → World → Prop), K (a₁ x) W →
      assign.wpIn (F.inRound l) (n - 1 - 1) P (Exit.then K (fun _ _ _ => False)) { tmps := (#[p].zip #[enc x]).foldl (fun t (p, v) => t.setIfInBounds p v) a.tmps, defers := [] } W)
    (hbody : ∀ (l : Nat) (pre : List α) (x : α) (W : World), I pre W → Sp (pre ++ [x]) → body.wpIn (F.inRound l) (n - 1 - 1) P (ownPostG w.heap.size (KeepB B hi) I Ix (pre ++ [x]) W) (a₁ x) W)
    (hdone : ∀ (D : Nat) (xs : List α) (W : World), w.heap.size ≤ D → S xs → I xs W → W.heap[D]? = some (.deferred (some [])) → Q .normal { a with defers := { target := .collected D, args := #[] } :: a.defers } W)
    (hstop : ∀ (D : Nat) (c : Code) (pre : List α) (W : World), w.heap.size ≤ D → Sp pre → Ix c pre W → W.heap[D]? = some (.deferred (some [])) → c.wpIn F n P Q { a with defers := { target := .collected D, args := #[] } :: a.defers } W) :
    (Code.rangeFunc g #[p] assign body).wpIn F n P Q a w := by
  refine wpIn_rangeFunc fun fn hfn => ?_
  rw [hro]
  -- the two blocks that the statement lays: D for the rounds' deferred calls, D + 1 for the loop's record
  generalize hD : w.heap.size = D at *
  let R : LoopState → Option Code → Loop := fun st pe => { state := st, pending := pe, fn, tmps := a.tmps, params := #[p], assign, body, defers := D }
  let W1 : World := (w.alloc (.deferred (some []))).alloc (.loop (R .ready none))
  have hz1 : W1.heap.size = D + 2 := by simp [W1, hD]
  have hl1 : W1.heap[D + 1]? = some (.loop (R .ready none)) := by
    have := World.alloc_heap_new (w.alloc (.deferred (some []))) (.loop (R .ready none))
    rwa [World.size_alloc, hD] at this
  have hd1 : W1.heap[D]? = some (.deferred (some [])) := by
    refine (Below.heap_alloc (w.alloc (.deferred (some []))) _ D (by simp [hD])).trans ?_
    have := World.alloc_heap_new w (.deferred (some []))
    rwa [hD] at this
  have hi1 : I [] W1 := hI.alloc _ (hI.alloc _ h0)
  have hb1 : Below D w W1 := ((Below.refl D w).alloc (by omega) _).alloc (by simp [hD]) _
  -- what holds between two rounds, and behind a round that left
  let Mark : LoopState → Option Code → World → Prop := fun st pe X => X.heap[D + 1]? = some (.loop (R st pe)) ∧ X.heap[D]? = some (.deferred (some []))
  have mset : ∀ {st pe X} (v : Value), Mark st pe X → Mark st pe (X.setCell ⟨B, 0, none⟩ v) := fun v h =>
    ⟨(Below.heap_setCell _ _ _ _ (by simp; omega)).trans h.1, (Below.heap_setCell _ _ _ _ (by simp; omega)).trans h.2⟩
  have mput : ∀ {st pe X} (st' : LoopState) (pe' : Option Code), Mark st pe X → Mark st' pe' (X.putObj (D + 1) (.loop (R st' pe'))) := fun st' pe' h =>
    ⟨World.putObj_heap_same (Array.getElem?_eq_some_iff.1 h.1).1, (World.putObj_heap_other (by omega)).trans h.2⟩
  have mkeep : ∀ {st pe X Y}, Mark st pe X → KeepsFrom D X Y → Mark st pe Y := fun h k => ⟨k.same _ _ (by omega) h.1 rfl, k.same _ _ (Nat.le_refl _) h.2 rfl⟩
  refine ⟨D + 1, [{ target := .collected D, args := #[] }], W1, { target := .fn (.func gf) lb, args := #[.func (.yield (D + 1)) #[] #[]] }, W1, gf, #[.func (.yield (D + 1)) #[] #[]] ++ lb, W1, ?_, ?_, ?_, ?_, fun _ => h1, ?_⟩
  · subst hD
    exact run_enterLoop_outer _ _ _ _ _
  · simp only [resolve, hg]; simp [go_sem]
  · intro f' hf'; simp [Target.leads] at hf'; subst hf'; exact hFg
  · simp [invoke, go_sem, eg]
  refine (hseq (D + 1) (fun pre X => I pre X ∧ Mark .ready none X) (fun pre X => ∃ c, Ix c pre X ∧ Mark .done (some c) X) W1 (by rw [hD]; exact hb1)
    (fun s X v h => ⟨hT s X v h.1, mset v h.2⟩) (fun s X v h => by obtain ⟨c, h1, h2⟩ := h; exact ⟨c, hTx c s X v h1, mset v h2⟩) ?_ ⟨hi1, hl1, hd1⟩).mono ?_
  · rintro pre x X ⟨hi, hm⟩ hsp
    have hy := run_yield (P := P) (args := #[enc x]) hm.1 rfl
    refine ⟨fn, _, assign, body, hy, roundIn_of_wpIn hfn (hassign _ x X _ ⟨_, run_beginRound hm.1 rfl, ?_⟩)⟩
    have hm2 : Mark .busy none (X.putObj (D + 1) (.loop (R .busy none))) := mput .busy none hm
    refine wpIn_mono (hbody _ pre x _ (hI.putObj _ hi (by omega) hm.1 rfl) hsp) ?_
    have leave : ∀ (j : Option Code) (Y : World), KeepsFrom D (X.putObj (D + 1) (.loop (R .busy none))) Y →
        (Instr.endRound (D + 1) j).run P Y = .ok (.bool j.isNone) (Y.putObj (D + 1) (.loop (R (if j.isNone then .ready else .done) j))) ∧ Mark .busy none Y := fun j Y hk => ⟨run_endRound (P := P) j (mkeep hm2 hk).1, mkeep hm2 hk⟩
    rintro e a3 Y hp
    match e, hp with
    | .normal, ⟨hk, hkp, hi3⟩ =>
      obtain ⟨hr, hm3⟩ := leave none Y hk
      exact ⟨_, _, hr, .inl ⟨rfl, ⟨hI.putObj _ hi3 (by omega) hm3.1 rfl, mput .ready none hm3⟩, ((KeepB.putObj (by omega)).trans hkp).trans (KeepB.putObj (by omega))⟩⟩
    | .ret, ⟨hk, hi3⟩ =>
      obtain ⟨hr, hm3⟩ := leave (some .ret) Y hk
      exact ⟨_, _, hr, .inr ⟨rfl, .ret, (hIx _).putObj _ hi3 (by omega) hm3.1 rfl, mput .done (some .ret) hm3⟩⟩
    | .exit id, ⟨hk, hi3⟩ =>
      obtain ⟨hr, hm3⟩ := leave (some (.exit id)) Y hk
      exact ⟨_, _, hr, .inr ⟨rfl, .exit id, (hIx _).putObj _ hi3 (by omega) hm3.1 rfl, mput .done (some (.exit id)) hm3⟩⟩
    | .goto t, ⟨hk, hi3⟩ =>
      obtain ⟨hr, hm3⟩ := leave (some (.goto t)) Y hk
      exact ⟨_, _, hr, .inr ⟨rfl, .goto t, (hIx _).putObj _ hi3 (by omega) hm3.1 rfl, mput .done (some (.goto t)) hm3⟩⟩
  · rintro e X ⟨⟨v, rfl⟩, (⟨xs, hS, hi, hm⟩ | ⟨pre, hSp, c, hi, hm⟩)⟩
    · exact ⟨none, _, run_endLoop (P := P) hm.1 (by simp [R]), hdone _ xs _ (Nat.le_refl _) hS (hI.putObj _ hi (by omega) hm.1 rfl) ((World.putObj_heap_other (by omega)).trans hm.2)⟩
    · exact ⟨some c, _, run_endLoop (P := P) hm.1 (by simp [R]), hstop _ c pre _ (Nat.le_refl _) hSp ((hIx c).putObj _ hi (by omega) hm.1 rfl) ((World.putObj_heap_other (by omega)).trans hm.2)⟩
end Go.Proofs.YtgilbdhoddmpbaaDoor
