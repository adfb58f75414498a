/-
  Contract of line.Parse, of any text.
-/
import Derived.Test.YtgilbdhoddmpbaaDoorLnStep
import Derived.Test.YtgilbdhoddmpbaaDoorLnSeq
import Derived.Test.YtgilbdhoddmpbaaDoorPlainScan
import Derived.Outline
import Derived.Deep.AppendLies
set_option linter.unusedVariables false
set_option linter.unusedSimpArgs false
namespace Go.Proofs.YtgilbdhoddmpbaaDoor
open Go.RowKit Go.Shelf
attribute [local go_sem] Oper.semAt_some

def stpC (x : Stp) (nv : Value) : List Value := [.string ⟨x.word.toArray⟩, nv, .string ⟨x.ask.toArray⟩, .string ⟨x.data.toArray⟩]
def stpCs (xs : List Stp) (nvs : List Value) : List Value := (List.zipWith stpC xs nvs).flatten
theorem stpCs_snoc (xs : List Stp) (nvs : List Value) (x : Stp) (nv : Value) (h : nvs.length = xs.length) : stpCs (xs ++ [x]) (nvs ++ [nv]) = stpCs xs nvs ++ stpC x nv := by
  unfold stpCs
  rw [List.zipWith_append h.symm]; simp
/-- What owns its row still owns it, where none of its cells was touched. -/
theorem row_kept {w w' : World} {base E sz n : Nat} {v : Value} {xs : List Value} {row : Option Nat} (h : w.ownsRow base E sz v n xs) (hg : w.grownBy w' row) (hr : ∀ r, row = some r → r < base ∨ ∀ cur, w.heap[r]? ≠ some (.cells cur E (0, 0))) : w'.ownsRow base E sz v n xs := by
  refine h.kept hg ?_
  rcases h.2 with ⟨rfl, _⟩ | ⟨g, cap, cur, rfl, hb, hgb, _⟩
  · exact .inl rfl
  · refine .inr fun e => ?_
    rcases hr g (by simpa [Value.ownBlock] using e.symm) with h1 | h1
    · omega
    · exact h1 cur hgb
/-- A row of steps, of a call's own. -/
structure StpsAt (w : World) (B : Nat) (v : Value) (xs : List Stp) (nvs : List Value) : Prop where
  len : nvs.length = xs.length
  row : w.ownsRow B 34 4 v xs.length (stpCs xs nvs)
  nums : ∀ j (h : j < xs.length), ∃ nv, nvs[j]? = some nv ∧ w.ownsRow B 3 1 nv xs[j].nums.length (numV xs[j].nums)
theorem StpsAt.nil (w : World) (B : Nat) : StpsAt w B (.slice none 0 0) [] [] := ⟨rfl, World.ownsRow_nil _ _ _ _, fun j h => by simp at h⟩
theorem StpsAt.kept {w w' : World} {B : Nat} {v : Value} {xs : List Stp} {nvs : List Value} {row : Option Nat} (h : StpsAt w B v xs nvs) (hg : w.grownBy w' row) (hr : ∀ r, row = some r → r < B ∨ ∀ cur T, w.heap[r]? ≠ some (.cells cur T (0, 0))) : StpsAt w' B v xs nvs :=
  ⟨h.len, row_kept h.row hg (fun r e => (hr r e).imp id (fun k cur => k cur _)), fun j hj => by
    obtain ⟨nv, h1, h2⟩ := h.nums j hj
    exact ⟨nv, h1, row_kept h2 hg (fun r e => (hr r e).imp id (fun k cur => k cur _))⟩⟩
theorem grown_of_below {w w' : World} (hb : Below w.heap.size w w') : w.grownBy w' none := ⟨hb.os, hb.tape, hb.output, hb.size, fun k hk _ => hb.block k hk⟩
theorem StpsAt.below {w w' : World} {B : Nat} {v : Value} {xs : List Stp} {nvs : List Value} (h : StpsAt w B v xs nvs) (hb : Below w.heap.size w w') : StpsAt w' B v xs nvs :=
  h.kept (grown_of_below hb) (fun r e => by cases e)
theorem StpsAt.low {w : World} {B C : Nat} {v : Value} {xs : List Stp} {nvs : List Value} (h : StpsAt w B v xs nvs) (hc : C ≤ B) : StpsAt w C v xs nvs :=
  ⟨h.len, by
    obtain ⟨h1, h2 | ⟨q, cap, cur, hv, hB, hq, rest⟩⟩ := h.row
    · exact ⟨h1, .inl h2⟩
    · exact ⟨h1, .inr ⟨q, cap, cur, hv, by omega, hq, rest⟩⟩, fun j hj => by
    obtain ⟨nv, h1, h2⟩ := h.nums j hj
    exact ⟨nv, h1, own_low h2 hc⟩⟩
/-- One more step: the row has grown. -/
theorem StpsAt.snoc {w w' : World} {B : Nat} {v v' nv : Value} {xs : List Stp} {nvs : List Value} {x : Stp} (h : StpsAt w B v xs nvs) (hx : w.ownsRow B 3 1 nv x.nums.length (numV x.nums)) (hg : w.grownBy w' v.ownBlock)
    (hr : w'.ownsRow B 34 4 v' (xs.length + 1) (stpCs xs nvs ++ stpC x nv)) : StpsAt w' B v' (xs ++ [x]) (nvs ++ [nv]) := by
  have hty : ∀ r, v.ownBlock = some r → r < B ∨ ∀ cur, w.heap[r]? ≠ some (.cells cur 3 (0, 0)) := fun r e => .inr fun cur hc => by
    rcases h.row.2 with ⟨rfl, _⟩ | ⟨g, cap, cur', rfl, hb, hgb, _⟩
    · simp [Value.ownBlock] at e
    · simp [Value.ownBlock] at e; subst e
      rw [hgb] at hc; simp at hc
  refine ⟨by simp [h.len], by rw [stpCs_snoc _ _ _ _ h.len, List.length_append]; exact hr, fun j hj => ?_⟩
  by_cases hj1 : j < xs.length
  · obtain ⟨u, h1, h2⟩ := h.nums j hj1
    exact ⟨u, by rw [List.getElem?_append_left (by rw [h.len]; exact hj1)]; exact h1, by rw [List.getElem_append_left hj1]; exact row_kept h2 hg hty⟩
  · have hj2 : j = xs.length := by simp at hj; omega
    subst hj2
    exact ⟨nv, by rw [← h.len]; simp, by simp; exact row_kept hx hg hty⟩
def LparseEnd (R : List Stp × Nat × Bool) (w : World) (e : Ending) (w' : World) : Prop :=
  Below w.heap.size w w' ∧ ∃ v nvs, e = .returned (.tuple #[v, .int .i64 (R.2.1 : Int), .bool R.2.2]) ∧ StpsAt w' w.heap.size v R.1 nvs
theorem splitSeq_any (s : ByteArray) (w : World) : Calls Tryd.prog 28 #[.string s, .string ⟨#[10]⟩, .int .i64 0] w fun e w' => e = .returned (.func (.func 38) #[] #[.pointer (some ⟨w.heap.size + 1, 0, none⟩), .pointer (some ⟨w.heap.size, 0, none⟩), .pointer (some ⟨w.heap.size + 2, 0, none⟩)]) ∧
    w' = ((w.alloc (.cells #[.string s] 9)).alloc (.cells #[.string ⟨#[10]⟩] 9)).alloc (.cells #[.int .i64 0] 3) := by
  go_enter Tryd.func28, Tryd.ntmps28
  go_wp2_with fail
  go_ret
  exact ⟨rfl, rfl⟩
theorem SplitSeq_any (s : ByteArray) (w : World) : Calls Tryd.prog 18 #[.string s, .string ⟨#[10]⟩] w fun e w' => e = .returned (.func (.func 38) #[] #[.pointer (some ⟨w.heap.size + 1, 0, none⟩), .pointer (some ⟨w.heap.size, 0, none⟩), .pointer (some ⟨w.heap.size + 2, 0, none⟩)]) ∧
    w' = ((w.alloc (.cells #[.string s] 9)).alloc (.cells #[.string ⟨#[10]⟩] 9)).alloc (.cells #[.int .i64 0] 3) := by
  go_enter Tryd.func18, Tryd.ntmps18
  go_wp2_with fail
  refine (splitSeq_any s w).mono ?_
  rintro e w' ⟨rfl, rfl⟩
  go_wp2_with fail
  go_ret
  exact ⟨rfl, rfl⟩
/-- Between two rounds. -/
structure ParC (w : World) (b0 b1 b2 b3 b4 : Nat) (k : Int) (W : World) (out : List Stp) (v : Value) (nvs : List Value) : Prop where
  le : out.length ≤ 400
  r0 : BoxAt W b0 24 [.slice none 0 0]
  r1 : BoxAt W b1 3 [.int .i64 0]
  r2 : BoxAt W b2 4 [.bool false]
  o : BoxAt W b3 24 [v]
  n : BoxAt W b4 3 [.int .i64 k]
  steps : StpsAt W (b0 + 8) v out nvs
  bel : Below b0 w W
  ge : b0 + 8 ≤ W.heap.size
/-- Where a round has left. -/
structure ParX (w : World) (b0 b1 b2 : Nat) (pre : List (List UInt8)) (W : World) : Prop where
  bad : Bad pre
  r0 : BoxAt W b0 24 [.slice none 0 0]
  r1 : BoxAt W b1 3 [.int .i64 (pre.length : Int)]
  r2 : BoxAt W b2 4 [.bool false]
  bel : Below b0 w W
theorem box_own {W W' : World} {b T : Nat} {cs : List Value} {row : Option Nat} (h : BoxAt W b T cs) (hg : W.grownBy W' row) (hr : ∀ r, row = some r → ∃ o : Obj, W.heap[r]? = some o ∧ o.isCells = false) : BoxAt W' b T cs :=
  h.grown hg (fun e => by
    obtain ⟨o, ho, hc⟩ := hr b e.symm
    unfold BoxAt at h
    rw [h] at ho; cases ho; cases hc)
theorem ParC.own {w W W' : World} {b0 b1 b2 b3 b4 : Nat} {k : Int} {out : List Stp} {v : Value} {nvs : List Value} {row : Option Nat} (h : ParC w b0 b1 b2 b3 b4 k W out v nvs) (hg : W.grownBy W' row) (hr : ∀ r, row = some r → b0 ≤ r ∧ ∃ o : Obj, W.heap[r]? = some o ∧ o.isCells = false) : ParC w b0 b1 b2 b3 b4 k W' out v nvs :=
  have h2 := fun r e => (hr r e).2
  ⟨h.le, box_own h.r0 hg h2, box_own h.r1 hg h2, box_own h.r2 hg h2, box_own h.o hg h2, box_own h.n hg h2, h.steps.kept hg (fun r e => .inr fun cur T hc => by
    obtain ⟨o, ho, hq⟩ := h2 r e
    rw [hc] at ho; cases ho; cases hq), h.bel.grown hg (Nat.le_of_lt h.r0.lt) (fun r e => (hr r e).1), Nat.le_trans h.ge hg.size⟩
theorem ParC.below {w W W' : World} {b0 b1 b2 b3 b4 : Nat} {k : Int} {out : List Stp} {v : Value} {nvs : List Value} (h : ParC w b0 b1 b2 b3 b4 k W out v nvs) (hb : Below W.heap.size W W') : ParC w b0 b1 b2 b3 b4 k W' out v nvs :=
  h.own (grown_of_below hb) (fun r e => by cases e)
theorem ParX.own {w W W' : World} {b0 b1 b2 : Nat} {pre : List (List UInt8)} {row : Option Nat} (h : ParX w b0 b1 b2 pre W) (hg : W.grownBy W' row) (hr : ∀ r, row = some r → b0 ≤ r ∧ ∃ o : Obj, W.heap[r]? = some o ∧ o.isCells = false) : ParX w b0 b1 b2 pre W' :=
  have h2 := fun r e => (hr r e).2
  ⟨h.bad, box_own h.r0 hg h2, box_own h.r1 hg h2, box_own h.r2 hg h2, h.bel.grown hg (Nat.le_of_lt h.r0.lt) (fun r e => (hr r e).1)⟩
theorem grown_set1 (W : World) (b : Nat) (v : Value) : W.grownBy (W.setCell ⟨b, 0, none⟩ v) (some b) := ⟨rfl, rfl, rfl, by simp, fun k hk h => Below.heap_setCell _ _ _ _ (fun e => h (by rw [e]))⟩
theorem ParC.turn {w W : World} {b0 b1 b2 b3 b4 B : Nat} {k : Int} {out : List Stp} {x : Value} {nvs : List Value} (h : ParC w b0 b1 b2 b3 b4 k W out x nvs) (h0 : b0 < B) (h1 : b1 < B) (h2 : b2 < B) (h3 : b3 < B) (h4 : b4 < B) (hB : B < b0 + 8) (v : Value) : ParC w b0 b1 b2 b3 b4 k (W.setCell ⟨B, 0, none⟩ v) out x nvs :=
  ⟨h.le, h.r0.other (by simp; omega) v, h.r1.other (by simp; omega) v, h.r2.other (by simp; omega) v, h.o.other (by simp; omega) v, h.n.other (by simp; omega) v, h.steps.kept (grown_set1 W B v) (fun r e => by cases e; exact .inl hB), h.bel.setCell (p := ⟨B, 0, none⟩) (by simp; omega) v, by simpa using h.ge⟩
theorem ParC.tick {w W : World} {b0 b1 b2 b3 b4 : Nat} {k : Int} {out : List Stp} {x : Value} {nvs : List Value} (h : ParC w b0 b1 b2 b3 b4 k W out x nvs) (h01 : b0 + 1 = b1) (h12 : b1 + 1 = b2) (h23 : b2 + 1 = b3) (h34 : b3 + 1 = b4) (k' : Int) : ParC w b0 b1 b2 b3 b4 k' (W.setCell ⟨b4, 0, none⟩ (.int .i64 k')) out x nvs :=
  ⟨h.le, h.r0.other (by simp; omega) _, h.r1.other (by simp; omega) _, h.r2.other (by simp; omega) _, h.o.other (by simp; omega) _, h.n.set 0 _, h.steps.kept (grown_set1 W b4 _) (fun r e => by cases e; exact .inl (by omega)), h.bel.setCell (p := ⟨b4, 0, none⟩) (by simp; omega) _, by simpa using h.ge⟩
theorem ParC.left {w W : World} {b0 b1 b2 b3 b4 : Nat} {k : Int} {out : List Stp} {x : Value} {nvs : List Value} {pre : List (List UInt8)} (h : ParC w b0 b1 b2 b3 b4 k W out x nvs) (hb : Bad pre) (hk : k = (pre.length : Int)) (h01 : b0 + 1 = b1) (h12 : b1 + 1 = b2) :
    ParX w b0 b1 b2 pre (((W.setCell ⟨b0, 0, none⟩ (.slice none 0 0)).setCell ⟨b1, 0, none⟩ (.int .i64 k)).setCell ⟨b2, 0, none⟩ (.bool false)) := by
  subst hk
  exact ⟨hb, ((h.r0.set 0 _).other (by simp; omega) _).other (by simp; omega) _, (((h.r1.other (by simp; omega) _).set 0 _)).other (by simp; omega) _, ((h.r2.other (by simp; omega) _).other (by simp; omega) _).set 0 _,
    ((h.bel.setCell (p := ⟨b0, 0, none⟩) (Nat.le_refl _) _).setCell (p := ⟨b1, 0, none⟩) (by simp; omega) _).setCell (p := ⟨b2, 0, none⟩) (by simp; omega) _⟩
theorem keepB_set {W : World} {lo hi b : Nat} {v : Value} (h : b < lo) : KeepB lo hi W (W.setCell ⟨b, 0, none⟩ v) := ⟨by simp, fun k h1 _ => Below.heap_setCell _ _ _ _ (by simp; omega)⟩
theorem keepB_grown {W W' : World} {lo hi : Nat} {row : Option Nat} (hg : W.grownBy W' row) (hh : hi ≤ W.heap.size) (hr : ∀ r, row = some r → hi ≤ r) : KeepB lo hi W W' := ⟨hg.size, fun k _ h2 => hg.block k (by omega) (fun e => by have := hr k e.symm; omega)⟩
theorem keepF_below {W W' : World} {D : Nat} (hb : Below W.heap.size W W') : KeepsFrom D W W' := ⟨hb.size, fun k o _ hk _ => (hb.block k (lt_of_block hk)).trans hk⟩
theorem keepF_grown {W W' : World} {D : Nat} {row : Option Nat} (hg : W.grownBy W' row) (hr : ∀ r, row = some r → ∃ cur T fr, W.heap[r]? = some (.cells cur T fr)) : KeepsFrom D W W' :=
  ⟨hg.size, fun k o _ hk ho => (hg.block k (lt_of_block hk) (fun e => by
    obtain ⟨cur, T, fr, hc⟩ := hr k e.symm
    rw [hk] at hc; cases hc; cases ho)).trans hk⟩
theorem own_row_block {w : World} {base E sz n : Nat} {v : Value} {xs : List Value} (h : w.ownsRow base E sz v n xs) : ∀ r, v.ownBlock = some r → ∃ cur T fr, w.heap[r]? = some (.cells cur T fr) := fun r e => by
  rcases h.2 with ⟨rfl, _⟩ | ⟨g, cap, cur, rfl, _, hgb, _⟩
  · simp [Value.ownBlock] at e
  · simp [Value.ownBlock] at e; subst e; exact ⟨_, _, _, hgb⟩
theorem part_mem {l pre : List (List UInt8)} {x : List UInt8} (h : pre ++ [x] <+: l) : x ∈ l ∧ pre.length + 1 ≤ l.length := by
  obtain ⟨t, rfl⟩ := h
  exact ⟨by simp, by simp⟩
theorem info_stp : (Tryd.prog.info? 34).map (fun i => (i.zero, i.size, i.bytes)) = some (some (.agg #[.string .empty, .slice none 0 0, .string .empty, .string .empty]), 4, 72) := by kernel_rfl
theorem ParX.turn {w W : World} {b0 b1 b2 B : Nat} {pre : List (List UInt8)} (h : ParX w b0 b1 b2 pre W) (h0 : b0 < B) (h1 : b1 < B) (h2 : b2 < B) (v : Value) : ParX w b0 b1 b2 pre (W.setCell ⟨B, 0, none⟩ v) :=
  ⟨h.bad, h.r0.other (by simp; omega) v, h.r1.other (by simp; omega) v, h.r2.other (by simp; omega) v, h.bel.setCell (p := ⟨B, 0, none⟩) (by simp; omega) v⟩
theorem seqCell3 (s : List UInt8) (hs : s.length ≤ 1000000) (B : Nat) (w : World) (hq : SeqAt w B s) :
    SeqCell Fence.wide (4 - 1) Tryd.prog 38 #[.pointer (some ⟨B + 1, 0, none⟩), .pointer (some ⟨B, 0, none⟩), .pointer (some ⟨B + 2, 0, none⟩)] strV B (B + 3) (fun xs => xs = splitBy 10 s) (fun pre => pre <+: splitBy 10 s) w :=
  seq_cell s hs B w hq
theorem own_form {w : World} {base E sz n : Nat} {v : Value} {xs : List Value} (h : w.ownsRow base E sz v n xs) : ∃ a c, v = .slice a n c := by
  rcases h.2 with ⟨rfl, rfl⟩ | ⟨g, cap, cur, rfl, _⟩
  · exact ⟨none, 0, rfl⟩
  · exact ⟨_, cap, rfl⟩
theorem leave_keep (W : World) (D : Nat) (a b c : Addr) {u v x : Value} : KeepsFrom D W (((W.setCell a u).setCell b v).setCell c x).drew :=
  ((((KeepsOthers.setCell W a u).trans (KeepsOthers.setCell _ b v)).trans (KeepsOthers.setCell _ c x)).trans (KeepsOthers.drew _)).from D
theorem ParX.drew {w W : World} {b0 b1 b2 : Nat} {pre : List (List UInt8)} (h : ParX w b0 b1 b2 pre W) : ParX w b0 b1 b2 pre W.drew := ⟨h.bad, h.r0, h.r1, h.r2, h.bel.drew⟩
theorem ParC.more {w W W' : World} {b0 b1 b2 b3 b4 : Nat} {k : Int} {out : List Stp} {y : Stp} {v nv : Value} {nvs : List Value} {o : Obj} {g cap : Nat} (h : ParC w b0 b1 b2 b3 b4 k W out v nvs) (hg : (W.alloc o).grownBy W' v.ownBlock)
    (hr : W'.ownsRow (b0 + 8) 34 4 (.slice (some ⟨g, 0, none⟩) (out.length + 1) cap) (out.length + 1) (stpCs out nvs ++ stpC y nv)) (hy : W.ownsRow (b0 + 8) 3 1 nv y.nums.length (numV y.nums)) (h1 : out.length ≤ 400) (h2 : out.length ≠ 400) (h01 : b0 + 1 = b1) (h12 : b1 + 1 = b2) (h23 : b2 + 1 = b3) (h34 : b3 + 1 = b4) :
    ParC w b0 b1 b2 b3 b4 k (W'.setCell ⟨b3, 0, none⟩ (.slice (some ⟨g, 0, none⟩) (out.length + 1) cap)) (out ++ [y]) (.slice (some ⟨g, 0, none⟩) (out.length + 1) cap) (nvs ++ [nv]) := by
  have hlt := h.steps.row.lt
  have hne : ∀ b, b < b0 + 8 → some b ≠ v.ownBlock := fun b hb e => by have := (hlt b e.symm).1; omega
  have ha := h.below ((Below.refl _ W).alloc (Nat.le_refl _) o)
  have hs : StpsAt W' (b0 + 8) (.slice (some ⟨g, 0, none⟩) (out.length + 1) cap) (out ++ [y]) (nvs ++ [nv]) := ha.steps.snoc (hy.alloc o) hg hr
  exact ⟨by simp; omega, (ha.r0.grown hg (hne _ (by omega))).other (by simp; omega) _, (ha.r1.grown hg (hne _ (by omega))).other (by simp; omega) _, (ha.r2.grown hg (hne _ (by omega))).other (by simp; omega) _, (ha.o.grown hg (hne _ (by omega))).set 0 _, (ha.n.grown hg (hne _ (by omega))).other (by simp; omega) _,
    hs.kept (grown_set1 W' b3 _) (fun r e => by cases e; exact .inl (by omega)), (ha.bel.grown hg (Nat.le_of_lt ha.r0.lt) (fun r e => by have := (hlt r e).1; omega)).setCell (p := ⟨b3, 0, none⟩) (by simp; omega) _, by have := hg.size; have := ha.ge; simp; omega⟩
theorem keepB_alloc_grown {W W' : World} {o : Obj} {lo hi : Nat} {row : Option Nat} (hg : (W.alloc o).grownBy W' row) (hh : hi ≤ W.heap.size) (hr : ∀ r, row = some r → hi ≤ r) : KeepB lo hi W W' :=
  (keepB_grown (World.grownBy_alloc W o none) hh (fun r e => by cases e)).trans (keepB_grown hg (by simp; omega) hr)
set_option maxRecDepth 100000 in
set_option maxHeartbeats 4000000 in
theorem lparse_any (s : ByteArray) (w : World) (hs : s.size ≤ 100000) (he : EnvM w) :
    Calls Tryd.prog 10 #[.string s] w (LparseEnd (parseL s.data.toList) w) := by
  refine (callsIn_wide (n := 4)).1 ?_
  refine callsIn_of_wp_marks Tryd.func10 rfl trivial ?_ rfl
  simp only [Tryd.ntmps10, List.size_toArray, List.length_cons, List.length_nil, Nat.reduceAdd, Nat.reduceSub, Array.replicate_succ, Array.replicate_zero, List.push_toArray, List.append_toArray, List.nil_append, List.cons_append]
  gi_wp2
  refine ⟨trivial, ?_⟩
  refine (callsIn_wide.2 (SplitSeq_any s _)).mono ?_
  rintro e w1 ⟨rfl, hw1⟩
  have hz : w1.heap.size = w.heap.size + 1 + 1 + 1 + 1 + 1 + 3 := by rw [hw1]; simp
  have HSQ : Hid (SeqAt w1 (w.heap.size + 1 + 1 + 1 + 1 + 1) s.data.toList) := Lib.hid (by
    rw [hw1]
    refine ⟨?_, ?_, ?_⟩
    · exact ((BoxAt.newAt (by simp) _ _).alloc).alloc
    · exact (BoxAt.newAt (by simp) _ _).alloc
    · exact BoxAt.newAt (by simp) _ _)
  have HI0 : Hid (ParC w w.heap.size (w.heap.size + 1) (w.heap.size + 1 + 1) (w.heap.size + 1 + 1 + 1) (w.heap.size + 1 + 1 + 1 + 1) 0 w1 [] (.slice none 0 0) []) := Lib.hid (by
    rw [hw1]
    refine ⟨by simp, ?_, ?_, ?_, ?_, ?_, StpsAt.nil _ _, ?_, by simp⟩
    · exact ((((((BoxAt.newAt (by simp) _ _).alloc).alloc).alloc).alloc).alloc).alloc.alloc
    · exact (((((BoxAt.newAt (by simp) _ _).alloc).alloc).alloc).alloc).alloc.alloc
    · exact ((((BoxAt.newAt (by simp) _ _).alloc).alloc).alloc).alloc.alloc
    · exact (((BoxAt.newAt (by simp) _ _).alloc).alloc).alloc.alloc
    · exact ((BoxAt.newAt (by simp) _ _).alloc).alloc.alloc
    · exact ((((((((Below.refl _ _).alloc (Nat.le_refl _) _).alloc (by simp) _).alloc (by simp; omega) _).alloc (by simp; omega) _).alloc (by simp; omega) _).alloc (by simp; omega) _).alloc (by simp; omega) _).alloc (by simp; omega) _)
  clear hw1
  have hwz : w.heap.size = w.heap.size := rfl
  generalize e5 : w.heap.size + 1 + 1 + 1 + 1 + 1 = B at *
  generalize e4 : w.heap.size + 1 + 1 + 1 + 1 = b4 at *
  generalize e3 : w.heap.size + 1 + 1 + 1 = b3 at *
  generalize e2 : w.heap.size + 1 + 1 = b2 at *
  generalize e1 : w.heap.size + 1 = b1 at *
  generalize e0 : w.heap.size = b0 at *
  gi_wp2
  have h01 : b0 + 1 = b1 := e1
  have h12 : b1 + 1 = b2 := by omega
  have h23 : b2 + 1 = b3 := by omega
  have h34 : b3 + 1 = b4 := by omega
  have h45 : b4 + 1 = B := by omega
  have HSL := Lib.hid (size_len s)
  have HPL : Hid (∀ x ∈ splitBy 10 s.data.toList, x.length ≤ 100000) := Lib.hid (fun x hx => by
    have := splitBy_le 10 s.data.toList x hx
    rw [size_len] at this; omega)
  have hwl : (splitBy 10 s.data.toList).length ≤ 100001 := by
    rw [splitBy_length]
    have := List.count_le_length (a := (10 : UInt8)) (l := s.data.toList)
    rw [size_len] at this; omega
  have HB0 := Lib.hid e0
  clear e0 e1 e2 e3 e4 e5
  refine range_cell (n := 4) rfl (by omega) (gf := 38) (lb := #[.pointer (some ⟨B + 1, 0, none⟩), .pointer (some ⟨B, 0, none⟩), .pointer (some ⟨B + 2, 0, none⟩)]) ?fv trivial (enters_of Tryd.func38 (by kernel_rfl) rfl)
    (enc := strV) (B := B) (hi := B + 3) (S := fun xs => xs = splitBy 10 s.data.toList) (Sp := fun pre => pre <+: splitBy 10 s.data.toList) (by omega) (by omega) (seqCell3 _ (by rw [HSL.out]; omega) B w1 HSQ.out)
    (fun pre W => ∃ out v nvs, Scd pre out ∧ ParC w b0 b1 b2 b3 b4 (pre.length : Int) W out v nvs) (fun c pre W => c = .ret ∧ ParX w b0 b1 b2 pre W)
    (fun s A A' row hs hg hr => by obtain ⟨out, v, nvs, hd, h⟩ := hs; exact ⟨out, v, nvs, hd, h.own hg (fun r e => by have := hr r e; exact ⟨by omega, this.2⟩)⟩)
    (fun c s A A' row hs hg hr => ⟨hs.1, hs.2.own hg (fun r e => by have := hr r e; exact ⟨by omega, this.2⟩)⟩)
    (fun s A v hs => by obtain ⟨out, x, nvs, hd, h⟩ := hs; exact ⟨out, x, nvs, hd, h.turn (by omega) (by omega) (by omega) (by omega) (by omega) (by omega) v⟩)
    (fun c s A v hs => ⟨hs.1, hs.2.turn (by omega) (by omega) (by omega) v⟩)
    ⟨[], _, [], Scd.nil, HI0.out⟩
    (fun x => { tmps := #[.string s, undef, .pointer (some ⟨b0, 0, none⟩), .pointer (some ⟨b1, 0, none⟩), .pointer (some ⟨b2, 0, none⟩), .pointer (some ⟨b3, 0, none⟩), .pointer (some ⟨b4, 0, none⟩), .string ⟨x.toArray⟩, undef, undef, .string s, .func (.func 38) #[] #[.pointer (some ⟨B + 1, 0, none⟩), .pointer (some ⟨B, 0, none⟩), .pointer (some ⟨B + 2, 0, none⟩)], .string ⟨x.toArray⟩, undef, undef, undef, undef, undef, undef, undef, undef, undef, undef, undef, undef, undef, undef, undef, undef, undef, undef, undef, undef, undef, undef, undef, undef, undef, undef], defers := [] }) ?assign ?body ?done ?stop
  case fv => rfl
  case assign =>
    intro l x W K hK
    gi_wp2
    exact hK
  case body =>
    rintro l pre x W ⟨out, v, nvs, hd, hP⟩ hpre
    have HD := Lib.hid hd
    obtain ⟨hxm, hpl⟩ := part_mem hpre
    have hxl := HPL.out x hxm
    have HP1 := Lib.hid (hP.tick h01 h12 h23 h34 ((pre.length : Int) + 1))
    have HP := Lib.hid hP
    have c4 := hP.n.cell 0
    have f4 := hP.n.froz 0
    simp only [List.getElem?_cons_zero] at c4
    have HX : Hid ((⟨x.toArray⟩ : ByteArray).data.toList = x) := Lib.hid rfl
    have HXS : Hid ((⟨x.toArray⟩ : ByteArray).size = x.length) := Lib.hid (size_arr x)
    have HPX := Lib.hid (fun W => Tryd.strings_HasPrefix ⟨x.toArray⟩ ⟨#[35]⟩ W)
    have HEW : Hid (EnvM (W.setCell ⟨b4, 0, none⟩ (.int .i64 ((pre.length : Int) + 1)))) := Lib.hid (he.below (HP1.out.bel.mono (by have := HB0.out; omega)))
    clear hd hpre hxm hP
    unfold strV at *
    by_cases hk : skipL x = true
    · have HN := Lib.hid (HD.out.skip hk)
      by_cases hx0 : x = []
      · have hq : (⟨x.toArray⟩ : ByteArray).toList.isEmpty = true := by rw [Lib.toList_data, HX.out, hx0]; rfl
        clear hk HPX hx0
        generalize (⟨x.toArray⟩ : ByteArray) = X at *
        gi_wp2
        refine ⟨trivial, ?_⟩
        gi_wp2
        exact ⟨(KeepsOthers.setCell _ _ _).from _, keepB_set (by omega), _, _, _, HN.out, by rw [List.length_append]; exact HP1.out⟩
      · have hq : (⟨x.toArray⟩ : ByteArray).toList.isEmpty = false := by rw [Lib.toList_data, HX.out]; simp [hx0]
        have hpf : Lib.hasPrefix (⟨x.toArray⟩ : ByteArray).data.toList (⟨#[35]⟩ : ByteArray).data.toList = true := by
          rw [HX.out]
          cases x with
          | nil => exact absurd rfl hx0
          | cons a t => simp [skipL] at hk; subst hk; simp [Lib.hasPrefix]
        rw [hpf] at HPX
        clear hk hx0 hpf
        generalize (⟨x.toArray⟩ : ByteArray) = X at *
        gi_wp2_with (refine ⟨trivial, ?_⟩; gi_at_call 19; refine (CallsIn.inRound l (callsIn_wide.2 (HPX.out _))).mono ?_; rintro e w' ⟨rfl, rfl⟩)
        exact ⟨(KeepsOthers.setCell _ _ _).from _, keepB_set (by omega), _, _, _, HN.out, by rw [List.length_append]; exact HP1.out⟩
    · have hk2 : skipL x = false := by simpa using hk
      have hx0 : x ≠ [] := fun e => by subst e; simp [skipL] at hk
      have hq : (⟨x.toArray⟩ : ByteArray).toList.isEmpty = false := by rw [Lib.toList_data, HX.out]; simp [hx0]
      have hpf : Lib.hasPrefix (⟨x.toArray⟩ : ByteArray).data.toList (⟨#[35]⟩ : ByteArray).data.toList = false := by
        rw [HX.out]
        cases x with
        | nil => exact absurd rfl hx0
        | cons a t =>
          have ha : a ≠ 35 := fun e => hk (by subst e; simp [skipL])
          have : (35 == a) = false := beq_eq_false_iff_ne.2 (fun e => ha e.symm)
          simp [Lib.hasPrefix, List.isPrefixOf, this]
      rw [hpf] at HPX
      have HST := Lib.hid (step_txt ⟨x.toArray⟩ _ (by rw [HXS.out]; omega) HEW.out)
      rw [HX.out] at HST
      have HSK := Lib.hid hk2
      clear hk hx0 hpf hk2
      generalize (⟨x.toArray⟩ : ByteArray) = X at *
      unfold StepEnd at HST
      gi_wp2_with (refine ⟨trivial, ?_⟩; gi_at_call 19; refine (CallsIn.inRound l (callsIn_wide.2 (HPX.out _))).mono ?_; rintro e w' ⟨rfl, rfl⟩)
      refine ⟨trivial, ?_⟩
      refine (CallsIn.inRound l (callsIn_wide.2 HST.out)).mono ?_
      rintro e w2 ⟨hb2, hpost⟩
      have HP2 := Lib.hid (HP1.out.below hb2)
      have HK2 : Hid (KeepsFrom w1.heap.size W w2) := Lib.hid (((KeepsOthers.setCell W ⟨b4, 0, none⟩ (.int .i64 ((pre.length : Int) + 1))).from _).trans (keepF_below hb2))
      have HG2 : Hid (KeepB B (B + 3) W w2) := Lib.hid ((keepB_set (by omega)).trans (keepB_grown (grown_of_below hb2) (by have := HP1.out.ge; omega) (fun r e => by cases e)))
      have hsz2 := hb2.size
      clear c4 f4
      cases hs : stepL x with
      | none =>
        rw [hs] at hpost
        simp only at hpost
        subst hpost
        have HBD := Lib.hid (HD.out.bad HSK.out (.inl hs))
        have HPA := Lib.hid (HP2.out.below ((Below.refl _ w2).alloc (Nat.le_refl _) (.cells #[.string ⟨#[]⟩, .slice none 0 0, .string ⟨#[]⟩, .string ⟨#[]⟩] 34)))
        have HKA : Hid (KeepsFrom w1.heap.size w2 (w2.alloc (.cells #[.string ⟨#[]⟩, .slice none 0 0, .string ⟨#[]⟩, .string ⟨#[]⟩] 34))) := Lib.hid (keepF_below ((Below.refl _ w2).alloc (Nat.le_refl _) _))
        clear hs hb2 HST HPX
        unfold stpV
        gi_wp2
        generalize w2.alloc (.cells #[.string ⟨#[]⟩, .slice none 0 0, .string ⟨#[]⟩, .string ⟨#[]⟩] 34) = w3 at *
        have c4 := HPA.out.n.cell 0
        have f0 := HPA.out.r0.froz 0
        have f1 := HPA.out.r1.froz 0
        have f2 := HPA.out.r2.froz 0
        have q0 := HPA.out.r0.cell 0
        have q1 := HPA.out.r1.cell 0
        have q2 := HPA.out.r2.cell 0
        simp only [List.getElem?_cons_zero] at c4 q0 q1 q2
        have hmx : Tryd.prog.follows .mixedOrders = true := by kernel_rfl
        gi_region_with_o (fail)
        all_goals gi_wp2
        all_goals exact ⟨(HK2.out.trans (HKA.out)).trans (leave_keep _ _ _ _ _), rfl, (HPA.out.left HBD.out (by simp) h01 h12).drew⟩
      | some y =>
        rw [hs] at hpost
        obtain ⟨nv, rfl, hnv⟩ := hpost
        have HOW : Hid (w2.ownsRow (b0 + 8) 3 1 nv y.nums.length (numV y.nums)) := Lib.hid (own_low hnv (by have := HP1.out.ge; omega))
        obtain ⟨na, nc, rfl⟩ := own_form hnv
        obtain ⟨va, vc, rfl⟩ := own_form HP2.out.steps.row
        have HPA := Lib.hid (HP2.out.below ((Below.refl _ w2).alloc (Nat.le_refl _) (.cells #[.string ⟨y.word.toArray⟩, .slice na y.nums.length nc, .string ⟨y.ask.toArray⟩, .string ⟨y.data.toArray⟩] 34)))
        have HKA : Hid (KeepsFrom w1.heap.size w2 (w2.alloc (.cells #[.string ⟨y.word.toArray⟩, .slice na y.nums.length nc, .string ⟨y.ask.toArray⟩, .string ⟨y.data.toArray⟩] 34))) := Lib.hid (keepF_below ((Below.refl _ w2).alloc (Nat.le_refl _) _))
        have HSA : Hid (BoxAt (w2.alloc (.cells #[.string ⟨y.word.toArray⟩, .slice na y.nums.length nc, .string ⟨y.ask.toArray⟩, .string ⟨y.data.toArray⟩] 34)) w2.heap.size 34 (stpC y (.slice na y.nums.length nc))) := Lib.hid (BoxAt.new w2 34 (stpC y (.slice na y.nums.length nc)))
        have HOA := Lib.hid (HOW.out.alloc (.cells #[.string ⟨y.word.toArray⟩, .slice na y.nums.length nc, .string ⟨y.ask.toArray⟩, .string ⟨y.data.toArray⟩] 34))
        have c3 := HPA.out.o.cell 0
        simp only [List.getElem?_cons_zero] at c3
        have hol := HPA.out.le
        by_cases h400 : out.length = 400
        · have HBD := Lib.hid (HD.out.bad HSK.out (.inr h400))
          have e400 : ((out.length : Int) == 400) = true := by simp; omega
          clear hs hb2 HST HPX hnv h400
          unfold stpV
          gi_wp2
          generalize w2.alloc (.cells #[.string ⟨y.word.toArray⟩, .slice na y.nums.length nc, .string ⟨y.ask.toArray⟩, .string ⟨y.data.toArray⟩] 34) = w3 at *
          have c4 := HPA.out.n.cell 0
          have f0 := HPA.out.r0.froz 0
          have f1 := HPA.out.r1.froz 0
          have f2 := HPA.out.r2.froz 0
          have q0 := HPA.out.r0.cell 0
          have q1 := HPA.out.r1.cell 0
          have q2 := HPA.out.r2.cell 0
          simp only [List.getElem?_cons_zero] at c4 q0 q1 q2
          have hmx : Tryd.prog.follows .mixedOrders = true := by kernel_rfl
          gi_region_with_o (fail)
          all_goals gi_wp2
          all_goals exact ⟨(HK2.out.trans (HKA.out)).trans (leave_keep _ _ _ _ _), rfl, (HPA.out.left HBD.out (by simp) h01 h12).drew⟩
        · have HN := Lib.hid (HD.out.step HSK.out hs h400)
          have e400 : ((out.length : Int) == 400) = false := beq_eq_false_iff_ne.2 (by omega)
          have hol4 : out.length < 400 := by omega
          obtain ⟨i0, hi, hz0, hz1, hz2⟩ := info_parts info_stp
          have HG3 : Hid (KeepB B (B + 3) W (w2.alloc (.cells #[.string ⟨y.word.toArray⟩, .slice na y.nums.length nc, .string ⟨y.ask.toArray⟩, .string ⟨y.data.toArray⟩] 34))) := Lib.hid (HG2.out.trans (keepB_grown (grown_of_below ((Below.refl _ w2).alloc (Nat.le_refl _) _)) (by have := HP2.out.ge; omega) (fun r e => by cases e)))
          clear hs hb2 HST HPX hnv h400 HP HP1 HP2 HG2 HOW
          unfold stpV
          have HROW := Lib.hid HPA.out.steps.row
          have hge := HPA.out.ge
          have g3 := HPA.out.o.froz 0
          obtain ⟨k0, k1, k2, k3⟩ := HSA.out.cells4
          have hz3 : (w2.alloc (.cells #[.string ⟨y.word.toArray⟩, .slice na y.nums.length nc, .string ⟨y.ask.toArray⟩, .string ⟨y.data.toArray⟩] 34)).heap.size = w2.heap.size + 1 := by simp
          have hwb : w2.heap.size + 1 + 1 = w2.heap.size + 2 := rfl
          gi_wp2_with (gi_at_builtin; refine wpListIn_append_own _ rfl _ _ 24 rfl (b0 + 8) 34 i0 _ 4 72 Tryd.underlying24 hi hz0 hz1 hz2 rfl (by decide) _ _ _ rfl (HROW.out.alloc _) ⟨w2.heap.size + 1, 0, none⟩ 1 1 (stpC y (.slice na y.nums.length nc)) rfl rfl ?c1 ?c2 ?c3 ?c4 ?c5 ?_)
          case c1 => exact World.news_of_block (cs := #[.string ⟨y.word.toArray⟩, .slice na y.nums.length nc, .string ⟨y.ask.toArray⟩, .string ⟨y.data.toArray⟩]) (t := 34) (fr := (0, 0)) (by rw [← hz3]; exact heap_alloc_new _ _)
          case c2 => simp [stpC, Value.oneCell']
          case c3 => unfold maxLen; omega
          case c4 => omega
          case c5 => simp; omega
          intro v' w4 hown4 hgrow _
          obtain ⟨g', cap', rfl⟩ := ownsRow_succ hown4
          have HN4 : Hid (ParC w b0 b1 b2 b3 b4 ((pre.length : Int) + 1) (w4.setCell ⟨b3, 0, none⟩ (.slice (some ⟨g', 0, none⟩) (out.length + 1) cap')) (out ++ [y]) (.slice (some ⟨g', 0, none⟩) (out.length + 1) cap') (nvs ++ [.slice na y.nums.length nc])) := Lib.hid
            (HPA.out.more hgrow hown4 HOA.out hol (by omega) h01 h12 h23 h34)
          have HG4 : Hid (KeepB B (B + 3) W (w4.setCell ⟨b3, 0, none⟩ (.slice (some ⟨g', 0, none⟩) (out.length + 1) cap'))) := Lib.hid ((HG3.out.trans (keepB_alloc_grown hgrow (by omega) (fun r e => by have := (HROW.out.lt r e).1; omega))).trans (keepB_set (by omega)))
          have HK4 : Hid (KeepsFrom w1.heap.size W (w4.setCell ⟨b3, 0, none⟩ (.slice (some ⟨g', 0, none⟩) (out.length + 1) cap'))) := Lib.hid (((HK2.out.trans HKA.out).trans ((keepF_below ((Below.refl _ _).alloc (Nat.le_refl _) _)).trans (keepF_grown hgrow (own_row_block (HROW.out.alloc _))))).trans ((KeepsOthers.setCell _ _ _).from _))
          have d3 := ((HPA.out.o.alloc).grown hgrow (fun e => by have := (HROW.out.lt b3 e.symm).1; omega)).cell 0
          have g4 := ((HPA.out.o.alloc).grown hgrow (fun e => by have := (HROW.out.lt b3 e.symm).1; omega)).froz 0
          simp only [List.getElem?_cons_zero] at d3
          clear k0 k1 k2 k3 c3 g3 hown4 hgrow HSA HOA HROW HPA
          gi_wp2
          exact ⟨HK4.out, HG4.out, _, _, _, HN.out, by rw [List.length_append]; exact HN4.out⟩
  case done =>
    rintro D ys W hD rfl ⟨out, v, nvs, hd, hP⟩ hK
    have HP := Lib.hid hP
    have HR : Hid (parseL s.data.toList = (out, 0, true)) := Lib.hid hd.all
    have c3 := hP.o.cell 0
    have f0 := hP.r0.froz 0
    have f1 := hP.r1.froz 0
    have f2 := hP.r2.froz 0
    have q0 := hP.r0.cell 0
    have q1 := hP.r1.cell 0
    have q2 := hP.r2.cell 0
    simp only [List.getElem?_cons_zero] at c3 q0 q1 q2
    obtain ⟨va, vc, rfl⟩ := own_form hP.steps.row
    clear hP hd
    gi_wp2
    have hb := HP.out
    have HK' := (((KeepsOthers.setCell W ⟨b0, 0, none⟩ (.slice va out.length vc)).trans (KeepsOthers.setCell _ ⟨b1, 0, none⟩ (.int .i64 0))).trans (KeepsOthers.setCell _ ⟨b2, 0, none⟩ (.bool true))).same D _ hK rfl
    refine ⟨by simp, .inl ⟨_, _, rfl, run_takeDeferred HK', ?_⟩⟩
    have x0 := (((hb.r0.set 0 (.slice va out.length vc)).other (a := ⟨b1, 0, none⟩) (by simp; omega) (.int .i64 0)).other (a := ⟨b2, 0, none⟩) (by simp; omega) (.bool true))
    have x1 := (((hb.r1.other (a := ⟨b0, 0, none⟩) (by simp; omega) (.slice va out.length vc)).set 0 (.int .i64 0)).other (a := ⟨b2, 0, none⟩) (by simp; omega) (.bool true))
    have x2 := (((hb.r2.other (a := ⟨b0, 0, none⟩) (by simp; omega) (.slice va out.length vc)).other (a := ⟨b1, 0, none⟩) (by simp; omega) (.int .i64 0)).set 0 (.bool true))
    have hst : StpsAt (((W.setCell ⟨b0, 0, none⟩ (.slice va out.length vc)).setCell ⟨b1, 0, none⟩ (.int .i64 0)).setCell ⟨b2, 0, none⟩ (.bool true)) (b0 + 8) (.slice va out.length vc) out nvs :=
      ((hb.steps.kept (grown_set1 W b0 _) (fun r e => by cases e; exact .inl (by omega))).kept (grown_set1 _ b1 _) (fun r e => by cases e; exact .inl (by omega))).kept (grown_set1 _ b2 _) (fun r e => by cases e; exact .inl (by omega))
    have hbl : Below b0 w (((W.setCell ⟨b0, 0, none⟩ (.slice va out.length vc)).setCell ⟨b1, 0, none⟩ (.int .i64 0)).setCell ⟨b2, 0, none⟩ (.bool true)) :=
      ((hb.bel.setCell (p := ⟨b0, 0, none⟩) (Nat.le_refl _) _).setCell (p := ⟨b1, 0, none⟩) (by simp; omega) _).setCell (p := ⟨b2, 0, none⟩) (by simp; omega) _
    generalize ((W.setCell ⟨b0, 0, none⟩ (.slice va out.length vc)).setCell ⟨b1, 0, none⟩ (.int .i64 0)).setCell ⟨b2, 0, none⟩ (.bool true) = W5 at *
    have hg := grownBy_putObj' W5 D (.deferred none)
    have hno : ∀ r, some D = some r → ∃ o : Obj, W5.heap[r]? = some o ∧ o.isCells = false := fun r e => by cases e; exact ⟨_, HK', rfl⟩
    have y0 := (box_own x0 hg hno).cell 0
    have y1 := (box_own x1 hg hno).cell 0
    have y2 := (box_own x2 hg hno).cell 0
    simp only [List.set_cons_zero, List.getElem?_cons_zero] at y0 y1 y2
    refine ⟨.tuple #[.slice va out.length vc, .int .i64 0, .bool true], by simp [results, Tryd.f10, go_sem, y0, y1, y2], ?_⟩
    unfold LparseEnd
    rw [HR.out, HB0.out]
    refine ⟨hbl.trans (belowK_b (w := w1) (by omega) W5 D _ _ hD HK' rfl rfl), _, nvs, rfl, ?_⟩
    exact (hst.kept hg (fun r e => .inr fun cur T hc => by
      obtain ⟨o, ho, hq⟩ := hno r e
      rw [hc] at ho; cases ho; cases hq)).low (by omega)
  case stop =>
    rintro D c pre W hD hpre ⟨rfl, hX⟩ hK
    have HX := Lib.hid hX
    have HR : Hid (parseL s.data.toList = ([], pre.length, false)) := Lib.hid (hX.bad.all hpre)
    clear hX
    gi_wp2
    refine ⟨by simp, .inl ⟨_, _, rfl, run_takeDeferred hK, ?_⟩⟩
    have c0 := (box_own HX.out.r0 (grownBy_putObj' W D (.deferred none)) (fun r e => by cases e; exact ⟨_, hK, rfl⟩)).cell 0
    have c1 := (box_own HX.out.r1 (grownBy_putObj' W D (.deferred none)) (fun r e => by cases e; exact ⟨_, hK, rfl⟩)).cell 0
    have c2 := (box_own HX.out.r2 (grownBy_putObj' W D (.deferred none)) (fun r e => by cases e; exact ⟨_, hK, rfl⟩)).cell 0
    simp only [List.getElem?_cons_zero] at c0 c1 c2
    refine ⟨.tuple #[.slice none 0 0, .int .i64 (pre.length : Int), .bool false], by simp [results, Tryd.f10, go_sem, c0, c1, c2], ?_⟩
    unfold LparseEnd
    rw [HR.out]
    refine ⟨?_, _, [], rfl, StpsAt.nil _ _⟩
    rw [HB0.out]
    exact HX.out.bel.trans (belowK_b (w := w1) (by omega) W D _ _ hD hK rfl rfl)
end Go.Proofs.YtgilbdhoddmpbaaDoor
