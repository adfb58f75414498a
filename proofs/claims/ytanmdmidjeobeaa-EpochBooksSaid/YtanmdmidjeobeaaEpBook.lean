/-
  A book of epochs, as it lies in memory; small contracts: begins, lastOf.
-/
import Derived.Test.YtanmdmidjeobeaaEpMatch
import Derived.Deep.RegionHeld3
import Derived.Deep.AppendLies
set_option linter.unusedVariables false
set_option linter.unusedSimpArgs false
namespace Go.Proofs.Ytanmdmidjeobeaa
open Go.RowKit

/-- A record whose unit is zero, as a value's cells. -/
def recCells (en kind sk : Int) (sd : ByteArray) (rk : Int) (rd : ByteArray) : Array Value :=
  #[.int .i64 en, .int .i64 kind, .int .i64 0, .int .i64 0, .int .u32 0, .int .u32 0, .int .u32 0, .slice none 0 0, .bool false, .string ⟨#[]⟩, .int .i64 sk, .string sd, .bool false, .int .u8 0, .int .i64 0, .int .i64 rk, .string rd, .int .i64 0]

def begB (kind sk rk : Int) : Bool := if kind = 5 then decide (sk = 2 ∨ sk = 6) else if kind = 6 then decide (rk = 2 ∨ rk = 5 ∨ rk = 6) else false

set_option maxHeartbeats 1000000 in
theorem begins_any (en kind sk : Int) (sd : ByteArray) (rk : Int) (rd : ByteArray) (w : World) :
    Calls Try.prog 15 #[.agg (recCells en kind sk sd rk rd)] w fun e w' => e = .returned (.bool (begB kind sk rk)) ∧ Below w.heap.size w w' := by
  unfold recCells
  by_cases h5 : kind = 5
  · subst h5
    have hb : begB 5 sk rk = decide (sk = 2 ∨ sk = 6) := by unfold begB; rw [if_pos rfl]
    rw [hb]
    by_cases h2 : sk = 2
    · subst h2
      go_enter Try.func15, Try.ntmps15
      go_wp2
      go_ret
      exact ⟨ret_bool (by simp), (Below.refl _ _).alloc (Nat.le_refl _) _⟩
    · have h2b : (sk == 2) = false := beq_eq_false_iff_ne.2 h2
      go_enter Try.func15, Try.ntmps15
      go_wp2
      go_ret
      exact ⟨ret_bool (by simp [h2]; rfl), (Below.refl _ _).alloc (Nat.le_refl _) _⟩
  · have h5b : (kind == 5) = false := beq_eq_false_iff_ne.2 h5
    by_cases h6 : kind = 6
    · subst h6
      have hb : begB 6 sk rk = decide (rk = 2 ∨ rk = 5 ∨ rk = 6) := by unfold begB; rw [if_neg (by decide), if_pos rfl]
      rw [hb]
      by_cases h2 : rk = 2
      · subst h2
        go_enter Try.func15, Try.ntmps15
        go_wp2
        go_ret
        exact ⟨ret_bool (by simp), (Below.refl _ _).alloc (Nat.le_refl _) _⟩
      · have h2b : (rk == 2) = false := beq_eq_false_iff_ne.2 h2
        by_cases h3 : rk = 5
        · subst h3
          go_enter Try.func15, Try.ntmps15
          go_wp2
          go_ret
          exact ⟨ret_bool (by simp), (Below.refl _ _).alloc (Nat.le_refl _) _⟩
        · have h3b : (rk == 5) = false := beq_eq_false_iff_ne.2 h3
          go_enter Try.func15, Try.ntmps15
          go_wp2
          go_ret
          exact ⟨ret_bool (by simp [h2, h3]; rfl), (Below.refl _ _).alloc (Nat.le_refl _) _⟩
    · have h6b : (kind == 6) = false := beq_eq_false_iff_ne.2 h6
      have hb : begB kind sk rk = false := by unfold begB; rw [if_neg h5, if_neg h6]
      rw [hb]
      go_enter Try.func15, Try.ntmps15
      go_wp2
      go_ret
      exact ⟨rfl, (Below.refl _ _).alloc (Nat.le_refl _) _⟩

theorem lastOf_nil (a : Option Addr) (c : Nat) (w : World) :
    Calls Try.prog 16 #[.slice a 0 c] w fun e w' => e = .returned (.pointer none) ∧ w = w' := by
  go_enter Try.func16, Try.ntmps16
  go_wp2
  go_ret
  exact ⟨rfl, rfl⟩
theorem lastOf_some (g n c : Nat) (w : World) (hn : n ≤ 1000000) :
    Calls Try.prog 16 #[.slice (some ⟨g, 0, none⟩) (n + 1) c] w fun e w' => e = .returned (.pointer (some ⟨g, n * 2, none⟩)) ∧ w = w' := by
  have h0 : ((n : Int) + 1 == 0) = false := beq_eq_false_iff_ne.2 (by omega)
  go_enter Try.func16, Try.ntmps16
  go_wp2
  go_ret
  exact ⟨by simp, rfl⟩

/-- The cells of m epochs. -/
def flatN (m : Nat) (f : Nat → Bool → Value) : List Value := (List.range m).flatMap fun j => [f j false, f j true]
theorem flatN_length (m : Nat) (f : Nat → Bool → Value) : (flatN m f).length = m * 2 := by
  unfold flatN
  induction m with
  | zero => rfl
  | succ m ih => rw [List.range_succ, List.flatMap_append, List.length_append, ih]; simp; omega
theorem flatN_succ (m : Nat) (f : Nat → Bool → Value) : flatN (m + 1) f = flatN m f ++ [f m false, f m true] := by
  unfold flatN; rw [List.range_succ, List.flatMap_append]; simp
theorem flatN_congr {m : Nat} {f g : Nat → Bool → Value} (h : ∀ j, j < m → ∀ q, f j q = g j q) : flatN m f = flatN m g := by
  induction m with
  | zero => rfl
  | succ m ih => rw [flatN_succ, flatN_succ, ih (fun j hj q => h j (by omega) q), h m (by omega) false, h m (by omega) true]
theorem flatN_get (m : Nat) (f : Nat → Bool → Value) (j : Nat) (hj : j < m) : (flatN m f)[j * 2]? = some (f j false) ∧ (flatN m f)[j * 2 + 1]? = some (f j true) := by
  induction m with
  | zero => omega
  | succ m ih =>
    rw [flatN_succ]
    have hl := flatN_length m f
    by_cases e : j = m
    · subst e
      rw [List.getElem?_append_right (by omega), List.getElem?_append_right (by omega), hl]
      simp
    · rw [List.getElem?_append_left (by omega), List.getElem?_append_left (by omega)]
      exact ih (by omega)

/-- A book at block b, its rows from B on: V the two rows' values, n how many epochs, R the texts' slices, X the texts. -/
structure BookAt (w : World) (B b : Nat) (n : Nat → Nat) (X : Nat → Nat → Bool → List ByteArray) (V : Nat → Value) (R : Nat → Nat → Bool → Value) : Prop where
  hB : B ≤ b
  block : w.heap[b]? = some (.cells #[V 0, V 1] 27 (0, 0))
  rows : ∀ e, e < 2 → w.ownsRow B 49 2 (V e) (n e) (flatN (n e) (R e))
  strs : ∀ e, e < 2 → ∀ j, j < n e → ∀ q, w.ownsRow B 9 1 (R e j q) (X e j q).length ((X e j q).map Value.string)
  apart : (V 0).ownBlock = none ∨ (V 0).ownBlock ≠ (V 1).ownBlock
  each : ∀ e, e < 2 → ∀ j, j < n e → ∀ q, ∀ e', e' < 2 → ∀ j', j' < n e' → ∀ q', (e, j, q) ≠ (e', j', q') → (R e j q).ownBlock = none ∨ (R e j q).ownBlock ≠ (R e' j' q').ownBlock

/-- Two rows of unlike element types lie apart. -/
theorem own_types {w : World} {B B' : Nat} {e e' : TypeId} {s s' : Nat} {v v' : Value} {n n' : Nat} {xs xs' : List Value} (h : w.ownsRow B e s v n xs) (h' : w.ownsRow B' e' s' v' n' xs') (hne : e ≠ e') : v.ownBlock = none ∨ v.ownBlock ≠ v'.ownBlock := by
  rcases h.2 with ⟨rfl, _⟩ | ⟨g, cap, cur, rfl, _, hg, _⟩
  · exact Or.inl rfl
  · right
    rcases h'.2 with ⟨rfl, _⟩ | ⟨g', cap', cur', rfl, _, hg', _⟩
    · simp [Value.ownBlock]
    · simp only [Value.ownBlock, ne_eq, Option.some.injEq]
      intro hgg
      subst hgg
      rw [hg] at hg'
      simp only [Option.some.injEq, Obj.cells.injEq] at hg'
      exact hne hg'.2.1
/-- A row lies apart from a block of another type. -/
theorem own_block {w : World} {B : Nat} {e T : TypeId} {s : Nat} {v : Value} {n : Nat} {xs : List Value} {b : Nat} {cs : Array Value} {fr : Nat × Nat} (h : w.ownsRow B e s v n xs) (hb : w.heap[b]? = some (.cells cs T fr)) (hne : T ≠ e) : v.ownBlock ≠ some b := by
  rcases h.2 with ⟨rfl, _⟩ | ⟨g, cap, cur, rfl, _, hg, _⟩
  · simp [Value.ownBlock]
  · simp only [Value.ownBlock, ne_eq, Option.some.injEq]
    intro hgg
    subst hgg
    rw [hg] at hb
    simp only [Option.some.injEq, Obj.cells.injEq] at hb
    exact hne hb.2.1.symm

theorem BookAt.keep {w w' : World} {B b : Nat} {n : Nat → Nat} {X : Nat → Nat → Bool → List ByteArray} {V : Nat → Value} {R : Nat → Nat → Bool → Value} (h : BookAt w B b n X V R) (hb : Below w.heap.size w w') : BookAt w' B b n X V R := by
  have hlt : b < w.heap.size := (Array.getElem?_eq_some_iff.1 h.block).1
  exact ⟨h.hB, (hb.block b hlt).trans h.block, fun e he => own_below (h.rows e he) hb, fun e he j hj q => own_below (h.strs e he j hj q) hb, h.apart, h.each⟩

theorem grown_setCell (w : World) (a : Addr) (u : Value) : w.grownBy (w.setCell a u) (some a.block) :=
  ⟨rfl, rfl, rfl, by simp [World.setCell], fun k _ hk => Below.heap_setCell _ _ _ _ (fun e => hk (by rw [e]))⟩
theorem own_setCell {w : World} {B : Nat} {e : TypeId} {s : Nat} {v : Value} {n : Nat} {xs : List Value} (h : w.ownsRow B e s v n xs) (a : Addr) (u : Value) (hne : v.ownBlock ≠ some a.block) : (w.setCell a u).ownsRow B e s v n xs :=
  h.kept (grown_setCell w a u) (Or.inr hne)
theorem heap_set {w : World} {b j : Nat} {cs : Array Value} {T : TypeId} {fr : Nat × Nat} (h : w.heap[b]? = some (.cells cs T fr)) (u : Value) : (w.setCell ⟨b, j, none⟩ u).heap[b]? = some (.cells (cs.setIfInBounds j u) T fr) := by
  simp [World.setCell, Array.getElem?_modify, h]

def updN (n : Nat → Nat) (e k : Nat) : Nat → Nat := fun e' => if e' = e then k else n e'
def updV (V : Nat → Value) (e : Nat) (v : Value) : Nat → Value := fun e' => if e' = e then v else V e'
def updR {α : Type} (R : Nat → Nat → Bool → α) (e j : Nat) (v : α) : Nat → Nat → Bool → α := fun e' j' q => if e' = e ∧ j' = j then v else R e' j' q
def updQ {α : Type} (R : Nat → Nat → Bool → α) (e j : Nat) (q : Bool) (v : α) : Nat → Nat → Bool → α := fun e' j' q' => if e' = e ∧ j' = j ∧ q' = q then v else R e' j' q'

theorem ep_ne_str : 49 ≠ 9 := by decide
theorem book_ne_ep : 27 ≠ 49 := by decide
theorem book_ne_str : 27 ≠ 9 := by decide

theorem BookAt.begin {w W w1 : World} {B b : Nat} {n : Nat → Nat} {X : Nat → Nat → Bool → List ByteArray} {V : Nat → Value} {R : Nat → Nat → Bool → Value} {e g cap : Nat} (h0 : BookAt w B b n X V R) (he : e < 2)
    (hW : Below w.heap.size w W) (hBW : B ≤ W.heap.size) (hown : w1.ownsRow B 49 2 (.slice (some ⟨g, 0, none⟩) (n e + 1) cap) (n e + 1) (flatN (n e) (R e) ++ [.slice none 0 0, .slice none 0 0]))
    (hg : W.grownBy w1 (V e).ownBlock) (hat : (V e).ownBlock = some g ∨ g = W.heap.size) :
    BookAt (w1.setCell ⟨b, e, none⟩ (.slice (some ⟨g, 0, none⟩) (n e + 1) cap)) B b (updN n e (n e + 1)) (updR X e (n e) []) (updV V e (.slice (some ⟨g, 0, none⟩) (n e + 1) cap)) (updR R e (n e) (.slice none 0 0)) := by
  have h := h0.keep hW
  have hbV : (V e).ownBlock ≠ some b := own_block (h.rows e he) h.block book_ne_ep
  have hbl : b < W.heap.size := (Array.getElem?_eq_some_iff.1 h.block).1
  have hb1 : w1.heap[b]? = some (.cells #[V 0, V 1] 27 (0, 0)) := (hg.block b hbl (fun x => hbV x.symm)).trans h.block
  have hgb : (Value.slice (some ⟨g, 0, none⟩) (n e + 1) cap).ownBlock ≠ some b := own_block hown hb1 book_ne_ep
  have hnone : (Value.slice none 0 0).ownBlock = none := rfl
  have hrow2 : ∀ e', e' < 2 → e' ≠ e → (V e').ownBlock = none ∨ (V e').ownBlock ≠ (V e).ownBlock := by
    intro e' he' hne
    have h2 : (e = 0 ∧ e' = 1) ∨ (e = 1 ∧ e' = 0) := by omega
    rcases h2 with ⟨rfl, rfl⟩ | ⟨rfl, rfl⟩
    · rcases h.apart with ha | ha
      · cases hv : (V 1).ownBlock with
        | none => exact Or.inl rfl
        | some x => exact Or.inr (by rw [ha]; simp)
      · exact Or.inr (Ne.symm ha)
    · exact h.apart
  refine ⟨h.hB, ?_, ?_, ?_, ?_, ?_⟩
  · rw [heap_set hb1]
    have h2 : e = 0 ∨ e = 1 := by omega
    rcases h2 with rfl | rfl <;> simp [updV]
  · intro e' he'
    by_cases hne : e' = e
    · subst hne
      have e1 : flatN (n e' + 1) (updR R e' (n e') (.slice none 0 0) e') = flatN (n e') (R e') ++ [.slice none 0 0, .slice none 0 0] := by
        rw [flatN_succ, flatN_congr (g := R e') (fun j hj q => by simp only [updR]; rw [if_neg (by omega)])]
        simp [updR]
      simp only [updV, updN, if_pos]
      rw [e1]
      exact own_setCell hown _ _ hgb
    · have e1 : flatN (n e') (updR R e (n e) (.slice none 0 0) e') = flatN (n e') (R e') := flatN_congr (fun j hj q => by simp only [updR]; rw [if_neg (fun x => hne x.1)])
      simp only [updV, updN, if_neg hne]
      rw [e1]
      refine own_setCell ((h.rows e' he').kept hg (hrow2 e' he' hne)) _ _ ?_
      exact own_block (h.rows e' he') h.block book_ne_ep
  · intro e' he' j hj q
    by_cases hnew : e' = e ∧ j = n e
    · obtain ⟨rfl, rfl⟩ := hnew
      simp only [updR, and_self, if_true]
      exact World.ownsRow_nil _ _ _ _
    · have hj2 : j < n e' := by
        simp only [updN] at hj
        split at hj
        · rename_i x; subst x; have : j ≠ n e' := fun y => hnew ⟨rfl, y⟩; omega
        · exact hj
      simp only [updR, if_neg hnew]
      refine own_setCell ((h.strs e' he' j hj2 q).kept hg ?_) _ _ ?_
      · exact own_types (h.strs e' he' j hj2 q) (h.rows e he) (Ne.symm ep_ne_str)
      · exact own_block (h.strs e' he' j hj2 q) h.block book_ne_str
  · have key : ∀ e', e' < 2 → e' ≠ e → (V e').ownBlock = none ∨ (V e').ownBlock ≠ some g := by
      intro e' he' hne
      rcases hrow2 e' he' hne with x | x
      · exact Or.inl x
      · rcases hat with y | y
        · right; rw [← y]; exact x
        · right
          intro z
          have := ((h.rows e' he').lt g z).2
          omega
    have h2 : e = 0 ∨ e = 1 := by omega
    rcases h2 with rfl | rfl
    · simp only [updV, if_true]
      rcases key 1 (by omega) (by omega) with x | x
      · right; simp [Value.ownBlock] at x ⊢; rw [x]; simp
      · right; exact fun y => x (by simpa [Value.ownBlock] using y.symm)
    · simp only [updV, if_true]
      simpa [Value.ownBlock] using key 0 (by omega) (by omega)
  · intro e' he' j hj q e'' he'' j'' hj'' q'' hne
    by_cases hnew : e' = e ∧ j = n e
    · obtain ⟨rfl, rfl⟩ := hnew
      left; simp only [updR, and_self, if_true]; rfl
    · have hj2 : j < n e' := by
        simp only [updN] at hj
        split at hj
        · rename_i x; subst x; have : j ≠ n e' := fun y => hnew ⟨rfl, y⟩; omega
        · exact hj
      simp only [updR, if_neg hnew]
      by_cases hnew2 : e'' = e ∧ j'' = n e
      · simp only [if_pos hnew2]
        cases hx : (R e' j q).ownBlock with
        | none => exact Or.inl rfl
        | some x => exact Or.inr (by simp [Value.ownBlock])
      · have hj3 : j'' < n e'' := by
          simp only [updN] at hj''
          split at hj''
          · rename_i x; subst x; have : j'' ≠ n e'' := fun y => hnew2 ⟨rfl, y⟩; omega
          · exact hj''
        simp only [if_neg hnew2]
        exact h.each e' he' j hj2 q e'' he'' j'' hj3 q'' hne

def qn (q : Bool) : Nat := if q then 1 else 0
theorem flatN_set (m : Nat) (f : Nat → Bool → Value) (j : Nat) (hj : j < m) (q : Bool) (v : Value) : (flatN m f).set (j * 2 + qn q) v = flatN m (fun j' q' => if j' = j ∧ q' = q then v else f j' q') := by
  induction m with
  | zero => omega
  | succ m ih =>
    have hl := flatN_length m f
    rw [flatN_succ, flatN_succ]
    by_cases e : j = m
    · subst e
      rw [List.set_append_right _ _ (by unfold qn; split <;> omega), hl]
      rw [flatN_congr (f := fun j' q' => if j' = j ∧ q' = q then v else f j' q') (g := f) (fun j' hj' q' => by rw [if_neg (by omega)])]
      cases q <;> simp [qn]
    · rw [List.set_append_left _ _ (by unfold qn; split <;> omega), ih (by omega)]
      rw [if_neg (by omega), if_neg (by omega)]

theorem BookAt.data {w W w1 : World} {B b : Nat} {n : Nat → Nat} {X : Nat → Nat → Bool → List ByteArray} {V : Nat → Value} {R : Nat → Nat → Bool → Value} {e j gr c g cap : Nat} {q : Bool} {d : ByteArray} (h0 : BookAt w B b n X V R) (he : e < 2) (hj : j < n e)
    (hV : V e = .slice (some ⟨gr, 0, none⟩) (n e) c) (hW : Below w.heap.size w W) (hown : w1.ownsRow B 9 1 (.slice (some ⟨g, 0, none⟩) ((X e j q).length + 1) cap) ((X e j q).length + 1) ((X e j q).map Value.string ++ [.string d]))
    (hg : W.grownBy w1 (R e j q).ownBlock) (hat : (R e j q).ownBlock = some g ∨ g = W.heap.size) :
    BookAt (w1.setCell ⟨gr, j * 2 + qn q, none⟩ (.slice (some ⟨g, 0, none⟩) ((X e j q).length + 1) cap)) B b n (updQ X e j q (X e j q ++ [d])) V (updQ R e j q (.slice (some ⟨g, 0, none⟩) ((X e j q).length + 1) cap)) := by
  have h := h0.keep hW
  have hbl : b < W.heap.size := (Array.getElem?_eq_some_iff.1 h.block).1
  have hb1 : w1.heap[b]? = some (.cells #[V 0, V 1] 27 (0, 0)) :=
    (hg.block b hbl (fun x => own_block (h.strs e he j hj q) h.block book_ne_str x.symm)).trans h.block
  have hrows1 : ∀ e', e' < 2 → w1.ownsRow B 49 2 (V e') (n e') (flatN (n e') (R e')) := fun e' he' =>
    (h.rows e' he').kept hg (own_types (h.rows e' he') (h.strs e he j hj q) ep_ne_str)
  have hVb : (V e).ownBlock = some gr := by rw [hV]; rfl
  have hgrb : some gr ≠ some b := by rw [← hVb]; exact own_block (h.rows e he) h.block book_ne_ep
  have hgg : (Value.slice (some ⟨g, 0, none⟩) ((X e j q).length + 1) cap).ownBlock ≠ some gr := by
    have := own_types hown (hrows1 e he) (Ne.symm ep_ne_str)
    rw [hVb] at this
    rcases this with x | x
    · simp [Value.ownBlock] at x
    · exact x
  have key : ∀ e', e' < 2 → ∀ j', j' < n e' → ∀ q', (e', j', q') ≠ (e, j, q) → (R e' j' q').ownBlock = none ∨ (R e' j' q').ownBlock ≠ some g := by
    intro e' he' j' hj' q' hne
    rcases h.each e' he' j' hj' q' e he j hj q hne with x | x
    · exact Or.inl x
    · rcases hat with y | y
      · right; rw [← y]; exact x
      · right
        intro z
        have := ((h.strs e' he' j' hj' q').lt g z).2
        omega
  refine ⟨h.hB, ?_, ?_, ?_, h.apart, ?_⟩
  · rw [Below.heap_setCell _ _ _ _ (fun x => hgrb (by rw [x]))]
    exact hb1
  · intro e' he'
    by_cases hne : e' = e
    · subst hne
      have hr := hrows1 e' he'
      rw [hV] at hr ⊢
      have := hr.stored (j * 2 + qn q) (.slice (some ⟨g, 0, none⟩) ((X e' j q).length + 1) cap)
      rw [flatN_set (n e') (R e') j hj q] at this
      have e1 : flatN (n e') (updQ R e' j q (.slice (some ⟨g, 0, none⟩) ((X e' j q).length + 1) cap) e') = flatN (n e') (fun j' q' => if j' = j ∧ q' = q then .slice (some ⟨g, 0, none⟩) ((X e' j q).length + 1) cap else R e' j' q') :=
        flatN_congr (fun j' _ q' => by simp [updQ])
      rw [e1]
      exact this.1
    · have e1 : flatN (n e') (updQ R e j q (.slice (some ⟨g, 0, none⟩) ((X e j q).length + 1) cap) e') = flatN (n e') (R e') := flatN_congr (fun j' _ q' => by simp only [updQ]; rw [if_neg (fun x => hne x.1)])
      rw [e1]
      refine own_setCell (hrows1 e' he') _ _ ?_
      show (V e').ownBlock ≠ some gr
      rw [← hVb]
      have h2 : (e = 0 ∧ e' = 1) ∨ (e = 1 ∧ e' = 0) := by omega
      rcases h2 with ⟨rfl, rfl⟩ | ⟨rfl, rfl⟩
      · rcases h.apart with x | x
        · rw [hVb] at x; cases x
        · exact Ne.symm x
      · rcases h.apart with x | x
        · rw [x, hVb]; simp
        · exact x
  · intro e' he' j' hj' q'
    by_cases hnew : e' = e ∧ j' = j ∧ q' = q
    · obtain ⟨rfl, rfl, rfl⟩ := hnew
      simp only [updQ, and_self, if_true]
      rw [List.length_append, List.map_append]
      exact own_setCell hown _ _ hgg
    · simp only [updQ, if_neg hnew]
      have hx := key e' he' j' hj' q' (fun x => hnew (by cases x; exact ⟨rfl, rfl, rfl⟩))
      refine own_setCell ((h.strs e' he' j' hj' q').kept hg (h.each e' he' j' hj' q' e he j hj q (fun x => hnew (by cases x; exact ⟨rfl, rfl, rfl⟩)))) _ _ ?_
      show (R e' j' q').ownBlock ≠ some gr
      rw [← hVb]
      rcases own_types (h.strs e' he' j' hj' q') (h.rows e he) (Ne.symm ep_ne_str) with x | x
      · rw [x, hVb]; simp
      · exact x
  · intro e' he' j' hj' q' e'' he'' j'' hj'' q'' hne
    by_cases hnew : e' = e ∧ j' = j ∧ q' = q
    · obtain ⟨rfl, rfl, rfl⟩ := hnew
      simp only [updQ, and_self, if_true]
      rw [if_neg (fun x => hne (by obtain ⟨x1, x2, x3⟩ := x; rw [x1, x2, x3]))]
      have hx := key e'' he'' j'' hj'' q'' (Ne.symm hne)
      right
      rcases hx with x | x
      · rw [x]; simp [Value.ownBlock]
      · exact fun y => x (by simpa [Value.ownBlock] using y.symm)
    · simp only [updQ, if_neg hnew]
      by_cases hnew2 : e'' = e ∧ j'' = j ∧ q'' = q
      · simp only [if_pos hnew2]
        exact key e' he' j' hj' q' (fun x => hnew (by cases x; exact ⟨rfl, rfl, rfl⟩))
      · simp only [if_neg hnew2]
        exact h.each e' he' j' hj' q' e'' he'' j'' hj'' q'' hne

/-- Only blocks of F, and new ones, have turned. -/
structure Fr (F : Nat → Prop) (w w' : World) : Prop where
  os : w'.os = w.os
  tape : w'.tape = w.tape
  output : w'.output = w.output
  size : w.heap.size ≤ w'.heap.size
  block : ∀ k, k < w.heap.size → ¬ F k → w'.heap[k]? = w.heap[k]?
theorem Fr.refl (F : Nat → Prop) (w : World) : Fr F w w := ⟨rfl, rfl, rfl, Nat.le_refl _, fun _ _ _ => rfl⟩
theorem Fr.of_below {F : Nat → Prop} {w w' : World} (h : Below w.heap.size w w') : Fr F w w' := ⟨h.os, h.tape, h.output, h.size, fun k hk _ => h.block k hk⟩
theorem Fr.trans {F F1 : Nat → Prop} {w w1 w2 : World} (h : Fr F w w1) (k : Fr F1 w1 w2) (hF : ∀ x, F1 x → F x ∨ w.heap.size ≤ x) : Fr F w w2 :=
  ⟨k.os.trans h.os, k.tape.trans h.tape, k.output.trans h.output, Nat.le_trans h.size k.size, fun x hx hn =>
    (k.block x (Nat.lt_of_lt_of_le hx h.size) (fun y => by rcases hF x y with z | z; exact hn z; omega)).trans (h.block x hx hn)⟩
theorem Fr.grown {F : Nat → Prop} {w w' : World} {row : Option Nat} (h : w.grownBy w' row) (hr : ∀ k, row = some k → F k) : Fr F w w' :=
  ⟨h.os, h.tape, h.output, h.size, fun k hk hn => h.block k hk (fun e => hn (hr k e.symm))⟩
theorem Fr.setCell {F : Nat → Prop} (w : World) (a : Addr) (u : Value) (hF : F a.block) : Fr F w (w.setCell a u) :=
  Fr.grown (grown_setCell w a u) (fun k hk => by cases hk; exact hF)
theorem Fr.mono {F F' : Nat → Prop} {w w' : World} (h : Fr F w w') (hF : ∀ k, F k → F' k) : Fr F' w w' := ⟨h.os, h.tape, h.output, h.size, fun k hk hn => h.block k hk (fun x => hn (hF k x))⟩
theorem Fr.below {F : Nat → Prop} {w w' : World} {B : Nat} (h : Fr F w w') (hF : ∀ k, F k → B ≤ k) (hB : B ≤ w.heap.size) : Below B w w' :=
  ⟨h.os, h.tape, h.output, h.size, fun k hk => h.block k (by omega) (fun x => by have := hF k x; omega)⟩
theorem Fr.cell {F : Nat → Prop} {w w' : World} (h : Fr F w w') {b o : Nat} {v : Value} (hc : w.cell? ⟨b, o, none⟩ = some v) (hn : ¬ F b) : w'.cell? ⟨b, o, none⟩ = some v :=
  (World.cell?_of_block (h.block b (block_lt_of_cell hc) hn)).trans hc
theorem Fr.own {F : Nat → Prop} {w w' : World} (h : Fr F w w') {B : Nat} {e : TypeId} {s : Nat} {v : Value} {n : Nat} {xs : List Value} (ho : w.ownsRow B e s v n xs) (hn : ∀ k, v.ownBlock = some k → ¬ F k) : w'.ownsRow B e s v n xs := by
  refine ⟨ho.1, ?_⟩
  rcases ho.2 with hx | ⟨g, cap, cur, rfl, hb, hgg, rest⟩
  · exact .inl hx
  · refine .inr ⟨g, cap, cur, rfl, hb, ?_, rest⟩
    rw [h.block g (Array.getElem?_eq_some_iff.1 hgg).1 (hn g rfl)]
    exact hgg

/-- The blocks of a book. -/
def Foot (b : Nat) (n : Nat → Nat) (V : Nat → Value) (R : Nat → Nat → Bool → Value) (k : Nat) : Prop :=
  k = b ∨ (∃ e, e < 2 ∧ (V e).ownBlock = some k) ∨ (∃ e j q, e < 2 ∧ j < n e ∧ (R e j q).ownBlock = some k)
end Go.Proofs.Ytanmdmidjeobeaa
