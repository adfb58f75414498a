/-
  A region that draws its order: what holds of the world may hang on which operations have come up: a load may be taken first where nobody writes its cell BEFORE it has come up.
-/
import Derived.Deep.RegionHeld
set_option linter.unusedVariables false
set_option linter.unusedSimpArgs false
namespace Go.Proofs.YtbppgicdmkkmnaaDoor
open Go

section
variable {P : Program} {ops : Array Oper} {Q : Exit → Act → World → Prop} {md : Region.Mode} {S : Array Bool → World → Prop}

def wpAnyL (P : Program) (md : Region.Mode) (ops : Array Oper) (Q : Exit → Act → World → Prop) (S : Array Bool → World → Prop) : Nat → Array Bool → Act → World → Prop
  | 0, listed, a, w => Region.ready md ops listed = [] ∧ Q .normal a w
  | fuel + 1, listed, a, w =>
    (Region.ready md ops listed = [] → Q .normal a w) ∧
    ∀ i ∈ Region.ready md ops listed, wpOp P ops Q i (fun a' w' => S (listed.setIfInBounds i true) w' ∧ wpAnyL P md ops Q S fuel (listed.setIfInBounds i true) a' w') a w

theorem wpAny_of_L : ∀ (fuel : Nat) (listed : Array Bool) (a : Act) (w : World), wpAnyL P md ops Q S fuel listed a w → wpAny P md ops Q fuel listed a w
  | 0, _, _, _, h => h
  | fuel + 1, _, _, _, h => ⟨h.1, fun i hi => wpOp_mono (fun a' w' h' => wpAny_of_L fuel _ a' w' h'.2) (h.2 i hi)⟩

/-- What has come up came up behind what it waits for. -/
def ClosedL (md : Region.Mode) (ops : Array Oper) (l : Array Bool) : Prop := ∀ j oj, ops[j]? = some oj → l.getD j true = true → ∀ e ∈ oj.after, Region.binds md e = true → l.getD e.on true = true
theorem getD_true_of {l : Array Bool} {i : Nat} (h : l.getD i false = true) : l.getD i true = true := by
  rcases Nat.lt_or_ge i l.size with h' | h'
  · simp [h'] at h ⊢; exact h
  · simp [Array.getElem?_eq_none h'] at h
theorem getD_set_self {l : Array Bool} {i : Nat} : (l.setIfInBounds i true).getD i true = true := by
  rcases Nat.lt_or_ge i l.size with h' | h' <;> simp [h']
theorem getD_set_mono {l : Array Bool} {i k : Nat} (h : l.getD k true = true) : (l.setIfInBounds i true).getD k true = true := by
  by_cases e : i = k
  · subst e; exact getD_set_self
  · rw [getD_set_ne true e]; exact h
theorem ClosedL.step {l : Array Bool} {j : Nat} (h : ClosedL md ops l) (hj : j ∈ Region.ready md ops l) : ClosedL md ops (l.setIfInBounds j true) := by
  intro k ok hk hl e he hb
  by_cases hjk : j = k
  · subst hjk
    obtain ⟨_, oj, hoj, hall⟩ := mem_ready.1 hj
    rw [hoj] at hk
    cases hk
    exact getD_set_mono (getD_true_of (hall e he hb))
  · rw [getD_set_ne true hjk] at hl
    exact getD_set_mono (h k ok hk hl e he hb)

/-- What holds of a world while operation i has not come up. -/
def Pend (md : Region.Mode) (ops : Array Oper) (S : Array Bool → World → Prop) (i : Nat) (w : World) : Prop := ∃ listed, ClosedL md ops listed ∧ listed.getD i true = false ∧ S listed w

theorem wpAnyL_first {i : Nat} {oi : Oper} {v : Value} (hi : ops[i]? = some oi) (hsel : ∀ (j : Nat) (o : Oper) cs b, ops[j]? = some o → o.op ≠ .select cs b)
    (hQ : ∀ c a w, Q (.panic c) (a.put oi.dst v) w → Q (.panic c) a w) (hup : ∀ (l : Array Bool) w, S l w → S (l.setIfInBounds i true) w)
    (hdn : ∀ (l : Array Bool) w, S (l.setIfInBounds i true) w → l.getD i true = false → S l w) :
    ∀ (fuel : Nat) (listed : Array Bool) (a : Act) (w : World),
      (∀ j oj, ops[j]? = some oj → j ≠ i → listed.getD j true = false → (∀ e ∈ oj.after, Region.binds md e = true → e.on ≠ i) → oi.apart ops oj = true) →
      i ∈ Region.ready md ops listed → ClosedL md ops listed → YieldsIf P ops (Pend md ops S i) oi v a → S listed w →
      wpAnyL P md ops Q S fuel (listed.setIfInBounds i true) (a.put oi.dst v) w → wpAnyL P md ops Q S (fuel + 1) listed a w := by
  intro fuel
  induction fuel with
  | zero =>
    intro listed a w hfree hr hcl hy hS H
    have hun := (mem_ready.1 hr).1
    refine ⟨fun h => (by rw [h] at hr; cases hr), fun j hj => ?_⟩
    by_cases hji : j = i
    · subst hji; exact hy.wpOp hi ⟨listed, hcl, hun, hS⟩ ⟨hup _ _ hS, H⟩
    · have := ready_mono hj hji
      rw [H.1] at this
      cases this
  | succ fuel ih =>
    intro listed a w hfree hr hcl hy hS H
    have hun := (mem_ready.1 hr).1
    refine ⟨fun h => (by rw [h] at hr; cases hr), fun j hj => ?_⟩
    by_cases hji : j = i
    · subst hji; exact hy.wpOp hi ⟨listed, hcl, hun, hS⟩ ⟨hup _ _ hS, H⟩
    · have h1 := H.2 j (ready_mono hj hji)
      obtain ⟨hjun, oj, hoj, hall⟩ := mem_ready.1 hj
      have hnot : ∀ e ∈ oj.after, Region.binds md e = true → e.on ≠ i := fun e he hb heq => by
        have h1 := hall e he hb
        have h0 := (mem_ready.1 hr).1
        rw [heq] at h1
        rcases Nat.lt_or_ge i listed.size with h' | h'
        · simp [h'] at h0 h1; rw [h0] at h1; cases h1
        · simp [Array.getElem?_eq_none h'] at h1
      have h2 := wpOp_putIf hoj (hfree j oj hoj hji hjun hnot) (fun cs b => hsel i oi cs b hi) (fun cs b => hsel j oj cs b hoj) hQ hy h1
      have hfree' : ∀ k ok, ops[k]? = some ok → k ≠ i → (listed.setIfInBounds j true).getD k true = false →
          (∀ e ∈ ok.after, Region.binds md e = true → e.on ≠ i) → oi.apart ops ok = true := fun k ok hk hki hun hno => by
        refine hfree k ok hk hki ?_ hno
        by_cases hjk : j = k
        · subst hjk; exact hjun
        · rw [getD_set_ne true hjk] at hun; exact hun
      have hun2 : (listed.setIfInBounds j true).getD i true = false := by rw [getD_set_ne true hji]; exact hun
      refine wpOp_mono (fun a' w' h3 => ?_) h2
      have hS' : S (listed.setIfInBounds j true) w' := by
        refine hdn _ _ ?_ hun2
        have := h3.2.1
        rwa [Array.setIfInBounds_comm _ _ (Ne.symm hji)] at this
      refine ⟨hS', ih (listed.setIfInBounds j true) a' w' hfree' (ready_mono hr (Ne.symm hji)) (hcl.step hj) h3.1 hS' ?_⟩
      rw [Array.setIfInBounds_comm _ _ hji]
      exact h3.2.2
end

/-! ### The shape that is used: what holds throughout; what holds till t1 has come up; what holds till t2 has -/
section
variable {P : Program} {ops : Array Oper} {Q : Exit → Act → World → Prop} {md : Region.Mode} {S1 C1 C2 : World → Prop} {t1 t2 : Nat}
def SL (S1 : World → Prop) (t1 : Nat) (C1 : World → Prop) (t2 : Nat) (C2 : World → Prop) (l : Array Bool) (w : World) : Prop := S1 w ∧ (l.getD t1 true = false → C1 w) ∧ (l.getD t2 true = false → C2 w)
theorem SL.up {l : Array Bool} {w : World} {i : Nat} (h : SL S1 t1 C1 t2 C2 l w) : SL S1 t1 C1 t2 C2 (l.setIfInBounds i true) w := by
  refine ⟨h.1, fun k => h.2.1 ?_, fun k => h.2.2 ?_⟩
  · cases hl : l.getD t1 true with
    | false => rfl
    | true => rw [getD_set_mono hl] at k; cases k
  · cases hl : l.getD t2 true with
    | false => rfl
    | true => rw [getD_set_mono hl] at k; cases k
theorem SL.down {l : Array Bool} {w : World} {i : Nat} (h1 : i ≠ t1) (h2 : i ≠ t2) (h : SL S1 t1 C1 t2 C2 (l.setIfInBounds i true) w) : SL S1 t1 C1 t2 C2 l w :=
  ⟨h.1, fun k => h.2.1 (by rw [getD_set_ne true h1]; exact k), fun k => h.2.2 (by rw [getD_set_ne true h2]; exact k)⟩
/-- Does operation t wait for i? -/
def waitsB (md : Region.Mode) (ops : Array Oper) (t i : Nat) : Bool := match ops[t]? with
  | some o => o.after.any fun e => Region.binds md e && e.on == i
  | none => false
theorem not_listed {l : Array Bool} {t i : Nat} (hw : waitsB md ops t i = true) (hc : ClosedL md ops l) (hi : l.getD i true = false) : l.getD t true = false := by
  unfold waitsB at hw
  cases ho : ops[t]? with
  | none => rw [ho] at hw; cases hw
  | some o =>
    rw [ho] at hw
    simp only [Array.any_eq_true', Bool.and_eq_true, beq_iff_eq] at hw
    obtain ⟨e, he, hb, hon⟩ := hw
    cases hl : l.getD t true with
    | false => rfl
    | true =>
      have := hc t o ho hl e he hb
      rw [hon, hi] at this
      cases this

/-- The moves of a walk. The listed ones go with their being closed. -/
structure LAt (P : Program) (md : Region.Mode) (ops : Array Oper) (Q : Exit → Act → World → Prop) (S : Array Bool → World → Prop) (fuel : Nat) (listed : Array Bool) (a : Act) (w : World) : Prop where
  at_ : ClosedL md ops listed → wpAnyL P md ops Q S fuel listed a w

theorem LAt.take {i : Nat} {oi : Oper} {v : Value} {fuel : Nat} {listed : Array Bool} {a : Act} {w : World} (hi : ops[i]? = some oi)
    (hs : Region.noSelect ops = true) (hf : Region.free md ops listed i = true) (hr : (Region.ready md ops listed).contains i = true)
    (hQ : ∀ c a w, Q (.panic c) (a.put oi.dst v) w → Q (.panic c) a w) (h1 : i ≠ t1) (h2 : i ≠ t2) (hy : YieldsIf P ops S1 oi v a) (hS : SL S1 t1 C1 t2 C2 listed w)
    (h : LAt P md ops Q (SL S1 t1 C1 t2 C2) fuel (listed.setIfInBounds i true) (a.put oi.dst v) w) : LAt P md ops Q (SL S1 t1 C1 t2 C2) (fuel + 1) listed a w :=
  ⟨fun hc => wpAnyL_first hi (Region.noSelect_spec hs) hQ (fun _ _ k => k.up) (fun _ _ k _ => k.down h1 h2) fuel listed a w (Region.free_spec hi hf) (by simpa using hr) hc
    (hy.imp (fun ⟨x, y⟩ => ⟨x, fun w ⟨_, _, _, z⟩ => y w z.1⟩) id) hS (h.at_ (hc.step (by simpa using hr)))⟩
theorem LAt.take1 {i : Nat} {oi : Oper} {v : Value} {fuel : Nat} {listed : Array Bool} {a : Act} {w : World} (hi : ops[i]? = some oi)
    (hs : Region.noSelect ops = true) (hf : Region.free md ops listed i = true) (hr : (Region.ready md ops listed).contains i = true)
    (hQ : ∀ c a w, Q (.panic c) (a.put oi.dst v) w → Q (.panic c) a w) (h1 : i ≠ t1) (h2 : i ≠ t2) (hw : waitsB md ops t1 i = true) (hy : YieldsIf P ops (fun w => S1 w ∧ C1 w) oi v a) (hS : SL S1 t1 C1 t2 C2 listed w)
    (h : LAt P md ops Q (SL S1 t1 C1 t2 C2) fuel (listed.setIfInBounds i true) (a.put oi.dst v) w) : LAt P md ops Q (SL S1 t1 C1 t2 C2) (fuel + 1) listed a w :=
  ⟨fun hc => wpAnyL_first hi (Region.noSelect_spec hs) hQ (fun _ _ k => k.up) (fun _ _ k _ => k.down h1 h2) fuel listed a w (Region.free_spec hi hf) (by simpa using hr) hc
    (hy.imp (fun ⟨x, y⟩ => ⟨x, fun w ⟨l, c, u, z⟩ => y w ⟨z.1, z.2.1 (not_listed hw c u)⟩⟩) id) hS (h.at_ (hc.step (by simpa using hr)))⟩
theorem LAt.take2 {i : Nat} {oi : Oper} {v : Value} {fuel : Nat} {listed : Array Bool} {a : Act} {w : World} (hi : ops[i]? = some oi)
    (hs : Region.noSelect ops = true) (hf : Region.free md ops listed i = true) (hr : (Region.ready md ops listed).contains i = true)
    (hQ : ∀ c a w, Q (.panic c) (a.put oi.dst v) w → Q (.panic c) a w) (h1 : i ≠ t1) (h2 : i ≠ t2) (hw : waitsB md ops t2 i = true) (hy : YieldsIf P ops (fun w => S1 w ∧ C2 w) oi v a) (hS : SL S1 t1 C1 t2 C2 listed w)
    (h : LAt P md ops Q (SL S1 t1 C1 t2 C2) fuel (listed.setIfInBounds i true) (a.put oi.dst v) w) : LAt P md ops Q (SL S1 t1 C1 t2 C2) (fuel + 1) listed a w :=
  ⟨fun hc => wpAnyL_first hi (Region.noSelect_spec hs) hQ (fun _ _ k => k.up) (fun _ _ k _ => k.down h1 h2) fuel listed a w (Region.free_spec hi hf) (by simpa using hr) hc
    (hy.imp (fun ⟨x, y⟩ => ⟨x, fun w ⟨l, c, u, z⟩ => y w ⟨z.1, z.2.2 (not_listed hw c u)⟩⟩) id) hS (h.at_ (hc.step (by simpa using hr)))⟩

/-- Each of those that may come up. -/
def AllL (P : Program) (md : Region.Mode) (ops : Array Oper) (Q : Exit → Act → World → Prop) (S : Array Bool → World → Prop) (fuel : Nat) (listed : Array Bool) (a : Act) (w : World) (rs : List Nat) : Prop :=
  ∀ i ∈ rs, wpOp P ops Q i (fun a' w' => S (listed.setIfInBounds i true) w' ∧ LAt P md ops Q S fuel (listed.setIfInBounds i true) a' w') a w
variable {S : Array Bool → World → Prop}
theorem AllL.nil {fuel : Nat} {listed : Array Bool} {a : Act} {w : World} : AllL P md ops Q S fuel listed a w [] := fun _ h => by cases h
theorem AllL.cons {fuel : Nat} {listed : Array Bool} {a : Act} {w : World} {i : Nat} {o : Oper} {rs : List Nat} (ho : ops[i]? = some o)
    (h : ∀ K' : Act → World → Prop, Shut (∀ a w, S (listed.setIfInBounds i true) w → LAt P md ops Q S fuel (listed.setIfInBounds i true) a w → K' a w) → if Region.wanted o (yielded ops a.tmps) = true then Oper.wp P o a w K' Q else K' (a.put o.dst undef) w)
    (hs : AllL P md ops Q S fuel listed a w rs) : AllL P md ops Q S fuel listed a w (i :: rs) := fun j hj => by
  rcases List.mem_cons.1 hj with rfl | hj
  · exact wpOp_step ho (fun K' hK => h K' (fun a w hS hW => hK a w ⟨hS, hW⟩))
  · exact hs j hj
theorem LAt.ready {rs : List Nat} {fuel : Nat} {listed : Array Bool} {a : Act} {w : World} (hr : Region.ready md ops listed = rs) (hne : rs ≠ [])
    (h : AllL P md ops Q S fuel listed a w rs) : LAt P md ops Q S (fuel + 1) listed a w :=
  ⟨fun hc => ⟨fun h0 => absurd (hr ▸ h0) hne, fun i hi => wpOp_mono (fun a' w' h3 => ⟨h3.1, h3.2.at_ (hc.step hi)⟩) (h i (hr ▸ hi))⟩⟩
theorem LAt.done {fuel : Nat} {listed : Array Bool} {a : Act} {w : World} (hr : Region.ready md ops listed = []) (h : Q .normal a w) : LAt P md ops Q S fuel listed a w := ⟨fun _ => by
  cases fuel with
  | zero => exact ⟨hr, h⟩
  | succ n => exact ⟨fun _ => h, by rw [hr]; simp⟩⟩
theorem closed_start : ClosedL md ops (Array.replicate ops.size false) := fun j oj hj hl => by
  have hlt : j < ops.size := (Array.getElem?_eq_some_iff.1 hj).1
  simp [hlt] at hl
theorem wp_region_L {id : Nat} {a : Act} {w : World} (hm : P.follows .mixedOrders = true) (h : LAt P .any ops Q S ops.size (Array.replicate ops.size false) a w.drew) : (Code.region id ops true).wp P Q a w :=
  wp_region_any hm (wpAny_of_L _ _ _ _ (h.at_ closed_start))
end
end Go.Proofs.YtbppgicdmkkmnaaDoor
