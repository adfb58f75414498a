/-
  Four rows of rows of texts, as the statement EpochBooks keeps them; what each note does to what is held.
-/
import Derived.Test.YtanmdmidjeobeaaEpCopies
import Derived.Test.YtanmdmidjeobeaaBox
set_option linter.unusedVariables false
set_option linter.unusedSimpArgs false
namespace Go.Proofs.Ytanmdmidjeobeaa
open Go.RowKit

def updX {α : Type} (X : Nat → Nat → α) (i j : Nat) (v : α) : Nat → Nat → α := fun i' j' => if i' = i ∧ j' = j then v else X i' j'
structure GridR (w : World) (B : Nat) (n : Nat → Nat) (X : Nat → Nat → List ByteArray) (V : Nat → Value) (R : Nat → Nat → Value) : Prop where
  rows : ∀ i, i < 4 → w.ownsRow B 45 1 (V i) (n i) ((List.range (n i)).map (R i))
  strs : ∀ i, i < 4 → ∀ j, j < n i → w.ownsRow B 9 1 (R i j) (X i j).length ((X i j).map Value.string)
  apart : ∀ i, i < 4 → ∀ i', i' < 4 → i ≠ i' → (V i).ownBlock = none ∨ (V i).ownBlock ≠ (V i').ownBlock
  each : ∀ i, i < 4 → ∀ j, j < n i → ∀ i', i' < 4 → ∀ j', j' < n i' → (i, j) ≠ (i', j') → (R i j).ownBlock = none ∨ (R i j).ownBlock ≠ (R i' j').ownBlock
theorem ss_ne_str : 45 ≠ 9 := by decide
theorem arr_ne_ss : 29 ≠ 45 := by decide
theorem arr_ne_str : 29 ≠ 9 := by decide

theorem GridR.below {w w' : World} {B : Nat} {n : Nat → Nat} {X : Nat → Nat → List ByteArray} {V : Nat → Value} {R : Nat → Nat → Value} (h : GridR w B n X V R) (hb : Below w.heap.size w w') : GridR w' B n X V R :=
  ⟨fun i hi => own_below (h.rows i hi) hb, fun i hi j hj => own_below (h.strs i hi j hj) hb, h.apart, h.each⟩
def GFoot (n : Nat → Nat) (V : Nat → Value) (R : Nat → Nat → Value) (x : Nat) : Prop := (∃ i, i < 4 ∧ (V i).ownBlock = some x) ∨ (∃ i j, i < 4 ∧ j < n i ∧ (R i j).ownBlock = some x)
theorem GridR.lt {w : World} {B : Nat} {n : Nat → Nat} {X : Nat → Nat → List ByteArray} {V : Nat → Value} {R : Nat → Nat → Value} (h : GridR w B n X V R) {x : Nat} (hx : GFoot n V R x) : B ≤ x ∧ x < w.heap.size := by
  rcases hx with ⟨i, hi, hx⟩ | ⟨i, j, hi, hj, hx⟩
  · exact (h.rows i hi).lt x hx
  · exact (h.strs i hi j hj).lt x hx
theorem GridR.fr {w w' : World} {B : Nat} {n : Nat → Nat} {X : Nat → Nat → List ByteArray} {V : Nat → Value} {R : Nat → Nat → Value} {F : Nat → Prop} (h : GridR w B n X V R) (hf : Fr F w w') (hd : ∀ x, GFoot n V R x → ¬ F x) : GridR w' B n X V R :=
  ⟨fun i hi => hf.own (h.rows i hi) (fun x hx => hd x (Or.inl ⟨i, hi, hx⟩)), fun i hi j hj => hf.own (h.strs i hi j hj) (fun x hx => hd x (Or.inr ⟨i, j, hi, hj, hx⟩)), h.apart, h.each⟩
theorem GridR.other {w : World} {B b j : Nat} {n : Nat → Nat} {X : Nat → Nat → List ByteArray} {V : Nat → Value} {R : Nat → Nat → Value} {cs : List Value} (h : GridR w B n X V R) (hb : BoxAt w b 29 cs) (u : Value) : GridR (w.setCell ⟨b, j, none⟩ u) B n X V R :=
  ⟨fun i hi => own_setCell (h.rows i hi) _ _ (own_block (h.rows i hi) hb arr_ne_ss), fun i hi j' hj => own_setCell (h.strs i hi j' hj) _ _ (own_block (h.strs i hi j' hj) hb arr_ne_str), h.apart, h.each⟩

theorem range_congr {m : Nat} {f g : Nat → Value} (h : ∀ j, j < m → f j = g j) : (List.range m).map f = (List.range m).map g :=
  List.map_congr_left (fun j hj => h j (List.mem_range.1 hj))
/-- A new row, without texts. -/
theorem GridR.push {w w1 : World} {B i g cap : Nat} {n : Nat → Nat} {X : Nat → Nat → List ByteArray} {V : Nat → Value} {R : Nat → Nat → Value} (h : GridR w B n X V R) (hi : i < 4)
    (hown : w1.ownsRow B 45 1 (.slice (some ⟨g, 0, none⟩) (n i + 1) cap) (n i + 1) ((List.range (n i)).map (R i) ++ [.slice none 0 0])) (hg : w.grownBy w1 (V i).ownBlock) (hat : (V i).ownBlock = some g ∨ g = w.heap.size) :
    GridR w1 B (updN n i (n i + 1)) (updX X i (n i) []) (updV V i (.slice (some ⟨g, 0, none⟩) (n i + 1) cap)) (updX R i (n i) (.slice none 0 0)) := by
  have key : ∀ i', i' < 4 → i' ≠ i → (V i').ownBlock = none ∨ (V i').ownBlock ≠ some g := by
    intro i' hi' hne
    rcases h.apart i' hi' i hi hne with x | x
    · exact Or.inl x
    · rcases hat with y | y
      · right; rw [← y]; exact x
      · right; intro z; have := ((h.rows i' hi').lt g z).2; omega
  have hjn : ∀ i' j, j < updN n i (n i + 1) i' → ¬ (i' = i ∧ j = n i) → j < n i' := by
    intro i' j hj hne
    unfold updN at hj
    split at hj
    · rename_i e; subst e
      have : j ≠ n i' := fun y => hne ⟨rfl, y⟩
      omega
    · exact hj
  refine ⟨fun i' hi' => ?_, fun i' hi' j hj => ?_, fun i1 h1 i2 h2 hne => ?_, fun i1 h1 j1 hj1 i2 h2 j2 hj2 hne => ?_⟩
  · by_cases e : i' = i
    · subst e
      simp only [updV, updN, if_true]
      have e1 : (List.range (n i' + 1)).map (updX R i' (n i') (.slice none 0 0) i') = (List.range (n i')).map (R i') ++ [.slice none 0 0] := by
        rw [List.range_succ, List.map_append]
        congr 1
        · exact range_congr (fun j hj => by unfold updX; rw [if_neg (by omega)])
        · simp [updX]
      rw [e1]
      exact hown
    · simp only [updV, updN, if_neg e]
      have e1 : (List.range (n i')).map (updX R i (n i) (.slice none 0 0) i') = (List.range (n i')).map (R i') := range_congr (fun j hj => by unfold updX; rw [if_neg (fun x => e x.1)])
      rw [e1]
      exact (h.rows i' hi').kept hg (h.apart i' hi' i hi e)
  · by_cases hnew : i' = i ∧ j = n i
    · simp only [updX, if_pos hnew]
      exact World.ownsRow_nil _ _ _ _
    · have hj2 := hjn i' j hj hnew
      simp only [updX, if_neg hnew]
      exact (h.strs i' hi' j hj2).kept hg (own_types (h.strs i' hi' j hj2) (h.rows i hi) (Ne.symm ss_ne_str))
  · unfold updV
    by_cases e1 : i1 = i
    · subst e1
      have e2 : ¬ i2 = i1 := fun x => hne x.symm
      rw [if_pos rfl, if_neg e2]
      right
      rcases key i2 h2 e2 with x | x
      · rw [x]; simp [Value.ownBlock]
      · exact fun y => x (by simpa [Value.ownBlock] using y.symm)
    · rw [if_neg e1]
      by_cases e2 : i2 = i
      · subst e2
        rw [if_pos rfl]
        simpa [Value.ownBlock] using key i1 h1 e1
      · rw [if_neg e2]
        exact h.apart i1 h1 i2 h2 hne
  · by_cases hn1 : i1 = i ∧ j1 = n i
    · left; simp only [updX, if_pos hn1]; rfl
    · simp only [updX, if_neg hn1]
      by_cases hn2 : i2 = i ∧ j2 = n i
      · rw [if_pos hn2]
        cases hx : (R i1 j1).ownBlock with
        | none => exact Or.inl rfl
        | some x => exact Or.inr (by simp [Value.ownBlock])
      · rw [if_neg hn2]
        exact h.each i1 h1 j1 (hjn i1 j1 hj1 hn1) i2 h2 j2 (hjn i2 j2 hj2 hn2) hne
theorem range_set (m : Nat) (f : Nat → Value) (j : Nat) (hj : j < m) (v : Value) : ((List.range m).map f).set j v = (List.range m).map (fun k => if k = j then v else f k) := by
  apply List.ext_getElem
  · simp
  · intro k h1 h2
    rw [List.getElem_set]
    by_cases e : j = k
    · subst e; simp
    · simp [e, Ne.symm e]
/-- A text more in a row's row. -/
theorem GridR.text {w w1 : World} {B i j gr c g cap : Nat} {n : Nat → Nat} {X : Nat → Nat → List ByteArray} {V : Nat → Value} {R : Nat → Nat → Value} {d : ByteArray} (h : GridR w B n X V R) (hi : i < 4) (hj : j < n i)
    (hV : V i = .slice (some ⟨gr, 0, none⟩) (n i) c) (hown : w1.ownsRow B 9 1 (.slice (some ⟨g, 0, none⟩) ((X i j).length + 1) cap) ((X i j).length + 1) ((X i j).map Value.string ++ [.string d]))
    (hg : w.grownBy w1 (R i j).ownBlock) (hat : (R i j).ownBlock = some g ∨ g = w.heap.size) :
    GridR (w1.setCell ⟨gr, j, none⟩ (.slice (some ⟨g, 0, none⟩) ((X i j).length + 1) cap)) B n (updX X i j (X i j ++ [d])) V (updX R i j (.slice (some ⟨g, 0, none⟩) ((X i j).length + 1) cap)) := by
  have hVb : (V i).ownBlock = some gr := by rw [hV]; rfl
  have hrows1 : ∀ i', i' < 4 → w1.ownsRow B 45 1 (V i') (n i') ((List.range (n i')).map (R i')) := fun i' hi' =>
    (h.rows i' hi').kept hg (own_types (h.rows i' hi') (h.strs i hi j hj) ss_ne_str)
  have hgg : (Value.slice (some ⟨g, 0, none⟩) ((X i j).length + 1) cap).ownBlock ≠ some gr := by
    have := own_types hown (hrows1 i hi) (Ne.symm ss_ne_str)
    rw [hVb] at this
    rcases this with x | x
    · simp [Value.ownBlock] at x
    · exact x
  have key : ∀ i', i' < 4 → ∀ j', j' < n i' → (i', j') ≠ (i, j) → (R i' j').ownBlock = none ∨ (R i' j').ownBlock ≠ some g := by
    intro i' hi' j' hj' hne
    rcases h.each i' hi' j' hj' i hi j hj hne with x | x
    · exact Or.inl x
    · rcases hat with y | y
      · right; rw [← y]; exact x
      · right; intro z; have := ((h.strs i' hi' j' hj').lt g z).2; omega
  refine ⟨fun i' hi' => ?_, fun i' hi' j' hj' => ?_, h.apart, fun i1 h1 j1 hj1 i2 h2 j2 hj2 hne => ?_⟩
  · by_cases e : i' = i
    · subst e
      have hr := hrows1 i' hi'
      rw [hV] at hr ⊢
      have := hr.stored j (.slice (some ⟨g, 0, none⟩) ((X i' j).length + 1) cap)
      rw [range_set _ _ _ hj] at this
      have e1 : (List.range (n i')).map (updX R i' j (.slice (some ⟨g, 0, none⟩) ((X i' j).length + 1) cap) i') = (List.range (n i')).map (fun k => if k = j then .slice (some ⟨g, 0, none⟩) ((X i' j).length + 1) cap else R i' k) := range_congr (fun k _ => by simp [updX])
      rw [e1]
      exact this.1
    · have e1 : (List.range (n i')).map (updX R i j (.slice (some ⟨g, 0, none⟩) ((X i j).length + 1) cap) i') = (List.range (n i')).map (R i') := range_congr (fun k _ => by unfold updX; rw [if_neg (fun x => e x.1)])
      rw [e1]
      refine own_setCell (hrows1 i' hi') _ _ ?_
      show (V i').ownBlock ≠ some gr
      rw [← hVb]
      rcases h.apart i' hi' i hi e with x | x
      · rw [x, hVb]; simp
      · exact x
  · by_cases hnew : i' = i ∧ j' = j
    · obtain ⟨rfl, rfl⟩ := hnew
      simp only [updX, and_self, if_true]
      rw [List.length_append, List.map_append]
      exact own_setCell hown _ _ hgg
    · simp only [updX, if_neg hnew]
      have hx := key i' hi' j' hj' (fun x => hnew (by cases x; exact ⟨rfl, rfl⟩))
      refine own_setCell ((h.strs i' hi' j' hj').kept hg (h.each i' hi' j' hj' i hi j hj (fun x => hnew (by cases x; exact ⟨rfl, rfl⟩)))) _ _ ?_
      show (R i' j').ownBlock ≠ some gr
      rw [← hVb]
      rcases own_types (h.strs i' hi' j' hj') (h.rows i hi) (Ne.symm ss_ne_str) with x | x
      · rw [x, hVb]; simp
      · exact x
  · by_cases hn1 : i1 = i ∧ j1 = j
    · obtain ⟨rfl, rfl⟩ := hn1
      simp only [updX, and_self, if_true]
      rw [if_neg (fun x => hne (by obtain ⟨x1, x2⟩ := x; rw [x1, x2]))]
      right
      rcases key i2 h2 j2 hj2 (Ne.symm hne) with x | x
      · rw [x]; simp [Value.ownBlock]
      · exact fun y => x (by simpa [Value.ownBlock] using y.symm)
    · simp only [updX, if_neg hn1]
      by_cases hn2 : i2 = i ∧ j2 = j
      · simp only [if_pos hn2]
        exact key i1 h1 j1 hj1 (fun x => hn1 (by cases x; exact ⟨rfl, rfl⟩))
      · rw [if_neg hn2]
        exact h.each i1 h1 j1 hj1 i2 h2 j2 hj2 hne

/-- What the four rows hold is what the book holds. -/
def Cont (n : Nat → Nat) (X : Nat → Nat → List ByteArray) (h : Held) : Prop := ∀ e, e < 2 → n e = (h e).length ∧ n (2 + e) = (h e).length ∧ ∀ j, j < (h e).length → (h e)[j]? = some (X e j, X (2 + e) j)
theorem Cont.push {n : Nat → Nat} {X : Nat → Nat → List ByteArray} {h : Held} (k : Cont n X h) (e : Nat) (he : e < 2) :
    Cont (updN (updN n e (n e + 1)) (2 + e) (updN n e (n e + 1) (2 + e) + 1)) (updX (updX X e (n e) []) (2 + e) (updN n e (n e + 1) (2 + e)) []) (updH h e (h e ++ [([], [])])) := by
  intro e' he'
  obtain ⟨k1, k2, k3⟩ := k e' he'
  obtain ⟨m1, m2, m3⟩ := k e he
  have hx : updN n e (n e + 1) (2 + e) = n (2 + e) := by simp [updN]
  rw [hx]
  by_cases hee : e' = e
  · subst hee
    refine ⟨?_, ?_, fun j hj => ?_⟩
    · simp [updN, updH, k1]
    · simp [updN, updH, k2]
    · simp only [updH, if_true, List.length_append, List.length_cons, List.length_nil] at hj ⊢
      by_cases hjn : j = (h e').length
      · subst hjn
        simp [updX, k1, k2]
      · rw [List.getElem?_append_left (by omega), k3 j (by omega)]
        have a1 : ¬ (j = n e') := by omega
        have a2 : ¬ (j = n (2 + e')) := by omega
        simp [updX, a1, a2]
  · have a0 : ¬ (e' = 2 + e) := by omega
    have a1 : ¬ (2 + e' = e) := by omega
    have a2 : ¬ (2 + e' = 2 + e) := by omega
    refine ⟨?_, ?_, fun j hj => ?_⟩
    · simp [updN, updH, hee, a0, k1]
    · simp [updN, updH, hee, a1, k2]
    · simp only [updH, if_neg hee] at hj ⊢
      rw [k3 j hj]
      simp [updX, hee, a0, a1]
theorem Cont.text {n : Nat → Nat} {X : Nat → Nat → List ByteArray} {h : Held} (k : Cont n X h) (e m : Nat) (he : e < 2) (q : Bool) (d : ByteArray) (hm : n e = m + 1) :
    Cont n (updX X (2 * qn q + e) m (X (2 * qn q + e) m ++ [d])) (updH h e (addLast q d (h e))) := by
  intro e' he'
  obtain ⟨k1, k2, k3⟩ := k e' he'
  by_cases hee : e' = e
  · subst hee
    have hl : (h e').length = m + 1 := by omega
    have hlast : (h e').getLast? = some (X e' m, X (2 + e') m) := by
      rw [List.getLast?_eq_getElem?, hl]; exact k3 m (by omega)
    refine ⟨?_, ?_, fun j hj => ?_⟩
    · simp [updH, addLast_len, k1]
    · simp [updH, addLast_len, k2]
    · simp only [updH, if_true, addLast_len] at hj ⊢
      unfold addLast
      rw [hlast]
      simp only
      by_cases hjm : j = m
      · subst hjm
        rw [List.getElem?_append_right (by simp; omega)]
        cases q <;> simp [updX, qn, hl]
      · rw [List.getElem?_append_left (by simp; omega), List.getElem?_dropLast, if_pos (by omega), k3 j (by omega)]
        simp [updX, hjm]
  · have a1 : ¬ (e' = 2 * qn q + e) := by unfold qn; split <;> omega
    have a2 : ¬ (2 + e' = 2 * qn q + e) := by unfold qn; split <;> omega
    refine ⟨by simp [updH, hee, k1], by simp [updH, hee, k2], fun j hj => ?_⟩
    simp only [updH, if_neg hee] at hj ⊢
    rw [k3 j hj]
    simp [updX, a1, a2]
theorem upd_nil (h : Held) (e : Nat) (q : Bool) (d : ByteArray) (hz : (h e).length = 0) : updH h e (addLast q d (h e)) = h := by
  funext e'
  have : h e = [] := List.eq_nil_of_length_eq_zero hz
  unfold updH
  split
  · rename_i x; subst x; rw [this]; rfl
  · rfl

theorem rec_out (h : Held) (en what how : Int) (d : ByteArray) (ho : en < 0 ∨ 2 ≤ en) : stepRec h (recOf en what how d) = h := by
  have he : (recOf en what how d).en = en := by
    unfold recOf
    repeat' split
    all_goals rfl
  unfold stepRec; rw [he, if_pos ho]
theorem rec_beg (h : Held) (e : Nat) (he : e < 2) (how : Int) (d : ByteArray) : stepRec h (recOf (e : Int) 0 how d) = updH h e (h e ++ [([], [])]) := by
  have hn : ¬ ((e : Int) < 0 ∨ 2 ≤ (e : Int)) := by omega
  unfold recOf stepRec begH datH begB
  by_cases e0 : how % 8 = 0
  · simp [e0]; omega
  by_cases e1 : how % 8 = 1
  · simp [e1]; omega
  by_cases e2 : how % 8 = 2
  · simp [e2]; omega
  by_cases e3 : how % 8 = 3
  · simp [e3]; omega
  simp [e0, e1, e2, e3]; omega
theorem rec_sent (h : Held) (e : Nat) (he : e < 2) (how : Int) (d : ByteArray) : stepRec h (recOf (e : Int) 1 how d) = updH h e (addLast false d (h e)) := by
  unfold recOf stepRec begH datH begB
  simp; omega
theorem rec_got (h : Held) (e : Nat) (he : e < 2) (how : Int) (d : ByteArray) : stepRec h (recOf (e : Int) 2 how d) = updH h e (addLast true d (h e)) := by
  unfold recOf stepRec begH datH begB
  simp; omega
theorem rec_else (h : Held) (e : Nat) (he : e < 2) (what how : Int) (d : ByteArray) (h0 : what ≠ 0) (h1 : what ≠ 1) (h2 : what ≠ 2) : stepRec h (recOf (e : Int) what how d) = h := by
  have a0 := Int.emod_nonneg how (show (4 : Int) ≠ 0 by decide)
  have a1 := Int.emod_lt_of_pos how (show (0 : Int) < 4 by decide)
  have b5 : ¬ (1 + how % 4 = 5) := by omega
  have b6 : ¬ (1 + how % 4 = 6) := by omega
  unfold recOf stepRec begH datH begB
  simp [h0, h1, h2, b5, b6]
end Go.Proofs.Ytanmdmidjeobeaa
