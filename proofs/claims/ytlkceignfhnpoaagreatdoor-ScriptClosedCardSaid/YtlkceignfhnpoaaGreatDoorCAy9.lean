/-
  Slices of rows, and rules that keep a run's text small.
-/
import Derived.Test.YtlkceignfhnpoaaGreatDoorCAy8
set_option linter.unusedVariables false
set_option linter.unusedSimpArgs false
namespace Go.Proofs.YtlkceignfhnpoaaGreatDoor
open Go AX
theorem Fr.comp {own L : List Nat} {H0 H H' : AH} {s0 s s' : Nat} (h : Fr own H0 s0 H s) (k : Fr L H s H' s') (hl : ∀ b, b ∈ L → s0 ≤ b ∨ b ∈ own) : Fr own H0 s0 H' s' :=
  ⟨Nat.le_trans h.up k.up, fun b hb ho => (k.keep b (Nat.lt_of_lt_of_le hb h.up) (fun hm => (hl b hm).elim (fun h => by omega) ho)).trans (h.keep b hb ho)⟩
theorem Bd.new {H : AH} {s : Nat} {x : Option AB} (h : Bd H s) : Bd (upd H s x) (s + 1) := fun k hk => (upd_ne _ _ (by omega)).trans (h k (by omega))
theorem Bd.set {H : AH} {s b : Nat} {x : Option AB} (h : Bd H s) (hb : b < s) : Bd (upd H b x) s := fun k hk => (upd_ne _ _ (by omega)).trans (h k hk)
/-- A slice of rows of k cells each, in a block of its own, or none. -/
def SlAt (H : AH) (T : TypeId) (k : Nat) (v : Value) (rows : List (List Value)) (L : List Nat) : Prop :=
  (∀ r, r ∈ rows → r.length = k) ∧
    ((v = .slice none 0 0 ∧ rows = [] ∧ L = []) ∨
      ∃ d o cs, v = .slice (some ⟨d, o, none⟩) rows.length rows.length ∧ L = [d] ∧ H d = some (.cells cs T true) ∧ o + rows.length * k ≤ cs.length ∧ (cs.drop o).take (rows.length * k) = rows.flatten)
theorem SlAt.keep {H H' : AH} {T : TypeId} {k : Nat} {v : Value} {rows : List (List Value)} {L : List Nat} (h : SlAt H T k v rows L) (hk : ∀ b, b ∈ L → H' b = H b) : SlAt H' T k v rows L := by
  obtain ⟨hr, h | ⟨d, o, cs, rfl, rfl, hd, ho, hc⟩⟩ := h
  · exact ⟨hr, .inl h⟩
  · exact ⟨hr, .inr ⟨d, o, cs, rfl, rfl, by rw [hk d (by simp)]; exact hd, ho, hc⟩⟩
theorem SlAt.nil (H : AH) (T : TypeId) (k : Nat) : SlAt H T k (.slice none 0 0) [] [] := ⟨by simp, .inl ⟨rfl, rfl, rfl⟩⟩
theorem flatten_len {k : Nat} : ∀ {rows : List (List Value)}, (∀ r, r ∈ rows → r.length = k) → rows.flatten.length = rows.length * k
  | [], _ => by simp
  | r :: t, h => by
    have h1 := h r (by simp)
    have h2 := flatten_len (rows := t) (fun x hx => h x (by simp [hx]))
    simp only [List.flatten_cons, List.length_append, List.length_cons, h1, h2, Nat.add_mul, Nat.one_mul]
    omega
theorem SlAt.made {H : AH} {T : TypeId} {k d : Nat} {rows : List (List Value)} (hr : ∀ r, r ∈ rows → r.length = k) (hd : H d = some (.cells rows.flatten T true)) : SlAt H T k (.slice (some ⟨d, 0, none⟩) rows.length rows.length) rows [d] :=
  ⟨hr, .inr ⟨d, 0, _, rfl, rfl, hd, by rw [flatten_len hr]; omega, by simp [List.take_of_length_le, flatten_len hr]⟩⟩
/-- A slice's length. -/
theorem SlAt.len {H : AH} {T : TypeId} {k : Nat} {v : Value} {rows : List (List Value)} {L : List Nat} (h : SlAt H T k v rows L) : ∃ a, v = .slice a rows.length rows.length ∧ (a = none → rows = []) := by
  obtain ⟨hr, ⟨rfl, rfl, rfl⟩ | ⟨d, o, cs, rfl, rfl, hd, ho, hc⟩⟩ := h
  · exact ⟨none, rfl, fun _ => rfl⟩
  · exact ⟨_, rfl, fun h => by cases h⟩
section
variable {P : Program} {F G : Nat → Prop} {H : AH} {s : Nat} {T e : TypeId} {k y : Nat} {v w : Value} {rows news : List (List Value)} {L M : List Nat}
theorem SlAt.cells (h : SlAt H T k v rows L) (hF : ∀ b, b ∈ L → F b) {Q : List Value → AH → Nat → Prop} (hq : Q rows.flatten H s) : Wp F G (sliceCells k v) H s Q := by
  obtain ⟨hr, ⟨rfl, rfl, rfl⟩ | ⟨d, o, cs, rfl, rfl, hd, ho, hc⟩⟩ := h
  · simpa using hq
  · simp [hd, hF d (by simp), ho, hc]
    split
    · rename_i h0; subst h0; simpa using hq
    · exact hq
/-- Rows are put behind others. -/
theorem SlAt.append (h : SlAt H e k v rows L) (h2 : SlAt H e k w news M) (hi : apInfo P T = some (e, k, y)) (hFL : ∀ b, b ∈ L → F b ∧ G b) (hFM : ∀ b, b ∈ M → F b) (hlm : ∀ b, b ∈ L → b < s)
    (hb : (rows.length + news.length) * y ≤ 140737488355328 ∧ rows.length + news.length ≤ 9223372036854775807) {Q : Value → AH → Nat → Prop}
    (hq : ∀ H' s' v' L', Fr L H s H' s' → SlAt H' e k v' (rows ++ news) L' → (∀ b, b ∈ L' → (b ∈ L ∨ s ≤ b) ∧ (b ∈ L ∨ b < s')) → (news = [] → v' = v) → Q v' H' s') : Wp F G (aAppend P T T v w) H s Q := by
  obtain ⟨a, rfl, ha⟩ := h.len
  obtain ⟨a2, rfl, ha2⟩ := h2.len
  rw [wp_append (by rw [hi]; rfl), hi]
  dsimp only
  split
  · rename_i h0
    have : news = [] := List.length_eq_zero_iff.1 h0
    subst this
    exact hq _ _ _ L (Fr.refl _ _ _) (by simpa using h) (fun b hb => ⟨.inl hb, .inl hb⟩) (fun _ => rfl)
  · rename_i h0
    have hne : news ≠ [] := fun e => h0 (by rw [e]; rfl)
    refine h2.cells hFM ?_
    have hk2 : news.flatten.length = news.length * k := flatten_len h2.1
    have hrr : ∀ r, r ∈ rows ++ news → r.length = k := fun r hr => (List.mem_append.1 hr).elim (h.1 r) (h2.1 r)
    unfold ApTo
    obtain ⟨hr, ⟨hv, rfl, rfl⟩ | ⟨d, o, cs, hv, rfl, hd, ho, hc⟩⟩ := h
    · cases hv
      simp only [List.length_nil, if_true, List.nil_append]
      have := SlAt.made (H := upd H s (some (.cells news.flatten e true))) (d := s) h2.1 (upd_same _ _ _)
      exact hq _ _ _ [s] (Fr.refl _ _ _).new this (fun b hb => by simp at hb; subst hb; exact ⟨.inr (Nat.le_refl _), .inr (Nat.lt_succ_self _)⟩) (fun h => absurd h hne)
    · cases hv
      simp only [hd, (hFL d (by simp)).1, (hFL d (by simp)).2, true_and, ho, and_self, if_true, hc]
      have hds : d < s := hlm d (by simp)
      have hm := SlAt.made (H := upd (upd H d none) s (some (.cells (rows ++ news).flatten e true))) (d := s) hrr (upd_same _ _ _)
      rw [List.length_append] at hm
      have hfl : rows.flatten ++ news.flatten = (rows ++ news).flatten := by simp
      rw [hfl]
      exact hq _ _ _ [s] ((Fr.refl _ _ _).own (by simp)).new hm (fun b hb => by simp at hb; subst hb; exact ⟨.inr (Nat.le_refl _), .inr (Nat.lt_succ_self _)⟩) (fun h => absurd h hne)
/-- The i-th row's j-th cell. -/
theorem flatten_get {k : Nat} : ∀ {rows : List (List Value)} (hr : ∀ r, r ∈ rows → r.length = k) {i j : Nat} (hi : i < rows.length) (hj : j < k), rows.flatten[i * k + j]? = (rows[i])[j]?
  | [], _, i, j, hi, _ => absurd hi (by simp)
  | r :: t, hr, 0, j, hi, hj => by
    have h1 := hr r (by simp)
    simp only [List.flatten_cons, Nat.zero_mul, Nat.zero_add, List.getElem_cons_zero]
    rw [List.getElem?_append_left (by omega)]
  | r :: t, hr, i + 1, j, hi, hj => by
    have h1 := hr r (by simp)
    simp only [List.flatten_cons, List.getElem_cons_succ]
    rw [List.getElem?_append_right (by rw [h1, Nat.add_mul]; omega), h1, show (i + 1) * k + j - k = i * k + j by rw [Nat.add_mul]; omega]
    exact flatten_get (fun x hx => hr x (by simp [hx])) (by simpa using hi) hj
theorem SlAt.at (h : SlAt H T k v rows L) {i : Nat} (hi : i < rows.length) : ∃ d o cs, v = .slice (some ⟨d, o, none⟩) rows.length rows.length ∧ L = [d] ∧ H d = some (.cells cs T true) ∧ o + i * k + k ≤ cs.length ∧ (cs.drop (o + i * k)).take k = rows[i] := by
  obtain ⟨hr, ⟨rfl, rfl, rfl⟩ | ⟨d, o, cs, rfl, rfl, hd, ho, hc⟩⟩ := h
  · simp at hi
  · have hik : i * k + k ≤ rows.length * k := by
      have : (i + 1) * k ≤ rows.length * k := Nat.mul_le_mul_right _ hi
      rw [Nat.add_mul, Nat.one_mul] at this; exact this
    refine ⟨d, o, cs, rfl, rfl, hd, by omega, ?_⟩
    have hlen : (rows[i]).length = k := hr _ (List.getElem_mem _)
    apply List.ext_getElem?
    intro j
    by_cases hj : j < k
    · rw [List.getElem?_take, if_pos hj, List.getElem?_drop, ← flatten_get hr hi hj, ← hc, List.getElem?_take, if_pos (by omega), List.getElem?_drop]
      congr 1
      omega
    · rw [List.getElem?_eq_none (by simp; omega), List.getElem?_eq_none (by omega)]
end
end Go.Proofs.YtlkceignfhnpoaaGreatDoor
