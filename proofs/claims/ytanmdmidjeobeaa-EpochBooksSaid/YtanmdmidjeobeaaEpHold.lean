/-
  A book by what it holds: contracts of Add, Epochs, Sound over lists.
-/
import Derived.Test.YtanmdmidjeobeaaEpAdd
import Derived.Test.YtanmdmidjeobeaaEpOps
set_option linter.unusedVariables false
set_option linter.unusedSimpArgs false
namespace Go.Proofs.Ytanmdmidjeobeaa
open Go.RowKit

theorem Rc.cells_len (r : Rc) : r.cells.length = 18 := rfl
theorem flat_recs (rs : List Rc) (j i : Nat) (hj : j < rs.length) (hi : i < 18) : (rs.flatMap Rc.cells)[j * 18 + i]? = (rs[j].cells)[i]? := by
  induction rs generalizing j with
  | nil => simp at hj
  | cons r t ih =>
    rw [List.flatMap_cons]
    cases j with
    | zero => rw [Nat.zero_mul, Nat.zero_add, List.getElem?_append_left (by rw [Rc.cells_len]; exact hi)]; rfl
    | succ j =>
      rw [List.getElem?_append_right (by rw [Rc.cells_len]; omega), Rc.cells_len, show (j + 1) * 18 + i - 18 = j * 18 + i by omega]
      exact ih j (by simpa using hj)
/-- A block that holds records is a slice of them. -/
theorem recs_of_block {w : World} {b c : Nat} {T : TypeId} {rs : List Rc} {fr : Nat × Nat} (h : w.heap[b]? = some (.cells (rs.flatMap Rc.cells).toArray T fr)) : RecsR w (.slice (some ⟨b, 0, none⟩) rs.length c) rs := by
  refine ⟨b, c, rfl, fun j hj => ?_⟩
  have key : ∀ i, i < 18 → w.cell? ⟨b, j * 18 + i, none⟩ = (rs[j].cells)[i]? := fun i hi => by
    rw [cell_of_row _ _ _ _ _ _ h, ← flat_recs rs j i hj hi]; simp
  exact ⟨by rw [show j * 18 = j * 18 + 0 from rfl, key 0 (by omega)]; rfl, key 1 (by omega), key 2 (by omega), key 3 (by omega), key 4 (by omega), key 5 (by omega), key 6 (by omega), key 7 (by omega), key 8 (by omega), key 9 (by omega), key 10 (by omega), key 11 (by omega), key 12 (by omega), key 13 (by omega), key 14 (by omega), key 15 (by omega), key 16 (by omega), key 17 (by omega)⟩

theorem foot_lt {w : World} {B b : Nat} {n : Nat → Nat} {X : Nat → Nat → Bool → List ByteArray} {V : Nat → Value} {R : Nat → Nat → Bool → Value} (h : BookAt w B b n X V R) {x : Nat} (hx : Foot b n V R x) : B ≤ x ∧ x < w.heap.size := by
  rcases hx with hx | ⟨e, he, hx⟩ | ⟨e, j, q, he, hj, hx⟩
  · exact ⟨hx ▸ h.hB, hx ▸ (Array.getElem?_eq_some_iff.1 h.block).1⟩
  · exact (h.rows e he).lt x hx
  · exact (h.strs e he j hj q).lt x hx

/-- A book at block b that holds h; its blocks are among F. -/
def Book (w : World) (B b : Nat) (h : Held) (F : Nat → Prop) : Prop :=
  ∃ n X V R, BookAt w B b n X V R ∧ heldOf n X = h ∧ ∀ x, Foot b n V R x → F x
theorem Book.keep {w w' : World} {B b : Nat} {h : Held} {F : Nat → Prop} (k : Book w B b h F) (hb : Below w.heap.size w w') : Book w' B b h F := by
  obtain ⟨n, X, V, R, h1, h2, h3⟩ := k
  exact ⟨n, X, V, R, h1.keep hb, h2, h3⟩
theorem Book.mono {w : World} {B b : Nat} {h : Held} {F F' : Nat → Prop} (k : Book w B b h F) (hF : ∀ x, B ≤ x → x < w.heap.size → F x → F' x) : Book w B b h F' := by
  obtain ⟨n, X, V, R, h1, h2, h3⟩ := k
  exact ⟨n, X, V, R, h1, h2, fun x hx => hF x (foot_lt h1 hx).1 (foot_lt h1 hx).2 (h3 x hx)⟩
/-- Whatever turns blocks apart from the book's leaves it. -/
theorem Book.fr {w w' : World} {B b : Nat} {h : Held} {F G : Nat → Prop} (k : Book w B b h F) (hf : Fr G w w') (hd : ∀ x, F x → ¬ G x) : Book w' B b h F := by
  obtain ⟨n, X, V, R, h1, h2, h3⟩ := k
  refine ⟨n, X, V, R, ⟨h1.hB, ?_, fun e he => hf.own (h1.rows e he) (fun x hx => hd x (h3 x (Or.inr (Or.inl ⟨e, he, hx⟩)))), fun e he j hj q => hf.own (h1.strs e he j hj q) (fun x hx => hd x (h3 x (Or.inr (Or.inr ⟨e, j, q, he, hj, hx⟩)))), h1.apart, h1.each⟩, h2, h3⟩
  rw [hf.block b (Array.getElem?_eq_some_iff.1 h1.block).1 (hd b (h3 b (Or.inl rfl)))]
  exact h1.block
theorem Book.lt {w : World} {B b : Nat} {h : Held} {F : Nat → Prop} (k : Book w B b h F) : B ≤ b ∧ b < w.heap.size := by
  obtain ⟨n, X, V, R, h1, h2, h3⟩ := k
  exact ⟨h1.hB, (Array.getElem?_eq_some_iff.1 h1.block).1⟩

/-- What is held is small. -/
def SmallH (h : Held) (N : Nat) : Prop := ∀ e, e < 2 → (h e).length ≤ N ∧ ∀ p ∈ h e, p.1.length ≤ N ∧ p.2.length ≤ N
theorem SmallH.mono {h : Held} {N M : Nat} (k : SmallH h N) (hm : N ≤ M) : SmallH h M := fun e he => ⟨Nat.le_trans (k e he).1 hm, fun p hp => ⟨Nat.le_trans ((k e he).2 p hp).1 hm, Nat.le_trans ((k e he).2 p hp).2 hm⟩⟩
theorem SmallH.upd {h : Held} {N : Nat} (k : SmallH h N) {e : Nat} {l : List (List ByteArray × List ByteArray)} (hl : l.length ≤ N) (hp : ∀ p ∈ l, p.1.length ≤ N ∧ p.2.length ≤ N) : SmallH (updH h e l) N := fun e' he' => by
  unfold updH; split
  · exact ⟨hl, hp⟩
  · exact k e' he'
theorem addLast_len (q : Bool) (d : ByteArray) (l : List (List ByteArray × List ByteArray)) : (addLast q d l).length = l.length := by
  unfold addLast
  cases h : l.getLast? with
  | none => rfl
  | some x =>
    have : l ≠ [] := by rintro rfl; simp at h
    have := List.length_pos_iff.2 this
    simp; omega
theorem addLast_mem {q : Bool} {d : ByteArray} {l : List (List ByteArray × List ByteArray)} {N : Nat} (h : ∀ p ∈ l, p.1.length ≤ N ∧ p.2.length ≤ N) : ∀ p ∈ addLast q d l, p.1.length ≤ N + 1 ∧ p.2.length ≤ N + 1 := by
  intro p hp
  unfold addLast at hp
  cases hl : l.getLast? with
  | none => rw [hl] at hp; have := h p hp; omega
  | some x =>
    rw [hl] at hp
    have hx := h x (List.mem_of_getLast? hl)
    rcases List.mem_append.1 hp with h1 | h1
    · have := h p (List.dropLast_subset _ h1); omega
    · obtain rfl := List.mem_singleton.1 h1
      cases q <;> simp <;> omega
theorem SmallH.begin {h : Held} {N : Nat} (k : SmallH h N) (r : Rc) (he : r.en.toNat < 2) : SmallH (begH h r) (N + 1) ∧ ∀ e, e < 2 → ∀ p ∈ begH h r e, p.1.length ≤ N ∧ p.2.length ≤ N := by
  unfold begH
  split
  · refine ⟨(k.mono (Nat.le_succ N)).upd (by have := (k _ he).1; simp; omega) (fun p hp => ?_), fun e he' p hp => ?_⟩
    · rcases List.mem_append.1 hp with h1 | h1
      · have := (k _ he).2 p h1; omega
      · obtain rfl := List.mem_singleton.1 h1; simp
    · unfold updH at hp
      split at hp
      · rcases List.mem_append.1 hp with h1 | h1
        · exact (k _ he).2 p h1
        · obtain rfl := List.mem_singleton.1 h1; simp
      · exact (k e he').2 p hp
  · exact ⟨k.mono (Nat.le_succ N), fun e he' p hp => (k e he').2 p hp⟩
theorem SmallH.step {h : Held} {N : Nat} (k : SmallH h N) (r : Rc) : SmallH (stepRec h r) (N + 1) := by
  unfold stepRec
  split
  · exact k.mono (Nat.le_succ N)
  · rename_i hen
    have he : r.en.toNat < 2 := by omega
    obtain ⟨h1, h2⟩ := k.begin r he
    unfold datH
    split
    · exact h1.upd (by rw [addLast_len]; exact (h1 _ he).1) (addLast_mem (h2 _ he))
    · split
      · exact h1.upd (by rw [addLast_len]; exact (h1 _ he).1) (addLast_mem (h2 _ he))
      · exact h1
theorem SmallH.steps {h : Held} {N : Nat} (rs : List Rc) (k : SmallH h N) : SmallH (rs.foldl stepRec h) (N + rs.length) := by
  induction rs generalizing h N with
  | nil => exact k
  | cons r t ih => exact (ih (k.step r)).mono (by simp; omega)

theorem small_at {n : Nat → Nat} {X : Nat → Nat → Bool → List ByteArray} {N : Nat} (k : SmallH (heldOf n X) N) {e : Nat} (he : e < 2) : n e ≤ N ∧ ∀ j, j < n e → ∀ q, (X e j q).length ≤ N := by
  obtain ⟨h1, h2⟩ := k e he
  refine ⟨by simpa [heldOf] using h1, fun j hj q => ?_⟩
  have := h2 (X e j false, X e j true) (by simp only [heldOf, List.mem_map, List.mem_range]; exact ⟨j, hj, rfl⟩)
  cases q
  · exact this.1
  · exact this.2

/-- What Add leaves. -/
def AddBook (W : World) (B b : Nat) (h : Held) (F : Nat → Prop) (rs : List Rc) (e : Ending) (w' : World) : Prop :=
  e = .returned (.tuple #[]) ∧ Book w' B b (rs.foldl stepRec h) (fun x => F x ∨ W.heap.size ≤ x) ∧ Fr F W w'
theorem add_book (rs : List Rc) (B b c N : Nat) (h : Held) (F : Nat → Prop) (W : World) (hbook : Book W B b h F) (hs : SmallH h N) (hN : N + rs.length ≤ 100000) :
    Calls Try.prog 8 #[.pointer (some ⟨b, 0, none⟩), .slice (some ⟨W.heap.size, 0, none⟩) rs.length c] (W.alloc (.cells (rs.flatMap Rc.cells).toArray 43)) (AddBook W B b h F rs) := by
  obtain ⟨n, X, V, R, h1, rfl, h3⟩ := hbook
  have hbel : Below W.heap.size W (W.alloc (.cells (rs.flatMap Rc.cells).toArray 43)) := (Below.refl _ _).alloc (Nat.le_refl _) _
  refine (add_any _ rs B b n X V R _ (h1.keep hbel) (recs_of_block (heap_alloc_new W _)) (fun rb hrb hf => ?_) (fun e he => ?_) (fun e j q he hj => ?_) ?_).mono ?_
  · have : W.heap.size = rb := by simpa [Value.ownBlock] using hrb
    have := (foot_lt h1 hf).2
    omega
  · have := (small_at hs he).1; omega
  · have := (small_at hs he).2 j hj q; omega
  · have := h1.hB; have := (Array.getElem?_eq_some_iff.1 h1.block).1; simp; omega
  · rintro e w' ⟨rfl, n', X', V', R', k1, k2, k3, k4⟩
    refine ⟨rfl, ⟨n', X', V', R', k1, k2, fun x hx => ?_⟩, ?_⟩
    · rcases k4 x hx with y | y
      · exact Or.inl (h3 x y)
      · right; simp at y; omega
    · exact (Fr.of_below hbel).trans (k3.mono h3) (fun x hx => Or.inl hx)

/-- The same, as it meets a walk. -/
theorem add_at {rs : List Rc} {cs : Array Value} {B b g k c N : Nat} {h : Held} {F : Nat → Prop} {W : World} (hbook : Book W B b h F) (hs : SmallH h N) (hN : N + rs.length ≤ 100000) (hcs : (rs.flatMap Rc.cells).toArray = cs) (hg : W.heap.size = g) (hk : rs.length = k) :
    Calls Try.prog 8 #[.pointer (some ⟨b, 0, none⟩), .slice (some ⟨g, 0, none⟩) k c] (W.alloc (.cells cs 43)) (AddBook W B b h F rs) := by
  subst hcs; subst hg; subst hk
  exact add_book rs B b c N h F W hbook hs hN

/-- A slice of a call's own that holds these epochs. -/
def EpsL (w : World) (B : Nat) (v : Value) (l : List (List ByteArray × List ByteArray)) : Prop := ∃ Xe, EpsOwn w B v l.length Xe ∧ epsList l.length Xe = l
theorem EpsL.below {w w' : World} {B : Nat} {v : Value} {l : List (List ByteArray × List ByteArray)} (h : EpsL w B v l) (hb : Below w.heap.size w w') : EpsL w' B v l := by
  obtain ⟨Xe, h1, h2⟩ := h
  exact ⟨Xe, h1.below hb, h2⟩
theorem EpsL.slice {w : World} {B : Nat} {v : Value} {l : List (List ByteArray × List ByteArray)} (h : EpsL w B v l) : ∃ a c, v = .slice a l.length c := by
  obtain ⟨Xe, ⟨R', h1, _⟩, _⟩ := h
  exact own_slice h1
theorem EpsL.eps {w : World} {B N : Nat} {v : Value} {l : List (List ByteArray × List ByteArray)} (h : EpsL w B v l) (hl : l.length ≤ 100000) (hp : ∀ p ∈ l, p.1.length ≤ 100000 ∧ p.2.length ≤ 100000) : EpsR w v l := by
  obtain ⟨Xe, h1, h2⟩ := h
  have := eps_of_own h1 hl (fun j hj q => by
    have := hp (Xe j false, Xe j true) (by rw [← h2]; simp only [epsList, List.mem_map, List.mem_range]; exact ⟨j, hj, rfl⟩)
    cases q
    · exact this.1
    · exact this.2)
  rwa [h2] at this

theorem epochs_book (en : Int) (B b : Nat) (h : Held) (F : Nat → Prop) (w : World) (hbook : Book w B b h F) (hs : SmallH h 100000) (h0 : 0 ≤ en) (h1 : en < 2) :
    Calls Try.prog 10 #[.pointer (some ⟨b, 0, none⟩), .int .i64 en] w fun e w' => ∃ v, e = .returned v ∧ EpsL w' w.heap.size v (h en.toNat) ∧ Below w.heap.size w w' := by
  obtain ⟨n, X, V, R, k1, rfl, k3⟩ := hbook
  have hsm := small_at hs (show en.toNat < 2 by omega)
  refine (epochs_any en B b n X V R w k1 h0 h1 hsm.1 hsm.2).mono ?_
  rintro e w' ⟨v, rfl, hv, hb⟩
  refine ⟨v, rfl, ⟨X en.toNat, ?_, ?_⟩, hb⟩
  · simpa [heldOf] using hv
  · simp [heldOf, epsList]

theorem sound_book (B b : Nat) (h : Held) (F : Nat → Prop) (w : World) (hbook : Book w B b h F) (hs : SmallH h 100000) :
    Calls Try.prog 13 #[.pointer (some ⟨b, 0, none⟩)] w fun e w' => e = .returned (.bool (soundB h)) ∧ Below w.heap.size w w' := by
  obtain ⟨n, X, V, R, k1, rfl, k3⟩ := hbook
  exact sound_any B b n X V R w k1 (fun e he => (small_at hs he).1) (fun e j q he hj => (small_at hs he).2 j hj q)

theorem book_new (w : World) : Book (w.alloc (.cells #[.slice none 0 0, .slice none 0 0] 27)) w.heap.size w.heap.size (fun _ => []) (fun x => x = w.heap.size) :=
  ⟨fun _ => 0, fun _ _ _ => [], fun _ => .slice none 0 0, fun _ _ _ => .slice none 0 0,
    ⟨Nat.le_refl _, heap_alloc_new w _, fun e he => World.ownsRow_nil _ _ _ _, fun e he j hj => absurd hj (Nat.not_lt_zero _), Or.inl rfl, fun e he j hj => absurd hj (Nat.not_lt_zero _)⟩, rfl, fun x hx => by
    rcases hx with h | ⟨e, he, h⟩ | ⟨e, j, q, he, hj, h⟩
    · exact h
    · simp [Value.ownBlock] at h
    · exact absurd hj (Nat.not_lt_zero _)⟩
theorem small_new : SmallH (fun _ => []) 0 := fun e he => ⟨Nat.le_refl _, fun p hp => by cases hp⟩
end Go.Proofs.Ytanmdmidjeobeaa
