/-
  What is owned: blocks that lie apart, each with what it holds; how a run turns them.
  Drawn regions whose operations may meet: what each one touches is said, and that they keep apart.
  Rows of one's own: rows are put in place of others; new rows; rows copied.
  What is frozen, read; rings.
  Rows of others put behind one's own; the front of a slice; what is behind is cleared.
  Parts of slices of rows, whatever they lie in; a row's cells; a slice's length.
-/
import Derived.Test.YtlkceignfhnpoaaGreatDoorCAy9
set_option linter.unusedVariables false
set_option linter.unusedSimpArgs false
section
namespace Go.Proofs.YtlkceignfhnpoaaGreatDoor
open Go AX
/-- What a value leads to: the blocks that belong to it, and what they hold. -/
structure Obj where
  p : Value → AH → (Nat → Prop) → Prop
  loc : ∀ {v : Value} {H H' : AH} {D : Nat → Prop}, p v H D → (∀ b, D b → H' b = H b) → p v H' D
/-- A value, and what it leads to. -/
structure Own where
  k : Value
  X : Obj
/-- All these, apart from one another; D are their blocks. -/
def Holds : List Own → AH → (Nat → Prop) → Prop
  | [], H, D => ∀ b, ¬ D b
  | o :: r, H, D => ∃ D1 D2 : Nat → Prop, (∀ b, D1 b → ¬ D2 b) ∧ (∀ b, D b ↔ (D1 b ∨ D2 b)) ∧ o.X.p o.k H D1 ∧ Holds r H D2
theorem Holds.loc : ∀ {P : List Own} {H H' : AH} {D : Nat → Prop}, Holds P H D → (∀ b, D b → H' b = H b) → Holds P H' D
  | [], H, H', D, h, _ => h
  | o :: r, H, H', D, ⟨D1, D2, a, b, c, d⟩, k => ⟨D1, D2, a, b, o.X.loc c fun x hx => k x ((b x).2 (.inl hx)), Holds.loc d fun x hx => k x ((b x).2 (.inr hx))⟩
theorem Holds.iff : ∀ {P : List Own} {H : AH} {D D' : Nat → Prop}, Holds P H D → (∀ b, D b ↔ D' b) → Holds P H D' := by
  intro P H D D' h e
  have : D = D' := funext fun b => propext (e b)
  subst this; exact h
theorem Holds.swap {o q : Own} {r : List Own} {H : AH} {D : Nat → Prop} (h : Holds (o :: q :: r) H D) : Holds (q :: o :: r) H D := by
  obtain ⟨D1, D2, a, b, c, E1, E2, a', b', c', d'⟩ := h
  refine ⟨E1, fun x => D1 x ∨ E2 x, fun x hx hy => ?_, fun x => ?_, c', D1, E2, fun x hx hy => a x hx ((b' x).2 (.inr hy)), fun x => Iff.rfl, c, d'⟩
  · rcases hy with hy | hy
    · exact a x hy ((b' x).2 (.inl hx))
    · exact a' x hx hy
  · rw [b, b']
    constructor
    · rintro (h | h | h)
      · exact .inr (.inl h)
      · exact .inl h
      · exact .inr (.inr h)
    · rintro (h | h | h)
      · exact .inr (.inl h)
      · exact .inl h
      · exact .inr (.inr h)
theorem Holds.perm {P P' : List Own} (e : P.Perm P') : ∀ {H : AH} {D : Nat → Prop}, Holds P H D → Holds P' H D := by
  induction e with
  | nil => intro H D h; exact h
  | cons x _ ih => rintro H D ⟨D1, D2, a, b, c, d⟩; exact ⟨D1, D2, a, b, c, ih d⟩
  | swap x y l => intro H D h; exact h.swap
  | trans _ _ h1 h2 => intro H D h; exact h2 (h1 h)
theorem Holds.append : ∀ {P R : List Own} {H : AH} {D : Nat → Prop}, Holds (P ++ R) H D → ∃ D1 D2 : Nat → Prop, (∀ b, D1 b → ¬ D2 b) ∧ (∀ b, D b ↔ (D1 b ∨ D2 b)) ∧ Holds P H D1 ∧ Holds R H D2
  | [], R, H, D, h => ⟨fun _ => False, D, fun _ h => h.elim, fun b => by simp, fun _ h => h, h⟩
  | o :: r, R, H, D, ⟨D1, D2, a, b, c, d⟩ => by
    obtain ⟨E1, E2, a', b', c', d'⟩ := Holds.append d
    refine ⟨fun x => D1 x ∨ E1 x, E2, fun x hx hy => ?_, fun x => ?_, ⟨D1, E1, fun x hx hy => a x hx ((b' x).2 (.inl hy)), fun x => Iff.rfl, c, c'⟩, d'⟩
    · rcases hx with hx | hx
      · exact a x hx ((b' x).2 (.inr hy))
      · exact a' x hx hy
    · rw [b, b']; exact or_assoc.symm
theorem Holds.join : ∀ {P R : List Own} {H : AH} {D D1 D2 : Nat → Prop}, (∀ b, D1 b → ¬ D2 b) → (∀ b, D b ↔ (D1 b ∨ D2 b)) → Holds P H D1 → Holds R H D2 → Holds (P ++ R) H D
  | [], R, H, D, D1, D2, a, b, h, k => k.iff fun x => by rw [b]; constructor; exact .inr; rintro (q | q); exact absurd q (h x); exact q
  | o :: r, R, H, D, D1, D2, a, b, ⟨E1, E2, a', b', c', d'⟩, k => by
    refine ⟨E1, fun x => E2 x ∨ D2 x, fun x hx hy => ?_, fun x => ?_, c', Holds.join (fun x hx => a x ((b' x).2 (.inr hx))) (fun x => Iff.rfl) d' k⟩
    · rcases hy with hy | hy
      · exact a' x hx hy
      · exact a x ((b' x).2 (.inl hx)) hy
    · rw [b, b']; exact or_assoc
/-- Of some things one is told by its value; the others. -/
class Look (P : List Own) (k : Value) (X : outParam Obj) (R : outParam (List Own)) : Prop where
  perm : P.Perm (⟨k, X⟩ :: R)
instance (priority := 2000) lookHere {k : Value} {X : Obj} {R : List Own} : Look (⟨k, X⟩ :: R) k X R := ⟨.refl _⟩
instance (priority := 1000) lookThere {k : Value} {X : Obj} {R R' : List Own} {o : Own} [h : Look R k X R'] : Look (o :: R) k X (o :: R') := ⟨(h.perm.cons _).trans (.swap _ _ _)⟩
/-- What nobody turns any more: blocks, and what they hold. -/
structure Wd where
  Z : Nat → Prop
  H : AH
/-- A run as it stands: nothing lies from s on, what is new may be read and written; what is frozen lies as it did, and may be read; what is owned may be read and written, and isn't frozen. -/
structure St (F G : Nat → Prop) (H : AH) (s : Nat) (W : Wd) (P : List Own) : Prop where
  bd : Bd H s
  new : New F G s
  froz : ∀ b, W.Z b → b < s ∧ F b ∧ H b = W.H b
  hold : ∃ D, Holds P H D ∧ ∀ b, D b → b < s ∧ F b ∧ G b ∧ ¬ W.Z b
/-- A thing that is frozen. -/
def Fz (W : Wd) (v : Value) (X : Obj) : Prop := ∃ D, X.p v W.H D ∧ ∀ b, D b → W.Z b
def Wd.le (W W' : Wd) : Prop := ∀ b, W.Z b → W'.Z b ∧ W'.H b = W.H b
theorem Wd.le.refl (W : Wd) : W.le W := fun b h => ⟨h, rfl⟩
theorem Wd.le.trans {W W1 W2 : Wd} (h : W.le W1) (k : W1.le W2) : W.le W2 := fun b hb => ⟨(k b (h b hb).1).1, ((k b (h b hb).1).2).trans (h b hb).2⟩
theorem Fz.up {W W' : Wd} {v : Value} {X : Obj} (h : Fz W v X) (k : W.le W') : Fz W' v X := by
  obtain ⟨D, a, b⟩ := h
  exact ⟨D, X.loc a fun x hx => (k x (b x hx)).2, fun x hx => (k x (b x hx)).1⟩
abbrev ptr (b : Nat) : Value := .pointer (some ⟨b, 0, none⟩)
abbrev nilP : Value := .pointer none
abbrev nilS : Value := .slice none 0 0
/-- A block of cells of one's own. -/
def CellsO (cs : List Value) (T : TypeId) : Obj where
  p v H D := ∃ b, v = ptr b ∧ H b = some (.cells cs T true) ∧ ∀ k, D k ↔ k = b
  loc := by
    rintro v H H' D ⟨b, h1, h2, h3⟩ k
    exact ⟨b, h1, (k b ((h3 b).2 rfl)).trans h2, h3⟩
/-- A map of one's own. -/
def MapO (kv : List (Value × Value)) : Obj where
  p v H D := ∃ b, v = .map (some b) ∧ H b = some (.map kv) ∧ ∀ k, D k ↔ k = b
  loc := by
    rintro v H H' D ⟨b, h1, h2, h3⟩ k
    exact ⟨b, h1, (k b ((h3 b).2 rfl)).trans h2, h3⟩
/-- A slice of rows of one's own, of k cells each. -/
def RowsO (T : TypeId) (k : Nat) (rows : List (List Value)) : Obj where
  p v H D := ∃ L, SlAt H T k v rows L ∧ ∀ b, D b ↔ b ∈ L
  loc := by
    rintro v H H' D ⟨L, h1, h2⟩ k
    exact ⟨L, h1.keep fun b hb => k b ((h2 b).2 hb), h2⟩
/-- Some things together, told by a value; what is known of them. -/
def ExO {α : Type} (A : α → Value → List Own) (c : α → Prop) : Obj where
  p v H D := ∃ a, c a ∧ Holds (A a v) H D
  loc := by
    rintro v H H' D ⟨a, h1, h2⟩ k
    exact ⟨a, h1, h2.loc k⟩
section
variable {F G : Nat → Prop} {H H' : AH} {s s' : Nat} {W : Wd} {P R : List Own} {k : Value} {X : Obj}
theorem St.perm (S : St F G H s W P) {P' : List Own} (e : P.Perm P') : St F G H s W P' := by
  obtain ⟨D, h, k⟩ := S.hold
  exact ⟨S.bd, S.new, S.froz, D, h.perm e, k⟩
/-- One is brought to the front. -/
theorem St.at (S : St F G H s W P) [h : Look P k X R] : St F G H s W (⟨k, X⟩ :: R) := S.perm h.perm
theorem St.front (k : Value) (S : St F G H s W P) [h : Look P k X R] : St F G H s W (⟨k, X⟩ :: R) := S.perm h.perm
theorem St.at2 {k1 k2 : Value} {X1 X2 : Obj} {R1 R2 : List Own} (S : St F G H s W P) [h1 : Look P k1 X1 R1] [h2 : Look R1 k2 X2 R2] : St F G H s W (⟨k1, X1⟩ :: ⟨k2, X2⟩ :: R2) := S.perm (h1.perm.trans (h2.perm.cons _))
theorem St.at3 {k1 k2 k3 : Value} {X1 X2 X3 : Obj} {R1 R2 R3 : List Own} (S : St F G H s W P) [h1 : Look P k1 X1 R1] [h2 : Look R1 k2 X2 R2] [h3 : Look R2 k3 X3 R3] : St F G H s W (⟨k1, X1⟩ :: ⟨k2, X2⟩ :: ⟨k3, X3⟩ :: R3) := S.perm (h1.perm.trans ((h2.perm.trans (h3.perm.cons _)).cons _))
/-- One is left to itself. -/
theorem St.drop {o : Own} (S : St F G H s W (o :: R)) : St F G H s W R := by
  obtain ⟨D, ⟨D1, D2, a, b, c, d⟩, k⟩ := S.hold
  exact ⟨S.bd, S.new, S.froz, D2, d, fun x hx => k x ((b x).2 (.inr hx))⟩
theorem St.forget (k : Value) (S : St F G H s W P) [h : Look P k X R] : St F G H s W R := (S.front k).drop
/-- Nothing of it was turned. -/
theorem St.same (S : St F G H s W P) (hk : ∀ b, b < s → H' b = H b) (hs : s ≤ s') (hb : Bd H' s') : St F G H' s' W P := by
  obtain ⟨D, h, k⟩ := S.hold
  exact ⟨hb, S.new.up hs, fun b hb => by have := S.froz b hb; exact ⟨by omega, this.2.1, (hk b this.1).trans this.2.2⟩, D, h.loc fun b hb => hk b (k b hb).1, fun b hb => ⟨Nat.lt_of_lt_of_le (k b hb).1 hs, (k b hb).2⟩⟩
theorem St.fr0 (S : St F G H s W P) (f : Fr [] H s H' s') (hb : Bd H' s') : St F G H' s' W P := S.same (fun b hb => f.keep b hb (by simp)) f.up hb
theorem St.skip (S : St F G H s W P) (x : Option AB) : St F G (upd H s x) (s + 1) W P := S.same (fun b hb => upd_ne _ _ (by omega)) (Nat.le_succ _) S.bd.new
/-- One thing becomes another one, in the same blocks and new ones. -/
theorem St.turn {k' : Value} {X' : Obj} (S : St F G H s W (⟨k, X⟩ :: R)) (hs : s ≤ s') (hb : Bd H' s')
    (h : ∀ D : Nat → Prop, X.p k H D → (∀ b, D b → b < s ∧ F b ∧ G b) → ∃ D', X'.p k' H' D' ∧ (∀ b, D' b → (D b ∨ s ≤ b) ∧ b < s') ∧ ∀ b, b < s → ¬ D b → H' b = H b) : St F G H' s' W (⟨k', X'⟩ :: R) := by
  obtain ⟨D, ⟨D1, D2, a, b, c, d⟩, q⟩ := S.hold
  have q1 : ∀ x, D1 x → x < s ∧ F x ∧ G x ∧ ¬ W.Z x := fun x hx => q x ((b x).2 (.inl hx))
  obtain ⟨D', h1, h2, h3⟩ := h D1 c fun x hx => ⟨(q1 x hx).1, (q1 x hx).2.1, (q1 x hx).2.2.1⟩
  have lt2 : ∀ x, D2 x → x < s := fun x hx => (q x ((b x).2 (.inr hx))).1
  refine ⟨hb, S.new.up hs, fun x hx => ?_, fun x => D' x ∨ D2 x, ⟨D', D2, fun x hx hy => ?_, fun x => Iff.rfl, h1, d.loc fun x hx => h3 x (lt2 x hx) fun h => a x h hx⟩, fun x hx => ?_⟩
  · have := S.froz x hx
    exact ⟨by omega, this.2.1, (h3 x this.1 fun h => (q1 x h).2.2.2 hx).trans this.2.2⟩
  · rcases (h2 x hx).1 with h | h
    · exact a x h hy
    · have := lt2 x hy; omega
  · rcases hx with hx | hx
    · refine ⟨(h2 x hx).2, ?_⟩
      rcases (h2 x hx).1 with h | h
      · exact (q1 x h).2
      · exact ⟨(S.new x h).1, (S.new x h).2, fun hz => by have := (S.froz x hz).1; omega⟩
    · have := q x ((b x).2 (.inr hx))
      exact ⟨by omega, this.2⟩
/-- New things. -/
theorem St.make {k' : Value} {X' : Obj} (S : St F G H s W R) (hs : s ≤ s') (hb : Bd H' s') (h1 : ∀ b, b < s → H' b = H b) (h : ∃ D', X'.p k' H' D' ∧ ∀ b, D' b → s ≤ b ∧ b < s') : St F G H' s' W (⟨k', X'⟩ :: R) := by
  obtain ⟨D, d, q⟩ := S.hold
  obtain ⟨D', h2, h3⟩ := h
  refine ⟨hb, S.new.up hs, fun x hx => ?_, fun x => D' x ∨ D x, ⟨D', D, fun x hx hy => ?_, fun x => Iff.rfl, h2, d.loc fun x hx => h1 x (q x hx).1⟩, fun x hx => ?_⟩
  · have := S.froz x hx; exact ⟨by omega, this.2.1, (h1 x this.1).trans this.2.2⟩
  · have := h3 x hx; have := (q x hy).1; omega
  · rcases hx with hx | hx
    · have := h3 x hx; exact ⟨this.2, (S.new x this.1).1, (S.new x this.1).2, fun hz => by have := (S.froz x hz).1; omega⟩
    · have := q x hx; exact ⟨by omega, this.2⟩
/-- Another reading of a thing in the same blocks. -/
theorem St.as {k' : Value} {X' : Obj} (S : St F G H s W (⟨k, X⟩ :: R)) (h : ∀ D, X.p k H D → X'.p k' H D) : St F G H s W (⟨k', X'⟩ :: R) := by
  obtain ⟨D, ⟨D1, D2, a, b, c, d⟩, q⟩ := S.hold
  exact ⟨S.bd, S.new, S.froz, D, ⟨D1, D2, a, b, h _ c, d⟩, q⟩
/-- A thing's parts. -/
theorem St.parts {Q : List Own} (S : St F G H s W (⟨k, X⟩ :: R)) (h : ∀ D, X.p k H D → Holds Q H D) : St F G H s W (Q ++ R) := by
  obtain ⟨D, ⟨D1, D2, a, b, c, d⟩, q⟩ := S.hold
  exact ⟨S.bd, S.new, S.froz, D, Holds.join a b (h _ c) d, q⟩
theorem St.whole {Q : List Own} (S : St F G H s W (Q ++ R)) (h : ∀ D, Holds Q H D → X.p k H D) : St F G H s W (⟨k, X⟩ :: R) := by
  obtain ⟨D, hD, q⟩ := S.hold
  obtain ⟨D1, D2, a, b, c, d⟩ := hD.append
  exact ⟨S.bd, S.new, S.froz, D, ⟨D1, D2, a, b, h _ c, d⟩, q⟩
theorem St.opens {α : Type} {A : α → Value → List Own} {c : α → Prop} (S : St F G H s W (⟨k, ExO A c⟩ :: R)) : ∃ a, c a ∧ St F G H s W (A a k ++ R) := by
  obtain ⟨D, ⟨D1, D2, a, b, ⟨x, hx, hh⟩, d⟩, q⟩ := S.hold
  exact ⟨x, hx, S.bd, S.new, S.froz, D, Holds.join a b hh d, q⟩
theorem St.closes {α : Type} {A : α → Value → List Own} {c : α → Prop} (a : α) (hc : c a) (S : St F G H s W (A a k ++ R)) : St F G H s W (⟨k, ExO A c⟩ :: R) :=
  S.whole fun D h => ⟨a, hc, h⟩
/-- What is asked of a thing's heap alone. -/
theorem St.ask {A : Prop} (S : St F G H s W (⟨k, X⟩ :: R)) (h : ∀ D, X.p k H D → (∀ b, D b → b < s ∧ F b ∧ G b) → A) : A := by
  obtain ⟨D, ⟨D1, D2, a, b, c, d⟩, q⟩ := S.hold
  exact h _ c fun x hx => by have := q x ((b x).2 (.inl hx)); exact ⟨this.1, this.2.1, this.2.2.1⟩
/-- A frozen thing, in the heap as it is. -/
theorem St.fask {A : Prop} (S : St F G H s W P) (f : Fz W k X) (h : ∀ D, X.p k H D → (∀ b, D b → b < s ∧ F b) → A) : A := by
  obtain ⟨D, a, b⟩ := f
  exact h D (X.loc a fun x hx => (S.froz x (b x hx)).2.2) fun x hx => ⟨(S.froz x (b x hx)).1, (S.froz x (b x hx)).2.1⟩
/-- One's own is frozen. -/
theorem St.freeze (S : St F G H s W (⟨k, X⟩ :: R)) : ∃ W', W.le W' ∧ Fz W' k X ∧ St F G H s W' R := by
  obtain ⟨D, ⟨D1, D2, a, b, c, d⟩, q⟩ := S.hold
  refine ⟨⟨fun x => W.Z x ∨ D1 x, H⟩, fun x hx => ⟨.inl hx, (S.froz x hx).2.2⟩, ⟨D1, c, fun x hx => .inr hx⟩, S.bd, S.new, fun x hx => ?_, D2, d, fun x hx => ?_⟩
  · rcases hx with hx | hx
    · have := S.froz x hx; exact ⟨this.1, this.2.1, rfl⟩
    · have := q x ((b x).2 (.inl hx)); exact ⟨this.1, this.2.1, rfl⟩
  · have := q x ((b x).2 (.inr hx))
    refine ⟨this.1, this.2.1, this.2.2.1, ?_⟩
    rintro (hz | hz)
    · exact this.2.2.2 hz
    · exact a x hz hx
/-- All that is there is lent out for reading. -/
def lent (F : Nat → Prop) (H : AH) (s : Nat) : Wd := ⟨fun b => b < s ∧ F b, H⟩
theorem St.lend (S : St F G H s W P) {F' G' : Nat → Prop} (hk : ∀ b, b < s → H' b = H b) (hs : s ≤ s') (hb : Bd H' s') (hF : ∀ b, b < s → F b → F' b) (hN : New F' G' s') : St F' G' H' s' (lent F H s) [] :=
  ⟨hb, hN, fun b h => ⟨Nat.lt_of_lt_of_le h.1 hs, hF b h.1 h.2, hk b h.1⟩, fun _ => False, fun _ h => h, fun _ h => h.elim⟩
theorem St.lent (S : St F G H s W (⟨k, X⟩ :: R)) : Fz (lent F H s) k X := by
  obtain ⟨D, ⟨D1, D2, a, b, c, d⟩, q⟩ := S.hold
  exact ⟨D1, c, fun x hx => by have := q x ((b x).2 (.inl hx)); exact ⟨this.1, this.2.1⟩⟩
theorem St.flent (S : St F G H s W P) (f : Fz W k X) : Fz (Go.Proofs.YtlkceignfhnpoaaGreatDoor.lent F H s) k X := by
  obtain ⟨D, a, b⟩ := f
  exact ⟨D, X.loc a fun x hx => (S.froz x (b x hx)).2.2, fun x hx => ⟨(S.froz x (b x hx)).1, (S.froz x (b x hx)).2.1⟩⟩
/-- New things beside what is there: b is new, if the run that made it owns it. -/
theorem St.beside {F' G' : Nat → Prop} {W' : Wd} {P' : List Own} (S : St F G H s W P) (hk : ∀ b, b < s → F b → H' b = H b) (hs : s ≤ s') (S' : St F' G' H' s' W' P') (hn : ∀ b, F' b → G' b → ¬ W'.Z b → s ≤ b) : St F G H' s' W (P' ++ P) := by
  obtain ⟨D, d, q⟩ := S.hold
  obtain ⟨D', d', q'⟩ := S'.hold
  have hn' : ∀ x, D' x → s ≤ x := fun x hx => hn x (q' x hx).2.1 (q' x hx).2.2.1 (q' x hx).2.2.2
  have hd : ∀ x, D' x → ¬ D x := fun x hx hy => by have := hn' x hx; have := (q x hy).1; omega
  refine ⟨S'.bd, S.new.up hs, fun x hx => ?_, fun x => D' x ∨ D x, Holds.join hd (fun x => Iff.rfl) d' (d.loc fun x hx => hk x (q x hx).1 (q x hx).2.1), fun x hx => ?_⟩
  · have := S.froz x hx; exact ⟨by omega, this.2.1, (hk x this.1 this.2.1).trans this.2.2⟩
  · rcases hx with hx | hx
    · have h1 := hn' x hx
      exact ⟨(q' x hx).1, (S.new x h1).1, (S.new x h1).2, fun hz => by have := (S.froz x hz).1; omega⟩
    · have := q x hx; exact ⟨by omega, this.2⟩
/-- Behind a call that only read what there was. -/
theorem St.calm {G' : Nat → Prop} {W' : Wd} {P' : List Own} (S : St F G H s W P) (hs : s ≤ s') (hl : (Go.Proofs.YtlkceignfhnpoaaGreatDoor.lent F H s).le W') (S' : St F G' H' s' W' P') : St F G H' s' W (P' ++ P) :=
  S.beside (fun b hb hf => (S'.froz b (hl b ⟨hb, hf⟩).1).2.2.trans (hl b ⟨hb, hf⟩).2) hs S' fun b hf _ hz => Nat.le_of_not_lt fun h => hz (hl b ⟨h, hf⟩).1
/-- Behind a call beside others. -/
theorem St.owns {F' G' : Nat → Prop} {W' : Wd} {P' : List Own} (S : St F G H s W P) (hk : ∀ b, b < s → H' b = H b) (hs : s ≤ s') (S' : St F' G' H' s' W' P') (hn : ∀ b, G' b → s ≤ b) : St F G H' s' W (P' ++ P) :=
  S.beside (fun b hb _ => hk b hb) hs S' fun b _ hg _ => hn b hg
/-- A run turns no more than it may. -/
theorem wp_frame {α : Type} {m : AX α} {Q : α → AH → Nat → Prop} (hm : LS m) (w : Wp F G m H s (fun v H' s' => (∀ b, b < s → ¬ G b → H' b = H b) → Q v H' s')) : Wp F G m H s Q := by
  obtain ⟨o, e, hD, hW, hQ⟩ := w
  refine ⟨o, e, hD, hW, hQ fun b hb hg => (hm.loc _ _ _ e).keep b ?_⟩
  rintro (h | h)
  · exact hg (hW b h)
  · omega
section
variable {b c : Nat} {cs cs' : List Value} {T : TypeId} {kv kv' : List (Value × Value)}
theorem St.cell (S : St F G H s W (⟨ptr b, CellsO cs T⟩ :: R)) : H b = some (.cells cs T true) ∧ F b ∧ G b ∧ b < s := by
  refine S.ask ?_
  rintro D ⟨b', h1, h2, h3⟩ q
  cases h1
  have := q b ((h3 b).2 rfl)
  exact ⟨h2, this.2.1, this.2.2, this.1⟩
theorem St.set (S : St F G H s W (⟨ptr b, CellsO cs T⟩ :: R)) (cs' : List Value) : St F G (upd H b (some (.cells cs' T true))) s W (⟨ptr b, CellsO cs' T⟩ :: R) := by
  have hb := S.cell.2.2.2
  refine S.turn (Nat.le_refl _) (S.bd.set hb) ?_
  rintro D ⟨b', h1, h2, h3⟩ q
  cases h1
  exact ⟨D, ⟨b, rfl, upd_same _ _ _, h3⟩, fun x hx => ⟨.inl hx, (q x hx).1⟩, fun x _ hx => upd_ne _ _ fun e => hx ((h3 x).2 e)⟩
theorem St.alloc (S : St F G H s W R) (cs : List Value) (T : TypeId) : St F G (upd H s (some (.cells cs T true))) (s + 1) W (⟨ptr s, CellsO cs T⟩ :: R) :=
  S.make (Nat.le_succ _) S.bd.new (fun x hx => upd_ne _ _ (by omega)) ⟨fun x => x = s, ⟨s, rfl, upd_same _ _ _, fun _ => Iff.rfl⟩, fun x hx => by omega⟩
theorem St.mget (S : St F G H s W (⟨.map (some b), MapO kv⟩ :: R)) : H b = some (.map kv) ∧ F b ∧ G b ∧ b < s := by
  refine S.ask ?_
  rintro D ⟨b', h1, h2, h3⟩ q
  cases h1
  have := q b ((h3 b).2 rfl)
  exact ⟨h2, this.2.1, this.2.2, this.1⟩
theorem St.mset (S : St F G H s W (⟨.map (some b), MapO kv⟩ :: R)) (kv' : List (Value × Value)) : St F G (upd H b (some (.map kv'))) s W (⟨.map (some b), MapO kv'⟩ :: R) := by
  have hb := S.mget.2.2.2
  refine S.turn (Nat.le_refl _) (S.bd.set hb) ?_
  rintro D ⟨b', h1, h2, h3⟩ q
  cases h1
  exact ⟨D, ⟨b, rfl, upd_same _ _ _, h3⟩, fun x hx => ⟨.inl hx, (q x hx).1⟩, fun x _ hx => upd_ne _ _ fun e => hx ((h3 x).2 e)⟩
theorem St.mnew (S : St F G H s W R) (kv : List (Value × Value)) : St F G (upd H s (some (.map kv))) (s + 1) W (⟨.map (some s), MapO kv⟩ :: R) :=
  S.make (Nat.le_succ _) S.bd.new (fun x hx => upd_ne _ _ (by omega)) ⟨fun x => x = s, ⟨s, rfl, upd_same _ _ _, fun _ => Iff.rfl⟩, fun x hx => by omega⟩
/-- Two blocks of one's own are two. -/
theorem St.ne {cs2 : List Value} {T2 : TypeId} (S : St F G H s W (⟨ptr b, CellsO cs T⟩ :: R)) {R' : List Own} [h : Look R (ptr c) (CellsO cs2 T2) R'] : b ≠ c := by
  obtain ⟨D, ⟨D1, D2, a, e, ⟨b', h1, h2, h3⟩, d⟩, q⟩ := S.hold
  obtain ⟨E1, E2, a', e', ⟨c', g1, g2, g3⟩, d'⟩ := d.perm h.perm
  dsimp only at h1 g1
  cases h1; cases g1
  rintro rfl
  exact a b ((h3 b).2 rfl) ((e' b).2 (.inl ((g3 b).2 rfl)))
end
section
variable {T e : TypeId} {n y : Nat} {v w : Value} {rows news : List (List Value)}
theorem St.rlen (S : St F G H s W (⟨v, RowsO T n rows⟩ :: R)) : ∃ a, v = .slice a rows.length rows.length ∧ (a = none → rows = []) := by
  refine S.ask ?_
  rintro D ⟨L, h, _⟩ _
  exact h.len
theorem St.rsl (S : St F G H s W (⟨v, RowsO T n rows⟩ :: R)) : ∃ a l m, v = .slice a l m := by
  obtain ⟨a, rfl, _⟩ := S.rlen
  exact ⟨_, _, _, rfl⟩
theorem St.rln (S : St F G H s W (⟨v, RowsO T n rows⟩ :: R)) : ∃ a, v = .slice a rows.length rows.length := by
  obtain ⟨a, h, _⟩ := S.rlen
  exact ⟨a, h⟩
/-- A row of a slice. -/
theorem St.row {a : Option Addr} {l m : Nat} (S : St F G H s W (⟨.slice a l m, RowsO T n rows⟩ :: R)) {i : Nat} (hi : i < rows.length) : ∃ d o cs, a = some ⟨d, o, none⟩ ∧ H d = some (.cells cs T true) ∧ F d ∧ G d ∧ d < s ∧ o + i * n + n ≤ cs.length ∧ (cs.drop (o + i * n)).take n = rows[i] := by
  refine S.ask ?_
  rintro D ⟨L, h, hD⟩ q
  obtain ⟨d, o, cs, h1, h2, h3, h4, h5⟩ := h.at hi
  have := q d ((hD d).2 (by rw [h2]; simp))
  cases h1
  exact ⟨d, o, cs, rfl, h3, this.2.1, this.2.2, this.1, h4, h5⟩
/-- The one cell of a row. -/
theorem row_one {cs : List Value} {x : Value} {k : Nat} (h : (cs.drop k).take 1 = [x]) : cs[k]? = some x := by
  have := congrArg (fun l => l[0]?) h
  simpa using this
theorem St.nilr (S : St F G H s W R) (T : TypeId) (n : Nat) : St F G H s W (⟨nilS, RowsO T n []⟩ :: R) :=
  S.make (Nat.le_refl _) S.bd (fun _ _ => rfl) ⟨fun _ => False, ⟨[], SlAt.nil _ _ _, by simp⟩, fun _ h => h.elim⟩
/-- A new block of rows. -/
theorem St.rnew (S : St F G H s W R) {cs : List Value} (rows : List (List Value)) (hc : cs = rows.flatten) (hr : ∀ r, r ∈ rows → r.length = n) : St F G (upd H s (some (.cells cs T true))) (s + 1) W (⟨.slice (some ⟨s, 0, none⟩) rows.length rows.length, RowsO T n rows⟩ :: R) := by
  subst hc
  exact S.make (Nat.le_succ _) S.bd.new (fun x hx => upd_ne _ _ (by omega)) ⟨fun x => x = s, ⟨[s], SlAt.made hr (upd_same _ _ _), by simp⟩, fun x hx => by omega⟩
theorem St.rnewN (S : St F G H s W R) {cs : List Value} (rows : List (List Value)) (N : Nat) (hc : cs = rows.flatten) (hr : ∀ r, r ∈ rows → r.length = n) (hN : rows.length = N) : St F G (upd H s (some (.cells cs T true))) (s + 1) W (⟨.slice (some ⟨s, 0, none⟩) N N, RowsO T n rows⟩ :: R) := by
  subst hN
  exact S.rnew rows hc hr
/-- Rows are put behind others. -/
theorem St.append {P' : Program} {Q : Value → AH → Nat → Prop} (S : St F G H s W (⟨v, RowsO e n rows⟩ :: ⟨w, RowsO e n news⟩ :: R)) (hi : apInfo P' T = some (e, n, y)) (hb : (rows.length + news.length) * y ≤ 140737488355328 ∧ rows.length + news.length ≤ 9223372036854775807)
    (hq : ∀ H' s' a l m, St F G H' s' W (⟨.slice a l m, RowsO e n (rows ++ news)⟩ :: ⟨w, RowsO e n news⟩ :: R) → Q (.slice a l m) H' s') : Wp F G (aAppend P' T T v w) H s Q := by
  obtain ⟨D, ⟨D1, D2, a, q1, ⟨L, hL, hD1⟩, E1, E2, a2, q2, ⟨M, hM, hE1⟩, d⟩, q⟩ := S.hold
  have own : ∀ b, b ∈ L → b < s ∧ F b ∧ G b := fun b hb => by have := q b ((q1 b).2 (.inl ((hD1 b).2 hb))); exact ⟨this.1, this.2.1, this.2.2.1⟩
  have ownM : ∀ b, b ∈ M → b < s ∧ F b ∧ G b := fun b hb => by have := q b ((q1 b).2 (.inr ((q2 b).2 (.inl ((hE1 b).2 hb))))); exact ⟨this.1, this.2.1, this.2.2.1⟩
  refine wp_bd (ls_aAppend _ _ _ _) S.bd ?_
  refine SlAt.append hL hM hi (fun b hb => (own b hb).2) (fun b hb => (ownM b hb).2.1) (fun b hb => (own b hb).1) hb fun H' s' v' L' f h hl hv hu hbd => ?_
  suffices S' : St F G H' s' W (⟨v', RowsO e n (rows ++ news)⟩ :: ⟨w, RowsO e n news⟩ :: R) from by
    obtain ⟨a, l, m, rfl⟩ := S'.rsl
    exact hq H' s' a l m S'
  have own3 : ∀ b, b ∈ L → ¬ W.Z b := fun b hb => (q b ((q1 b).2 (.inl ((hD1 b).2 hb)))).2.2.2
  have hne : ∀ b, D2 b → b < s ∧ b ∉ L := fun b hb => ⟨(q b ((q1 b).2 (.inr hb))).1, fun hm => a b ((hD1 b).2 hm) hb⟩
  have keep : ∀ b, D2 b → H' b = H b := fun b hb => f.keep b (hne b hb).1 (hne b hb).2
  refine ⟨hbd, S.new.up hu, fun x hx => ?_, fun x => x ∈ L' ∨ D2 x, ⟨fun x => x ∈ L', D2, fun x hx hy => ?_, fun x => Iff.rfl, ⟨L', h, fun x => Iff.rfl⟩, E1, E2, a2, q2, ⟨M, hM.keep fun b hb => keep b ((q2 b).2 (.inl ((hE1 b).2 hb))), hE1⟩, d.loc fun b hb => keep b ((q2 b).2 (.inr hb))⟩, fun x hx => ?_⟩
  · have h0 := S.froz x hx
    exact ⟨by omega, h0.2.1, (f.keep x h0.1 fun hm => own3 x hm hx).trans h0.2.2⟩
  · rcases (hl x hx).1 with h | h
    · exact (hne x hy).2 h
    · have := (hne x hy).1; omega
  · rcases hx with hx | hx
    · have h2 := hl x hx
      rcases h2.1 with h3 | h3
      · have := own x h3; exact ⟨by omega, this.2.1, this.2.2, own3 x h3⟩
      · refine ⟨?_, (S.new x h3).1, (S.new x h3).2, fun hz => by have := (S.froz x hz).1; omega⟩
        rcases h2.2 with h4 | h4
        · have := (own x h4).1; omega
        · exact h4
    · have := q x ((q1 x).2 (.inr hx)); exact ⟨by omega, this.2⟩
end
end
end Go.Proofs.YtlkceignfhnpoaaGreatDoor
end
section
namespace Go.Proofs.YtlkceignfhnpoaaGreatDoor
open Go AX
/-- What some operations read at most, and write at most. -/
abbrev Foots := List (Nat × (Nat → Prop) × (Nat → Prop))
def footAt : Foots → Nat → Option ((Nat → Prop) × (Nat → Prop))
  | [], _ => none
  | p :: r, i => if p.1 = i then some p.2 else footAt r i
def accAt : List (Nat × Nat × Nat) → Nat → Option (Nat × Nat)
  | [], _ => none
  | p :: r, i => if p.1 = i then some p.2 else accAt r i
/-- Two operations keep apart. -/
def apF (x y : Option ((Nat → Prop) × (Nat → Prop))) (p q : Option (Nat × Nat)) : Prop :=
  match x, y, p, q with
  | some (Di, Wi), some (Dj, Wj), some (si, ti), some (sj, tj) => (∀ b, Wi b → ¬ Dj b) ∧ (∀ b, Wj b → ¬ Di b) ∧ (∀ b, Dj b → ¬ (si ≤ b ∧ b < ti)) ∧ (∀ b, Di b → ¬ (sj ≤ b ∧ b < tj))
  | _, _, _, _ => False
def apAll (tbl : Foots) (acc : List (Nat × Nat × Nat)) : List (Nat × Nat) → Prop
  | [] => True
  | p :: r => apF (footAt tbl p.1) (footAt tbl p.2) (accAt acc p.1) (accAt acc p.2) ∧ apAll tbl acc r
/-- All pairs that may meet are among these. -/
def badOK (S : List FuncId) (ops : Array Oper) (bad : List (Nat × Nat)) : Bool :=
  let bits := Region.before ops
  ops.toList.zipIdx.all fun g => ops.toList.zipIdx.all fun f => !(f.2 < g.2) || (bits.getD g.2 0).testBit f.2 || memS S f.1 == 0 || memS S g.1 == 0 || (Nat.ble (memS S f.1) 1 && Nat.ble (memS S g.1) 1) || (isNew f.1 && isNew g.1) || bad.contains (f.2, g.2)
def boundD (x : Option ((Nat → Prop) × (Nat → Prop))) (F : Nat → Prop) : Nat → Prop := match x with | none => F | some p => fun b => F b ∧ p.1 b
def boundW (x : Option ((Nat → Prop) × (Nat → Prop))) (G : Nat → Prop) : Nat → Prop := match x with | none => G | some p => fun b => G b ∧ p.2 b
theorem boundD_F {x : Option ((Nat → Prop) × (Nat → Prop))} {F : Nat → Prop} {b : Nat} (h : boundD x F b) : F b := by
  cases x with
  | none => exact h
  | some p => exact h.1
theorem boundW_G {x : Option ((Nat → Prop) × (Nat → Prop))} {G : Nat → Prop} {b : Nat} (h : boundW x G b) : G b := by
  cases x with
  | none => exact h
  | some p => exact h.1
/-- The operations one behind the other, each within its bounds. -/
def drawB (P : Program) (call : FuncId → Array Value → AX Value) (F G : Nat → Prop) (tbl : Foots) (bad : List (Nat × Nat)) (ops : Array Oper) : List Oper → Nat → Array Value → List (Nat × Nat × Nat) → AH → Nat → (Array Value → AH → Nat → Prop) → Prop
  | [], i, tm, acc, H, s, Q => apAll tbl acc bad ∧ Q tm H s
  | o :: r, i, tm, acc, H, s, Q => Wp (boundD (footAt tbl i) F) (boundW (footAt tbl i) G) (aVal P call ops o tm) H s (fun v H' s' => drawB P call F G tbl bad ops r (i + 1) (putA tm o.dst v) ((i, s, s') :: acc) H' s' Q)
section
variable {P : Program} {call : FuncId → Array Value → AX Value} {F G : Nat → Prop} {H : AH} {s : Nat} {tbl : Foots} {bad : List (Nat × Nat)} {ops : Array Oper}
theorem accAt_later {i : Nat} : ∀ {acc : List (Nat × Nat × Nat)} {p : Nat × Nat × Nat}, p.1 ≠ i → accAt (p :: acc) i = accAt acc i := by
  intro acc p h
  simp [accAt, h]
/-- A foot within its bounds. -/
structure FootB (S : List FuncId) (tbl : Foots) (i : Nat) (o : Oper) (f : Foot) : Prop where
  dry : memS S o = 0 → f.D = [] ∧ f.W = [] ∧ f.s' = f.s
  reads : Nat.ble (memS S o) 1 = true → f.W = [] ∧ f.s' = f.s
  news : isNew o = true → f.D = [] ∧ f.W = []
  bound : ∀ p, footAt tbl i = some p → (∀ b, b ∈ f.D → p.1 b) ∧ ∀ b, b ∈ f.W → p.2 b
theorem drawB_of {S : List FuncId} (hS : Calm S call) : ∀ (l : List Oper) (i : Nat) (tm : Array Value) (acc : List (Nat × Nat × Nat)) (H : AH) (s : Nat) (Q : Array Value → AH → Nat → Prop), drawB P call F G tbl bad ops l i tm acc H s Q →
    ∃ (o : Out (Array Value)) (log : List Foot) (acc' : List (Nat × Nat × Nat)), aSeq P call ops l tm H s = some ⟨(o.val, log), o.H, o.s, o.D, o.W⟩ ∧ (∀ b, b ∈ o.D → F b) ∧ (∀ b, b ∈ o.W → G b) ∧ Q o.val o.H o.s ∧ apAll tbl acc' bad ∧ (∀ k, k < i → accAt acc' k = accAt acc k) ∧
      ∀ (j : Nat) (f : Foot), log[j]? = some f → accAt acc' (i + j) = some (f.s, f.s') ∧ ∃ x : Oper, l[j]? = some x ∧ FootB S tbl (i + j) x f
  | [], i, tm, acc, H, s, Q, h => by
    obtain ⟨h1, h2⟩ := h
    exact ⟨⟨tm, H, s, [], []⟩, [], acc, rfl, fun b hb => (by cases hb), fun b hb => (by cases hb), h2, h1, fun _ _ => rfl, fun j f hf => by simp at hf⟩
  | o :: r, i, tm, acc, H, s, Q, h => by
    unfold drawB at h
    obtain ⟨p, e1, hD, hW, hq⟩ := h
    obtain ⟨q, log, acc', e2, qD, qW, hQ, hap, hacc, hlog⟩ := drawB_of hS r (i + 1) _ _ _ _ _ hq
    have hDF : ∀ b, b ∈ p.D → F b := fun b hb => boundD_F (hD b hb)
    have hWG : ∀ b, b ∈ p.W → G b := fun b hb => boundW_G (hW b hb)
    refine ⟨⟨q.val, q.H, q.s, p.D ++ q.D, p.W ++ q.W⟩, ⟨s, p.s, p.D, p.W⟩ :: log, acc', by simp [aSeq, aStep, AX.bind, AX.ret, e1, e2], fun b hb => ?_, fun b hb => ?_, hQ, hap, fun k hk => ?_, fun j f hj => ?_⟩
    · rcases List.mem_append.1 hb with h | h
      · exact hDF b h
      · exact qD b h
    · rcases List.mem_append.1 hb with h | h
      · exact hWG b h
      · exact qW b h
    · rw [hacc k (by omega)]
      exact accAt_later (by show i ≠ k; omega)
    · cases j with
      | zero =>
        simp at hj
        subst hj
        refine ⟨by rw [Nat.add_zero, hacc i (by omega)]; simp [accAt], o, rfl, ?_⟩
        refine ⟨fun hm => ?_, fun hm => reads_valS hS hm _ _ _ e1, fun hn => news_val hn _ _ _ e1, fun pr hp => ⟨fun b hb => ?_, fun b hb => ?_⟩⟩
        · unfold memS at hm
          split at hm
          · cases hm
          · exact dry_val hm _ _ _ e1
        · have := hD b hb
          rw [Nat.add_zero] at hp
          rw [hp] at this
          exact this.2
        · have := hW b hb
          rw [Nat.add_zero] at hp
          rw [hp] at this
          exact this.2
      | succ j =>
        obtain ⟨a1, x, a2, a3⟩ := hlog j f (by simpa using hj)
        rw [show i + 1 + j = i + (j + 1) by omega] at a1 a3
        exact ⟨a1, x, by simpa using a2, a3⟩
theorem apAll_at {acc : List (Nat × Nat × Nat)} : ∀ {l : List (Nat × Nat)}, apAll tbl acc l → ∀ p, p ∈ l → apF (footAt tbl p.1) (footAt tbl p.2) (accAt acc p.1) (accAt acc p.2)
  | [], _, p, hp => by cases hp
  | q :: r, h, p, hp => by
    rcases List.mem_cons.1 hp with rfl | hp
    · exact h.1
    · exact apAll_at h.2 p hp
theorem wp_bad {S : List FuncId} {id : Nat} {opl : List Oper} {tm : Array Value} {Q : AExit × Array Value → AH → Nat → Prop} (hS : Calm S call) (bad : List (Nat × Nat)) (tbl : Foots) (hb : badOK S (List.toArray opl) bad = true)
    (h : drawB P call F G tbl bad (List.toArray opl) opl 0 tm [] H s (fun t H' s' => Q (.normal, t) H' s')) : Wp F G (aCode P call (.region id (List.toArray opl) true) tm) H s Q := by
  obtain ⟨o, log, acc, e, hD, hW, hQ, hap, _, hlog⟩ := drawB_of hS _ _ _ _ _ _ _ h
  have hok : okLog (Region.before (List.toArray opl)) log = true := by
    unfold okLog
    simp only [List.all_eq_true]
    rintro ⟨g, j⟩ hg ⟨f, i⟩ hf
    have hg' := List.mem_zipIdx_iff_getElem?.1 hg
    have hf' := List.mem_zipIdx_iff_getElem?.1 hf
    dsimp only at hg' hf' ⊢
    obtain ⟨af, x, hx, fx⟩ := hlog _ _ hf'
    obtain ⟨ag, y, hy, fy⟩ := hlog _ _ hg'
    rw [Nat.zero_add] at af ag fx fy
    unfold badOK at hb
    simp only [List.all_eq_true] at hb
    have := hb (y, j) (List.mem_zipIdx_iff_getElem?.2 hy) (x, i) (List.mem_zipIdx_iff_getElem?.2 hx)
    dsimp only at this
    by_cases hij : i < j
    · simp only [Bool.or_eq_true, Bool.and_eq_true, beq_iff_eq] at this ⊢
      rcases this with (((((a | a) | a) | a) | a) | a) | a
      · simp [hij] at a
      · exact .inl (.inr a)
      · exact .inr (apart_dry (fx.dry a))
      · exact .inr (apart_dry' (fy.dry a))
      · exact .inr (apart_calm (fx.reads a.1) (fy.reads a.2))
      · exact .inr (apart_news (fx.news a.1) (fy.news a.2))
      · right
        have hp := apAll_at hap (i, j) (List.contains_iff_mem.1 a)
        dsimp only at hp
        rw [af, ag] at hp
        cases hi : footAt tbl i with
        | none => rw [hi] at hp; simp [apF] at hp
        | some p =>
          cases hj : footAt tbl j with
          | none => rw [hi, hj] at hp; obtain ⟨p1, p2⟩ := p; simp [apF] at hp
          | some q =>
            rw [hi, hj] at hp
            obtain ⟨Di, Wi⟩ := p
            obtain ⟨Dj, Wj⟩ := q
            obtain ⟨h1, h2, h3, h4⟩ := hp
            have bi := fx.bound _ hi
            have bj := fy.bound _ hj
            have c : ∀ (l : List Nat) (b : Nat), b ∉ l → l.contains b = false := fun l b hb => by
              cases hc : l.contains b with
              | false => rfl
              | true => exact absurd (List.contains_iff_mem.1 hc) hb
            unfold Foot.apart
            simp only [Bool.or_eq_true, Bool.and_eq_true, List.all_eq_true, Bool.not_eq_true']
            refine .inr ⟨⟨⟨fun b hb => c _ _ fun hm => h1 b (bi.2 b hb) (bj.1 b hm), fun b hb => c _ _ fun hm => h2 b (bj.2 b hb) (bi.1 b hm)⟩, fun b hb => ?_⟩, fun b hb => ?_⟩
            · have := h3 b (bj.1 b hb)
              simp only [Bool.and_eq_false_imp, decide_eq_true_eq, decide_eq_false_iff_not]
              exact fun k1 k2 => this ⟨k1, k2⟩
            · have := h4 b (bi.1 b hb)
              simp only [Bool.and_eq_false_imp, decide_eq_true_eq, decide_eq_false_iff_not]
              exact fun k1 k2 => this ⟨k1, k2⟩
    · simp [hij]
  unfold aCode
  rw [wp_bind]
  refine ⟨⟨o.val, o.H, o.s, o.D, o.W⟩, ?_, hD, hW, ?_⟩
  · unfold aRegion
    simp only [if_true, AX.bind, e]
    rw [if_pos hok]
    simp [AX.ret]
  · show Wp F G (ret (AExit.normal, o.val)) o.H o.s Q
    rw [wp_ret]; exact hQ
variable {B : Array Value} {l : List (Nat × Value)} {Q : Array Value → AH → Nat → Prop} {d : Option Tmp} {op : Op} {ty : TypeId} {pos : String} {af : Array Edge} {g : Option (Nat × Bool)} {r : List Oper} {i : Nat} {acc : List (Nat × Nat × Nat)}
@[simp ↓] theorem db_m : drawB P call F G tbl bad ops (⟨d, op, ty, pos, af, g⟩ :: r) i (mkT B l) acc H s Q = Wp (boundD (footAt tbl i) F) (boundW (footAt tbl i) G) (aVal P call ops ⟨d, op, ty, pos, af, g⟩ (mkT B l)) H s (fun v H' s' => drawB P call F G tbl bad ops r (i + 1) (putA (mkT B l) d v) ((i, s, s') :: acc) H' s' Q) := rfl
@[simp ↓] theorem db_p {d' : Nat} {v' : Value} : drawB P call F G tbl bad ops (⟨d, op, ty, pos, af, g⟩ :: r) i (putA (mkT B l) (some d') v') acc H s Q = Wp (boundD (footAt tbl i) F) (boundW (footAt tbl i) G) (aVal P call ops ⟨d, op, ty, pos, af, g⟩ (mkT B ((d', v') :: l))) H s (fun v H' s' => drawB P call F G tbl bad ops r (i + 1) (putA (mkT B ((d', v') :: l)) d v) ((i, s, s') :: acc) H' s' Q) := rfl
@[simp ↓] theorem db_n {v' : Value} : drawB P call F G tbl bad ops (⟨d, op, ty, pos, af, g⟩ :: r) i (putA (mkT B l) none v') acc H s Q = Wp (boundD (footAt tbl i) F) (boundW (footAt tbl i) G) (aVal P call ops ⟨d, op, ty, pos, af, g⟩ (mkT B l)) H s (fun v H' s' => drawB P call F G tbl bad ops r (i + 1) (putA (mkT B l) d v) ((i, s, s') :: acc) H' s' Q) := rfl
@[simp ↓] theorem db_np {d' : Nat} {v' : Value} : drawB P call F G tbl bad ops [] i (putA (mkT B l) (some d') v') acc H s Q = (apAll tbl acc bad ∧ Q (mkT B ((d', v') :: l)) H s) := rfl
@[simp ↓] theorem db_nn {v' : Value} : drawB P call F G tbl bad ops [] i (putA (mkT B l) none v') acc H s Q = (apAll tbl acc bad ∧ Q (mkT B l) H s) := rfl
end
theorem bd_none {F : Nat → Prop} : boundD none F = F := Eq.trans rfl rfl
theorem bd_some {F : Nat → Prop} {p : (Nat → Prop) × (Nat → Prop)} : boundD (some p) F = fun b => F b ∧ p.1 b := Eq.trans rfl rfl
theorem bw_none {G : Nat → Prop} : boundW none G = G := Eq.trans rfl rfl
theorem bw_some {G : Nat → Prop} {p : (Nat → Prop) × (Nat → Prop)} : boundW (some p) G = fun b => G b ∧ p.2 b := Eq.trans rfl rfl
theorem ap_some {Di Wi Dj Wj : Nat → Prop} {si ti sj tj : Nat} : apF (some (Di, Wi)) (some (Dj, Wj)) (some (si, ti)) (some (sj, tj)) = ((∀ b, Wi b → ¬ Dj b) ∧ (∀ b, Wj b → ¬ Di b) ∧ (∀ b, Dj b → ¬ (si ≤ b ∧ b < ti)) ∧ (∀ b, Di b → ¬ (sj ≤ b ∧ b < tj))) := Eq.trans rfl rfl
section
variable {P : Program} {call : FuncId → Array Value → AX Value} {d : Option Tmp} {ty : TypeId} {pos : String} {af : Array Edge} {g : Option (Nat × Bool)} {tm : Array Value} {f : FuncId}
/-- A function's value with what it captures. -/
@[simp ↓] theorem o_mf1 {x : Operand} (hx : Operand.okC x = true) : aOp P call ⟨d, .makeFunc (.func f) #[] #[x], ty, pos, af, g⟩ tm = ret (.func (.func f) #[] #[evalA tm x]) := by
  rw [o_makeFunc (by rfl) (by simp [hx])]; simp
@[simp ↓] theorem o_mf2 {x y : Operand} (hx : Operand.okC x = true) (hy : Operand.okC y = true) : aOp P call ⟨d, .makeFunc (.func f) #[] #[x, y], ty, pos, af, g⟩ tm = ret (.func (.func f) #[] #[evalA tm x, evalA tm y]) := by
  rw [o_makeFunc (by rfl) (by simp [hx, hy])]; simp
@[simp ↓] theorem o_mf0 : aOp P call ⟨d, .makeFunc (.func f) #[] #[], ty, pos, af, g⟩ tm = ret (.func (.func f) #[] #[]) := by
  rw [o_makeFunc (by rfl) (by rfl)]; simp
end
attribute [simp] footAt accAt apAll ap_some bd_none bd_some bw_none bw_some
end Go.Proofs.YtlkceignfhnpoaaGreatDoor
end
section
namespace Go.Proofs.YtlkceignfhnpoaaGreatDoor
open Go AX
theorem setL_mid : ∀ (l U M V : List Value), l.length = M.length → setL (U ++ (M ++ V)) U.length l = U ++ (l ++ V)
  | [], U, [], V, _ => rfl
  | [], U, _ :: _, V, h => by simp at h
  | _ :: _, U, [], V, h => by simp at h
  | v :: r, U, m :: M, V, h => by
    have h1 : (U ++ ((m :: M) ++ V)).set U.length v = (U ++ [v]) ++ (M ++ V) := by simp
    show setL ((U ++ ((m :: M) ++ V)).set U.length v) (U.length + 1) r = _
    rw [h1, show U.length + 1 = (U ++ [v]).length by simp, setL_mid r (U ++ [v]) M V (by simpa using h)]
    simp
theorem SlAt.setRows {H : AH} {T : TypeId} {k d o l m : Nat} {rows : List (List Value)} {L : List Nat} (h : SlAt H T k (.slice (some ⟨d, o, none⟩) l m) rows L) (i : Nat) (rs : List (List Value)) (hi : i + rs.length ≤ rows.length) (hr : ∀ r, r ∈ rs → r.length = k) {cs : List Value} (hd : H d = some (.cells cs T true)) :
    SlAt (upd H d (some (.cells (setL cs (o + i * k) rs.flatten) T true))) T k (.slice (some ⟨d, o, none⟩) l m) (rows.take i ++ (rs ++ rows.drop (i + rs.length))) L ∧ (setL cs (o + i * k) rs.flatten).length = cs.length := by
  obtain ⟨hrr, ⟨h1, -, -⟩ | ⟨d', o', cs', h1, rfl, hd', ho, hc⟩⟩ := h
  · cases h1
  · cases h1
    rw [hd] at hd'
    cases hd'
    have hP : (rows.take i).flatten.length = i * k := by rw [flatten_len (k := k) fun r hr => hrr r (List.mem_of_mem_take hr), List.length_take, Nat.min_eq_left (by omega)]
    have hM : ((rows.drop i).take rs.length).flatten.length = rs.flatten.length := by
      rw [flatten_len (k := k) fun r hr => hrr r (List.mem_of_mem_drop (List.mem_of_mem_take hr)), flatten_len (k := k) hr, List.length_take, List.length_drop, Nat.min_eq_left (by omega)]
    have hrows : rows = rows.take i ++ ((rows.drop i).take rs.length ++ rows.drop (i + rs.length)) := by
      rw [← List.drop_drop, List.take_append_drop, List.take_append_drop]
    have hfl : rows.flatten = (rows.take i).flatten ++ (((rows.drop i).take rs.length).flatten ++ (rows.drop (i + rs.length)).flatten) := by
      conv => lhs; rw [hrows]
      simp
    have hcs : cs = (cs.take o ++ (rows.take i).flatten) ++ (((rows.drop i).take rs.length).flatten ++ ((rows.drop (i + rs.length)).flatten ++ (cs.drop o).drop (rows.length * k))) := by
      have e1 : cs = cs.take o ++ ((cs.drop o).take (rows.length * k) ++ (cs.drop o).drop (rows.length * k)) := by rw [List.take_append_drop, List.take_append_drop]
      rw [hc, hfl] at e1
      conv => lhs; rw [e1]
      simp [List.append_assoc]
    have hU : (cs.take o ++ (rows.take i).flatten).length = o + i * k := by rw [List.length_append, hP, List.length_take, Nat.min_eq_left (by omega)]
    have hset : setL cs (o + i * k) rs.flatten = (cs.take o ++ (rows.take i).flatten) ++ (rs.flatten ++ ((rows.drop (i + rs.length)).flatten ++ (cs.drop o).drop (rows.length * k))) := by
      conv => lhs; rw [hcs, ← hU]
      exact setL_mid _ _ _ _ hM.symm
    have hlen : (setL cs (o + i * k) rs.flatten).length = cs.length := setL_len _ _ _
    have hrn : (rows.take i ++ (rs ++ rows.drop (i + rs.length))).length = rows.length := by simp; omega
    refine ⟨⟨fun r hm => ?_, .inr ⟨d, o, _, by rw [hrn], rfl, upd_same _ _ _, by rw [hrn, hlen]; exact ho, ?_⟩⟩, hlen⟩
    · rcases List.mem_append.1 hm with h | h
      · exact hrr r (List.mem_of_mem_take h)
      · rcases List.mem_append.1 h with h | h
        · exact hr r h
        · exact hrr r (List.mem_of_mem_drop h)
    · rw [hrn, hset]
      have ho2 : (cs.take o).length = o := by rw [List.length_take, Nat.min_eq_left (by omega)]
      rw [List.append_assoc, List.drop_append_of_le_length (by omega), List.drop_of_length_le (by omega : (cs.take o).length ≤ o), List.nil_append]
      have e2 : (rows.take i).flatten ++ (rs.flatten ++ ((rows.drop (i + rs.length)).flatten ++ (cs.drop o).drop (rows.length * k))) = (rows.take i ++ (rs ++ rows.drop (i + rs.length))).flatten ++ (cs.drop o).drop (rows.length * k) := by simp
      rw [e2]
      refine List.take_left' ?_
      rw [flatten_len (k := k) ?_, hrn]
      intro r hm
      rcases List.mem_append.1 hm with h | h
      · exact hrr r (List.mem_of_mem_take h)
      · rcases List.mem_append.1 h with h | h
        · exact hr r h
        · exact hrr r (List.mem_of_mem_drop h)
section
variable {F G : Nat → Prop} {H : AH} {s : Nat} {W : Wd} {R : List Own} {T : TypeId} {n d o l m : Nat} {rows : List (List Value)}
/-- Rows in place of others. -/
theorem St.setRows (S : St F G H s W (⟨.slice (some ⟨d, o, none⟩) l m, RowsO T n rows⟩ :: R)) (i : Nat) (rs : List (List Value)) (hi : i + rs.length ≤ rows.length) (hr : ∀ r, r ∈ rs → r.length = n) {cs : List Value} (hd : H d = some (.cells cs T true)) :
    St F G (upd H d (some (.cells (setL cs (o + i * n) rs.flatten) T true))) s W (⟨.slice (some ⟨d, o, none⟩) l m, RowsO T n (rows.take i ++ (rs ++ rows.drop (i + rs.length)))⟩ :: R) := by
  have hlt : H d ≠ none := by rw [hd]; simp
  refine S.turn (Nat.le_refl _) (S.bd.set (Nat.lt_of_not_le fun h => hlt (S.bd d h))) ?_
  rintro D ⟨L, h, hD⟩ q
  have h0 := h
  obtain ⟨_, ⟨h1, -, -⟩ | ⟨d', o', cs', h1, hL, hd', -, -⟩⟩ := h0
  · cases h1
  · cases h1
    refine ⟨D, ⟨L, (h.setRows i rs hi hr hd).1, hD⟩, fun b hb => ⟨.inl hb, (q b hb).1⟩, fun b _ hb => upd_ne _ _ fun e => hb ((hD b).2 (by rw [hL, e]; simp))⟩
theorem St.setRow (S : St F G H s W (⟨.slice (some ⟨d, o, none⟩) l m, RowsO T n rows⟩ :: R)) {i : Nat} (hi : i < rows.length) (r : List Value) (hr : r.length = n) {cs : List Value} (hd : H d = some (.cells cs T true)) :
    St F G (upd H d (some (.cells (setL cs (o + i * n) r) T true))) s W (⟨.slice (some ⟨d, o, none⟩) l m, RowsO T n (rows.set i r)⟩ :: R) := by
  have := S.setRows i [r] (by simp; omega) (by simpa using hr) hd
  rw [show [r].flatten = r by simp, show rows.take i ++ ([r] ++ rows.drop (i + [r].length)) = rows.set i r by rw [List.set_eq_take_append_cons_drop, if_pos hi]; rfl] at this
  exact this
end
/-- The cells of noughts. -/
theorem zeroRow_flat {z : Value} {zr : List Value} (hz : z.cells.toList = zr) (hk : 0 < zr.length) (n : Nat) : zeroRow z (n * zr.length) = (List.replicate n zr).flatten := by
  have hr : ∀ r, r ∈ List.replicate n zr → r.length = zr.length := fun r h => by rw [List.eq_of_mem_replicate h]
  have hsz : z.cells.size = zr.length := by rw [← hz]; simp
  apply List.ext_getElem?
  intro j
  by_cases hn : n = 0
  · subst hn; simp [zeroRow]
  by_cases hj : j < n * zr.length
  · have hq : j / zr.length < n := (Nat.div_lt_iff_lt_mul hk).2 hj
    have hm : j % zr.length < zr.length := Nat.mod_lt _ hk
    have hd : j / zr.length * zr.length + j % zr.length = j := Nat.div_add_mod' j zr.length
    have e := flatten_get hr (i := j / zr.length) (j := j % zr.length) (by simpa using hq) hm
    rw [hd] at e
    rw [e]
    have hne : n * zr.length ≠ 0 := by omega
    unfold zeroRow
    simp only [hne, if_false, hsz, Array.toList_map, List.getElem?_map, Array.toList_range, List.getElem_replicate]
    rw [List.getElem?_range hj]
    simp only [Option.map_some]
    have hb : j % zr.length < z.cells.size := by omega
    rw [getElem!_pos z.cells _ hb, List.getElem?_eq_getElem hm]
    congr 1
    have := congrArg (fun l => l[j % zr.length]?) hz
    simp only [Array.getElem?_toList, List.getElem?_eq_getElem hm, Array.getElem?_eq_getElem hb] at this
    exact Option.some.inj this
  · rw [List.getElem?_eq_none, List.getElem?_eq_none]
    · rw [flatten_len hr, List.length_replicate]; omega
    · unfold zeroRow; simp; omega
section
variable {P' : Program} {F G : Nat → Prop} {H : AH} {s : Nat} {W : Wd} {R : List Own} {T e : TypeId} {n : Nat} {Q : Value → AH → Nat → Prop}
theorem replicate_all {zr : List Value} (h : zr.all simpleV = true) (N : Nat) : (List.replicate N zr).flatten.all simpleV = true := by
  rw [List.all_eq_true] at h ⊢
  intro x hx
  obtain ⟨l, hl, hx⟩ := List.mem_flatten.1 hx
  rw [List.eq_of_mem_replicate hl] at hx
  exact h x hx
/-- New rows of noughts. -/
theorem St.makeSlice (S : St F G H s W R) {z : Value} {zr : List Value} {by_ : Nat} (he : elemT P' T = some e) (hs : szOf P' e = some zr.length) (hz : zeroOf P' e = some z) (hy : bytesOfT P' e = some by_) (hzr : z.cells.toList = zr) (hk : 0 < zr.length) (hsv : zr.all simpleV = true) {k k' : IntKind} (N : Nat) (hN : (by_ : Int) * N ≤ 2 ^ 47) (hw : IntKind.i64.wrap (N : Int) = N)
    (hq : St F G (upd H s (some (.cells (List.replicate N zr).flatten e true))) (s + 1) W (⟨.slice (some ⟨s, 0, none⟩) N N, RowsO e zr.length (List.replicate N zr)⟩ :: R) → Q (.slice (some ⟨s, 0, none⟩) N N) (upd H s (some (.cells (List.replicate N zr).flatten e true))) (s + 1)) : Wp F G (aMakeSlice P' T (.int k N) (.int k' N)) H s Q := by
  unfold aMakeSlice
  simp only [he, hs, hz, hy, Int.toNat_natCast]
  rw [if_pos ⟨trivial, by omega, hw, hN⟩, zeroRow_flat hzr hk N, if_pos (replicate_all hsv N)]
  simp only [wp_bind, wp_new, wp_ret]
  exact hq (S.rnewN (List.replicate N zr) N rfl (fun r h => by rw [List.eq_of_mem_replicate h]) (by simp))
end
end Go.Proofs.YtlkceignfhnpoaaGreatDoor
end
section
namespace Go.Proofs.YtlkceignfhnpoaaGreatDoor
open Go AX
@[simp] theorem bi_copy {P : Program} {T T2 : TypeId} {d x : Value} : aBuiltin P .copy #[T, T2] #[d, x] = aCopy P T d x := Eq.trans rfl rfl
@[simp] theorem bi_delete {P : Program} {T T2 : TypeId} {d x : Value} : aBuiltin P .delete #[T, T2] #[d, x] = aDelete P T d x := Eq.trans rfl rfl
@[simp] theorem bi_clear {P : Program} {T : TypeId} {x : Value} : aBuiltin P .clear #[T] #[x] = aClear P T x := Eq.trans rfl rfl
theorem wp_lenm {P : Program} {F G : Nat → Prop} {H : AH} {s b : Nat} {T : TypeId} {kt : TypeId × TypeId} {Q : Value → AH → Nat → Prop} (h : mapT P T = some kt) : Wp F G (aLen P T (.map (some b))) H s Q = (match H b with | some (.map kv) => F b ∧ Q (.int .i64 (kv.length : Nat)) H s | _ => False) := by
  unfold mapT at h
  split at h
  · rename_i k e hu
    unfold aLen
    rw [hu]
    dsimp only
    rw [wp_bind, wp_entries]
    cases H b with
    | none => rfl
    | some x =>
      cases x with
      | cells cs T wr => rfl
      | map kv => simp only [wp_ret]
  · cases h
theorem Holds.each : ∀ {P : List Own} {H : AH} {D : Nat → Prop}, Holds P H D → ∀ o, o ∈ P → ∃ D', o.X.p o.k H D' ∧ ∀ b, D' b → D b
  | [], H, D, _, o, ho => by cases ho
  | q :: r, H, D, ⟨D1, D2, a, b, c, d⟩, o, ho => by
    rcases List.mem_cons.1 ho with rfl | ho
    · exact ⟨D1, c, fun x hx => (b x).2 (.inl hx)⟩
    · obtain ⟨D', h1, h2⟩ := Holds.each d o ho
      exact ⟨D', h1, fun x hx => (b x).2 (.inr (h2 x hx))⟩
section
variable {F G : Nat → Prop} {H : AH} {s b : Nat} {W : Wd} {P R : List Own} {T : TypeId} {n : Nat} {v : Value} {rows : List (List Value)} {cs : List Value}
theorem Fz.opens {α : Type} {A : α → Value → List Own} {c : α → Prop} (f : Fz W v (ExO A c)) : ∃ a, c a ∧ ∀ o, o ∈ A a v → Fz W o.k o.X := by
  obtain ⟨D, ⟨a, ha, hh⟩, hz⟩ := f
  refine ⟨a, ha, fun o ho => ?_⟩
  obtain ⟨D', h1, h2⟩ := hh.each o ho
  exact ⟨D', h1, fun x hx => hz x (h2 x hx)⟩
theorem St.fcell (S : St F G H s W P) (f : Fz W (ptr b) (CellsO cs T)) : H b = some (.cells cs T true) ∧ F b ∧ b < s := by
  refine S.fask f ?_
  rintro D ⟨b', h1, h2, h3⟩ q
  cases h1
  have := q b ((h3 b).2 rfl)
  exact ⟨h2, this.2, this.1⟩
theorem St.fmap {kv : List (Value × Value)} (S : St F G H s W P) (f : Fz W (.map (some b)) (MapO kv)) : H b = some (.map kv) ∧ F b ∧ b < s := by
  refine S.fask f ?_
  rintro D ⟨b', h1, h2, h3⟩ q
  cases h1
  have := q b ((h3 b).2 rfl)
  exact ⟨h2, this.2, this.1⟩
theorem Fz.len (f : Fz W v (RowsO T n rows)) : ∃ a, v = .slice a rows.length rows.length ∧ (a = none → rows = []) := by
  obtain ⟨D, ⟨L, h, _⟩, _⟩ := f
  exact h.len
theorem St.frow {a : Option Addr} {l m : Nat} (S : St F G H s W P) (f : Fz W (.slice a l m) (RowsO T n rows)) {i : Nat} (hi : i < rows.length) : ∃ d o cs, a = some ⟨d, o, none⟩ ∧ H d = some (.cells cs T true) ∧ F d ∧ d < s ∧ o + i * n + n ≤ cs.length ∧ (cs.drop (o + i * n)).take n = rows[i] := by
  refine S.fask f ?_
  rintro D ⟨L, h, hD⟩ q
  obtain ⟨d, o, cs, h1, h2, h3, h4, h5⟩ := h.at hi
  have := q d ((hD d).2 (by rw [h2]; simp))
  cases h1
  exact ⟨d, o, cs, rfl, h3, this.2, this.1, h4, h5⟩
/-- The heap's text is put away. -/
theorem St.hide {A : AH → Prop} (S : St F G H s W P) (h : ∀ H', St F G H' s W P → A H') : A H := h H S
/-- A slice from a row on. -/
theorem SlAt.from {d o N m : Nat} {L : List Nat} (h : SlAt H T n (.slice (some ⟨d, o, none⟩) N m) rows L) {i : Nat} (hi : i ≤ rows.length) : SlAt H T n (.slice (some ⟨d, o + i * n, none⟩) (N - i) (N - i)) (rows.drop i) L := by
  obtain ⟨hr, ⟨h1, -, -⟩ | ⟨d', o', cs, h1, hL, hd, ho, hc⟩⟩ := h
  · cases h1
  · cases h1
    have hm : rows.length * n = i * n + (rows.length - i) * n := by rw [← Nat.add_mul]; congr 1; omega
    refine ⟨fun r hm => hr r (List.mem_of_mem_drop hm), .inr ⟨d, o + i * n, cs, by simp, hL, hd, by simp; omega, ?_⟩⟩
    have e : rows.flatten = (rows.take i).flatten ++ (rows.drop i).flatten := by
      rw [← List.flatten_append, List.take_append_drop]
    have hl : (rows.take i).flatten.length = i * n := by rw [flatten_len (k := n) fun r hr' => hr r (List.mem_of_mem_take hr'), List.length_take, Nat.min_eq_left hi]
    have e2 := congrArg (List.drop (i * n)) hc
    rw [e, List.drop_left' hl, List.drop_take, List.drop_drop] at e2
    rw [List.length_drop, ← e2]
    congr 1
    omega
theorem St.from {d o N m : Nat} (S : St F G H s W (⟨.slice (some ⟨d, o, none⟩) N m, RowsO T n rows⟩ :: R)) {i : Nat} (hi : i ≤ rows.length) : St F G H s W (⟨.slice (some ⟨d, o + i * n, none⟩) (N - i) (N - i), RowsO T n (rows.drop i)⟩ :: R) := by
  refine S.as ?_
  rintro D ⟨L, h, hD⟩
  exact ⟨L, h.from hi, hD⟩
/-- A call that only reads what is owned: it is lent for the call. -/
theorem St.reads {k : Value} {X : Obj} (S : St F G H s W (⟨k, X⟩ :: R)) : St F G H s (Go.Proofs.YtlkceignfhnpoaaGreatDoor.lent F H s) [] ∧ Fz (Go.Proofs.YtlkceignfhnpoaaGreatDoor.lent F H s) k X :=
  ⟨S.lend (fun _ _ => rfl) (Nat.le_refl _) S.bd (fun _ _ h => h) S.new, S.lent⟩
theorem St.read {k : Value} {X : Obj} (S : St F G H s W P) [L : Look P k X R] : Fz (Go.Proofs.YtlkceignfhnpoaaGreatDoor.lent F H s) k X := (S.front k).lent
end
section
variable {P' : Program} {F G : Nat → Prop} {H : AH} {s d o N m : Nat} {W : Wd} {R : List Own} {T e : TypeId} {n : Nat} {Q : Value → AH → Nat → Prop} {rows rs : List (List Value)} {a : Option Addr}
/-- Rows are copied to the front of others. -/
theorem St.copy (S : St F G H s W (⟨.slice (some ⟨d, o, none⟩) N N, RowsO e n rows⟩ :: ⟨.slice a m m, RowsO e n rs⟩ :: R)) (hT : elemT P' T = some e) (hsz : szOf P' e = some n) (hle : rs.length ≤ rows.length)
    (hq : ∀ H', St F G H' s W (⟨.slice (some ⟨d, o, none⟩) N N, RowsO e n (rs ++ rows.drop rs.length)⟩ :: ⟨.slice a m m, RowsO e n rs⟩ :: R) → Q (.int .i64 rs.length) H' s) : Wp F G (aCopy P' T (.slice (some ⟨d, o, none⟩) N N) (.slice a m m)) H s Q := by
  obtain ⟨a1, e1⟩ := S.rln
  obtain ⟨a2, e2⟩ := (S.drop).rln
  cases e1; cases e2
  unfold aCopy
  simp only [hT, hsz]
  rw [wp_ite]
  split
  · rename_i h0
    have hr0 : rs = [] := by
      rcases h0 with h | h
      · exact List.length_eq_zero_iff.1 h
      · exact List.length_eq_zero_iff.1 (by omega)
    subst hr0
    rw [wp_ret]
    have := hq H (by simpa using S)
    simpa using this
  · rename_i h0
    rw [wp_bind]
    have hS2 : ∃ L, SlAt H e n (.slice a rs.length rs.length) rs L ∧ ∀ b, b ∈ L → F b := by
      refine S.drop.ask ?_
      rintro D ⟨L, h, hD⟩ q
      exact ⟨L, h, fun b hb => (q b ((hD b).2 hb)).2.1⟩
    obtain ⟨L2, hL2, hF2⟩ := hS2
    refine hL2.cells hF2 ?_
    have hn : rs.flatten.length = rs.length * n := flatten_len hL2.1
    have hpos : 0 < rows.length := by omega
    obtain ⟨d', o', cs, h1, kd, fd, gd, ld, ho, -⟩ := S.row (i := 0) hpos
    cases h1
    have hfull : o + rows.length * n ≤ cs.length := by
      refine S.ask ?_
      rintro D ⟨L, h, hD⟩ q
      obtain ⟨-, ⟨h1, -, -⟩ | ⟨d'', o'', cs'', h1, -, hd', ho', -⟩⟩ := h
      · cases h1
      · cases h1; rw [kd] at hd'; cases hd'; exact ho'
    have hmul : rs.length * n ≤ rows.length * n := Nat.mul_le_mul_right _ hle
    simp only [wp_bind, wp_cells, kd, wp_ite, wp_set, wp_ret, wp_fail]
    refine ⟨fd, ?_⟩
    rw [if_pos ⟨trivial, by rw [hn]; omega⟩]
    refine ⟨fd, gd, hq _ ?_⟩
    have := S.setRows 0 rs (by simpa using hle) hL2.1 kd
    simpa using this
end
/-- A ring: its rows, where the first item lies, the items. -/
structure RingIn (rows : List (List Value)) (a : Nat) (items : List (List Value)) (most : Nat) : Prop where
  few : items.length ≤ rows.length
  cap : rows.length ≤ most
  most : most ≤ 4096
  pos : a < rows.length ∨ (a = 0 ∧ rows = [])
  get : ∀ i, i < items.length → rows[(a + i) % rows.length]? = items[i]?
def RingO (Tr T : TypeId) (k most : Nat) (items : List (List Value)) : Obj := ExO (α := Value × List (List Value) × Nat) (fun q v => [⟨v, CellsO [q.1, .int .i64 (q.2.2 : Nat), .int .i64 (items.length : Nat), .int .i64 (most : Nat)] Tr⟩, ⟨q.1, RowsO T k q.2.1⟩]) (fun q => RingIn q.2.1 q.2.2 items most)
section
variable {F G : Nat → Prop} {H : AH} {s b k most : Nat} {W : Wd} {P R : List Own} {T Tr : TypeId} {items rows : List (List Value)} {a : Nat}
theorem St.ringOpen (S : St F G H s W (⟨ptr b, RingO Tr T k most items⟩ :: R)) : ∃ v rows a, RingIn rows a items most ∧ St F G H s W (⟨ptr b, CellsO [v, .int .i64 (a : Nat), .int .i64 (items.length : Nat), .int .i64 (most : Nat)] Tr⟩ :: ⟨v, RowsO T k rows⟩ :: R) := by
  obtain ⟨⟨v, rows, a⟩, h, S⟩ := S.opens
  exact ⟨v, rows, a, h, S⟩
theorem St.ringClose {v : Value} (h : RingIn rows a items most) (S : St F G H s W (⟨ptr b, CellsO [v, .int .i64 (a : Nat), .int .i64 (items.length : Nat), .int .i64 (most : Nat)] Tr⟩ :: ⟨v, RowsO T k rows⟩ :: R)) : St F G H s W (⟨ptr b, RingO Tr T k most items⟩ :: R) := S.closes (v, rows, a) h
theorem Fz.ring (f : Fz W (ptr b) (RingO Tr T k most items)) : ∃ v rows a, RingIn rows a items most ∧ Fz W (ptr b) (CellsO [v, .int .i64 (a : Nat), .int .i64 (items.length : Nat), .int .i64 (most : Nat)] Tr) ∧ Fz W v (RowsO T k rows) := by
  obtain ⟨⟨v, rows, a⟩, h, hh⟩ := f.opens
  exact ⟨v, rows, a, h, hh ⟨ptr b, _⟩ (List.Mem.head _), hh ⟨v, _⟩ (List.Mem.tail _ (List.Mem.head _))⟩
end
section
variable {rows : List (List Value)} {a most : Nat} {items : List (List Value)} {x : List Value}
theorem RingIn.item (h : RingIn rows a items most) {i : Nat} (hi : i < items.length) : ∃ h2 : (a + i) % rows.length < rows.length, rows[(a + i) % rows.length] = items[i] := by
  have hp : 0 < rows.length := by have := h.few; omega
  have hm := Nat.mod_lt (a + i) hp
  refine ⟨hm, ?_⟩
  have := h.get i hi
  rw [List.getElem?_eq_getElem hm, List.getElem?_eq_getElem hi] at this
  exact Option.some.inj this
theorem RingIn.take (h : RingIn rows a (x :: items) most) (z : List Value) : RingIn (rows.set a z) ((a + 1) % rows.length) items most := by
  have hf := h.few
  simp at hf
  have hp : 0 < rows.length := by omega
  have ha : a < rows.length := by
    rcases h.pos with h | h
    · exact h
    · rw [h.2] at hp; simp at hp
  refine ⟨by simp; omega, by simp; exact h.cap, h.most, .inl (by simp; exact Nat.mod_lt _ hp), fun i hi => ?_⟩
  have h1 := h.get (i + 1) (by simp; omega)
  rw [List.length_set, Nat.mod_add_mod, show a + 1 + i = a + (i + 1) by omega]
  rw [List.getElem?_cons_succ] at h1
  rw [← h1, List.getElem?_set_ne]
  intro e
  have hlt : i + 1 < rows.length := by omega
  rcases Nat.lt_or_ge (a + (i + 1)) rows.length with h2 | h2
  · rw [Nat.mod_eq_of_lt h2] at e; omega
  · rw [Nat.mod_eq_sub_mod h2, Nat.mod_eq_of_lt (by omega)] at e; omega
theorem RingIn.put (h : RingIn rows a items most) (hr : items.length < rows.length) (x : List Value) : RingIn (rows.set ((a + items.length) % rows.length) x) a (items ++ [x]) most := by
  have hp : 0 < rows.length := by omega
  have ha : a < rows.length := by
    rcases h.pos with h | h
    · exact h
    · rw [h.2] at hp; simp at hp
  refine ⟨by simp; omega, by simp; exact h.cap, h.most, .inl (by simp; exact ha), fun i hi => ?_⟩
  rw [List.length_set]
  simp at hi
  by_cases hl : i = items.length
  · subst hl
    rw [List.getElem?_set_self (Nat.mod_lt _ hp)]
    simp
  · rw [List.getElem?_set_ne, h.get i (by omega), List.getElem?_append_left (by omega)]
    intro e
    have hi2 : i < items.length := by omega
    rcases Nat.lt_or_ge (a + items.length) rows.length with h2 | h2
    · rw [Nat.mod_eq_of_lt h2, Nat.mod_eq_of_lt (by omega)] at e; omega
    · rw [Nat.mod_eq_sub_mod h2, Nat.mod_eq_of_lt (by omega : a + items.length - rows.length < rows.length)] at e
      rcases Nat.lt_or_ge (a + i) rows.length with h3 | h3
      · rw [Nat.mod_eq_of_lt h3] at e; omega
      · rw [Nat.mod_eq_sub_mod h3, Nat.mod_eq_of_lt (by omega)] at e; omega
theorem RingIn.grow (h : RingIn rows a items most) (z : List Value) {n : Nat} (hn : items.length ≤ n) (hm : n ≤ most) (hp : 0 < n) : RingIn (items ++ List.replicate (n - items.length) z) 0 items most := by
  have hl : (items ++ List.replicate (n - items.length) z).length = n := by simp; omega
  refine ⟨by rw [hl]; exact hn, by rw [hl]; exact hm, h.most, .inl (by rw [hl]; exact hp), fun i hi => ?_⟩
  rw [hl, Nat.zero_add, Nat.mod_eq_of_lt (by omega), List.getElem?_append_left hi]
theorem RingIn.nil (most : Nat) (hm : most ≤ 4096) : RingIn [] 0 [] most := ⟨Nat.le_refl _, Nat.zero_le _, hm, .inr ⟨rfl, rfl⟩, fun i hi => by simp at hi⟩
end
end Go.Proofs.YtlkceignfhnpoaaGreatDoor
end
section
namespace Go.Proofs.YtlkceignfhnpoaaGreatDoor
open Go AX
theorem zeroCells_flat {z : Value} {zr : List Value} (hz : z.cells.toList = zr) (hk : 0 < zr.length) (k : Nat) : (Builtin.zeroCells z.cells k).toList = (List.replicate k zr).flatten := by
  by_cases h0 : k = 0
  · subst h0; simp [Builtin.zeroCells]
  · rw [← zeroRow_flat hz hk k]
    have hsz : z.cells.size = zr.length := by rw [← hz]; simp
    have hne : ¬ k * zr.length = 0 := by
      intro h
      rcases Nat.mul_eq_zero.1 h with h | h <;> omega
    unfold zeroRow Builtin.zeroCells
    simp only [hne, if_false, hsz]
section
variable {P' : Program} {F G : Nat → Prop} {H : AH} {s d o N m : Nat} {W : Wd} {P R : List Own} {T e : TypeId} {n y : Nat} {Q : Value → AH → Nat → Prop} {rows news rs : List (List Value)} {v w : Value}
/-- Frozen rows are put behind others. -/
theorem St.appendF (S : St F G H s W (⟨v, RowsO e n rows⟩ :: R)) (f : Fz W w (RowsO e n news)) (hi : apInfo P' T = some (e, n, y)) (hb : (rows.length + news.length) * y ≤ 140737488355328 ∧ rows.length + news.length ≤ 9223372036854775807)
    (hq : ∀ H' s' a l m, St F G H' s' W (⟨.slice a l m, RowsO e n (rows ++ news)⟩ :: R) → Q (.slice a l m) H' s') : Wp F G (aAppend P' T T v w) H s Q := by
  obtain ⟨D, ⟨D1, D2, a, q1, ⟨L, hL, hD1⟩, d⟩, q⟩ := S.hold
  have own : ∀ b, b ∈ L → b < s ∧ F b ∧ G b := fun b hb => by have := q b ((q1 b).2 (.inl ((hD1 b).2 hb))); exact ⟨this.1, this.2.1, this.2.2.1⟩
  have own3 : ∀ b, b ∈ L → ¬ W.Z b := fun b hb => (q b ((q1 b).2 (.inl ((hD1 b).2 hb)))).2.2.2
  have hM : ∃ M, SlAt H e n w news M ∧ ∀ b, b ∈ M → F b := by
    refine S.fask f ?_
    rintro D ⟨M, h, hD⟩ q
    exact ⟨M, h, fun b hb => (q b ((hD b).2 hb)).2⟩
  obtain ⟨M, hM, hFM⟩ := hM
  refine wp_bd (ls_aAppend _ _ _ _) S.bd ?_
  refine SlAt.append hL hM hi (fun b hb => (own b hb).2) hFM (fun b hb => (own b hb).1) hb fun H' s' v' L' f h hl hv hu hbd => ?_
  suffices S' : St F G H' s' W (⟨v', RowsO e n (rows ++ news)⟩ :: R) from by
    obtain ⟨a, l, m, rfl⟩ := S'.rsl
    exact hq H' s' a l m S'
  have hne : ∀ b, D2 b → b < s ∧ b ∉ L := fun b hb => ⟨(q b ((q1 b).2 (.inr hb))).1, fun hm => a b ((hD1 b).2 hm) hb⟩
  have keep : ∀ b, D2 b → H' b = H b := fun b hb => f.keep b (hne b hb).1 (hne b hb).2
  refine ⟨hbd, S.new.up hu, fun x hx => ?_, fun x => x ∈ L' ∨ D2 x, ⟨fun x => x ∈ L', D2, fun x hx hy => ?_, fun x => Iff.rfl, ⟨L', h, fun x => Iff.rfl⟩, d.loc fun b hb => keep b hb⟩, fun x hx => ?_⟩
  · have h0 := S.froz x hx
    exact ⟨by omega, h0.2.1, (f.keep x h0.1 fun hm => own3 x hm hx).trans h0.2.2⟩
  · rcases (hl x hx).1 with h | h
    · exact (hne x hy).2 h
    · have := (hne x hy).1; omega
  · rcases hx with hx | hx
    · have h2 := hl x hx
      rcases h2.1 with h3 | h3
      · have := own x h3; exact ⟨by omega, this.2.1, this.2.2, own3 x h3⟩
      · refine ⟨?_, (S.new x h3).1, (S.new x h3).2, fun hz => by have := (S.froz x hz).1; omega⟩
        rcases h2.2 with h4 | h4
        · have := (own x h4).1; omega
        · exact h4
    · have := q x ((q1 x).2 (.inr hx)); exact ⟨by omega, this.2⟩
/-- The block of a slice. -/
theorem St.rblk (S : St F G H s W (⟨.slice (some ⟨d, o, none⟩) N m, RowsO T n rows⟩ :: R)) : ∃ cs, H d = some (.cells cs T true) ∧ F d ∧ G d ∧ d < s ∧ o + rows.length * n ≤ cs.length ∧ N = rows.length ∧ m = rows.length := by
  refine S.ask ?_
  rintro D ⟨L, h, hD⟩ q
  obtain ⟨hr, ⟨h1, -, -⟩ | ⟨d', o', cs, h1, hL, hd, ho, hc⟩⟩ := h
  · cases h1
  · cases h1
    have := q d ((hD d).2 (by rw [hL]; simp))
    exact ⟨cs, hd, this.2.1, this.2.2, this.1, ho, rfl, rfl⟩
theorem St.frblk (S : St F G H s W P) (f : Fz W (.slice (some ⟨d, o, none⟩) N m) (RowsO T n rows)) : ∃ cs, H d = some (.cells cs T true) ∧ F d ∧ d < s ∧ o + rows.length * n ≤ cs.length ∧ N = rows.length ∧ m = rows.length := by
  refine S.fask f ?_
  rintro D ⟨L, h, hD⟩ q
  obtain ⟨hr, ⟨h1, -, -⟩ | ⟨d', o', cs, h1, hL, hd, ho, hc⟩⟩ := h
  · cases h1
  · cases h1
    have := q d ((hD d).2 (by rw [hL]; simp))
    exact ⟨cs, hd, this.2, this.1, ho, rfl, rfl⟩
/-- A slice's front. -/
theorem St.upto (S : St F G H s W (⟨.slice (some ⟨d, o, none⟩) N m, RowsO T n rows⟩ :: R)) {i : Nat} (hi : i ≤ rows.length) : St F G H s W (⟨.slice (some ⟨d, o, none⟩) i i, RowsO T n (rows.take i)⟩ :: R) := by
  refine S.as ?_
  rintro D ⟨L, h, hD⟩
  refine ⟨L, ?_, hD⟩
  obtain ⟨hr, ⟨h1, -, -⟩ | ⟨d', o', cs, h1, hL, hd, ho, hc⟩⟩ := h
  · cases h1
  · cases h1
    have hm : i * n ≤ rows.length * n := Nat.mul_le_mul_right _ hi
    have hl : (rows.take i).length = i := by rw [List.length_take, Nat.min_eq_left hi]
    have hf : (rows.take i).flatten.length = i * n := by rw [flatten_len (k := n) fun r hr' => hr r (List.mem_of_mem_take hr'), hl]
    refine ⟨fun r hm => hr r (List.mem_of_mem_take hm), .inr ⟨d, o, cs, by rw [hl], hL, hd, by rw [hl]; omega, ?_⟩⟩
    rw [hl]
    have e2 := congrArg (List.take (i * n)) hc
    rw [List.take_take, Nat.min_eq_left hm] at e2
    rw [e2]
    have e : rows.flatten = (rows.take i).flatten ++ (rows.drop i).flatten := by rw [← List.flatten_append, List.take_append_drop]
    rw [e, List.take_left' hf]
/-- What is behind is cleared. -/
theorem St.clearTo (S : St F G H s W (⟨.slice (some ⟨d, o, none⟩) N m, RowsO e n rows⟩ :: R)) {i : Nat} (hi : i ≤ rows.length) {z : Value} {zr : List Value} (he : elemT P' T = some e) (hs : szOf P' e = some n) (hz : zeroOf P' e = some z) (hzr : ∀ k, (Builtin.zeroCells z.cells k).toList = (List.replicate k zr).flatten) (hzn : zr.length = n) {k k' off : Nat} (hk : k = rows.length - i) (hoff : off = o + i * n)
    (hq : ∀ H', St F G H' s W (⟨.slice (some ⟨d, o, none⟩) i i, RowsO e n (rows.take i)⟩ :: R) → Q (.tuple #[]) H' s) : Wp F G (aClear P' T (.slice (some ⟨d, off, none⟩) k k')) H s Q := by
  subst hoff
  obtain ⟨cs, kd, fd, gd, ld, ho, -, -⟩ := S.rblk
  unfold aClear
  simp only [he, hs, hz]
  rw [wp_ite]
  split
  · rename_i h0
    rw [wp_ret]
    exact hq _ (S.upto hi)
  · rename_i h0
    subst hk
    have hlen : ((List.replicate (rows.length - i) zr).flatten).length = (rows.length - i) * n := by rw [flatten_len (k := n) fun r h => by rw [List.eq_of_mem_replicate h, hzn], List.length_replicate]
    have hm : rows.length * n = i * n + (rows.length - i) * n := by rw [← Nat.add_mul]; congr 1; omega
    simp only [wp_bind, wp_cells, kd, wp_ite, wp_set, wp_ret, wp_fail, hzr, hlen]
    refine ⟨fd, ?_⟩
    rw [if_pos ⟨trivial, by omega⟩]
    refine ⟨fd, gd, hq _ ?_⟩
    have S2 := S.setRows i (List.replicate (rows.length - i) zr) (by simp; omega) (fun r h => by rw [List.eq_of_mem_replicate h, hzn]) kd
    have S3 := S2.upto (i := i) (by simp; omega)
    rw [List.take_append_of_le_length (by simp; omega), List.take_take, Nat.min_self] at S3
    exact S3
end
end Go.Proofs.YtlkceignfhnpoaaGreatDoor
end
section
namespace Go.Proofs.YtlkceignfhnpoaaGreatDoor
open Go AX
/-- A part of a slice of rows of n cells: from lo on, ahead of hi. -/
def subV (v : Value) (n lo hi : Nat) : Value :=
  match v with
  | .slice (some ⟨d, o, x⟩) _ _ => .slice (some ⟨d, o + lo * n, x⟩) (hi - lo) (hi - lo)
  | _ => v
theorem SlAt.sub {H : AH} {T : TypeId} {n lo hi : Nat} {v : Value} {rows : List (List Value)} {L : List Nat} (h : SlAt H T n v rows L) (hl : lo ≤ hi) (hh : hi ≤ rows.length) : SlAt H T n (subV v n lo hi) ((rows.take hi).drop lo) L := by
  obtain ⟨hr, ⟨rfl, rfl, rfl⟩ | ⟨d, o, cs, rfl, rfl, hd, ho, hc⟩⟩ := h
  · refine ⟨by simp, .inl ⟨rfl, by simp, rfl⟩⟩
  · have hm : hi * n ≤ rows.length * n := Nat.mul_le_mul_right _ hh
    have hm2 : lo * n ≤ hi * n := Nat.mul_le_mul_right _ hl
    have hm3 : (hi - lo) * n = hi * n - lo * n := Nat.sub_mul ..
    have hlen : ((rows.take hi).drop lo).length = hi - lo := by rw [List.length_drop, List.length_take, Nat.min_eq_left hh]
    have hr' : ∀ r, r ∈ (rows.take hi).drop lo → r.length = n := fun r hm => hr r (List.mem_of_mem_take (List.mem_of_mem_drop hm))
    refine ⟨hr', .inr ⟨d, o + lo * n, cs, by rw [hlen]; rfl, rfl, hd, by rw [hlen]; omega, ?_⟩⟩
    rw [hlen]
    have e1 : ((cs.drop o).take (hi * n)) = (rows.take hi).flatten := by
      have e2 := congrArg (List.take (hi * n)) hc
      rw [List.take_take, Nat.min_eq_left hm] at e2
      rw [e2]
      have e : rows.flatten = (rows.take hi).flatten ++ (rows.drop hi).flatten := by rw [← List.flatten_append, List.take_append_drop]
      have hf : (rows.take hi).flatten.length = hi * n := by rw [flatten_len (k := n) fun r hr' => hr r (List.mem_of_mem_take hr'), List.length_take, Nat.min_eq_left hh]
      rw [e, List.take_left' hf]
    have e3 : (rows.take hi).flatten = ((rows.take hi).take lo).flatten ++ ((rows.take hi).drop lo).flatten := by rw [← List.flatten_append, List.take_append_drop]
    have hf2 : ((rows.take hi).take lo).flatten.length = lo * n := by rw [flatten_len (k := n) fun r hm => hr r (List.mem_of_mem_take (List.mem_of_mem_take hm)), List.length_take, List.length_take, Nat.min_eq_left hh, Nat.min_eq_left hl]
    have e4 := congrArg (List.drop (lo * n)) e1
    rw [e3, List.drop_left' hf2, List.drop_take, List.drop_drop] at e4
    rw [← e4, hm3]
section
variable {P' : Program} {F G : Nat → Prop} {H : AH} {s n lo hi : Nat} {W : Wd} {P R : List Own} {T e : TypeId} {Q : Value → AH → Nat → Prop} {rows : List (List Value)} {v : Value} {vl vh : Option Value}
theorem Fz.sub (f : Fz W v (RowsO T n rows)) (hl : lo ≤ hi) (hh : hi ≤ rows.length) : Fz W (subV v n lo hi) (RowsO T n ((rows.take hi).drop lo)) := by
  obtain ⟨D, ⟨L, h, hD⟩, q⟩ := f
  exact ⟨D, ⟨L, h.sub hl hh, hD⟩, q⟩
theorem St.sub (S : St F G H s W (⟨v, RowsO T n rows⟩ :: R)) (hl : lo ≤ hi) (hh : hi ≤ rows.length) : St F G H s W (⟨subV v n lo hi, RowsO T n ((rows.take hi).drop lo)⟩ :: R) := by
  refine S.as ?_
  rintro D ⟨L, h, hD⟩
  exact ⟨L, h.sub hl hh, hD⟩
theorem SlAt.wpSub {L : List Nat} (h : SlAt H e n v rows L) (hF : ∀ b, b ∈ L → F b) (hT : elemT P' T = some e) (hsz : szOf P' e = some n) (el : intO vl 0 = some (lo : Int)) (eh : intO vh rows.length = some (hi : Int)) (hl : lo ≤ hi) (hh : hi ≤ rows.length) (hq : Q (subV v n lo hi) H s) : Wp F G (aSlice P' T v vl vh none) H s Q := by
  obtain ⟨hr, ⟨rfl, rfl, rfl⟩ | ⟨d, o, cs, rfl, rfl, hd, ho, hc⟩⟩ := h
  · rw [wp_slice, hT]
    simp only [hsz, el]
    have eh' : intO vh 0 = some (hi : Int) := eh
    rw [eh']
    simp at hh
    subst hh
    dsimp only
    rw [if_pos ⟨by omega, by omega, by omega⟩]
    exact hq
  · rw [wp_slice, hT]
    simp only [hsz, el, eh]
    rw [if_pos ⟨by omega, by omega, by omega⟩]
    unfold SlTo
    simp only [hd, hsz, Int.toNat_natCast, if_true]
    exact ⟨hF d (by simp), hq⟩
/-- A part of one's own slice, or of a frozen one. -/
theorem St.wpSub (S : St F G H s W (⟨v, RowsO e n rows⟩ :: R)) (lo hi : Nat) (hT : elemT P' T = some e) (hsz : szOf P' e = some n) (el : intO vl 0 = some (lo : Int)) (eh : intO vh rows.length = some (hi : Int)) (hl : lo ≤ hi) (hh : hi ≤ rows.length) (hq : Q (subV v n lo hi) H s) : Wp F G (aSlice P' T v vl vh none) H s Q := by
  have : ∃ L, SlAt H e n v rows L ∧ ∀ b, b ∈ L → F b := by
    refine S.ask ?_
    rintro D ⟨L, h, hD⟩ q
    exact ⟨L, h, fun b hb => (q b ((hD b).2 hb)).2.1⟩
  obtain ⟨L, h, hF⟩ := this
  exact h.wpSub hF hT hsz el eh hl hh hq
theorem St.wpSubF (S : St F G H s W P) (f : Fz W v (RowsO e n rows)) (lo hi : Nat) (hT : elemT P' T = some e) (hsz : szOf P' e = some n) (el : intO vl 0 = some (lo : Int)) (eh : intO vh rows.length = some (hi : Int)) (hl : lo ≤ hi) (hh : hi ≤ rows.length) (hq : Q (subV v n lo hi) H s) : Wp F G (aSlice P' T v vl vh none) H s Q := by
  have : ∃ L, SlAt H e n v rows L ∧ ∀ b, b ∈ L → F b := by
    refine S.fask f ?_
    rintro D ⟨L, h, hD⟩ q
    exact ⟨L, h, fun b hb => (q b ((hD b).2 hb)).2⟩
  obtain ⟨L, h, hF⟩ := this
  exact h.wpSub hF hT hsz el eh hl hh hq
end
theorem into_none {d : Nat} : intO none d = some (d : Int) := Eq.trans rfl rfl
theorem into_i64 {x : Int} {d : Nat} : intO (some (.int .i64 x)) d = some x := Eq.trans rfl rfl
/-- Some are brought to the front, in an order. -/
class Fronts (P : List Own) (ks : List Value) (P' : outParam (List Own)) : Prop where
  perm : P.Perm P'
instance {R : List Own} : Fronts R [] R := ⟨.refl _⟩
instance {P R R' : List Own} {k : Value} {ks : List Value} {X : Obj} [h : Look P k X R] [g : Fronts R ks R'] : Fronts P (k :: ks) (⟨k, X⟩ :: R') := ⟨h.perm.trans (g.perm.cons _)⟩
theorem St.fronts {F G : Nat → Prop} {H : AH} {s : Nat} {W : Wd} {P P' : List Own} (ks : List Value) (S : St F G H s W P) [h : Fronts P ks P'] : St F G H s W P' := S.perm h.perm
/-- For a call beside others: what lay there at the region's start may be read, what is new may be turned. -/
theorem St.ownS {F G : Nat → Prop} {H H0 : AH} {s s0 : Nat} {W : Wd} {P : List Own} (S : St F G H s W P) (u : s0 ≤ s) (hk : ∀ b, b < s0 → F b → H b = H0 b) : St (fun b => F b ∧ (b < s0 ∨ s ≤ b)) (fun b => G b ∧ s ≤ b) H s (Go.Proofs.YtlkceignfhnpoaaGreatDoor.lent F H0 s0) [] :=
  ⟨S.bd, fun b hb => ⟨⟨(S.new b hb).1, .inr hb⟩, (S.new b hb).2, hb⟩, fun b h => ⟨Nat.lt_of_lt_of_le h.1 u, ⟨h.2, .inl h.1⟩, hk b h.1 h.2⟩, fun _ => False, fun _ h => h, fun _ h => h.elim⟩
/-- Behind such a call. -/
theorem St.owned {F G F' G' : Nat → Prop} {H H' : AH} {s s' : Nat} {W W' : Wd} {P P' : List Own} (S : St F G H s W P) (u : s ≤ s') (k : ∀ b, b < s → ¬ (G b ∧ s ≤ b) → H' b = H b) (S' : St F' (fun b => G' b ∧ s ≤ b) H' s' W' P') : St F G H' s' W (P' ++ P) :=
  S.owns (fun b hb => k b hb fun h => by have := h.2; omega) u S' fun b h => h.2
theorem St.owned1 {F G F' G' : Nat → Prop} {H H' : AH} {s s' : Nat} {W W' : Wd} {P : List Own} {o : Own} (S : St F G H s W P) (u : s ≤ s') (k : ∀ b, b < s → ¬ (G b ∧ s ≤ b) → H' b = H b) (S' : St F' (fun b => G' b ∧ s ≤ b) H' s' W' [o]) : St F G H' s' W (o :: P) := S.owned u k S'
theorem St.calm1 {F G G' : Nat → Prop} {H H' : AH} {s s' : Nat} {W W' : Wd} {P : List Own} {o : Own} (S : St F G H s W P) (hs : s ≤ s') (hl : (Go.Proofs.YtlkceignfhnpoaaGreatDoor.lent F H s).le W') (S' : St F G' H' s' W' [o]) : St F G H' s' W (o :: P) := S.calm hs hl S'
/-- All that is there is lent, as it stands. -/
theorem St.lends {F G : Nat → Prop} {H : AH} {s : Nat} {W : Wd} {P : List Own} (S : St F G H s W P) : St F G H s (Go.Proofs.YtlkceignfhnpoaaGreatDoor.lent F H s) [] := S.lend (fun _ _ => rfl) (Nat.le_refl _) S.bd (fun _ _ h => h) S.new
theorem wp_bf {α : Type} {F G : Nat → Prop} {H : AH} {s : Nat} {m : AX α} {Q : α → AH → Nat → Prop} (hm : LS m) (hb : Bd H s) (w : Wp F G m H s (fun v H' s' => s ≤ s' → Bd H' s' → (∀ b, b < s → ¬ G b → H' b = H b) → Q v H' s')) : Wp F G m H s Q :=
  wp_bd hm hb (wp_frame hm (wp_mono w fun v H' s' q k u b => q u b k))
/-- A slice's shape, by letters. -/
theorem Fz.shape {W : Wd} {v : Value} {T : TypeId} {n : Nat} {rows : List (List Value)} (f : Fz W v (RowsO T n rows)) : ∃ a l, v = .slice a l l ∧ l = rows.length := by
  obtain ⟨a, h, -⟩ := f.len
  exact ⟨a, _, h, rfl⟩
theorem St.shape {F G : Nat → Prop} {H : AH} {s n : Nat} {W : Wd} {R : List Own} {T : TypeId} {rows : List (List Value)} {v : Value} (S : St F G H s W (⟨v, RowsO T n rows⟩ :: R)) : ∃ a l, v = .slice a l l ∧ l = rows.length := by
  obtain ⟨a, h⟩ := S.rln
  exact ⟨a, _, h, rfl⟩
end Go.Proofs.YtlkceignfhnpoaaGreatDoor
end
