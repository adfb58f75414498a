/-
  What is owned: blocks that lie apart, each with what it holds; how a run turns them.
-/
import Derived.Test.YtkabaecoamilnaaGreatDoorCAy9
set_option linter.unusedVariables false
set_option linter.unusedSimpArgs false
namespace Go.Proofs.YtkabaecoamilnaaGreatDoor
open Go AX
/-- What a value leads to: the blocks that belong to it, and what they hold. -/
structure Obj where
  p : Value → AH → (Nat → Prop) → Prop
  loc : ∀ {v : Value} {H H' : AH} {D : Nat → Prop}, p v H D → (∀ b, D b → H' b = H b) → p v H' D
/-- A value, and what it leads to. -/
structure Own where
  k : Value
  X : Obj
/-- All these, apart from one another; D are their blocks. -/
def Holds : List Own → AH → (Nat → Prop) → Prop
  | [], H, D => ∀ b, ¬ D b
  | o :: r, H, D => ∃ D1 D2 : Nat → Prop, (∀ b, D1 b → ¬ D2 b) ∧ (∀ b, D b ↔ (D1 b ∨ D2 b)) ∧ o.X.p o.k H D1 ∧ Holds r H D2
theorem Holds.loc : ∀ {P : List Own} {H H' : AH} {D : Nat → Prop}, Holds P H D → (∀ b, D b → H' b = H b) → Holds P H' D
  | [], H, H', D, h, _ => h
  | o :: r, H, H', D, ⟨D1, D2, a, b, c, d⟩, k => ⟨D1, D2, a, b, o.X.loc c fun x hx => k x ((b x).2 (.inl hx)), Holds.loc d fun x hx => k x ((b x).2 (.inr hx))⟩
theorem Holds.iff : ∀ {P : List Own} {H : AH} {D D' : Nat → Prop}, Holds P H D → (∀ b, D b ↔ D' b) → Holds P H D' := by
  intro P H D D' h e
  have : D = D' := funext fun b => propext (e b)
  subst this; exact h
theorem Holds.swap {o q : Own} {r : List Own} {H : AH} {D : Nat → Prop} (h : Holds (o :: q :: r) H D) : Holds (q :: o :: r) H D := by
  obtain ⟨D1, D2, a, b, c, E1, E2, a', b', c', d'⟩ := h
  refine ⟨E1, fun x => D1 x ∨ E2 x, fun x hx hy => ?_, fun x => ?_, c', D1, E2, fun x hx hy => a x hx ((b' x).2 (.inr hy)), fun x => Iff.rfl, c, d'⟩
  · rcases hy with hy | hy
    · exact a x hy ((b' x).2 (.inl hx))
    · exact a' x hx hy
  · rw [b, b']
    constructor
    · rintro (h | h | h)
      · exact .inr (.inl h)
      · exact .inl h
      · exact .inr (.inr h)
    · rintro (h | h | h)
      · exact .inr (.inl h)
      · exact .inl h
      · exact .inr (.inr h)
theorem Holds.perm {P P' : List Own} (e : P.Perm P') : ∀ {H : AH} {D : Nat → Prop}, Holds P H D → Holds P' H D := by
  induction e with
  | nil => intro H D h; exact h
  | cons x _ ih => rintro H D ⟨D1, D2, a, b, c, d⟩; exact ⟨D1, D2, a, b, c, ih d⟩
  | swap x y l => intro H D h; exact h.swap
  | trans _ _ h1 h2 => intro H D h; exact h2 (h1 h)
theorem Holds.append : ∀ {P R : List Own} {H : AH} {D : Nat → Prop}, Holds (P ++ R) H D → ∃ D1 D2 : Nat → Prop, (∀ b, D1 b → ¬ D2 b) ∧ (∀ b, D b ↔ (D1 b ∨ D2 b)) ∧ Holds P H D1 ∧ Holds R H D2
  | [], R, H, D, h => ⟨fun _ => False, D, fun _ h => h.elim, fun b => by simp, fun _ h => h, h⟩
  | o :: r, R, H, D, ⟨D1, D2, a, b, c, d⟩ => by
    obtain ⟨E1, E2, a', b', c', d'⟩ := Holds.append d
    refine ⟨fun x => D1 x ∨ E1 x, E2, fun x hx hy => ?_, fun x => ?_, ⟨D1, E1, fun x hx hy => a x hx ((b' x).2 (.inl hy)), fun x => Iff.rfl, c, c'⟩, d'⟩
    · rcases hx with hx | hx
      · exact a x hx ((b' x).2 (.inr hy))
      · exact a' x hx hy
    · rw [b, b']; exact or_assoc.symm
theorem Holds.join : ∀ {P R : List Own} {H : AH} {D D1 D2 : Nat → Prop}, (∀ b, D1 b → ¬ D2 b) → (∀ b, D b ↔ (D1 b ∨ D2 b)) → Holds P H D1 → Holds R H D2 → Holds (P ++ R) H D
  | [], R, H, D, D1, D2, a, b, h, k => k.iff fun x => by rw [b]; constructor; exact .inr; rintro (q | q); exact absurd q (h x); exact q
  | o :: r, R, H, D, D1, D2, a, b, ⟨E1, E2, a', b', c', d'⟩, k => by
    refine ⟨E1, fun x => E2 x ∨ D2 x, fun x hx hy => ?_, fun x => ?_, c', Holds.join (fun x hx => a x ((b' x).2 (.inr hx))) (fun x => Iff.rfl) d' k⟩
    · rcases hy with hy | hy
      · exact a' x hx hy
      · exact a x ((b' x).2 (.inl hx)) hy
    · rw [b, b']; exact or_assoc
/-- Of some things one is told by its value; the others. -/
class Look (P : List Own) (k : Value) (X : outParam Obj) (R : outParam (List Own)) : Prop where
  perm : P.Perm (⟨k, X⟩ :: R)
instance (priority := 2000) lookHere {k : Value} {X : Obj} {R : List Own} : Look (⟨k, X⟩ :: R) k X R := ⟨.refl _⟩
instance (priority := 1000) lookThere {k : Value} {X : Obj} {R R' : List Own} {o : Own} [h : Look R k X R'] : Look (o :: R) k X (o :: R') := ⟨(h.perm.cons _).trans (.swap _ _ _)⟩
/-- What nobody turns any more: blocks, and what they hold. -/
structure Wd where
  Z : Nat → Prop
  H : AH
/-- A run as it stands: nothing lies from s on, what is new may be read and written; what is frozen lies as it did, and may be read; what is owned may be read and written, and isn't frozen. -/
structure St (F G : Nat → Prop) (H : AH) (s : Nat) (W : Wd) (P : List Own) : Prop where
  bd : Bd H s
  new : New F G s
  froz : ∀ b, W.Z b → b < s ∧ F b ∧ H b = W.H b
  hold : ∃ D, Holds P H D ∧ ∀ b, D b → b < s ∧ F b ∧ G b ∧ ¬ W.Z b
/-- A thing that is frozen. -/
def Fz (W : Wd) (v : Value) (X : Obj) : Prop := ∃ D, X.p v W.H D ∧ ∀ b, D b → W.Z b
def Wd.le (W W' : Wd) : Prop := ∀ b, W.Z b → W'.Z b ∧ W'.H b = W.H b
theorem Wd.le.refl (W : Wd) : W.le W := fun b h => ⟨h, rfl⟩
theorem Wd.le.trans {W W1 W2 : Wd} (h : W.le W1) (k : W1.le W2) : W.le W2 := fun b hb => ⟨(k b (h b hb).1).1, ((k b (h b hb).1).2).trans (h b hb).2⟩
theorem Fz.up {W W' : Wd} {v : Value} {X : Obj} (h : Fz W v X) (k : W.le W') : Fz W' v X := by
  obtain ⟨D, a, b⟩ := h
  exact ⟨D, X.loc a fun x hx => (k x (b x hx)).2, fun x hx => (k x (b x hx)).1⟩
abbrev ptr (b : Nat) : Value := .pointer (some ⟨b, 0, none⟩)
abbrev nilP : Value := .pointer none
abbrev nilS : Value := .slice none 0 0
/-- A block of cells of one's own. -/
def CellsO (cs : List Value) (T : TypeId) : Obj where
  p v H D := ∃ b, v = ptr b ∧ H b = some (.cells cs T true) ∧ ∀ k, D k ↔ k = b
  loc := by
    rintro v H H' D ⟨b, h1, h2, h3⟩ k
    exact ⟨b, h1, (k b ((h3 b).2 rfl)).trans h2, h3⟩
/-- A map of one's own. -/
def MapO (kv : List (Value × Value)) : Obj where
  p v H D := ∃ b, v = .map (some b) ∧ H b = some (.map kv) ∧ ∀ k, D k ↔ k = b
  loc := by
    rintro v H H' D ⟨b, h1, h2, h3⟩ k
    exact ⟨b, h1, (k b ((h3 b).2 rfl)).trans h2, h3⟩
/-- A slice of rows of one's own, of k cells each. -/
def RowsO (T : TypeId) (k : Nat) (rows : List (List Value)) : Obj where
  p v H D := ∃ L, SlAt H T k v rows L ∧ ∀ b, D b ↔ b ∈ L
  loc := by
    rintro v H H' D ⟨L, h1, h2⟩ k
    exact ⟨L, h1.keep fun b hb => k b ((h2 b).2 hb), h2⟩
/-- Some things together, told by a value; what is known of them. -/
def ExO {α : Type} (A : α → Value → List Own) (c : α → Prop) : Obj where
  p v H D := ∃ a, c a ∧ Holds (A a v) H D
  loc := by
    rintro v H H' D ⟨a, h1, h2⟩ k
    exact ⟨a, h1, h2.loc k⟩
section
variable {F G : Nat → Prop} {H H' : AH} {s s' : Nat} {W : Wd} {P R : List Own} {k : Value} {X : Obj}
theorem St.perm (S : St F G H s W P) {P' : List Own} (e : P.Perm P') : St F G H s W P' := by
  obtain ⟨D, h, k⟩ := S.hold
  exact ⟨S.bd, S.new, S.froz, D, h.perm e, k⟩
/-- One is brought to the front. -/
theorem St.at (S : St F G H s W P) [h : Look P k X R] : St F G H s W (⟨k, X⟩ :: R) := S.perm h.perm
theorem St.front (k : Value) (S : St F G H s W P) [h : Look P k X R] : St F G H s W (⟨k, X⟩ :: R) := S.perm h.perm
theorem St.at2 {k1 k2 : Value} {X1 X2 : Obj} {R1 R2 : List Own} (S : St F G H s W P) [h1 : Look P k1 X1 R1] [h2 : Look R1 k2 X2 R2] : St F G H s W (⟨k1, X1⟩ :: ⟨k2, X2⟩ :: R2) := S.perm (h1.perm.trans (h2.perm.cons _))
theorem St.at3 {k1 k2 k3 : Value} {X1 X2 X3 : Obj} {R1 R2 R3 : List Own} (S : St F G H s W P) [h1 : Look P k1 X1 R1] [h2 : Look R1 k2 X2 R2] [h3 : Look R2 k3 X3 R3] : St F G H s W (⟨k1, X1⟩ :: ⟨k2, X2⟩ :: ⟨k3, X3⟩ :: R3) := S.perm (h1.perm.trans ((h2.perm.trans (h3.perm.cons _)).cons _))
/-- One is left to itself. -/
theorem St.drop {o : Own} (S : St F G H s W (o :: R)) : St F G H s W R := by
  obtain ⟨D, ⟨D1, D2, a, b, c, d⟩, k⟩ := S.hold
  exact ⟨S.bd, S.new, S.froz, D2, d, fun x hx => k x ((b x).2 (.inr hx))⟩
theorem St.forget (k : Value) (S : St F G H s W P) [h : Look P k X R] : St F G H s W R := (S.front k).drop
/-- Nothing of it was turned. -/
theorem St.same (S : St F G H s W P) (hk : ∀ b, b < s → H' b = H b) (hs : s ≤ s') (hb : Bd H' s') : St F G H' s' W P := by
  obtain ⟨D, h, k⟩ := S.hold
  exact ⟨hb, S.new.up hs, fun b hb => by have := S.froz b hb; exact ⟨by omega, this.2.1, (hk b this.1).trans this.2.2⟩, D, h.loc fun b hb => hk b (k b hb).1, fun b hb => ⟨Nat.lt_of_lt_of_le (k b hb).1 hs, (k b hb).2⟩⟩
theorem St.fr0 (S : St F G H s W P) (f : Fr [] H s H' s') (hb : Bd H' s') : St F G H' s' W P := S.same (fun b hb => f.keep b hb (by simp)) f.up hb
theorem St.skip (S : St F G H s W P) (x : Option AB) : St F G (upd H s x) (s + 1) W P := S.same (fun b hb => upd_ne _ _ (by omega)) (Nat.le_succ _) S.bd.new
/-- One thing becomes another one, in the same blocks and new ones. -/
theorem St.turn {k' : Value} {X' : Obj} (S : St F G H s W (⟨k, X⟩ :: R)) (hs : s ≤ s') (hb : Bd H' s')
    (h : ∀ D : Nat → Prop, X.p k H D → (∀ b, D b → b < s ∧ F b ∧ G b) → ∃ D', X'.p k' H' D' ∧ (∀ b, D' b → (D b ∨ s ≤ b) ∧ b < s') ∧ ∀ b, b < s → ¬ D b → H' b = H b) : St F G H' s' W (⟨k', X'⟩ :: R) := by
  obtain ⟨D, ⟨D1, D2, a, b, c, d⟩, q⟩ := S.hold
  have q1 : ∀ x, D1 x → x < s ∧ F x ∧ G x ∧ ¬ W.Z x := fun x hx => q x ((b x).2 (.inl hx))
  obtain ⟨D', h1, h2, h3⟩ := h D1 c fun x hx => ⟨(q1 x hx).1, (q1 x hx).2.1, (q1 x hx).2.2.1⟩
  have lt2 : ∀ x, D2 x → x < s := fun x hx => (q x ((b x).2 (.inr hx))).1
  refine ⟨hb, S.new.up hs, fun x hx => ?_, fun x => D' x ∨ D2 x, ⟨D', D2, fun x hx hy => ?_, fun x => Iff.rfl, h1, d.loc fun x hx => h3 x (lt2 x hx) fun h => a x h hx⟩, fun x hx => ?_⟩
  · have := S.froz x hx
    exact ⟨by omega, this.2.1, (h3 x this.1 fun h => (q1 x h).2.2.2 hx).trans this.2.2⟩
  · rcases (h2 x hx).1 with h | h
    · exact a x h hy
    · have := lt2 x hy; omega
  · rcases hx with hx | hx
    · refine ⟨(h2 x hx).2, ?_⟩
      rcases (h2 x hx).1 with h | h
      · exact (q1 x h).2
      · exact ⟨(S.new x h).1, (S.new x h).2, fun hz => by have := (S.froz x hz).1; omega⟩
    · have := q x ((b x).2 (.inr hx))
      exact ⟨by omega, this.2⟩
/-- New things. -/
theorem St.make {k' : Value} {X' : Obj} (S : St F G H s W R) (hs : s ≤ s') (hb : Bd H' s') (h1 : ∀ b, b < s → H' b = H b) (h : ∃ D', X'.p k' H' D' ∧ ∀ b, D' b → s ≤ b ∧ b < s') : St F G H' s' W (⟨k', X'⟩ :: R) := by
  obtain ⟨D, d, q⟩ := S.hold
  obtain ⟨D', h2, h3⟩ := h
  refine ⟨hb, S.new.up hs, fun x hx => ?_, fun x => D' x ∨ D x, ⟨D', D, fun x hx hy => ?_, fun x => Iff.rfl, h2, d.loc fun x hx => h1 x (q x hx).1⟩, fun x hx => ?_⟩
  · have := S.froz x hx; exact ⟨by omega, this.2.1, (h1 x this.1).trans this.2.2⟩
  · have := h3 x hx; have := (q x hy).1; omega
  · rcases hx with hx | hx
    · have := h3 x hx; exact ⟨this.2, (S.new x this.1).1, (S.new x this.1).2, fun hz => by have := (S.froz x hz).1; omega⟩
    · have := q x hx; exact ⟨by omega, this.2⟩
/-- Another reading of a thing in the same blocks. -/
theorem St.as {k' : Value} {X' : Obj} (S : St F G H s W (⟨k, X⟩ :: R)) (h : ∀ D, X.p k H D → X'.p k' H D) : St F G H s W (⟨k', X'⟩ :: R) := by
  obtain ⟨D, ⟨D1, D2, a, b, c, d⟩, q⟩ := S.hold
  exact ⟨S.bd, S.new, S.froz, D, ⟨D1, D2, a, b, h _ c, d⟩, q⟩
/-- A thing's parts. -/
theorem St.parts {Q : List Own} (S : St F G H s W (⟨k, X⟩ :: R)) (h : ∀ D, X.p k H D → Holds Q H D) : St F G H s W (Q ++ R) := by
  obtain ⟨D, ⟨D1, D2, a, b, c, d⟩, q⟩ := S.hold
  exact ⟨S.bd, S.new, S.froz, D, Holds.join a b (h _ c) d, q⟩
theorem St.whole {Q : List Own} (S : St F G H s W (Q ++ R)) (h : ∀ D, Holds Q H D → X.p k H D) : St F G H s W (⟨k, X⟩ :: R) := by
  obtain ⟨D, hD, q⟩ := S.hold
  obtain ⟨D1, D2, a, b, c, d⟩ := hD.append
  exact ⟨S.bd, S.new, S.froz, D, ⟨D1, D2, a, b, h _ c, d⟩, q⟩
theorem St.opens {α : Type} {A : α → Value → List Own} {c : α → Prop} (S : St F G H s W (⟨k, ExO A c⟩ :: R)) : ∃ a, c a ∧ St F G H s W (A a k ++ R) := by
  obtain ⟨D, ⟨D1, D2, a, b, ⟨x, hx, hh⟩, d⟩, q⟩ := S.hold
  exact ⟨x, hx, S.bd, S.new, S.froz, D, Holds.join a b hh d, q⟩
theorem St.closes {α : Type} {A : α → Value → List Own} {c : α → Prop} (a : α) (hc : c a) (S : St F G H s W (A a k ++ R)) : St F G H s W (⟨k, ExO A c⟩ :: R) :=
  S.whole fun D h => ⟨a, hc, h⟩
/-- What is asked of a thing's heap alone. -/
theorem St.ask {A : Prop} (S : St F G H s W (⟨k, X⟩ :: R)) (h : ∀ D, X.p k H D → (∀ b, D b → b < s ∧ F b ∧ G b) → A) : A := by
  obtain ⟨D, ⟨D1, D2, a, b, c, d⟩, q⟩ := S.hold
  exact h _ c fun x hx => by have := q x ((b x).2 (.inl hx)); exact ⟨this.1, this.2.1, this.2.2.1⟩
/-- A frozen thing, in the heap as it is. -/
theorem St.fask {A : Prop} (S : St F G H s W P) (f : Fz W k X) (h : ∀ D, X.p k H D → (∀ b, D b → b < s ∧ F b) → A) : A := by
  obtain ⟨D, a, b⟩ := f
  exact h D (X.loc a fun x hx => (S.froz x (b x hx)).2.2) fun x hx => ⟨(S.froz x (b x hx)).1, (S.froz x (b x hx)).2.1⟩
/-- One's own is frozen. -/
theorem St.freeze (S : St F G H s W (⟨k, X⟩ :: R)) : ∃ W', W.le W' ∧ Fz W' k X ∧ St F G H s W' R := by
  obtain ⟨D, ⟨D1, D2, a, b, c, d⟩, q⟩ := S.hold
  refine ⟨⟨fun x => W.Z x ∨ D1 x, H⟩, fun x hx => ⟨.inl hx, (S.froz x hx).2.2⟩, ⟨D1, c, fun x hx => .inr hx⟩, S.bd, S.new, fun x hx => ?_, D2, d, fun x hx => ?_⟩
  · rcases hx with hx | hx
    · have := S.froz x hx; exact ⟨this.1, this.2.1, rfl⟩
    · have := q x ((b x).2 (.inl hx)); exact ⟨this.1, this.2.1, rfl⟩
  · have := q x ((b x).2 (.inr hx))
    refine ⟨this.1, this.2.1, this.2.2.1, ?_⟩
    rintro (hz | hz)
    · exact this.2.2.2 hz
    · exact a x hz hx
/-- All that is there is lent out for reading. -/
def lent (F : Nat → Prop) (H : AH) (s : Nat) : Wd := ⟨fun b => b < s ∧ F b, H⟩
theorem St.lend (S : St F G H s W P) {F' G' : Nat → Prop} (hk : ∀ b, b < s → H' b = H b) (hs : s ≤ s') (hb : Bd H' s') (hF : ∀ b, b < s → F b → F' b) (hN : New F' G' s') : St F' G' H' s' (lent F H s) [] :=
  ⟨hb, hN, fun b h => ⟨Nat.lt_of_lt_of_le h.1 hs, hF b h.1 h.2, hk b h.1⟩, fun _ => False, fun _ h => h, fun _ h => h.elim⟩
theorem St.lent (S : St F G H s W (⟨k, X⟩ :: R)) : Fz (lent F H s) k X := by
  obtain ⟨D, ⟨D1, D2, a, b, c, d⟩, q⟩ := S.hold
  exact ⟨D1, c, fun x hx => by have := q x ((b x).2 (.inl hx)); exact ⟨this.1, this.2.1⟩⟩
theorem St.flent (S : St F G H s W P) (f : Fz W k X) : Fz (Go.Proofs.YtkabaecoamilnaaGreatDoor.lent F H s) k X := by
  obtain ⟨D, a, b⟩ := f
  exact ⟨D, X.loc a fun x hx => (S.froz x (b x hx)).2.2, fun x hx => ⟨(S.froz x (b x hx)).1, (S.froz x (b x hx)).2.1⟩⟩
/-- New things beside what is there: b is new, if the run that made it owns it. -/
theorem St.beside {F' G' : Nat → Prop} {W' : Wd} {P' : List Own} (S : St F G H s W P) (hk : ∀ b, b < s → F b → H' b = H b) (hs : s ≤ s') (S' : St F' G' H' s' W' P') (hn : ∀ b, F' b → G' b → ¬ W'.Z b → s ≤ b) : St F G H' s' W (P' ++ P) := by
  obtain ⟨D, d, q⟩ := S.hold
  obtain ⟨D', d', q'⟩ := S'.hold
  have hn' : ∀ x, D' x → s ≤ x := fun x hx => hn x (q' x hx).2.1 (q' x hx).2.2.1 (q' x hx).2.2.2
  have hd : ∀ x, D' x → ¬ D x := fun x hx hy => by have := hn' x hx; have := (q x hy).1; omega
  refine ⟨S'.bd, S.new.up hs, fun x hx => ?_, fun x => D' x ∨ D x, Holds.join hd (fun x => Iff.rfl) d' (d.loc fun x hx => hk x (q x hx).1 (q x hx).2.1), fun x hx => ?_⟩
  · have := S.froz x hx; exact ⟨by omega, this.2.1, (hk x this.1 this.2.1).trans this.2.2⟩
  · rcases hx with hx | hx
    · have h1 := hn' x hx
      exact ⟨(q' x hx).1, (S.new x h1).1, (S.new x h1).2, fun hz => by have := (S.froz x hz).1; omega⟩
    · have := q x hx; exact ⟨by omega, this.2⟩
/-- Behind a call that only read what there was. -/
theorem St.calm {G' : Nat → Prop} {W' : Wd} {P' : List Own} (S : St F G H s W P) (hs : s ≤ s') (hl : (Go.Proofs.YtkabaecoamilnaaGreatDoor.lent F H s).le W') (S' : St F G' H' s' W' P') : St F G H' s' W (P' ++ P) :=
  S.beside (fun b hb hf => (S'.froz b (hl b ⟨hb, hf⟩).1).2.2.trans (hl b ⟨hb, hf⟩).2) hs S' fun b hf _ hz => Nat.le_of_not_lt fun h => hz (hl b ⟨h, hf⟩).1
/-- Behind a call beside others. -/
theorem St.owns {F' G' : Nat → Prop} {W' : Wd} {P' : List Own} (S : St F G H s W P) (hk : ∀ b, b < s → H' b = H b) (hs : s ≤ s') (S' : St F' G' H' s' W' P') (hn : ∀ b, G' b → s ≤ b) : St F G H' s' W (P' ++ P) :=
  S.beside (fun b hb _ => hk b hb) hs S' fun b _ hg _ => hn b hg
/-- A run turns no more than it may. -/
theorem wp_frame {α : Type} {m : AX α} {Q : α → AH → Nat → Prop} (hm : LS m) (w : Wp F G m H s (fun v H' s' => (∀ b, b < s → ¬ G b → H' b = H b) → Q v H' s')) : Wp F G m H s Q := by
  obtain ⟨o, e, hD, hW, hQ⟩ := w
  refine ⟨o, e, hD, hW, hQ fun b hb hg => (hm.loc _ _ _ e).keep b ?_⟩
  rintro (h | h)
  · exact hg (hW b h)
  · omega
section
variable {b c : Nat} {cs cs' : List Value} {T : TypeId} {kv kv' : List (Value × Value)}
theorem St.cell (S : St F G H s W (⟨ptr b, CellsO cs T⟩ :: R)) : H b = some (.cells cs T true) ∧ F b ∧ G b ∧ b < s := by
  refine S.ask ?_
  rintro D ⟨b', h1, h2, h3⟩ q
  cases h1
  have := q b ((h3 b).2 rfl)
  exact ⟨h2, this.2.1, this.2.2, this.1⟩
theorem St.set (S : St F G H s W (⟨ptr b, CellsO cs T⟩ :: R)) (cs' : List Value) : St F G (upd H b (some (.cells cs' T true))) s W (⟨ptr b, CellsO cs' T⟩ :: R) := by
  have hb := S.cell.2.2.2
  refine S.turn (Nat.le_refl _) (S.bd.set hb) ?_
  rintro D ⟨b', h1, h2, h3⟩ q
  cases h1
  exact ⟨D, ⟨b, rfl, upd_same _ _ _, h3⟩, fun x hx => ⟨.inl hx, (q x hx).1⟩, fun x _ hx => upd_ne _ _ fun e => hx ((h3 x).2 e)⟩
theorem St.alloc (S : St F G H s W R) (cs : List Value) (T : TypeId) : St F G (upd H s (some (.cells cs T true))) (s + 1) W (⟨ptr s, CellsO cs T⟩ :: R) :=
  S.make (Nat.le_succ _) S.bd.new (fun x hx => upd_ne _ _ (by omega)) ⟨fun x => x = s, ⟨s, rfl, upd_same _ _ _, fun _ => Iff.rfl⟩, fun x hx => by omega⟩
theorem St.mget (S : St F G H s W (⟨.map (some b), MapO kv⟩ :: R)) : H b = some (.map kv) ∧ F b ∧ G b ∧ b < s := by
  refine S.ask ?_
  rintro D ⟨b', h1, h2, h3⟩ q
  cases h1
  have := q b ((h3 b).2 rfl)
  exact ⟨h2, this.2.1, this.2.2, this.1⟩
theorem St.mset (S : St F G H s W (⟨.map (some b), MapO kv⟩ :: R)) (kv' : List (Value × Value)) : St F G (upd H b (some (.map kv'))) s W (⟨.map (some b), MapO kv'⟩ :: R) := by
  have hb := S.mget.2.2.2
  refine S.turn (Nat.le_refl _) (S.bd.set hb) ?_
  rintro D ⟨b', h1, h2, h3⟩ q
  cases h1
  exact ⟨D, ⟨b, rfl, upd_same _ _ _, h3⟩, fun x hx => ⟨.inl hx, (q x hx).1⟩, fun x _ hx => upd_ne _ _ fun e => hx ((h3 x).2 e)⟩
theorem St.mnew (S : St F G H s W R) (kv : List (Value × Value)) : St F G (upd H s (some (.map kv))) (s + 1) W (⟨.map (some s), MapO kv⟩ :: R) :=
  S.make (Nat.le_succ _) S.bd.new (fun x hx => upd_ne _ _ (by omega)) ⟨fun x => x = s, ⟨s, rfl, upd_same _ _ _, fun _ => Iff.rfl⟩, fun x hx => by omega⟩
/-- Two blocks of one's own are two. -/
theorem St.ne {cs2 : List Value} {T2 : TypeId} (S : St F G H s W (⟨ptr b, CellsO cs T⟩ :: R)) {R' : List Own} [h : Look R (ptr c) (CellsO cs2 T2) R'] : b ≠ c := by
  obtain ⟨D, ⟨D1, D2, a, e, ⟨b', h1, h2, h3⟩, d⟩, q⟩ := S.hold
  obtain ⟨E1, E2, a', e', ⟨c', g1, g2, g3⟩, d'⟩ := d.perm h.perm
  dsimp only at h1 g1
  cases h1; cases g1
  rintro rfl
  exact a b ((h3 b).2 rfl) ((e' b).2 (.inl ((g3 b).2 rfl)))
end
section
variable {T e : TypeId} {n y : Nat} {v w : Value} {rows news : List (List Value)}
theorem St.rlen (S : St F G H s W (⟨v, RowsO T n rows⟩ :: R)) : ∃ a, v = .slice a rows.length rows.length ∧ (a = none → rows = []) := by
  refine S.ask ?_
  rintro D ⟨L, h, _⟩ _
  exact h.len
theorem St.rsl (S : St F G H s W (⟨v, RowsO T n rows⟩ :: R)) : ∃ a l m, v = .slice a l m := by
  obtain ⟨a, rfl, _⟩ := S.rlen
  exact ⟨_, _, _, rfl⟩
theorem St.rln (S : St F G H s W (⟨v, RowsO T n rows⟩ :: R)) : ∃ a, v = .slice a rows.length rows.length := by
  obtain ⟨a, h, _⟩ := S.rlen
  exact ⟨a, h⟩
/-- A row of a slice. -/
theorem St.row {a : Option Addr} {l m : Nat} (S : St F G H s W (⟨.slice a l m, RowsO T n rows⟩ :: R)) {i : Nat} (hi : i < rows.length) : ∃ d o cs, a = some ⟨d, o, none⟩ ∧ H d = some (.cells cs T true) ∧ F d ∧ G d ∧ d < s ∧ o + i * n + n ≤ cs.length ∧ (cs.drop (o + i * n)).take n = rows[i] := by
  refine S.ask ?_
  rintro D ⟨L, h, hD⟩ q
  obtain ⟨d, o, cs, h1, h2, h3, h4, h5⟩ := h.at hi
  have := q d ((hD d).2 (by rw [h2]; simp))
  cases h1
  exact ⟨d, o, cs, rfl, h3, this.2.1, this.2.2, this.1, h4, h5⟩
/-- The one cell of a row. -/
theorem row_one {cs : List Value} {x : Value} {k : Nat} (h : (cs.drop k).take 1 = [x]) : cs[k]? = some x := by
  have := congrArg (fun l => l[0]?) h
  simpa using this
theorem St.nilr (S : St F G H s W R) (T : TypeId) (n : Nat) : St F G H s W (⟨nilS, RowsO T n []⟩ :: R) :=
  S.make (Nat.le_refl _) S.bd (fun _ _ => rfl) ⟨fun _ => False, ⟨[], SlAt.nil _ _ _, by simp⟩, fun _ h => h.elim⟩
/-- A new block of rows. -/
theorem St.rnew (S : St F G H s W R) {cs : List Value} (rows : List (List Value)) (hc : cs = rows.flatten) (hr : ∀ r, r ∈ rows → r.length = n) : St F G (upd H s (some (.cells cs T true))) (s + 1) W (⟨.slice (some ⟨s, 0, none⟩) rows.length rows.length, RowsO T n rows⟩ :: R) := by
  subst hc
  exact S.make (Nat.le_succ _) S.bd.new (fun x hx => upd_ne _ _ (by omega)) ⟨fun x => x = s, ⟨[s], SlAt.made hr (upd_same _ _ _), by simp⟩, fun x hx => by omega⟩
theorem St.rnewN (S : St F G H s W R) {cs : List Value} (rows : List (List Value)) (N : Nat) (hc : cs = rows.flatten) (hr : ∀ r, r ∈ rows → r.length = n) (hN : rows.length = N) : St F G (upd H s (some (.cells cs T true))) (s + 1) W (⟨.slice (some ⟨s, 0, none⟩) N N, RowsO T n rows⟩ :: R) := by
  subst hN
  exact S.rnew rows hc hr
/-- Rows are put behind others. -/
theorem St.append {P' : Program} {Q : Value → AH → Nat → Prop} (S : St F G H s W (⟨v, RowsO e n rows⟩ :: ⟨w, RowsO e n news⟩ :: R)) (hi : apInfo P' T = some (e, n, y)) (hb : (rows.length + news.length) * y ≤ 140737488355328 ∧ rows.length + news.length ≤ 9223372036854775807)
    (hq : ∀ H' s' a l m, St F G H' s' W (⟨.slice a l m, RowsO e n (rows ++ news)⟩ :: ⟨w, RowsO e n news⟩ :: R) → Q (.slice a l m) H' s') : Wp F G (aAppend P' T T v w) H s Q := by
  obtain ⟨D, ⟨D1, D2, a, q1, ⟨L, hL, hD1⟩, E1, E2, a2, q2, ⟨M, hM, hE1⟩, d⟩, q⟩ := S.hold
  have own : ∀ b, b ∈ L → b < s ∧ F b ∧ G b := fun b hb => by have := q b ((q1 b).2 (.inl ((hD1 b).2 hb))); exact ⟨this.1, this.2.1, this.2.2.1⟩
  have ownM : ∀ b, b ∈ M → b < s ∧ F b ∧ G b := fun b hb => by have := q b ((q1 b).2 (.inr ((q2 b).2 (.inl ((hE1 b).2 hb))))); exact ⟨this.1, this.2.1, this.2.2.1⟩
  refine wp_bd (ls_aAppend _ _ _ _) S.bd ?_
  refine SlAt.append hL hM hi (fun b hb => (own b hb).2) (fun b hb => (ownM b hb).2.1) (fun b hb => (own b hb).1) hb fun H' s' v' L' f h hl hv hu hbd => ?_
  suffices S' : St F G H' s' W (⟨v', RowsO e n (rows ++ news)⟩ :: ⟨w, RowsO e n news⟩ :: R) from by
    obtain ⟨a, l, m, rfl⟩ := S'.rsl
    exact hq H' s' a l m S'
  have own3 : ∀ b, b ∈ L → ¬ W.Z b := fun b hb => (q b ((q1 b).2 (.inl ((hD1 b).2 hb)))).2.2.2
  have hne : ∀ b, D2 b → b < s ∧ b ∉ L := fun b hb => ⟨(q b ((q1 b).2 (.inr hb))).1, fun hm => a b ((hD1 b).2 hm) hb⟩
  have keep : ∀ b, D2 b → H' b = H b := fun b hb => f.keep b (hne b hb).1 (hne b hb).2
  refine ⟨hbd, S.new.up hu, fun x hx => ?_, fun x => x ∈ L' ∨ D2 x, ⟨fun x => x ∈ L', D2, fun x hx hy => ?_, fun x => Iff.rfl, ⟨L', h, fun x => Iff.rfl⟩, E1, E2, a2, q2, ⟨M, hM.keep fun b hb => keep b ((q2 b).2 (.inl ((hE1 b).2 hb))), hE1⟩, d.loc fun b hb => keep b ((q2 b).2 (.inr hb))⟩, fun x hx => ?_⟩
  · have h0 := S.froz x hx
    exact ⟨by omega, h0.2.1, (f.keep x h0.1 fun hm => own3 x hm hx).trans h0.2.2⟩
  · rcases (hl x hx).1 with h | h
    · exact (hne x hy).2 h
    · have := (hne x hy).1; omega
  · rcases hx with hx | hx
    · have h2 := hl x hx
      rcases h2.1 with h3 | h3
      · have := own x h3; exact ⟨by omega, this.2.1, this.2.2, own3 x h3⟩
      · refine ⟨?_, (S.new x h3).1, (S.new x h3).2, fun hz => by have := (S.froz x hz).1; omega⟩
        rcases h2.2 with h4 | h4
        · have := (own x h4).1; omega
        · exact h4
    · have := q x ((q1 x).2 (.inr hx)); exact ⟨by omega, this.2⟩
end
end
end Go.Proofs.YtkabaecoamilnaaGreatDoor
