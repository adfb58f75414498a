/-
  A machine of blocks by plain numbers: what a run reads and writes; a run sees no more than what it reads.
  An executor of the program's code over blocks by plain numbers.
  How the executor's blocks lie in the model's world: values, worlds, up to a renaming of blocks; what reads, stores and new blocks keep.
  Worlds: the executor's blocks in the model's heap; what a store, a new block, an append leave.
  Each operation of the executor is the model's.
  Each operation of the executor is the model's: values, slices, fields.
  Each operation of the executor is the model's: appends, copies, fields, places.
  Each operation of the executor is the model's: copies, maps, fields, places, values.
  Each operation of the executor is the model's: maps, copies.
-/
import Derived.Orders
import Derived.Laws.Tables
import Derived.Laws.CopyRow
import Derived.Laws.Cells
import Derived.Laws.Append
import Derived.Laws.AppendOwn
import Derived.Test.YtlkceignfhnpoaaGreatDoorCAxE
import Derived.Below
set_option linter.unusedVariables false
set_option linter.unusedSimpArgs false
namespace Go.Proofs.YtlkceignfhnpoaaGreatDoor
open Go

/-- A block: cells (may they be written?), or a map's entries. -/
inductive AB where
  | cells (cs : List Value) (T : TypeId) (wr : Bool)
  | map (kv : List (Value × Value))
abbrev AH := Nat → Option AB
def upd (H : AH) (b : Nat) (x : Option AB) : AH := fun k => if k = b then x else H k
theorem upd_same (H : AH) (b : Nat) (x : Option AB) : upd H b x b = x := by simp [upd]
theorem upd_ne (H : AH) {b k : Nat} (x : Option AB) (h : k ≠ b) : upd H b x k = H k := by simp [upd, h]
/-- What a run gives: its value, the blocks, the next number; which elder blocks it read or wrote (D), which it wrote (W). -/
structure Out (α : Type) where
  val : α
  H : AH
  s : Nat
  D : List Nat
  W : List Nat
abbrev AX (α : Type) := AH → Nat → Option (Out α)
namespace AX
variable {α β γ : Type}
def ret (a : α) : AX α := fun H s => some ⟨a, H, s, [], []⟩
def fail : AX α := fun _ _ => none
def bind (m : AX α) (f : α → AX β) : AX β := fun H s =>
  match m H s with
  | none => none
  | some o => match f o.val o.H o.s with
    | none => none
    | some p => some ⟨p.val, p.H, p.s, o.D ++ p.D, o.W ++ p.W⟩
def ofOpt (x : Option α) : AX α := fun H s => match x with | none => none | some a => some ⟨a, H, s, [], []⟩
def get (b : Nat) : AX AB := fun H s => match H b with | none => none | some x => some ⟨x, H, s, [b], []⟩
def set (b : Nat) (x : Option AB) : AX Unit := fun H s => some ⟨(), upd H b x, s, [b], [b]⟩
def new (x : AB) : AX Nat := fun H s => some ⟨s, upd H s (some x), s + 1, [], []⟩
end AX
/-- The places that a run reads or makes; those that it writes or makes. -/
def Out.dom {α : Type} (o : Out α) (s b : Nat) : Prop := b ∈ o.D ∨ (s ≤ b ∧ b < o.s)
def Out.wr {α : Type} (o : Out α) (s b : Nat) : Prop := b ∈ o.W ∨ (s ≤ b ∧ b < o.s)
theorem no_wr {α : Type} {o : Out α} {s : Nat} (hW : o.W = []) (hs : o.s = s) (b : Nat) : ¬ o.wr s b := by
  rintro (h | h)
  · rw [hW] at h; cases h
  · omega
/-- A run turns no more than it says, and sees no more than it says. -/
structure Local1 {α : Type} (m : AX α) (H : AH) (s : Nat) (o : Out α) : Prop where
  up : s ≤ o.s
  sub : ∀ b, b ∈ o.W → b ∈ o.D
  keep : ∀ b, ¬ o.wr s b → o.H b = H b
  sees : ∀ H2 : AH, (∀ b, o.dom s b → H2 b = H b) → ∃ o2, m H2 s = some o2 ∧ o2.val = o.val ∧ o2.s = o.s ∧ o2.D = o.D ∧ o2.W = o.W ∧ (∀ b, o.wr s b → o2.H b = o.H b) ∧ ∀ b, ¬ o.wr s b → o2.H b = H2 b
def Local {α : Type} (m : AX α) : Prop := ∀ H s o, m H s = some o → Local1 m H s o
section
variable {α β : Type}
theorem Local.ret (a : α) : Local (AX.ret a) := by
  intro H s o h
  simp only [AX.ret, Option.some.injEq] at h
  subst h
  exact ⟨Nat.le_refl _, fun b h => (by cases h), fun b _ => rfl, fun H2 _ => ⟨_, rfl, rfl, rfl, rfl, rfl, fun b hb => absurd hb (no_wr rfl rfl b), fun b _ => rfl⟩⟩
theorem Local.fail : Local (AX.fail : AX α) := by
  intro H s o h; cases h
theorem Local.ofOpt (x : Option α) : Local (AX.ofOpt x) := by
  cases x with
  | none => intro H s o h; simp [AX.ofOpt] at h
  | some a => exact Local.ret a
theorem Local.get (b : Nat) : Local (AX.get b) := by
  intro H s o h
  unfold AX.get at h
  cases hb : H b with
  | none => rw [hb] at h; cases h
  | some x =>
    rw [hb] at h
    simp only [Option.some.injEq] at h
    subst h
    refine ⟨Nat.le_refl _, fun b h => (by cases h), fun b _ => rfl, fun H2 h2 => ⟨⟨x, H2, s, [b], []⟩, ?_, rfl, rfl, rfl, rfl, fun k hk => absurd hk (no_wr rfl rfl k), fun k _ => rfl⟩⟩
    have := h2 b (.inl (by simp))
    simp [AX.get, this, hb]
theorem Local.set (b : Nat) (x : Option AB) : Local (AX.set b x) := by
  intro H s o h
  simp only [AX.set, Option.some.injEq] at h
  subst h
  refine ⟨Nat.le_refl _, fun k h => h, fun k hk => upd_ne _ _ (fun e => hk (.inl (by simp [e]))), fun H2 _ => ⟨_, rfl, rfl, rfl, rfl, rfl, fun k hk => ?_, fun k hk => upd_ne _ _ (fun e => hk (.inl (by simp [e])))⟩⟩
  rcases hk with h | h
  · simp at h; subst h; simp [upd_same]
  · simp at h; omega
theorem Local.new (x : AB) : Local (AX.new x) := by
  intro H s o h
  simp only [AX.new, Option.some.injEq] at h
  subst h
  refine ⟨Nat.le_succ _, fun k h => (by cases h), fun k hk => upd_ne _ _ (fun e => hk (.inr (by simp [e]))), fun H2 _ => ⟨_, rfl, rfl, rfl, rfl, rfl, fun k hk => ?_, fun k hk => upd_ne _ _ (fun e => hk (.inr (by simp [e])))⟩⟩
  rcases hk with h | h
  · cases h
  · simp at h
    have : k = s := by omega
    subst this; simp [upd_same]
theorem AX.bind_some {m : AX α} {f : α → AX β} {H : AH} {s : Nat} {q : Out β} (h : AX.bind m f H s = some q) : ∃ o p, m H s = some o ∧ f o.val o.H o.s = some p ∧ q = ⟨p.val, p.H, p.s, o.D ++ p.D, o.W ++ p.W⟩ := by
  unfold AX.bind at h
  cases h1 : m H s with
  | none => rw [h1] at h; cases h
  | some o =>
    rw [h1] at h
    simp only at h
    cases h2 : f o.val o.H o.s with
    | none => rw [h2] at h; cases h
    | some p =>
      rw [h2] at h
      simp only [Option.some.injEq] at h
      exact ⟨o, p, rfl, h2, h.symm⟩
/-- Two runs, one behind the other. -/
theorem Local1.seq {m : AX α} {f : α → AX β} {H : AH} {s : Nat} {o : Out α} {p : Out β} (h1 : Local1 m H s o) (h2 : Local1 (f o.val) o.H o.s p) :
    s ≤ p.s ∧ (∀ b, b ∈ o.W ++ p.W → b ∈ o.D ++ p.D) ∧ (∀ b, ¬ (b ∈ o.W ++ p.W ∨ (s ≤ b ∧ b < p.s)) → p.H b = H b) ∧
    ∀ H2 : AH, (∀ b, (b ∈ o.D ++ p.D ∨ (s ≤ b ∧ b < p.s)) → H2 b = H b) → ∃ o2 p2, m H2 s = some o2 ∧ f o2.val o2.H o2.s = some p2 ∧ o2.val = o.val ∧ p2.val = p.val ∧ o2.s = o.s ∧ p2.s = p.s ∧ o2.D = o.D ∧ o2.W = o.W ∧ p2.D = p.D ∧ p2.W = p.W ∧
      (∀ b, (b ∈ o.W ++ p.W ∨ (s ≤ b ∧ b < p.s)) → p2.H b = p.H b) ∧ ∀ b, ¬ (b ∈ o.W ++ p.W ∨ (s ≤ b ∧ b < p.s)) → p2.H b = H2 b := by
  have u1 := h1.up
  have u2 := h2.up
  refine ⟨Nat.le_trans u1 u2, fun b hb => ?_, fun b hb => ?_, fun H2 hH => ?_⟩
  · rcases List.mem_append.1 hb with h | h
    · exact List.mem_append_left _ (h1.sub b h)
    · exact List.mem_append_right _ (h2.sub b h)
  · rw [h2.keep b (fun hw => hb ?_), h1.keep b (fun hw => hb ?_)]
    · rcases hw with h | h
      · exact .inl (List.mem_append_left _ h)
      · exact .inr ⟨h.1, by omega⟩
    · rcases hw with h | h
      · exact .inl (List.mem_append_right _ h)
      · exact .inr ⟨by omega, h.2⟩
  · obtain ⟨o2, e1, v1, s1, d1, w1, k1, k1'⟩ := h1.sees H2 (fun b hb => hH b (by
      rcases hb with h | h
      · exact .inl (List.mem_append_left _ h)
      · exact .inr ⟨h.1, by omega⟩))
    obtain ⟨p2, e2, v2, s2, d2, w2, k2, k2'⟩ := h2.sees o2.H (fun b hb => by
      by_cases hw : o.wr s b
      · exact k1 b hw
      · rw [k1' b hw, h1.keep b hw]
        refine hH b ?_
        rcases hb with h | h
        · exact .inl (List.mem_append_right _ h)
        · exact .inr ⟨by omega, h.2⟩)
    refine ⟨o2, p2, e1, by rw [v1, s1]; exact e2, v1, v2, s1, s2, d1, w1, d2, w2, fun b hb => ?_, fun b hb => ?_⟩
    · by_cases hw : p.wr o.s b
      · exact k2 b hw
      · rw [k2' b hw, h2.keep b hw]
        refine k1 b ?_
        rcases hb with h | h
        · rcases List.mem_append.1 h with h | h
          · exact .inl h
          · exact absurd (Or.inl h) hw
        · by_cases h3 : b < o.s
          · exact .inr ⟨h.1, h3⟩
          · exact absurd (Or.inr ⟨by omega, h.2⟩) hw
    · rw [k2' b (fun hw => hb ?_), k1' b (fun hw => hb ?_)]
      · rcases hw with h | h
        · exact .inl (List.mem_append_left _ h)
        · exact .inr ⟨h.1, by omega⟩
      · rcases hw with h | h
        · exact .inl (List.mem_append_right _ h)
        · exact .inr ⟨by omega, h.2⟩
theorem Local.bind {m : AX α} {f : α → AX β} (hm : Local m) (hf : ∀ a, Local (f a)) : Local (AX.bind m f) := by
  intro H s q h
  obtain ⟨o, p, e1, e2, rfl⟩ := AX.bind_some h
  obtain ⟨a1, a2, a3, a4⟩ := Local1.seq (hm H s o e1) (hf _ _ _ p e2)
  refine ⟨a1, a2, a3, fun H2 hH => ?_⟩
  obtain ⟨o2, p2, e3, e4, v1, v2, s1, s2, d1, w1, d2, w2, k1, k2⟩ := a4 H2 hH
  exact ⟨⟨p2.val, p2.H, p2.s, o2.D ++ p2.D, o2.W ++ p2.W⟩, by simp [AX.bind, e3, e4], v2, s2, by simp [d1, d2], by simp [w1, w2], k1, k2⟩
theorem Local.ite {c : Prop} [Decidable c] {m m' : AX α} (h : Local m) (h' : Local m') : Local (if c then m else m') := by split <;> assumption
end
end Go.Proofs.YtlkceignfhnpoaaGreatDoor
namespace Go.Proofs.YtlkceignfhnpoaaGreatDoor
open Go

section
variable (P : Program)
/-- What a piece of meaning gives that asks the program alone. -/
def stat {α : Type} : Sem α → Option α
  | .pure a => some a
  | .program k => stat (k P)
  | _ => none
def oneV : Value → Bool
  | .agg _ | .tuple _ => false
  | _ => true
def scalar : Value → Bool
  | .bool _ | .int _ _ | .string _ => true
  | _ => false
/-- A value without a place in it. -/
def flat : Value → Bool
  | .agg cs => cs.toList.all scalar
  | v => scalar v
/-- A value of one cell that holds no place. -/
def simpleV : Value → Bool
  | .bool _ | .int _ _ | .string _ | .pointer none | .map none | .nilFunc | .nilIface => true
  | .slice none 0 0 => true
  | _ => false
def zeroOf (T : TypeId) : Option Value := match (P.info? T).bind (·.zero) with | some z => if z.cells.toList.all simpleV then some z else none | none => none
def szOf (T : TypeId) : Option Nat := (P.info? T).map (·.size)
def bytesOfT (T : TypeId) : Option Nat := (P.info? T).map (·.bytes)
def aggB (T : TypeId) : Option Bool := (P.underlying T).map fun | .struct _ | .array _ _ => true | _ => false
def elemT (T : TypeId) : Option TypeId := match P.underlying T with | some (.slice e) => some e | _ => none
/-- Cells of a zero value, n of them. -/
def zeroRow (z : Value) (n : Nat) : List Value := ((Array.range n).map (fun i => (if n = 0 then #[] else z.cells)[i % (if n = 0 then #[] else z.cells).size]!)).toList
def setL : List Value → Nat → List Value → List Value
  | cs, _, [] => cs
  | cs, o, v :: r => setL (cs.set o v) (o + 1) r
end
namespace AX
def cells (b : Nat) : AX (List Value × TypeId × Bool) := bind (get b) fun x => match x with | .cells cs T wr => ret (cs, T, wr) | .map _ => fail
def entries (b : Nat) : AX (List (Value × Value)) := bind (get b) fun x => match x with | .map kv => ret kv | .cells .. => fail
def readN (b o n : Nat) : AX (List Value) := bind (cells b) fun x => if o + n ≤ x.1.length then ret ((x.1.drop o).take n) else fail
def newC (T : TypeId) (cs : List Value) : AX Value := if cs.all oneV then bind (new (.cells cs T true)) fun b => ret (.pointer (some ⟨b, 0, none⟩)) else fail
end AX
open AX
section
variable (P : Program)
def aLoad (T : TypeId) (v : Value) : AX Value :=
  match v with
  | .pointer (some ⟨b, o, none⟩) =>
    match aggB P T with
    | some true => match szOf P T with
      | some n => bind (readN b o n) fun vs => ret (.agg vs.toArray)
      | none => fail
    | some false => bind (cells b) fun x => ofOpt x.1[o]?
    | none => fail
  | _ => fail
def aStore (T : TypeId) (p v : Value) : AX Value :=
  match p with
  | .pointer (some ⟨b, o, none⟩) =>
    if szOf P T = some v.cells.size ∧ v.cells.toList.all oneV = true then
      bind (cells b) fun x => if x.2.2 = true ∧ o + v.cells.size ≤ x.1.length then bind (set b (some (.cells (setL x.1 o v.cells.toList) x.2.1 true))) fun _ => ret undef else fail
    else fail
  | _ => fail
def aBuildSlice (T : TypeId) (len : Nat) (parts : Array (Nat × Value)) : AX Value :=
  match elemT P T with
  | some e => match szOf P e, zeroOf P e with
    | some size, some z =>
      if len * size ≤ 2 ^ 24 ∧ len ≤ 2 ^ 24 ∧ (zeroRow z (len * size)).all simpleV = true then
        match Instr.fill (fun i => some (i * size, size)) (zeroRow z (len * size)).toArray parts.toList with
        | some cs => if cs.toList.all oneV then bind (new (.cells cs.toList e true)) fun b => ret (.slice (some ⟨b, 0, none⟩) len len) else fail
        | none => fail
      else fail
    | _, _ => fail
  | none => fail
def aNilCheck (v : Value) : AX Value :=
  match v with
  | .pointer (some a) => ret (.pointer (some a))
  | .func (.func f) fs cs => ret (.func (.func f) fs cs)
  | _ => fail
def isPtrT (T : TypeId) : Bool := match P.underlying T with | some (.pointer _) => true | _ => false
/-- What a piece of meaning over values without places gives. -/
def ofStat (m : Sem Value) : AX Value := match stat P m with | some v => if flat v then ret v else fail | none => fail
def aBin (op : BinOp) (T : TypeId) (ox oy : Operand) (x y : Value) : AX Value :=
  if flat x && flat y then ofStat P (do eqGuard op T ox oy x y; binOp op T x y)
  else match op, x, y with
    | .eql, .pointer a, .pointer b => if isPtrT P T && (a.isNone || b.isNone) then ret (.bool (a.isNone && b.isNone)) else fail
    | .neq, .pointer a, .pointer b => if isPtrT P T && (a.isNone || b.isNone) then ret (.bool (!(a.isNone && b.isNone))) else fail
    | .eql, .slice a _ _, .slice b _ _ => if (elemT P T).isSome && (a.isNone || b.isNone) then ret (.bool (a.isNone && b.isNone)) else fail
    | .neq, .slice a _ _, .slice b _ _ => if (elemT P T).isSome && (a.isNone || b.isNone) then ret (.bool (!(a.isNone && b.isNone))) else fail
    | _, _, _ => fail
def aMakeSlice (T : TypeId) (l c : Value) : AX Value :=
  match l, c with
  | .int _ n, .int _ m =>
    match elemT P T with
    | some e => match szOf P e, zeroOf P e, bytesOfT P e with
      | some size, some z, some by_ =>
        if n = m ∧ 0 ≤ n ∧ IntKind.i64.wrap n = n ∧ (by_ : Int) * n ≤ 2 ^ 47 then
          if (zeroRow z (n.toNat * size)).all simpleV then bind (new (.cells (zeroRow z (n.toNat * size)) e true)) fun b => ret (.slice (some ⟨b, 0, none⟩) n.toNat n.toNat) else fail
        else fail
      | _, _, _ => fail
    | none => fail
  | _, _ => fail
def flatO : Option Value → Bool
  | none => true
  | some v => flat v
def intO (v : Option Value) (d : Nat) : Option Int := match v with | none => some d | some (.int _ n) => some n | _ => none
def aSlice (T : TypeId) (x : Value) (lo hi mx : Option Value) : AX Value :=
  match mx with
  | some _ => fail
  | none => match x with
    | .string s => match P.underlying T, intO lo 0, intO hi s.size with
      | some .string, some l, some h => if 0 ≤ l ∧ l ≤ h ∧ h ≤ s.size then ret (.string (s.extract l.toNat h.toNat)) else fail
      | _, _, _ => fail
    | .slice a len cap =>
      match elemT P T with
      | some e => match szOf P e, intO lo 0, intO hi len with
        | some size, some l, some h =>
          if 0 ≤ l ∧ l ≤ h ∧ h ≤ len then
            match a with
            | none => ret (.slice none 0 0)
            | some ⟨b, o, none⟩ => bind (cells b) fun x => if szOf P x.2.1 = some size then ret (.slice (some ⟨b, o + l.toNat * size, none⟩) (h.toNat - l.toNat) (h.toNat - l.toNat)) else fail
            | _ => fail
          else fail
        | _, _, _ => fail
      | none => fail
    | _ => fail
def fieldOf (T : TypeId) (i : Nat) : Option Field := match P.underlying T with | some (.struct fs) => fs[i]? | _ => none
def aFieldAddr (T : TypeId) (x : Value) (i : Nat) : AX Value :=
  match fieldOf P T i with
  | some f => match x with
    | .pointer (some ⟨b, o, none⟩) => if szOf P f.type = some 0 ∨ szOf P f.type = none then fail else ret (.pointer (some ⟨b, o + f.offset, none⟩))
    | _ => fail
  | none => fail
def aPart (T : TypeId) (cs : Array Value) (off : Nat) : Option Value :=
  match aggB P T with
  | some true => (szOf P T).map fun n => .agg (cs.extract off (off + n))
  | some false => cs[off]?
  | none => none
def aField (T : TypeId) (x : Value) (i : Nat) : AX Value :=
  match fieldOf P T i with
  | some f => match x with
    | .agg cs => ofOpt (aPart P f.type cs f.offset)
    | _ => fail
  | none => fail
def aIndexAddr (T : TypeId) (x i : Value) : AX Value :=
  match i with
  | .int _ n =>
    match P.underlying T, x with
    | some (.array len e), .pointer (some ⟨b, o, none⟩) => match szOf P e with
      | some size => if 0 ≤ n ∧ n < len then ret (.pointer (some ⟨b, o + n.toNat * size, none⟩)) else fail
      | none => fail
    | some (.slice e), .slice (some ⟨b, o, none⟩) len _ => match szOf P e with
      | some size => if 0 ≤ n ∧ n < len then ret (.pointer (some ⟨b, o + n.toNat * size, none⟩)) else fail
      | none => fail
    | _, _ => fail
  | _ => fail
def aIndex (T : TypeId) (x i : Value) : AX Value :=
  match x, i with
  | .agg cs, .int _ n => match P.underlying T with
    | some (.array len e) => match szOf P e with
      | some size => if 0 ≤ n ∧ n < len then ofOpt (aPart P e cs (n.toNat * size)) else fail
      | none => fail
    | _ => fail
  | .string s, .int k n => ofStat P (Instr.index T (.string s) (.int k n))
  | _, _ => fail
/-- Keys: numbers, or two numbers. -/
def keyOK (T : TypeId) (v : Value) : Bool :=
  match P.underlying T, v with
  | some (.int q), .int q' _ => q = q'
  | some (.array len e), .agg cs => match P.underlying e, cs.toList with
    | some (.int q), [.int q1 _, .int q2 _] => len == 2 && q = q1 && q = q2 && szOf P e = some 1
    | _, _ => false
  | _, _ => false
def eqK : Value → Value → Bool
  | .int _ a, .int _ b => a == b
  | .agg cs, .agg ds => match cs.toList, ds.toList with
    | [.int _ a, .int _ b], [.int _ c, .int _ d] => a == c && b == d
    | _, _ => false
  | _, _ => false
def findK (k : Value) : List (Value × Value) → Option Value
  | [] => none
  | p :: r => if eqK k p.1 then some p.2 else findK k r
def putK (k v : Value) : List (Value × Value) → List (Value × Value)
  | [] => [(k, v)]
  | p :: r => if eqK k p.1 then (k, v) :: r else p :: putK k v r
def delK (k : Value) : List (Value × Value) → List (Value × Value)
  | [] => []
  | p :: r => if eqK k p.1 then r else p :: delK k r
def mapT (T : TypeId) : Option (TypeId × TypeId) := match P.underlying T with | some (.map k e) => some (k, e) | _ => none
def aLookup (T : TypeId) (m k : Value) (ok : Bool) : AX Value :=
  match mapT P T with
  | some (kt, et) => if keyOK P kt k then match m with
    | .map none => match zeroOf P et with
      | some z => ret (if ok then .tuple #[z, .bool false] else z)
      | none => fail
    | .map (some b) => bind (entries b) fun kv => if kv.all (fun p => keyOK P kt p.1) then match findK k kv with
        | some v => ret (if ok then .tuple #[v, .bool true] else v)
        | none => match zeroOf P et with
          | some z => ret (if ok then .tuple #[z, .bool false] else z)
          | none => fail
      else fail
    | _ => fail
    else fail
  | none => fail
def aMapUpdate (T : TypeId) (m k v : Value) : AX Value :=
  match mapT P T with
  | some (kt, et) => if keyOK P kt k then match m with
    | .map (some b) => bind (entries b) fun kv => if kv.all (fun p => keyOK P kt p.1) then bind (set b (some (.map (putK k v kv)))) fun _ => ret undef else fail
    | _ => fail
    else fail
  | none => fail
def aDelete (T : TypeId) (m k : Value) : AX Value :=
  match mapT P T with
  | some (kt, et) => if keyOK P kt k then match m with
    | .map (some b) => bind (entries b) fun kv => if kv.all (fun p => keyOK P kt p.1) then bind (set b (some (.map (delK k kv)))) fun _ => ret (.tuple #[]) else fail
    | _ => fail
    else fail
  | none => fail
def aLen (T : TypeId) (v : Value) : AX Value :=
  match P.underlying T, v with
  | some .string, .string s => ret (.int .i64 s.size)
  | some (.slice _), .slice _ n _ => ret (.int .i64 n)
  | some (.array n _), .agg _ => ret (.int .i64 n)
  | some (.map _ _), .map none => ret (.int .i64 0)
  | some (.map _ _), .map (some b) => bind (entries b) fun kv => ret (.int .i64 kv.length)
  | _, _ => fail
/-- The cells of a slice's first n elements. -/
def sliceCells (size : Nat) (x : Value) : AX (List Value) :=
  match x with
  | .slice none _ _ => ret []
  | .slice (some ⟨b, o, none⟩) n _ => if n = 0 then ret [] else readN b o (n * size)
  | _ => fail
/-- A builder's type (a type that is none, where a seat has no builder). -/
def tBld : TypeId := 68
/-- Types whose rows are not appended to in place. -/
def oddT (e : TypeId) : Bool := e == tBld || e == 5
def aAppend (T T2 : TypeId) (s x : Value) : AX Value :=
  match elemT P T with
  | some e => match szOf P e, zeroOf P e, bytesOfT P e, s, x with
    | some size, some z, some by_, .slice base n cap, .slice bx m cx =>
      if T2 ≠ T ∨ oddT e = true then fail
      else if m = 0 then ret (.slice base n cap)
      else if (n + m) * by_ ≤ 140737488355328 ∧ n + m ≤ 9223372036854775807 ∧ z.cells.size = size then
        bind (sliceCells size (.slice bx m cx)) fun news =>
        match base with
        | none => if n = 0 then bind (new (.cells news e true)) fun b => ret (.slice (some ⟨b, 0, none⟩) m m) else fail
        | some ⟨b, o, none⟩ => bind (cells b) fun y =>
          if y.2.2 = true ∧ y.2.1 = e ∧ o + n * size ≤ y.1.length then
            bind (set b none) fun _ => bind (new (.cells ((y.1.drop o).take (n * size) ++ news) e true)) fun b2 => ret (.slice (some ⟨b2, 0, none⟩) (n + m) (n + m))
          else fail
        | _ => fail
      else fail
    | _, _, _, _, _ => fail
  | _ => fail
def aCopy (T : TypeId) (d x : Value) : AX Value :=
  match elemT P T with
  | some e => match szOf P e, d, x with
    | some size, .slice base n cap, .slice bx m cx =>
      if m = 0 ∨ n = 0 then ret (.int .i64 0)
      else if m ≤ n then
        bind (sliceCells size (.slice bx m cx)) fun news =>
        match base with
        | some ⟨b, o, none⟩ => bind (cells b) fun y =>
          if y.2.2 = true ∧ o + news.length ≤ y.1.length then bind (set b (some (.cells (setL y.1 o news) y.2.1 true))) fun _ => ret (.int .i64 m) else fail
        | _ => fail
      else fail
    | _, _, _ => fail
  | none => fail
def aClear (T : TypeId) (x : Value) : AX Value :=
  match elemT P T with
  | some e => match szOf P e, zeroOf P e, x with
    | some size, some z, .slice base n cap =>
      if n = 0 then ret (.tuple #[])
      else match base with
        | some ⟨b, o, none⟩ => bind (cells b) fun y =>
          if y.2.2 = true ∧ o + (Builtin.zeroCells z.cells n).toList.length ≤ y.1.length then bind (set b (some (.cells (setL y.1 o (Builtin.zeroCells z.cells n).toList) y.2.1 true))) fun _ => ret (.tuple #[]) else fail
        | _ => fail
    | _, _, _ => fail
  | none => fail
def aBuiltin (b : Builtin) (ts : Array TypeId) (vs : Array Value) : AX Value :=
  match b, ts.toList, vs.toList with
  | .len, [t], [v] => aLen P t v
  | .append, [t, t2], [s, x] => aAppend P t t2 s x
  | .copy, [t, _], [d, x] => aCopy P t d x
  | .delete, [t, _], [m, k] => aDelete P t m k
  | .clear, [t], [x] => aClear P t x
  | .max, _, l => if l.all flat then ofStat P (Builtin.max_ ts 0 vs) else fail
  | .min, _, l => if l.all flat then ofStat P (Builtin.min_ ts 0 vs) else fail
  | _, _, _ => fail
def Operand.isGlobal : Operand → Bool
  | .global _ => true
  | _ => false
def evalA (tm : Array Value) : Operand → Value
  | .tmp t => tm.getD t undef
  | .const v => v
  | .global g => undef
  | .func f => .func (.func f) #[] #[]
/-- What is called: a function's body, or one that comes in. -/
def callable (f : FuncId) : Bool := match P.funcs[f]? with | some fn => fn.body.isSome && !(fn.name == "runtime.NumGoroutine") | none => false
def constOK (v : Value) : Bool := simpleV v || (match v with | .agg cs => cs.toList.all simpleV | .tuple cs => cs.toList.isEmpty | _ => false)
/-- A constant holds no place. -/
def Operand.okC : Operand → Bool
  | .const v => constOK v
  | .global _ => false
  | _ => true
/-- One operation. -/
def aOp (call : FuncId → Array Value → AX Value) (o : Oper) (tm : Array Value) : AX Value :=
  let ρ := evalA tm
  if o.op.operands.toList.all Operand.okC then
  match o.op with
  | .move x | .assign x => ret (ρ x)
  | .pick c a b => match ρ c with | .bool t => ret (if t then ρ a else ρ b) | _ => fail
  | .alloc e => match zeroOf P e with | some z => newC e z.cells.toList | none => fail
  | .box e x => newC e (ρ x).cells.toList
  | .build t parts => if (zeroOf P t).isSome then ofOpt (stat P (Instr.build t (parts.map fun (i, x) => (i, ρ x)))) else fail
  | .buildSlice t len parts => aBuildSlice P t len (parts.map fun (i, x) => (i, ρ x))
  | .load t a => aLoad P t (ρ a)
  | .store t a x => aStore P t (ρ a) (ρ x)
  | .nilCheck x => aNilCheck (ρ x)
  | .binOp op t x y _ => aBin P op t x y (ρ x) (ρ y)
  | .unOp op _ x => if flat (ρ x) then ofStat P (Op.unary op (ρ x)) else fail
  | .convert src dst x => if flat (ρ x) then ofStat P (convert src dst (ρ x)) else fail
  | .makeFunc fn first captured => match fn with
    | .func f => ret (.func (.func f) (first.map ρ) (captured.map ρ))
    | _ => fail
  | .makeMap t r => match mapT P t, r with
    | some _, none => bind (new (.map [])) fun b => ret (.map (some b))
    | some _, some x => (match ρ x with | .int _ _ => bind (new (.map [])) fun b => ret (.map (some b)) | _ => fail)
    | none, _ => fail
  | .makeSlice t l c => aMakeSlice P t (ρ l) (ρ c)
  | .slice t x lo hi mx => aSlice P t (ρ x) (lo.map ρ) (hi.map ρ) (mx.map ρ)
  | .fieldAddr t x i => aFieldAddr P t (ρ x) i
  | .field t x i => aField P t (ρ x) i
  | .indexAddr t x i => aIndexAddr P t (ρ x) (ρ i)
  | .index t x i => aIndex P t (ρ x) (ρ i)
  | .lookup t m k ok => aLookup P t (ρ m) (ρ k) ok
  | .mapUpdate t m k v => aMapUpdate P t (ρ m) (ρ k) (ρ v)
  | .extract t i => match ρ t with | .tuple vs => ofOpt vs[i]? | _ => fail
  | .call c => match c.callee with
    | .value f => match ρ f with
      | .func (.func g) first captured => if callable P g then call g (first ++ c.args.map ρ ++ captured) else fail
      | _ => fail
    | .builtin b => aBuiltin P b c.argTypes (c.args.map ρ)
    | .invoke .. => fail
  | _ => fail
  else fail
def putA (tm : Array Value) (d : Option Tmp) (v : Value) : Array Value := match d with | some t => tm.setIfInBounds t v | none => tm
/-- What an operation of a region gives (nothing, where its guard is not met). -/
def aVal (call : FuncId → Array Value → AX Value) (ops : Array Oper) (o : Oper) (tm : Array Value) : AX Value :=
  if Region.wanted o (yielded ops tm) then aOp P call o tm else ret undef
def aStep (call : FuncId → Array Value → AX Value) (ops : Array Oper) (o : Oper) (tm : Array Value) : AX (Array Value) := bind (aVal P call ops o tm) fun v => ret (putA tm o.dst v)
/-- What one operation of a region read, wrote and made. -/
structure Foot where
  s : Nat
  s' : Nat
  D : List Nat
  W : List Nat
def aSeq (call : FuncId → Array Value → AX Value) (ops : Array Oper) : List Oper → Array Value → AX (Array Value × List Foot)
  | [], tm => ret (tm, [])
  | o :: r, tm => fun H s => match aStep P call ops o tm H s with
    | none => none
    | some x => match aSeq call ops r x.val x.H x.s with
      | none => none
      | some y => some ⟨(y.val.1, ⟨s, x.s, x.D, x.W⟩ :: y.val.2), y.H, y.s, x.D ++ y.D, x.W ++ y.W⟩
def Foot.calm (f : Foot) : Bool := f.W.isEmpty && f.s == f.s'
def Foot.apart (f g : Foot) : Bool := (f.calm && g.calm) || (f.W.all (fun b => !g.D.contains b) && g.W.all (fun b => !f.D.contains b) && g.D.all (fun b => !(f.s ≤ b && b < f.s')) && f.D.all (fun b => !(g.s ≤ b && b < g.s')))
/-- Of two operations that are not ordered neither touches what the other one turns. -/
def okLog (bits : Array Nat) (log : List Foot) : Bool :=
  (log.zipIdx).all fun g => (log.zipIdx).all fun f => !(f.2 < g.2) || (bits.getD g.2 0).testBit f.2 || f.1.apart g.1
def noSelect : Op → Bool
  | .select .. => false
  | _ => true
/-- A region whose edges lead back, and order whatever meets in a slot. -/
def regionOK (ops : Array Oper) : Bool :=
  let bits := Region.before ops
  ops.toList.zipIdx.all (fun g => g.1.after.toList.all (fun e => !Region.binds .any e || e.on < g.2) && noSelect g.1.op && (match g.1.guard with | none => true | some (j, _) => (bits.getD g.2 0).testBit j)) &&
  ops.toList.zipIdx.all fun g => ops.toList.zipIdx.all fun f => !(f.2 < g.2) || (bits.getD g.2 0).testBit f.2 || Oper.apart ops f.1 g.1
def aRegion (call : FuncId → Array Value → AX Value) (ops : Array Oper) (draw : Bool) (tm : Array Value) : AX (Array Value) :=
  if draw then bind (aSeq P call ops ops.toList tm) fun x => if okLog (Region.before ops) x.2 then ret x.1 else fail
  else bind (aSeq P call ops ops.toList tm) fun x => ret x.1
/-- All regions of a text are as they should be. -/
def codeOK : Code → Bool
  | .region _ ops draw => !draw || regionOK ops
  | .seq a b => codeOK a && codeOK b
  | .cond _ a b => codeOK a && codeOK b
  | .block _ c => codeOK c
  | .loop c => codeOK c
  | .scope c => codeOK c
  | _ => true
inductive AExit where
  | normal
  | exit (id : Nat)
  | ret
def aLoop (body : Array Value → AX (AExit × Array Value)) : Nat → Array Value → AX (AExit × Array Value)
  | 0, _ => fail
  | n + 1, tm => bind (body tm) fun x => match x.1 with
    | .normal => aLoop body n x.2
    | .exit id => ret (.exit id, x.2)
    | .ret => ret (.ret, x.2)
/-- How often a loop may go round. -/
def LF : Nat := 1099511627776
def aCode (call : FuncId → Array Value → AX Value) : Code → Array Value → AX (AExit × Array Value)
  | .skip, tm => ret (.normal, tm)
  | .label _, tm => ret (.normal, tm)
  | .region _ ops draw, tm => bind (aRegion P call ops draw tm) fun x => ret (.normal, x)
  | .seq a b, tm => bind (aCode call a tm) fun x => match x.1 with
    | .normal => aCode call b x.2
    | .exit id => ret (.exit id, x.2)
    | .ret => ret (.ret, x.2)
  | .cond c a b, tm => if Operand.isGlobal c then fail else match evalA tm c with
    | .bool t => if t then aCode call a tm else aCode call b tm
    | _ => fail
  | .block id c, tm => bind (aCode call c tm) fun x => match x.1 with
    | .normal => ret (.normal, x.2)
    | .exit j => if j = id then ret (.normal, x.2) else ret (.exit j, x.2)
    | .ret => ret (.ret, x.2)
  | .loop c, tm => aLoop (aCode call c) LF tm
  | .scope c, tm => aCode call c tm
  | .exit id, tm => ret (.exit id, tm)
  | .ret, tm => ret (.ret, tm)
  | _, _ => fail
def aResList (tm : Array Value) : List ResultVar → AX (List Value)
  | [] => ret []
  | .tmp t :: r => bind (aResList tm r) fun vs => ret (tm.getD t undef :: vs)
  | .cell a t :: r => bind (aLoad P t (tm.getD a undef)) fun v => bind (aResList tm r) fun vs => ret (v :: vs)
def tupleOf : List Value → Value
  | [v] => v
  | vs => .tuple vs.toArray
def aBody (call : FuncId → Array Value → AX Value) (fn : Func) (args : Array Value) : AX Value :=
  match fn.body with
  | some c => bind (aCode P call c (args ++ Array.replicate (fn.ntmps - args.size) undef)) fun x => match x.1 with
    | .exit _ => fail
    | _ => bind (aResList P x.2 fn.results.toList) fun vs => ret (tupleOf vs)
  | none => fail
/-- A call: of one that comes in, or of a body. -/
def aCall (ext : FuncId → Option (Array Value → AX Value)) : Nat → FuncId → Array Value → AX Value
  | 0, _, _ => fail
  | n + 1, f, args => match ext f with
    | some g => g args
    | none => match P.funcs[f]? with
      | some fn => aBody P (aCall ext n) fn args
      | none => fail
end
end Go.Proofs.YtlkceignfhnpoaaGreatDoor
namespace Go.Proofs.YtlkceignfhnpoaaGreatDoor
open Go

/-- Where a block lies: the model's block, its first cell there, how many cells from there on, an element's cells. -/
structure Img where
  blk : Nat
  base : Nat
  lim : Nat
  es : Nat
abbrev Ren := Nat → Option Img
/-- A value of the executor, and the model's. -/
inductive VR (φ : Ren) : Value → Value → Prop
  | bool (b : Bool) : VR φ (.bool b) (.bool b)
  | int (k : IntKind) (n : Int) : VR φ (.int k n) (.int k n)
  | string (s : ByteArray) : VR φ (.string s) (.string s)
  | ptrNil : VR φ (.pointer none) (.pointer none)
  | ptr {b o : Nat} {im : Img} (h : φ b = some im) : VR φ (.pointer (some ⟨b, o, none⟩)) (.pointer (some ⟨im.blk, im.base + o, none⟩))
  | sliceNil : VR φ (.slice none 0 0) (.slice none 0 0)
  | slice {b o n cap : Nat} {im : Img} (h : φ b = some im) (hn : n ≤ cap) (hc : o + cap * im.es ≤ im.lim) (hm : cap ≤ maxLen) : VR φ (.slice (some ⟨b, o, none⟩) n n) (.slice (some ⟨im.blk, im.base + o, none⟩) n cap)
  | slice0 {b o : Nat} {a : Addr} : VR φ (.slice (some ⟨b, o, none⟩) 0 0) (.slice (some a) 0 0)
  | mapNil : VR φ (.map none) (.map none)
  | map {b : Nat} {im : Img} (h : φ b = some im) : VR φ (.map (some b)) (.map (some im.blk))
  | func {f : FuncId} (fs gs cs ds : Array Value) (h1 : fs.size = gs.size) (h2 : ∀ (i : Nat) v v', fs[i]? = some v → gs[i]? = some v' → VR φ v v') (h3 : cs.size = ds.size) (h4 : ∀ (i : Nat) v v', cs[i]? = some v → ds[i]? = some v' → VR φ v v') : VR φ (.func (.func f) fs cs) (.func (.func f) gs ds)
  | nilFunc : VR φ .nilFunc .nilFunc
  | nilIface : VR φ .nilIface .nilIface
  | agg (cs ds : Array Value) (h1 : cs.size = ds.size) (h2 : ∀ (i : Nat) v v', cs[i]? = some v → ds[i]? = some v' → VR φ v v') : VR φ (.agg cs) (.agg ds)
  | tuple (cs ds : Array Value) (h1 : cs.size = ds.size) (h2 : ∀ (i : Nat) v v', cs[i]? = some v → ds[i]? = some v' → VR φ v v') : VR φ (.tuple cs) (.tuple ds)
/-- Rows of values. -/
structure VL (φ : Ren) (l l' : List Value) : Prop where
  len : l.length = l'.length
  at_ : ∀ (i : Nat) v v', l[i]? = some v → l'[i]? = some v' → VR φ v v'
structure VA (φ : Ren) (l l' : Array Value) : Prop where
  len : l.size = l'.size
  at_ : ∀ (i : Nat) v v', l[i]? = some v → l'[i]? = some v' → VR φ v v'
section
variable {φ φ' : Ren}
theorem VA.list {l l' : Array Value} (h : VA φ l l') : VL φ l.toList l'.toList := ⟨by simpa using h.len, fun i v v' a b => h.at_ i v v' (by simpa using a) (by simpa using b)⟩
theorem VL.array {l l' : List Value} (h : VL φ l l') : VA φ l.toArray l'.toArray := ⟨by simpa using h.len, fun i v v' a b => h.at_ i v v' (by simpa using a) (by simpa using b)⟩
theorem VR.mkAgg {l l' : Array Value} (h : VA φ l l') : VR φ (.agg l) (.agg l') := .agg _ _ h.len h.at_
theorem VR.mkTuple {l l' : Array Value} (h : VA φ l l') : VR φ (.tuple l) (.tuple l') := .tuple _ _ h.len h.at_
theorem VR.undef : VR φ Go.undef Go.undef := .tuple _ _ rfl (fun i v v' h => by simp at h)
/-- A renaming goes on. -/
def Ext (φ φ' : Ren) : Prop := ∀ b im, φ b = some im → φ' b = some im
theorem VR.mono (h : Ext φ φ') {v v' : Value} (hv : VR φ v v') : VR φ' v v' := by
  induction hv with
  | bool b => exact .bool b
  | int k n => exact .int k n
  | string s => exact .string s
  | ptrNil => exact .ptrNil
  | ptr hb => exact .ptr (h _ _ hb)
  | sliceNil => exact .sliceNil
  | slice hb hn hc hm => exact .slice (h _ _ hb) hn hc hm
  | slice0 => exact .slice0
  | mapNil => exact .mapNil
  | map hb => exact .map (h _ _ hb)
  | func fs gs cs ds h1 h2 h3 h4 ih2 ih4 => exact .func fs gs cs ds h1 ih2 h3 ih4
  | nilFunc => exact .nilFunc
  | nilIface => exact .nilIface
  | agg cs ds h1 h2 ih => exact .agg cs ds h1 ih
  | tuple cs ds h1 h2 ih => exact .tuple cs ds h1 ih
theorem VL.mono (h : Ext φ φ') {l l' : List Value} (hl : VL φ l l') : VL φ' l l' := ⟨hl.len, fun i v v' a b => (hl.at_ i v v' a b).mono h⟩
theorem VA.mono (h : Ext φ φ') {l l' : Array Value} (hl : VA φ l l') : VA φ' l l' := ⟨hl.len, fun i v v' a b => (hl.at_ i v v' a b).mono h⟩
theorem VL.nil : VL φ [] [] := ⟨rfl, fun i v v' h => by simp at h⟩
theorem VL.cons {v v' : Value} {l l' : List Value} (h : VR φ v v') (hl : VL φ l l') : VL φ (v :: l) (v' :: l') := by
  refine ⟨by simp [hl.len], fun i u u' a b => ?_⟩
  cases i with
  | zero => simp at a b; subst a; subst b; exact h
  | succ i => exact hl.at_ i u u' (by simpa using a) (by simpa using b)
theorem VL.one {v v' : Value} (h : VR φ v v') : VL φ [v] [v'] := .cons h .nil
theorem VL.get {l l' : List Value} (h : VL φ l l') {i : Nat} {v : Value} (hi : l[i]? = some v) : ∃ v', l'[i]? = some v' ∧ VR φ v v' := by
  have hlt : i < l'.length := by
    have := (List.getElem?_eq_some_iff.1 hi).1
    have := h.len
    omega
  exact ⟨l'[i], List.getElem?_eq_getElem hlt, h.at_ i v _ hi (List.getElem?_eq_getElem hlt)⟩
theorem VA.get {l l' : Array Value} (h : VA φ l l') {i : Nat} {v : Value} (hi : l[i]? = some v) : ∃ v', l'[i]? = some v' ∧ VR φ v v' := by
  obtain ⟨v', a, b⟩ := h.list.get (i := i) (v := v) (by simpa using hi)
  exact ⟨v', by simpa using a, b⟩
theorem VL.append {a a' b b' : List Value} (h : VL φ a a') (k : VL φ b b') : VL φ (a ++ b) (a' ++ b') := by
  refine ⟨by simp [h.len, k.len], fun i v v' x y => ?_⟩
  by_cases hi : i < a.length
  · rw [List.getElem?_append_left hi] at x
    rw [List.getElem?_append_left (by have := h.len; omega)] at y
    exact h.at_ i v v' x y
  · rw [List.getElem?_append_right (by omega)] at x
    rw [List.getElem?_append_right (by have := h.len; omega)] at y
    rw [← h.len] at y
    exact k.at_ _ v v' x y
theorem VL.take {a a' : List Value} (h : VL φ a a') (n : Nat) : VL φ (a.take n) (a'.take n) := by
  refine ⟨by simp [h.len], fun i v v' x y => ?_⟩
  rw [List.getElem?_take] at x y
  split at x
  · rename_i hi
    rw [if_pos hi] at y
    exact h.at_ i v v' x y
  · cases x
theorem VL.drop {a a' : List Value} (h : VL φ a a') (n : Nat) : VL φ (a.drop n) (a'.drop n) := by
  refine ⟨by simp [h.len], fun i v v' x y => ?_⟩
  rw [List.getElem?_drop] at x y
  exact h.at_ _ v v' x y
theorem VL.set {a a' : List Value} (h : VL φ a a') (i : Nat) {v v' : Value} (hv : VR φ v v') : VL φ (a.set i v) (a'.set i v') := by
  refine ⟨by simp [h.len], fun j u u' x y => ?_⟩
  rw [List.getElem?_set] at x y
  split at x
  · rename_i hij
    rw [if_pos hij] at y
    split at x
    · rename_i hl
      rw [if_pos (by have := h.len; omega)] at y
      cases x; cases y; exact hv
    · cases x
  · rename_i hij
    rw [if_neg hij] at y
    exact h.at_ j u u' x y
theorem VL.setL : ∀ (vs vs' : List Value) (o : Nat) (a a' : List Value), VL φ vs vs' → VL φ a a' → VL φ (setL a o vs) (setL a' o vs')
  | [], [], o, a, a', _, h => h
  | [], v :: r, o, a, a', hv, _ => by have := hv.len; simp at this
  | v :: r, [], o, a, a', hv, _ => by have := hv.len; simp at this
  | v :: r, v' :: r', o, a, a', hv, h => by
    refine VL.setL r r' (o + 1) _ _ ⟨by have := hv.len; simpa using this, fun i u u' x y => hv.at_ (i + 1) u u' (by simpa using x) (by simpa using y)⟩ (h.set o (hv.at_ 0 v v' rfl rfl))
theorem VA.set {a a' : Array Value} (h : VA φ a a') (i : Nat) {v v' : Value} (hv : VR φ v v') : VA φ (a.setIfInBounds i v) (a'.setIfInBounds i v') := by
  have := (h.list.set i hv).array
  have e1 : (a.toList.set i v).toArray = a.setIfInBounds i v := by rw [← Array.toList_setIfInBounds]
  have e2 : (a'.toList.set i v').toArray = a'.setIfInBounds i v' := by rw [← Array.toList_setIfInBounds]
  rw [e1, e2] at this
  exact this
theorem VA.append {a a' b b' : Array Value} (h : VA φ a a') (k : VA φ b b') : VA φ (a ++ b) (a' ++ b') := by
  have := (h.list.append k.list).array
  rw [← Array.toList_append, ← Array.toList_append] at this
  exact this
theorem VA.refl_undef (n : Nat) : VA φ (Array.replicate n Go.undef) (Array.replicate n Go.undef) := by
  refine ⟨rfl, fun i v v' a b => ?_⟩
  rw [a] at b
  cases b
  have : v ∈ Array.replicate n Go.undef := Array.mem_of_getElem? a
  rw [(Array.mem_replicate.1 this).2]
  exact VR.undef
theorem VA.getD {a a' : Array Value} (h : VA φ a a') (i : Nat) : VR φ (a.getD i Go.undef) (a'.getD i Go.undef) := by
  by_cases hi : i < a.size
  · have hi' : i < a'.size := by have := h.len; omega
    have := h.at_ i a[i] a'[i] (Array.getElem?_eq_getElem hi) (Array.getElem?_eq_getElem hi')
    simpa [Array.getD, hi, hi'] using this
  · have hi' : ¬ i < a'.size := by have := h.len; omega
    simp [Array.getD, hi, hi']
    exact VR.undef
theorem VR.cells {v v' : Value} (h : VR φ v v') : VA φ v.cells v'.cells := by
  have one : ∀ {u u' : Value}, VR φ u u' → VA φ #[u] #[u'] := fun {u u'} hu => by simpa using (VL.one hu).array
  cases h
  case agg cs ds h1 h2 => exact ⟨h1, h2⟩
  case func fs gs cs ds h1 h2 h3 h4 => exact one (.func fs gs cs ds h1 h2 h3 h4)
  case tuple cs ds h1 h2 => exact one (.tuple cs ds h1 h2)
  case slice hb hn hc hm => exact one (.slice hb hn hc hm)
  case ptr hb => exact one (.ptr hb)
  case map hb => exact one (.map hb)
  all_goals exact one (by constructor)
theorem VR.size {v v' : Value} (h : VR φ v v') : v.cells.size = v'.cells.size := h.cells.len
theorem VR.oneV {v v' : Value} (h : VR φ v v') : oneV v = oneV v' := by cases h <;> rfl
theorem oneV_eq (v : Value) : oneV v = v.oneCell' := by cases v <;> rfl
theorem VR.simple {v : Value} (h : simpleV v = true) : VR φ v v := by
  cases v with
  | bool b => exact .bool b
  | int k n => exact .int k n
  | string s => exact .string s
  | pointer a => cases a with
    | none => exact .ptrNil
    | some a => cases h
  | slice a n c =>
    cases a with
    | none =>
      cases n with
      | zero => cases c with
        | zero => exact .sliceNil
        | succ c => cases h
      | succ n => cases h
    | some a => cases h
  | map r => cases r with
    | none => exact .mapNil
    | some a => cases h
  | nilFunc => exact .nilFunc
  | nilIface => exact .nilIface
  | _ => cases h
theorem VL.simple : ∀ {l : List Value}, l.all simpleV = true → VL φ l l
  | [], _ => VL.nil
  | v :: l, h => by
    simp only [List.all_cons, Bool.and_eq_true] at h
    exact VL.cons (VR.simple h.1) (VL.simple h.2)
theorem VR.const {v : Value} (h : constOK v = true) : VR φ v v := by
  unfold constOK at h
  by_cases hs : simpleV v = true
  · exact VR.simple hs
  · simp only [hs, Bool.false_or] at h
    cases v with
    | agg cs =>
      have := (VL.simple (φ := φ) h).array
      simp only [Array.toArray_toList] at this
      exact VR.mkAgg this
    | tuple cs =>
      have he : cs = #[] := by
        simp only [Array.isEmpty_toList] at h
        exact Array.isEmpty_iff.1 h
      subst he
      exact VR.undef
    | _ => cases h
theorem VR.scalar_eq {v v' : Value} (h : VR φ v v') (hs : scalar v = true) : v' = v := by
  cases h <;> first | rfl | (simp [scalar] at hs)
theorem VR.flat_eq {v v' : Value} (h : VR φ v v') (hs : flat v = true) : v' = v := by
  cases h
  case agg cs ds h1 h2 =>
    congr 1
    apply Array.ext h1.symm
    intro i hi hi'
    simp only [flat, List.all_eq_true] at hs
    exact (h2 i cs[i] ds[i] (Array.getElem?_eq_getElem hi') (Array.getElem?_eq_getElem hi)).scalar_eq (hs _ (by simp))
  all_goals first | rfl | (simp [flat, scalar] at hs)
theorem VL.flat_eq {l l' : List Value} (h : VL φ l l') (hs : l.all flat = true) : l' = l := by
  apply List.ext_getElem h.len.symm
  intro i hi hi'
  simp only [List.all_eq_true] at hs
  exact (h.at_ i l[i] l'[i] (List.getElem?_eq_getElem hi') (List.getElem?_eq_getElem hi)).flat_eq (hs _ (List.getElem_mem hi'))
theorem VR.flat {v : Value} (h : flat v = true) : VR φ v v := by
  have sc : ∀ {u : Value}, scalar u = true → VR φ u u := fun {u} hu => by
    cases u <;> first | (exact VR.simple rfl) | cases hu
  cases v with
  | agg cs =>
    refine VR.agg cs cs rfl (fun i v v' a b => ?_)
    rw [a] at b; cases b
    simp only [Go.Proofs.YtlkceignfhnpoaaGreatDoor.flat, List.all_eq_true] at h
    exact sc (h v (by simpa using Array.mem_of_getElem? a))
  | _ => exact sc h
end
end Go.Proofs.YtlkceignfhnpoaaGreatDoor
namespace Go.Proofs.YtlkceignfhnpoaaGreatDoor
open Go Go.RowKit

def AB.wr : AB → Bool
  | .cells _ _ wr => wr
  | .map _ => true
section
variable (P : Program)
def BR (φ : Ren) (im : Img) (x : AB) (w : World) : Prop :=
  match x with
  | .cells cs T wr => ∃ ds T' fr, w.heap[im.blk]? = some (.cells ds T' fr) ∧ im.base + im.lim ≤ ds.size ∧ cs.length ≤ im.lim ∧ (∀ (i : Nat) v, cs[i]? = some v → ∃ v', ds[im.base + i]? = some v' ∧ VR φ v v' ∧ oneV v = true) ∧ im.es = (szOf P T).getD 0 ∧ (wr = true → fr = (0, 0) ∧ T' = T ∧ im.base + im.lim = ds.size) ∧ (wr = false → 256 ≤ im.es → im.base = 0) ∧ (wr = true → oddT T = true → im.base = 0 ∧ (T = tBld → cs.length = 2 → im.lim = 2))
  | .map kv => ∃ es clock, w.heap[im.blk]? = some (.map es clock) ∧ VL φ (kv.map (·.1)) (es.toList.map (·.key)) ∧ VL φ (kv.map (·.2)) (es.toList.map (·.val))
/-- The blocks that may be written. -/
def OwnB (φ : Ren) (H : AH) (k : Nat) : Prop := ∃ b x im, H b = some x ∧ x.wr = true ∧ φ b = some im ∧ im.blk = k
/-- The package-level variables are as they were in a world that had them; none of its blocks may be written. -/
def EnvW (φ : Ren) (H : AH) (w : World) : Prop := ∃ w0 : World, EnvOK w0 ∧ Below w0.heap.size w0 w ∧ ∀ k, k < w0.heap.size → ¬ OwnB φ H k
structure WR (φ : Ren) (H : AH) (w : World) : Prop where
  blk : ∀ b x, H b = some x → ∃ im, φ b = some im ∧ BR P φ im x w
  inj : ∀ b b' x x' im im', H b = some x → H b' = some x' → b ≠ b' → x.wr = true → φ b = some im → φ b' = some im' → im.blk ≠ im'.blk
  env : EnvW φ H w
structure Trn (φ : Ren) (H : AH) (w : World) (φ' : Ren) (H' : AH) (w' : World) : Prop where
  os : w'.os = w.os
  tape : w'.tape = w.tape
  output : w'.output = w.output
  size : w.heap.size ≤ w'.heap.size
  block : ∀ k, k < w.heap.size → ¬ OwnB φ H k → w'.heap[k]? = w.heap[k]?
  sub : ∀ k, OwnB φ' H' k → OwnB φ H k ∨ w.heap.size ≤ k
structure Nx (φ φ' : Ren) (s s' : Nat) : Prop where
  ext : Ext φ φ'
  dom : ∀ b im, φ' b = some im → φ b = some im ∨ (s ≤ b ∧ b < s')
def Free (φ : Ren) (s s' : Nat) : Prop := ∀ b, s ≤ b → b < s' → φ b = none
end
section
variable {P : Program} {φ φ' : Ren} {H : AH} {w w' : World}
theorem Ext.refl (φ : Ren) : Ext φ φ := fun _ _ h => h
theorem Ext.trans {φ1 φ2 φ3 : Ren} (h : Ext φ1 φ2) (k : Ext φ2 φ3) : Ext φ1 φ3 := fun b im e => k b im (h b im e)
theorem Nx.refl (φ : Ren) (s : Nat) : Nx φ φ s s := ⟨Ext.refl φ, fun b im h => .inl h⟩
theorem Nx.trans {φ1 φ2 φ3 : Ren} {s1 s2 s3 : Nat} (h : Nx φ1 φ2 s1 s2) (k : Nx φ2 φ3 s2 s3) (h1 : s1 ≤ s2) (h2 : s2 ≤ s3) : Nx φ1 φ3 s1 s3 := by
  refine ⟨h.ext.trans k.ext, fun b im e => ?_⟩
  rcases k.dom b im e with e | e
  · rcases h.dom b im e with e | e
    · exact .inl e
    · exact .inr ⟨e.1, by omega⟩
  · exact .inr ⟨by omega, e.2⟩
theorem Nx.free {s s' s'' : Nat} (h : Nx φ φ' s s') (f : Free φ s s'') (hs : s ≤ s') : Free φ' s' s'' := by
  intro b h1 h2
  cases e : φ' b with
  | none => rfl
  | some im =>
    rcases h.dom b im e with e | e
    · rw [f b (by omega) h2] at e; cases e
    · omega
theorem Free.sub {s s' t t' : Nat} (f : Free φ s s') (h1 : s ≤ t) (h2 : t' ≤ s') : Free φ t t' := fun b a c => f b (by omega) (by omega)
theorem Trn.refl (φ : Ren) (H : AH) (w : World) : Trn φ H w φ H w := ⟨rfl, rfl, rfl, Nat.le_refl _, fun _ _ _ => rfl, fun _ h => .inl h⟩
theorem Trn.trans {φ1 φ2 φ3 : Ren} {H1 H2 H3 : AH} {w1 w2 w3 : World} (h : Trn φ1 H1 w1 φ2 H2 w2) (k : Trn φ2 H2 w2 φ3 H3 w3) : Trn φ1 H1 w1 φ3 H3 w3 := by
  refine ⟨k.os.trans h.os, k.tape.trans h.tape, k.output.trans h.output, Nat.le_trans h.size k.size, fun x hx hn => ?_, fun x hx => ?_⟩
  · exact (k.block x (Nat.lt_of_lt_of_le hx h.size) (fun e => (h.sub x e).elim hn (fun e => by omega))).trans (h.block x hx hn)
  · rcases k.sub x hx with e | e
    · exact h.sub x e
    · exact .inr (Nat.le_trans h.size e)
theorem BR.mono (h : Ext φ φ') {im : Img} {x : AB} (hb : BR P φ im x w) : BR P φ' im x w := by
  cases x with
  | cells cs T wr =>
    obtain ⟨ds, T', fr, h1, h2, h3, h4, h5⟩ := hb
    exact ⟨ds, T', fr, h1, h2, h3, fun i v e => let ⟨v', a, b, c⟩ := h4 i v e; ⟨v', a, b.mono h, c⟩, h5⟩
  | map kv =>
    obtain ⟨es, clock, h1, h2, h3⟩ := hb
    exact ⟨es, clock, h1, h2.mono h, h3.mono h⟩
theorem BR.keep {im : Img} {x : AB} (hb : BR P φ im x w) (h : w'.heap[im.blk]? = w.heap[im.blk]?) : BR P φ im x w' := by
  cases x with
  | cells cs T wr =>
    obtain ⟨ds, T', fr, h1, h2⟩ := hb
    exact ⟨ds, T', fr, h.trans h1, h2⟩
  | map kv =>
    obtain ⟨es, clock, h1, h2⟩ := hb
    exact ⟨es, clock, h.trans h1, h2⟩
theorem EnvW.ok (h : EnvW φ H w) : EnvOK w := let ⟨_, h1, h2, _⟩ := h; h1.below h2
theorem EnvW.trn {φ' : Ren} {H' : AH} (h : EnvW φ H w) (t : Trn φ H w φ' H' w') : EnvW φ' H' w' := by
  obtain ⟨w0, h1, h2, h3⟩ := h
  exact ⟨w0, h1, ⟨t.os.trans h2.os, t.tape.trans h2.tape, t.output.trans h2.output, Nat.le_trans h2.size t.size, fun k hk => (t.block k (Nat.lt_of_lt_of_le hk h2.size) (h3 k hk)).trans (h2.block k hk)⟩,
    fun k hk ho => (t.sub k ho).elim (h3 k hk) (fun h => Nat.not_lt.2 h (Nat.lt_of_lt_of_le hk h2.size))⟩
theorem EnvW.start (h : EnvOK w) (hn : ∀ k, ¬ OwnB φ H k) : EnvW φ H w := ⟨w, h, Below.refl _ _, fun k _ => hn k⟩
theorem BR.lt {im : Img} {x : AB} (hb : BR P φ im x w) : im.blk < w.heap.size := by
  cases x with
  | cells cs T wr => obtain ⟨ds, T', fr, h1, h2⟩ := hb; exact (Array.getElem?_eq_some_iff.1 h1).1
  | map kv => obtain ⟨es, clock, h1, h2⟩ := hb; exact (Array.getElem?_eq_some_iff.1 h1).1
theorem WR.img (h : WR P φ H w) {b : Nat} {x : AB} (hb : H b = some x) : ∃ im, φ b = some im ∧ BR P φ im x w := h.blk b x hb
theorem WR.drew (h : WR P φ H w) : WR P φ H { w with drawn := w.drawn + 1 } := ⟨fun b x hb => let ⟨im, e, r⟩ := h.blk b x hb; ⟨im, e, r.keep rfl⟩, h.inj, h.env.trn ⟨rfl, rfl, rfl, Nat.le_refl _, fun _ _ _ => rfl, fun _ h => .inl h⟩⟩
theorem Trn.drew (φ : Ren) (H : AH) (w : World) : Trn φ H w φ H { w with drawn := w.drawn + 1 } := ⟨rfl, rfl, rfl, Nat.le_refl _, fun _ _ _ => rfl, fun _ h => .inl h⟩
theorem WR.fin {φ' : Ren} {H' : AH} (h : EnvW φ H w) (hb : ∀ b x, H' b = some x → ∃ im, φ' b = some im ∧ BR P φ' im x w') (hi : ∀ b b' x x' im im', H' b = some x → H' b' = some x' → b ≠ b' → x.wr = true → φ' b = some im → φ' b' = some im' → im.blk ≠ im'.blk)
    (t : Trn φ H w φ' H' w') : WR P φ' H' w' ∧ Trn φ H w φ' H' w' := ⟨⟨hb, hi, h.trn t⟩, t⟩
theorem WR.fin3 {φ' : Ren} {H' : AH} {s s' : Nat} (h : EnvW φ H w) (hb : ∀ b x, H' b = some x → ∃ im, φ' b = some im ∧ BR P φ' im x w') (hi : ∀ b b' x x' im im', H' b = some x → H' b' = some x' → b ≠ b' → x.wr = true → φ' b = some im → φ' b' = some im' → im.blk ≠ im'.blk)
    (n : Nx φ φ' s s') (t : Trn φ H w φ' H' w') : WR P φ' H' w' ∧ Nx φ φ' s s' ∧ Trn φ H w φ' H' w' := ⟨⟨hb, hi, h.trn t⟩, n, t⟩
/-- One block was turned. -/
theorem WR.turn (h : WR P φ H w) {b : Nat} {x x' : AB} {im : Img} (hb : H b = some x) (hx : x.wr = true) (him : φ b = some im) (hos : w'.os = w.os) (ht : w'.tape = w.tape) (ho : w'.output = w.output) (hs : w'.heap.size = w.heap.size)
    (hk : ∀ k, k ≠ im.blk → w'.heap[k]? = w.heap[k]?) (hr : BR P φ im x' w') (hx' : x'.wr = true) : WR P φ (upd H b (some x')) w' ∧ Trn φ H w φ (upd H b (some x')) w' := by
  have hown : OwnB φ H im.blk := ⟨b, x, im, hb, hx, him, rfl⟩
  refine WR.fin h.env (fun k y hy => ?_) (fun k k' y y' im1 im2 h1 h2 hne hw e1 e2 => ?_) ⟨hos, ht, ho, by omega, fun k hk' hn => hk k (fun e => hn (e ▸ hown)), fun k hk' => ?_⟩
  · by_cases e : k = b
    · subst e
      rw [upd_same] at hy; cases hy
      exact ⟨im, him, hr⟩
    · rw [upd_ne _ _ e] at hy
      obtain ⟨im2, e2, r2⟩ := h.blk k y hy
      exact ⟨im2, e2, r2.keep (hk _ (fun e3 => h.inj b k x y im im2 hb hy (Ne.symm e) hx him e2 e3.symm))⟩
  · by_cases e : k = b
    · subst e
      rw [upd_ne _ _ (Ne.symm hne)] at h2
      exact h.inj k k' x y' im1 im2 hb h2 hne hx e1 e2
    · rw [upd_ne _ _ e] at h1
      by_cases e' : k' = b
      · subst e'
        exact h.inj k k' y x im1 im2 h1 hb hne hw e1 e2
      · rw [upd_ne _ _ e'] at h2
        exact h.inj k k' y y' im1 im2 h1 h2 hne hw e1 e2
  · obtain ⟨c, y, im2, h1, h2, h3, h4⟩ := hk'
    by_cases e : c = b
    · subst e
      rw [him] at h3; cases h3
      exact .inl (h4 ▸ hown)
    · rw [upd_ne _ _ e] at h1
      exact .inl ⟨c, y, im2, h1, h2, h3, h4⟩
/-- A new block. -/
def Ren.put (φ : Ren) (s : Nat) (im : Img) : Ren := fun k => if k = s then some im else φ k
theorem Ren.put_same (φ : Ren) (s : Nat) (im : Img) : φ.put s im s = some im := by simp [Ren.put]
theorem Ren.put_ne (φ : Ren) {s k : Nat} (im : Img) (h : k ≠ s) : φ.put s im k = φ k := by simp [Ren.put, h]
theorem ext_put {s : Nat} {im : Img} (h : φ s = none) : Ext φ (φ.put s im) := by
  intro b im' hb
  rw [Ren.put_ne]
  · exact hb
  · rintro rfl; rw [h] at hb; cases hb
theorem nx_put {s : Nat} {im : Img} (h : φ s = none) : Nx φ (φ.put s im) s (s + 1) := by
  refine ⟨ext_put h, fun b im' hb => ?_⟩
  by_cases e : b = s
  · exact .inr (by omega)
  · rw [Ren.put_ne _ _ e] at hb; exact .inl hb
theorem WR.new (h : WR P φ H w) {s : Nat} {x : AB} {im : Img} (hs : φ s = none) (hi : im.blk = w.heap.size) (hos : w'.os = w.os) (ht : w'.tape = w.tape) (ho : w'.output = w.output) (hz : w.heap.size ≤ w'.heap.size)
    (hk : ∀ k, k < w.heap.size → w'.heap[k]? = w.heap[k]?) (hr : BR P (φ.put s im) im x w') : WR P (φ.put s im) (upd H s (some x)) w' ∧ Nx φ (φ.put s im) s (s + 1) ∧ Trn φ H w (φ.put s im) (upd H s (some x)) w' := by
  have hHs : ∀ k y, H k = some y → k ≠ s := by
    rintro k y hy rfl
    obtain ⟨im2, e2, _⟩ := h.blk k y hy
    rw [hs] at e2; cases e2
  refine WR.fin3 h.env (fun k y hy => ?_) (fun k k' y y' im1 im2 h1 h2 hne hw e1 e2 => ?_) (nx_put hs) ⟨hos, ht, ho, hz, fun k hk' _ => hk k hk', fun k hk' => ?_⟩
  · by_cases e : k = s
    · subst e
      rw [upd_same] at hy; cases hy
      exact ⟨im, Ren.put_same _ _ _, hr⟩
    · rw [upd_ne _ _ e] at hy
      obtain ⟨im2, e2, r2⟩ := h.blk k y hy
      exact ⟨im2, by rw [Ren.put_ne _ _ e]; exact e2, (r2.mono (ext_put hs)).keep (hk _ r2.lt)⟩
  · by_cases e : k = s
    · subst e
      rw [Ren.put_same] at e1; cases e1
      rw [upd_ne _ _ (Ne.symm hne)] at h2
      rw [Ren.put_ne _ _ (Ne.symm hne)] at e2
      obtain ⟨im3, e3, r3⟩ := h.blk k' y' h2
      rw [e2] at e3; cases e3
      have := r3.lt; omega
    · rw [upd_ne _ _ e] at h1
      rw [Ren.put_ne _ _ e] at e1
      by_cases e' : k' = s
      · subst e'
        rw [Ren.put_same] at e2; cases e2
        obtain ⟨im3, e3, r3⟩ := h.blk k y h1
        rw [e1] at e3; cases e3
        have := r3.lt; omega
      · rw [upd_ne _ _ e'] at h2
        rw [Ren.put_ne _ _ e'] at e2
        exact h.inj k k' y y' im1 im2 h1 h2 hne hw e1 e2
  · obtain ⟨c, y, im2, h1, h2, h3, h4⟩ := hk'
    by_cases e : c = s
    · subst e
      rw [Ren.put_same] at h3; cases h3
      exact .inr (by omega)
    · rw [upd_ne _ _ e] at h1
      rw [Ren.put_ne _ _ e] at h3
      exact .inl ⟨c, y, im2, h1, h2, h3, h4⟩
/-- A block is struck. -/
theorem WR.kill (h : WR P φ H w) (b : Nat) : WR P φ (upd H b none) w ∧ Trn φ H w φ (upd H b none) w := by
  have sub : ∀ {k y}, upd H b none k = some y → H k = some y := by
    intro k y hy
    by_cases e : k = b
    · subst e; rw [upd_same] at hy; cases hy
    · rwa [upd_ne _ _ e] at hy
  exact WR.fin h.env (fun k y hy => h.blk k y (sub hy)) (fun k k' y y' im1 im2 h1 h2 => h.inj k k' y y' im1 im2 (sub h1) (sub h2)) ⟨rfl, rfl, rfl, Nat.le_refl _, fun _ _ _ => rfl, fun k ⟨c, y, im2, h1, h2, h3, h4⟩ => .inl ⟨c, y, im2, sub h1, h2, h3, h4⟩⟩
/-- A block goes on in the same place under a new number (an append where there was room). -/
theorem WR.moved (h : WR P φ H w) {b s : Nat} {x x' : AB} {im im' : Img} (hb : H b = some x) (hx : x.wr = true) (him : φ b = some im) (hs : φ s = none) (hi : im'.blk = im.blk) (hos : w'.os = w.os) (ht : w'.tape = w.tape) (ho : w'.output = w.output) (hz : w'.heap.size = w.heap.size)
    (hk : ∀ k, k ≠ im.blk → w'.heap[k]? = w.heap[k]?) (hr : BR P (φ.put s im') im' x' w') (hx' : x'.wr = true) : WR P (φ.put s im') (upd (upd H b none) s (some x')) w' ∧ Nx φ (φ.put s im') s (s + 1) ∧ Trn φ H w (φ.put s im') (upd (upd H b none) s (some x')) w' := by
  have hown : OwnB φ H im.blk := ⟨b, x, im, hb, hx, him, rfl⟩
  have old : ∀ k y, k ≠ s → upd (upd H b none) s (some x') k = some y → k ≠ b ∧ H k = some y := by
    intro k y hks hy
    rw [upd_ne _ _ hks] at hy
    by_cases e : k = b
    · subst e; rw [upd_same] at hy; cases hy
    · rw [upd_ne _ _ e] at hy; exact ⟨e, hy⟩
  have far : ∀ k y im2, k ≠ b → H k = some y → φ k = some im2 → im2.blk ≠ im.blk := fun k y im2 hne hy e2 e3 => h.inj b k x y im im2 hb hy (Ne.symm hne) hx him e2 e3.symm
  refine WR.fin3 h.env (fun k y hy => ?_) (fun k k' y y' im1 im2 h1 h2 hne hw e1 e2 => ?_) (nx_put hs) ⟨hos, ht, ho, by omega, fun k hk' hn => hk k (fun e => hn (e ▸ hown)), fun k hk' => ?_⟩
  · by_cases e : k = s
    · subst e
      rw [upd_same] at hy; cases hy
      exact ⟨im', Ren.put_same _ _ _, hr⟩
    · obtain ⟨hne, hy'⟩ := old k y e hy
      obtain ⟨im2, e2, r2⟩ := h.blk k y hy'
      exact ⟨im2, by rw [Ren.put_ne _ _ e]; exact e2, (r2.mono (ext_put hs)).keep (hk _ (far k y im2 hne hy' e2))⟩
  · by_cases e : k = s
    · subst e
      rw [Ren.put_same] at e1; cases e1
      obtain ⟨hne2, hy2⟩ := old k' y' (Ne.symm hne) h2
      rw [Ren.put_ne _ _ (Ne.symm hne)] at e2
      rw [hi]
      exact fun e3 => far k' y' im2 hne2 hy2 e2 e3.symm
    · obtain ⟨hne1, hy1⟩ := old k y e h1
      rw [Ren.put_ne _ _ e] at e1
      by_cases e' : k' = s
      · subst e'
        rw [Ren.put_same] at e2; cases e2
        rw [hi]
        exact far k y im1 hne1 hy1 e1
      · obtain ⟨hne2, hy2⟩ := old k' y' e' h2
        rw [Ren.put_ne _ _ e'] at e2
        exact h.inj k k' y y' im1 im2 hy1 hy2 hne hw e1 e2
  · obtain ⟨c, y, im2, h1, h2, h3, h4⟩ := hk'
    by_cases e : c = s
    · subst e
      rw [Ren.put_same] at h3; cases h3
      exact .inl (by rw [← h4, hi]; exact hown)
    · obtain ⟨hne1, hy1⟩ := old c y e h1
      rw [Ren.put_ne _ _ e] at h3
      exact .inl ⟨c, y, im2, hy1, h2, h3, h4⟩
/-! What the executor's pieces give. -/
theorem stat_run {α : Type} : ∀ (m : Sem α) (a : α), stat P m = some a → ∀ w, m.run P w = .ok a w
  | .pure b, a, h, w => by simp [stat] at h; subst h; rfl
  | .program k, a, h, w => stat_run (k P) a h w
  | .load .., a, h, w => by simp [stat] at h
  | .store .., a, h, w => by simp [stat] at h
  | .new .., a, h, w => by simp [stat] at h
  | .shape .., a, h, w => by simp [stat] at h
  | .freeze .., a, h, w => by simp [stat] at h
  | .frozen .., a, h, w => by simp [stat] at h
  | .getObj .., a, h, w => by simp [stat] at h
  | .setObj .., a, h, w => by simp [stat] at h
  | .choose .., a, h, w => by simp [stat] at h
  | .sys .., a, h, w => by simp [stat] at h
  | .mark .., a, h, w => by simp [stat] at h
  | .halt .., a, h, w => by simp [stat] at h
theorem ret_some {α : Type} {a : α} {H : AH} {s : Nat} {o : Out α} (h : AX.ret a H s = some o) : o = ⟨a, H, s, [], []⟩ := by simp [AX.ret] at h; exact h.symm
theorem ofOpt_some {α : Type} {x : Option α} {H : AH} {s : Nat} {o : Out α} (h : AX.ofOpt x H s = some o) : ∃ a, x = some a ∧ o = ⟨a, H, s, [], []⟩ := by
  cases x with
  | none => simp [AX.ofOpt] at h
  | some a => simp [AX.ofOpt] at h; exact ⟨a, rfl, h.symm⟩
theorem cells_some {b : Nat} {H : AH} {s : Nat} {o : Out (List Value × TypeId × Bool)} (h : AX.cells b H s = some o) : H b = some (.cells o.val.1 o.val.2.1 o.val.2.2) ∧ o.H = H ∧ o.s = s := by
  unfold AX.cells at h
  obtain ⟨o1, o2, e1, e2, rfl⟩ := AX.bind_some h
  unfold AX.get at e1
  cases hb : H b with
  | none => rw [hb] at e1; cases e1
  | some x =>
    rw [hb] at e1
    simp only [Option.some.injEq] at e1
    subst e1
    cases x with
    | cells cs T wr =>
      have := ret_some e2
      subst this
      exact ⟨rfl, rfl, rfl⟩
    | map kv => cases e2
theorem entries_some {b : Nat} {H : AH} {s : Nat} {o : Out (List (Value × Value))} (h : AX.entries b H s = some o) : H b = some (.map o.val) ∧ o.H = H ∧ o.s = s := by
  unfold AX.entries at h
  obtain ⟨o1, o2, e1, e2, rfl⟩ := AX.bind_some h
  unfold AX.get at e1
  cases hb : H b with
  | none => rw [hb] at e1; cases e1
  | some x =>
    rw [hb] at e1
    simp only [Option.some.injEq] at e1
    subst e1
    cases x with
    | map kv =>
      have := ret_some e2
      subst this
      exact ⟨rfl, rfl, rfl⟩
    | cells cs T wr => cases e2
theorem readN_some {b o n : Nat} {H : AH} {s : Nat} {q : Out (List Value)} (h : AX.readN b o n H s = some q) : ∃ cs T wr, H b = some (.cells cs T wr) ∧ o + n ≤ cs.length ∧ q.val = (cs.drop o).take n ∧ q.H = H ∧ q.s = s := by
  unfold AX.readN at h
  obtain ⟨o1, o2, e1, e2, rfl⟩ := AX.bind_some h
  obtain ⟨h1, h2, h3⟩ := cells_some e1
  split at e2
  · rename_i hle
    have := ret_some e2
    subst this
    exact ⟨_, _, _, h1, hle, rfl, h2, h3⟩
  · cases e2
/-- Cells are read as they lie. -/
theorem BR.cell {im : Img} {cs : List Value} {T : TypeId} {wr : Bool} (h : BR P φ im (.cells cs T wr) w) {i : Nat} {v : Value} (hi : cs[i]? = some v) : ∃ v', w.cell? ⟨im.blk, im.base + i, none⟩ = some v' ∧ VR φ v v' ∧ oneV v = true := by
  obtain ⟨ds, T', fr, h1, h2, h3, h4, h5⟩ := h
  obtain ⟨v', a, b, c⟩ := h4 i v hi
  exact ⟨v', by simp [World.cell?, h1, a], b, c⟩
theorem add_none (c d k : Nat) : (⟨c, d, none⟩ : Addr).add k = ⟨c, d + k, none⟩ := by
  unfold Addr.add
  split
  · rename_i h; subst h; rfl
  · rfl
theorem BR.readN {im : Img} {cs : List Value} {T : TypeId} {wr : Bool} (h : BR P φ im (.cells cs T wr) w) {o n : Nat} (hn : o + n ≤ cs.length) :
    ∃ vs, VL φ ((cs.drop o).take n) vs ∧ vs.length = n ∧ (∀ j v, vs[j]? = some v → w.cell? ((⟨im.blk, im.base + o, none⟩ : Addr).add j) = some v) ∧ (∀ v ∈ vs, v.oneCell' = true) := by
  obtain ⟨ds, T', fr, h1, h2, h3, h4, h5⟩ := h
  have get : ∀ j, j < n → ∃ v', ds[im.base + o + j]? = some v' ∧ VR φ ((cs.drop o).take n)[j]! v' ∧ v'.oneCell' = true := by
    intro j hj
    have hc : cs[o + j]? = some cs[o + j] := List.getElem?_eq_getElem (by omega)
    obtain ⟨v', a, b, c⟩ := h4 _ _ hc
    refine ⟨v', by rw [Nat.add_assoc]; exact a, ?_, ?_⟩
    · have : ((cs.drop o).take n)[j]! = cs[o + j] := by
        rw [List.getElem!_eq_getElem?_getD, List.getElem?_take, if_pos hj, List.getElem?_drop, hc]; rfl
      rw [this]; exact b
    · rw [← oneV_eq, ← b.oneV]; exact c
  refine ⟨(List.range n).map fun j => ds.getD (im.base + o + j) undef, ⟨by simp; omega, fun i v v' a b => ?_⟩, by simp, fun j v hv => ?_, fun v hv => ?_⟩
  · have hi : i < n := by
      have := (List.getElem?_eq_some_iff.1 a).1
      simp at this; omega
    obtain ⟨u, e1, e2, e3⟩ := get i hi
    rw [List.getElem?_map, List.getElem?_range hi] at b
    simp only [Option.map_some, Option.some.injEq] at b
    subst b
    rw [List.getElem!_eq_getElem?_getD, a] at e2
    simpa [Array.getD_eq_getD_getElem?, e1] using e2
  · have hj : j < n := by
      have := (List.getElem?_eq_some_iff.1 hv).1
      simpa using this
    obtain ⟨u, e1, e2, e3⟩ := get j hj
    rw [List.getElem?_map, List.getElem?_range hj] at hv
    simp only [Option.map_some, Option.some.injEq] at hv
    subst hv
    rw [add_none]
    simp [World.cell?, h1, e1, Array.getD_eq_getD_getElem?]
  · obtain ⟨j, hj, rfl⟩ := List.mem_map.1 hv
    obtain ⟨u, e1, e2, e3⟩ := get j (by simpa using hj)
    simpa [Array.getD_eq_getD_getElem?, e1] using e3
end
end Go.Proofs.YtlkceignfhnpoaaGreatDoor
namespace Go.Proofs.YtlkceignfhnpoaaGreatDoor
open Go

section
variable {P : Program} {φ φ' : Ren} {H : AH} {w w' : World}
theorem run_then {α β : Type} {m : Sem α} {a : α} (h : m.run P w = .ok a w') (f : α → Sem β) : (m >>= f).run P w = (f a).run P w' := by
  rw [Sem.run_bind, h]; rfl
/-- What an operation comes to, in the model. -/
structure Op1 (P : Program) (φ : Ren) (H : AH) (w : World) (s : Nat) (q : Out Value) (r : Result Next) (φ' : Ren) (v' : Value) (w' : World) : Prop where
  run : r = .ok (.value v') w' ∨ (r = .ok .skip w' ∧ v' = undef)
  nx : Nx φ φ' s q.s
  vr : VR φ' q.val v'
  wr : WR P φ' q.H w'
  tr : Trn φ H w φ' q.H w'
def OpR (P : Program) (φ : Ren) (H : AH) (w : World) (s : Nat) (q : Out Value) (r : Result Next) : Prop := ∃ φ' v' w', Op1 P φ H w s q r φ' v' w'
theorem OpR.same {s : Nat} {v v' : Value} {r : Result Next} {D W : List Nat} (hw : WR P φ H w) (hr : r = .ok (.value v') w) (hv : VR φ v v') : OpR P φ H w s ⟨v, H, s, D, W⟩ r :=
  ⟨φ, v', w, .inl hr, Nx.refl φ s, hv, hw, Trn.refl _ _ _⟩
theorem run_value {m : Sem Value} {v : Value} (h : m.run P w = .ok v w') : (do let x ← m; pure (Next.value x) : Sem Next).run P w = .ok (.value v) w' := by rw [run_then h]; rfl
theorem run_unit {m : Sem Unit} (h : m.run P w = .ok () w') : (do m; pure Next.skip : Sem Next).run P w = .ok .skip w' := by rw [run_then h]; rfl
theorem run_under {T : TypeId} {d : TypeDesc} (h : P.underlying T = some d) : (underlying T).run P w = .ok d w := run_underlying h w
theorem run_info {T : TypeId} {i : TypeInfo} (h : P.info? T = some i) : (typeInfo T).run P w = .ok i w := by
  unfold typeInfo
  rw [run_then (a := P) (w' := w) (by rfl)]
  simp [h]
theorem run_size {T : TypeId} {n : Nat} (h : szOf P T = some n) : (sizeOf T).run P w = .ok n w := by
  unfold szOf at h
  cases hi : P.info? T with
  | none => rw [hi] at h; cases h
  | some i =>
    rw [hi] at h
    simp only [Option.map_some, Option.some.injEq] at h
    unfold sizeOf
    rw [run_then (run_info hi), h]; rfl
theorem run_isAgg {T : TypeId} {b : Bool} (h : aggB P T = some b) : (isAgg T).run P w = .ok b w := by
  unfold aggB at h
  cases hi : P.underlying T with
  | none => rw [hi] at h; cases h
  | some d =>
    rw [hi] at h
    simp only [Option.map_some, Option.some.injEq] at h
    unfold isAgg
    rw [run_then (run_under hi)]
    subst h
    cases d <;> rfl
theorem run_zero {T : TypeId} {z : Value} (h : zeroOf P T = some z) : (zeroValue T).run P w = .ok z w ∧ z.cells.toList.all simpleV = true := by
  unfold zeroOf at h
  cases hi : P.info? T with
  | none => rw [hi] at h; cases h
  | some i =>
    rw [hi] at h
    simp only [Option.bind_some] at h
    cases hz : i.zero with
    | none => rw [hz] at h; cases h
    | some z2 =>
      rw [hz] at h
      simp only at h
      split at h
      · rename_i hs
        cases h
        refine ⟨?_, hs⟩
        unfold zeroValue
        rw [run_then (run_info hi)]
        simp [hz]
      · cases h
theorem ofZero {T : TypeId} {z : Value} (h : zeroOf P T = some z) : VR φ z z := by
  obtain ⟨_, hs⟩ := run_zero (w := default) h
  cases z with
  | agg cs =>
    have := (VL.simple (φ := φ) hs).array
    simp only [Array.toArray_toList] at this
    exact VR.mkAgg this
  | _ => exact VR.simple (by simpa [Value.cells] using hs)
/-! load, store -/
theorem load_ok {T : TypeId} {v v' : Value} {s : Nat} {q : Out Value} (h : aLoad P T v H s = some q) (hw : WR P φ H w) (hv : VR φ v v') :
    ∃ u, (Instr.loadAt T v').run P w = .ok u w ∧ VR φ q.val u ∧ q.H = H ∧ q.s = s := by
  unfold aLoad at h
  cases hv
  case ptr b o im him =>
    dsimp only at h
    unfold Instr.loadAt Instr.sureAddr
    rw [run_then (a := (⟨im.blk, im.base + o, none⟩ : Addr)) (w' := w) (by rfl)]
    unfold loadVar
    cases hag : aggB P T with
    | none => rw [hag] at h; cases h
    | some ag =>
      rw [hag] at h
      cases ag with
      | true =>
        cases hn : szOf P T with
        | none => rw [hn] at h; cases h
        | some n =>
          rw [hn] at h
          obtain ⟨o1, o2, e1, e2, rfl⟩ := AX.bind_some h
          obtain ⟨cs, T', wr, h1, h2, h3, h4, h5⟩ := readN_some e1
          have := ret_some e2
          subst this
          obtain ⟨im2, e3, r3⟩ := hw.img h1
          rw [him] at e3; cases e3
          obtain ⟨vs, k1, k2, k3, _⟩ := r3.readN h2
          rw [run_then (run_isAgg hag)]
          simp only [if_true]
          rw [run_then (run_size hn)]
          rw [run_then (a := vs.toArray) (w' := w) (by rw [← k2]; exact run_loadCells_list w _ vs k3)]
          exact ⟨_, rfl, by rw [h3]; exact VR.mkAgg k1.array, h4, h5⟩
      | false =>
        obtain ⟨o1, o2, e1, e2, rfl⟩ := AX.bind_some h
        obtain ⟨h1, h2, h3⟩ := cells_some e1
        obtain ⟨a, ha, rfl⟩ := ofOpt_some e2
        obtain ⟨im2, e3, r3⟩ := hw.img h1
        rw [him] at e3; cases e3
        obtain ⟨u, k1, k2, k3⟩ := r3.cell ha
        rw [run_then (run_isAgg hag)]
        simp only [Bool.false_eq_true, if_false]
        exact ⟨u, by simp [load, Sem.run, k1], k2, h2, h3⟩
  all_goals cases h
theorem setRow_kinds (g : Nat) (cs : Array Value) : (w.setRow g cs).os = w.os ∧ (w.setRow g cs).tape = w.tape ∧ (w.setRow g cs).output = w.output ∧ (w.setRow g cs).heap.size = w.heap.size := ⟨rfl, rfl, rfl, by simp [World.setRow]⟩
theorem setL_length : ∀ (vs : List Value) (o : Nat) (cs : List Value), (setL cs o vs).length = cs.length
  | [], o, cs => rfl
  | v :: r, o, cs => by simp [setL, setL_length r]
theorem setL_get : ∀ (vs : List Value) (o : Nat) (cs : List Value) (i : Nat), o + vs.length ≤ cs.length → (setL cs o vs)[i]? = if o ≤ i ∧ i < o + vs.length then vs[i - o]? else cs[i]?
  | [], o, cs, i, _ => by
    have hn : ¬ (o ≤ i ∧ i < o + ([] : List Value).length) := fun hx => by simp at hx; omega
    rw [if_neg hn]; rfl
  | v :: r, o, cs, i, h => by
    simp only [List.length_cons] at h ⊢
    rw [setL, setL_get r (o + 1) _ i (by simp; omega)]
    by_cases h1 : o + 1 ≤ i ∧ i < o + 1 + r.length
    · rw [if_pos h1, if_pos (by omega), show i - o = (i - (o + 1)) + 1 from by omega]; rfl
    · rw [if_neg h1, List.getElem?_set]
      by_cases h2 : o = i
      · subst h2
        rw [if_pos rfl, if_pos (by omega), if_pos (by omega)]
        simp
      · rw [if_neg h2, if_neg (by omega)]
/-- Cells are written. -/
theorem BR.stored {im : Img} {cs vs vs' : List Value} {T : TypeId} (hw : WR P φ H w) {b : Nat} (hb : H b = some (.cells cs T true)) (him : φ b = some im) {o : Nat} (ho : o + vs.length ≤ cs.length) (hv : VL φ vs vs') (h1 : vs.all oneV = true) :
    ∃ w', (storeCells ⟨im.blk, im.base + o, none⟩ vs').run P w = .ok () w' ∧ WR P φ (upd H b (some (.cells (setL cs o vs) T true))) w' ∧ Trn φ H w φ (upd H b (some (.cells (setL cs o vs) T true))) w' := by
  obtain ⟨im2, e2, r2⟩ := hw.img hb
  rw [him] at e2; cases e2
  obtain ⟨ds, T', fr, g1, g2, g3, g4, g5, g6⟩ := id r2
  obtain ⟨hfr, hT, g7⟩ := g6.1 rfl
  rw [hfr, hT] at g1
  have hl := hv.len
  have h1' : ∀ v ∈ vs', v.oneCell' = true := by
    intro v' hv'
    obtain ⟨i, hi, rfl⟩ := List.getElem_of_mem hv'
    have hi2 : i < vs.length := by omega
    have k := hv.at_ i vs[i] vs'[i] (List.getElem?_eq_getElem hi2) (List.getElem?_eq_getElem hi)
    rw [← oneV_eq, ← k.oneV]
    exact List.all_eq_true.1 h1 _ (List.getElem_mem hi2)
  have hrun := run_storeCells_at P im.blk (im.base + o) T vs' 0 ds w g1 (by omega) h1'
  simp only [Nat.add_zero] at hrun
  obtain ⟨k1, k2, k3, k4⟩ := setRow_kinds (w := w) im.blk (ds.toList.take (im.base + o) ++ vs' ++ ds.toList.drop (im.base + o + vs'.length)).toArray
  have hds : ds.size = ds.toList.length := by simp
  have hbr : BR P φ im (.cells (setL cs o vs) T true) (w.setRow im.blk (ds.toList.take (im.base + o) ++ vs' ++ ds.toList.drop (im.base + o + vs'.length)).toArray) := by
    refine ⟨_, T, (0, 0), setRow_heap _ _ _ _ _ _ g1, ?_, by rw [setL_length]; exact g3, fun i v hi => ?_, g5, fun _ => ⟨rfl, rfl, ?_⟩, fun h => (by cases h), fun _ h1 => ⟨(g6.2.2 rfl h1).1, fun h2 h3 => (g6.2.2 rfl h1).2 h2 (by rwa [setL_length] at h3)⟩⟩
    · simp only [List.size_toArray, List.length_append, List.length_take, List.length_drop]; omega
    · rw [setL_get _ _ _ _ ho] at hi
      split at hi
      · rename_i hr
        obtain ⟨u, b1, b2⟩ := hv.get hi
        refine ⟨u, ?_, b2, List.all_eq_true.1 h1 _ (List.mem_of_getElem? hi)⟩
        simp only [List.getElem?_toArray]
        rw [List.append_assoc, List.getElem?_append_right (by simp; omega), List.getElem?_append_left (by simp; omega)]
        rw [← b1]; congr 1; simp; omega
      · rename_i hr
        obtain ⟨u, b1, b2, b3⟩ := g4 i v hi
        refine ⟨u, ?_, b2, b3⟩
        have hil := (List.getElem?_eq_some_iff.1 hi).1
        simp only [List.getElem?_toArray]
        by_cases hlt : i < o
        · rw [List.append_assoc, List.getElem?_append_left (by simp; omega), List.getElem?_take, if_pos (by omega)]
          simpa using b1
        · rw [List.getElem?_append_right (by simp; omega), List.getElem?_drop, ← b1]
          simp only [List.length_append, List.length_take, ← hds]
          rw [← Array.getElem?_toList]
          congr 1; omega
    · simp only [List.size_toArray, List.length_append, List.length_take, List.length_drop]; omega
  obtain ⟨a1, a2⟩ := hw.turn (w' := w.setRow im.blk (ds.toList.take (im.base + o) ++ vs' ++ ds.toList.drop (im.base + o + vs'.length)).toArray) (x' := .cells (setL cs o vs) T true) hb rfl him k1 k2 k3 k4 (fun k hk => setRow_other _ _ _ _ hk) hbr rfl
  exact ⟨_, hrun, a1, a2⟩
theorem store_ok {T : TypeId} {p p' v v' : Value} {s : Nat} {q : Out Value} (h : aStore P T p v H s = some q) (hw : WR P φ H w) (hp : VR φ p p') (hv : VR φ v v') :
    ∃ w', (Instr.storeAt T p' v').run P w = .ok () w' ∧ q.val = undef ∧ WR P φ q.H w' ∧ Trn φ H w φ q.H w' ∧ q.s = s := by
  unfold aStore at h
  cases hp
  case ptr b o im him =>
    dsimp only at h
    split at h
    · rename_i hc
      obtain ⟨hsz, hone⟩ := hc
      obtain ⟨o1, o2, e1, e2, rfl⟩ := AX.bind_some h
      obtain ⟨h1, h2, h3⟩ := cells_some e1
      split at e2
      · rename_i hc2
        obtain ⟨hwr, hle⟩ := hc2
        obtain ⟨o3, o4, e3, e4, rfl⟩ := AX.bind_some e2
        simp only [AX.set, Option.some.injEq] at e3
        subst e3
        have := ret_some e4
        subst this
        rw [hwr] at h1
        obtain ⟨w', r1, r2, r3⟩ := BR.stored (vs := v.cells.toList) (vs' := v'.cells.toList) (o := o) hw h1 him (by simpa using hle) hv.cells.list hone
        refine ⟨w', ?_, rfl, by rw [h2]; exact r2, by rw [h2]; exact r3, h3⟩
        unfold Instr.storeAt Instr.sureAddr
        rw [run_then (a := (⟨im.blk, im.base + o, none⟩ : Addr)) (w' := w) (by rfl)]
        unfold storeVar
        rw [run_then (run_size hsz)]
        have he : v'.cells.size = v.cells.size := hv.size.symm
        simp only [he, ne_eq, not_true_eq_false, if_false]
        exact r1
      · cases e2
    · cases h
  all_goals cases h
/-! new blocks -/
theorem heap_push (o : Obj) : ({ w with heap := w.heap.push o } : World).heap[w.heap.size]? = some o := by simp
theorem push_old (o : Obj) {k : Nat} (h : k < w.heap.size) : ({ w with heap := w.heap.push o } : World).heap[k]? = w.heap[k]? := by
  simp only [Array.getElem?_push]; rw [if_neg (by omega)]
theorem new_cells {cs cs' : List Value} {T : TypeId} {s : Nat} (hw : WR P φ H w) (hs : φ s = none) (hv : VL φ cs cs') (h1 : cs.all oneV = true) :
    WR P (φ.put s ⟨w.heap.size, 0, cs.length, (szOf P T).getD 0⟩) (upd H s (some (.cells cs T true))) { w with heap := w.heap.push (.cells cs'.toArray T) } ∧
    Nx φ (φ.put s ⟨w.heap.size, 0, cs.length, (szOf P T).getD 0⟩) s (s + 1) ∧ Trn φ H w (φ.put s ⟨w.heap.size, 0, cs.length, (szOf P T).getD 0⟩) (upd H s (some (.cells cs T true))) { w with heap := w.heap.push (.cells cs'.toArray T) } := by
  have hl := hv.len
  refine hw.new (w' := { w with heap := w.heap.push (.cells cs'.toArray T) }) hs rfl rfl rfl rfl (by simp) (fun k hk => push_old _ hk) ?_
  refine ⟨cs'.toArray, T, (0, 0), heap_push _, by simp; omega, Nat.le_refl _, fun i v hi => ?_, rfl, fun _ => ⟨rfl, rfl, by simp; omega⟩, fun h => (by cases h), fun _ _ => ⟨rfl, fun _ h => h⟩⟩
  obtain ⟨u, b1, b2⟩ := hv.get hi
  exact ⟨u, by simpa using b1, b2.mono (ext_put hs), List.all_eq_true.1 h1 _ (List.mem_of_getElem? hi)⟩
theorem newC_ok {T : TypeId} {cs cs' : List Value} {s : Nat} {q : Out Value} (h : AX.newC T cs H s = some q) (hw : WR P φ H w) (hf : Free φ s q.s) (hv : VL φ cs cs') :
    ∃ φ', (newRow T cs'.toArray).run P w = .ok ⟨w.heap.size, 0, none⟩ { w with heap := w.heap.push (.cells cs'.toArray T) } ∧ Nx φ φ' s q.s ∧ VR φ' q.val (.pointer (some ⟨w.heap.size, 0, none⟩)) ∧ WR P φ' q.H { w with heap := w.heap.push (.cells cs'.toArray T) } ∧ Trn φ H w φ' q.H { w with heap := w.heap.push (.cells cs'.toArray T) } := by
  unfold AX.newC at h
  split at h
  · rename_i h1
    obtain ⟨o1, o2, e1, e2, rfl⟩ := AX.bind_some h
    simp only [AX.new, Option.some.injEq] at e1
    subst e1
    have := ret_some e2
    subst this
    have hs : φ s = none := hf s (Nat.le_refl _) (by simp)
    obtain ⟨a1, a2, a3⟩ := new_cells (T := T) hw hs hv h1
    refine ⟨_, by rfl, a2, ?_, a1, a3⟩
    have := VR.ptr (φ := φ.put s ⟨w.heap.size, 0, cs.length, (szOf P T).getD 0⟩) (b := s) (o := 0) (Ren.put_same _ _ _)
    exact this
  · cases h
theorem row_slice {φ : Ren} {b : Nat} {im : Img} (h : φ b = some im) (h0 : im.base = 0) {n : Nat} (hn : n * im.es ≤ im.lim) (hm : n ≤ maxLen) : VR φ (.slice (some ⟨b, 0, none⟩) n n) (.slice (some ⟨im.blk, 0, none⟩) n n) := by
  have := VR.slice (o := 0) h (Nat.le_refl n) (by omega) hm
  rw [h0] at this
  exact this
end
end Go.Proofs.YtlkceignfhnpoaaGreatDoor
namespace Go.Proofs.YtlkceignfhnpoaaGreatDoor
open Go

section
variable {P : Program} {φ φ' : Ren} {H : AH} {w w' : World}
theorem stat_bind {α β : Type} : ∀ (m : Sem α) (f : α → Sem β), stat P (m >>= f) = (stat P m).bind fun a => stat P (f a)
  | .pure b, f => rfl
  | .program k, f => stat_bind (k P) f
  | .load .., f => rfl
  | .store .., f => rfl
  | .new .., f => rfl
  | .shape .., f => rfl
  | .freeze .., f => rfl
  | .frozen .., f => rfl
  | .getObj .., f => rfl
  | .setObj .., f => rfl
  | .choose .., f => rfl
  | .sys .., f => rfl
  | .mark .., f => rfl
  | .halt .., f => rfl
theorem place_rel (off : Nat) : ∀ (l l' : List Value) (k : Nat) (a a' : Array Value), VL φ l l' → VA φ a a' →
    VA φ ((l.zipIdx k).foldl (fun cs x => cs.setIfInBounds (off + x.2) x.1) a) ((l'.zipIdx k).foldl (fun cs x => cs.setIfInBounds (off + x.2) x.1) a')
  | [], [], k, a, a', _, h => h
  | [], v :: r, k, a, a', hv, _ => by have := hv.len; simp at this
  | v :: r, [], k, a, a', hv, _ => by have := hv.len; simp at this
  | v :: r, v' :: r', k, a, a', hv, h => by
    simp only [List.zipIdx_cons, List.foldl_cons]
    exact place_rel off r r' (k + 1) _ _ ⟨by have := hv.len; simpa using this, fun i u u' x y => hv.at_ (i + 1) u u' (by simpa using x) (by simpa using y)⟩ (h.set _ (hv.at_ 0 v v' rfl rfl))
theorem place_arr (off : Nat) (v : Array Value) (a : Array Value) : v.zipIdx.foldl (fun cs (x : Value × Nat) => cs.setIfInBounds (off + x.2) x.1) a = (v.toList.zipIdx).foldl (fun cs x => cs.setIfInBounds (off + x.2) x.1) a := by
  rw [← Array.foldl_toList, Array.toList_zipIdx]
theorem fill_rel (place : Nat → Option (Nat × Nat)) : ∀ (l l' : List (Nat × Value)) (a a' r : Array Value), l.length = l'.length → (∀ (i : Nat) p p', l[i]? = some p → l'[i]? = some p' → p.1 = p'.1 ∧ VR φ p.2 p'.2) → VA φ a a' → Instr.fill place a l = some r → ∃ r', Instr.fill place a' l' = some r' ∧ VA φ r r'
  | [], [], a, a', r, _, _, h, e => by
    simp only [Instr.fill, Option.some.injEq] at e ⊢
    subst e; exact ⟨a', rfl, h⟩
  | [], p :: l', a, a', r, hl, _, _, _ => by simp at hl
  | p :: l, [], a, a', r, hl, _, _, _ => by simp at hl
  | (i, v) :: l, (i', v') :: l', a, a', r, hl, hp, h, e => by
    obtain ⟨hi, hv⟩ := hp 0 _ _ rfl rfl
    dsimp only at hi hv
    subst hi
    have hsz := hv.size
    have hal := h.len
    unfold Instr.fill at e ⊢
    cases hpl : place i with
    | none => rw [hpl] at e; cases e
    | some os =>
      rw [hpl] at e
      dsimp only at e ⊢
      rw [← hsz, ← hal]
      split at e
      · cases e
      · rename_i hc
        rw [if_neg hc]
        refine fill_rel place l l' _ _ r (by simpa using hl) (fun j p p' x y => hp (j + 1) p p' (by simpa using x) (by simpa using y)) ?_ e
        have e1 := place_arr os.1 v.cells a
        have e2 := place_arr os.1 v'.cells a'
        rw [e1, e2]
        exact place_rel os.1 _ _ 0 _ _ hv.cells.list h
/-- Parts of a value: places and values, over operands. -/
def Parts (φ : Ren) (ps ps' : Array (Nat × Value)) : Prop := ps.toList.length = ps'.toList.length ∧ ∀ (i : Nat) p p', ps.toList[i]? = some p → ps'.toList[i]? = some p' → p.1 = p'.1 ∧ VR φ p.2 p'.2
theorem build_ok {T : TypeId} {ps ps' : Array (Nat × Value)} {r : Value} (hz : (zeroOf P T).isSome = true) (hp : Parts φ ps ps') (h : stat P (Instr.build T ps) = some r) : ∃ r', (Instr.build T ps').run P w = .ok r' w ∧ VR φ r r' := by
  obtain ⟨z, hz⟩ := Option.isSome_iff_exists.1 hz
  have hzc : VA φ z.cells z.cells := (ofZero (φ := φ) hz).cells
  suffices hs : ∃ r', stat P (Instr.build T ps') = some r' ∧ VR φ r r' by
    obtain ⟨r', h1, h2⟩ := hs
    exact ⟨r', stat_run _ _ h1 w, h2⟩
  have hzs : stat P (zeroValue T) = some z := by
    unfold zeroOf at hz
    cases hi : P.info? T with
    | none => rw [hi] at hz; cases hz
    | some i =>
      rw [hi] at hz
      simp only [Option.bind_some] at hz
      cases hz2 : i.zero with
      | none => rw [hz2] at hz; cases hz
      | some z2 =>
        rw [hz2] at hz
        simp only at hz
        split at hz
        · cases hz
          have e : stat P (typeInfo T) = some i := by
            unfold typeInfo
            rw [stat_bind]
            show stat P (match P.info? T with | some i => pure i | none => stuck "no such type") = _
            rw [hi]; rfl
          unfold zeroValue
          rw [stat_bind, e]
          show stat P (match i.zero with | some v => pure v | none => unsupported (.resourceLimit "a value of more than 2^22 cells")) = _
          rw [hz2]; rfl
        · cases hz
  unfold Instr.build at h ⊢
  rw [stat_bind, hzs] at h
  rw [stat_bind, hzs]
  simp only [Option.bind_some] at h ⊢
  rw [stat_bind] at h ⊢
  cases hu : stat P (underlying T) with
  | none => rw [hu] at h; cases h
  | some d =>
    rw [hu] at h
    simp only [Option.bind_some] at h ⊢
    cases d
    case struct fields =>
      dsimp only at h ⊢
      rw [stat_bind] at h ⊢
      cases hm : stat P (fields.mapM fun f => do pure (f.offset, ← sizeOf f.type)) with
      | none => rw [hm] at h; cases h
      | some places =>
        rw [hm] at h
        simp only [Option.bind_some] at h ⊢
        cases hf : Instr.fill (fun x => places[x]?) z.cells ps.toList with
        | none => rw [hf] at h; cases h
        | some cs =>
          rw [hf] at h
          obtain ⟨cs', h1, h2⟩ := fill_rel _ _ _ _ _ _ hp.1 hp.2 hzc hf
          rw [h1]
          have : r = .agg cs := by simpa [stat, pure] using h.symm
          exact ⟨.agg cs', rfl, this ▸ VR.mkAgg h2⟩
    case array len e =>
      dsimp only at h ⊢
      rw [stat_bind] at h ⊢
      cases hm : stat P (sizeOf e) with
      | none => rw [hm] at h; cases h
      | some size =>
        rw [hm] at h
        simp only [Option.bind_some] at h ⊢
        cases hf : Instr.fill (fun i => some (i * size, size)) z.cells ps.toList with
        | none => rw [hf] at h; cases h
        | some cs =>
          rw [hf] at h
          obtain ⟨cs', h1, h2⟩ := fill_rel _ _ _ _ _ _ hp.1 hp.2 hzc hf
          rw [h1]
          have : r = .agg cs := by simpa [stat, pure] using h.symm
          exact ⟨.agg cs', rfl, this ▸ VR.mkAgg h2⟩
    all_goals cases h
theorem zeroRow_simple {z : Value} (h : z.cells.toList.all simpleV = true) (n : Nat) (hn : n ≠ 0 → z.cells.size ≠ 0) : (zeroRow z n).all simpleV = true := by
  unfold zeroRow
  rw [List.all_eq_true]
  intro v hv
  simp only [Array.toList_map, Array.toList_range, List.mem_map, List.mem_range] at hv
  obtain ⟨i, hi, rfl⟩ := hv
  have hne : n ≠ 0 := by omega
  rw [if_neg hne]
  have hsz := hn hne
  have hlt : i % z.cells.size < z.cells.size := Nat.mod_lt _ (by omega)
  rw [getElem!_pos z.cells _ hlt]
  exact List.all_eq_true.1 h _ (by simp)
theorem elem_under {T e : TypeId} (h : elemT P T = some e) : P.underlying T = some (.slice e) := by
  unfold elemT at h
  split at h
  · rename_i e' he; cases h; exact he
  · cases h
theorem run_pure {α : Type} (a : α) : (pure a : Sem α).run P w = .ok a w := rfl
theorem simple_one {v : Value} (h : simpleV v = true) : oneV v = true := by cases v <;> first | rfl | cases h
theorem intO_some {φ : Ren} {x x' : Option Value} {d : Nat} {l : Int} (h : intO x d = some l) (hx : ∀ v, x = some v → ∃ v', x' = some v' ∧ VR φ v v') (hn : x = none → x' = none) :
    (x' = none ∧ l = d) ∨ ∃ k, x' = some (.int k l) := by
  cases x with
  | none => left; simp [intO] at h; exact ⟨hn rfl, h.symm⟩
  | some v =>
    obtain ⟨v', e, hv⟩ := hx v rfl
    cases v <;> simp [intO] at h
    subst h
    cases hv
    exact .inr ⟨_, e⟩
theorem run_sliceBound {k : IntKind} {l : Int} {y : Nat} {c : BoundsCode} (h : 0 ≤ l ∧ l ≤ y) : (Instr.sliceBound (.int k l) y c).run P w = .ok l.toNat w := by
  unfold Instr.sliceBound asIntOf
  rw [run_then (a := (k, l)) (w' := w) rfl]
  simp only [h, and_self, if_true]
  rfl
theorem run_sliceBounds {isSlice : Bool} {lo hi lo' hi' : Option Value} {l hh : Int} {n cap : Nat} (hl : intO lo 0 = some l) (hh' : intO hi n = some hh)
    (hlo : ∀ v, lo = some v → ∃ v', lo' = some v' ∧ VR φ v v') (hlo0 : lo = none → lo' = none) (hhi : ∀ v, hi = some v → ∃ v', hi' = some v' ∧ VR φ v v') (hhi0 : hi = none → hi' = none) (hb : 0 ≤ l ∧ l ≤ hh ∧ hh ≤ n) (hcap : n ≤ cap) :
    (Instr.sliceBounds isSlice n cap lo' hi' none).run P w = .ok (l.toNat, hh.toNat, cap) w := by
  rcases intO_some hh' hhi hhi0 with ⟨e1, e2⟩ | ⟨k, e1⟩
  · rcases intO_some hl hlo hlo0 with ⟨e3, e4⟩ | ⟨k', e3⟩
    · rw [e1, e3, e2, e4]
      rfl
    · have h1 : ∀ c, (Instr.sliceBound (.int k' l) n c).run P w = .ok l.toNat w := fun c => run_sliceBound ⟨by omega, by omega⟩
      rw [e1, e3, e2]
      simp [Instr.sliceBounds, Sem.run_bind, Result.andThen, h1, run_pure]
  · have h2 : ∀ c, (Instr.sliceBound (.int k hh) cap c).run P w = .ok hh.toNat w := fun c => run_sliceBound ⟨by omega, by omega⟩
    rcases intO_some hl hlo hlo0 with ⟨e3, e4⟩ | ⟨k', e3⟩
    · rw [e1, e3, e4]
      simp [Instr.sliceBounds, Sem.run_bind, Result.andThen, h2, run_pure]
    · have h1 : ∀ c, (Instr.sliceBound (.int k' l) hh.toNat c).run P w = .ok l.toNat w := fun c => run_sliceBound ⟨by omega, by omega⟩
      rw [e1, e3]
      simp [Instr.sliceBounds, Sem.run_bind, Result.andThen, h2, h1, run_pure]
theorem slice_ok {T : TypeId} {x x' : Value} {lo hi lo' hi' : Option Value} {s : Nat} {q : Out Value} (h : aSlice P T x lo hi none H s = some q) (hw : WR P φ H w) (hx : VR φ x x')
    (hlo : ∀ v, lo = some v → ∃ v', lo' = some v' ∧ VR φ v v') (hlo0 : lo = none → lo' = none) (hhi : ∀ v, hi = some v → ∃ v', hi' = some v' ∧ VR φ v v') (hhi0 : hi = none → hi' = none) :
    ∃ v', (Instr.sliceAt T x' lo' hi' none).run P w = .ok v' w ∧ VR φ q.val v' ∧ q.H = H ∧ q.s = s := by
  have runs : ∀ {e size : Nat} {l hh : Int} {n cap : Nat} {a : Option Addr}, elemT P T = some e → szOf P e = some size → intO lo 0 = some l → intO hi n = some hh → (0 ≤ l ∧ l ≤ hh ∧ hh ≤ n) → n ≤ cap →
      (Instr.sliceAt T (.slice a n cap) lo' hi' none).run P w = .ok (.slice (if cap = l.toNat then a else a.map (·.add (l.toNat * size))) (hh.toNat - l.toNat) (cap - l.toNat)) w := by
    intro e size l hh n cap a he hs hl hh' hb hcap
    have hu := elem_under he
    unfold Instr.sliceAt
    rw [run_then (run_under hu)]
    dsimp only
    unfold Instr.slice
    rw [run_then (run_under hu)]
    dsimp only
    have hbd := run_sliceBounds (P := P) (w := w) (isSlice := true) hl hh' hlo hlo0 hhi hhi0 hb hcap
    rw [run_then hbd]
    dsimp only
    rw [run_then (run_size hs)]
    rfl
  unfold aSlice at h
  dsimp only at h
  cases hx
  case string str =>
    dsimp only at h
    cases hu : P.underlying T with
    | none => rw [hu] at h; cases h
    | some d =>
      rw [hu] at h
      cases d
      case string =>
        cases hl : intO lo 0 with
        | none => rw [hl] at h; cases h
        | some l =>
          cases hh : intO hi str.size with
          | none => rw [hl, hh] at h; cases h
          | some hh2 =>
            rw [hl, hh] at h
            dsimp only at h
            split at h
            · rename_i hb
              have := ret_some h
              subst this
              refine ⟨.string (str.extract l.toNat hh2.toNat), ?_, .string _, rfl, rfl⟩
              unfold Instr.sliceAt
              rw [run_then (run_under hu)]
              dsimp only
              unfold Instr.slice
              rw [run_then (run_under hu)]
              have hbd := run_sliceBounds (P := P) (w := w) (isSlice := false) hl hh hlo hlo0 hhi hhi0 hb (Nat.le_refl _)
              simp [Sem.run_bind, Result.andThen, hbd, run_pure]
            · cases h
      all_goals cases h
  case sliceNil =>
    dsimp only at h
    cases he : elemT P T with
    | none => rw [he] at h; cases h
    | some e =>
      rw [he] at h
      dsimp only at h
      cases hs : szOf P e with
      | none => rw [hs] at h; cases h
      | some size =>
        cases hl : intO lo 0 with
        | none => rw [hs, hl] at h; cases h
        | some l =>
          cases hh : intO hi 0 with
          | none => rw [hs, hl, hh] at h; cases h
          | some hh2 =>
            rw [hs, hl, hh] at h
            dsimp only at h
            split at h
            · rename_i hb
              have := ret_some h
              subst this
              have h0 : l = 0 := by omega
              have h1 : hh2 = 0 := by omega
              subst h0; subst h1
              exact ⟨_, runs (a := none) he hs hl hh hb (Nat.le_refl _), by simpa using VR.sliceNil, rfl, rfl⟩
            · cases h
  case slice b o n cap im him hn hc hm =>
    dsimp only at h
    cases he : elemT P T with
    | none => rw [he] at h; cases h
    | some e =>
      rw [he] at h
      dsimp only at h
      cases hs : szOf P e with
      | none => rw [hs] at h; cases h
      | some size =>
        cases hl : intO lo 0 with
        | none => rw [hs, hl] at h; cases h
        | some l =>
          cases hh : intO hi n with
          | none => rw [hs, hl, hh] at h; cases h
          | some hh2 =>
            rw [hs, hl, hh] at h
            dsimp only at h
            split at h
            · rename_i hb
              obtain ⟨o1, o2, e1, e2, rfl⟩ := AX.bind_some h
              obtain ⟨h1, h2, h3⟩ := cells_some e1
              split at e2
              · rename_i hsz
                have := ret_some e2
                subst this
                obtain ⟨im2, g1, g2⟩ := hw.img h1
                rw [him] at g1; cases g1
                obtain ⟨ds, T', fr, k1, k2, k3, k4, k5, k6⟩ := g2
                rw [hsz] at k5
                simp only [Option.getD_some] at k5
                refine ⟨_, runs (a := some ⟨im.blk, im.base + o, none⟩) he hs hl hh hb hn, ?_, h2, h3⟩
                by_cases hcl : cap = l.toNat
                · rw [if_pos hcl]
                  have e5 : hh2.toNat - l.toNat = 0 := by omega
                  have e6 : cap - l.toNat = 0 := by omega
                  rw [e5, e6]
                  exact VR.slice0
                · rw [if_neg hcl]
                  simp only [Option.map_some, add_none]
                  have hmul : (cap - l.toNat) * im.es + l.toNat * im.es = cap * im.es := by rw [← Nat.add_mul]; congr 1; omega
                  rw [k5] at hmul hc
                  rw [Nat.add_assoc]
                  exact VR.slice him (by omega) (by rw [k5]; omega) (by omega)
              · cases e2
            · cases h
  case slice0 b o a =>
    dsimp only at h
    cases he : elemT P T with
    | none => rw [he] at h; cases h
    | some e =>
      rw [he] at h
      dsimp only at h
      cases hs : szOf P e with
      | none => rw [hs] at h; cases h
      | some size =>
        cases hl : intO lo 0 with
        | none => rw [hs, hl] at h; cases h
        | some l =>
          cases hh : intO hi 0 with
          | none => rw [hs, hl, hh] at h; cases h
          | some hh2 =>
            rw [hs, hl, hh] at h
            dsimp only at h
            split at h
            · rename_i hb
              obtain ⟨o1, o2, e1, e2, rfl⟩ := AX.bind_some h
              obtain ⟨h1, h2, h3⟩ := cells_some e1
              split at e2
              · have := ret_some e2
                subst this
                have h0 : l = 0 := by omega
                have h1 : hh2 = 0 := by omega
                subst h0; subst h1
                refine ⟨_, runs (a := some a) he hs hl hh hb (Nat.le_refl _), ?_, h2, h3⟩
                simpa using VR.slice0
              · cases e2
            · cases h
  all_goals cases h
end
end Go.Proofs.YtlkceignfhnpoaaGreatDoor
namespace Go.Proofs.YtlkceignfhnpoaaGreatDoor
open Go

section
variable {P : Program} {φ φ' : Ren} {H : AH} {w w' : World}
theorem sz_info {T : TypeId} {n : Nat} (h : szOf P T = some n) : ∃ i, P.info? T = some i ∧ i.size = n := by
  unfold szOf at h
  cases hi : P.info? T with
  | none => rw [hi] at h; cases h
  | some i => rw [hi] at h; exact ⟨i, rfl, by simpa using h⟩
theorem zero_info {T : TypeId} {z : Value} (h : zeroOf P T = some z) : ∃ i, P.info? T = some i ∧ i.zero = some z := by
  unfold zeroOf at h
  cases hi : P.info? T with
  | none => rw [hi] at h; cases h
  | some i =>
    rw [hi] at h
    simp only [Option.bind_some] at h
    cases hz : i.zero with
    | none => rw [hz] at h; cases h
    | some z2 =>
      rw [hz] at h
      simp only at h
      split at h
      · cases h; exact ⟨i, rfl, hz⟩
      · cases h
/-- The cells of a slice's first elements, as they are read. -/
theorem sliceCells_ok {size : Nat} {x x' : Value} {s : Nat} {q : Out (List Value)} (h : sliceCells size x H s = some q) (hw : WR P φ H w) (hx : VR φ x x') :
    ∃ b n c vs, x' = .slice b n c ∧ VL φ q.val vs ∧ vs.length = n * size ∧ (∀ v ∈ vs, v.oneCell' = true) ∧ (∀ a, b = some a → ∀ j v, vs[j]? = some v → w.cell? (a.add j) = some v) ∧ (b = none → n = 0 ∧ c = 0) ∧ q.H = H ∧ q.s = s := by
  unfold sliceCells at h
  cases hx
  case sliceNil =>
    have := ret_some h
    subst this
    exact ⟨none, 0, 0, [], rfl, VL.nil, by simp, by simp, by simp, fun _ => ⟨rfl, rfl⟩, rfl, rfl⟩
  case slice b o n cap im him hn hc hm =>
    dsimp only at h
    split at h
    · rename_i h0
      have := ret_some h
      subst this; subst h0
      exact ⟨_, 0, cap, [], rfl, VL.nil, by simp, by simp, by simp, by simp, rfl, rfl⟩
    · obtain ⟨cs, T', wr, h1, h2, h3, h4, h5⟩ := readN_some h
      obtain ⟨im2, e3, r3⟩ := hw.img h1
      rw [him] at e3; cases e3
      obtain ⟨vs, k1, k2, k3, k4⟩ := r3.readN h2
      refine ⟨_, n, cap, vs, rfl, by rw [h3]; exact k1, k2, k4, fun a ha => ?_, by simp, h4, h5⟩
      cases ha; exact k3
  case slice0 b o a =>
    dsimp only at h
    rw [if_pos rfl] at h
    have := ret_some h
    subst this
    exact ⟨_, 0, 0, [], rfl, VL.nil, by simp, by simp, by simp, by simp, rfl, rfl⟩
  all_goals cases h
theorem run_firsts {size n c : Nat} {b : Option Addr} {vs : List Value} (hl : vs.length = n * size) (hb : ∀ a, b = some a → ∀ j v, vs[j]? = some v → w.cell? (a.add j) = some v) (h0 : b = none → n = 0 ∧ c = 0) :
    (Builtin.firstCells size n (.slice b n c)).run P w = .ok vs.toArray w := by
  cases b with
  | none =>
    obtain ⟨rfl, rfl⟩ := h0 rfl
    have : vs = [] := List.eq_nil_of_length_eq_zero (by simpa using hl)
    subst this
    rw [run_firstCells_none]
  | some a => exact run_firstCells_some (P := P) w size n a n c vs hl (hb a rfl)
theorem run_append_there {T ty e : TypeId} {i : TypeInfo} (ht : P.underlying T = some (.slice e)) (hi : P.info? e = some i) {b bx : Option Addr} {n cap m c : Nat} {news : List Value}
    (hf : (Builtin.firstCells i.size m (.slice bx m c)).run P w = .ok news.toArray w) (hr : n + m ≤ cap) (hs : ∀ a, b = some a → (storeCells (a.add (n * i.size)) news).run P w = .ok () w') (hb : b = none → w' = w) :
    (Builtin.append_ #[T, T] ty #[.slice b n cap, .slice bx m c]).run P w = .ok (.slice b (n + m) cap) w' := by
  cases b with
  | none =>
    have := hb rfl
    subst this
    simp [Builtin.append_, run_underlying ht, sizeOf, typeInfo, hi, Builtin.lenOf, hr, hf, Sem.run_bind, Result.andThen, run_pure]
  | some a =>
    have := hs a rfl
    simp [Builtin.append_, run_underlying ht, sizeOf, typeInfo, hi, Builtin.lenOf, hr, hf, Sem.run_bind, Result.andThen, run_pure, this]
/-- A new row, longer than what is known of it. -/
theorem new_longer {cs ds : List Value} {vs' : List Value} {T : TypeId} {s : Nat} (hw : WR P φ H w) (hs : φ s = none) (hv : VL φ cs vs') (h1 : cs.all oneV = true) (hnb : ¬ oddT T = true) (hp : ∀ (i : Nat) v, vs'[i]? = some v → ds[i]? = some v) (hl : cs.length ≤ ds.length) (hos : w'.os = w.os) (ht : w'.tape = w.tape) (ho : w'.output = w.output) (hheap : w'.heap = w.heap.push (.cells ds.toArray T)) :
    WR P (φ.put s ⟨w.heap.size, 0, ds.length, (szOf P T).getD 0⟩) (upd H s (some (.cells cs T true))) w' ∧ Nx φ (φ.put s ⟨w.heap.size, 0, ds.length, (szOf P T).getD 0⟩) s (s + 1) ∧ Trn φ H w (φ.put s ⟨w.heap.size, 0, ds.length, (szOf P T).getD 0⟩) (upd H s (some (.cells cs T true))) w' := by
  refine hw.new (w' := w') hs rfl hos ht ho (by rw [hheap]; simp) (fun k hk => ?_) ?_
  · rw [hheap, Array.getElem?_push, if_neg (by omega)]
  · refine ⟨ds.toArray, T, (0, 0), by rw [hheap]; simp, by simp, hl, fun i v hi => ?_, rfl, fun _ => ⟨rfl, rfl, by simp⟩, fun h => (by cases h), fun _ h => absurd h hnb⟩
    obtain ⟨u, b1, b2⟩ := hv.get hi
    exact ⟨u, by simpa using hp i u b1, b2.mono (ext_put hs), List.all_eq_true.1 h1 _ (List.mem_of_getElem? hi)⟩
theorem VL.all_one {l l' : List Value} (h : VL φ l l') (h1 : ∀ v ∈ l', v.oneCell' = true) : l.all oneV = true := by
  rw [List.all_eq_true]
  intro v hv
  obtain ⟨i, hi, rfl⟩ := List.getElem_of_mem hv
  obtain ⟨u, b1, b2⟩ := h.get (List.getElem?_eq_getElem hi)
  rw [b2.oneV, oneV_eq]
  exact h1 u (List.mem_of_getElem? b1)
theorem append_ok {T T2 ty : TypeId} {x x' y y' : Value} {s : Nat} {q : Out Value} (h : aAppend P T T2 x y H s = some q) (hw : WR P φ H w) (hx : VR φ x x') (hy : VR φ y y') (hf : Free φ s q.s) :
    ∃ φ' v' w', (Builtin.append_ #[T, T2] ty #[x', y']).run P w = .ok v' w' ∧ Nx φ φ' s q.s ∧ VR φ' q.val v' ∧ WR P φ' q.H w' ∧ Trn φ H w φ' q.H w' := by
  unfold aAppend at h
  cases he : elemT P T with
  | none => rw [he] at h; cases h
  | some e =>
    rw [he] at h
    dsimp only at h
    have hu := elem_under he
    cases hs : szOf P e with
    | none => rw [hs] at h; cases h
    | some size =>
      cases hz : zeroOf P e with
      | none => rw [hs, hz] at h; cases h
      | some z =>
        cases hby : bytesOfT P e with
        | none => rw [hs, hz, hby] at h; cases h
        | some by_ =>
          rw [hs, hz, hby] at h
          obtain ⟨i, hi, hisz⟩ := sz_info hs
          obtain ⟨i2, hi2, hiz⟩ := zero_info hz
          rw [hi] at hi2; cases hi2
          have hib : i.bytes = by_ := by
            unfold bytesOfT at hby
            rw [hi] at hby
            simpa using hby
          subst hisz
          have key : ∀ (base : Option Addr) (n cap : Nat) (bx : Option Addr) (m cx : Nat), x = .slice base n cap → y = .slice bx m cx → ∃ φ' v' w', (Builtin.append_ #[T, T2] ty #[x', y']).run P w = .ok v' w' ∧ Nx φ φ' s q.s ∧ VR φ' q.val v' ∧ WR P φ' q.H w' ∧ Trn φ H w φ' q.H w' := by
            intro base n cap bx m cx ex ey
            subst ex; subst ey
            dsimp only at h
            split at h
            · cases h
            · rename_i hT
              obtain ⟨hT, hnb⟩ : T2 = T ∧ ¬ oddT e = true := by simpa using hT
              subst hT
              split at h
              · rename_i hm0
                subst hm0
                have := ret_some h
                subst this
                have hy2 : ∃ b c, y' = .slice b 0 c := by cases hy <;> exact ⟨_, _, rfl⟩
                obtain ⟨b2, c2, rfl⟩ := hy2
                have hfc : (Builtin.firstCells i.size 0 (.slice b2 0 c2)).run P w = .ok #[] w := by
                  cases b2 with
                  | none => rw [run_firstCells_none]
                  | some a => simpa using run_firstCells_some (P := P) w i.size 0 a 0 c2 [] (by simp) (by simp)
                have hx2 : ∃ b n2 c, x' = .slice b n2 c ∧ n2 ≤ c := by
                  cases hx
                  case sliceNil => exact ⟨_, _, _, rfl, Nat.le_refl _⟩
                  case slice => exact ⟨_, _, _, rfl, by assumption⟩
                  case slice0 => exact ⟨_, _, _, rfl, Nat.le_refl _⟩
                obtain ⟨b1, n1, c1, rfl, hn1⟩ := hx2
                have hrun := run_append_there (ty := ty) (w' := w) (b := b1) (n := n1) (cap := c1) (news := []) hu hi hfc (by omega) (fun a _ => by simp [storeCells, run_pure]) (fun _ => rfl)
                exact ⟨φ, _, w, hrun, Nx.refl _ _, by simpa using hx, hw, Trn.refl _ _ _⟩
              · rename_i hm0
                split at h
                · rename_i hc
                  obtain ⟨hc1, hc2, hc3⟩ := hc
                  obtain ⟨o1, o2, e1, e2, rfl⟩ := AX.bind_some h
                  obtain ⟨by', my, cy, vs, ey, k1, k2, k3, k4, k5, k6, k7⟩ := sliceCells_ok e1 hw hy
                  have hmy : my = m := by
                    rw [ey] at hy
                    cases hy <;> rfl
                  subst hmy
                  subst ey
                  have hfc := run_firsts (P := P) (c := cy) k2 k4 k5
                  have hone1 := k1.all_one k3
                  have hbys : ∃ ay, by' = some ay := by
                    cases by' with
                    | none => exact absurd (k5 rfl).1 hm0
                    | some a => exact ⟨a, rfl⟩
                  obtain ⟨ay, rfl⟩ := hbys
                  have k4' := k4 ay rfl
                  have hfit : ∀ c, c < n + my → Builtin.nextslicecap (n + my) c * i.bytes ≤ 281474976710656 := fun c hcc => growslice_fits hcc (by rw [hib]; exact hc1)
                  have hzc : z.cells.size = i.size := hc3
                  cases base with
                  | none =>
                    dsimp only at e2
                    split at e2
                    · rename_i hn0
                      subst hn0
                      obtain ⟨o3, o4, e3, e4, rfl⟩ := AX.bind_some e2
                      simp only [AX.new, Option.some.injEq] at e3
                      subst e3
                      have := ret_some e4
                      subst this
                      have hx2 : x' = .slice none 0 0 := by cases hx; rfl
                      subst hx2
                      rw [k6, k7] at *
                      have hrun := run_append_nil w T2 ty e i z hu hi hiz ay my cy vs k2 k4' (by omega) (by omega) (by rw [hib]; have hc1' := hc1; rw [Nat.zero_add] at hc1'; omega)
                      have hge := grownCap_ge w my 0 e
                      have hcm := grownCap_le_maxLen w my 0 e (by unfold maxLen; omega)
                      obtain ⟨a1, a2, a3⟩ := new_longer (T := e) (w' := w.drew.alloc (.cells (vs.toArray ++ Builtin.zeroCells z.cells (grownCap w my 0 e - my)) e)) (ds := vs ++ (Builtin.zeroCells z.cells (grownCap w my 0 e - my)).toList) hw (hf s (Nat.le_refl _) (by simp)) k1 hone1 hnb (fun j v hv => by rw [List.getElem?_append_left (List.getElem?_eq_some_iff.1 hv).1]; exact hv) (by have := k1.len; simp; omega) rfl rfl rfl (by show w.heap.push _ = _; congr 2; simp)
                      refine ⟨_, _, _, hrun, a2, ?_, a1, a3⟩
                      have hlen : (vs ++ (Builtin.zeroCells z.cells (grownCap w my 0 e - my)).toList).length = grownCap w my 0 e * i.size := by
                        rw [List.length_append, k2, Array.length_toList, size_zeroCells, hzc, ← Nat.add_mul]
                        congr 1; omega
                      have hv := VR.slice (b := s) (o := 0) (n := my) (cap := grownCap w my 0 e) (Ren.put_same φ s ⟨w.heap.size, 0, (vs ++ (Builtin.zeroCells z.cells (grownCap w my 0 e - my)).toList).length, (szOf P e).getD 0⟩) hge (by rw [hs, hlen]; simp) hcm
                      exact hv
                    · cases e2
                  | some ab =>
                    obtain ⟨b, o, spot⟩ := ab
                    cases spot with
                    | some t => cases e2
                    | none =>
                      dsimp only at e2
                      obtain ⟨o3, o4, e3, e4, rfl⟩ := AX.bind_some e2
                      obtain ⟨g1, g2, g3⟩ := cells_some e3
                      split at e4
                      · rename_i hc4
                        obtain ⟨hwr, hTe, hlen4⟩ := hc4
                        obtain ⟨o5, o6, e5, e6, rfl⟩ := AX.bind_some e4
                        simp only [AX.set, Option.some.injEq] at e5
                        subst e5
                        obtain ⟨o7, o8, e7, e8, rfl⟩ := AX.bind_some e6
                        simp only [AX.new, Option.some.injEq] at e7
                        subst e7
                        have := ret_some e8
                        subst this
                        rw [hwr, hTe] at g1
                        rw [k6] at g1 g2
                        rw [k7] at g3
                        have hφs : φ s = none := hf s (Nat.le_refl _) (by simp [g3])
                        simp only [g2, g3]
                        obtain ⟨im, him, hbr⟩ := hw.img g1
                        obtain ⟨ds, T', fr, r1, r2, r3, r4, r5, r6⟩ := id hbr
                        obtain ⟨hfr, hT', r7⟩ := r6.1 rfl
                        rw [hfr, hT'] at r1
                        have hes : im.es = i.size := by rw [r5, hs]; rfl
                        generalize o3.val.1 = cs at *
                        have hold := hbr.readN (o := o) (n := n * i.size) (by omega)
                        obtain ⟨olds, d1, d2, d3, d4⟩ := hold
                        have grow : ∀ (a : Addr) (cap' : Nat), cap' < n + my → (∀ j v, olds[j]? = some v → w.cell? (a.add j) = some v) → ∃ φ' v' w', (Builtin.append_ #[T2, T2] ty #[.slice (some a) n cap', .slice (some ay) my cy]).run P w = .ok v' w' ∧ Nx φ φ' s (s + 1) ∧ VR φ' (.slice (some ⟨s, 0, none⟩) (n + my) (n + my)) v' ∧ WR P φ' (upd (upd H b none) s (some (.cells ((cs.drop o).take (n * i.size) ++ o1.val) e true))) w' ∧ Trn φ H w φ' (upd (upd H b none) s (some (.cells ((cs.drop o).take (n * i.size) ++ o1.val) e true))) w' := by
                          intro a cap' hcap' holds
                          have hrun := run_append_grow w T2 ty e i z hu hi hiz a n cap' olds d2 holds ay my cy vs k2 k4' hcap' (by omega) (hfit cap' hcap')
                          obtain ⟨b1, b2⟩ := hw.kill b
                          have hge := grownCap_ge w (n + my) cap' e
                          have hcm := grownCap_le_maxLen w (n + my) cap' e (by unfold maxLen; omega)
                          have hvl : VL φ ((cs.drop o).take (n * i.size) ++ o1.val) (olds ++ vs) := d1.append k1
                          have hov : (olds ++ vs).length = (n + my) * i.size := by rw [List.length_append, d2, k2, Nat.add_mul]
                          obtain ⟨a1, a2, a3⟩ := new_longer (T := e) (w' := w.drew.alloc (.cells (olds.toArray ++ vs.toArray ++ Builtin.zeroCells z.cells (grownCap w (n + my) cap' e - (n + my))) e)) (ds := olds ++ vs ++ (Builtin.zeroCells z.cells (grownCap w (n + my) cap' e - (n + my))).toList) b1 hφs hvl (hvl.all_one (fun v hv => by rcases List.mem_append.1 hv with h | h; exact d4 v h; exact k3 v h)) hnb (fun j v hv => by rw [List.getElem?_append_left (List.getElem?_eq_some_iff.1 hv).1]; exact hv) (by have := hvl.len; rw [@List.length_append _ (olds ++ vs)]; omega) rfl rfl rfl (by show w.heap.push _ = _; congr 2; simp)
                          refine ⟨_, _, _, hrun, a2, ?_, a1, b2.trans a3⟩
                          have hlen : (olds ++ vs ++ (Builtin.zeroCells z.cells (grownCap w (n + my) cap' e - (n + my))).toList).length = grownCap w (n + my) cap' e * i.size := by
                            rw [List.length_append, hov, Array.length_toList, size_zeroCells, hzc, ← Nat.add_mul]
                            congr 1; omega
                          exact VR.slice (b := s) (o := 0) (n := n + my) (cap := grownCap w (n + my) cap' e) (Ren.put_same φ s ⟨w.heap.size, 0, (olds ++ vs ++ (Builtin.zeroCells z.cells (grownCap w (n + my) cap' e - (n + my))).toList).length, (szOf P e).getD 0⟩) hge (by rw [hs, hlen]; simp) hcm
                        cases hx
                        case slice0 a =>
                          exact grow a 0 (by omega) (by have : olds = [] := List.eq_nil_of_length_eq_zero (by simpa using d2); subst this; simp)
                        case slice cap' im2 _ _ _ _ =>
                          have hb2 : φ b = some im2 := by assumption
                          have hn : n ≤ cap' := by assumption
                          have hc : o + cap' * im2.es ≤ im2.lim := by assumption
                          have hm : cap' ≤ maxLen := by assumption
                          rw [him] at hb2; cases hb2
                          by_cases hroom : n + my ≤ cap'
                          · have hvlen := k1.len
                            have hce : (n + my) * i.size ≤ cap' * i.size := Nat.mul_le_mul_right _ hroom
                            rw [Nat.add_mul] at hce
                            rw [hes] at hc
                            have hst := run_storeCells_at P im.blk (im.base + o + n * i.size) e vs 0 ds w r1 (by omega) k3
                            simp only [Nat.add_zero] at hst
                            have hrun := run_append_there (ty := ty) (b := some ⟨im.blk, im.base + o, none⟩) (n := n) (cap := cap') hu hi hfc hroom (fun a ha => by cases ha; rw [add_none]; exact hst) (fun h => by cases h)
                            obtain ⟨u1, u2, u3, u4⟩ := setRow_kinds (w := w) im.blk (ds.toList.take (im.base + o + n * i.size) ++ vs ++ ds.toList.drop (im.base + o + n * i.size + vs.length)).toArray
                            have hds : ds.size = ds.toList.length := by simp
                            have hvl : VL φ ((cs.drop o).take (n * i.size) ++ o1.val) (olds ++ vs) := d1.append k1
                            have hbr2 : BR P (φ.put s ⟨im.blk, im.base + o, im.lim - o, im.es⟩) ⟨im.blk, im.base + o, im.lim - o, im.es⟩ (.cells ((cs.drop o).take (n * i.size) ++ o1.val) e true) (w.setRow im.blk (ds.toList.take (im.base + o + n * i.size) ++ vs ++ ds.toList.drop (im.base + o + n * i.size + vs.length)).toArray) := by
                              refine ⟨_, e, (0, 0), setRow_heap _ _ _ _ _ _ r1, ?_, ?_, fun j v hj => ?_, r5, fun _ => ⟨rfl, rfl, ?_⟩, fun h => (by cases h), fun _ h => absurd h hnb⟩
                              · simp only [List.size_toArray, List.length_append, List.length_take, List.length_drop]; omega
                              · simp only [List.length_append, List.length_drop, List.length_take]; omega
                              · have hjl := (List.getElem?_eq_some_iff.1 hj).1
                                rw [List.length_append, List.length_take, List.length_drop] at hjl
                                by_cases hjo : j < n * i.size
                                · have hcj : cs[o + j]? = some v := by
                                    rw [List.getElem?_append_left (by simp; omega), List.getElem?_take, if_pos hjo, List.getElem?_drop] at hj
                                    exact hj
                                  obtain ⟨u, f1, f2, f3⟩ := r4 (o + j) v hcj
                                  refine ⟨u, ?_, f2.mono (ext_put hφs), f3⟩
                                  simp only [List.getElem?_toArray]
                                  rw [List.append_assoc, List.getElem?_append_left (by simp; omega), List.getElem?_take, if_pos (by omega)]
                                  rw [Nat.add_assoc]
                                  simpa using f1
                                · rw [List.getElem?_append_right (by simp; omega)] at hj
                                  obtain ⟨u, f1, f2⟩ := k1.get hj
                                  refine ⟨u, ?_, f2.mono (ext_put hφs), List.all_eq_true.1 hone1 _ (List.mem_of_getElem? hj)⟩
                                  simp only [List.getElem?_toArray]
                                  have hul := (List.getElem?_eq_some_iff.1 f1).1
                                  rw [List.length_take, List.length_drop] at hul
                                  rw [List.append_assoc, List.getElem?_append_right (by simp; omega), List.getElem?_append_left (by simp; omega), ← f1]
                                  congr 1
                                  simp; omega
                              · simp only [List.size_toArray, List.length_append, List.length_take, List.length_drop]; omega
                            obtain ⟨a1, a2, a3⟩ := hw.moved (im' := ⟨im.blk, im.base + o, im.lim - o, im.es⟩) (x' := .cells ((cs.drop o).take (n * i.size) ++ o1.val) e true) (w' := w.setRow im.blk (ds.toList.take (im.base + o + n * i.size) ++ vs ++ ds.toList.drop (im.base + o + n * i.size + vs.length)).toArray) g1 rfl him hφs rfl u1 u2 u3 u4 (fun k hk => setRow_other _ _ _ _ hk) hbr2 rfl
                            refine ⟨_, _, _, hrun, a2, ?_, a1, a3⟩
                            have := VR.slice (b := s) (o := 0) (n := n + my) (cap := cap') (Ren.put_same φ s ⟨im.blk, im.base + o, im.lim - o, im.es⟩) hroom (by simp only [hes]; omega) hm
                            exact this
                          · exact grow _ cap' (by omega) d3
                      · cases e4
                · cases h
          cases hx <;> cases hy <;> first | exact key _ _ _ _ _ _ rfl rfl | (cases h)
end
end Go.Proofs.YtlkceignfhnpoaaGreatDoor
namespace Go.Proofs.YtlkceignfhnpoaaGreatDoor
open Go

section
variable {P : Program} {φ φ' : Ren} {H : AH} {w w' : World}
theorem ofStat_some {m : Sem Value} {s : Nat} {q : Out Value} (h : ofStat P m H s = some q) : ∃ v, stat P m = some v ∧ flat v = true ∧ q = ⟨v, H, s, [], []⟩ := by
  unfold ofStat at h
  cases hm : stat P m with
  | none => rw [hm] at h; cases h
  | some v =>
    rw [hm] at h
    dsimp only at h
    split at h
    · rename_i hf
      exact ⟨v, rfl, hf, ret_some h⟩
    · cases h
theorem stat_ok {m : Sem Value} {s : Nat} {q : Out Value} (h : ofStat P m H s = some q) : ∃ v', m.run P w = .ok v' w ∧ VR φ q.val v' ∧ q.H = H ∧ q.s = s := by
  obtain ⟨v, h1, h2, rfl⟩ := ofStat_some h
  exact ⟨v, stat_run _ _ h1 w, VR.flat h2, rfl, rfl⟩
theorem nilCheck_ok {x x' : Value} {s : Nat} {q : Out Value} (h : aNilCheck x H s = some q) (hx : VR φ x x') : ((∃ a, x' = .pointer (some a)) ∨ ∃ f fs cs, x' = .func (.func f) fs cs) ∧ VR φ q.val x' ∧ q.H = H ∧ q.s = s := by
  unfold aNilCheck at h
  cases hx
  case ptr b o im him =>
    have := ret_some h
    subst this
    exact ⟨.inl ⟨_, rfl⟩, VR.ptr him, rfl, rfl⟩
  case func f fs gs cs ds h1 h2 h3 h4 =>
    have := ret_some h
    subst this
    exact ⟨.inr ⟨_, _, _, rfl⟩, VR.func fs gs cs ds h1 h2 h3 h4, rfl, rfl⟩
  all_goals cases h
theorem run_equalPtr {T e : TypeId} {a b : Option Addr} (hT : P.underlying T = some (.pointer e)) (h : a.isNone = true ∨ b.isNone = true) : (Op.equal T (.pointer a) (.pointer b)).run P w = .ok (a.isNone && b.isNone) w := by
  show (Op.equalIn (9999 + 1) T (.pointer a) (.pointer b)).run P w = _
  unfold Op.equalIn
  rw [run_then (run_under hT)]
  cases a with
  | none => cases b <;> rfl
  | some a =>
    cases b with
    | none => rfl
    | some b => simp at h
theorem run_equalSlice {T e : TypeId} {a b : Option Addr} {n c m d : Nat} (hT : P.underlying T = some (.slice e)) (h : a.isNone = true ∨ b.isNone = true) : (Op.equal T (.slice a n c) (.slice b m d)).run P w = .ok (a.isNone && b.isNone) w := by
  show (Op.equalIn (9999 + 1) T (.slice a n c) (.slice b m d)).run P w = _
  unfold Op.equalIn
  rw [run_then (run_under hT)]
  cases a with
  | none => cases b <;> rfl
  | some a =>
    cases b with
    | none => rfl
    | some b => simp at h
theorem bin_ok {op : BinOp} {T : TypeId} {ox oy : Operand} {x x' y y' : Value} {s : Nat} {q : Out Value} (h : aBin P op T ox oy x y H s = some q) (hx : VR φ x x') (hy : VR φ y y') :
    ∃ v', (do eqGuard op T ox oy x' y'; binOp op T x' y' : Sem Value).run P w = .ok v' w ∧ VR φ q.val v' ∧ q.H = H ∧ q.s = s := by
  unfold aBin at h
  split at h
  · rename_i hf
    simp only [Bool.and_eq_true] at hf
    rw [hx.flat_eq hf.1, hy.flat_eq hf.2]
    exact stat_ok h
  · have ptr : ∀ (a b a' b' : Option Addr), x = .pointer a → y = .pointer b → x' = .pointer a' → y' = .pointer b' → a.isNone = a'.isNone ∧ b.isNone = b'.isNone := by
      intro a b a' b' e1 e2 e3 e4
      subst e1; subst e2; subst e3; subst e4
      constructor
      · cases hx <;> rfl
      · cases hy <;> rfl
    have isP : isPtrT P T = true → ∃ e, P.underlying T = some (.pointer e) := by
      intro hp
      unfold isPtrT at hp
      split at hp
      · rename_i e he; exact ⟨e, he⟩
      · cases hp
    have ends : ∀ (a : Option Addr), x = .pointer a → ∃ a', x' = .pointer a' := by
      intro a e; subst e; cases hx <;> exact ⟨_, rfl⟩
    have endsy : ∀ (a : Option Addr), y = .pointer a → ∃ a', y' = .pointer a' := by
      intro a e; subst e; cases hy <;> exact ⟨_, rfl⟩
    have sl : ∀ (a b : Option Addr) (n c m d : Nat), x = .slice a n c → y = .slice b m d → ∃ a' b' n' c' m' d', x' = .slice a' n' c' ∧ y' = .slice b' m' d' ∧ a.isNone = a'.isNone ∧ b.isNone = b'.isNone := by
      intro a b n c m d e1 e2
      subst e1; subst e2
      have f : ∀ (a : Option Addr) (n c : Nat) (u' : Value), VR φ (.slice a n c) u' → ∃ a' n' c', u' = .slice a' n' c' ∧ a.isNone = a'.isNone := by
        intro a n c u' hu
        cases hu <;> exact ⟨_, _, _, rfl, rfl⟩
      obtain ⟨a', n', c', h1, h2⟩ := f _ _ _ _ hx
      obtain ⟨b', m', d', h3, h4⟩ := f _ _ _ _ hy
      exact ⟨a', b', n', c', m', d', h1, h3, h2, h4⟩
    have isE : (elemT P T).isSome = true → ∃ e, P.underlying T = some (.slice e) := by
      intro he
      obtain ⟨e, he⟩ := Option.isSome_iff_exists.1 he
      exact ⟨e, elem_under he⟩
    split at h
    · obtain ⟨a', rfl⟩ := ends _ rfl
      obtain ⟨b', rfl⟩ := endsy _ rfl
      obtain ⟨e1, e2⟩ := ptr _ _ a' b' rfl rfl rfl rfl
      split at h
      · rename_i hc
        simp only [Bool.and_eq_true, Bool.or_eq_true] at hc
        have := ret_some h
        subst this
        obtain ⟨e, he⟩ := isP hc.1
        rw [e1, e2] at hc
        have hr := run_equalPtr (w := w) (a := a') (b := b') he hc.2
        refine ⟨.bool (a'.isNone && b'.isNone), ?_, by rw [e1, e2]; exact VR.bool _, rfl, rfl⟩
        rw [run_then (a := ()) (w' := w) rfl]
        show (do pure (.bool (← Op.equal T (.pointer a') (.pointer b'))) : Sem Value).run P w = _
        rw [run_then hr]; rfl
      · cases h
    · obtain ⟨a', rfl⟩ := ends _ rfl
      obtain ⟨b', rfl⟩ := endsy _ rfl
      obtain ⟨e1, e2⟩ := ptr _ _ a' b' rfl rfl rfl rfl
      split at h
      · rename_i hc
        simp only [Bool.and_eq_true, Bool.or_eq_true] at hc
        have := ret_some h
        subst this
        obtain ⟨e, he⟩ := isP hc.1
        rw [e1, e2] at hc
        have hr := run_equalPtr (w := w) (a := a') (b := b') he hc.2
        refine ⟨.bool (!(a'.isNone && b'.isNone)), ?_, by rw [e1, e2]; exact VR.bool _, rfl, rfl⟩
        rw [run_then (a := ()) (w' := w) rfl]
        show (do pure (.bool (!(← Op.equal T (.pointer a') (.pointer b')))) : Sem Value).run P w = _
        rw [run_then hr]; rfl
      · cases h
    · obtain ⟨a', b', n', c', m', d', rfl, rfl, e1, e2⟩ := sl _ _ _ _ _ _ rfl rfl
      split at h
      · rename_i hc
        simp only [Bool.and_eq_true, Bool.or_eq_true] at hc
        have := ret_some h
        subst this
        obtain ⟨e, he⟩ := isE hc.1
        rw [e1, e2] at hc
        have hr := run_equalSlice (w := w) (a := a') (b := b') (n := n') (c := c') (m := m') (d := d') he hc.2
        refine ⟨.bool (a'.isNone && b'.isNone), ?_, by rw [e1, e2]; exact VR.bool _, rfl, rfl⟩
        rw [run_then (a := ()) (w' := w) rfl]
        show (do pure (.bool (← Op.equal T (.slice a' n' c') (.slice b' m' d'))) : Sem Value).run P w = _
        rw [run_then hr]; rfl
      · cases h
    · obtain ⟨a', b', n', c', m', d', rfl, rfl, e1, e2⟩ := sl _ _ _ _ _ _ rfl rfl
      split at h
      · rename_i hc
        simp only [Bool.and_eq_true, Bool.or_eq_true] at hc
        have := ret_some h
        subst this
        obtain ⟨e, he⟩ := isE hc.1
        rw [e1, e2] at hc
        have hr := run_equalSlice (w := w) (a := a') (b := b') (n := n') (c := c') (m := m') (d := d') he hc.2
        refine ⟨.bool (!(a'.isNone && b'.isNone)), ?_, by rw [e1, e2]; exact VR.bool _, rfl, rfl⟩
        rw [run_then (a := ()) (w' := w) rfl]
        show (do pure (.bool (!(← Op.equal T (.slice a' n' c') (.slice b' m' d')))) : Sem Value).run P w = _
        rw [run_then hr]; rfl
      · cases h
    · cases h
theorem part_ok {T : TypeId} {cs ds : Array Value} {off : Nat} {v : Value} (h : aPart P T cs off = some v) (hv : VA φ cs ds) : ∃ v', (part T ds off).run P w = .ok v' w ∧ VR φ v v' := by
  unfold aPart at h
  cases ha : aggB P T with
  | none => rw [ha] at h; cases h
  | some b =>
    rw [ha] at h
    unfold part
    rw [run_then (run_isAgg ha)]
    cases b with
    | true =>
      dsimp only at h
      cases hs : szOf P T with
      | none => rw [hs] at h; cases h
      | some n =>
        rw [hs] at h
        simp only [Option.map_some, Option.some.injEq] at h
        subst h
        simp only [if_true]
        rw [run_then (run_size hs)]
        refine ⟨.agg (ds.extract off (off + n)), rfl, VR.mkAgg ⟨by simp [hv.len], fun i u u' a b => ?_⟩⟩
        rw [Array.getElem?_extract] at a b
        split at a
        · rename_i hi
          rw [if_pos (by have := hv.len; omega)] at b
          exact hv.at_ _ u u' a b
        · cases a
    | false =>
      dsimp only at h
      obtain ⟨u, e1, e2⟩ := hv.get h
      simp only [Bool.false_eq_true, if_false]
      exact ⟨u, by rw [e1]; rfl, e2⟩
theorem fieldOf_some {T : TypeId} {i : Nat} {f : Field} (h : fieldOf P T i = some f) : ∃ fs, P.underlying T = some (.struct fs) ∧ fs[i]? = some f := by
  unfold fieldOf at h
  split at h
  · rename_i fs hfs; exact ⟨fs, hfs, h⟩
  · cases h
theorem field_ok {T : TypeId} {x x' : Value} {i : Nat} {s : Nat} {q : Out Value} (h : aField P T x i H s = some q) (hx : VR φ x x') : ∃ v', (Instr.field T x' i).run P w = .ok v' w ∧ VR φ q.val v' ∧ q.H = H ∧ q.s = s := by
  unfold aField at h
  cases hf : fieldOf P T i with
  | none => rw [hf] at h; cases h
  | some f =>
    rw [hf] at h
    obtain ⟨fs, h1, h2⟩ := fieldOf_some hf
    cases hx
    case agg cs ds k1 k2 =>
      obtain ⟨a, ha, rfl⟩ := ofOpt_some h
      obtain ⟨v', r1, r2⟩ := part_ok (w := w) ha ⟨k1, k2⟩
      refine ⟨v', ?_, r2, rfl, rfl⟩
      unfold Instr.field
      rw [run_then (run_under h1)]
      dsimp only
      rw [h2]
      dsimp only
      rw [run_then (a := ds) (w' := w) rfl]
      exact r1
    all_goals cases h
theorem fieldAddr_ok {T : TypeId} {x x' : Value} {i : Nat} {s : Nat} {q : Out Value} (h : aFieldAddr P T x i H s = some q) (hx : VR φ x x') : ∃ v', (Instr.fieldAt T x' i).run P w = .ok v' w ∧ VR φ q.val v' ∧ q.H = H ∧ q.s = s := by
  unfold aFieldAddr at h
  cases hf : fieldOf P T i with
  | none => rw [hf] at h; cases h
  | some f =>
    rw [hf] at h
    obtain ⟨fs, h1, h2⟩ := fieldOf_some hf
    cases hx
    case ptr b o im him =>
      dsimp only at h
      split at h
      · cases h
      · rename_i hz
        have := ret_some h
        subst this
        cases hs : szOf P f.type with
        | none => exact absurd (Or.inr hs) hz
        | some n =>
          have hn : n ≠ 0 := fun e => hz (.inl (by rw [hs, e]))
          refine ⟨.pointer (some ⟨im.blk, im.base + (o + f.offset), none⟩), ?_, VR.ptr him, rfl, rfl⟩
          unfold Instr.fieldAt
          rw [run_then (run_under h1)]
          dsimp only
          rw [h2]
          dsimp only
          rw [run_then (a := (⟨im.blk, im.base + o, none⟩ : Addr)) (w' := w) rfl]
          have hp : (fieldPlace ⟨im.blk, im.base + o, none⟩ f).run P w = .ok ⟨im.blk, im.base + o + f.offset, none⟩ w := by
            unfold fieldPlace
            rw [run_then (run_size hs), if_neg hn, add_none]; rfl
          rw [run_then hp, Nat.add_assoc]; rfl
    all_goals cases h
theorem indexAddr_ok {T : TypeId} {x x' i i' : Value} {s : Nat} {q : Out Value} (h : aIndexAddr P T x i H s = some q) (hx : VR φ x x') (hi : VR φ i i') : ∃ v', (Instr.indexAt T x' i').run P w = .ok v' w ∧ VR φ q.val v' ∧ q.H = H ∧ q.s = s := by
  unfold aIndexAddr at h
  cases hi
  case int k n =>
    dsimp only at h
    cases hu : P.underlying T with
    | none => rw [hu] at h; cases h
    | some d =>
      rw [hu] at h
      unfold Instr.indexAt
      rw [run_then (a := (k, n)) (w' := w) rfl]
      cases d
      case array len e =>
        cases hx
        case ptr b o im him =>
          dsimp only at h ⊢
          cases hs : szOf P e with
          | none => rw [hs] at h; cases h
          | some size =>
            rw [hs] at h
            dsimp only at h
            split at h
            · rename_i hb
              have := ret_some h
              subst this
              refine ⟨.pointer (some ⟨im.blk, im.base + (o + n.toNat * size), none⟩), ?_, VR.ptr him, rfl, rfl⟩
              rw [run_then (run_under hu)]
              dsimp only
              rw [run_then (a := (⟨im.blk, im.base + o, none⟩ : Addr)) (w' := w) rfl, run_then (a := (some (⟨im.blk, im.base + o, none⟩ : Addr), len, e)) (w' := w) rfl]
              dsimp only
              rw [run_then (run_under hu)]
              simp only [hb, and_self, if_true]
              rw [run_then (run_size hs), add_none, Nat.add_assoc]; rfl
            · cases h
        all_goals cases h
      case slice e =>
        cases hx
        case slice b o len cap im him hn hc hm =>
          dsimp only at h ⊢
          cases hs : szOf P e with
          | none => rw [hs] at h; cases h
          | some size =>
            rw [hs] at h
            dsimp only at h
            split at h
            · rename_i hb
              have := ret_some h
              subst this
              refine ⟨.pointer (some ⟨im.blk, im.base + (o + n.toNat * size), none⟩), ?_, VR.ptr him, rfl, rfl⟩
              rw [run_then (run_under hu)]
              dsimp only
              rw [run_then (a := (some (⟨im.blk, im.base + o, none⟩ : Addr), len, e)) (w' := w) rfl]
              dsimp only
              rw [run_then (run_under hu)]
              simp only [hb, and_self, if_true]
              rw [run_then (run_size hs), add_none, Nat.add_assoc]; rfl
            · cases h
        case slice0 b o a =>
          dsimp only at h
          cases hs : szOf P e with
          | none => rw [hs] at h; cases h
          | some size =>
            rw [hs] at h
            dsimp only at h
            split at h
            · rename_i hb; omega
            · cases h
        all_goals cases h
      all_goals (cases hx <;> cases h)
  all_goals cases h
theorem index_ok {T : TypeId} {x x' i i' : Value} {s : Nat} {q : Out Value} (h : aIndex P T x i H s = some q) (hx : VR φ x x') (hi : VR φ i i') : ∃ v', (Instr.index T x' i').run P w = .ok v' w ∧ VR φ q.val v' ∧ q.H = H ∧ q.s = s := by
  unfold aIndex at h
  cases hx
  case agg cs ds k1 k2 =>
    cases hi
    case int k n =>
      dsimp only at h
      cases hu : P.underlying T with
      | none => rw [hu] at h; cases h
      | some d =>
        rw [hu] at h
        cases d
        case array len e =>
          dsimp only at h
          cases hs : szOf P e with
          | none => rw [hs] at h; cases h
          | some size =>
            rw [hs] at h
            dsimp only at h
            split at h
            · rename_i hb
              obtain ⟨a, ha, rfl⟩ := ofOpt_some h
              obtain ⟨v', r1, r2⟩ := part_ok (w := w) ha ⟨k1, k2⟩
              refine ⟨v', ?_, r2, rfl, rfl⟩
              unfold Instr.index
              rw [run_then (a := (k, n)) (w' := w) rfl]
              dsimp only
              rw [run_then (run_under hu)]
              simp only [hb, and_self, if_true]
              rw [run_then (run_size hs)]
              exact r1
            · cases h
        all_goals cases h
    all_goals cases h
  case string str =>
    cases hi
    case int k n => exact stat_ok h
    all_goals cases h
  all_goals (cases hi <;> cases h)
theorem extract_ok {x x' v : Value} {i : Nat} {vs : Array Value} (hx : VR φ x x') (he : x = .tuple vs) (h : vs[i]? = some v) : ∃ v', (Instr.extract x' i).run P w = .ok v' w ∧ VR φ v v' := by
  subst he
  cases hx
  case tuple ds k1 k2 =>
    obtain ⟨u, e1, e2⟩ := VA.get ⟨k1, k2⟩ h
    refine ⟨u, ?_, e2⟩
    unfold Instr.extract
    dsimp only
    rw [e1]; rfl
theorem len_ok {T ty : TypeId} {x x' : Value} {s : Nat} {q : Out Value} (h : aLen P T x H s = some q) (hw : WR P φ H w) (hx : VR φ x x') : ∃ v', (Builtin.len_ #[T] ty #[x']).run P w = .ok v' w ∧ VR φ q.val v' ∧ q.H = H ∧ q.s = s := by
  unfold aLen at h
  cases hu : P.underlying T with
  | none => rw [hu] at h; cases h
  | some d =>
    rw [hu] at h
    cases d
    case string =>
      cases hx
      case string str =>
        have := ret_some h
        subst this
        refine ⟨_, by simp [Builtin.len_, run_underlying hu, Sem.run_bind, Result.andThen, run_pure, goInt], VR.int _ _, rfl, rfl⟩
      all_goals cases h
    case slice e =>
      cases hx
      case sliceNil =>
        have := ret_some h
        subst this
        exact ⟨_, by simp [Builtin.len_, run_underlying hu, Sem.run_bind, Result.andThen, run_pure, goInt], VR.int _ _, rfl, rfl⟩
      case slice b o len cap im him hn hc hm =>
        have := ret_some h
        subst this
        exact ⟨_, by simp [Builtin.len_, run_underlying hu, Sem.run_bind, Result.andThen, run_pure, goInt], VR.int _ _, rfl, rfl⟩
      case slice0 b o a =>
        have := ret_some h
        subst this
        exact ⟨_, by simp [Builtin.len_, run_underlying hu, Sem.run_bind, Result.andThen, run_pure, goInt], VR.int _ _, rfl, rfl⟩
      all_goals cases h
    case array n e =>
      cases hx
      case agg cs ds k1 k2 =>
        have := ret_some h
        subst this
        exact ⟨_, by simp [Builtin.len_, run_underlying hu, Sem.run_bind, Result.andThen, run_pure, goInt], VR.int _ _, rfl, rfl⟩
      all_goals cases h
    case map k e =>
      cases hx
      case mapNil =>
        have := ret_some h
        subst this
        exact ⟨_, by simp [Builtin.len_, run_underlying hu, Sem.run_bind, Result.andThen, run_pure, goInt], VR.int _ _, rfl, rfl⟩
      case map b im him =>
        obtain ⟨o1, o2, e1, e2, rfl⟩ := AX.bind_some h
        obtain ⟨h1, h2, h3⟩ := entries_some e1
        have := ret_some e2
        subst this
        obtain ⟨im2, e3, r3⟩ := hw.img h1
        rw [him] at e3; cases e3
        obtain ⟨es, clock, g1, g2, g3⟩ := r3
        have hl : (o1.val.length : Int) = es.size := by have := g2.len; simp at this; omega
        refine ⟨.int .i64 es.size, ?_, by rw [hl]; exact VR.int _ _, h2, h3⟩
        have hg : (getObj im.blk).run P w = .ok (.map es clock) w := by simp [getObj, Sem.run, g1]
        simp [Builtin.len_, run_underlying hu, Sem.run_bind, Result.andThen, run_pure, goInt, hg]
      all_goals cases h
    all_goals (cases hx <;> cases h)
theorem makeSlice_ok {T : TypeId} {l l' c c' : Value} {s : Nat} {q : Out Value} (h : aMakeSlice P T l c H s = some q) (hw : WR P φ H w) (hl : VR φ l l') (hc : VR φ c c') (hf : Free φ s q.s) :
    ∃ φ' v' w', (Instr.makeSlice T l' c').run P w = .ok v' w' ∧ Nx φ φ' s q.s ∧ VR φ' q.val v' ∧ WR P φ' q.H w' ∧ Trn φ H w φ' q.H w' := by
  unfold aMakeSlice at h
  cases hl
  case int k n =>
    cases hc
    case int k2 m =>
      dsimp only at h
      cases he : elemT P T with
      | none => rw [he] at h; cases h
      | some e =>
        rw [he] at h
        dsimp only at h
        cases hs : szOf P e with
        | none => rw [hs] at h; cases h
        | some size =>
          cases hz : zeroOf P e with
          | none => rw [hs, hz] at h; cases h
          | some z =>
            cases hby : bytesOfT P e with
            | none => rw [hs, hz, hby] at h; cases h
            | some by_ =>
              rw [hs, hz, hby] at h
              dsimp only at h
              split at h
              · rename_i hcond
                obtain ⟨hnm, h0, hwr, hbytes⟩ := hcond
                subst hnm
                split at h
                · rename_i hsim
                  obtain ⟨o1, o2, e1, e2, rfl⟩ := AX.bind_some h
                  simp only [AX.new, Option.some.injEq] at e1
                  subst e1
                  have := ret_some e2
                  subst this
                  obtain ⟨i, hi, hisz⟩ := sz_info hs
                  have hib : i.bytes = by_ := by
                    unfold bytesOfT at hby
                    rw [hi] at hby
                    simpa using hby
                  have hone : (zeroRow z (n.toNat * size)).all oneV = true := by
                    rw [List.all_eq_true] at hsim ⊢
                    exact fun v hv => simple_one (hsim v hv)
                  obtain ⟨a1, a2, a3⟩ := new_cells (T := e) hw (hf s (Nat.le_refl _) (by simp)) (VL.simple (φ := φ) hsim) hone
                  have hzl : (zeroRow z (n.toNat * size)).length = n.toNat * size := by simp [zeroRow]
                  have hnm : n.toNat ≤ maxLen := by
                    have : n ≤ 9223372036854775807 := by
                      have : IntKind.i64.wrap n ≤ 9223372036854775807 := by
                        unfold IntKind.wrap
                        simp [IntKind.bits, IntKind.signed, IntKind.min, IntKind.max]
                        omega
                      omega
                    unfold maxLen; omega
                  refine ⟨_, .slice (some ⟨w.heap.size, 0, none⟩) n.toNat n.toNat, _, ?_, a2, ?_, a1, a3⟩
                  · unfold Instr.makeSlice
                    rw [run_then (run_under (elem_under he))]
                    dsimp only
                    rw [run_then (a := n) (w' := w) rfl, run_then (a := n) (w' := w) rfl, run_then (run_info hi)]
                    have ht : (n < 0 || (i.bytes : Int) * n > 2 ^ 48) = false := by
                      rw [hib]
                      simp only [Bool.or_eq_false_iff, decide_eq_false_iff_not]
                      omega
                    simp only [hwr, ht]
                    have hlt : (decide (n < 0)) = false := by simp; omega
                    have hgt : (decide (n > n)) = false := by simp
                    have hroom : (askRoom (n.toNat * i.bytes)).run P w = .ok () w := by
                      unfold askRoom
                      split <;> rfl
                    simp only [hlt, hgt, Bool.or_self, Bool.false_eq_true, if_false]
                    rw [run_then hroom, run_then (run_size hs)]
                    by_cases hn0 : n.toNat * size = 0
                    · rw [if_pos hn0]
                      rw [run_then (a := #[]) (w' := w) rfl]
                      have hzr : (zeroRow z (n.toNat * size)) = [] := by rw [hn0]; simp [zeroRow]
                      rw [hzr, hn0]
                      rw [show (Array.map (fun j => (#[] : Array Value)[j % (#[] : Array Value).size]!) (Array.range 0)) = #[] by simp]
                      rfl
                    · rw [if_neg hn0]
                      rw [run_then (run_zero hz).1, run_then (a := z.cells) (w' := w) rfl]
                      have hzr : (zeroRow z (n.toNat * size)).toArray = (Array.range (n.toNat * size)).map (fun j => z.cells[j % z.cells.size]!) := by
                        unfold zeroRow
                        rw [if_neg hn0]
                      rw [← hzr]
                      rfl
                  · have := row_slice (n := n.toNat) (Ren.put_same φ s ⟨w.heap.size, 0, (zeroRow z (n.toNat * size)).length, (szOf P e).getD 0⟩) rfl (by rw [hs, hzl]; simp) hnm
                    exact this
                · cases h
              · cases h
    all_goals cases h
  all_goals (cases hc <;> cases h)
theorem buildSlice_ok {T : TypeId} {len : Nat} {ps ps' : Array (Nat × Value)} {s : Nat} {q : Out Value} (h : aBuildSlice P T len ps H s = some q) (hw : WR P φ H w) (hp : Parts φ ps ps') (hf : Free φ s q.s) :
    ∃ φ' v' w', (Instr.buildSlice T len ps').run P w = .ok v' w' ∧ Nx φ φ' s q.s ∧ VR φ' q.val v' ∧ WR P φ' q.H w' ∧ Trn φ H w φ' q.H w' := by
  unfold aBuildSlice at h
  cases he : elemT P T with
  | none => rw [he] at h; cases h
  | some e =>
    rw [he] at h
    dsimp only at h
    cases hs : szOf P e with
    | none => rw [hs] at h; cases h
    | some size =>
      cases hz : zeroOf P e with
      | none => rw [hs, hz] at h; cases h
      | some z =>
        rw [hs, hz] at h
        dsimp only at h
        split at h
        · rename_i hc
          obtain ⟨hc1, hc3, hc2⟩ := hc
          cases hfl : Instr.fill (fun i => some (i * size, size)) (zeroRow z (len * size)).toArray ps.toList with
          | none => rw [hfl] at h; cases h
          | some cs =>
            rw [hfl] at h
            dsimp only at h
            split at h
            · rename_i hone
              obtain ⟨o1, o2, e1, e2, rfl⟩ := AX.bind_some h
              simp only [AX.new, Option.some.injEq] at e1
              subst e1
              have := ret_some e2
              subst this
              have hzv : VA φ (zeroRow z (len * size)).toArray (zeroRow z (len * size)).toArray := (VL.simple hc2).array
              obtain ⟨cs', f1, f2⟩ := fill_rel _ _ _ _ _ _ hp.1 hp.2 hzv hfl
              obtain ⟨a1, a2, a3⟩ := new_cells (T := e) hw (hf s (Nat.le_refl _) (by simp)) f2.list hone
              have hlen : cs.toList.length = len * size := by
                have hfs : ∀ (place : Nat → Option (Nat × Nat)) (l : List (Nat × Value)) (a r : Array Value), Instr.fill place a l = some r → r.size = a.size := by
                  intro place l
                  induction l with
                  | nil => intro a r hr; simp [Instr.fill] at hr; rw [hr]
                  | cons p l ih =>
                    obtain ⟨i, v⟩ := p
                    intro a r hr
                    unfold Instr.fill at hr
                    cases hpl : place i with
                    | none => rw [hpl] at hr; cases hr
                    | some os =>
                      rw [hpl] at hr
                      dsimp only at hr
                      split at hr
                      · cases hr
                      · rw [ih _ _ hr, place_arr]
                        have : ∀ (l : List (Value × Nat)) (a : Array Value), (l.foldl (fun cs (x : Value × Nat) => cs.setIfInBounds (os.1 + x.2) x.1) a).size = a.size := by
                          intro l
                          induction l with
                          | nil => intro a; rfl
                          | cons y l ih2 => intro a; simp [ih2]
                        exact this _ _
                have := hfs _ _ _ _ hfl
                simp [zeroRow] at this
                simpa using this
              refine ⟨_, .slice (some ⟨w.heap.size, 0, none⟩) len len, _, ?_, a2, ?_, a1, a3⟩
              · unfold Instr.buildSlice
                rw [run_then (run_under (elem_under he))]
                dsimp only
                rw [run_then (run_size hs)]
                rw [if_neg (by omega)]
                by_cases hn0 : len * size = 0
                · rw [if_pos hn0]
                  rw [run_then (a := #[]) (w' := w) rfl]
                  have hzr : (zeroRow z (len * size)) = [] := by rw [hn0]; simp [zeroRow]
                  rw [hzr] at f1
                  have : (Array.map (fun j => (#[] : Array Value)[j % (#[] : Array Value).size]!) (Array.range (len * size))) = #[] := by rw [hn0]; simp
                  rw [this, f1]
                  rfl
                · rw [if_neg hn0]
                  rw [run_then (run_zero hz).1, run_then (a := z.cells) (w' := w) rfl]
                  have hzr : (zeroRow z (len * size)).toArray = (Array.range (len * size)).map (fun j => z.cells[j % z.cells.size]!) := by
                    unfold zeroRow
                    rw [if_neg hn0]
                  rw [hzr] at f1
                  rw [f1]
                  rfl
              · have := row_slice (n := len) (Ren.put_same φ s ⟨w.heap.size, 0, cs.toList.length, (szOf P e).getD 0⟩) rfl (by rw [hs, hlen]; simp) (by
                  unfold maxLen
                  omega)
                exact this
            · cases h
        · cases h
end
end Go.Proofs.YtlkceignfhnpoaaGreatDoor
namespace Go.Proofs.YtlkceignfhnpoaaGreatDoor
open Go

section
variable {P : Program} {φ φ' : Ren} {H : AH} {w w' : World}
def idxK (k : Value) : List (Value × Value) → Option Nat
  | [] => none
  | p :: r => if eqK k p.1 then some 0 else (idxK k r).map (· + 1)
theorem findK_idx (k : Value) : ∀ kv, findK k kv = (idxK k kv).bind fun j => (kv[j]?).map (·.2)
  | [] => rfl
  | p :: r => by
    unfold findK idxK
    split
    · rfl
    · rw [findK_idx k r]
      cases idxK k r <;> simp
theorem putK_idx (k v : Value) : ∀ kv, putK k v kv = match idxK k kv with | some j => kv.set j (k, v) | none => kv ++ [(k, v)]
  | [] => rfl
  | p :: r => by
    unfold putK idxK
    split
    · rfl
    · rw [putK_idx k v r]
      cases idxK k r <;> simp
theorem delK_idx (k : Value) : ∀ kv, delK k kv = match idxK k kv with | some j => kv.eraseIdx j | none => kv
  | [] => rfl
  | p :: r => by
    unfold delK idxK
    split
    · rfl
    · rw [delK_idx k r]
      cases idxK k r <;> simp
theorem idxK_some {k : Value} : ∀ {kv : List (Value × Value)} {j : Nat}, idxK k kv = some j → ∃ p, kv[j]? = some p ∧ eqK k p.1 = true
  | [], j, h => by cases h
  | p :: r, j, h => by
    unfold idxK at h
    split at h
    · rename_i he
      simp only [Option.some.injEq] at h
      subst h
      exact ⟨p, rfl, he⟩
    · cases hi : idxK k r with
      | none => rw [hi] at h; cases h
      | some i =>
        rw [hi] at h
        simp only [Option.map_some, Option.some.injEq] at h
        subst h
        obtain ⟨p2, h1, h2⟩ := idxK_some hi
        exact ⟨p2, by simpa using h1, h2⟩
theorem keyOK_flat {kt : TypeId} {v : Value} (h : keyOK P kt v = true) : flat v = true := by
  unfold keyOK at h
  split at h
  · rfl
  · split at h
    · rename_i hc
      unfold flat
      simp only [List.all_eq_true]
      intro x hx
      rw [hc] at hx
      simp only [List.mem_cons, List.mem_nil_iff, or_false] at hx
      rcases hx with rfl | rfl <;> rfl
    · cases h
  · cases h
/-- The kinds of keys. -/
theorem keyOK_cases {kt : TypeId} {v : Value} (h : keyOK P kt v = true) : (∃ q a, P.underlying kt = some (.int q) ∧ v = .int q a) ∨ ∃ e q a b, P.underlying kt = some (.array 2 e) ∧ P.underlying e = some (.int q) ∧ szOf P e = some 1 ∧ v = .agg #[.int q a, .int q b] := by
  unfold keyOK at h
  split at h
  · rename_i q q' n hu
    have : q = q' := by simpa using h
    subst this
    exact .inl ⟨q, n, hu, rfl⟩
  · rename_i len e cs hu
    split at h
    · rename_i q q1 a q2 b hu2 hc
      simp only [Bool.and_eq_true, beq_iff_eq, decide_eq_true_eq] at h
      obtain ⟨⟨⟨h1, h2⟩, h3⟩, h4⟩ := h
      subst h1; subst h2; subst h3
      refine .inr ⟨e, q, a, b, hu, hu2, h4, ?_⟩
      congr 1
      apply Array.ext'
      rw [hc]
    · cases h
  · cases h
theorem eqK_eq {kt : TypeId} {u v : Value} (hu : keyOK P kt u = true) (hv : keyOK P kt v = true) : eqK u v = true ↔ u = v := by
  rcases keyOK_cases hu with ⟨q, a, h1, rfl⟩ | ⟨e, q, a, b, h1, h2, h3, rfl⟩
  · rcases keyOK_cases hv with ⟨q', a', g1, rfl⟩ | ⟨e', q', a', b', g1, g2, g3, rfl⟩
    · rw [h1] at g1; cases g1
      simp [eqK]
    · rw [h1] at g1; cases g1
  · rcases keyOK_cases hv with ⟨q', a', g1, rfl⟩ | ⟨e', q', a', b', g1, g2, g3, rfl⟩
    · rw [h1] at g1; cases g1
    · rw [h1] at g1; cases g1
      rw [h2] at g2; cases g2
      simp [eqK]
theorem agg_int {e : TypeId} {q : IntKind} (h : P.underlying e = some (.int q)) : aggB P e = some false := by unfold aggB; rw [h]; rfl
theorem run_part_int {e : TypeId} {q : IntKind} {cs : Array Value} {i : Nat} {v : Value} (h : P.underlying e = some (.int q)) (hi : cs[i]? = some v) : (part e cs i).run P w = .ok v w := by
  unfold part
  rw [run_then (run_isAgg (agg_int h))]
  simp only [Bool.false_eq_true, if_false]
  rw [hi]; rfl
theorem run_checkKey {kt : TypeId} {k : Value} (em : Bool) (h : keyOK P kt k = true) : (Instr.checkKey em 10000 kt k).run P w = .ok () w := by
  have int : ∀ n (e : TypeId) q a, P.underlying e = some (.int q) → (Instr.checkKey em (n + 1) e (.int q a)).run P w = .ok () w := by
    intro n e q a he
    unfold Instr.checkKey
    rw [run_then (run_under he)]; rfl
  rcases keyOK_cases h with ⟨q, a, h1, rfl⟩ | ⟨e, q, a, b, h1, h2, h3, rfl⟩
  · exact int 9999 kt q a h1
  · show (Instr.checkKey em (9999 + 1) kt _).run P w = _
    unfold Instr.checkKey
    rw [run_then (run_under h1)]
    have s1 := run_size (w := w) h3
    have p0 : (part e #[.int q a, .int q b] (0 * 1)).run P w = .ok (.int q a) w := run_part_int h2 rfl
    have p1 : (part e #[.int q a, .int q b] (1 * 1)).run P w = .ok (.int q b) w := run_part_int h2 rfl
    have c0 := int 9998 e q a h2
    have c1 := int 9998 e q b h2
    simp at p0 p1
    simp [List.range', Sem.run_bind, Result.andThen, s1, p0, p1, c0, c1, run_pure]
theorem run_equalKey {kt : TypeId} {u v : Value} (hu : keyOK P kt u = true) (hv : keyOK P kt v = true) : (Op.equal kt u v).run P w = .ok (eqK u v) w := by
  have int : ∀ n (e : TypeId) q a b, P.underlying e = some (.int q) → (Op.equalIn (n + 1) e (.int q a) (.int q b)).run P w = .ok (a == b) w := by
    intro n e q a b he
    unfold Op.equalIn
    rw [run_then (run_under he)]
    simp [run_pure]
  rcases keyOK_cases hu with ⟨q, a, h1, rfl⟩ | ⟨e, q, a, b, h1, h2, h3, rfl⟩
  · rcases keyOK_cases hv with ⟨q', a', g1, rfl⟩ | ⟨e', q', a', b', g1, g2, g3, rfl⟩
    · rw [h1] at g1; cases g1
      exact int 9999 kt q a a' h1
    · rw [h1] at g1; cases g1
  · rcases keyOK_cases hv with ⟨q', a', g1, rfl⟩ | ⟨e', q', a', b', g1, g2, g3, rfl⟩
    · rw [h1] at g1; cases g1
    · rw [h1] at g1; cases g1
      rw [h2] at g2; cases g2
      show (Op.equalIn (9999 + 1) kt _ _).run P w = _
      unfold Op.equalIn
      rw [run_then (run_under h1)]
      have s1 := run_size (w := w) h3
      have p0 : (part e #[.int q a, .int q b] (0 * 1)).run P w = .ok (.int q a) w := run_part_int h2 rfl
      have p1 : (part e #[.int q a, .int q b] (1 * 1)).run P w = .ok (.int q b) w := run_part_int h2 rfl
      have r0 : (part e #[.int q a', .int q b'] (0 * 1)).run P w = .ok (.int q a') w := run_part_int h2 rfl
      have r1 : (part e #[.int q a', .int q b'] (1 * 1)).run P w = .ok (.int q b') w := run_part_int h2 rfl
      have c0 := int 9998 e q a a' h2
      have c1 := int 9998 e q b b' h2
      simp at p0 p1 r0 r1
      simp [List.range', Sem.run_bind, Result.andThen, s1, run_pure, p0, p1, r0, r1, c0, c1, eqK]
      cases h1 : (a == a') <;> cases h2 : (b == b') <;> simp_all [Sem.run_bind, Result.andThen, run_pure]
theorem run_findKey {kt : TypeId} {k : Value} (hk : keyOK P kt k = true) (kv : List (Value × Value)) (es : List MapEntry) (hl : VL φ (kv.map (·.1)) (es.map (·.key))) (ha : kv.all (fun p => keyOK P kt p.1) = true) :
    (Instr.findKey kt k es).run P w = .ok ((idxK k kv).map fun j => (j, ((es[j]?).map (·.val)).getD undef)) w := by
  have eqs : ∀ (kv : List (Value × Value)) (es : List MapEntry), VL φ (kv.map (·.1)) (es.map (·.key)) → kv.all (fun p => keyOK P kt p.1) = true → es.map (·.key) = kv.map (·.1) := by
    intro kv es hl ha
    refine VL.flat_eq hl ?_
    rw [List.all_eq_true] at ha ⊢
    intro v hv
    obtain ⟨p, hp, rfl⟩ := List.mem_map.1 hv
    exact keyOK_flat (ha p hp)
  have hkeys := eqs kv es hl ha
  have asks : ∀ (kv : List (Value × Value)) (es : List MapEntry) (i : Nat), es.map (·.key) = kv.map (·.1) → kv.all (fun p => keyOK P kt p.1) = true → (Instr.findAsking kt k es i).run P w = .ok ((idxK k kv).map fun j => (i + j, ((es[j]?).map (·.val)).getD undef)) w := by
    intro kv
    induction kv with
    | nil =>
      intro es i he _
      have : es = [] := by simpa using he
      subst this; rfl
    | cons p r ih =>
      intro es i he ha
      cases es with
      | nil => simp at he
      | cons x es =>
        simp only [List.map_cons, List.cons.injEq] at he
        simp only [List.all_cons, Bool.and_eq_true] at ha
        unfold Instr.findAsking
        rw [he.1, run_then (run_equalKey hk ha.1)]
        unfold idxK
        by_cases hq : eqK k p.1 = true
        · simp [hq, run_pure]
        · simp only [hq, Bool.false_eq_true, if_false]
          rw [ih es (i + 1) he.2 ha.2]
          cases idxK k r with
          | none => rfl
          | some j => simp; omega
  have nows : ∀ q a, k = .int q a → ∀ (kv : List (Value × Value)) (es : List MapEntry) (i : Nat), (∀ p ∈ kv, ∃ b, p.1 = .int q b) → es.map (·.key) = kv.map (·.1) → Instr.findNow (.int q) k es i = some ((idxK k kv).map fun j => (i + j, ((es[j]?).map (·.val)).getD undef)) := by
    intro q a hka kv
    induction kv with
    | nil =>
      intro es i _ he
      have : es = [] := by simpa using he
      subst this; rfl
    | cons p r ih =>
      intro es i hp he
      cases es with
      | nil => simp at he
      | cons x es =>
        simp only [List.map_cons, List.cons.injEq] at he
        obtain ⟨b, hb⟩ := hp p (by simp)
        unfold Instr.findNow
        rw [he.1, hb, hka]
        simp only [Instr.sameNow, if_true]
        by_cases hab : a = b
        · subst hab
          simp [idxK, hb, eqK]
        · have : (a == b) = false := by simpa using hab
          rw [this]
          dsimp only
          have hne : eqK (.int q a) p.1 = false := by rw [hb]; simpa [eqK] using hab
          have := ih es (i + 1) (fun p hp' => hp p (by simp [hp'])) he.2
          rw [hka] at this
          rw [this]
          rw [show idxK (.int q a) (p :: r) = if eqK (.int q a) p.1 then some 0 else (idxK (.int q a) r).map (· + 1) from rfl]
          rw [hne]
          simp only [Bool.false_eq_true, if_false]
          generalize idxK (.int q a) r = oj
          cases oj with
          | none => rfl
          | some j => simp; omega
  unfold Instr.findKey
  rcases keyOK_cases hk with ⟨q, a, h1, rfl⟩ | ⟨e, q, a, b, h1, h2, h3, rfl⟩
  · rw [run_then (run_under h1)]
    have := nows q a rfl kv es 0 (fun p hp => by
      rcases keyOK_cases (List.all_eq_true.1 ha p hp) with ⟨q', a', g1, e1⟩ | ⟨e', q', a', b', g1, g2, g3, e1⟩
      · rw [h1] at g1; cases g1; exact ⟨a', e1⟩
      · rw [h1] at g1; cases g1) hkeys
    rw [this]
    simp [run_pure]
  · rw [run_then (run_under h1)]
    cases es with
    | nil =>
      have : kv = [] := by simpa using hkeys.symm
      subst this
      rfl
    | cons x es =>
      have hx : Instr.findNow (.array 2 e) (.agg #[.int q a, .int q b]) (x :: es) 0 = none := by
        unfold Instr.findNow
        rfl
      rw [hx]
      have := asks kv (x :: es) 0 hkeys ha
      simpa using this
theorem mapT_some {T kt et : TypeId} (h : mapT P T = some (kt, et)) : P.underlying T = some (.map kt et) := by
  unfold mapT at h
  split at h
  · rename_i k e he; cases h; exact he
  · cases h
theorem run_getMap {b : Nat} {es : Array MapEntry} {clock : Nat} (h : w.heap[b]? = some (.map es clock)) : (getObj b).run P w = .ok (.map es clock) w := by simp [getObj, Sem.run, h]
theorem lookup_ok {T : TypeId} {m m' k k' : Value} {ok : Bool} {s : Nat} {q : Out Value} (h : aLookup P T m k ok H s = some q) (hw : WR P φ H w) (hm : VR φ m m') (hk : VR φ k k') : ∃ v', (Instr.lookup T m' k' ok).run P w = .ok v' w ∧ VR φ q.val v' ∧ q.H = H ∧ q.s = s := by
  unfold aLookup at h
  cases hT : mapT P T with
  | none => rw [hT] at h; cases h
  | some p =>
    obtain ⟨kt, et⟩ := p
    rw [hT] at h
    dsimp only at h
    have hu := mapT_some hT
    split at h
    · rename_i hkk
      have := hk.flat_eq (keyOK_flat hkk)
      subst this
      cases hm
      case mapNil =>
        dsimp only at h
        cases hz : zeroOf P et with
        | none => rw [hz] at h; cases h
        | some z =>
          rw [hz] at h
          have := ret_some h
          subst this
          have hf : (Instr.findKey kt k' ([] : List MapEntry)).run P w = .ok none w := run_findKey (φ := φ) hkk [] [] VL.nil rfl
          have hr : (Instr.lookup T (.map none) k' ok).run P w = .ok (if ok then .tuple #[z, .bool false] else z) w := by
            unfold Instr.lookup
            rw [run_then (run_under hu)]
            dsimp only
            rw [run_then (a := #[]) (w' := w) rfl, run_then (run_checkKey _ hkk)]
            rw [show (#[] : Array MapEntry).toList = [] from rfl, run_then hf]
            dsimp only
            rw [run_then (run_zero hz).1, run_then (a := (z, false)) (w' := w) rfl]
            rfl
          refine ⟨_, hr, ?_, rfl, rfl⟩
          cases ok
          · exact ofZero hz
          · have := (VL.cons (ofZero (φ := φ) hz) (VL.one (VR.bool false))).array
            exact VR.mkTuple this
      case map b im him =>
        obtain ⟨o1, o2, e1, e2, rfl⟩ := AX.bind_some h
        obtain ⟨h1, h2, h3⟩ := entries_some e1
        obtain ⟨im2, e3, r3⟩ := hw.img h1
        rw [him] at e3; cases e3
        obtain ⟨es, clock, g1, g2, g3⟩ := r3
        split at e2
        · rename_i hall
          have hf := run_findKey (w := w) hkk o1.val es.toList g2 hall
          rw [findK_idx] at e2
          cases hi : idxK k' o1.val with
          | none =>
            rw [hi] at e2 hf
            simp only [Option.bind_none] at e2
            cases hz : zeroOf P et with
            | none => rw [hz] at e2; cases e2
            | some z =>
              rw [hz] at e2
              have := ret_some e2
              subst this
              refine ⟨if ok then .tuple #[z, .bool false] else z, ?_, ?_, h2, h3⟩
              · unfold Instr.lookup
                rw [run_then (run_under hu)]
                dsimp only
                rw [run_then (run_getMap g1)]
                dsimp only
                rw [run_then (a := es) (w' := w) rfl, run_then (run_checkKey _ hkk), run_then hf]
                simp only [Option.map_none]
                rw [run_then (run_zero hz).1, run_then (a := (z, false)) (w' := w) rfl]
                rfl
              · cases ok
                · exact ofZero hz
                · have := (VL.cons (ofZero (φ := φ) hz) (VL.one (VR.bool false))).array
                  exact VR.mkTuple this
          | some j =>
            rw [hi] at e2 hf
            obtain ⟨p, hp, _⟩ := idxK_some hi
            simp only [Option.bind_some, hp, Option.map_some] at e2
            have := ret_some e2
            subst this
            have hpv : (o1.val.map (·.2))[j]? = some p.2 := by rw [List.getElem?_map, hp]; rfl
            obtain ⟨u, f1, f2⟩ := g3.get hpv
            rw [List.getElem?_map] at f1
            cases hej : es.toList[j]? with
            | none => rw [hej] at f1; cases f1
            | some x =>
              rw [hej] at f1
              simp only [Option.map_some, Option.some.injEq] at f1
              simp only [Option.map_some, hej, Option.getD_some] at hf
              subst f1
              refine ⟨if ok then .tuple #[x.val, .bool true] else x.val, ?_, ?_, h2, h3⟩
              · unfold Instr.lookup
                rw [run_then (run_under hu)]
                dsimp only
                rw [run_then (run_getMap g1)]
                dsimp only
                rw [run_then (a := es) (w' := w) rfl, run_then (run_checkKey _ hkk), run_then hf]
                rfl
              · cases ok
                · exact f2
                · have := (VL.cons f2 (VL.one (VR.bool true))).array
                  exact VR.mkTuple this
        · cases e2
      all_goals cases h
    · cases h
end
end Go.Proofs.YtlkceignfhnpoaaGreatDoor
