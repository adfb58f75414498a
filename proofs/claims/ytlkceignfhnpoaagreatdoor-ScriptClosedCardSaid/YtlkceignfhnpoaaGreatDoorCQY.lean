/-
  How a run is shown: a run with bounds on what it reads and writes, one rule for each piece of code.
  Drawn regions whose operations cannot meet are run in the text's order.
  Rules for code and for operations.
  Rules for operations: values.
-/
import Derived.Test.YtlkceignfhnpoaaGreatDoorCQA2
set_option linter.unusedVariables false
set_option linter.unusedSimpArgs false
namespace Go.Proofs.YtlkceignfhnpoaaGreatDoor
open Go AX

/-- A mark that keeps simp out of what it belongs to. -/
structure Tag {β : Type} (q : β) : Type where
  n : Nat
/-- A run ends, reads no more than F, writes no more than G, and ends so. -/
def Wp {α : Type} (F G : Nat → Prop) (m : AX α) (H : AH) (s : Nat) (Q : α → AH → Nat → Prop) (t : Tag Q := ⟨0⟩) : Prop := ∃ o, m H s = some o ∧ (∀ b, b ∈ o.D → F b) ∧ (∀ b, b ∈ o.W → G b) ∧ Q o.val o.H o.s
section
variable {α β : Type} {F G : Nat → Prop} {H : AH} {s : Nat}
theorem wp_same {m : AX α} {Q Q' : α → AH → Nat → Prop} (h : ∀ a H s, Q a H s = Q' a H s) : Wp F G m H s Q = Wp F G m H s Q' := by
  have : Q = Q' := by funext a H s; exact h a H s
  subst this; rfl
theorem wp_ret {a : α} {Q : α → AH → Nat → Prop} : Wp F G (ret a) H s Q = Q a H s := by simp [Wp, AX.ret]
theorem wp_fail {Q : α → AH → Nat → Prop} : Wp F G (fail : AX α) H s Q = False := by simp [Wp, AX.fail]
theorem wp_bind {m : AX α} {f : α → AX β} {Q : β → AH → Nat → Prop} : Wp F G (bind m f) H s Q = Wp F G m H s (fun a H' s' => Wp F G (f a) H' s' Q) := by
  apply propext
  constructor
  · rintro ⟨o, h, hD, hW, hQ⟩
    obtain ⟨p, q, h1, h2, rfl⟩ := bind_some h
    exact ⟨p, h1, fun b hb => hD b (List.mem_append_left _ hb), fun b hb => hW b (List.mem_append_left _ hb), q, h2, fun b hb => hD b (List.mem_append_right _ hb), fun b hb => hW b (List.mem_append_right _ hb), hQ⟩
  · rintro ⟨p, h1, hD, hW, q, h2, hD2, hW2, hQ⟩
    refine ⟨⟨q.val, q.H, q.s, p.D ++ q.D, p.W ++ q.W⟩, by simp [AX.bind, h1, h2], fun b hb => ?_, fun b hb => ?_, hQ⟩
    · rcases List.mem_append.1 hb with h | h
      · exact hD b h
      · exact hD2 b h
    · rcases List.mem_append.1 hb with h | h
      · exact hW b h
      · exact hW2 b h
theorem wp_mono {m : AX α} {Q Q' : α → AH → Nat → Prop} (h : Wp F G m H s Q) (hq : ∀ a H' s', Q a H' s' → Q' a H' s') : Wp F G m H s Q' := by
  obtain ⟨o, a, b, c, d⟩ := h
  exact ⟨o, a, b, c, hq _ _ _ d⟩
theorem wp_wide {F' G' : Nat → Prop} {m : AX α} {Q : α → AH → Nat → Prop} (h : Wp F G m H s Q) (hf : ∀ b, F b → F' b) (hg : ∀ b, G b → G' b) : Wp F' G' m H s Q := by
  obtain ⟨o, a, b, c, d⟩ := h
  exact ⟨o, a, fun k hk => hf k (b k hk), fun k hk => hg k (c k hk), d⟩
theorem wp_opt {x : Option α} {Q : α → AH → Nat → Prop} : Wp F G (ofOpt x) H s Q = (match x with | some a => Q a H s | none => False) := by
  cases x <;> simp [Wp, AX.ofOpt]
theorem wp_ite {c : Prop} [Decidable c] {m m' : AX α} {Q : α → AH → Nat → Prop} : Wp F G (if c then m else m') H s Q = if c then Wp F G m H s Q else Wp F G m' H s Q := by
  by_cases h : c <;> simp [h]
theorem wp_cells {b : Nat} {Q : List Value × TypeId × Bool → AH → Nat → Prop} : Wp F G (cells b) H s Q = (match H b with | some (.cells cs T wr) => F b ∧ Q (cs, T, wr) H s | _ => False) := by
  unfold AX.cells
  rw [wp_bind]
  cases hb : H b with
  | none => simp [Wp, AX.get, hb]
  | some x =>
    cases x with
    | cells cs T wr => simp [Wp, AX.get, hb, AX.ret]
    | map kv => simp [Wp, AX.get, hb, AX.fail]
theorem wp_entries {b : Nat} {Q : List (Value × Value) → AH → Nat → Prop} : Wp F G (entries b) H s Q = (match H b with | some (.map kv) => F b ∧ Q kv H s | _ => False) := by
  unfold AX.entries
  rw [wp_bind]
  cases hb : H b with
  | none => simp [Wp, AX.get, hb]
  | some x =>
    cases x with
    | cells cs T wr => simp [Wp, AX.get, hb, AX.fail]
    | map kv => simp [Wp, AX.get, hb, AX.ret]
theorem wp_set {b : Nat} {x : Option AB} {Q : Unit → AH → Nat → Prop} : Wp F G (set b x) H s Q = (F b ∧ G b ∧ Q () (upd H b x) s) := by simp [Wp, AX.set]
theorem wp_new {x : AB} {Q : Nat → AH → Nat → Prop} : Wp F G (new x) H s Q = Q s (upd H s (some x)) (s + 1) := by simp [Wp, AX.new]
end
/-- A frame of temporaries: at the bottom B, above it what was put since. -/
def mkT (B : Array Value) : List (Nat × Value) → Array Value
  | [] => B
  | p :: r => (mkT B r).setIfInBounds p.1 p.2
theorem mkT_size (B : Array Value) : ∀ l, (mkT B l).size = B.size
  | [] => rfl
  | p :: r => by simp [mkT, mkT_size B r]
theorem put_mkT (B : Array Value) (l : List (Nat × Value)) (d : Nat) (v : Value) : putA (mkT B l) (some d) v = mkT B ((d, v) :: l) := Eq.trans rfl rfl
theorem put_none (tm : Array Value) (v : Value) : putA tm none v = tm := Eq.trans rfl rfl
def bot (B : Array Value) (k : Nat) : Value := B.getD k undef
theorem ev_nil (B : Array Value) (k : Nat) : evalA (mkT B []) (.tmp k) = bot B k := Eq.trans rfl rfl
theorem ev_cons {B : Array Value} {d k : Nat} {v : Value} {l : List (Nat × Value)} (h : d < B.size) : evalA (mkT B ((d, v) :: l)) (.tmp k) = if d = k then v else evalA (mkT B l) (.tmp k) := by
  show ((mkT B l).setIfInBounds d v).getD k undef = if d = k then v else (mkT B l).getD k undef
  by_cases e : d = k
  · subst e
    simp [Array.getD, mkT_size, h]
  · simp only [Array.getD_eq_getD_getElem?, if_neg e, Array.getElem?_setIfInBounds_ne e]
theorem ev_hit {B : Array Value} {d : Nat} {v : Value} {l : List (Nat × Value)} (h : d < B.size) : evalA (mkT B ((d, v) :: l)) (.tmp d) = v := by rw [ev_cons h, if_pos rfl]
theorem ev_miss {B : Array Value} {d k : Nat} {v : Value} {l : List (Nat × Value)} (h : d ≠ k) : evalA (mkT B ((d, v) :: l)) (.tmp k) = evalA (mkT B l) (.tmp k) := by
  show ((mkT B l).setIfInBounds d v).getD k undef = (mkT B l).getD k undef
  simp only [Array.getD_eq_getD_getElem?, Array.getElem?_setIfInBounds_ne h]
theorem ev_const (tm : Array Value) (v : Value) : evalA tm (.const v) = v := Eq.trans rfl rfl
theorem ev_func (tm : Array Value) (f : FuncId) : evalA tm (.func f) = .func (.func f) #[] #[] := Eq.trans rfl rfl
theorem getD_mkT (B : Array Value) (l : List (Nat × Value)) (k : Nat) : (mkT B l).getD k undef = evalA (mkT B l) (.tmp k) := Eq.trans rfl rfl
section
variable {P : Program} {call : FuncId → Array Value → AX Value} {F G : Nat → Prop} {H : AH} {s : Nat}
/-- A region's operations, one behind the other. -/
def seqV (P : Program) (call : FuncId → Array Value → AX Value) (ops : Array Oper) : List Oper → Array Value → AX (Array Value)
  | [], tm => ret tm
  | o :: r, tm => bind (aVal P call ops o tm) fun v => seqV P call ops r (putA tm o.dst v)
theorem seqV_of {ops : Array Oper} : ∀ (l : List Oper) (tm : Array Value) (H : AH) (s : Nat) (o : Out (Array Value)), seqV P call ops l tm H s = some o → ∃ log, aSeq P call ops l tm H s = some ⟨(o.val, log), o.H, o.s, o.D, o.W⟩
  | [], tm, H, s, o, h => by
    simp [seqV, AX.ret] at h; subst h
    exact ⟨[], by simp [aSeq, AX.ret]⟩
  | x :: r, tm, H, s, o, h => by
    unfold seqV at h
    obtain ⟨p, q, h1, h2, rfl⟩ := bind_some h
    obtain ⟨log, hl⟩ := seqV_of r _ _ _ _ h2
    refine ⟨⟨s, p.s, p.D, p.W⟩ :: log, ?_⟩
    simp [aSeq, aStep, AX.bind, AX.ret, h1, hl]
theorem wp_region {id : Nat} {ops : Array Oper} {tm : Array Value} {Q : AExit × Array Value → AH → Nat → Prop} (h : Wp F G (seqV P call ops ops.toList tm) H s (fun t H' s' => Q (.normal, t) H' s')) : Wp F G (aCode P call (.region id ops false) tm) H s Q := by
  obtain ⟨o, h1, hD, hW, hQ⟩ := h
  obtain ⟨log, hl⟩ := seqV_of _ _ _ _ _ h1
  unfold aCode
  rw [wp_bind]
  refine ⟨⟨o.val, o.H, o.s, o.D, o.W⟩, by simp [aRegion, AX.bind, AX.ret, hl], hD, hW, ?_⟩
  show Wp F G (ret (AExit.normal, o.val)) o.H o.s Q
  rw [wp_ret]; exact hQ
/-- Does an operation touch memory: not at all, reading alone, or otherwise? -/
def memK (o : Oper) : Nat :=
  match o.op with
  | .move _ | .assign _ | .pick .. | .build .. | .nilCheck _ | .binOp .. | .unOp .. | .convert .. | .makeFunc .. | .fieldAddr .. | .field .. | .indexAddr .. | .index .. | .extract .. => 0
  | .load .. | .lookup .. | .slice .. => 1
  | .call c => match c.callee with
    | .builtin .len => 1
    | .builtin .max | .builtin .min => 0
    | _ => 2
  | _ => 2
/-- A call of a function that only reads. -/
def calmF (S : List FuncId) (o : Oper) : Bool :=
  match o.op with
  | .call c => match c.callee with
    | .value (.func f) => S.contains f
    | _ => false
  | _ => false
def memS (S : List FuncId) (o : Oper) : Nat := if calmF S o = true then 1 else memK o
/-- Does an operation but make something new? -/
def isNew (o : Oper) : Bool :=
  match o.op with
  | .alloc _ | .box .. | .buildSlice .. | .makeSlice .. | .makeMap .. => true
  | _ => false
/-- What is asked of an operation beside others: it reads old places alone; it makes new ones alone; it turns nothing that was there. -/
def aside (S : List FuncId) (olds lates owns : List Nat) (i : Nat) (o : Oper) : Bool := (Nat.ble (memS S o) 1 && olds.contains i && !lates.contains i) || (isNew o && lates.contains i) || owns.contains i
/-- May a region be run in the text's order? -/
def drawOK (S : List FuncId) (olds lates owns : List Nat) (ops : Array Oper) : Bool :=
  let bits := Region.before ops
  ops.toList.zipIdx.all fun g => ops.toList.zipIdx.all fun f => !(f.2 < g.2) || (bits.getD g.2 0).testBit f.2 || memS S f.1 == 0 || memS S g.1 == 0 || (Nat.ble (memS S f.1) 1 && Nat.ble (memS S g.1) 1)
    || (isNew f.1 && isNew g.1) || (aside S olds lates owns f.2 f.1 && aside S olds lates owns g.2 g.1)
/-- A run that touches nothing; one that only reads. -/
def Dry {α : Type} (m : AX α) : Prop := ∀ H s o, m H s = some o → o.D = [] ∧ o.W = [] ∧ o.s = s
def Reads {α : Type} (m : AX α) : Prop := ∀ H s o, m H s = some o → o.W = [] ∧ o.s = s
theorem Dry.ret {α : Type} (a : α) : Dry (AX.ret a) := by
  intro H s o h; simp [AX.ret] at h; subst h; exact ⟨rfl, rfl, rfl⟩
theorem Dry.fail {α : Type} : Dry (AX.fail : AX α) := by intro H s o h; cases h
theorem Dry.opt {α : Type} (x : Option α) : Dry (AX.ofOpt x) := by
  intro H s o h
  cases x with
  | none => simp [AX.ofOpt] at h
  | some a => simp [AX.ofOpt] at h; subst h; exact ⟨rfl, rfl, rfl⟩
theorem Dry.reads {α : Type} {m : AX α} (h : Dry m) : Reads m := fun H s o e => (h H s o e).2
theorem Reads.bind {α β : Type} {m : AX α} {f : α → AX β} (h : Reads m) (k : ∀ a, Reads (f a)) : Reads (AX.bind m f) := by
  intro H s o e
  obtain ⟨p, q, h1, h2, rfl⟩ := bind_some e
  have a := h _ _ _ h1
  have b := k _ _ _ _ h2
  exact ⟨by simp [a.1, b.1], by simp [a.2, b.2]⟩
theorem Reads.get (b : Nat) : Reads (AX.get b) := by
  intro H s o h
  unfold AX.get at h
  cases hb : H b with
  | none => rw [hb] at h; cases h
  | some x => rw [hb] at h; simp at h; subst h; exact ⟨rfl, rfl⟩
theorem Reads.cells (b : Nat) : Reads (AX.cells b) := by
  unfold AX.cells
  refine Reads.bind (Reads.get b) fun x => ?_
  cases x with
  | cells cs T wr => exact (Dry.ret _).reads
  | map kv => exact Dry.fail.reads
theorem Reads.entries (b : Nat) : Reads (AX.entries b) := by
  unfold AX.entries
  refine Reads.bind (Reads.get b) fun x => ?_
  cases x with
  | cells cs T wr => exact Dry.fail.reads
  | map kv => exact (Dry.ret _).reads
theorem Reads.readN (b o n : Nat) : Reads (AX.readN b o n) := by
  unfold AX.readN
  refine Reads.bind (Reads.cells b) fun x => ?_
  split
  · exact (Dry.ret _).reads
  · exact Dry.fail.reads
end
end Go.Proofs.YtlkceignfhnpoaaGreatDoor
namespace Go.Proofs.YtlkceignfhnpoaaGreatDoor
open Go AX
section
variable {P : Program} {call : FuncId → Array Value → AX Value} {F G : Nat → Prop} {H : AH} {s : Nat}
theorem dry_stat (m : Sem Value) : Dry (ofStat P m) := by
  unfold ofStat
  repeat' split
  all_goals first | exact Dry.ret _ | exact Dry.fail
theorem dry_nil (v : Value) : Dry (aNilCheck v) := by
  unfold aNilCheck
  split
  all_goals first | exact Dry.ret _ | exact Dry.fail
theorem dry_bin (op : BinOp) (T : TypeId) (ox oy : Operand) (x y : Value) : Dry (aBin P op T ox oy x y) := by
  unfold aBin
  repeat' split
  all_goals first | exact dry_stat _ | exact Dry.ret _ | exact Dry.fail
theorem dry_fieldAddr (T : TypeId) (x : Value) (i : Nat) : Dry (aFieldAddr P T x i) := by
  unfold aFieldAddr
  repeat' split
  all_goals first | exact Dry.ret _ | exact Dry.fail
theorem dry_field (T : TypeId) (x : Value) (i : Nat) : Dry (aField P T x i) := by
  unfold aField
  repeat' split
  all_goals first | exact Dry.opt _ | exact Dry.fail
theorem dry_indexAddr (T : TypeId) (x i : Value) : Dry (aIndexAddr P T x i) := by
  unfold aIndexAddr
  repeat' split
  all_goals first | exact Dry.ret _ | exact Dry.fail
theorem dry_index (T : TypeId) (x i : Value) : Dry (aIndex P T x i) := by
  unfold aIndex
  repeat' split
  all_goals first | exact Dry.opt _ | exact dry_stat _ | exact Dry.fail
theorem reads_load (T : TypeId) (v : Value) : Reads (aLoad P T v) := by
  unfold aLoad
  repeat' split
  all_goals first | exact Dry.fail.reads | exact Reads.bind (Reads.readN _ _ _) (fun _ => (Dry.ret _).reads) | exact Reads.bind (Reads.cells _) (fun _ => (Dry.opt _).reads)
theorem reads_lookup (T : TypeId) (m k : Value) (ok : Bool) : Reads (aLookup P T m k ok) := by
  unfold aLookup
  repeat' split
  all_goals first
    | exact Dry.fail.reads
    | exact (Dry.ret _).reads
    | (refine Reads.bind (Reads.entries _) fun _ => ?_
       repeat' split
       all_goals first | exact Dry.fail.reads | exact (Dry.ret _).reads)
theorem reads_slice (T : TypeId) (x : Value) (lo hi mx : Option Value) : Reads (aSlice P T x lo hi mx) := by
  unfold aSlice
  repeat' split
  all_goals first
    | exact Dry.fail.reads
    | exact (Dry.ret _).reads
    | (refine Reads.bind (Reads.cells _) fun _ => ?_
       repeat' split
       all_goals first | exact Dry.fail.reads | exact (Dry.ret _).reads)
theorem reads_len (T : TypeId) (v : Value) : Reads (aLen P T v) := by
  unfold aLen
  repeat' split
  all_goals first | exact Dry.fail.reads | exact (Dry.ret _).reads | exact Reads.bind (Reads.entries _) (fun _ => (Dry.ret _).reads)
theorem dry_maxmin {b : Builtin} (hb : b = .max ∨ b = .min) (ts : Array TypeId) (vs : Array Value) : Dry (aBuiltin P b ts vs) := by
  rcases hb with rfl | rfl
  all_goals
    unfold aBuiltin
    split
    all_goals first
      | (exfalso; simp_all; done)
      | exact Dry.fail
      | (split
         · exact dry_stat _
         · exact Dry.fail)
theorem reads_blen (ts : Array TypeId) (vs : Array Value) : Reads (aBuiltin P .len ts vs) := by
  unfold aBuiltin
  split
  all_goals first
    | exact reads_len _ _
    | exact Dry.fail.reads
    | (exfalso; simp_all; done)
theorem dry_op {o : Oper} {tm : Array Value} (h : memK o = 0) : Dry (aOp P call o tm) := by
  unfold memK at h
  unfold aOp
  dsimp only
  split
  · split at h
    all_goals first
      | (exfalso; revert h; (repeat' split) <;> intro h <;> simp at h; done)
      | skip
    all_goals (rename_i he; simp only [he])
    all_goals first
      | exact Dry.ret _
      | exact dry_nil _
      | exact dry_bin _ _ _ _ _ _
      | exact dry_fieldAddr _ _ _
      | exact dry_field _ _ _
      | exact dry_indexAddr _ _ _
      | exact dry_index _ _ _
      | (repeat' split; all_goals first | exact Dry.ret _ | exact Dry.fail | exact Dry.opt _ | exact dry_stat _)
      | skip
    split at h
    · cases h
    · rename_i e; simp only [e]; exact dry_maxmin (.inl rfl) _ _
    · rename_i e; simp only [e]; exact dry_maxmin (.inr rfl) _ _
    · cases h
  · exact Dry.fail
theorem reads_op {o : Oper} {tm : Array Value} (h : Nat.ble (memK o) 1 = true) : Reads (aOp P call o tm) := by
  by_cases h0 : memK o = 0
  · exact (dry_op h0).reads
  have h : memK o = 1 := by
    have := Nat.le_of_ble_eq_true h
    omega
  clear h0
  unfold memK at h
  unfold aOp
  dsimp only
  split
  · split at h
    all_goals first
      | (exfalso; revert h; (repeat' split) <;> intro h <;> simp at h; done)
      | skip
    all_goals (rename_i he; simp only [he])
    all_goals first
      | exact reads_load _ _
      | exact reads_lookup _ _ _ _
      | exact reads_slice _ _ _ _ _
      | skip
    split at h
    · rename_i e; simp only [e]; exact reads_blen _ _
    · cases h
    · cases h
    · cases h
  · exact Dry.fail.reads
theorem dry_val {ops : Array Oper} {o : Oper} {tm : Array Value} (h : memK o = 0) : Dry (aVal P call ops o tm) := by
  unfold aVal
  split
  · exact dry_op h
  · exact Dry.ret _
theorem reads_val {ops : Array Oper} {o : Oper} {tm : Array Value} (h : Nat.ble (memK o) 1 = true) : Reads (aVal P call ops o tm) := by
  unfold aVal
  split
  · exact reads_op h
  · exact (Dry.ret _).reads
/-- A run that makes, but touches nothing that was there. -/
def News {α : Type} (m : AX α) : Prop := ∀ H s o, m H s = some o → o.D = [] ∧ o.W = []
theorem News.of {α : Type} {m : AX α} (h : Dry m) : News m := fun H s o e => ⟨(h H s o e).1, (h H s o e).2.1⟩
theorem News.bind {α β : Type} {m : AX α} {f : α → AX β} (h : News m) (k : ∀ a, News (f a)) : News (AX.bind m f) := by
  intro H s o e
  obtain ⟨p, q, h1, h2, rfl⟩ := bind_some e
  have a := h _ _ _ h1
  have b := k _ _ _ _ h2
  exact ⟨by simp [a.1, b.1], by simp [a.2, b.2]⟩
theorem News.new (x : AB) : News (AX.new x) := by
  intro H s o h; simp [AX.new] at h; subst h; exact ⟨rfl, rfl⟩
theorem News.cells (T : TypeId) (cs : List Value) : News (AX.newC T cs) := by
  unfold AX.newC
  split
  · exact News.bind (News.new _) fun _ => News.of (Dry.ret _)
  · exact News.of Dry.fail
theorem news_op {o : Oper} {tm : Array Value} (h : isNew o = true) : News (aOp P call o tm) := by
  unfold isNew at h
  unfold aOp
  dsimp only
  split
  · split at h
    · rename_i he; simp only [he]
      split
      · exact News.cells _ _
      · exact News.of Dry.fail
    · rename_i he; simp only [he]; exact News.cells _ _
    · rename_i he; simp only [he]
      unfold aBuildSlice
      repeat' split
      all_goals first
        | exact News.of Dry.fail
        | exact News.bind (News.new _) fun _ => News.of (Dry.ret _)
    · rename_i he; simp only [he]
      unfold aMakeSlice
      repeat' split
      all_goals first
        | exact News.of Dry.fail
        | exact News.bind (News.new _) fun _ => News.of (Dry.ret _)
    · rename_i he; simp only [he]
      repeat' split
      all_goals first
        | exact News.of Dry.fail
        | exact News.bind (News.new _) fun _ => News.of (Dry.ret _)
    · cases h
  · exact News.of Dry.fail
theorem news_val {ops : Array Oper} {o : Oper} {tm : Array Value} (h : isNew o = true) : News (aVal P call ops o tm) := by
  unfold aVal
  split
  · exact news_op h
  · exact News.of (Dry.ret _)
/-- The functions of S only read; no call reads what isn't there. -/
structure Calm (S : List FuncId) (call : FuncId → Array Value → AX Value) : Prop where
  reads : ∀ f, S.contains f = true → ∀ xs, Reads (call f xs)
  ls : ∀ f xs, LS (call f xs)
theorem calm_op {S : List FuncId} (hS : Calm S call) {o : Oper} {tm : Array Value} (h : calmF S o = true) : Reads (aOp P call o tm) := by
  unfold calmF at h
  split at h
  · rename_i c he
    split at h
    · rename_i f hc
      unfold aOp
      dsimp only
      rw [he]
      dsimp only
      rw [hc]
      dsimp only [evalA]
      split
      · split
        · exact hS.reads f h _
        · exact Dry.fail.reads
      · exact Dry.fail.reads
    · cases h
  · cases h
theorem reads_valS {S : List FuncId} (hS : Calm S call) {ops : Array Oper} {o : Oper} {tm : Array Value} (h : Nat.ble (memS S o) 1 = true) : Reads (aVal P call ops o tm) := by
  unfold memS at h
  split at h
  · rename_i hc
    unfold aVal
    split
    · exact calm_op hS hc
    · exact (Dry.ret _).reads
  · exact reads_val h
/-- A run that reads old places alone; one that begins behind them. -/
def old {α : Type} (s0 : Nat) (m : AX α) : AX α := fun H s => match m H s with
  | some o => if o.D.all (fun b => Nat.blt b s0) = true then some o else none
  | none => none
def late {α : Type} (s0 : Nat) (m : AX α) : AX α := fun H s => if s0 ≤ s then m H s else none
theorem old_some {α : Type} {s0 : Nat} {m : AX α} {H : AH} {s : Nat} {o : Out α} (h : old s0 m H s = some o) : m H s = some o ∧ ∀ b, b ∈ o.D → b < s0 := by
  unfold old at h
  cases hm : m H s with
  | none => rw [hm] at h; cases h
  | some p =>
    rw [hm] at h
    dsimp only at h
    split at h
    · rename_i hd
      cases h
      refine ⟨rfl, fun b hb => ?_⟩
      have := List.all_eq_true.1 hd b hb
      exact Nat.le_of_ble_eq_true this
    · cases h
theorem late_some {α : Type} {s0 : Nat} {m : AX α} {H : AH} {s : Nat} {o : Out α} (h : late s0 m H s = some o) : m H s = some o ∧ s0 ≤ s := by
  unfold late at h
  split at h
  · rename_i hs; exact ⟨h, hs⟩
  · cases h
theorem wp_old {α : Type} {s0 : Nat} {m : AX α} {Q : α → AH → Nat → Prop} : Wp F G (old s0 m) H s Q = Wp (fun b => F b ∧ b < s0) G m H s Q := by
  apply propext
  constructor
  · rintro ⟨o, h, hD, hW, hQ⟩
    obtain ⟨h1, h2⟩ := old_some h
    exact ⟨o, h1, fun b hb => ⟨hD b hb, h2 b hb⟩, hW, hQ⟩
  · rintro ⟨o, h, hD, hW, hQ⟩
    refine ⟨o, ?_, fun b hb => (hD b hb).1, hW, hQ⟩
    unfold old
    rw [h]
    dsimp only
    rw [if_pos]
    exact List.all_eq_true.2 fun b hb => Nat.ble_eq_true_of_le (hD b hb).2
theorem wp_late {α : Type} {s0 : Nat} {m : AX α} {Q : α → AH → Nat → Prop} : Wp F G (late s0 m) H s Q = (s0 ≤ s ∧ Wp F G m H s Q) := by
  apply propext
  constructor
  · rintro ⟨o, h, hD, hW, hQ⟩
    obtain ⟨h1, h2⟩ := late_some h
    exact ⟨h2, o, h1, hD, hW, hQ⟩
  · rintro ⟨hs, o, h, hD, hW, hQ⟩
    exact ⟨o, by unfold late; rw [if_pos hs]; exact h, hD, hW, hQ⟩
/-- A run that turns nothing that was there, and reads old places alone, beside its own. -/
noncomputable def own {α : Type} (s0 : Nat) (m : AX α) : AX α := fun H s =>
  open Classical in
  if s0 ≤ s ∧ Bd H s then (match m H s with
    | some o => if (∀ b, b ∈ o.D → b < s0 ∨ s ≤ b) ∧ (∀ b, b ∈ o.W → s ≤ b) then some o else none
    | none => none)
  else none
theorem own_some {α : Type} {s0 : Nat} {m : AX α} {H : AH} {s : Nat} {o : Out α} (h : own s0 m H s = some o) : m H s = some o ∧ s0 ≤ s ∧ Bd H s ∧ (∀ b, b ∈ o.D → b < s0 ∨ s ≤ b) ∧ (∀ b, b ∈ o.W → s ≤ b) := by
  unfold own at h
  split at h
  · rename_i hs
    cases hm : m H s with
    | none => rw [hm] at h; cases h
    | some p =>
      rw [hm] at h
      dsimp only at h
      split at h
      · rename_i hd
        cases h
        exact ⟨rfl, hs.1, hs.2, hd.1, hd.2⟩
      · cases h
  · cases h
theorem wp_own {α : Type} {s0 : Nat} {m : AX α} {Q : α → AH → Nat → Prop} : Wp F G (own s0 m) H s Q = (s0 ≤ s ∧ Bd H s ∧ Wp (fun b => F b ∧ (b < s0 ∨ s ≤ b)) (fun b => G b ∧ s ≤ b) m H s Q) := by
  apply propext
  constructor
  · rintro ⟨o, h, hD, hW, hQ⟩
    obtain ⟨h1, h2, h3, h4, h5⟩ := own_some h
    exact ⟨h2, h3, o, h1, fun b hb => ⟨hD b hb, h4 b hb⟩, fun b hb => ⟨hW b hb, h5 b hb⟩, hQ⟩
  · rintro ⟨h2, h3, o, h, hD, hW, hQ⟩
    refine ⟨o, ?_, fun b hb => (hD b hb).1, fun b hb => (hW b hb).1, hQ⟩
    unfold own
    rw [if_pos ⟨h2, h3⟩, h]
    dsimp only
    rw [if_pos ⟨fun b hb => (hD b hb).2, fun b hb => (hW b hb).2⟩]
/-- What is asked of a region's operation. -/
noncomputable def kept {α : Type} (olds lates owns : List Nat) (s0 i : Nat) (m : AX α) : AX α := if owns.contains i = true then own s0 m else if lates.contains i = true then late s0 m else if olds.contains i = true then old s0 m else m
theorem kept_some {α : Type} {olds lates owns : List Nat} {s0 i : Nat} {m : AX α} {q : Out α} (h : kept olds lates owns s0 i m H s = some q) : m H s = some q ∧ (owns.contains i = true → s0 ≤ s ∧ Bd H s ∧ (∀ b, b ∈ q.D → b < s0 ∨ s ≤ b) ∧ (∀ b, b ∈ q.W → s ≤ b)) ∧ (owns.contains i = false → lates.contains i = true → s0 ≤ s) ∧ (owns.contains i = false → lates.contains i = false → olds.contains i = true → ∀ b, b ∈ q.D → b < s0) := by
  unfold kept at h
  split at h
  · rename_i ho
    obtain ⟨a, b⟩ := own_some h
    exact ⟨a, fun _ => b, fun h => by (rw [ho] at h; cases h), fun h => by (rw [ho] at h; cases h)⟩
  · rename_i ho
    split at h
    · rename_i hl
      obtain ⟨a, b⟩ := late_some h
      exact ⟨a, fun h => absurd h ho, fun _ _ => b, fun _ h => by (rw [hl] at h; cases h)⟩
    · rename_i hl
      split at h
      · rename_i hd
        obtain ⟨c, d⟩ := old_some h
        exact ⟨c, fun h => absurd h ho, fun _ h => absurd h hl, fun _ _ _ => d⟩
      · rename_i hd
        exact ⟨h, fun h => absurd h ho, fun _ h => absurd h hl, fun _ _ h => absurd h hd⟩
/-- A region's operations in the text's order, with what is asked of some. -/
noncomputable def seqO (P : Program) (call : FuncId → Array Value → AX Value) (olds lates owns : List Nat) (s0 : Nat) (ops : Array Oper) : List Oper → Nat → Array Value → AX (Array Value)
  | [], _, tm => ret tm
  | o :: r, i, tm => bind (kept olds lates owns s0 i (aVal P call ops o tm)) fun v => seqO P call olds lates owns s0 ops r (i + 1) (putA tm o.dst v)
/-- A foot beside others. -/
def FootX (s0 : Nat) (f : Foot) : Prop := f.s ≤ f.s' ∧ (∀ b, b ∈ f.D → b < s0 ∨ (f.s ≤ b ∧ b < f.s')) ∧ (∀ b, b ∈ f.W → f.s ≤ b ∧ b < f.s') ∧ (s0 ≤ f.s ∨ (f.s' = f.s ∧ f.W = [] ∧ ∀ b, b ∈ f.D → b < s0))
/-- What an operation leaves, by its kind. -/
structure FootOf (S : List FuncId) (olds lates owns : List Nat) (s0 i : Nat) (o : Oper) (f : Foot) : Prop where
  dry : memS S o = 0 → f.D = [] ∧ f.W = [] ∧ f.s' = f.s
  reads : Nat.ble (memS S o) 1 = true → f.W = [] ∧ f.s' = f.s
  news : isNew o = true → f.D = [] ∧ f.W = []
  aside : aside S olds lates owns i o = true → FootX s0 f
theorem foot_of {S : List FuncId} (hS : Calm S call) {olds lates owns : List Nat} {s0 : Nat} {ops : Array Oper} {o : Oper} {i : Nat} {tm : Array Value} {q : Out Value} (h : kept olds lates owns s0 i (aVal P call ops o tm) H s = some q) : aVal P call ops o tm H s = some q ∧ FootOf S olds lates owns s0 i o ⟨s, q.s, q.D, q.W⟩ := by
  obtain ⟨k1, k2, k3, k4⟩ := kept_some h
  have hls : LS (aVal P call ops o tm) := ls_aVal (fun f xs => hS.ls f xs) ops o tm
  have hr : Nat.ble (memS S o) 1 = true → q.W = [] ∧ q.s = s := fun hm => reads_valS hS hm _ _ _ k1
  have hn : isNew o = true → q.D = [] ∧ q.W = [] := fun hn => news_val hn _ _ _ k1
  have up := (hls.loc _ _ _ k1).up
  refine ⟨k1, ⟨fun hm => ?_, hr, hn, fun ha => ?_⟩⟩
  · unfold memS at hm
    split at hm
    · cases hm
    · exact dry_val hm _ _ _ k1
  · cases ho : owns.contains i with
    | true =>
      obtain ⟨a1, a2, a3, a4⟩ := k2 ho
      obtain ⟨u, _, bD, bW⟩ := hls.bd k1 a2
      exact ⟨u, fun b hb => (a3 b hb).imp id fun h => ⟨h, bD b hb⟩, fun b hb => ⟨a4 b hb, bW b hb⟩, .inl a1⟩
    | false =>
      unfold Go.Proofs.YtlkceignfhnpoaaGreatDoor.aside at ha
      rw [ho, Bool.or_false] at ha
      rcases Bool.or_eq_true_iff.1 ha with hc | hc
      · simp only [Bool.and_eq_true, Bool.not_eq_true'] at hc
        obtain ⟨e1, e2⟩ := hr hc.1.1
        have hd := k4 ho hc.2 hc.1.2
        exact ⟨up, fun b hb => .inl (hd b hb), fun b hb => (by rw [e1] at hb; cases hb), .inr ⟨e2, e1, hd⟩⟩
      · simp only [Bool.and_eq_true] at hc
        obtain ⟨e1, e2⟩ := hn hc.1
        exact ⟨up, fun b hb => (by rw [e1] at hb; cases hb), fun b hb => (by rw [e2] at hb; cases hb), .inl (k3 ho hc.2)⟩
theorem seqO_of {S : List FuncId} (hS : Calm S call) {olds lates owns : List Nat} {s0 : Nat} {ops : Array Oper} : ∀ (l : List Oper) (i : Nat) (tm : Array Value) (H : AH) (s : Nat) (o : Out (Array Value)), seqO P call olds lates owns s0 ops l i tm H s = some o →
    ∃ log, aSeq P call ops l tm H s = some ⟨(o.val, log), o.H, o.s, o.D, o.W⟩ ∧ (∀ (j : Nat) (f : Foot), log[j]? = some f → s ≤ f.s ∧ ∃ x : Oper, l[j]? = some x ∧ FootOf S olds lates owns s0 (i + j) x f) ∧ ∀ (j k : Nat) (f g : Foot), j < k → log[j]? = some f → log[k]? = some g → f.s' ≤ g.s
  | [], i, tm, H, s, o, h => by
    simp [seqO, AX.ret] at h; subst h
    exact ⟨[], by simp [aSeq, AX.ret], fun j f hf => by simp at hf, fun j k f g _ hf => by simp at hf⟩
  | x :: r, i, tm, H, s, o, h => by
    unfold seqO at h
    obtain ⟨p, q, h1, h2, rfl⟩ := bind_some h
    obtain ⟨e1, hf1⟩ := foot_of hS h1
    obtain ⟨log, hl, hf, ho⟩ := seqO_of hS r _ _ _ _ _ h2
    have hls : LS (aVal P call ops x tm) := ls_aVal (fun f xs => hS.ls f xs) ops x tm
    have up := (hls.loc _ _ _ e1).up
    refine ⟨⟨s, p.s, p.D, p.W⟩ :: log, by simp [aSeq, aStep, AX.bind, AX.ret, e1, hl], fun j f hj => ?_, fun j k f g hjk hj hk => ?_⟩
    · cases j with
      | zero => simp at hj; subst hj; exact ⟨Nat.le_refl _, x, rfl, hf1⟩
      | succ j =>
        obtain ⟨us, y, hy, fy⟩ := hf j f (by simpa using hj)
        refine ⟨Nat.le_trans up us, y, by simpa using hy, ?_⟩
        rwa [show i + (j + 1) = i + 1 + j by omega]
    · cases k with
      | zero => omega
      | succ k =>
        cases j with
        | zero =>
          simp at hj; subst hj
          exact (hf k g (by simpa using hk)).1
        | succ j => exact ho j k f g (by omega) (by simpa using hj) (by simpa using hk)
theorem apart_dry {f g : Foot} (h : f.D = [] ∧ f.W = [] ∧ f.s' = f.s) : f.apart g = true := by
  obtain ⟨a, b, c⟩ := h
  unfold Foot.apart
  simp only [a, b, c, List.all_nil, List.contains_nil, Bool.not_false, Bool.true_and, Bool.and_true, Bool.or_eq_true]
  right
  simp only [Bool.and_eq_true, List.all_eq_true, Bool.not_eq_true', Bool.and_eq_false_imp, decide_eq_true_eq, decide_eq_false_iff_not]
  exact ⟨fun x _ => trivial, fun x _ h => by omega⟩
theorem apart_dry' {f g : Foot} (h : g.D = [] ∧ g.W = [] ∧ g.s' = g.s) : f.apart g = true := by
  obtain ⟨a, b, c⟩ := h
  unfold Foot.apart
  simp only [a, b, c, List.all_nil, List.contains_nil, Bool.not_false, Bool.true_and, Bool.and_true, Bool.or_eq_true]
  right
  simp only [Bool.and_eq_true, List.all_eq_true, Bool.not_eq_true', Bool.and_eq_false_imp, decide_eq_true_eq, decide_eq_false_iff_not]
  exact ⟨fun x _ => trivial, fun x _ h => by omega⟩
theorem apart_calm {f g : Foot} (hf : f.W = [] ∧ f.s' = f.s) (hg : g.W = [] ∧ g.s' = g.s) : f.apart g = true := by
  unfold Foot.apart Foot.calm
  simp [hf.1, hf.2, hg.1, hg.2]
theorem apart_news {f g : Foot} (hf : f.D = [] ∧ f.W = []) (hg : g.D = [] ∧ g.W = []) : f.apart g = true := by
  unfold Foot.apart
  simp [hf.1, hf.2, hg.1, hg.2]
theorem apart_aside {f g : Foot} {s0 : Nat} (hf : FootX s0 f) (hg : FootX s0 g) (h : f.s' ≤ g.s) : f.apart g = true := by
  obtain ⟨f1, f2, f3, f4⟩ := hf
  obtain ⟨g1, g2, g3, g4⟩ := hg
  have c : ∀ (l : List Nat) (b : Nat), b ∉ l → l.contains b = false := fun l b hb => by
    cases hc : l.contains b with
    | false => rfl
    | true => exact absurd (List.contains_iff_mem.1 hc) hb
  unfold Foot.apart
  simp only [Bool.or_eq_true, Bool.and_eq_true, List.all_eq_true, Bool.not_eq_true']
  by_cases hcalm : (f.calm && g.calm) = true
  · exact .inl (by simpa [Bool.and_eq_true] using hcalm)
  · refine .inr ⟨⟨⟨fun b hb => c _ _ fun hm => ?_, fun b hb => c _ _ fun hm => ?_⟩, fun b hb => ?_⟩, fun b hb => ?_⟩
    · have a := f3 b hb
      rcases f4 with k | k
      · rcases g2 b hm with r | r <;> omega
      · rw [k.2.1] at hb; cases hb
    · have a := g3 b hb
      rcases g4 with k | k
      · rcases f2 b hm with r | r <;> omega
      · rw [k.2.1] at hb; cases hb
    · simp only [Bool.and_eq_false_imp, decide_eq_true_eq, decide_eq_false_iff_not]
      intro h1
      rcases f4 with k | k
      · rcases g2 b hb with r | r <;> omega
      · omega
    · simp only [Bool.and_eq_false_imp, decide_eq_true_eq, decide_eq_false_iff_not]
      intro h1
      rcases g4 with k | k
      · rcases f2 b hb with r | r <;> omega
      · omega
theorem log_ok {S : List FuncId} {olds lates owns : List Nat} {s0 : Nat} {ops : Array Oper} (hd : drawOK S olds lates owns ops = true) {log : List Foot} (hl : ∀ (j : Nat) (f : Foot), log[j]? = some f → ∃ x : Oper, ops.toList[j]? = some x ∧ FootOf S olds lates owns s0 j x f) (ho : ∀ (j k : Nat) (f g : Foot), j < k → log[j]? = some f → log[k]? = some g → f.s' ≤ g.s) : okLog (Region.before ops) log = true := by
  unfold okLog
  simp only [List.all_eq_true]
  rintro ⟨g, j⟩ hg ⟨f, i⟩ hf
  have hg' := List.mem_zipIdx_iff_getElem?.1 hg
  have hf' := List.mem_zipIdx_iff_getElem?.1 hf
  dsimp only at hg' hf' ⊢
  obtain ⟨x, hx, fx⟩ := hl _ _ hf'
  obtain ⟨y, hy, fy⟩ := hl _ _ hg'
  unfold drawOK at hd
  simp only [List.all_eq_true] at hd
  have := hd (y, j) (List.mem_zipIdx_iff_getElem?.2 hy) (x, i) (List.mem_zipIdx_iff_getElem?.2 hx)
  dsimp only at this
  by_cases hij : i < j
  · simp only [Bool.or_eq_true, Bool.and_eq_true, beq_iff_eq] at this ⊢
    rcases this with (((((a | a) | a) | a) | a) | a) | a
    · simp [hij] at a
    · exact .inl (.inr a)
    · exact .inr (apart_dry (fx.dry a))
    · exact .inr (apart_dry' (fy.dry a))
    · exact .inr (apart_calm (fx.reads a.1) (fy.reads a.2))
    · exact .inr (apart_news (fx.news a.1) (fy.news a.2))
    · exact .inr (apart_aside (fx.aside a.1) (fy.aside a.2) (ho i j f g hij hf' hg'))
  · simp [hij]
end
end Go.Proofs.YtlkceignfhnpoaaGreatDoor
namespace Go.Proofs.YtlkceignfhnpoaaGreatDoor
open Go AX
section
variable {P : Program} {call : FuncId → Array Value → AX Value} {F G : Nat → Prop} {H : AH} {s : Nat}
/-- A drawn region that is run in the text's order: its number, which operations read old places alone, which make new ones beside. -/
abbrev Plan := List (Nat × List Nat × List Nat × List Nat)
def planOf (l : Plan) (id : Nat) : Option (List Nat × List Nat × List Nat) :=
  match l with
  | [] => none
  | (k, o, n, w) :: r => if k = id then some (o, n, w) else planOf r id
/-- The named regions may be run so. -/
def plainOK (S : List FuncId) (l : Plan) : Code → Bool
  | .region id ops d => !d || (match planOf l id with | none => true | some (o, n, w) => drawOK S o n w ops)
  | .seq a b => plainOK S l a && plainOK S l b
  | .cond _ a b => plainOK S l a && plainOK S l b
  | .block _ c => plainOK S l c
  | .loop c => plainOK S l c
  | .scope c => plainOK S l c
  | _ => true
/-- A code's run with a plan. -/
noncomputable def pCode (P : Program) (call : FuncId → Array Value → AX Value) (l : Plan) : Code → Array Value → AX (AExit × Array Value)
  | .region id ops d, tm => match d, planOf l id with
    | true, some (o, n, w) => fun H s => bind (seqO P call o n w s ops ops.toList 0 tm) (fun x => ret (.normal, x)) H s
    | true, none => aCode P call (.region id ops true) tm
    | false, _ => bind (seqV P call ops ops.toList tm) fun x => ret (.normal, x)
  | .seq a b, tm => bind (pCode P call l a tm) fun x => match x.1 with | .normal => pCode P call l b x.2 | .exit id => ret (.exit id, x.2) | .ret => ret (.ret, x.2)
  | .cond c a b, tm => if Operand.isGlobal c = true then fail else match evalA tm c with | .bool t => if t = true then pCode P call l a tm else pCode P call l b tm | _ => fail
  | .block id c, tm => bind (pCode P call l c tm) fun x => match x.1 with | .normal => ret (.normal, x.2) | .exit j => if j = id then ret (.normal, x.2) else ret (.exit j, x.2) | .ret => ret (.ret, x.2)
  | .loop c, tm => aLoop (fun tm => pCode P call l c tm) LF tm
  | .scope c, tm => pCode P call l c tm
  | c, tm => aCode P call c tm
def Sub {α : Type} (m m' : AX α) : Prop := ∀ H s o, m H s = some o → m' H s = some o
theorem Sub.refl {α : Type} (m : AX α) : Sub m m := fun _ _ _ h => h
theorem Sub.bind {α β : Type} {m m' : AX α} {f f' : α → AX β} (h : Sub m m') (k : ∀ a, Sub (f a) (f' a)) : Sub (AX.bind m f) (AX.bind m' f') := by
  intro H s o e
  obtain ⟨p, q, h1, h2, rfl⟩ := bind_some e
  simp [AX.bind, h _ _ _ h1, k _ _ _ _ h2]
theorem Sub.wp {α : Type} {m m' : AX α} (h : Sub m m') {Q : α → AH → Nat → Prop} (w : Wp F G m H s Q) : Wp F G m' H s Q := by
  obtain ⟨o, a, b, c, d⟩ := w
  exact ⟨o, h _ _ _ a, b, c, d⟩
theorem loop_sub {b b' : Array Value → AX (AExit × Array Value)} (h : ∀ tm, Sub (b tm) (b' tm)) : ∀ n tm, Sub (aLoop b n tm) (aLoop b' n tm)
  | 0, tm => Sub.refl _
  | n + 1, tm => by
    unfold aLoop
    refine Sub.bind (h tm) fun x => ?_
    split
    · exact loop_sub h n _
    · exact Sub.refl _
    · exact Sub.refl _
theorem plan_sub {S : List FuncId} (hS : Calm S call) {l : Plan} : ∀ (c : Code) (tm : Array Value), plainOK S l c = true → Sub (pCode P call l c tm) (aCode P call c tm) := by
  intro c
  induction c with
  | region id ops d =>
    intro tm h
    unfold pCode
    cases d with
    | false =>
      unfold aCode
      intro H s o e
      obtain ⟨p, q, h1, h2, rfl⟩ := bind_some e
      obtain ⟨log, hl⟩ := seqV_of _ _ _ _ _ h1
      simp [AX.ret] at h2
      subst h2
      simp [aRegion, AX.bind, AX.ret, hl]
    | true =>
      cases hp : planOf l id with
      | none => exact Sub.refl _
      | some q =>
        obtain ⟨os, ns, ws⟩ := q
        simp only [plainOK, hp, Bool.not_true, Bool.false_or] at h
        unfold aCode
        intro H s o e
        obtain ⟨p, q, h1, h2, rfl⟩ := bind_some e
        obtain ⟨log, hl, hf, ho⟩ := seqO_of hS _ _ _ _ _ _ h1
        have hk := log_ok h (log := log) (fun j f hj => by simpa using (hf j f hj).2) ho
        simp [AX.ret] at h2
        subst h2
        unfold aRegion
        simp only [if_true, AX.bind, hl]
        rw [if_pos hk]
        simp [AX.ret]
  | seq a b iha ihb =>
    intro tm h
    simp only [plainOK, Bool.and_eq_true] at h
    simp only [pCode, aCode]
    refine Sub.bind (iha tm h.1) fun x => ?_
    obtain ⟨e, t⟩ := x
    cases e
    · exact ihb _ h.2
    · exact Sub.refl _
    · exact Sub.refl _
  | cond c a b iha ihb =>
    intro tm h
    simp only [plainOK, Bool.and_eq_true] at h
    simp only [pCode, aCode]
    split
    · exact Sub.refl _
    · cases evalA tm c with
      | bool t =>
        dsimp only
        split
        · exact iha tm h.1
        · exact ihb tm h.2
      | _ => exact Sub.refl _
  | block id c ih =>
    intro tm h
    simp only [plainOK] at h
    simp only [pCode, aCode]
    exact Sub.bind (ih tm h) fun x => Sub.refl _
  | loop c ih =>
    intro tm h
    simp only [plainOK] at h
    simp only [pCode, aCode]
    exact loop_sub (fun tm => ih tm h) _ _
  | scope c ih =>
    intro tm h
    simp only [plainOK] at h
    simp only [pCode, aCode]
    exact ih tm h
  | _ => intro tm h; exact Sub.refl _
theorem wp_seq {a b : Code} {tm : Array Value} {Q : AExit × Array Value → AH → Nat → Prop} : Wp F G (aCode P call (.seq a b) tm) H s Q = Wp F G (aCode P call a tm) H s (fun x H' s' => match x.1 with | .normal => Wp F G (aCode P call b x.2) H' s' Q | .exit id => Q (.exit id, x.2) H' s' | .ret => Q (.ret, x.2) H' s') := by
  conv => lhs; unfold aCode
  rw [wp_bind]
  refine wp_same fun x H' s' => ?_
  cases x.1 <;> simp [wp_ret]
theorem wp_cond {c : Operand} {a b : Code} {tm : Array Value} {Q : AExit × Array Value → AH → Nat → Prop} : Wp F G (aCode P call (.cond c a b) tm) H s Q = (if Operand.isGlobal c = true then False else match evalA tm c with | .bool t => if t = true then Wp F G (aCode P call a tm) H s Q else Wp F G (aCode P call b tm) H s Q | _ => False) := by
  conv => lhs; unfold aCode
  rw [wp_ite, wp_fail]
  congr 1
  cases evalA tm c with
  | bool t => dsimp only; rw [wp_ite]
  | _ => exact wp_fail
theorem wp_block {id : Nat} {c : Code} {tm : Array Value} {Q : AExit × Array Value → AH → Nat → Prop} : Wp F G (aCode P call (.block id c) tm) H s Q = Wp F G (aCode P call c tm) H s (fun x H' s' => match x.1 with | .normal => Q (.normal, x.2) H' s' | .exit j => if j = id then Q (.normal, x.2) H' s' else Q (.exit j, x.2) H' s' | .ret => Q (.ret, x.2) H' s') := by
  conv => lhs; unfold aCode
  rw [wp_bind]
  refine wp_same fun x H' s' => ?_
  cases x.1 <;> simp [wp_ret, wp_ite]
theorem wp_scope {c : Code} {tm : Array Value} {Q : AExit × Array Value → AH → Nat → Prop} : Wp F G (aCode P call (.scope c) tm) H s Q = Wp F G (aCode P call c tm) H s Q := by
  conv => lhs; unfold aCode
theorem wp_skip {tm : Array Value} {Q : AExit × Array Value → AH → Nat → Prop} : Wp F G (aCode P call .skip tm) H s Q = Q (.normal, tm) H s := by
  conv => lhs; unfold aCode
  rw [wp_ret]
theorem wp_label {k : _} {tm : Array Value} {Q : AExit × Array Value → AH → Nat → Prop} : Wp F G (aCode P call (.label k) tm) H s Q = Q (.normal, tm) H s := by
  conv => lhs; unfold aCode
  rw [wp_ret]
theorem wp_exit {id : Nat} {tm : Array Value} {Q : AExit × Array Value → AH → Nat → Prop} : Wp F G (aCode P call (.exit id) tm) H s Q = Q (.exit id, tm) H s := by
  conv => lhs; unfold aCode
  rw [wp_ret]
theorem wp_cret {tm : Array Value} {Q : AExit × Array Value → AH → Nat → Prop} : Wp F G (aCode P call .ret tm) H s Q = Q (.ret, tm) H s := by
  conv => lhs; unfold aCode
  rw [wp_ret]
theorem aSeq_seqV {ops : Array Oper} : ∀ (l : List Oper) (tm : Array Value) (H : AH) (s : Nat) (o : Out (Array Value × List Foot)), aSeq P call ops l tm H s = some o → seqV P call ops l tm H s = some ⟨o.val.1, o.H, o.s, o.D, o.W⟩
  | [], tm, H, s, o, h => by
    simp [aSeq, AX.ret] at h; subst h; simp [seqV, AX.ret]
  | x :: r, tm, H, s, o, h => by
    unfold aSeq at h
    cases h1 : aStep P call ops x tm H s with
    | none => rw [h1] at h; cases h
    | some p =>
      rw [h1] at h
      dsimp only at h
      cases h2 : aSeq P call ops r p.val p.H p.s with
      | none => rw [h2] at h; cases h
      | some y =>
        rw [h2] at h
        simp only [Option.some.injEq] at h
        subst h
        unfold aStep at h1
        obtain ⟨a, b, e1, e2, rfl⟩ := bind_some h1
        simp [AX.ret] at e2
        subst e2
        have := aSeq_seqV r _ _ _ _ h2
        dsimp only at this
        simp [seqV, AX.bind, e1, this]
theorem wp_reg {id : Nat} {ops : Array Oper} {tm : Array Value} {Q : AExit × Array Value → AH → Nat → Prop} : Wp F G (aCode P call (.region id ops false) tm) H s Q = Wp F G (seqV P call ops ops.toList tm) H s (fun t H' s' => Q (.normal, t) H' s') := by
  apply propext
  constructor
  · intro h
    unfold aCode at h
    rw [wp_bind] at h
    obtain ⟨o, h1, hD, hW, hQ⟩ := h
    unfold aRegion at h1
    simp only [if_false, Bool.false_eq_true] at h1
    obtain ⟨p, q, e1, e2, rfl⟩ := bind_some h1
    simp [AX.ret] at e2
    subst e2
    have := aSeq_seqV _ _ _ _ _ e1
    rw [wp_ret] at hQ
    exact ⟨_, this, fun b hb => hD b (by simpa using hb), fun b hb => hW b (by simpa using hb), hQ⟩
  · exact wp_region
theorem wp_sv_nil {ops : Array Oper} {tm : Array Value} {Q : Array Value → AH → Nat → Prop} : Wp F G (seqV P call ops [] tm) H s Q = Q tm H s := by unfold seqV; rw [wp_ret]
theorem wp_sv_cons {ops : Array Oper} {o : Oper} {r : List Oper} {tm : Array Value} {Q : Array Value → AH → Nat → Prop} : Wp F G (seqV P call ops (o :: r) tm) H s Q = Wp F G (aVal P call ops o tm) H s (fun v H' s' => Wp F G (seqV P call ops r (putA tm o.dst v)) H' s' Q) := by
  conv => lhs; unfold seqV
  rw [wp_bind]
/-- Round a loop: a measure that falls. -/
theorem wp_aloop {b : Array Value → AX (AExit × Array Value)} {Q : AExit × Array Value → AH → Nat → Prop} (I : Nat → Array Value → AH → Nat → Prop)
    (hs : ∀ k tm H s, I k tm H s → Wp F G (b tm) H s (fun x H' s' => match x.1 with | .normal => ∃ k', k' < k ∧ I k' x.2 H' s' | .exit id => Q (.exit id, x.2) H' s' | .ret => Q (.ret, x.2) H' s')) :
    ∀ n k tm H s, k < n → I k tm H s → Wp F G (aLoop b n tm) H s Q
  | 0, k, tm, H, s, hk, hi => by omega
  | n + 1, k, tm, H, s, hk, hi => by
    unfold aLoop
    rw [wp_bind]
    refine wp_mono (hs k tm H s hi) fun x H' s' h => ?_
    cases hx : x.1 with
    | normal =>
      rw [hx] at h
      obtain ⟨k', h1, h2⟩ := h
      exact wp_aloop I hs n k' _ _ _ (by omega) h2
    | exit id => rw [hx] at h; dsimp only at h ⊢; rw [wp_ret]; exact h
    | ret => rw [hx] at h; dsimp only at h ⊢; rw [wp_ret]; exact h
theorem wp_loop {l : Plan} {c : Code} {tm : Array Value} {Q : AExit × Array Value → AH → Nat → Prop} (I : Nat → Array Value → AH → Nat → Prop) {k : Nat} (hk : k < LF) (hi : I k tm H s)
    (hs : ∀ k tm H s, I k tm H s → Wp F G (pCode P call l c tm) H s (fun x H' s' => match x.1 with | .normal => ∃ k', k' < k ∧ I k' x.2 H' s' | .exit id => Q (.exit id, x.2) H' s' | .ret => Q (.ret, x.2) H' s')) :
    Wp F G (pCode P call l (.loop c) tm) H s Q := by
  unfold pCode
  exact wp_aloop I hs _ _ _ _ _ hk hi
theorem wp_round {b : Array Value → AX (AExit × Array Value)} {n : Nat} {tm : Array Value} {Q : AExit × Array Value → AH → Nat → Prop} : Wp F G (aLoop b (n + 1) tm) H s Q = Wp F G (b tm) H s (fun x H' s' => match x.1 with | .normal => Wp F G (aLoop b n x.2) H' s' Q | .exit id => Q (.exit id, x.2) H' s' | .ret => Q (.ret, x.2) H' s') := by
  conv => lhs; unfold aLoop
  rw [wp_bind]
  refine wp_same fun x H' s' => ?_
  cases x.1 <;> simp [wp_ret]
/-- k rounds one by one. -/
theorem wp_rounds (k : Nat) {l : Plan} {c : Code} {tm : Array Value} {Q : AExit × Array Value → AH → Nat → Prop} (hk : k ≤ 1000) (h : Wp F G (aLoop (fun tm => pCode P call l c tm) (LF - k + k) tm) H s Q) : Wp F G (pCode P call l (.loop c) tm) H s Q := by
  unfold pCode
  rwa [Nat.sub_add_cancel (by unfold LF; omega)] at h
section
variable {l : Plan} {tm : Array Value} {Q : AExit × Array Value → AH → Nat → Prop}
theorem wp_pseq {a b : Code} : Wp F G (pCode P call l (.seq a b) tm) H s Q = Wp F G (pCode P call l a tm) H s (fun x H' s' => match x.1 with | .normal => Wp F G (pCode P call l b x.2) H' s' Q | .exit id => Q (.exit id, x.2) H' s' | .ret => Q (.ret, x.2) H' s') := by
  conv => lhs; unfold pCode
  rw [wp_bind]
  refine wp_same fun x H' s' => ?_
  cases x.1 <;> simp [wp_ret]
theorem wp_pcond {c : Operand} {a b : Code} : Wp F G (pCode P call l (.cond c a b) tm) H s Q = (if Operand.isGlobal c = true then False else match evalA tm c with | .bool t => if t = true then Wp F G (pCode P call l a tm) H s Q else Wp F G (pCode P call l b tm) H s Q | _ => False) := by
  conv => lhs; unfold pCode
  rw [wp_ite, wp_fail]
  congr 1
  cases evalA tm c with
  | bool t => dsimp only; rw [wp_ite]
  | _ => exact wp_fail
theorem wp_pblock {id : Nat} {c : Code} : Wp F G (pCode P call l (.block id c) tm) H s Q = Wp F G (pCode P call l c tm) H s (fun x H' s' => match x.1 with | .normal => Q (.normal, x.2) H' s' | .exit j => if j = id then Q (.normal, x.2) H' s' else Q (.exit j, x.2) H' s' | .ret => Q (.ret, x.2) H' s') := by
  conv => lhs; unfold pCode
  rw [wp_bind]
  refine wp_same fun x H' s' => ?_
  cases x.1 <;> simp [wp_ret, wp_ite]
theorem wp_pscope {c : Code} : Wp F G (pCode P call l (.scope c) tm) H s Q = Wp F G (pCode P call l c tm) H s Q := by
  conv => lhs; unfold pCode
theorem wp_pskip : Wp F G (pCode P call l .skip tm) H s Q = Q (.normal, tm) H s := by
  conv => lhs; unfold pCode
  exact wp_skip
theorem wp_plabel {k : _} : Wp F G (pCode P call l (.label k) tm) H s Q = Q (.normal, tm) H s := by
  conv => lhs; unfold pCode
  exact wp_label
theorem wp_pexit {id : Nat} : Wp F G (pCode P call l (.exit id) tm) H s Q = Q (.exit id, tm) H s := by
  conv => lhs; unfold pCode
  exact wp_exit
theorem wp_pret : Wp F G (pCode P call l .ret tm) H s Q = Q (.ret, tm) H s := by
  conv => lhs; unfold pCode
  exact wp_cret
theorem wp_preg {id : Nat} {ops : List Oper} : Wp F G (pCode P call l (.region id (List.toArray ops) false) tm) H s Q = Wp F G (seqV P call (List.toArray ops) ops tm) H s (fun t H' s' => Q (.normal, t) H' s') := by
  conv => lhs; unfold pCode
  rw [wp_bind]
  refine wp_same fun x H' s' => ?_
  rw [wp_ret]
/-- A drawn region: by what the plan says of it. -/
def drawnW (P : Program) (call : FuncId → Array Value → AX Value) (F G : Nat → Prop) (pl : Option (List Nat × List Nat × List Nat)) (id : Nat) (ops : List Oper) (tm : Array Value) (H : AH) (s : Nat) (Q : AExit × Array Value → AH → Nat → Prop) (t : Tag Q := ⟨0⟩) : Prop :=
  match pl with
  | none => Wp F G (aCode P call (.region id (List.toArray ops) true) tm) H s Q
  | some ([], [], []) => Wp F G (seqV P call (List.toArray ops) ops tm) H s (fun t H' s' => Q (.normal, t) H' s')
  | some (o, n, w) => Wp F G (seqO P call o n w s (List.toArray ops) ops 0 tm) H s (fun t H' s' => Q (.normal, t) H' s')
theorem seqO_plain {ops : Array Oper} {s0 : Nat} : ∀ (r : List Oper) (i : Nat) (tm : Array Value), seqO P call [] [] [] s0 ops r i tm = seqV P call ops r tm
  | [], i, tm => rfl
  | o :: r, i, tm => by
    unfold seqO seqV
    congr 1
    funext v
    exact seqO_plain r _ _
theorem wp_pdrawn {id : Nat} {ops : List Oper} : Wp F G (pCode P call l (.region id (List.toArray ops) true) tm) H s Q = drawnW P call F G (planOf l id) id ops tm H s Q := by
  conv => lhs; unfold pCode
  unfold drawnW
  cases hp : planOf l id with
  | none => rfl
  | some q =>
    obtain ⟨o, n, w⟩ := q
    dsimp only
    have e : Wp F G (fun H s => AX.bind (seqO P call o n w s (List.toArray ops) (List.toArray ops).toList 0 tm) (fun x => AX.ret (AExit.normal, x)) H s) H s Q = Wp F G (seqO P call o n w s (List.toArray ops) ops 0 tm) H s (fun t H' s' => Q (.normal, t) H' s') := by
      have : Wp F G (AX.bind (seqO P call o n w s (List.toArray ops) ops 0 tm) (fun x => AX.ret (AExit.normal, x))) H s Q = Wp F G (seqO P call o n w s (List.toArray ops) ops 0 tm) H s (fun t H' s' => Q (.normal, t) H' s') := by
        rw [wp_bind]
        exact wp_same fun x H' s' => wp_ret
      exact this
    rw [e]
    split
    · rename_i h; cases h
    · rename_i h; cases h; rw [seqO_plain]
    · rename_i h; cases h; rfl
theorem dw_none {id : Nat} {ops : List Oper} : drawnW P call F G none id ops tm H s Q = Wp F G (aCode P call (.region id (List.toArray ops) true) tm) H s Q := rfl
theorem dw_plain {id : Nat} {ops : List Oper} : drawnW P call F G (some ([], [], [])) id ops tm H s Q = Wp F G (seqV P call (List.toArray ops) ops tm) H s (fun t H' s' => Q (.normal, t) H' s') := rfl
theorem dw_old {id : Nat} {ops : List Oper} {a : Nat} {b n w : List Nat} : drawnW P call F G (some (a :: b, n, w)) id ops tm H s Q = Wp F G (seqO P call (a :: b) n w s (List.toArray ops) ops 0 tm) H s (fun t H' s' => Q (.normal, t) H' s') := rfl
theorem dw_late {id : Nat} {ops : List Oper} {a : Nat} {b w : List Nat} : drawnW P call F G (some ([], a :: b, w)) id ops tm H s Q = Wp F G (seqO P call [] (a :: b) w s (List.toArray ops) ops 0 tm) H s (fun t H' s' => Q (.normal, t) H' s') := rfl
theorem dw_own {id : Nat} {ops : List Oper} {a : Nat} {b : List Nat} : drawnW P call F G (some ([], [], a :: b)) id ops tm H s Q = Wp F G (seqO P call [] [] (a :: b) s (List.toArray ops) ops 0 tm) H s (fun t H' s' => Q (.normal, t) H' s') := rfl
theorem wp_so_nil {olds lates owns : List Nat} {s0 i : Nat} {ops : Array Oper} {Q : Array Value → AH → Nat → Prop} : Wp F G (seqO P call olds lates owns s0 ops [] i tm) H s Q = Q tm H s := by unfold seqO; rw [wp_ret]
theorem wp_so_cons {olds lates owns : List Nat} {s0 i : Nat} {ops : Array Oper} {o : Oper} {r : List Oper} {Q : Array Value → AH → Nat → Prop} : Wp F G (seqO P call olds lates owns s0 ops (o :: r) i tm) H s Q = Wp F G (kept olds lates owns s0 i (aVal P call ops o tm)) H s (fun v H' s' => Wp F G (seqO P call olds lates owns s0 ops r (i + 1) (putA tm o.dst v)) H' s' Q) := by
  conv => lhs; unfold seqO
  rw [wp_bind]
end
end
end Go.Proofs.YtlkceignfhnpoaaGreatDoor
namespace Go.Proofs.YtlkceignfhnpoaaGreatDoor
open Go AX
section
variable {P : Program} {call : FuncId → Array Value → AX Value} {ops : Array Oper} {tm : Array Value} {d : Option Tmp} {ty : TypeId} {pos : String} {af : Array Edge}
theorem ok_tmp (t : Tmp) : Operand.okC (.tmp t) = true := Eq.trans rfl rfl
theorem ok_func (f : FuncId) : Operand.okC (.func f) = true := Eq.trans rfl rfl
theorem ok_const (v : Value) : Operand.okC (.const v) = constOK v := Eq.trans rfl rfl
theorem gl_tmp (t : Tmp) : Operand.isGlobal (.tmp t) = false := Eq.trans rfl rfl
theorem gl_func (t : FuncId) : Operand.isGlobal (.func t) = false := Eq.trans rfl rfl
theorem gl_const (v : Value) : Operand.isGlobal (.const v) = false := Eq.trans rfl rfl
/-- An operation of a literal, unguarded. -/
theorem v_op {op : Op} : aVal P call ops ⟨d, op, ty, pos, af, none⟩ tm = aOp P call ⟨d, op, ty, pos, af, none⟩ tm := by
  unfold aVal Region.wanted
  simp
/-- A guarded one. -/
def yld (ops : Array Oper) (tm : Array Value) (j : Nat) : Option Bool :=
  match (ops[j]?).bind (·.dst) with
  | some t => (match evalA tm (.tmp t) with | .bool b => some b | _ => none)
  | none => none
theorem yld_eq (j : Nat) : yielded ops tm j = yld ops tm j := by
  unfold yielded yld
  cases (ops[j]?).bind (·.dst) with
  | none => rfl
  | some t =>
    show (match tm[t]? with | some (.bool b) => some b | _ => none) = (match tm.getD t undef with | .bool b => some b | _ => none)
    rw [Array.getD_eq_getD_getElem?]
    cases tm[t]? with
    | none => rfl
    | some v => cases v <;> rfl
theorem v_guard {op : Op} {j : Nat} {b : Bool} : aVal P call ops ⟨d, op, ty, pos, af, some (j, b)⟩ tm = if (yld ops tm j == some b) = true then aOp P call ⟨d, op, ty, pos, af, none⟩ tm else ret undef := by
  unfold aVal Region.wanted
  show (if (yielded ops tm j == some b) = true then aOp P call ⟨d, op, ty, pos, af, some (j, b)⟩ tm else ret undef) = _
  have e := yld_eq (ops := ops) (tm := tm) j
  by_cases h : (yld ops tm j == some b) = true
  · rw [if_pos h, if_pos (by rw [e]; exact h)]; rfl
  · rw [if_neg h, if_neg (by rw [e]; exact h)]
section
variable {g : Option (Nat × Bool)}
theorem o_move {x : Operand} (hx : Operand.okC x = true) : aOp P call ⟨d, .move x, ty, pos, af, g⟩ tm = ret (evalA tm x) := by simp [aOp, Op.operands, hx]
theorem o_assign {x : Operand} (hx : Operand.okC x = true) : aOp P call ⟨d, .assign x, ty, pos, af, g⟩ tm = ret (evalA tm x) := by simp [aOp, Op.operands, hx]
theorem o_pick {c a b : Operand} (hc : Operand.okC c = true) (ha : Operand.okC a = true) (hb : Operand.okC b = true) : aOp P call ⟨d, .pick c a b, ty, pos, af, g⟩ tm = (match evalA tm c with | .bool t => ret (if t = true then evalA tm a else evalA tm b) | _ => fail) := by simp [aOp, Op.operands, hc, ha, hb]; rfl
theorem o_alloc {e : TypeId} : aOp P call ⟨d, .alloc e, ty, pos, af, g⟩ tm = (match zeroOf P e with | some z => newC e z.cells.toList | none => fail) := by simp [aOp, Op.operands]; rfl
theorem o_box {e : TypeId} {x : Operand} (hx : Operand.okC x = true) : aOp P call ⟨d, .box e x, ty, pos, af, g⟩ tm = newC e (evalA tm x).cells.toList := by simp [aOp, Op.operands, hx]
theorem o_load {t : TypeId} {x : Operand} (hx : Operand.okC x = true) : aOp P call ⟨d, .load t x, ty, pos, af, g⟩ tm = aLoad P t (evalA tm x) := by simp [aOp, Op.operands, hx]
theorem o_store {t : TypeId} {a x : Operand} (ha : Operand.okC a = true) (hx : Operand.okC x = true) : aOp P call ⟨d, .store t a x, ty, pos, af, g⟩ tm = aStore P t (evalA tm a) (evalA tm x) := by simp [aOp, Op.operands, hx, ha]
theorem o_nilCheck {x : Operand} (hx : Operand.okC x = true) : aOp P call ⟨d, .nilCheck x, ty, pos, af, g⟩ tm = aNilCheck (evalA tm x) := by simp [aOp, Op.operands, hx]
theorem o_bin {op : BinOp} {t : TypeId} {x y : Operand} {yt : TypeId} (hx : Operand.okC x = true) (hy : Operand.okC y = true) : aOp P call ⟨d, .binOp op t x y yt, ty, pos, af, g⟩ tm = aBin P op t x y (evalA tm x) (evalA tm y) := by simp [aOp, Op.operands, hx, hy]
theorem o_un {op : UnOp} {t : TypeId} {x : Operand} (hx : Operand.okC x = true) : aOp P call ⟨d, .unOp op t x, ty, pos, af, g⟩ tm = if flat (evalA tm x) = true then ofStat P (Op.unary op (evalA tm x)) else fail := by simp [aOp, Op.operands, hx]
theorem o_conv {a b : TypeId} {x : Operand} (hx : Operand.okC x = true) : aOp P call ⟨d, .convert a b x, ty, pos, af, g⟩ tm = if flat (evalA tm x) = true then ofStat P (convert a b (evalA tm x)) else fail := by simp [aOp, Op.operands, hx]
theorem o_fieldAddr {t : TypeId} {x : Operand} {i : Nat} (hx : Operand.okC x = true) : aOp P call ⟨d, .fieldAddr t x i, ty, pos, af, g⟩ tm = aFieldAddr P t (evalA tm x) i := by simp [aOp, Op.operands, hx]
theorem o_field {t : TypeId} {x : Operand} {i : Nat} (hx : Operand.okC x = true) : aOp P call ⟨d, .field t x i, ty, pos, af, g⟩ tm = aField P t (evalA tm x) i := by simp [aOp, Op.operands, hx]
theorem o_indexAddr {t : TypeId} {x i : Operand} (hx : Operand.okC x = true) (hi : Operand.okC i = true) : aOp P call ⟨d, .indexAddr t x i, ty, pos, af, g⟩ tm = aIndexAddr P t (evalA tm x) (evalA tm i) := by simp [aOp, Op.operands, hx, hi]
theorem o_index {t : TypeId} {x i : Operand} (hx : Operand.okC x = true) (hi : Operand.okC i = true) : aOp P call ⟨d, .index t x i, ty, pos, af, g⟩ tm = aIndex P t (evalA tm x) (evalA tm i) := by simp [aOp, Op.operands, hx, hi]
theorem o_lookup {t : TypeId} {m k : Operand} {ok : Bool} (hm : Operand.okC m = true) (hk : Operand.okC k = true) : aOp P call ⟨d, .lookup t m k ok, ty, pos, af, g⟩ tm = aLookup P t (evalA tm m) (evalA tm k) ok := by simp [aOp, Op.operands, hm, hk]
theorem o_mapUpdate {t : TypeId} {m k v : Operand} (hm : Operand.okC m = true) (hk : Operand.okC k = true) (hv : Operand.okC v = true) : aOp P call ⟨d, .mapUpdate t m k v, ty, pos, af, g⟩ tm = aMapUpdate P t (evalA tm m) (evalA tm k) (evalA tm v) := by simp [aOp, Op.operands, hm, hk, hv]
theorem o_extract {t : Operand} {i : Nat} (ht : Operand.okC t = true) : aOp P call ⟨d, .extract t i, ty, pos, af, g⟩ tm = (match evalA tm t with | .tuple vs => ofOpt vs[i]? | _ => fail) := by simp [aOp, Op.operands, ht]; rfl
theorem o_call {f : FuncId} {ags : Array Operand} {ts : Array TypeId} (ha : ags.toList.all Operand.okC = true) (hc : callable P f = true) : aOp P call ⟨d, .call ⟨.value (.func f), ags, ts⟩, ty, pos, af, g⟩ tm = call f (ags.map (evalA tm)) := by
  have : (Op.call ⟨.value (.func f), ags, ts⟩).operands.toList.all Operand.okC = true := by
    simp [Op.operands, Call.operands, Operand.okC] at ha ⊢
    exact ha
  simp only [aOp, this, if_true, evalA, hc]
  simp
theorem o_builtin {b : Builtin} {ags : Array Operand} {ts : Array TypeId} (ha : ags.toList.all Operand.okC = true) : aOp P call ⟨d, .call ⟨.builtin b, ags, ts⟩, ty, pos, af, g⟩ tm = aBuiltin P b ts (ags.map (evalA tm)) := by
  have : (Op.call ⟨.builtin b, ags, ts⟩).operands.toList.all Operand.okC = true := by
    simp [Op.operands, Call.operands] at ha ⊢
    exact ha
  simp only [aOp, this, if_true]
theorem o_callv {x : Operand} {ags : Array Operand} {ts : Array TypeId} (hx : Operand.okC x = true) (ha : ags.toList.all Operand.okC = true) : aOp P call ⟨d, .call ⟨.value x, ags, ts⟩, ty, pos, af, g⟩ tm = (match evalA tm x with | .func (.func f) first captured => if callable P f = true then call f (first ++ ags.map (evalA tm) ++ captured) else fail | _ => fail) := by
  have : (Op.call ⟨.value x, ags, ts⟩).operands.toList.all Operand.okC = true := by
    simp [Op.operands, Call.operands, hx] at ha ⊢
    exact ha
  simp only [aOp, this, if_true]
  rfl
theorem o_build {t : TypeId} {parts : Array (Nat × Operand)} (hp : (parts.toList.map (·.2)).all Operand.okC = true) : aOp P call ⟨d, .build t parts, ty, pos, af, g⟩ tm = if (zeroOf P t).isSome = true then ofOpt (stat P (Instr.build t (parts.map fun p => (p.1, evalA tm p.2)))) else fail := by
  have : (Op.build t parts).operands.toList.all Operand.okC = true := by
    simp [Op.operands] at hp ⊢
    exact hp
  simp only [aOp, this, if_true]
theorem o_buildSlice {t : TypeId} {n : Nat} {parts : Array (Nat × Operand)} (hp : (parts.toList.map (·.2)).all Operand.okC = true) : aOp P call ⟨d, .buildSlice t n parts, ty, pos, af, g⟩ tm = aBuildSlice P t n (parts.map fun p => (p.1, evalA tm p.2)) := by
  have : (Op.buildSlice t n parts).operands.toList.all Operand.okC = true := by
    simp [Op.operands] at hp ⊢
    exact hp
  simp only [aOp, this, if_true]
theorem o_makeFunc {f : FuncId} {fs cs : Array Operand} (h1 : fs.toList.all Operand.okC = true) (h2 : cs.toList.all Operand.okC = true) : aOp P call ⟨d, .makeFunc (.func f) fs cs, ty, pos, af, g⟩ tm = ret (.func (.func f) (fs.map (evalA tm)) (cs.map (evalA tm))) := by
  have : (Op.makeFunc (.func f) fs cs).operands.toList.all Operand.okC = true := by
    simp [Op.operands, List.all_append] at h1 h2 ⊢
    exact ⟨h1, h2⟩
  simp only [aOp, this, if_true]
theorem o_makeMap {t : TypeId} {kt : TypeId × TypeId} (h : mapT P t = some kt) : aOp P call ⟨d, .makeMap t none, ty, pos, af, g⟩ tm = bind (new (.map [])) fun b => ret (.map (some b)) := by
  simp [aOp, Op.operands, h]
theorem o_makeSlice {t : TypeId} {l c : Operand} (hl : Operand.okC l = true) (hc : Operand.okC c = true) : aOp P call ⟨d, .makeSlice t l c, ty, pos, af, g⟩ tm = aMakeSlice P t (evalA tm l) (evalA tm c) := by simp [aOp, Op.operands, hl, hc]
theorem o_slice {t : TypeId} {x : Operand} {lo hi : Option Operand} (hx : Operand.okC x = true) (h1 : lo.all Operand.okC = true) (h2 : hi.all Operand.okC = true) : aOp P call ⟨d, .slice t x lo hi none, ty, pos, af, g⟩ tm = aSlice P t (evalA tm x) (lo.map (evalA tm)) (hi.map (evalA tm)) none := by
  cases lo <;> cases hi <;> simp_all [aOp, Op.operands]
end
end
end Go.Proofs.YtlkceignfhnpoaaGreatDoor
