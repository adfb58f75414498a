/-
  Functions that only read.
-/
import Derived.Test.YtkabaecoamilnaaGreatDoorCAy5
import Derived.Test.YtkabaecoamilnaaGreatDoorCAyExt
import Derived.Test.YtkabaecoamilnaaGreatDoorProg
import Derived.KernelRfl
set_option linter.unusedVariables false
set_option linter.unusedSimpArgs false
namespace Go.Proofs.YtkabaecoamilnaaGreatDoor
open Go AX
/-- Code that only reads. -/
def calmCode (S : List FuncId) : Code → Bool
  | .region _ ops _ => ops.toList.all fun o => Nat.ble (memS S o) 1
  | .seq a b => calmCode S a && calmCode S b
  | .cond _ a b => calmCode S a && calmCode S b
  | .block _ c => calmCode S c
  | .loop c => calmCode S c
  | .scope c => calmCode S c
  | .skip => true
  | .label _ => true
  | .exit _ => true
  | .ret => true
  | _ => false
section
variable {P : Program} {call : FuncId → Array Value → AX Value}
theorem Reads.ite {α : Type} {c : Prop} [Decidable c] {m m' : AX α} (h : Reads m) (h' : Reads m') : Reads (if c then m else m') := by split <;> assumption
theorem reads_seq {S : List FuncId} (hS : Calm S call) {ops : Array Oper} : ∀ (l : List Oper), l.all (fun o => Nat.ble (memS S o) 1) = true → ∀ tm, Reads (aSeq P call ops l tm)
  | [], _, tm => by
    intro H s o h
    simp [aSeq, AX.ret] at h; subst h; exact ⟨rfl, rfl⟩
  | x :: r, h, tm => by
    intro H s o e
    simp only [List.all_cons, Bool.and_eq_true] at h
    unfold aSeq at e
    cases h1 : aStep P call ops x tm H s with
    | none => rw [h1] at e; cases e
    | some p =>
      rw [h1] at e
      dsimp only at e
      cases h2 : aSeq P call ops r p.val p.H p.s with
      | none => rw [h2] at e; cases e
      | some y =>
        rw [h2] at e
        simp only [Option.some.injEq] at e
        subst e
        unfold aStep at h1
        have a := (Reads.bind (reads_valS hS h.1) fun v => (Dry.ret _).reads) _ _ _ h1
        have b := reads_seq hS r h.2 _ _ _ _ h2
        exact ⟨by simp [a.1, b.1], by simp [a.2, b.2]⟩
theorem reads_loop {b : Array Value → AX (AExit × Array Value)} (h : ∀ tm, Reads (b tm)) : ∀ n tm, Reads (aLoop b n tm)
  | 0, tm => Dry.fail.reads
  | n + 1, tm => by
    unfold aLoop
    refine Reads.bind (h tm) fun x => ?_
    split
    · exact reads_loop h n _
    · exact (Dry.ret _).reads
    · exact (Dry.ret _).reads
theorem calm_code {S : List FuncId} (hS : Calm S call) : ∀ (c : Code) (tm : Array Value), calmCode S c = true → Reads (aCode P call c tm) := by
  intro c
  induction c with
  | region id ops d =>
    intro tm h
    unfold aCode
    refine Reads.bind ?_ fun _ => (Dry.ret _).reads
    unfold aRegion
    split
    · refine Reads.bind (reads_seq hS _ h tm) fun x => Reads.ite (Dry.ret _).reads Dry.fail.reads
    · exact Reads.bind (reads_seq hS _ h tm) fun x => (Dry.ret _).reads
  | seq a b iha ihb =>
    intro tm h
    simp only [calmCode, Bool.and_eq_true] at h
    simp only [aCode]
    refine Reads.bind (iha tm h.1) fun x => ?_
    split
    · exact ihb _ h.2
    · exact (Dry.ret _).reads
    · exact (Dry.ret _).reads
  | cond c a b iha ihb =>
    intro tm h
    simp only [calmCode, Bool.and_eq_true] at h
    simp only [aCode]
    split
    · exact Dry.fail.reads
    · split
      · split
        · exact iha tm h.1
        · exact ihb tm h.2
      · exact Dry.fail.reads
  | block id c ih =>
    intro tm h
    simp only [calmCode] at h
    simp only [aCode]
    refine Reads.bind (ih tm h) fun x => ?_
    repeat' split
    all_goals exact (Dry.ret _).reads
  | loop c ih =>
    intro tm h
    simp only [calmCode] at h
    simp only [aCode]
    exact reads_loop (fun tm => ih tm h) _ _
  | scope c ih =>
    intro tm h
    simp only [calmCode] at h
    simp only [aCode]
    exact ih tm h
  | skip => intro tm h; unfold aCode; exact (Dry.ret _).reads
  | label k => intro tm h; unfold aCode; exact (Dry.ret _).reads
  | exit k => intro tm h; unfold aCode; exact (Dry.ret _).reads
  | ret => intro tm h; unfold aCode; exact (Dry.ret _).reads
  | _ => intro tm h; cases h
theorem reads_res {tm : Array Value} : ∀ l, Reads (aResList P tm l)
  | [] => by unfold aResList; exact (Dry.ret _).reads
  | .tmp t :: r => by
    unfold aResList
    exact Reads.bind (reads_res r) fun vs => (Dry.ret _).reads
  | .cell a t :: r => by
    unfold aResList
    exact Reads.bind (reads_load _ _) fun v => Reads.bind (reads_res r) fun vs => (Dry.ret _).reads
def calmAll (P : Program) (S : List FuncId) : Bool := S.all fun f => match P.funcs[f]? with
  | some fn => (match fn.body with | some c => calmCode S c | none => true)
  | none => true
theorem calm_call {S : List FuncId} {ext : FuncId → Option (Array Value → AX Value)} (hx : ∀ f, S.contains f = true → ext f = none) (hl : ∀ f g xs, ext f = some g → LS (g xs)) (hc : calmAll P S = true) : ∀ n, Calm S (aCall P ext n)
  | 0 => ⟨fun f _ xs => by unfold aCall; exact Dry.fail.reads, ls_aCall hl 0⟩
  | n + 1 => ⟨fun f hf xs => by
    have ih := calm_call hx hl hc n
    unfold aCall
    rw [hx f hf]
    dsimp only
    have h := List.all_eq_true.1 hc f (List.contains_iff_mem.1 hf)
    cases hp : P.funcs[f]? with
    | none => exact Dry.fail.reads
    | some fn =>
      rw [hp] at h
      dsimp only at h ⊢
      unfold aBody
      cases hb : fn.body with
      | none => exact Dry.fail.reads
      | some c =>
        rw [hb] at h
        dsimp only at h ⊢
        refine Reads.bind (calm_code ih c _ h) fun x => ?_
        split
        · exact Dry.fail.reads
        · exact Reads.bind (reads_res _) fun vs => (Dry.ret _).reads, ls_aCall hl _⟩
end
def calmIds : List FuncId := [16, 17, 51, 93, 79, 197, 199, 92, 228, 139, 282, 307, 224, 32, 72, 177, 142, 19, 88, 78, 119, 287, 289, 288, 329, 332, 185, 206, 183, 246, 245]
theorem calm_all : calmAll Tryz.prog calmIds = true := by kernel_rfl
theorem calm {E : FuncId → Option (Array Value → AX Value)} (hE : Bare E) (n : Nat) : Calm calmIds (aCall Tryz.prog E n) :=
  calm_call (fun f hf => hE.no f (by
    have h : ∀ f, f ∈ calmIds → extIds.contains f = false := by decide
    exact h f (List.contains_iff_mem.1 hf))) hE.ls calm_all n
end Go.Proofs.YtkabaecoamilnaaGreatDoor
