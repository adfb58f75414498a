/-
  Functions that only read.
  The program's text as a whole: what the executor asks of it.
  The executor's answer as the model's: rows that came in, a run that ends in true.
-/
import Derived.Test.YtlkceignfhnpoaaGreatDoorCAy5
import Derived.Test.YtlkceignfhnpoaaGreatDoorCAyExt
import Derived.Test.YtlkceignfhnpoaaGreatDoorProg
import Derived.KernelRfl
import Derived.Test.YtlkceignfhnpoaaGreatDoorCQA2
import Derived.Test.YtlkceignfhnpoaaGreatDoorCAy9
import Derived.Below
set_option linter.unusedVariables false
set_option linter.unusedSimpArgs false
section
namespace Go.Proofs.YtlkceignfhnpoaaGreatDoor
open Go AX
/-- Code that only reads. -/
def calmCode (S : List FuncId) : Code → Bool
  | .region _ ops _ => ops.toList.all fun o => Nat.ble (memS S o) 1
  | .seq a b => calmCode S a && calmCode S b
  | .cond _ a b => calmCode S a && calmCode S b
  | .block _ c => calmCode S c
  | .loop c => calmCode S c
  | .scope c => calmCode S c
  | .skip => true
  | .label _ => true
  | .exit _ => true
  | .ret => true
  | _ => false
section
variable {P : Program} {call : FuncId → Array Value → AX Value}
theorem Reads.ite {α : Type} {c : Prop} [Decidable c] {m m' : AX α} (h : Reads m) (h' : Reads m') : Reads (if c then m else m') := by split <;> assumption
theorem reads_seq {S : List FuncId} (hS : Calm S call) {ops : Array Oper} : ∀ (l : List Oper), l.all (fun o => Nat.ble (memS S o) 1) = true → ∀ tm, Reads (aSeq P call ops l tm)
  | [], _, tm => by
    intro H s o h
    simp [aSeq, AX.ret] at h; subst h; exact ⟨rfl, rfl⟩
  | x :: r, h, tm => by
    intro H s o e
    simp only [List.all_cons, Bool.and_eq_true] at h
    unfold aSeq at e
    cases h1 : aStep P call ops x tm H s with
    | none => rw [h1] at e; cases e
    | some p =>
      rw [h1] at e
      dsimp only at e
      cases h2 : aSeq P call ops r p.val p.H p.s with
      | none => rw [h2] at e; cases e
      | some y =>
        rw [h2] at e
        simp only [Option.some.injEq] at e
        subst e
        unfold aStep at h1
        have a := (Reads.bind (reads_valS hS h.1) fun v => (Dry.ret _).reads) _ _ _ h1
        have b := reads_seq hS r h.2 _ _ _ _ h2
        exact ⟨by simp [a.1, b.1], by simp [a.2, b.2]⟩
theorem reads_loop {b : Array Value → AX (AExit × Array Value)} (h : ∀ tm, Reads (b tm)) : ∀ n tm, Reads (aLoop b n tm)
  | 0, tm => Dry.fail.reads
  | n + 1, tm => by
    unfold aLoop
    refine Reads.bind (h tm) fun x => ?_
    split
    · exact reads_loop h n _
    · exact (Dry.ret _).reads
    · exact (Dry.ret _).reads
theorem calm_code {S : List FuncId} (hS : Calm S call) : ∀ (c : Code) (tm : Array Value), calmCode S c = true → Reads (aCode P call c tm) := by
  intro c
  induction c with
  | region id ops d =>
    intro tm h
    unfold aCode
    refine Reads.bind ?_ fun _ => (Dry.ret _).reads
    unfold aRegion
    split
    · refine Reads.bind (reads_seq hS _ h tm) fun x => Reads.ite (Dry.ret _).reads Dry.fail.reads
    · exact Reads.bind (reads_seq hS _ h tm) fun x => (Dry.ret _).reads
  | seq a b iha ihb =>
    intro tm h
    simp only [calmCode, Bool.and_eq_true] at h
    simp only [aCode]
    refine Reads.bind (iha tm h.1) fun x => ?_
    split
    · exact ihb _ h.2
    · exact (Dry.ret _).reads
    · exact (Dry.ret _).reads
  | cond c a b iha ihb =>
    intro tm h
    simp only [calmCode, Bool.and_eq_true] at h
    simp only [aCode]
    split
    · exact Dry.fail.reads
    · split
      · split
        · exact iha tm h.1
        · exact ihb tm h.2
      · exact Dry.fail.reads
  | block id c ih =>
    intro tm h
    simp only [calmCode] at h
    simp only [aCode]
    refine Reads.bind (ih tm h) fun x => ?_
    repeat' split
    all_goals exact (Dry.ret _).reads
  | loop c ih =>
    intro tm h
    simp only [calmCode] at h
    simp only [aCode]
    exact reads_loop (fun tm => ih tm h) _ _
  | scope c ih =>
    intro tm h
    simp only [calmCode] at h
    simp only [aCode]
    exact ih tm h
  | skip => intro tm h; unfold aCode; exact (Dry.ret _).reads
  | label k => intro tm h; unfold aCode; exact (Dry.ret _).reads
  | exit k => intro tm h; unfold aCode; exact (Dry.ret _).reads
  | ret => intro tm h; unfold aCode; exact (Dry.ret _).reads
  | _ => intro tm h; cases h
theorem reads_res {tm : Array Value} : ∀ l, Reads (aResList P tm l)
  | [] => by unfold aResList; exact (Dry.ret _).reads
  | .tmp t :: r => by
    unfold aResList
    exact Reads.bind (reads_res r) fun vs => (Dry.ret _).reads
  | .cell a t :: r => by
    unfold aResList
    exact Reads.bind (reads_load _ _) fun v => Reads.bind (reads_res r) fun vs => (Dry.ret _).reads
def calmAll (P : Program) (S : List FuncId) : Bool := S.all fun f => match P.funcs[f]? with
  | some fn => (match fn.body with | some c => calmCode S c | none => true)
  | none => true
theorem calm_call {S : List FuncId} {ext : FuncId → Option (Array Value → AX Value)} (hx : ∀ f, S.contains f = true → ext f = none) (hl : ∀ f g xs, ext f = some g → LS (g xs)) (hc : calmAll P S = true) : ∀ n, Calm S (aCall P ext n)
  | 0 => ⟨fun f _ xs => by unfold aCall; exact Dry.fail.reads, ls_aCall hl 0⟩
  | n + 1 => ⟨fun f hf xs => by
    have ih := calm_call hx hl hc n
    unfold aCall
    rw [hx f hf]
    dsimp only
    have h := List.all_eq_true.1 hc f (List.contains_iff_mem.1 hf)
    cases hp : P.funcs[f]? with
    | none => exact Dry.fail.reads
    | some fn =>
      rw [hp] at h
      dsimp only at h ⊢
      unfold aBody
      cases hb : fn.body with
      | none => exact Dry.fail.reads
      | some c =>
        rw [hb] at h
        dsimp only at h ⊢
        refine Reads.bind (calm_code ih c _ h) fun x => ?_
        split
        · exact Dry.fail.reads
        · exact Reads.bind (reads_res _) fun vs => (Dry.ret _).reads, ls_aCall hl _⟩
end
def calmIds : List FuncId := [140, 141, 264, 212, 182, 165, 248, 111, 309, 271, 60, 76, 256, 167, 8, 75, 274, 276, 275, 319, 322, 79, 242, 143]
theorem calm_all : calmAll Tryz.prog calmIds = true := by kernel_rfl
theorem calm {E : FuncId → Option (Array Value → AX Value)} (hE : Bare E) (n : Nat) : Calm calmIds (aCall Tryz.prog E n) :=
  calm_call (fun f hf => hE.no f (by
    have h : ∀ f, f ∈ calmIds → extIds.contains f = false := by decide
    exact h f (List.contains_iff_mem.1 hf))) hE.ls calm_all n
end Go.Proofs.YtlkceignfhnpoaaGreatDoor
end
section
namespace Go.Proofs.YtlkceignfhnpoaaGreatDoor
open Go AX
theorem prog_mixed : Tryz.prog.follows .mixedOrders = true := by kernel_rfl
def codesOK (P : Program) : Bool := P.funcs.toList.all fun fn => match fn.body with
  | some c => codeOK c
  | none => true
set_option maxRecDepth 100000 in
theorem prog_codes : codesOK Tryz.prog = true := by kernel_rfl
theorem prog_code (f : FuncId) (fn : Func) (c : Code) (h : Tryz.prog.funcs[f]? = some fn) (hb : fn.body = some c) : codeOK c = true := by
  have := List.all_eq_true.1 prog_codes fn (by simpa using Array.mem_of_getElem? h)
  rw [hb] at this
  exact this
end Go.Proofs.YtlkceignfhnpoaaGreatDoor
end
section
namespace Go.Proofs.YtlkceignfhnpoaaGreatDoor
open Go AX Go.RowKit

/-- A row that came in, which is not written: where it lies, its first cell there, its cells. -/
structure Row where
  blk : Nat
  off : Nat
  T : TypeId
  cs : List Value
def rowsH (L : List Row) : AH := fun b => match L[b]? with
  | some r => some (.cells r.cs r.T false)
  | none => none
def rowsR (L : List Row) : Ren := fun b => match L[b]? with
  | some r => some ⟨r.blk, r.off, r.cs.length, 1⟩
  | none => none
section
variable {P : Program} {w : World}
theorem rows_own {L : List Row} {k : Nat} : ¬ OwnB (rowsR L) (rowsH L) k := by
  rintro ⟨b, x, im, h1, h2, _⟩
  unfold rowsH at h1
  cases hr : L[b]? with
  | none => rw [hr] at h1; cases h1
  | some r =>
    rw [hr] at h1
    simp only [Option.some.injEq] at h1
    subst h1
    cases h2
theorem rows_wr {L : List Row} (he : EnvOK w) (h1 : ∀ r, r ∈ L → szOf P r.T = some 1 ∧ ∀ (i : Nat) v, r.cs[i]? = some v → simpleV v = true ∧ w.cell? ⟨r.blk, r.off + i, none⟩ = some v) (h0 : ∀ r, r ∈ L → r.cs ≠ []) : WR P (rowsR L) (rowsH L) w := by
  refine ⟨fun b x hb => ?_, fun b b' x x' im im' hb hb' hne hw => ?_, EnvW.start he (fun k => rows_own)⟩
  · unfold rowsH at hb
    cases hr : L[b]? with
    | none => rw [hr] at hb; cases hb
    | some r =>
      rw [hr] at hb
      simp only [Option.some.injEq] at hb
      subst hb
      have hm : r ∈ L := List.mem_of_getElem? hr
      obtain ⟨hz, hc⟩ := h1 r hm
      refine ⟨⟨r.blk, r.off, r.cs.length, 1⟩, by simp [rowsR, hr], ?_⟩
      have hpos : 0 < r.cs.length := List.length_pos_iff.2 (h0 r hm)
      have hlast := (hc (r.cs.length - 1) _ (List.getElem?_eq_getElem (by omega))).2
      cases hblk : w.heap[r.blk]? with
      | none => simp [World.cell?, hblk] at hlast
      | some o =>
        cases o with
        | cells ds T' fr =>
          have hcell : ∀ i, w.cell? ⟨r.blk, r.off + i, none⟩ = ds[r.off + i]? := fun i => by simp [World.cell?, hblk]
          refine ⟨ds, T', fr, hblk, ?_, Nat.le_refl _, fun i v hi => ?_, by rw [hz]; rfl, fun h => (by cases h), fun _ h => ?_, fun h => (by cases h)⟩
          · have : ds[r.off + (r.cs.length - 1)]? = some (r.cs[r.cs.length - 1]) := (hcell _).symm.trans hlast
            have := (Array.getElem?_eq_some_iff.1 this).1
            dsimp only
            omega
          · obtain ⟨hs, hv⟩ := hc i v hi
            refine ⟨v, (hcell i).symm.trans hv, VR.simple hs, ?_⟩
            revert hs
            cases v <;> simp [simpleV, oneV]
          · simp at h
        | map es clock => simp [World.cell?, hblk] at hlast
        | _ => simp [World.cell?, hblk] at hlast
  · unfold rowsH at hb
    cases hr : L[b]? with
    | none => rw [hr] at hb; cases hb
    | some r =>
      rw [hr] at hb
      simp only [Option.some.injEq] at hb
      subst hb
      cases hw
theorem rows_free {L : List Row} {s : Nat} (hs : L.length ≤ s) (s' : Nat) : Free (rowsR L) s s' := fun b h1 _ => by
  simp [rowsR, List.getElem?_eq_none (Nat.le_trans hs h1)]
theorem rows_bd {L : List Row} {s : Nat} (hs : L.length ≤ s) : Bd (rowsH L) s := fun b h => by simp [rowsH, List.getElem?_eq_none (Nat.le_trans hs h)]
/-- A run that ends in true. -/
theorem run_true {call : FuncId → Array Value → AX Value} (hc : CallOK P call) {f : FuncId} {args args' : Array Value} {L : List Row} (hw : WR P (rowsR L) (rowsH L) w) (ha : VA (rowsR L) args args') {F G : Nat → Prop} {s : Nat} (hs : L.length ≤ s)
    (h : Wp F G (call f args) (rowsH L) s (fun v _ _ => v = .bool true)) : Calls P f args' w fun e w' => e = .returned (.bool true) ∧ Below w.heap.size w w' := by
  obtain ⟨o, he, _, _, hv⟩ := h
  refine (hc f args (rowsH L) s o he (rowsR L) w args' hw ha (rows_free hs _)).mono ?_
  rintro e w' ⟨φ', v', rfl, _, r, _, t⟩
  rw [hv] at r
  cases r
  exact ⟨rfl, t.os, t.tape, t.output, t.size, fun k hk => t.block k hk rows_own⟩
end
end Go.Proofs.YtlkceignfhnpoaaGreatDoor
end
