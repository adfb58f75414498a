/-
  An audit's ends, one by one: their cells, and what is written.
-/
import Derived.Test.YtbppgicdmkkmnaaDoorAuProb
set_option linter.unusedVariables false
set_option linter.unusedSimpArgs false
namespace Go.Proofs.YtbppgicdmkkmnaaDoor
open Go.RowKit

def AudS.e (S : AudS) (i : Nat) : EndS := if i = 0 then S.e0 else S.e1
def AudS.put (S : AudS) (i : Nat) (x : EndS) : AudS := if i = 0 then { S with e0 := x } else { S with e1 := x }
def AudS.tell (S : AudS) (i : Nat) (x : List UInt8) : AudS := { S with l := S.l ++ [probL i x] }
theorem AudS.put_e (S : AudS) (i : Nat) (x : EndS) : (S.put i x).e i = x := by unfold AudS.put AudS.e; split <;> simp_all
theorem AudS.put_l (S : AudS) (i : Nat) (x : EndS) : (S.put i x).l = S.l := by unfold AudS.put; split <;> rfl
theorem AudS.tell_e (S : AudS) (j i : Nat) (x : List UInt8) : (S.tell j x).e i = S.e i := by unfold AudS.tell AudS.e; rfl
theorem prob_tell (B b : Nat) (S : AudS) (lv : Value) (i : Nat) (x : ByteArray) (w : World) (h : AudAt w B b S lv) (hi : i < 10) (hx : x.size ≤ 1000) (hl : S.l.length ≤ 100000) (hB : B ≤ w.heap.size) :
    Calls Tryd.prog 18 #[.pointer (some ⟨b, 0, none⟩), .int .i64 (i : Int), .string x] w (ProbEnd B b (S.tell i x.data.toList) w) := prob_any B b S lv i x w h hi hx hl hB
/-- The cells of an end, and that they may be written. -/
theorem AudAt.ecells {w : World} {B b : Nat} {S : AudS} {lv : Value} (h : AudAt w B b S lv) {i o : Nat} (hi : i < 2) (ho : o = 2 + 6 * i) :
    w.cell? ⟨b, o, none⟩ = some (.bool (S.e i).begun) ∧ w.cell? ⟨b, o + 1, none⟩ = some (.int .u32 (S.e i).s) ∧ w.cell? ⟨b, o + 2, none⟩ = some (.int .u32 (S.e i).a) ∧
    w.cell? ⟨b, o + 3, none⟩ = some (.int .u32 (S.e i).ms) ∧ w.cell? ⟨b, o + 4, none⟩ = some (.int .i64 (S.e i).credit) ∧ w.cell? ⟨b, o + 5, none⟩ = some (.map (S.e i).m) := by
  have hb := h.box
  rcases (by omega : i = 0 ∨ i = 1) with rfl | rfl
  · subst ho
    exact ⟨hb.cell 2, hb.cell 3, hb.cell 4, hb.cell 5, hb.cell 6, hb.cell 7⟩
  · subst ho
    exact ⟨hb.cell 8, hb.cell 9, hb.cell 10, hb.cell 11, hb.cell 12, hb.cell 13⟩
theorem AudAt.efroz {w : World} {B b : Nat} {S : AudS} {lv : Value} (h : AudAt w B b S lv) (o : Nat) : w.frozen? ⟨b, o, none⟩ = false := h.box.froz o
theorem AudAt.set_s {w : World} {B b : Nat} {S : AudS} {lv : Value} (h : AudAt w B b S lv) {i o : Nat} (hi : i < 2) (ho : o = 2 + 6 * i) (x : Int) : AudAt (w.setCell ⟨b, o + 1, none⟩ (.int .u32 x)) B b (S.put i { S.e i with s := x }) lv := by
  rcases (by omega : i = 0 ∨ i = 1) with rfl | rfl <;> subst ho
  · exact h.set (S' := S.put 0 { S.e 0 with s := x }) rfl rfl rfl rfl rfl rfl rfl rfl
  · exact h.set (S' := S.put 1 { S.e 1 with s := x }) rfl rfl rfl rfl rfl rfl rfl rfl
theorem AudAt.set_a {w : World} {B b : Nat} {S : AudS} {lv : Value} (h : AudAt w B b S lv) {i o : Nat} (hi : i < 2) (ho : o = 2 + 6 * i) (x : Int) : AudAt (w.setCell ⟨b, o + 2, none⟩ (.int .u32 x)) B b (S.put i { S.e i with a := x }) lv := by
  rcases (by omega : i = 0 ∨ i = 1) with rfl | rfl <;> subst ho
  · exact h.set (S' := S.put 0 { S.e 0 with a := x }) rfl rfl rfl rfl rfl rfl rfl rfl
  · exact h.set (S' := S.put 1 { S.e 1 with a := x }) rfl rfl rfl rfl rfl rfl rfl rfl
theorem AudAt.set_ms {w : World} {B b : Nat} {S : AudS} {lv : Value} (h : AudAt w B b S lv) {i o : Nat} (hi : i < 2) (ho : o = 2 + 6 * i) (x : Int) : AudAt (w.setCell ⟨b, o + 3, none⟩ (.int .u32 x)) B b (S.put i { S.e i with ms := x }) lv := by
  rcases (by omega : i = 0 ∨ i = 1) with rfl | rfl <;> subst ho
  · exact h.set (S' := S.put 0 { S.e 0 with ms := x }) rfl rfl rfl rfl rfl rfl rfl rfl
  · exact h.set (S' := S.put 1 { S.e 1 with ms := x }) rfl rfl rfl rfl rfl rfl rfl rfl
theorem AudAt.set_credit {w : World} {B b : Nat} {S : AudS} {lv : Value} (h : AudAt w B b S lv) {i o : Nat} (hi : i < 2) (ho : o = 2 + 6 * i) (x : Int) : AudAt (w.setCell ⟨b, o + 4, none⟩ (.int .i64 x)) B b (S.put i { S.e i with credit := x }) lv := by
  rcases (by omega : i = 0 ∨ i = 1) with rfl | rfl <;> subst ho
  · exact h.set (S' := S.put 0 { S.e 0 with credit := x }) rfl rfl rfl rfl rfl rfl rfl rfl
  · exact h.set (S' := S.put 1 { S.e 1 with credit := x }) rfl rfl rfl rfl rfl rfl rfl rfl
/-- What an end's map holds, with one number written. -/
def updF (f : Int → Int) (n v : Int) : Int → Int := fun x => if x = n then v else f x
theorem AudAt.named {w : World} {B b : Nat} {S : AudS} {lv : Value} (h : AudAt w B b S lv) {i mb : Nat} (hi : i < 2) (hm : (S.e i).m = some mb) :
    ∃ D : DataW Unit, w.ownsMap Tryd.prog 24 (plainElem Tryd.prog 3) mb (S.e i).cnt D ∧ ∀ x : Int, 0 ≤ x → x < 4294967296 → D.atKey (.int .u32 x) (.lit (.int .i64 0)) = .lit (.int .i64 ((S.e i).f x)) := by
  rcases (by omega : i = 0 ∨ i = 1) with rfl | rfl
  · have := h.n0
    have hm' : S.e0.m = some mb := hm
    rw [hm'] at this
    obtain ⟨_, D, h2, h3⟩ := this
    exact ⟨D, h2, h3⟩
  · have := h.n1
    have hm' : S.e1.m = some mb := hm
    rw [hm'] at this
    obtain ⟨_, D, h2, h3⟩ := this
    exact ⟨D, h2, h3⟩
theorem key_lit (n : Int) : WideAt.IsKeyLit (.int .u32 n) := by trivial
theorem at_upd {D : DataW Unit} {f : Int → Int} {n v : Int} (hD : Maps.IsMap D) (h : ∀ x : Int, 0 ≤ x → x < 4294967296 → D.atKey (.int .u32 x) (.lit (.int .i64 0)) = .lit (.int .i64 (f x))) :
    ∀ x : Int, 0 ≤ x → x < 4294967296 → (D.put (.int .u32 n) (.lit (.int .i64 v))).atKey (.int .u32 x) (.lit (.int .i64 0)) = .lit (.int .i64 (updF f n v x)) := fun x h0 h1 => by
  unfold updF
  by_cases e : x = n
  · subst e; rw [if_pos rfl]
    exact Maps.atKey_put_same hD (key_lit x) _ _
  · rw [if_neg e, Maps.atKey_put_other (by intro k; cases k; exact e rfl)]
    exact h x h0 h1
/-- A number is written into an end's map. -/
theorem AudAt.upd {w w' : World} {B b : Nat} {S : AudS} {lv : Value} (h : AudAt w B b S lv) {i mb : Nat} (hi : i < 2) (hm : (S.e i).m = some mb) {D : DataW Unit} {n v : Int}
    (hD : w.ownsMap Tryd.prog 24 (plainElem Tryd.prog 3) mb (S.e i).cnt D) (hf : ∀ x : Int, 0 ≤ x → x < 4294967296 → D.atKey (.int .u32 x) (.lit (.int .i64 0)) = .lit (.int .i64 ((S.e i).f x)))
    (hn : w'.ownsMap Tryd.prog 24 (plainElem Tryd.prog 3) mb ((S.e i).cnt + 1) (D.put (.int .u32 n) (.lit (.int .i64 v)))) (hg : w.grownBy w' (some mb)) :
    AudAt w' B b (S.put i { S.e i with f := updF (S.e i).f n v, cnt := (S.e i).cnt + 1 }) lv ∧ KeepA B w w' := by
  have hmap : ∃ es c, w.heap[mb]? = some (.map es c) := by obtain ⟨es, c, h2, _⟩ := hD; exact ⟨es, c, h2⟩
  obtain ⟨es, c, hes⟩ := hmap
  have hbb : some b ≠ some mb := fun e => by
    cases e
    have := h.box
    unfold BoxAt at this
    rw [this] at hes; cases hes
  have hro : ∀ r, some mb = some r → lv.ownBlock ≠ some r := fun r e k => by
    cases e
    obtain ⟨_, cur, h1⟩ := own_block h.own _ k
    rw [hes] at h1; cases h1
  have hat := at_upd (n := n) (v := v) hD.isMap hf
  have hBm : B ≤ mb := by
    rcases (by omega : i = 0 ∨ i = 1) with rfl | rfl
    · exact (h.n0.is_map hm).1
    · exact (h.n1.is_map hm).1
  refine ⟨?_, KeepA.of_grown hg hBm (fun cs T fr h1 => by rw [hes] at h1; cases h1)⟩
  rcases (by omega : i = 0 ∨ i = 1) with rfl | rfl
  · have hm' : S.e0.m = some mb := hm
    refine ⟨h.box.grown hg hbb, own_row h.own hg hro, ?_, h.n1.kept hg (fun r e k => ?_), h.apart, h.ge⟩
    · show NamedAt w' B S.e0.m _ _
      rw [hm']; exact ⟨hBm, _, hn, hat⟩
    · cases k
      exact h.apart _ hm' e
  · have hm' : S.e1.m = some mb := hm
    refine ⟨h.box.grown hg hbb, own_row h.own hg hro, h.n0.kept hg (fun r e k => ?_), ?_, h.apart, h.ge⟩
    · cases k
      exact h.apart _ e hm'
    · show NamedAt w' B S.e1.m _ _
      rw [hm']; exact ⟨hBm, _, hn, hat⟩
end Go.Proofs.YtbppgicdmkkmnaaDoor
