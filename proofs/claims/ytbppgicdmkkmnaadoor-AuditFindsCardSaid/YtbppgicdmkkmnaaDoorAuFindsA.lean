/-
  AuditFinds answers true, at every input: the walk.
-/
import Derived.Test.YtbppgicdmkkmnaaDoorAuFindC
import Derived.Test.YtbppgicdmkkmnaaDoorAuFindP
import Derived.Test.YtbppgicdmkkmnaaDoorAuAwake
import Derived.Test.YtbppgicdmkkmnaaDoorBytes
import Derived.Deep.RegionHeld3
set_option linter.unusedVariables false
set_option linter.unusedSimpArgs false
namespace Go.Proofs.YtbppgicdmkkmnaaDoor
open Go.RowKit

theorem cell_al {W : World} {a : Addr} {v : Value} (o : Obj) (h : W.cell? a = some v) : (W.alloc o).cell? a = some v := by
  have hlt : a.block < W.heap.size := by
    rcases Nat.lt_or_ge a.block W.heap.size with h' | h'
    · exact h'
    · simp [World.cell?, Array.getElem?_eq_none h'] at h
  rw [← h]
  simp only [World.cell?, World.alloc, Array.getElem?_push, Nat.ne_of_lt hlt, if_false]
structure FiRel (w : World) (B b bE bS : Nat) (i : Int) (P : AudS) (wx : World) : Prop where
  aud : AudP wx B b P
  e : BoxAt wx bE 3 [.int .i64 i]
  s : BoxAt wx bS 24 [.int .u32 16777213]
  below : Below w.heap.size w wx
  ge : w.heap.size ≤ B
  size : B ≤ wx.heap.size
  ltE : bE < B
  neS : bE ≠ bS
theorem FiRel.keepB {w wx wy : World} {B b bE bS : Nat} {i : Int} {P : AudS} (h : FiRel w B b bE bS i P wx) (hb : Below wx.heap.size wx wy) : FiRel w B b bE bS i P wy :=
  ⟨h.aud.below hb, h.e.below hb h.e.lt, h.s.below hb h.s.lt, h.below.trans (hb.mono h.below.size), h.ge, Nat.le_trans h.size hb.size, h.ltE, h.neS⟩
theorem FiRel.step {w wx wy : World} {B b bE bS : Nat} {i : Int} {P P' : AudS} (h : FiRel w B b bE bS i P wx) (hr : AddRel wx B b P' wy) : FiRel w B b bE bS i P' wy :=
  ⟨hr.aud, hr.keep.box h.e (by decide) (by decide), hr.keep.box h.s (by decide) (by decide), h.below.trans ((hr.keep.to_below h.size).mono h.ge), h.ge, Nat.le_trans h.size hr.keep.size, h.ltE, h.neS⟩
theorem FiRel.setE {w wx : World} {B b bE bS : Nat} {i : Int} {P : AudS} (h : FiRel w B b bE bS i P wx) (hb : w.heap.size ≤ bE) (j : Int) : FiRel w B b bE bS j P (wx.setCell ⟨bE, 0, none⟩ (.int .i64 j)) := by
  refine ⟨?_, h.e.set 0 _, h.s.other h.neS.symm _, h.below.setCell hb _, h.ge, by simp; exact h.size, h.ltE, h.neS⟩
  obtain ⟨S, lv, ha, hs, hg⟩ := h.aud
  have h1 := h.ltE
  refine ⟨S, lv, ha.kept (grown_set wx bE 0 _) (fun r e => ?_), hs, hg⟩
  cases e
  refine ⟨by have := ha.ge; omega, fun e => ?_, fun e => ?_, fun e => ?_⟩
  · have := (own_block ha.own _ e).1; omega
  · have := (ha.n0.is_map e).1; omega
  · have := (ha.n1.is_map e).1; omega
theorem FiRel.al {w wx : World} {B b bE bS : Nat} {i : Int} {P : AudS} (h : FiRel w B b bE bS i P wx) (o : Obj) : FiRel w B b bE bS i P (wx.alloc o) := h.keepB ((Below.refl _ _).alloc (Nat.le_refl _) o)
theorem FiRel.dr {w wx : World} {B b bE bS : Nat} {i : Int} {P : AudS} (h : FiRel w B b bE bS i P wx) : FiRel w B b bE bS i P wx.drew := h.keepB (Below.refl _ _).drew
end Go.Proofs.YtbppgicdmkkmnaaDoor
