/-
  The package-level variables that the trace reads, as the walks need them.
-/
import Derived.Test.YtohenohgceaibaaGreatDoorText
set_option linter.unusedVariables false
set_option linter.unusedSimpArgs false
namespace Go.Proofs.YtohenohgceaibaaGreatDoor
open Go.RowKit

/-- The tables lie as the program's text lays them; bytealg.MaxLen is a number; the two errors are there. -/
structure Env (w : World) : Prop where
  pow : PowAt w
  powLt : 1 < w.heap.size
  words : WordsAt w
  wordsLt : 0 < w.heap.size
  most : ∃ m, w.cell? ⟨2, 0, none⟩ = some (.int .i64 m)
  esyn : ∃ t p, w.cell? ⟨5, 0, none⟩ = some (.iface t p)
  eran : ∃ t p, w.cell? ⟨6, 0, none⟩ = some (.iface t p)
theorem Env.below {w w' : World} (h : Env w) (hb : Below w.heap.size w w') : Env w' := by
  obtain ⟨m, hm⟩ := h.most
  obtain ⟨t1, p1, h1⟩ := h.esyn
  obtain ⟨t2, p2, h2⟩ := h.eran
  exact ⟨h.pow.below hb h.powLt, Nat.lt_of_lt_of_le h.powLt hb.size, h.words.below hb h.wordsLt, Nat.lt_of_lt_of_le h.wordsLt hb.size, ⟨m, (hb.cell (block_lt_of_cell hm)).trans hm⟩,
    ⟨t1, p1, (hb.cell (block_lt_of_cell h1)).trans h1⟩, ⟨t2, p2, (hb.cell (block_lt_of_cell h2)).trans h2⟩⟩
theorem Env.alloc {w : World} {o : Obj} (h : Env w) : Env (w.alloc o) := h.below ((Below.refl _ _).alloc (Nat.le_refl _) o)
/-- strconv.Itoa. -/
theorem itoa_any (n : Int) (w : World) (h0 : -9223372036854775808 ≤ n) (h1 : n ≤ 9223372036854775807) (he : Env w) :
    Calls Tryz.prog 24 #[.int .i64 n] w fun e w' => e = .returned (.string ⟨(Lib.itoa n).toArray⟩) ∧ Below w.heap.size w w' :=
  (Tryz.strconv_Itoa n h0 h1 w he.pow).mono fun e w' ⟨h, k, os, hw⟩ => ⟨h, by rw [hw]; exact belGrow⟩
end Go.Proofs.YtohenohgceaibaaGreatDoor
