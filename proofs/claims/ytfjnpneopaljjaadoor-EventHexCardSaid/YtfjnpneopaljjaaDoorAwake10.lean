/-
  The fixed fact at the head of the statements on events.
-/
import Derived.Test.YtfjnpneopaljjaaDoorText
import Derived.Test.YtfjnpneopaljjaaDoorReq
set_option linter.unusedVariables false
set_option linter.unusedSimpArgs false
namespace Go.Proofs.YtfjnpneopaljjaaDoor
open Go.RowKit

/-- What the walks ask of a world: the two tables lie as they are laid. -/
structure Laid (w : World) : Prop where
  words : WordsAt w
  pow : PowAt w
  g0 : 0 < w.heap.size
  g1 : 2 < w.heap.size
theorem Laid.below {w w' : World} (h : Laid w) (hb : Below w.heap.size w w') : Laid w' :=
  ⟨h.words.below hb h.g0, h.pow.below hb h.g1, Nat.lt_of_lt_of_le h.g0 hb.size, Nat.lt_of_lt_of_le h.g1 hb.size⟩
theorem Laid.alloc {w : World} (h : Laid w) (o : Obj) : Laid (w.alloc o) := h.below ((Below.refl _ _).alloc (Nat.le_refl _) o)

set_option maxHeartbeats 400000 in
theorem awake_any (w : World) (hL : Laid w) :
    Calls Tryd.prog 9 #[] w fun e w' => e = .returned (.bool true) ∧ Below w.heap.size w w' := by
  go_enter Tryd.func9, Tryd.ntmps9
  go_wp2_with fail
  refine (sigtext_rel _ _ _ _ _ (by decide) hL.words hL.g0).mono ?_
  rintro e w1 ⟨rfl, hb⟩
  have ht : sigText 3 (⟨#[97]⟩ : ByteArray).data.toList true (Int.toNat 0) 0 = [114, 101, 108, 101, 97, 115, 101, 32, 115, 101, 108, 102, 32, 54, 49] := by decide
  rw [ht]
  go_wp2_with fail
  refine (check_take _ _ _ (by decide)).mono ?_
  rintro e w2 ⟨rfl, hb2⟩
  go_wp2_with fail
  go_ret
  exact ⟨rfl, belSeq hb hb2⟩
end Go.Proofs.YtfjnpneopaljjaaDoor
