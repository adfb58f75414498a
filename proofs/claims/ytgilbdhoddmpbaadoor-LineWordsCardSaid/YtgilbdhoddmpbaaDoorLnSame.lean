/-
  The statements' Same: a step, and the same step of the document's.
-/
import Derived.Test.YtgilbdhoddmpbaaDoorLnRefParse
set_option linter.unusedVariables false
set_option linter.unusedSimpArgs false
namespace Go.Proofs.YtgilbdhoddmpbaaDoor
open Go.RowKit

set_option maxRecDepth 100000 in
set_option maxHeartbeats 2000000 in
theorem same_step (x : Stp) (na nb : Option Addr) (nc mc : Nat) (w : World) (hl : x.nums.length ≤ 1000000) (ha : IntsR .i64 w (.slice na x.nums.length nc) x.nums) (hb : IntsR .i64 w (.slice nb x.nums.length mc) x.nums) :
    Calls Tryd.prog 12 #[.agg #[.string ⟨x.word.toArray⟩, .slice na x.nums.length nc, .string ⟨x.ask.toArray⟩, .string ⟨x.data.toArray⟩], .agg #[.string ⟨x.word.toArray⟩, .slice nb x.nums.length mc, .string ⟨x.ask.toArray⟩, .string ⟨x.data.toArray⟩]] w fun e w' => e = .returned (.bool true) ∧ Below w.heap.size w w' := by
  have h2 := ((Below.refl w.heap.size w).alloc (Nat.le_refl _) (.cells #[.string ⟨x.word.toArray⟩, .slice na x.nums.length nc, .string ⟨x.ask.toArray⟩, .string ⟨x.data.toArray⟩] 34)).alloc (by simp) (.cells #[.string ⟨x.word.toArray⟩, .slice nb x.nums.length mc, .string ⟨x.ask.toArray⟩, .string ⟨x.data.toArray⟩] 32)
  have HA := Lib.hid (ha.below h2 (Nat.le_refl _))
  have HC := Lib.hid (hb.below h2 (Nat.le_refl _))
  have HB := Lib.hid h2
  clear ha hb h2
  go_enter Tryd.func12, Tryd.ntmps12
  generalize (⟨x.word.toArray⟩ : ByteArray) = X1 at *
  generalize (⟨x.ask.toArray⟩ : ByteArray) = X2 at *
  generalize (⟨x.data.toArray⟩ : ByteArray) = X3 at *
  generalize x.nums = ns at *
  go_wp2_with fail
  go_loop [38] (fun i => ∃ j : Nat, i = .int .i64 (j : Int) ∧ j ≤ ns.length) (fun i => ns.length - (intOf i).toNat)
  case atStart => exact ⟨0, rfl, by omega⟩
  case round =>
    obtain ⟨j, rfl, hj⟩ := hrel
    by_cases hlt : j < ns.length
    · obtain ⟨b1, o1, c1, hv1, hc1, hr1⟩ := HA.out.cells (by omega)
      obtain ⟨b2, o2, c2, hv2, hc2, hr2⟩ := HC.out.cells (by omega)
      cases hv1
      cases hv2
      have q1 := hr1 j hlt
      have q2 := hr2 j hlt
      have hlt1 : (j : Int) < (ns.length : Int) := by omega
      clear hr1 hr2 HA HC
      generalize ns.getD j 0 = z at *
      go_wp2_with fail
      go_round
      case rel => exact ⟨j + 1, by go_num, by omega⟩
      case measure => simp [intOf]; omega
    · go_wp2_with fail
      go_ret
      exact ⟨rfl, HB.out⟩
end Go.Proofs.YtgilbdhoddmpbaaDoor
