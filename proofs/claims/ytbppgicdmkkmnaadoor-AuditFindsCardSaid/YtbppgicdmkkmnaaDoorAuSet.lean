/-
  Contract of gaps.Set at a list whose second number lies ahead of its first.
-/
import Derived.Test.YtbppgicdmkkmnaaDoorAuNamed
set_option linter.unusedVariables false
set_option linter.unusedSimpArgs false
namespace Go.Proofs.YtbppgicdmkkmnaaDoor
open Go.RowKit

set_option maxRecDepth 100000 in
set_option maxHeartbeats 2000000 in
theorem set_bad (n x y : Int) (g c : Nat) (w : World) (hx : (x - n) % 16777216 = 2) (hy : (y - n) % 16777216 = 1) (hg0 : w.cell? ⟨g, 0, none⟩ = some (.int .u32 x)) (hg1 : w.cell? ⟨g, 1, none⟩ = some (.int .u32 y)) :
    Calls Tryd.prog 24 #[.int .u32 n, .int .u32 ((n + 4194304) % 16777216), .slice (some ⟨g, 0, none⟩) 2 c] w fun e w' => e = .returned (.tuple #[.slice none 0 0, .bool false]) ∧ w = w' := by
  have hend : ((n + 4194304) % 16777216 - n) % 16777216 = 4194304 := by omega
  generalize (n + 4194304) % 16777216 = top at *
  have HE := Lib.hid hend
  have HX := Lib.hid hx
  have HY := Lib.hid hy
  clear hend hx hy
  go_enter Tryd.func24, Tryd.ntmps24
  go_wp2_with fail
  refine (to_num _ _ _).mono ?_
  rintro e w' ⟨rfl, rfl⟩
  rw [HE.out]
  go_wp2_with fail
  refine wp_loop_rounds 2 ?_
  rw [rounds_succ]
  go_wp2_with fail
  refine (to_num _ _ _).mono ?_
  rintro e w' ⟨rfl, rfl⟩
  rw [HX.out]
  go_wp2_with fail
  rw [rounds_succ]
  go_wp2_with fail
  refine (to_num _ _ _).mono ?_
  rintro e w' ⟨rfl, rfl⟩
  rw [HY.out]
  go_wp2_with fail
  go_ret2
  exact ⟨rfl, rfl⟩
end Go.Proofs.YtbppgicdmkkmnaaDoor
