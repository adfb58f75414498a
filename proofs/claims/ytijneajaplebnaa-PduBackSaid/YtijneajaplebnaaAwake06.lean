/-
  The statements' 'awake' (layer 6) returns true.
-/
import Derived.Test.YtijneajaplebnaaPduTake
set_option linter.unusedVariables false
set_option linter.unusedSimpArgs false
namespace Go.Proofs.Ytijneajaplebnaa
open Go.RowKit

theorem bytes8 (w : World) : Calls Try.prog 12 #[.agg #[.int .i64 8, .int .i64 0, .int .u32 5, .int .u32 0, .int .u32 0, .slice none 0 0, .bool false, .string ⟨#[97, 98]⟩]] w fun e w' => e = .returned (.string ⟨#[97, 98, 0, 0, 136, 0, 0, 5]⟩) ∧ Below w.heap.size w w' :=
  (bytes_ok 8 0 5 0 0 (.slice none 0 0) [] false ⟨#[97, 98]⟩ w (by omega) (by omega) (by omega) (IntsR.nil _ _) (by simp) (by decide +kernel)).mono fun e w' ⟨h1, h2⟩ => ⟨h1.trans (ret_str (by decide +kernel)), h2⟩

set_option maxHeartbeats 1000000 in
theorem awake_any (w : World) : Calls Try.prog 7 #[] w fun e w' => e = .returned (.bool true) ∧ Below w.heap.size w w' := by
  have HP := Lib.hid parse8
  go_enter Try.func7, Try.ntmps7
  go_wp2_with fail
  refine (HP.out _).mono ?_
  unfold pduV
  rintro e w1 ⟨rfl, hb⟩
  have hz : w.heap.size < w1.heap.size := by have := hb.size; simp at this; omega
  have hcl := fun b o h => bcell hb b o h
  have HB := Lib.hid (belAlloc hb (by simp))
  clear hb HP
  go_wp2_with fail
  refine (bytes8 _).mono ?_
  rintro e w2 ⟨rfl, hb2⟩
  have hc2 := fun b o h => bcell hb2 b o h
  have HB2 := Lib.hid (HB.out.trans (((Below.refl _ w1).alloc (Nat.le_refl _) _).trans (hb2.mono (by simp)) |>.mono (by omega)))
  clear hb2 HB
  go_wp2_with fail
  go_ret
  exact ⟨rfl, HB2.out⟩
end Go.Proofs.Ytijneajaplebnaa
