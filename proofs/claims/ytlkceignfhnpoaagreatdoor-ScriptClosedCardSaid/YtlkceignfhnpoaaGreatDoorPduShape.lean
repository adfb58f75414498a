/-
  Contracts of pdu.shapeOf and of Num.Low.
-/
import Derived.Test.YtlkceignfhnpoaaGreatDoorRows
import Derived.Test.YtlkceignfhnpoaaGreatDoorPlainPdu
import Derived.Test.YtlkceignfhnpoaaGreatDoorCommon
import Derived.Test.YtlkceignfhnpoaaGreatDoorBits
import Derived.Test.YtlkceignfhnpoaaGreatDoorBytes
import Derived.WalkSpells
import Derived.WalkLawsBesides
import Derived.Lib.Hide
import Derived.Lib.EndianBits
import Derived.Laws.BitsAllLaws
set_option linter.unusedVariables false
set_option linter.unusedSimpArgs false
namespace Go.Proofs.YtlkceignfhnpoaaGreatDoor
open Go.RowKit

def shapeV (k : Int) : Value := .agg #[.int .i64 (sData k), .bool (sSq k), .bool (sN k), .int .i64 (sList k), .bool (sPs k), .bool (sMr k), .bool (sSelf k), .bool (sIs k)]

set_option maxHeartbeats 1000000 in
theorem shapeOf_any (k : Int) (w : World) :
    Calls Tryz.prog 217 #[.int .i64 k] w fun e w' => e = .returned (shapeV k) ∧ Below w.heap.size w w' := by
  by_cases hk : k < 1 ∨ 15 < k
  · have hv : shapeV k = .agg #[.int .i64 0, .bool false, .bool false, .int .i64 0, .bool false, .bool false, .bool false, .bool false] := by
      unfold shapeV sData sSq sN sList sPs sMr sSelf sIs
      rw [if_neg (by omega), if_neg (by omega), if_neg (by omega), if_neg (by omega)]
      simp only [decide_eq_false (show ¬ (k = 1 ∨ k = 5 ∨ k = 2 ∨ k = 6 ∨ k = 9 ∨ k = 15 ∨ k = 7 ∨ k = 3 ∨ k = 4) by omega), decide_eq_false (show ¬ (k = 1 ∨ k = 5 ∨ k = 2 ∨ k = 6 ∨ k = 9 ∨ k = 15 ∨ k = 8 ∨ k = 10 ∨ k = 11 ∨ k = 12) by omega), decide_eq_false (show ¬ (k = 10 ∨ k = 11) by omega), decide_eq_false (show ¬ (k = 11 ∨ k = 12) by omega), decide_eq_false (show ¬ (k = 3) by omega), decide_eq_false (show ¬ (1 ≤ k ∧ k ≤ 15) by omega)]
    rw [hv]
    clear hv
    rcases hk with hk | hk
    all_goals
      go_enter Tryz.func217, Tryz.ntmps217
      go_wp2
      refine bodyPost_ret (v := _) (by simp [results, Tryz.results217, go_sem] <;> rfl) rfl ⟨rfl, (Below.refl _ _).alloc (Nat.le_refl _) _⟩
  · have h : k = 1 ∨ k = 2 ∨ k = 3 ∨ k = 4 ∨ k = 5 ∨ k = 6 ∨ k = 7 ∨ k = 8 ∨ k = 9 ∨ k = 10 ∨ k = 11 ∨ k = 12 ∨ k = 13 ∨ k = 14 ∨ k = 15 := by omega
    clear hk
    rcases h with rfl | rfl | rfl | rfl | rfl | rfl | rfl | rfl | rfl | rfl | rfl | rfl | rfl | rfl | rfl
    all_goals
      go_enter Tryz.func217, Tryz.ntmps217
      go_wp2
      refine bodyPost_ret (v := _) (by simp [results, Tryz.results217, go_sem] <;> rfl) rfl ⟨rfl, (Below.refl _ _).alloc (Nat.le_refl _) _⟩

theorem Low_any (n : Nat) (hn : n < 4294967296) (w : World) :
    Calls Tryz.prog 165 #[.int .u32 n] w fun e w' => e = .returned (.int .u32 ((n % 16777216 : Nat) : Int)) ∧ w = w' := by
  go_enter Tryz.func165, Tryz.ntmps165
  go_wp2
  go_ret
  refine ⟨ret_int ?_, rfl⟩
  rw [show (16777215 : Int) = ((16777215 : Nat) : Int) from rfl, u32_and_nat n 16777215 hn (by omega), show 16777215 = 2 ^ 24 - 1 from rfl, Nat.and_two_pow_sub_one_eq_mod]
end Go.Proofs.YtlkceignfhnpoaaGreatDoor
