/-
  Small contracts of package pdu: shapeOf, low, bit, four, at.
-/
import Derived.Test.YtdggnpecbdnkeaaDoorRows
import Derived.Test.YtdggnpecbdnkeaaDoorPlainPdu
import Derived.Test.YtdggnpecbdnkeaaDoorCommon
import Derived.Test.YtdggnpecbdnkeaaDoorBits
import Derived.Test.YtdggnpecbdnkeaaDoorBytes
import Derived.WalkSpells
import Derived.WalkLawsBesides
import Derived.Lib.Hide
import Derived.Lib.EndianBits
import Derived.Laws.BitsAllLaws
set_option linter.unusedVariables false
set_option linter.unusedSimpArgs false
namespace Go.Proofs.YtdggnpecbdnkeaaDoor
open Go.RowKit

def shapeV (k : Int) : Value := .agg #[.int .i64 (sData k), .bool (sSq k), .bool (sN k), .int .i64 (sList k), .bool (sPs k), .bool (sMr k), .bool (sSelf k), .bool (sIs k)]

set_option maxHeartbeats 1000000 in
theorem shapeOf_any (k : Int) (w : World) :
    Calls Tryd.prog 72 #[.int .i64 k] w fun e w' => e = .returned (shapeV k) ∧ Below w.heap.size w w' := by
  by_cases hk : k < 1 ∨ 15 < k
  · have hv : shapeV k = .agg #[.int .i64 0, .bool false, .bool false, .int .i64 0, .bool false, .bool false, .bool false, .bool false] := by
      unfold shapeV sData sSq sN sList sPs sMr sSelf sIs
      rw [if_neg (by omega), if_neg (by omega), if_neg (by omega), if_neg (by omega)]
      simp only [decide_eq_false (show ¬ (k = 1 ∨ k = 5 ∨ k = 2 ∨ k = 6 ∨ k = 9 ∨ k = 15 ∨ k = 7 ∨ k = 3 ∨ k = 4) by omega), decide_eq_false (show ¬ (k = 1 ∨ k = 5 ∨ k = 2 ∨ k = 6 ∨ k = 9 ∨ k = 15 ∨ k = 8 ∨ k = 10 ∨ k = 11 ∨ k = 12) by omega), decide_eq_false (show ¬ (k = 10 ∨ k = 11) by omega), decide_eq_false (show ¬ (k = 11 ∨ k = 12) by omega), decide_eq_false (show ¬ (k = 3) by omega), decide_eq_false (show ¬ (1 ≤ k ∧ k ≤ 15) by omega)]
    rw [hv]
    clear hv
    rcases hk with hk | hk
    all_goals
      go_enter Tryd.func72, Tryd.ntmps72
      go_wp2
      refine bodyPost_ret (v := _) (by simp [results, Tryd.results72, go_sem] <;> rfl) rfl ⟨rfl, (Below.refl _ _).alloc (Nat.le_refl _) _⟩
  · have h : k = 1 ∨ k = 2 ∨ k = 3 ∨ k = 4 ∨ k = 5 ∨ k = 6 ∨ k = 7 ∨ k = 8 ∨ k = 9 ∨ k = 10 ∨ k = 11 ∨ k = 12 ∨ k = 13 ∨ k = 14 ∨ k = 15 := by omega
    clear hk
    rcases h with rfl | rfl | rfl | rfl | rfl | rfl | rfl | rfl | rfl | rfl | rfl | rfl | rfl | rfl | rfl
    all_goals
      go_enter Tryd.func72, Tryd.ntmps72
      go_wp2
      refine bodyPost_ret (v := _) (by simp [results, Tryd.results72, go_sem] <;> rfl) rfl ⟨rfl, (Below.refl _ _).alloc (Nat.le_refl _) _⟩

theorem bit_any (b : Bool) (w : World) :
    Calls Tryd.prog 55 #[.bool b] w fun e w' => e = .returned (.int .u32 (if b then 1 else 0)) ∧ w = w' := by
  cases b
  all_goals
    go_enter Tryd.func55, Tryd.ntmps55
    go_wp2
    go_ret
    exact ⟨rfl, rfl⟩

theorem Low_any (n : Nat) (hn : n < 4294967296) (w : World) :
    Calls Tryd.prog 71 #[.int .u32 n] w fun e w' => e = .returned (.int .u32 ((n % 16777216 : Nat) : Int)) ∧ w = w' := by
  go_enter Tryd.func71, Tryd.ntmps71
  go_wp2
  go_ret
  refine ⟨ret_int ?_, rfl⟩
  rw [show (16777215 : Int) = ((16777215 : Nat) : Int) from rfl, u32_and_nat n 16777215 hn (by omega), show 16777215 = 2 ^ 24 - 1 from rfl, Nat.and_two_pow_sub_one_eq_mod]
theorem byte_mod (n : Nat) : UInt8.ofNat (n % 256) = UInt8.ofNat n := by
  apply UInt8.toNat_inj.1; simp
theorem four_any (n : Nat) (hn : n < 4294967296) (w : World) :
    Calls Tryd.prog 54 #[.int .u32 n] w fun e w' => e = .returned (.string ⟨#[(n / 16777216).toUInt8, (n / 65536).toUInt8, (n / 256).toUInt8, n.toUInt8]⟩) ∧ Below w.heap.size w w' := by
  have kc := conv4
  go_enter Tryd.func54, Tryd.ntmps54
  go_wp2
  go_ret
  refine ⟨ret_str ?_, (Below.refl _ _).alloc (Nat.le_refl _) _⟩
  simp [byte_mod]
theorem at_any (s : ByteArray) (i : Nat) (hs : s.size ≤ 1000000) (hi : i + 4 ≤ s.size) (w : World) :
    Calls Tryd.prog 89 #[.string s, .int .i64 i] w fun e w' => e = .returned (.int .u32 ((s[i].toNat * 16777216 + s[i+1].toNat * 65536 + s[i+2].toNat * 256 + s[i+3].toNat : Nat) : Int)) ∧ w.drew = w' := by
  have h0 := s[i].toNat_lt
  have h1 := s[i+1].toNat_lt
  have h2 := s[i+2].toNat_lt
  have h3 := s[i+3].toNat_lt
  go_enter Tryd.func89, Tryd.ntmps89
  have q40 : (i : Int) < (s.size : Int) := by omega
  have q41 : i < s.size := by omega
  have q11 : IntKind.i64.wrap ((i : Int) + 1) = (i : Int) + 1 := IntWalk.i64_in _ (by omega)
  have q21 : 0 ≤ (i : Int) + 1 := by omega
  have q31 : ((i : Int) + 1).toNat = i + 1 := by omega
  have q41 : (i : Int) + 1 < (s.size : Int) := by omega
  have q12 : IntKind.i64.wrap ((i : Int) + 2) = (i : Int) + 2 := IntWalk.i64_in _ (by omega)
  have q22 : 0 ≤ (i : Int) + 2 := by omega
  have q32 : ((i : Int) + 2).toNat = i + 2 := by omega
  have q42 : (i : Int) + 2 < (s.size : Int) := by omega
  have q13 : IntKind.i64.wrap ((i : Int) + 3) = (i : Int) + 3 := IntWalk.i64_in _ (by omega)
  have q23 : 0 ≤ (i : Int) + 3 := by omega
  have q33 : ((i : Int) + 3).toNat = i + 3 := by omega
  have q43 : (i : Int) + 3 < (s.size : Int) := by omega
  go_wp2
  go_big_region
  all_goals
    go_wp2
    go_ret
    exact ⟨ret_int (or_u32_4 _ _ _ _ h0 h1 h2 h3), rfl⟩
end Go.Proofs.YtdggnpecbdnkeaaDoor
