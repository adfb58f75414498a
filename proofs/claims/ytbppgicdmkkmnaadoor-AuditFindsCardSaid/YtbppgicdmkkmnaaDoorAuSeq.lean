/-
  Contracts of package seq: numbers of 24 bits.
-/
import Derived.Test.YtbppgicdmkkmnaaDoorRows
import Derived.Test.YtbppgicdmkkmnaaDoorCommon
import Derived.Test.YtbppgicdmkkmnaaDoorBits
import Derived.Test.YtbppgicdmkkmnaaDoorBytes
import Derived.WalkSpells
import Derived.WalkLawsBesides
import Derived.Lib.Hide
import Derived.Deep.QuietTactic
import Derived.BigQuiet
set_option linter.unusedVariables false
set_option linter.unusedSimpArgs false
namespace Go.Proofs.YtbppgicdmkkmnaaDoor
open Go.RowKit

theorem mask_u32 (x : Int) (i : Nat) (hi : i ≤ 31) : bits .and .u32 x (2 ^ i - 1) = x % 2 ^ i := by
  have hpos : 0 < 2 ^ i := Nat.two_pow_pos i
  have hle : 2 ^ i ≤ 2 ^ 31 := Nat.pow_le_pow_right (by decide) hi
  have hc : ((2 : Int) ^ i - 1) = ((2 ^ i - 1 : Nat) : Int) := by rw [Int.natCast_sub hpos]; simp
  have hb : IntKind.u32.bits = 32 := rfl
  have hp : (2 : Int) ^ i = ((2 ^ i : Nat) : Int) := by simp
  simp only [bits, hc, BitVec.ofInt_natCast, BitVec.toNat_and, BitVec.toNat_ofNat, BitVec.toNat_ofInt, hb]
  rw [Nat.mod_eq_of_lt (show 2 ^ i - 1 < 2 ^ 32 by omega), Nat.and_two_pow_sub_one_eq_mod, hp]
  have hx : (((x % (2 ^ 32 : Nat)).toNat : Nat) : Int) = x % (2 ^ 32 : Nat) := Int.toNat_of_nonneg (Int.emod_nonneg _ (by decide))
  have hm : (((x % (2 ^ 32 : Nat)).toNat % 2 ^ i : Nat) : Int) = x % ((2 ^ i : Nat) : Int) := by
    rw [Int.natCast_emod, hx]
    exact Int.emod_emod_of_dvd x (Int.natCast_dvd_natCast.2 (Nat.pow_dvd_pow 2 (by omega)))
  rw [hm, IntKind.wrap_u32]
  have h0 := Int.emod_nonneg x (show ((2 ^ i : Nat) : Int) ≠ 0 by omega)
  have h1 := Int.emod_lt_of_pos x (show (0 : Int) < ((2 ^ i : Nat) : Int) by omega)
  omega
@[go_sem] theorem u32_and24 (x : Int) : bits .and .u32 x 16777215 = x % 16777216 := mask_u32 x 24 (by decide)
theorem of_num (x : Int) (w : World) : Calls Tryd.prog 15 #[.int .i64 x] w fun e w' => e = .returned (.int .u32 (x % 16777216)) ∧ w = w' := by
  go_enter Tryd.func15, Tryd.ntmps15
  go_wp2
  go_ret
  exact ⟨ret_int (by first | omega | (simp; done) | (rw [IntKind.wrap_u32]; omega)), rfl⟩
theorem low_num (x : Int) (w : World) : Calls Tryd.prog 14 #[.int .u32 x] w fun e w' => e = .returned (.int .u32 (x % 16777216)) ∧ w = w' := by
  go_enter Tryd.func14, Tryd.ntmps14
  go_wp2
  go_ret
  exact ⟨rfl, rfl⟩
theorem add_num (x n : Int) (w : World) : Calls Tryd.prog 8 #[.int .u32 x, .int .i64 n] w fun e w' => e = .returned (.int .u32 ((x + n) % 16777216)) ∧ w = w' := by
  have h1 : IntKind.i64.wrap (x % 16777216) = x % 16777216 := by rw [IntKind.wrap_i64]; omega
  have h2 : IntKind.i64.wrap (x % 16777216 + n % 16777216) = x % 16777216 + n % 16777216 := by rw [IntKind.wrap_i64]; omega
  go_enter Tryd.func8, Tryd.ntmps8
  go_wp2_with fail
  refine (low_num _ _).mono ?_
  rintro e w1 ⟨rfl, rfl⟩
  go_wp2_with fail
  refine (of_num _ _).mono ?_
  rintro e w1 ⟨rfl, rfl⟩
  go_wp2_with fail
  go_ret
  exact ⟨ret_int (by omega), rfl⟩
theorem to_num (x y : Int) (w : World) : Calls Tryd.prog 20 #[.int .u32 x, .int .u32 y] w fun e w' => e = .returned (.int .i64 ((y - x) % 16777216)) ∧ w = w' := by
  have h1 : IntKind.u32.wrap (y - x) % 16777216 = (y - x) % 16777216 := by rw [IntKind.wrap_u32]; omega
  have h2 : IntKind.i64.wrap ((y - x) % 16777216) = (y - x) % 16777216 := by rw [IntKind.wrap_i64]; omega
  go_enter Tryd.func20, Tryd.ntmps20
  go_wp2
  go_ret
  exact ⟨rfl, rfl⟩
theorem within_num (a x b : Int) (w : World) : Calls Tryd.prog 27 #[.int .u32 a, .int .u32 x, .int .u32 b] w fun e w' => e = .returned (.bool (decide ((x - a) % 16777216 ≤ (b - a) % 16777216))) ∧ w = w' := by
  go_enter Tryd.func27, Tryd.ntmps27
  go_wp2_with fail
  refine (to_num _ _ _).mono ?_
  rintro e w1 ⟨rfl, rfl⟩
  go_wp2_with fail
  refine (to_num _ _ _).mono ?_
  rintro e w1 ⟨rfl, rfl⟩
  go_wp2_with fail
  go_ret
  exact ⟨rfl, rfl⟩
theorem between_num (a x b : Int) (w : World) : Calls Tryd.prog 35 #[.int .u32 a, .int .u32 x, .int .u32 b] w fun e w' => e = .returned (.bool (decide ((x - a) % 16777216 < (b - a) % 16777216))) ∧ w = w' := by
  go_enter Tryd.func35, Tryd.ntmps35
  go_wp2_with fail
  refine (to_num _ _ _).mono ?_
  rintro e w1 ⟨rfl, rfl⟩
  go_wp2_with fail
  refine (to_num _ _ _).mono ?_
  rintro e w1 ⟨rfl, rfl⟩
  go_wp2_with fail
  go_ret
  exact ⟨rfl, rfl⟩
def maxN (base a b : Int) : Int := if (b - base) % 16777216 ≤ (a - base) % 16777216 then a % 16777216 else b % 16777216
theorem max_num (base a b : Int) (w : World) : Calls Tryd.prog 28 #[.int .u32 base, .int .u32 a, .int .u32 b] w fun e w' => e = .returned (.int .u32 (maxN base a b)) ∧ w = w' := by
  by_cases h : (b - base) % 16777216 ≤ (a - base) % 16777216
  · unfold maxN; rw [if_pos h]
    have h1 : (a - base) % 16777216 ≥ (b - base) % 16777216 := h
    go_enter Tryd.func28, Tryd.ntmps28
    go_wp2_with fail
    refine (to_num _ _ _).mono ?_
    rintro e w1 ⟨rfl, rfl⟩
    go_wp2_with fail
    refine (to_num _ _ _).mono ?_
    rintro e w1 ⟨rfl, rfl⟩
    go_wp2_with fail
    refine (low_num _ _).mono ?_
    rintro e w1 ⟨rfl, rfl⟩
    go_wp2_with fail
    go_ret
    exact ⟨rfl, rfl⟩
  · unfold maxN; rw [if_neg h]
    go_enter Tryd.func28, Tryd.ntmps28
    go_wp2_with fail
    refine (to_num _ _ _).mono ?_
    rintro e w1 ⟨rfl, rfl⟩
    go_wp2_with fail
    refine (to_num _ _ _).mono ?_
    rintro e w1 ⟨rfl, rfl⟩
    go_wp2_with fail
    refine (low_num _ _).mono ?_
    rintro e w1 ⟨rfl, rfl⟩
    go_wp2_with fail
    go_ret
    exact ⟨rfl, rfl⟩
end Go.Proofs.YtbppgicdmkkmnaaDoor
