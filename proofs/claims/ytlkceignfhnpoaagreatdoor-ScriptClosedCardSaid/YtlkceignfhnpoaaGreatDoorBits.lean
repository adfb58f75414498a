/-
  Masks of ints, whatever their sign.
-/
import Derived.WalkKit
import Derived.Laws.BitsLemmas
set_option linter.unusedVariables false
set_option linter.unusedSimpArgs false
namespace Go.Proofs.YtlkceignfhnpoaaGreatDoor
open Go.RowKit

theorem mask_i64 (x : Int) (i : Nat) (hi : i ≤ 62) : bits .and .i64 x (2 ^ i - 1) = x % 2 ^ i := by
  have hpos : 0 < 2 ^ i := Nat.two_pow_pos i
  have hle : 2 ^ i ≤ 2 ^ 62 := Nat.pow_le_pow_right (by decide) hi
  have hc : ((2 : Int) ^ i - 1) = ((2 ^ i - 1 : Nat) : Int) := by rw [Int.natCast_sub hpos]; simp
  have hb : IntKind.i64.bits = 64 := rfl
  have hp : (2 : Int) ^ i = ((2 ^ i : Nat) : Int) := by simp
  simp only [bits, hc, BitVec.ofInt_natCast, BitVec.toNat_and, BitVec.toNat_ofNat, BitVec.toNat_ofInt, hb]
  rw [Nat.mod_eq_of_lt (show 2 ^ i - 1 < 2 ^ 64 by omega), Nat.and_two_pow_sub_one_eq_mod, hp]
  have hx : (((x % (2 ^ 64 : Nat)).toNat : Nat) : Int) = x % (2 ^ 64 : Nat) := Int.toNat_of_nonneg (Int.emod_nonneg _ (by decide))
  have hm : (((x % (2 ^ 64 : Nat)).toNat % 2 ^ i : Nat) : Int) = x % ((2 ^ i : Nat) : Int) := by
    rw [Int.natCast_emod, hx]
    exact Int.emod_emod_of_dvd x (Int.natCast_dvd_natCast.2 (Nat.pow_dvd_pow 2 (by omega)))
  rw [hm, IntKind.wrap_i64]
  have h0 := Int.emod_nonneg x (show ((2 ^ i : Nat) : Int) ≠ 0 by omega)
  have h1 := Int.emod_lt_of_pos x (show (0 : Int) < ((2 ^ i : Nat) : Int) by omega)
  omega
theorem wraps_i64 (n : Int) (h₀ : 0 ≤ n) (h₁ : n < 2 ^ 62) : IntKind.i64.wrap n = n := by rw [IntKind.wrap_i64]; omega
theorem or_i64 (i : Nat) (hi : i ≤ 62) (x y : Int) (hx0 : 0 ≤ x) (hx : x % 2 ^ i = 0) (hx1 : x < 2 ^ 62) (hy0 : 0 ≤ y) (hy : y < 2 ^ i) (hy1 : y < 2 ^ 62) : bits .or .i64 x y = x + y :=
  bits_join .i64 62 (by decide) wraps_i64 i x y hx0 hx hx1 hy0 hy hy1
theorem or16_i64 (x y : Int) (hx0 : 0 ≤ x) (hx1 : x < 16) (hy0 : 0 ≤ y) (hy1 : y < 16) : bits .or .i64 (x * 16) y = x * 16 + y :=
  or_i64 4 (by decide) (x * 16) y (by omega) (by omega) (by omega) hy0 (by omega) (by omega)
@[go_sem] theorem i64_and1 (x : Int) : bits .and .i64 x 1 = x % 2 := mask_i64 x 1 (by decide)
@[go_sem] theorem i64_and3 (x : Int) : bits .and .i64 x 3 = x % 4 := mask_i64 x 2 (by decide)
@[go_sem] theorem i64_and7 (x : Int) : bits .and .i64 x 7 = x % 8 := mask_i64 x 3 (by decide)
@[go_sem] theorem i64_and15 (x : Int) : bits .and .i64 x 15 = x % 16 := mask_i64 x 4 (by decide)
@[go_sem] theorem i64_and31 (x : Int) : bits .and .i64 x 31 = x % 32 := mask_i64 x 5 (by decide)
@[go_sem] theorem i64_and63 (x : Int) : bits .and .i64 x 63 = x % 64 := mask_i64 x 6 (by decide)
@[go_sem] theorem i64_and127 (x : Int) : bits .and .i64 x 127 = x % 128 := mask_i64 x 7 (by decide)
@[go_sem] theorem i64_and255 (x : Int) : bits .and .i64 x 255 = x % 256 := mask_i64 x 8 (by decide)
@[go_sem] theorem i64_and1023 (x : Int) : bits .and .i64 x 1023 = x % 1024 := mask_i64 x 10 (by decide)
@[go_sem] theorem i64_and65535 (x : Int) : bits .and .i64 x 65535 = x % 65536 := mask_i64 x 16 (by decide)
@[go_sem] theorem i64_and24 (x : Int) : bits .and .i64 x 16777215 = x % 16777216 := mask_i64 x 24 (by decide)
theorem or_u32 (i : Nat) (hi : i ≤ 32) (x y : Int) (hx0 : 0 ≤ x) (hx : x % 2 ^ i = 0) (hx1 : x < 2 ^ 32) (hy0 : 0 ≤ y) (hy : y < 2 ^ i) (hy1 : y < 2 ^ 32) : bits .or .u32 x y = x + y :=
  bits_join .u32 32 (by decide) (fun n h0 h1 => by rw [IntKind.wrap_u32]; omega) i x y hx0 hx hx1 hy0 hy hy1
theorem or_u32_4 (a b c d : Nat) (ha : a < 256) (hb : b < 256) (hc : c < 256) (hd : d < 256) :
    bits .or .u32 (bits .or .u32 (bits .or .u32 ((a : Int) * 16777216) ((b : Int) * 65536)) ((c : Int) * 256)) (d : Int) = ((a * 16777216 + b * 65536 + c * 256 + d : Nat) : Int) := by
  rw [or_u32 24 (by omega) ((a : Int) * 16777216) ((b : Int) * 65536) (by omega) (by omega) (by omega) (by omega) (by omega) (by omega),
    or_u32 16 (by omega) _ ((c : Int) * 256) (by omega) (by omega) (by omega) (by omega) (by omega) (by omega),
    or_u32 8 (by omega) _ (d : Int) (by omega) (by omega) (by omega) (by omega) (by omega) (by omega)]
  omega
end Go.Proofs.YtlkceignfhnpoaaGreatDoor
