/-
  The program's numbers.
-/
import Derived.Test.YtnimgpfgfohdoaaGreatTab
import Derived.Test.YtnimgpfgfohdoaaGreatAy9
import Derived.Test.YtnimgpfgfohdoaaGreatAyC
import Derived.WalkKit
import Derived.Laws.BitsLemmas
set_option linter.unusedVariables false
set_option linter.unusedSimpArgs false
namespace Go.Proofs.YtnimgpfgfohdoaaGreat
open Go AX Go.RowKit
theorem mask_u32 (x : Int) (i : Nat) (hi : i ≤ 31) : bits .and .u32 x (2 ^ i - 1) = x % 2 ^ i := by
  have hpos : 0 < 2 ^ i := Nat.two_pow_pos i
  have hle : 2 ^ i ≤ 2 ^ 31 := Nat.pow_le_pow_right (by decide) hi
  have hc : ((2 : Int) ^ i - 1) = ((2 ^ i - 1 : Nat) : Int) := by rw [Int.natCast_sub hpos]; simp
  have hb : IntKind.u32.bits = 32 := rfl
  have hp : (2 : Int) ^ i = ((2 ^ i : Nat) : Int) := by simp
  simp only [bits, hc, BitVec.ofInt_natCast, BitVec.toNat_and, BitVec.toNat_ofNat, BitVec.toNat_ofInt, hb]
  rw [Nat.mod_eq_of_lt (show 2 ^ i - 1 < 2 ^ 32 by omega), Nat.and_two_pow_sub_one_eq_mod, hp]
  have hx : (((x % (2 ^ 32 : Nat)).toNat : Nat) : Int) = x % (2 ^ 32 : Nat) := Int.toNat_of_nonneg (Int.emod_nonneg _ (by decide))
  have hm : (((x % (2 ^ 32 : Nat)).toNat % 2 ^ i : Nat) : Int) = x % ((2 ^ i : Nat) : Int) := by
    rw [Int.natCast_emod, hx]
    exact Int.emod_emod_of_dvd x (Int.natCast_dvd_natCast.2 (Nat.pow_dvd_pow 2 (by omega)))
  rw [hm, IntKind.wrap_u32]
  have h0 := Int.emod_nonneg x (show ((2 ^ i : Nat) : Int) ≠ 0 by omega)
  have h1 := Int.emod_lt_of_pos x (show (0 : Int) < ((2 ^ i : Nat) : Int) by omega)
  omega
theorem mask_i64 (x : Int) (i : Nat) (hi : i ≤ 62) : bits .and .i64 x (2 ^ i - 1) = x % 2 ^ i := by
  have hpos : 0 < 2 ^ i := Nat.two_pow_pos i
  have hle : 2 ^ i ≤ 2 ^ 62 := Nat.pow_le_pow_right (by decide) hi
  have hc : ((2 : Int) ^ i - 1) = ((2 ^ i - 1 : Nat) : Int) := by rw [Int.natCast_sub hpos]; simp
  have hb : IntKind.i64.bits = 64 := rfl
  have hp : (2 : Int) ^ i = ((2 ^ i : Nat) : Int) := by simp
  simp only [bits, hc, BitVec.ofInt_natCast, BitVec.toNat_and, BitVec.toNat_ofNat, BitVec.toNat_ofInt, hb]
  rw [Nat.mod_eq_of_lt (show 2 ^ i - 1 < 2 ^ 64 by omega), Nat.and_two_pow_sub_one_eq_mod, hp]
  have hx : (((x % (2 ^ 64 : Nat)).toNat : Nat) : Int) = x % (2 ^ 64 : Nat) := Int.toNat_of_nonneg (Int.emod_nonneg _ (by decide))
  have hm : (((x % (2 ^ 64 : Nat)).toNat % 2 ^ i : Nat) : Int) = x % ((2 ^ i : Nat) : Int) := by
    rw [Int.natCast_emod, hx]
    exact Int.emod_emod_of_dvd x (Int.natCast_dvd_natCast.2 (Nat.pow_dvd_pow 2 (by omega)))
  rw [hm, IntKind.wrap_i64]
  have h0 := Int.emod_nonneg x (show ((2 ^ i : Nat) : Int) ≠ 0 by omega)
  have h1 := Int.emod_lt_of_pos x (show (0 : Int) < ((2 ^ i : Nat) : Int) by omega)
  omega
/-- A call without arguments. -/
@[simp ↓] theorem o_call0 {P : Program} {call : FuncId → Array Value → AX Value} {d : Option Tmp} {ty : TypeId} {pos : String} {af : Array Edge} {g : Option (Nat × Bool)} {tm : Array Value} {f : FuncId} {ts : Array TypeId} (hc : callable P f = true) : aOp P call ⟨d, .call ⟨.value (.func f), #[], ts⟩, ty, pos, af, g⟩ tm = call f #[] := by
  rw [o_call (by rfl) hc]
  simp
section
variable {P : Program} {T : TypeId} {ox oy : Operand} {x : Int}
@[simp] theorem b_and24u : aBin P .and T ox oy (.int .u32 x) (.int .u32 16777215) = ret (.int .u32 (x % 16777216)) := by
  have h : bits .and .u32 x 16777215 = x % 16777216 := mask_u32 x 24 (by decide)
  rw [b_and, ← h]
  rfl
@[simp] theorem b_and24i : aBin P .and T ox oy (.int .i64 x) (.int .i64 16777215) = ret (.int .i64 (x % 16777216)) := by
  have h : bits .and .i64 x 16777215 = x % 16777216 := mask_i64 x 24 (by decide)
  rw [b_and, ← h]
  rfl
end
@[simp] theorem be_bool {ox oy : Operand} (a b : Bool) : aBin Tryz.prog .eql 4 ox oy (.bool a) (.bool b) = ret (.bool (a == b)) := by kernel_rfl
@[simp] theorem bn_bool {ox oy : Operand} (a b : Bool) : aBin Tryz.prog .neq 4 ox oy (.bool a) (.bool b) = ret (.bool (a != b)) := by kernel_rfl
variable {E : FuncId → Option (Array Value → AX Value)}
set_option maxRecDepth 10000
set_option maxHeartbeats 4000000
theorem low_eq (hE : Bare E) (n : Nat) (x : Int) : aCall Tryz.prog E (n + 1) 38 #[.int .u32 x] = ret (.int .u32 (x % 16777216)) := by
  refine dry_eq fun H s => ?_
  refine enter (calm hE _) [] (hE.no _ (by decide)) Tryz.func38 Tryz.ntmps38 (by unfold Tryz.f38; rfl) (by unfold Tryz.f38; rfl) (by kernel_rfl) ?_
  simp
theorem of_eq (hE : Bare E) (n : Nat) (x : Int) : aCall Tryz.prog E (n + 1) 35 #[.int .i64 x] = ret (.int .u32 (x % 16777216)) := by
  refine dry_eq fun H s => ?_
  refine enter (calm hE _) [] (hE.no _ (by decide)) Tryz.func35 Tryz.ntmps35 (by unfold Tryz.f35; rfl) (by unfold Tryz.f35; rfl) (by kernel_rfl) ?_
  simp
  rw [IntKind.wrap_u32]
  omega
theorem add_eq (hE : Bare E) (n : Nat) (x y : Int) : aCall Tryz.prog E (n + 2) 32 #[.int .u32 x, .int .i64 y] = ret (.int .u32 ((x + y) % 16777216)) := by
  refine dry_eq fun H s => ?_
  refine enter (calm hE _) [] (hE.no _ (by decide)) Tryz.func32 Tryz.ntmps32 (by unfold Tryz.f32; rfl) (by unfold Tryz.f32; rfl) (by kernel_rfl) ?_
  simp [low_eq hE, of_eq hE]
  have h1 : IntKind.i64.wrap (x % 16777216) = x % 16777216 := wrap64_small (by omega) (by omega)
  have h2 : IntKind.i64.wrap (x % 16777216 + y % 16777216) = x % 16777216 + y % 16777216 := wrap64_small (by omega) (by omega)
  simp [h1, h2]
theorem to_eq (hE : Bare E) (n : Nat) (x y : Int) : aCall Tryz.prog E (n + 1) 138 #[.int .u32 x, .int .u32 y] = ret (.int .i64 ((y - x) % 16777216)) := by
  refine dry_eq fun H s => ?_
  refine enter (calm hE _) [] (hE.no _ (by decide)) Tryz.func138 Tryz.ntmps138 (by unfold Tryz.f138; rfl) (by unfold Tryz.f138; rfl) (by kernel_rfl) ?_
  simp
  have h1 : IntKind.i64.wrap ((IntKind.u32.wrap (y - x)) % 16777216) = (IntKind.u32.wrap (y - x)) % 16777216 := wrap64_small (by omega) (by omega)
  rw [h1, IntKind.wrap_u32]
  omega
end Go.Proofs.YtnimgpfgfohdoaaGreat
