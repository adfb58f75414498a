import Derived.Test.YtlkceignfhnpoaaGreatDoorCAyD
import Derived.Test.YtlkceignfhnpoaaGreatDoorProg
import Derived.KernelRfl
set_option linter.unusedVariables false
namespace Go.Proofs.YtlkceignfhnpoaaGreatDoor
open Go AX
@[simp] theorem cl_7 : callable Tryz.prog 7 = true := by kernel_rfl
@[simp] theorem cl_8 : callable Tryz.prog 8 = true := by kernel_rfl
@[simp] theorem cl_9 : callable Tryz.prog 9 = true := by kernel_rfl
@[simp] theorem cl_10 : callable Tryz.prog 10 = true := by kernel_rfl
@[simp] theorem ip_28 : isPtrT Tryz.prog 28 = true := by kernel_rfl
@[simp] theorem ln_25 (a : Option Addr) (n c : Nat) : aLen Tryz.prog 25 (.slice a n c) = ret (.int .i64 n) := by kernel_rfl
@[simp] theorem ia_25 (b o n c : Nat) (i : Int) (h : 0 ≤ i ∧ i < n) : aIndexAddr Tryz.prog 25 (.slice (some ⟨b, o, none⟩) n c) (.int .i64 i) = ret (.pointer (some ⟨b, o + i.toNat * 4, none⟩)) := (show _ = ite (0 ≤ i ∧ i < (n : Int)) (ret _) fail by kernel_rfl).trans (if_pos h)
@[simp] theorem ag_31 : aggB Tryz.prog 31 = some true := by kernel_rfl
@[simp] theorem sz_31 : szOf Tryz.prog 31 = some 4 := by kernel_rfl
@[simp] theorem zr_31 : zeroOf Tryz.prog 31 = some (.agg #[.string ⟨#[]⟩, .slice none 0 0, .string ⟨#[]⟩, .string ⟨#[]⟩]) := by kernel_rfl
@[simp] theorem fa_31_0 (b o : Nat) : aFieldAddr Tryz.prog 31 (.pointer (some ⟨b, o, none⟩)) 0 = ret (.pointer (some ⟨b, o + 0, none⟩)) := by kernel_rfl
@[simp] theorem ag_9 : aggB Tryz.prog 9 = some false := by kernel_rfl
@[simp] theorem sz_9 : szOf Tryz.prog 9 = some 1 := by kernel_rfl
@[simp] theorem cl_11 : callable Tryz.prog 11 = true := by kernel_rfl
@[simp] theorem cl_12 : callable Tryz.prog 12 = true := by kernel_rfl
@[simp] theorem ip_33 : isPtrT Tryz.prog 33 = true := by kernel_rfl
@[simp] theorem bs_22_6 : bsCells Tryz.prog 22 6 = some (3, 1, [.int .i64 0, .int .i64 0, .int .i64 0, .int .i64 0, .int .i64 0, .int .i64 0]) := by kernel_rfl
@[simp] theorem ln_22 (a : Option Addr) (n c : Nat) : aLen Tryz.prog 22 (.slice a n c) = ret (.int .i64 n) := by kernel_rfl
@[simp] theorem ia_22 (b o n c : Nat) (i : Int) (h : 0 ≤ i ∧ i < n) : aIndexAddr Tryz.prog 22 (.slice (some ⟨b, o, none⟩) n c) (.int .i64 i) = ret (.pointer (some ⟨b, o + i.toNat * 1, none⟩)) := (show _ = ite (0 ≤ i ∧ i < (n : Int)) (ret _) fail by kernel_rfl).trans (if_pos h)
@[simp] theorem ag_3 : aggB Tryz.prog 3 = some false := by kernel_rfl
@[simp] theorem sz_3 : szOf Tryz.prog 3 = some 1 := by kernel_rfl
@[simp] theorem ui_3 : Tryz.prog.underlying 3 = some (.int .i64) := by kernel_rfl
@[simp] theorem ui_35 : Tryz.prog.underlying 35 = some (.int .u32) := by kernel_rfl
@[simp] theorem bu_31 : stat Tryz.prog (bInfo 31) = some (#[(0, 1), (1, 1), (2, 1), (3, 1)], none, [.string ⟨#[]⟩, .slice none 0 0, .string ⟨#[]⟩, .string ⟨#[]⟩].toArray) := by kernel_rfl
@[simp] theorem cl_13 : callable Tryz.prog 13 = true := by kernel_rfl
@[simp] theorem cl_14 : callable Tryz.prog 14 = true := by kernel_rfl
@[simp] theorem cl_15 : callable Tryz.prog 15 = true := by kernel_rfl
@[simp] theorem cl_16 : callable Tryz.prog 16 = true := by kernel_rfl
@[simp] theorem bu_49 : stat Tryz.prog (bInfo 49) = some (#[(0, 2)], none, [.slice none 0 0, .slice none 0 0].toArray) := by kernel_rfl
@[simp] theorem zr_49 : zeroOf Tryz.prog 49 = some (.agg #[.slice none 0 0, .slice none 0 0]) := by kernel_rfl
@[simp] theorem bs_22_5 : bsCells Tryz.prog 22 5 = some (3, 1, [.int .i64 0, .int .i64 0, .int .i64 0, .int .i64 0, .int .i64 0]) := by kernel_rfl
@[simp] theorem bu_51 : stat Tryz.prog (bInfo 51) = some (#[(0, 1), (1, 1), (2, 1)], none, [.pointer none, .pointer none, .slice none 0 0].toArray) := by kernel_rfl
@[simp] theorem zr_51 : zeroOf Tryz.prog 51 = some (.agg #[.pointer none, .pointer none, .slice none 0 0]) := by kernel_rfl
@[simp] theorem cl_17 : callable Tryz.prog 17 = true := by kernel_rfl
@[simp] theorem fa_51_0 (b o : Nat) : aFieldAddr Tryz.prog 51 (.pointer (some ⟨b, o, none⟩)) 0 = ret (.pointer (some ⟨b, o + 0, none⟩)) := by kernel_rfl
@[simp] theorem ag_33 : aggB Tryz.prog 33 = some false := by kernel_rfl
@[simp] theorem sz_33 : szOf Tryz.prog 33 = some 1 := by kernel_rfl
@[simp] theorem ln_9 (b : ByteArray) : aLen Tryz.prog 9 (.string b) = ret (.int .i64 b.size) := by kernel_rfl
@[simp] theorem us_9 : Tryz.prog.underlying 9 = some .string := by kernel_rfl
@[simp] theorem cl_18 : callable Tryz.prog 18 = true := by kernel_rfl
@[simp] theorem fa_31_1 (b o : Nat) : aFieldAddr Tryz.prog 31 (.pointer (some ⟨b, o, none⟩)) 1 = ret (.pointer (some ⟨b, o + 1, none⟩)) := by kernel_rfl
@[simp] theorem ag_22 : aggB Tryz.prog 22 = some false := by kernel_rfl
@[simp] theorem sz_22 : szOf Tryz.prog 22 = some 1 := by kernel_rfl
@[simp] theorem bs_22_1 : bsCells Tryz.prog 22 1 = some (3, 1, [.int .i64 0]) := by kernel_rfl
@[simp] theorem bs_25_1 : bsCells Tryz.prog 25 1 = some (31, 4, [.string ⟨#[]⟩, .slice none 0 0, .string ⟨#[]⟩, .string ⟨#[]⟩]) := by kernel_rfl
@[simp] theorem ap_25 : apInfo Tryz.prog 25 = some (31, 4, 72) := by kernel_rfl
@[simp] theorem bu_56 : stat Tryz.prog (bInfo 56) = some (#[(0, 1), (1, 1), (2, 1), (3, 1), (4, 1)], none, [.int .i64 0, .int .i64 0, .int .i64 0, .int .i64 0, .int .i64 0].toArray) := by kernel_rfl
@[simp] theorem zr_56 : zeroOf Tryz.prog 56 = some (.agg #[.int .i64 0, .int .i64 0, .int .i64 0, .int .i64 0, .int .i64 0]) := by kernel_rfl
@[simp] theorem bu_58 : stat Tryz.prog (bInfo 58) = some (#[(0, 1), (1, 1), (2, 5)], none, [.pointer none, .pointer none, .int .i64 0, .int .i64 0, .int .i64 0, .int .i64 0, .int .i64 0].toArray) := by kernel_rfl
@[simp] theorem zr_58 : zeroOf Tryz.prog 58 = some (.agg #[.pointer none, .pointer none, .int .i64 0, .int .i64 0, .int .i64 0, .int .i64 0, .int .i64 0]) := by kernel_rfl
@[simp] theorem fa_58_2 (b o : Nat) : aFieldAddr Tryz.prog 58 (.pointer (some ⟨b, o, none⟩)) 2 = ret (.pointer (some ⟨b, o + 2, none⟩)) := by kernel_rfl
@[simp] theorem sz_56 : szOf Tryz.prog 56 = some 5 := by kernel_rfl
@[simp] theorem cl_19 : callable Tryz.prog 19 = true := by kernel_rfl
@[simp] theorem fa_58_0 (b o : Nat) : aFieldAddr Tryz.prog 58 (.pointer (some ⟨b, o, none⟩)) 0 = ret (.pointer (some ⟨b, o + 0, none⟩)) := by kernel_rfl
@[simp] theorem cl_20 : callable Tryz.prog 20 = true := by kernel_rfl
@[simp] theorem bs_37_0 : bsCells Tryz.prog 37 0 = some (62, 4, []) := by kernel_rfl
@[simp] theorem cl_21 : callable Tryz.prog 21 = true := by kernel_rfl
@[simp] theorem ln_60 (a : Option Addr) (n c : Nat) : aLen Tryz.prog 60 (.slice a n c) = ret (.int .i64 n) := by kernel_rfl
@[simp] theorem ia_60 (b o n c : Nat) (i : Int) (h : 0 ≤ i ∧ i < n) : aIndexAddr Tryz.prog 60 (.slice (some ⟨b, o, none⟩) n c) (.int .i64 i) = ret (.pointer (some ⟨b, o + i.toNat * 1, none⟩)) := (show _ = ite (0 ≤ i ∧ i < (n : Int)) (ret _) fail by kernel_rfl).trans (if_pos h)
@[simp] theorem cl_22 : callable Tryz.prog 22 = true := by kernel_rfl
@[simp] theorem zr_62 : zeroOf Tryz.prog 62 = some (.agg #[.string ⟨#[]⟩, .slice none 0 0, .string ⟨#[]⟩, .string ⟨#[]⟩]) := by kernel_rfl
@[simp] theorem sz_62 : szOf Tryz.prog 62 = some 4 := by kernel_rfl
@[simp] theorem ln_37 (a : Option Addr) (n c : Nat) : aLen Tryz.prog 37 (.slice a n c) = ret (.int .i64 n) := by kernel_rfl
@[simp] theorem ag_62 : aggB Tryz.prog 62 = some true := by kernel_rfl
@[simp] theorem bs_37_1 : bsCells Tryz.prog 37 1 = some (62, 4, [.string ⟨#[]⟩, .slice none 0 0, .string ⟨#[]⟩, .string ⟨#[]⟩]) := by kernel_rfl
@[simp] theorem ap_37 : apInfo Tryz.prog 37 = some (62, 4, 72) := by kernel_rfl
@[simp] theorem cl_23 : callable Tryz.prog 23 = true := by kernel_rfl
@[simp] theorem zr_68 : zeroOf Tryz.prog 68 = some (.agg #[.pointer none, .slice none 0 0]) := by kernel_rfl
@[simp] theorem cl_24 : callable Tryz.prog 24 = true := by kernel_rfl
@[simp] theorem cl_25 : callable Tryz.prog 25 = true := by kernel_rfl
@[simp] theorem cl_26 : callable Tryz.prog 26 = true := by kernel_rfl
@[simp] theorem bs_60_1 : bsCells Tryz.prog 60 1 = some (9, 1, [.string ⟨#[]⟩]) := by kernel_rfl
@[simp] theorem cl_27 : callable Tryz.prog 27 = true := by kernel_rfl
@[simp] theorem fa_31_2 (b o : Nat) : aFieldAddr Tryz.prog 31 (.pointer (some ⟨b, o, none⟩)) 2 = ret (.pointer (some ⟨b, o + 2, none⟩)) := by kernel_rfl
@[simp] theorem ap_60 : apInfo Tryz.prog 60 = some (9, 1, 16) := by kernel_rfl
@[simp] theorem fa_31_3 (b o : Nat) : aFieldAddr Tryz.prog 31 (.pointer (some ⟨b, o, none⟩)) 3 = ret (.pointer (some ⟨b, o + 3, none⟩)) := by kernel_rfl
@[simp] theorem cl_28 : callable Tryz.prog 28 = true := by kernel_rfl
@[simp] theorem el_22 : elemT Tryz.prog 22 = some 3 := by kernel_rfl
@[simp] theorem cl_29 : callable Tryz.prog 29 = true := by kernel_rfl
@[simp] theorem fa_51_2 (b o : Nat) : aFieldAddr Tryz.prog 51 (.pointer (some ⟨b, o, none⟩)) 2 = ret (.pointer (some ⟨b, o + 2, none⟩)) := by kernel_rfl
@[simp] theorem bu_78 : stat Tryz.prog (bInfo 78) = some (#[(0, 1), (1, 1), (2, 1), (3, 1), (4, 1), (5, 1), (6, 5)], none, [.int .i64 0, .int .i64 0, .int .i64 0, .int .i64 0, .int .i64 0, .int .u32 0, .int .i64 0, .int .i64 0, .int .i64 0, .int .i64 0, .int .i64 0].toArray) := by kernel_rfl
@[simp] theorem zr_78 : zeroOf Tryz.prog 78 = some (.agg #[.int .i64 0, .int .i64 0, .int .i64 0, .int .i64 0, .int .i64 0, .int .u32 0, .int .i64 0, .int .i64 0, .int .i64 0, .int .i64 0, .int .i64 0]) := by kernel_rfl
@[simp] theorem sz_78 : szOf Tryz.prog 78 = some 11 := by kernel_rfl
@[simp] theorem ag_78 : aggB Tryz.prog 78 = some true := by kernel_rfl
@[simp] theorem fa_78_1 (b o : Nat) : aFieldAddr Tryz.prog 78 (.pointer (some ⟨b, o, none⟩)) 1 = ret (.pointer (some ⟨b, o + 1, none⟩)) := by kernel_rfl
@[simp] theorem bu_82 : stat Tryz.prog (bInfo 82) = some (#[], some 11, [.int .i64 0, .int .i64 0, .int .i64 0, .int .i64 0, .int .i64 0, .int .u32 0, .int .i64 0, .int .i64 0, .int .i64 0, .int .i64 0, .int .i64 0, .int .i64 0, .int .i64 0, .int .i64 0, .int .i64 0, .int .i64 0, .int .u32 0, .int .i64 0, .int .i64 0, .int .i64 0, .int .i64 0, .int .i64 0].toArray) := by kernel_rfl
@[simp] theorem zr_82 : zeroOf Tryz.prog 82 = some (.agg #[.int .i64 0, .int .i64 0, .int .i64 0, .int .i64 0, .int .i64 0, .int .u32 0, .int .i64 0, .int .i64 0, .int .i64 0, .int .i64 0, .int .i64 0, .int .i64 0, .int .i64 0, .int .i64 0, .int .i64 0, .int .i64 0, .int .u32 0, .int .i64 0, .int .i64 0, .int .i64 0, .int .i64 0, .int .i64 0]) := by kernel_rfl
@[simp] theorem bu_84 : stat Tryz.prog (bInfo 84) = some (#[(0, 22), (22, 1)], none, [.int .i64 0, .int .i64 0, .int .i64 0, .int .i64 0, .int .i64 0, .int .u32 0, .int .i64 0, .int .i64 0, .int .i64 0, .int .i64 0, .int .i64 0, .int .i64 0, .int .i64 0, .int .i64 0, .int .i64 0, .int .i64 0, .int .u32 0, .int .i64 0, .int .i64 0, .int .i64 0, .int .i64 0, .int .i64 0, .int .i64 0].toArray) := by kernel_rfl
@[simp] theorem zr_84 : zeroOf Tryz.prog 84 = some (.agg #[.int .i64 0, .int .i64 0, .int .i64 0, .int .i64 0, .int .i64 0, .int .u32 0, .int .i64 0, .int .i64 0, .int .i64 0, .int .i64 0, .int .i64 0, .int .i64 0, .int .i64 0, .int .i64 0, .int .i64 0, .int .i64 0, .int .u32 0, .int .i64 0, .int .i64 0, .int .i64 0, .int .i64 0, .int .i64 0, .int .i64 0]) := by kernel_rfl
@[simp] theorem cl_30 : callable Tryz.prog 30 = true := by kernel_rfl
@[simp] theorem fa_51_1 (b o : Nat) : aFieldAddr Tryz.prog 51 (.pointer (some ⟨b, o, none⟩)) 1 = ret (.pointer (some ⟨b, o + 1, none⟩)) := by kernel_rfl
@[simp] theorem sz_45 : szOf Tryz.prog 45 = some 1 := by kernel_rfl
@[simp] theorem zr_86 : zeroOf Tryz.prog 86 = some (.agg #[.int .i64 0, .string ⟨#[]⟩, .int .i64 0]) := by kernel_rfl
@[simp] theorem zr_88 : zeroOf Tryz.prog 88 = some (.agg #[.int .i64 0, .int .i64 0, .int .u32 0]) := by kernel_rfl
@[simp] theorem cl_31 : callable Tryz.prog 31 = true := by kernel_rfl
@[simp] theorem bu_86 : stat Tryz.prog (bInfo 86) = some (#[(0, 1), (1, 1), (2, 1)], none, [.int .i64 0, .string ⟨#[]⟩, .int .i64 0].toArray) := by kernel_rfl
@[simp] theorem sz_86 : szOf Tryz.prog 86 = some 3 := by kernel_rfl
@[simp] theorem fa_88_0 (b o : Nat) : aFieldAddr Tryz.prog 88 (.pointer (some ⟨b, o, none⟩)) 0 = ret (.pointer (some ⟨b, o + 0, none⟩)) := by kernel_rfl
@[simp] theorem bu_88 : stat Tryz.prog (bInfo 88) = some (#[(0, 1), (1, 1), (2, 1)], none, [.int .i64 0, .int .i64 0, .int .u32 0].toArray) := by kernel_rfl
@[simp] theorem sz_88 : szOf Tryz.prog 88 = some 3 := by kernel_rfl
@[simp] theorem ag_86 : aggB Tryz.prog 86 = some true := by kernel_rfl
@[simp] theorem cl_32 : callable Tryz.prog 32 = true := by kernel_rfl
@[simp] theorem cl_33 : callable Tryz.prog 33 = true := by kernel_rfl
@[simp] theorem cl_34 : callable Tryz.prog 34 = true := by kernel_rfl
@[simp] theorem ap_90 : apInfo Tryz.prog 90 = some (154, 18, 168) := by kernel_rfl
@[simp] theorem ag_88 : aggB Tryz.prog 88 = some true := by kernel_rfl
@[simp] theorem cl_35 : callable Tryz.prog 35 = true := by kernel_rfl
@[simp] theorem cl_36 : callable Tryz.prog 36 = true := by kernel_rfl
@[simp] theorem cl_37 : callable Tryz.prog 37 = true := by kernel_rfl
@[simp] theorem cl_38 : callable Tryz.prog 38 = true := by kernel_rfl
@[simp] theorem cl_39 : callable Tryz.prog 39 = true := by kernel_rfl
@[simp] theorem zr_107 : zeroOf Tryz.prog 107 = some (.agg #[.int .i64 0, .int .i64 0, .int .i64 0, .int .i64 0, .int .u32 0, .int .u32 0, .int .u32 0, .int .u32 0, .int .u32 0, .int .u32 0, .int .i64 0, .int .i64 0, .int .i64 0, .slice none 0 0, .int .u32 0, .int .u32 0, .int .u32 0, .int .i64 0, .int .i64 0, .int .i64 0, .int .i64 0, .int .i64 0, .int .i64 0, .bool false, .bool false, .bool false, .int .i64 0, .int .i64 0, .int .i64 0, .int .i64 0, .int .i64 0]) := by kernel_rfl
@[simp] theorem sz_107 : szOf Tryz.prog 107 = some 31 := by kernel_rfl
@[simp] theorem fa_107_0 (b o : Nat) : aFieldAddr Tryz.prog 107 (.pointer (some ⟨b, o, none⟩)) 0 = ret (.pointer (some ⟨b, o + 0, none⟩)) := by kernel_rfl
@[simp] theorem fa_99_0 (b o : Nat) : aFieldAddr Tryz.prog 99 (.pointer (some ⟨b, o, none⟩)) 0 = ret (.pointer (some ⟨b, o + 0, none⟩)) := by kernel_rfl
@[simp] theorem cl_40 : callable Tryz.prog 40 = true := by kernel_rfl
@[simp] theorem fa_99_1 (b o : Nat) : aFieldAddr Tryz.prog 99 (.pointer (some ⟨b, o, none⟩)) 1 = ret (.pointer (some ⟨b, o + 1, none⟩)) := by kernel_rfl
@[simp] theorem fa_99_2 (b o : Nat) : aFieldAddr Tryz.prog 99 (.pointer (some ⟨b, o, none⟩)) 2 = ret (.pointer (some ⟨b, o + 2, none⟩)) := by kernel_rfl
@[simp] theorem fa_107_1 (b o : Nat) : aFieldAddr Tryz.prog 107 (.pointer (some ⟨b, o, none⟩)) 1 = ret (.pointer (some ⟨b, o + 5, none⟩)) := by kernel_rfl
@[simp] theorem fa_102_0 (b o : Nat) : aFieldAddr Tryz.prog 102 (.pointer (some ⟨b, o, none⟩)) 0 = ret (.pointer (some ⟨b, o + 0, none⟩)) := by kernel_rfl
@[simp] theorem ag_76 : aggB Tryz.prog 76 = some false := by kernel_rfl
@[simp] theorem sz_76 : szOf Tryz.prog 76 = some 1 := by kernel_rfl
@[simp] theorem ui_76 : Tryz.prog.underlying 76 = some (.int .u32) := by kernel_rfl
@[simp] theorem fa_102_1 (b o : Nat) : aFieldAddr Tryz.prog 102 (.pointer (some ⟨b, o, none⟩)) 1 = ret (.pointer (some ⟨b, o + 1, none⟩)) := by kernel_rfl
@[simp] theorem fa_102_2 (b o : Nat) : aFieldAddr Tryz.prog 102 (.pointer (some ⟨b, o, none⟩)) 2 = ret (.pointer (some ⟨b, o + 2, none⟩)) := by kernel_rfl
@[simp] theorem fa_107_2 (b o : Nat) : aFieldAddr Tryz.prog 107 (.pointer (some ⟨b, o, none⟩)) 2 = ret (.pointer (some ⟨b, o + 14, none⟩)) := by kernel_rfl
@[simp] theorem fa_104_0 (b o : Nat) : aFieldAddr Tryz.prog 104 (.pointer (some ⟨b, o, none⟩)) 0 = ret (.pointer (some ⟨b, o + 0, none⟩)) := by kernel_rfl
@[simp] theorem fa_104_1 (b o : Nat) : aFieldAddr Tryz.prog 104 (.pointer (some ⟨b, o, none⟩)) 1 = ret (.pointer (some ⟨b, o + 1, none⟩)) := by kernel_rfl
@[simp] theorem fa_104_2 (b o : Nat) : aFieldAddr Tryz.prog 104 (.pointer (some ⟨b, o, none⟩)) 2 = ret (.pointer (some ⟨b, o + 2, none⟩)) := by kernel_rfl
@[simp] theorem fa_102_6 (b o : Nat) : aFieldAddr Tryz.prog 102 (.pointer (some ⟨b, o, none⟩)) 6 = ret (.pointer (some ⟨b, o + 6, none⟩)) := by kernel_rfl
@[simp] theorem fa_102_7 (b o : Nat) : aFieldAddr Tryz.prog 102 (.pointer (some ⟨b, o, none⟩)) 7 = ret (.pointer (some ⟨b, o + 7, none⟩)) := by kernel_rfl
@[simp] theorem fa_104_3 (b o : Nat) : aFieldAddr Tryz.prog 104 (.pointer (some ⟨b, o, none⟩)) 3 = ret (.pointer (some ⟨b, o + 3, none⟩)) := by kernel_rfl
@[simp] theorem fa_104_4 (b o : Nat) : aFieldAddr Tryz.prog 104 (.pointer (some ⟨b, o, none⟩)) 4 = ret (.pointer (some ⟨b, o + 4, none⟩)) := by kernel_rfl
@[simp] theorem bs_22_12 : bsCells Tryz.prog 22 12 = some (3, 1, [.int .i64 0, .int .i64 0, .int .i64 0, .int .i64 0, .int .i64 0, .int .i64 0, .int .i64 0, .int .i64 0, .int .i64 0, .int .i64 0, .int .i64 0, .int .i64 0]) := by kernel_rfl
@[simp] theorem ag_45 : aggB Tryz.prog 45 = some false := by kernel_rfl
@[simp] theorem cl_41 : callable Tryz.prog 41 = true := by kernel_rfl
@[simp] theorem ln_46 (a : Option Addr) (n c : Nat) : aLen Tryz.prog 46 (.slice a n c) = ret (.int .i64 n) := by kernel_rfl
@[simp] theorem ia_46 (b o n c : Nat) (i : Int) (h : 0 ≤ i ∧ i < n) : aIndexAddr Tryz.prog 46 (.slice (some ⟨b, o, none⟩) n c) (.int .i64 i) = ret (.pointer (some ⟨b, o + i.toNat * 2, none⟩)) := (show _ = ite (0 ≤ i ∧ i < (n : Int)) (ret _) fail by kernel_rfl).trans (if_pos h)
@[simp] theorem ag_113 : aggB Tryz.prog 113 = some true := by kernel_rfl
@[simp] theorem sz_113 : szOf Tryz.prog 113 = some 2 := by kernel_rfl
@[simp] theorem zr_113 : zeroOf Tryz.prog 113 = some (.agg #[.slice none 0 0, .slice none 0 0]) := by kernel_rfl
@[simp] theorem fa_113_0 (b o : Nat) : aFieldAddr Tryz.prog 113 (.pointer (some ⟨b, o, none⟩)) 0 = ret (.pointer (some ⟨b, o + 0, none⟩)) := by kernel_rfl
@[simp] theorem ag_60 : aggB Tryz.prog 60 = some false := by kernel_rfl
@[simp] theorem sz_60 : szOf Tryz.prog 60 = some 1 := by kernel_rfl
@[simp] theorem fa_113_1 (b o : Nat) : aFieldAddr Tryz.prog 113 (.pointer (some ⟨b, o, none⟩)) 1 = ret (.pointer (some ⟨b, o + 1, none⟩)) := by kernel_rfl
@[simp] theorem cl_42 : callable Tryz.prog 42 = true := by kernel_rfl
@[simp] theorem zr_25 : zeroOf Tryz.prog 25 = some (.slice none 0 0) := by kernel_rfl
@[simp] theorem zr_3 : zeroOf Tryz.prog 3 = some (.int .i64 0) := by kernel_rfl
@[simp] theorem zr_4 : zeroOf Tryz.prog 4 = some (.bool false) := by kernel_rfl
@[simp] theorem cl_43 : callable Tryz.prog 43 = true := by kernel_rfl
@[simp] theorem ag_25 : aggB Tryz.prog 25 = some false := by kernel_rfl
@[simp] theorem sz_25 : szOf Tryz.prog 25 = some 1 := by kernel_rfl
@[simp] theorem sz_4 : szOf Tryz.prog 4 = some 1 := by kernel_rfl
@[simp] theorem ag_4 : aggB Tryz.prog 4 = some false := by kernel_rfl
@[simp] theorem cl_46 : callable Tryz.prog 46 = true := by kernel_rfl
@[simp] theorem ag_28 : aggB Tryz.prog 28 = some false := by kernel_rfl
@[simp] theorem sz_28 : szOf Tryz.prog 28 = some 1 := by kernel_rfl
@[simp] theorem fa_58_1 (b o : Nat) : aFieldAddr Tryz.prog 58 (.pointer (some ⟨b, o, none⟩)) 1 = ret (.pointer (some ⟨b, o + 1, none⟩)) := by kernel_rfl
@[simp] theorem cl_47 : callable Tryz.prog 47 = true := by kernel_rfl
@[simp] theorem cl_48 : callable Tryz.prog 48 = true := by kernel_rfl
@[simp] theorem ln_122 (a : Option Addr) (n c : Nat) : aLen Tryz.prog 122 (.slice a n c) = ret (.int .i64 n) := by kernel_rfl
@[simp] theorem ia_122 (b o n c : Nat) (i : Int) (h : 0 ≤ i ∧ i < n) : aIndexAddr Tryz.prog 122 (.slice (some ⟨b, o, none⟩) n c) (.int .i64 i) = ret (.pointer (some ⟨b, o + i.toNat * 2, none⟩)) := (show _ = ite (0 ≤ i ∧ i < (n : Int)) (ret _) fail by kernel_rfl).trans (if_pos h)
@[simp] theorem ag_126 : aggB Tryz.prog 126 = some true := by kernel_rfl
@[simp] theorem sz_126 : szOf Tryz.prog 126 = some 2 := by kernel_rfl
@[simp] theorem zr_126 : zeroOf Tryz.prog 126 = some (.agg #[.string ⟨#[]⟩, .nilFunc]) := by kernel_rfl
@[simp] theorem fa_126_0 (b o : Nat) : aFieldAddr Tryz.prog 126 (.pointer (some ⟨b, o, none⟩)) 0 = ret (.pointer (some ⟨b, o + 0, none⟩)) := by kernel_rfl
@[simp] theorem fa_126_1 (b o : Nat) : aFieldAddr Tryz.prog 126 (.pointer (some ⟨b, o, none⟩)) 1 = ret (.pointer (some ⟨b, o + 1, none⟩)) := by kernel_rfl
@[simp] theorem ag_124 : aggB Tryz.prog 124 = some false := by kernel_rfl
@[simp] theorem sz_124 : szOf Tryz.prog 124 = some 1 := by kernel_rfl
@[simp] theorem bs_60_0 : bsCells Tryz.prog 60 0 = some (9, 1, []) := by kernel_rfl
@[simp] theorem cl_49 : callable Tryz.prog 49 = true := by kernel_rfl
@[simp] theorem bu_62 : stat Tryz.prog (bInfo 62) = some (#[(0, 1), (1, 1), (2, 1), (3, 1)], none, [.string ⟨#[]⟩, .slice none 0 0, .string ⟨#[]⟩, .string ⟨#[]⟩].toArray) := by kernel_rfl
@[simp] theorem fa_62_2 (b o : Nat) : aFieldAddr Tryz.prog 62 (.pointer (some ⟨b, o, none⟩)) 2 = ret (.pointer (some ⟨b, o + 2, none⟩)) := by kernel_rfl
@[simp] theorem cl_50 : callable Tryz.prog 50 = true := by kernel_rfl
@[simp] theorem fa_62_3 (b o : Nat) : aFieldAddr Tryz.prog 62 (.pointer (some ⟨b, o, none⟩)) 3 = ret (.pointer (some ⟨b, o + 3, none⟩)) := by kernel_rfl
@[simp] theorem cl_51 : callable Tryz.prog 51 = true := by kernel_rfl
@[simp] theorem fa_62_1 (b o : Nat) : aFieldAddr Tryz.prog 62 (.pointer (some ⟨b, o, none⟩)) 1 = ret (.pointer (some ⟨b, o + 1, none⟩)) := by kernel_rfl
@[simp] theorem ap_22 : apInfo Tryz.prog 22 = some (3, 1, 8) := by kernel_rfl
@[simp] theorem cl_52 : callable Tryz.prog 52 = true := by kernel_rfl
@[simp] theorem cl_53 : callable Tryz.prog 53 = true := by kernel_rfl
@[simp] theorem fa_68_1 (b o : Nat) : aFieldAddr Tryz.prog 68 (.pointer (some ⟨b, o, none⟩)) 1 = ret (.pointer (some ⟨b, o + 1, none⟩)) := by kernel_rfl
@[simp] theorem ag_66 : aggB Tryz.prog 66 = some false := by kernel_rfl
@[simp] theorem sz_66 : szOf Tryz.prog 66 = some 1 := by kernel_rfl
@[simp] theorem el_66 : elemT Tryz.prog 66 = some 5 := by kernel_rfl
@[simp] theorem ln_66 (a : Option Addr) (n c : Nat) : aLen Tryz.prog 66 (.slice a n c) = ret (.int .i64 n) := by kernel_rfl
@[simp] theorem ui_5 : Tryz.prog.underlying 5 = some (.int .u8) := by kernel_rfl
@[simp] theorem bs_66_1 : bsCells Tryz.prog 66 1 = some (5, 1, [.int .u8 0]) := by kernel_rfl
@[simp] theorem cl_54 : callable Tryz.prog 54 = true := by kernel_rfl
@[simp] theorem cl_55 : callable Tryz.prog 55 = true := by kernel_rfl
@[simp] theorem el_60 : elemT Tryz.prog 60 = some 9 := by kernel_rfl
@[simp] theorem ag_84 : aggB Tryz.prog 84 = some true := by kernel_rfl
@[simp] theorem sz_84 : szOf Tryz.prog 84 = some 23 := by kernel_rfl
@[simp] theorem cl_56 : callable Tryz.prog 56 = true := by kernel_rfl
@[simp] theorem cl_57 : callable Tryz.prog 57 = true := by kernel_rfl
@[simp] theorem bu_139 : stat Tryz.prog (bInfo 139) = some (#[(0, 1), (1, 4)], none, [.pointer none, .pointer none, .pointer none, .pointer none, .pointer none].toArray) := by kernel_rfl
@[simp] theorem zr_139 : zeroOf Tryz.prog 139 = some (.agg #[.pointer none, .pointer none, .pointer none, .pointer none, .pointer none]) := by kernel_rfl
@[simp] theorem fa_84_0 (b o : Nat) : aFieldAddr Tryz.prog 84 (.pointer (some ⟨b, o, none⟩)) 0 = ret (.pointer (some ⟨b, o + 0, none⟩)) := by kernel_rfl
@[simp] theorem ag_82 : aggB Tryz.prog 82 = some true := by kernel_rfl
@[simp] theorem sz_82 : szOf Tryz.prog 82 = some 22 := by kernel_rfl
@[simp] theorem ix_82 (cs : Array Value) (i : Int) (h : 0 ≤ i ∧ i < 2) : aIndex Tryz.prog 82 (.agg cs) (.int .i64 i) = ofOpt (some (.agg (cs.extract (i.toNat * 11) (i.toNat * 11 + 11)))) := (show _ = ite (0 ≤ i ∧ i < 2) (ofOpt _) fail by kernel_rfl).trans (if_pos h)
@[simp] theorem cl_58 : callable Tryz.prog 58 = true := by kernel_rfl
@[simp] theorem fa_84_1 (b o : Nat) : aFieldAddr Tryz.prog 84 (.pointer (some ⟨b, o, none⟩)) 1 = ret (.pointer (some ⟨b, o + 22, none⟩)) := by kernel_rfl
@[simp] theorem cl_59 : callable Tryz.prog 59 = true := by kernel_rfl
@[simp] theorem bu_136 : stat Tryz.prog (bInfo 136) = some (#[(0, 1), (1, 1)], none, [.pointer none, .pointer none].toArray) := by kernel_rfl
@[simp] theorem zr_136 : zeroOf Tryz.prog 136 = some (.agg #[.pointer none, .pointer none]) := by kernel_rfl
@[simp] theorem fa_139_1 (b o : Nat) : aFieldAddr Tryz.prog 139 (.pointer (some ⟨b, o, none⟩)) 1 = ret (.pointer (some ⟨b, o + 1, none⟩)) := by kernel_rfl
@[simp] theorem ia_137 (b o : Nat) (i : Int) (h : 0 ≤ i ∧ i < 2) : aIndexAddr Tryz.prog 137 (.pointer (some ⟨b, o, none⟩)) (.int .i64 i) = ret (.pointer (some ⟨b, o + i.toNat * 2, none⟩)) := (show _ = ite (0 ≤ i ∧ i < 2) (ret _) fail by kernel_rfl).trans (if_pos h)
@[simp] theorem sz_136 : szOf Tryz.prog 136 = some 2 := by kernel_rfl
@[simp] theorem bs_60_11 : bsCells Tryz.prog 60 11 = some (9, 1, [.string ⟨#[]⟩, .string ⟨#[]⟩, .string ⟨#[]⟩, .string ⟨#[]⟩, .string ⟨#[]⟩, .string ⟨#[]⟩, .string ⟨#[]⟩, .string ⟨#[]⟩, .string ⟨#[]⟩, .string ⟨#[]⟩, .string ⟨#[]⟩]) := by kernel_rfl
@[simp] theorem cl_60 : callable Tryz.prog 60 = true := by kernel_rfl
@[simp] theorem fa_136_0 (b o : Nat) : aFieldAddr Tryz.prog 136 (.pointer (some ⟨b, o, none⟩)) 0 = ret (.pointer (some ⟨b, o + 0, none⟩)) := by kernel_rfl
@[simp] theorem ag_108 : aggB Tryz.prog 108 = some false := by kernel_rfl
@[simp] theorem sz_108 : szOf Tryz.prog 108 = some 1 := by kernel_rfl
@[simp] theorem cl_61 : callable Tryz.prog 61 = true := by kernel_rfl
@[simp] theorem bu_154 : stat Tryz.prog (bInfo 154) = some (#[(0, 1), (1, 1), (2, 8), (10, 5), (15, 3)], none, [.int .i64 0, .int .i64 0, .int .i64 0, .int .i64 0, .int .u32 0, .int .u32 0, .int .u32 0, .slice none 0 0, .bool false, .string ⟨#[]⟩, .int .i64 0, .string ⟨#[]⟩, .bool false, .int .u8 0, .int .i64 0, .int .i64 0, .string ⟨#[]⟩, .int .i64 0].toArray) := by kernel_rfl
@[simp] theorem zr_154 : zeroOf Tryz.prog 154 = some (.agg #[.int .i64 0, .int .i64 0, .int .i64 0, .int .i64 0, .int .u32 0, .int .u32 0, .int .u32 0, .slice none 0 0, .bool false, .string ⟨#[]⟩, .int .i64 0, .string ⟨#[]⟩, .bool false, .int .u8 0, .int .i64 0, .int .i64 0, .string ⟨#[]⟩, .int .i64 0]) := by kernel_rfl
@[simp] theorem bs_90_1 : bsCells Tryz.prog 90 1 = some (154, 18, [.int .i64 0, .int .i64 0, .int .i64 0, .int .i64 0, .int .u32 0, .int .u32 0, .int .u32 0, .slice none 0 0, .bool false, .string ⟨#[]⟩, .int .i64 0, .string ⟨#[]⟩, .bool false, .int .u8 0, .int .i64 0, .int .i64 0, .string ⟨#[]⟩, .int .i64 0]) := by kernel_rfl
@[simp] theorem cl_63 : callable Tryz.prog 63 = true := by kernel_rfl
@[simp] theorem cl_62 : callable Tryz.prog 62 = true := by kernel_rfl
@[simp] theorem cl_64 : callable Tryz.prog 64 = true := by kernel_rfl
@[simp] theorem ln_90 (a : Option Addr) (n c : Nat) : aLen Tryz.prog 90 (.slice a n c) = ret (.int .i64 n) := by kernel_rfl
@[simp] theorem ia_90 (b o n c : Nat) (i : Int) (h : 0 ≤ i ∧ i < n) : aIndexAddr Tryz.prog 90 (.slice (some ⟨b, o, none⟩) n c) (.int .i64 i) = ret (.pointer (some ⟨b, o + i.toNat * 18, none⟩)) := (show _ = ite (0 ≤ i ∧ i < (n : Int)) (ret _) fail by kernel_rfl).trans (if_pos h)
@[simp] theorem ag_154 : aggB Tryz.prog 154 = some true := by kernel_rfl
@[simp] theorem sz_154 : szOf Tryz.prog 154 = some 18 := by kernel_rfl
@[simp] theorem cl_65 : callable Tryz.prog 65 = true := by kernel_rfl
@[simp] theorem ag_137 : aggB Tryz.prog 137 = some true := by kernel_rfl
@[simp] theorem sz_137 : szOf Tryz.prog 137 = some 4 := by kernel_rfl
@[simp] theorem ix_137 (cs : Array Value) (i : Int) (h : 0 ≤ i ∧ i < 2) : aIndex Tryz.prog 137 (.agg cs) (.int .i64 i) = ofOpt (some (.agg (cs.extract (i.toNat * 2) (i.toNat * 2 + 2)))) := (show _ = ite (0 ≤ i ∧ i < 2) (ofOpt _) fail by kernel_rfl).trans (if_pos h)
@[simp] theorem cl_66 : callable Tryz.prog 66 = true := by kernel_rfl
@[simp] theorem fa_136_1 (b o : Nat) : aFieldAddr Tryz.prog 136 (.pointer (some ⟨b, o, none⟩)) 1 = ret (.pointer (some ⟨b, o + 1, none⟩)) := by kernel_rfl
@[simp] theorem ag_134 : aggB Tryz.prog 134 = some false := by kernel_rfl
@[simp] theorem sz_134 : szOf Tryz.prog 134 = some 1 := by kernel_rfl
@[simp] theorem cl_67 : callable Tryz.prog 67 = true := by kernel_rfl
@[simp] theorem fa_139_0 (b o : Nat) : aFieldAddr Tryz.prog 139 (.pointer (some ⟨b, o, none⟩)) 0 = ret (.pointer (some ⟨b, o + 0, none⟩)) := by kernel_rfl
@[simp] theorem ag_132 : aggB Tryz.prog 132 = some false := by kernel_rfl
@[simp] theorem sz_132 : szOf Tryz.prog 132 = some 1 := by kernel_rfl
@[simp] theorem cl_68 : callable Tryz.prog 68 = true := by kernel_rfl
@[simp] theorem zr_150 : zeroOf Tryz.prog 150 = some (.agg #[.int .i64 0, .int .i64 0, .int .u32 0, .int .u32 0, .int .u32 0, .slice none 0 0, .bool false, .string ⟨#[]⟩]) := by kernel_rfl
@[simp] theorem sz_150 : szOf Tryz.prog 150 = some 8 := by kernel_rfl
@[simp] theorem cl_69 : callable Tryz.prog 69 = true := by kernel_rfl
@[simp] theorem ag_150 : aggB Tryz.prog 150 = some true := by kernel_rfl
@[simp] theorem cl_70 : callable Tryz.prog 70 = true := by kernel_rfl
@[simp] theorem cl_71 : callable Tryz.prog 71 = true := by kernel_rfl
@[simp] theorem cl_72 : callable Tryz.prog 72 = true := by kernel_rfl
@[simp] theorem cl_73 : callable Tryz.prog 73 = true := by kernel_rfl
@[simp] theorem fa_173_1 (b o : Nat) : aFieldAddr Tryz.prog 173 (.pointer (some ⟨b, o, none⟩)) 1 = ret (.pointer (some ⟨b, o + 11, none⟩)) := by kernel_rfl
@[simp] theorem ag_166 : aggB Tryz.prog 166 = some false := by kernel_rfl
@[simp] theorem sz_166 : szOf Tryz.prog 166 = some 1 := by kernel_rfl
@[simp] theorem cl_74 : callable Tryz.prog 74 = true := by kernel_rfl
@[simp] theorem fa_173_5 (b o : Nat) : aFieldAddr Tryz.prog 173 (.pointer (some ⟨b, o, none⟩)) 5 = ret (.pointer (some ⟨b, o + 15, none⟩)) := by kernel_rfl
@[simp] theorem ag_170 : aggB Tryz.prog 170 = some false := by kernel_rfl
@[simp] theorem sz_170 : szOf Tryz.prog 170 = some 1 := by kernel_rfl
@[simp] theorem ln_170 (a : Option Addr) (n c : Nat) : aLen Tryz.prog 170 (.slice a n c) = ret (.int .i64 n) := by kernel_rfl
@[simp] theorem fa_173_6 (b o : Nat) : aFieldAddr Tryz.prog 173 (.pointer (some ⟨b, o, none⟩)) 6 = ret (.pointer (some ⟨b, o + 16, none⟩)) := by kernel_rfl
@[simp] theorem ag_171 : aggB Tryz.prog 171 = some false := by kernel_rfl
@[simp] theorem sz_171 : szOf Tryz.prog 171 = some 1 := by kernel_rfl
@[simp] theorem cl_75 : callable Tryz.prog 75 = true := by kernel_rfl
@[simp] theorem fa_173_11 (b o : Nat) : aFieldAddr Tryz.prog 173 (.pointer (some ⟨b, o, none⟩)) 11 = ret (.pointer (some ⟨b, o + 21, none⟩)) := by kernel_rfl
@[simp] theorem fa_173_7 (b o : Nat) : aFieldAddr Tryz.prog 173 (.pointer (some ⟨b, o, none⟩)) 7 = ret (.pointer (some ⟨b, o + 17, none⟩)) := by kernel_rfl
@[simp] theorem fa_173_8 (b o : Nat) : aFieldAddr Tryz.prog 173 (.pointer (some ⟨b, o, none⟩)) 8 = ret (.pointer (some ⟨b, o + 18, none⟩)) := by kernel_rfl
@[simp] theorem fa_173_10 (b o : Nat) : aFieldAddr Tryz.prog 173 (.pointer (some ⟨b, o, none⟩)) 10 = ret (.pointer (some ⟨b, o + 20, none⟩)) := by kernel_rfl
@[simp] theorem bu_107 : stat Tryz.prog (bInfo 107) = some (#[(0, 5), (5, 9), (14, 6), (20, 1), (21, 1), (22, 1), (23, 1), (24, 1), (25, 1), (26, 5)], none, [.int .i64 0, .int .i64 0, .int .i64 0, .int .i64 0, .int .u32 0, .int .u32 0, .int .u32 0, .int .u32 0, .int .u32 0, .int .u32 0, .int .i64 0, .int .i64 0, .int .i64 0, .slice none 0 0, .int .u32 0, .int .u32 0, .int .u32 0, .int .i64 0, .int .i64 0, .int .i64 0, .int .i64 0, .int .i64 0, .int .i64 0, .bool false, .bool false, .bool false, .int .i64 0, .int .i64 0, .int .i64 0, .int .i64 0, .int .i64 0].toArray) := by kernel_rfl
@[simp] theorem cl_76 : callable Tryz.prog 76 = true := by kernel_rfl
@[simp] theorem fa_173_3 (b o : Nat) : aFieldAddr Tryz.prog 173 (.pointer (some ⟨b, o, none⟩)) 3 = ret (.pointer (some ⟨b, o + 13, none⟩)) := by kernel_rfl
@[simp] theorem ag_168 : aggB Tryz.prog 168 = some false := by kernel_rfl
@[simp] theorem sz_168 : szOf Tryz.prog 168 = some 1 := by kernel_rfl
@[simp] theorem cl_77 : callable Tryz.prog 77 = true := by kernel_rfl
@[simp] theorem fa_173_4 (b o : Nat) : aFieldAddr Tryz.prog 173 (.pointer (some ⟨b, o, none⟩)) 4 = ret (.pointer (some ⟨b, o + 14, none⟩)) := by kernel_rfl
@[simp] theorem ag_169 : aggB Tryz.prog 169 = some false := by kernel_rfl
@[simp] theorem sz_169 : szOf Tryz.prog 169 = some 1 := by kernel_rfl
@[simp] theorem cl_78 : callable Tryz.prog 78 = true := by kernel_rfl
@[simp] theorem sz_102 : szOf Tryz.prog 102 = some 9 := by kernel_rfl
@[simp] theorem sz_104 : szOf Tryz.prog 104 = some 6 := by kernel_rfl
@[simp] theorem fa_173_2 (b o : Nat) : aFieldAddr Tryz.prog 173 (.pointer (some ⟨b, o, none⟩)) 2 = ret (.pointer (some ⟨b, o + 12, none⟩)) := by kernel_rfl
@[simp] theorem ag_167 : aggB Tryz.prog 167 = some false := by kernel_rfl
@[simp] theorem sz_167 : szOf Tryz.prog 167 = some 1 := by kernel_rfl
@[simp] theorem fa_182_0 (b o : Nat) : aFieldAddr Tryz.prog 182 (.pointer (some ⟨b, o, none⟩)) 0 = ret (.pointer (some ⟨b, o + 0, none⟩)) := by kernel_rfl
@[simp] theorem cl_79 : callable Tryz.prog 79 = true := by kernel_rfl
@[simp] theorem fa_107_9 (b o : Nat) : aFieldAddr Tryz.prog 107 (.pointer (some ⟨b, o, none⟩)) 9 = ret (.pointer (some ⟨b, o + 26, none⟩)) := by kernel_rfl
@[simp] theorem ia_105 (b o : Nat) (i : Int) (h : 0 ≤ i ∧ i < 5) : aIndexAddr Tryz.prog 105 (.pointer (some ⟨b, o, none⟩)) (.int .i64 i) = ret (.pointer (some ⟨b, o + i.toNat * 1, none⟩)) := (show _ = ite (0 ≤ i ∧ i < 5) (ret _) fail by kernel_rfl).trans (if_pos h)
@[simp] theorem ag_107 : aggB Tryz.prog 107 = some true := by kernel_rfl
@[simp] theorem bu_183 : stat Tryz.prog (bInfo 183) = some (#[], some 1, [.string ⟨#[]⟩, .string ⟨#[]⟩, .string ⟨#[]⟩, .string ⟨#[]⟩, .string ⟨#[]⟩, .string ⟨#[]⟩, .string ⟨#[]⟩, .string ⟨#[]⟩, .string ⟨#[]⟩, .string ⟨#[]⟩, .string ⟨#[]⟩].toArray) := by kernel_rfl
@[simp] theorem zr_183 : zeroOf Tryz.prog 183 = some (.agg #[.string ⟨#[]⟩, .string ⟨#[]⟩, .string ⟨#[]⟩, .string ⟨#[]⟩, .string ⟨#[]⟩, .string ⟨#[]⟩, .string ⟨#[]⟩, .string ⟨#[]⟩, .string ⟨#[]⟩, .string ⟨#[]⟩, .string ⟨#[]⟩]) := by kernel_rfl
@[simp] theorem ix_183 (cs : Array Value) (i : Int) (h : 0 ≤ i ∧ i < 11) : aIndex Tryz.prog 183 (.agg cs) (.int .i64 i) = ofOpt cs[i.toNat * 1]? := (show _ = ite (0 ≤ i ∧ i < 11) (ofOpt _) fail by kernel_rfl).trans (if_pos h)
@[simp] theorem fa_49_0 (b o : Nat) : aFieldAddr Tryz.prog 49 (.pointer (some ⟨b, o, none⟩)) 0 = ret (.pointer (some ⟨b, o + 0, none⟩)) := by kernel_rfl
@[simp] theorem ia_47 (b o : Nat) (i : Int) (h : 0 ≤ i ∧ i < 2) : aIndexAddr Tryz.prog 47 (.pointer (some ⟨b, o, none⟩)) (.int .i64 i) = ret (.pointer (some ⟨b, o + i.toNat * 1, none⟩)) := (show _ = ite (0 ≤ i ∧ i < 2) (ret _) fail by kernel_rfl).trans (if_pos h)
@[simp] theorem ag_46 : aggB Tryz.prog 46 = some false := by kernel_rfl
@[simp] theorem sz_46 : szOf Tryz.prog 46 = some 1 := by kernel_rfl
@[simp] theorem cl_80 : callable Tryz.prog 80 = true := by kernel_rfl
@[simp] theorem bu_113 : stat Tryz.prog (bInfo 113) = some (#[(0, 1), (1, 1)], none, [.slice none 0 0, .slice none 0 0].toArray) := by kernel_rfl
@[simp] theorem bs_46_1 : bsCells Tryz.prog 46 1 = some (113, 2, [.slice none 0 0, .slice none 0 0]) := by kernel_rfl
@[simp] theorem ap_46 : apInfo Tryz.prog 46 = some (113, 2, 48) := by kernel_rfl
@[simp] theorem cl_81 : callable Tryz.prog 81 = true := by kernel_rfl
@[simp] theorem cl_82 : callable Tryz.prog 82 = true := by kernel_rfl
@[simp] theorem cl_83 : callable Tryz.prog 83 = true := by kernel_rfl
@[simp] theorem cl_84 : callable Tryz.prog 84 = true := by kernel_rfl
@[simp] theorem cl_85 : callable Tryz.prog 85 = true := by kernel_rfl
@[simp] theorem ag_56 : aggB Tryz.prog 56 = some true := by kernel_rfl
@[simp] theorem bu_126 : stat Tryz.prog (bInfo 126) = some (#[(0, 1), (1, 1)], none, [.string ⟨#[]⟩, .nilFunc].toArray) := by kernel_rfl
@[simp] theorem cl_86 : callable Tryz.prog 86 = true := by kernel_rfl
@[simp] theorem cl_89 : callable Tryz.prog 89 = true := by kernel_rfl
@[simp] theorem cl_90 : callable Tryz.prog 90 = true := by kernel_rfl
@[simp] theorem cl_92 : callable Tryz.prog 92 = true := by kernel_rfl
@[simp] theorem cl_93 : callable Tryz.prog 93 = true := by kernel_rfl
@[simp] theorem cl_94 : callable Tryz.prog 94 = true := by kernel_rfl
@[simp] theorem cl_95 : callable Tryz.prog 95 = true := by kernel_rfl
@[simp] theorem cl_96 : callable Tryz.prog 96 = true := by kernel_rfl
@[simp] theorem cl_98 : callable Tryz.prog 98 = true := by kernel_rfl
@[simp] theorem cl_100 : callable Tryz.prog 100 = true := by kernel_rfl
@[simp] theorem cl_102 : callable Tryz.prog 102 = true := by kernel_rfl
@[simp] theorem bs_122_10 : bsCells Tryz.prog 122 10 = some (126, 2, [.string ⟨#[]⟩, .nilFunc, .string ⟨#[]⟩, .nilFunc, .string ⟨#[]⟩, .nilFunc, .string ⟨#[]⟩, .nilFunc, .string ⟨#[]⟩, .nilFunc, .string ⟨#[]⟩, .nilFunc, .string ⟨#[]⟩, .nilFunc, .string ⟨#[]⟩, .nilFunc, .string ⟨#[]⟩, .nilFunc, .string ⟨#[]⟩, .nilFunc]) := by kernel_rfl
@[simp] theorem bs_60_24 : bsCells Tryz.prog 60 24 = some (9, 1, [.string ⟨#[]⟩, .string ⟨#[]⟩, .string ⟨#[]⟩, .string ⟨#[]⟩, .string ⟨#[]⟩, .string ⟨#[]⟩, .string ⟨#[]⟩, .string ⟨#[]⟩, .string ⟨#[]⟩, .string ⟨#[]⟩, .string ⟨#[]⟩, .string ⟨#[]⟩, .string ⟨#[]⟩, .string ⟨#[]⟩, .string ⟨#[]⟩, .string ⟨#[]⟩, .string ⟨#[]⟩, .string ⟨#[]⟩, .string ⟨#[]⟩, .string ⟨#[]⟩, .string ⟨#[]⟩, .string ⟨#[]⟩, .string ⟨#[]⟩, .string ⟨#[]⟩]) := by kernel_rfl
@[simp] theorem bs_66_0 : bsCells Tryz.prog 66 0 = some (5, 1, []) := by kernel_rfl
@[simp] theorem ia_66 (b o n c : Nat) (i : Int) (h : 0 ≤ i ∧ i < n) : aIndexAddr Tryz.prog 66 (.slice (some ⟨b, o, none⟩) n c) (.int .i64 i) = ret (.pointer (some ⟨b, o + i.toNat * 1, none⟩)) := (show _ = ite (0 ≤ i ∧ i < (n : Int)) (ret _) fail by kernel_rfl).trans (if_pos h)
@[simp] theorem ag_5 : aggB Tryz.prog 5 = some false := by kernel_rfl
@[simp] theorem sz_5 : szOf Tryz.prog 5 = some 1 := by kernel_rfl
@[simp] theorem cl_104 : callable Tryz.prog 104 = true := by kernel_rfl
@[simp] theorem fa_68_0 (b o : Nat) : aFieldAddr Tryz.prog 68 (.pointer (some ⟨b, o, none⟩)) 0 = ret (.pointer (some ⟨b, o + 0, none⟩)) := by kernel_rfl
@[simp] theorem ag_65 : aggB Tryz.prog 65 = some false := by kernel_rfl
@[simp] theorem sz_65 : szOf Tryz.prog 65 = some 1 := by kernel_rfl
@[simp] theorem ip_65 : isPtrT Tryz.prog 65 = true := by kernel_rfl
@[simp] theorem cl_106 : callable Tryz.prog 106 = true := by kernel_rfl
@[simp] theorem cl_107 : callable Tryz.prog 107 = true := by kernel_rfl
@[simp] theorem ia_82 (b o : Nat) (i : Int) (h : 0 ≤ i ∧ i < 2) : aIndexAddr Tryz.prog 82 (.pointer (some ⟨b, o, none⟩)) (.int .i64 i) = ret (.pointer (some ⟨b, o + i.toNat * 11, none⟩)) := (show _ = ite (0 ≤ i ∧ i < 2) (ret _) fail by kernel_rfl).trans (if_pos h)
@[simp] theorem fa_78_5 (b o : Nat) : aFieldAddr Tryz.prog 78 (.pointer (some ⟨b, o, none⟩)) 5 = ret (.pointer (some ⟨b, o + 5, none⟩)) := by kernel_rfl
@[simp] theorem cl_108 : callable Tryz.prog 108 = true := by kernel_rfl
@[simp] theorem bu_200 : stat Tryz.prog (bInfo 200) = some (#[(0, 256)], none, [.int .u32 0, .int .u32 0, .int .u32 0, .int .u32 0, .int .u32 0, .int .u32 0, .int .u32 0, .int .u32 0, .int .u32 0, .int .u32 0, .int .u32 0, .int .u32 0, .int .u32 0, .int .u32 0, .int .u32 0, .int .u32 0, .int .u32 0, .int .u32 0, .int .u32 0, .int .u32 0, .int .u32 0, .int .u32 0, .int .u32 0, .int .u32 0, .int .u32 0, .int .u32 0, .int .u32 0, .int .u32 0, .int .u32 0, .int .u32 0, .int .u32 0, .int .u32 0, .int .u32 0, .int .u32 0, .int .u32 0, .int .u32 0, .int .u32 0, .int .u32 0, .int .u32 0, .int .u32 0, .int .u32 0, .int .u32 0, .int .u32 0, .int .u32 0, .int .u32 0, .int .u32 0, .int .u32 0, .int .u32 0, .int .u32 0, .int .u32 0, .int .u32 0, .int .u32 0, .int .u32 0, .int .u32 0, .int .u32 0, .int .u32 0, .int .u32 0, .int .u32 0, .int .u32 0, .int .u32 0, .int .u32 0, .int .u32 0, .int .u32 0, .int .u32 0, .int .u32 0, .int .u32 0, .int .u32 0, .int .u32 0, .int .u32 0, .int .u32 0, .int .u32 0, .int .u32 0, .int .u32 0, .int .u32 0, .int .u32 0, .int .u32 0, .int .u32 0, .int .u32 0, .int .u32 0, .int .u32 0, .int .u32 0, .int .u32 0, .int .u32 0, .int .u32 0, .int .u32 0, .int .u32 0, .int .u32 0, .int .u32 0, .int .u32 0, .int .u32 0, .int .u32 0, .int .u32 0, .int .u32 0, .int .u32 0, .int .u32 0, .int .u32 0, .int .u32 0, .int .u32 0, .int .u32 0, .int .u32 0, .int .u32 0, .int .u32 0, .int .u32 0, .int .u32 0, .int .u32 0, .int .u32 0, .int .u32 0, .int .u32 0, .int .u32 0, .int .u32 0, .int .u32 0, .int .u32 0, .int .u32 0, .int .u32 0, .int .u32 0, .int .u32 0, .int .u32 0, .int .u32 0, .int .u32 0, .int .u32 0, .int .u32 0, .int .u32 0, .int .u32 0, .int .u32 0, .int .u32 0, .int .u32 0, .int .u32 0, .int .u32 0, .int .u32 0, .int .u32 0, .int .u32 0, .int .u32 0, .int .u32 0, .int .u32 0, .int .u32 0, .int .u32 0, .int .u32 0, .int .u32 0, .int .u32 0, .int .u32 0, .int .u32 0, .int .u32 0, .int .u32 0, .int .u32 0, .int .u32 0, .int .u32 0, .int .u32 0, .int .u32 0, .int .u32 0, .int .u32 0, .int .u32 0, .int .u32 0, .int .u32 0, .int .u32 0, .int .u32 0, .int .u32 0, .int .u32 0, .int .u32 0, .int .u32 0, .int .u32 0, .int .u32 0, .int .u32 0, .int .u32 0, .int .u32 0, .int .u32 0, .int .u32 0, .int .u32 0, .int .u32 0, .int .u32 0, .int .u32 0, .int .u32 0, .int .u32 0, .int .u32 0, .int .u32 0, .int .u32 0, .int .u32 0, .int .u32 0, .int .u32 0, .int .u32 0, .int .u32 0, .int .u32 0, .int .u32 0, .int .u32 0, .int .u32 0, .int .u32 0, .int .u32 0, .int .u32 0, .int .u32 0, .int .u32 0, .int .u32 0, .int .u32 0, .int .u32 0, .int .u32 0, .int .u32 0, .int .u32 0, .int .u32 0, .int .u32 0, .int .u32 0, .int .u32 0, .int .u32 0, .int .u32 0, .int .u32 0, .int .u32 0, .int .u32 0, .int .u32 0, .int .u32 0, .int .u32 0, .int .u32 0, .int .u32 0, .int .u32 0, .int .u32 0, .int .u32 0, .int .u32 0, .int .u32 0, .int .u32 0, .int .u32 0, .int .u32 0, .int .u32 0, .int .u32 0, .int .u32 0, .int .u32 0, .int .u32 0, .int .u32 0, .int .u32 0, .int .u32 0, .int .u32 0, .int .u32 0, .int .u32 0, .int .u32 0, .int .u32 0, .int .u32 0, .int .u32 0, .int .u32 0, .int .u32 0, .int .u32 0, .int .u32 0, .int .u32 0, .int .u32 0, .int .u32 0, .int .u32 0, .int .u32 0, .int .u32 0, .int .u32 0, .int .u32 0, .int .u32 0, .int .u32 0, .int .u32 0, .int .u32 0, .int .u32 0, .int .u32 0, .int .u32 0, .int .u32 0, .int .u32 0, .int .u32 0, .int .u32 0, .int .u32 0].toArray) := by kernel_rfl
@[simp] theorem zr_200 : zeroOf Tryz.prog 200 = some (.agg #[.int .u32 0, .int .u32 0, .int .u32 0, .int .u32 0, .int .u32 0, .int .u32 0, .int .u32 0, .int .u32 0, .int .u32 0, .int .u32 0, .int .u32 0, .int .u32 0, .int .u32 0, .int .u32 0, .int .u32 0, .int .u32 0, .int .u32 0, .int .u32 0, .int .u32 0, .int .u32 0, .int .u32 0, .int .u32 0, .int .u32 0, .int .u32 0, .int .u32 0, .int .u32 0, .int .u32 0, .int .u32 0, .int .u32 0, .int .u32 0, .int .u32 0, .int .u32 0, .int .u32 0, .int .u32 0, .int .u32 0, .int .u32 0, .int .u32 0, .int .u32 0, .int .u32 0, .int .u32 0, .int .u32 0, .int .u32 0, .int .u32 0, .int .u32 0, .int .u32 0, .int .u32 0, .int .u32 0, .int .u32 0, .int .u32 0, .int .u32 0, .int .u32 0, .int .u32 0, .int .u32 0, .int .u32 0, .int .u32 0, .int .u32 0, .int .u32 0, .int .u32 0, .int .u32 0, .int .u32 0, .int .u32 0, .int .u32 0, .int .u32 0, .int .u32 0, .int .u32 0, .int .u32 0, .int .u32 0, .int .u32 0, .int .u32 0, .int .u32 0, .int .u32 0, .int .u32 0, .int .u32 0, .int .u32 0, .int .u32 0, .int .u32 0, .int .u32 0, .int .u32 0, .int .u32 0, .int .u32 0, .int .u32 0, .int .u32 0, .int .u32 0, .int .u32 0, .int .u32 0, .int .u32 0, .int .u32 0, .int .u32 0, .int .u32 0, .int .u32 0, .int .u32 0, .int .u32 0, .int .u32 0, .int .u32 0, .int .u32 0, .int .u32 0, .int .u32 0, .int .u32 0, .int .u32 0, .int .u32 0, .int .u32 0, .int .u32 0, .int .u32 0, .int .u32 0, .int .u32 0, .int .u32 0, .int .u32 0, .int .u32 0, .int .u32 0, .int .u32 0, .int .u32 0, .int .u32 0, .int .u32 0, .int .u32 0, .int .u32 0, .int .u32 0, .int .u32 0, .int .u32 0, .int .u32 0, .int .u32 0, .int .u32 0, .int .u32 0, .int .u32 0, .int .u32 0, .int .u32 0, .int .u32 0, .int .u32 0, .int .u32 0, .int .u32 0, .int .u32 0, .int .u32 0, .int .u32 0, .int .u32 0, .int .u32 0, .int .u32 0, .int .u32 0, .int .u32 0, .int .u32 0, .int .u32 0, .int .u32 0, .int .u32 0, .int .u32 0, .int .u32 0, .int .u32 0, .int .u32 0, .int .u32 0, .int .u32 0, .int .u32 0, .int .u32 0, .int .u32 0, .int .u32 0, .int .u32 0, .int .u32 0, .int .u32 0, .int .u32 0, .int .u32 0, .int .u32 0, .int .u32 0, .int .u32 0, .int .u32 0, .int .u32 0, .int .u32 0, .int .u32 0, .int .u32 0, .int .u32 0, .int .u32 0, .int .u32 0, .int .u32 0, .int .u32 0, .int .u32 0, .int .u32 0, .int .u32 0, .int .u32 0, .int .u32 0, .int .u32 0, .int .u32 0, .int .u32 0, .int .u32 0, .int .u32 0, .int .u32 0, .int .u32 0, .int .u32 0, .int .u32 0, .int .u32 0, .int .u32 0, .int .u32 0, .int .u32 0, .int .u32 0, .int .u32 0, .int .u32 0, .int .u32 0, .int .u32 0, .int .u32 0, .int .u32 0, .int .u32 0, .int .u32 0, .int .u32 0, .int .u32 0, .int .u32 0, .int .u32 0, .int .u32 0, .int .u32 0, .int .u32 0, .int .u32 0, .int .u32 0, .int .u32 0, .int .u32 0, .int .u32 0, .int .u32 0, .int .u32 0, .int .u32 0, .int .u32 0, .int .u32 0, .int .u32 0, .int .u32 0, .int .u32 0, .int .u32 0, .int .u32 0, .int .u32 0, .int .u32 0, .int .u32 0, .int .u32 0, .int .u32 0, .int .u32 0, .int .u32 0, .int .u32 0, .int .u32 0, .int .u32 0, .int .u32 0, .int .u32 0, .int .u32 0, .int .u32 0, .int .u32 0, .int .u32 0, .int .u32 0, .int .u32 0, .int .u32 0, .int .u32 0, .int .u32 0, .int .u32 0, .int .u32 0, .int .u32 0, .int .u32 0, .int .u32 0, .int .u32 0, .int .u32 0, .int .u32 0, .int .u32 0, .int .u32 0, .int .u32 0, .int .u32 0, .int .u32 0, .int .u32 0, .int .u32 0, .int .u32 0, .int .u32 0]) := by kernel_rfl
@[simp] theorem fa_78_6 (b o : Nat) : aFieldAddr Tryz.prog 78 (.pointer (some ⟨b, o, none⟩)) 6 = ret (.pointer (some ⟨b, o + 6, none⟩)) := by kernel_rfl
@[simp] theorem cl_109 : callable Tryz.prog 109 = true := by kernel_rfl
@[simp] theorem fa_78_0 (b o : Nat) : aFieldAddr Tryz.prog 78 (.pointer (some ⟨b, o, none⟩)) 0 = ret (.pointer (some ⟨b, o + 0, none⟩)) := by kernel_rfl
@[simp] theorem cl_111 : callable Tryz.prog 111 = true := by kernel_rfl
@[simp] theorem bu_206 : stat Tryz.prog (bInfo 206) = some (#[(0, 1), (1, 1)], none, [.int .i64 0, .int .u32 0].toArray) := by kernel_rfl
@[simp] theorem zr_206 : zeroOf Tryz.prog 206 = some (.agg #[.int .i64 0, .int .u32 0]) := by kernel_rfl
@[simp] theorem cl_110 : callable Tryz.prog 110 = true := by kernel_rfl
@[simp] theorem fa_78_3 (b o : Nat) : aFieldAddr Tryz.prog 78 (.pointer (some ⟨b, o, none⟩)) 3 = ret (.pointer (some ⟨b, o + 3, none⟩)) := by kernel_rfl
@[simp] theorem cl_112 : callable Tryz.prog 112 = true := by kernel_rfl
@[simp] theorem bu_173 : stat Tryz.prog (bInfo 173) = some (#[(0, 11), (11, 1), (12, 1), (13, 1), (14, 1), (15, 1), (16, 1), (17, 1), (18, 1), (19, 1), (20, 1), (21, 1)], none, [.int .i64 0, .int .i64 0, .int .i64 0, .int .i64 0, .int .i64 0, .int .u32 0, .int .i64 0, .int .i64 0, .int .i64 0, .int .i64 0, .int .i64 0, .pointer none, .pointer none, .pointer none, .pointer none, .slice none 0 0, .pointer none, .bool false, .bool false, .int .u32 0, .bool false, .slice none 0 0].toArray) := by kernel_rfl
@[simp] theorem zr_173 : zeroOf Tryz.prog 173 = some (.agg #[.int .i64 0, .int .i64 0, .int .i64 0, .int .i64 0, .int .i64 0, .int .u32 0, .int .i64 0, .int .i64 0, .int .i64 0, .int .i64 0, .int .i64 0, .pointer none, .pointer none, .pointer none, .pointer none, .slice none 0 0, .pointer none, .bool false, .bool false, .int .u32 0, .bool false, .slice none 0 0]) := by kernel_rfl
@[simp] theorem cl_113 : callable Tryz.prog 113 = true := by kernel_rfl
@[simp] theorem bu_211 : stat Tryz.prog (bInfo 211) = some (#[(0, 1), (1, 1), (2, 1), (3, 1)], none, [.pointer none, .int .i64 0, .int .i64 0, .int .i64 0].toArray) := by kernel_rfl
@[simp] theorem zr_211 : zeroOf Tryz.prog 211 = some (.agg #[.pointer none, .int .i64 0, .int .i64 0, .int .i64 0]) := by kernel_rfl
@[simp] theorem cl_114 : callable Tryz.prog 114 = true := by kernel_rfl
@[simp] theorem ff_99_0 (cs : Array Value) : aField Tryz.prog 99 (.agg cs) 0 = ofOpt cs[0]? := by kernel_rfl
@[simp] theorem fa_86_0 (b o : Nat) : aFieldAddr Tryz.prog 86 (.pointer (some ⟨b, o, none⟩)) 0 = ret (.pointer (some ⟨b, o + 0, none⟩)) := by kernel_rfl
@[simp] theorem cl_115 : callable Tryz.prog 115 = true := by kernel_rfl
@[simp] theorem cl_116 : callable Tryz.prog 116 = true := by kernel_rfl
@[simp] theorem cl_117 : callable Tryz.prog 117 = true := by kernel_rfl
@[simp] theorem fa_211_0 (b o : Nat) : aFieldAddr Tryz.prog 211 (.pointer (some ⟨b, o, none⟩)) 0 = ret (.pointer (some ⟨b, o + 0, none⟩)) := by kernel_rfl
@[simp] theorem ag_208 : aggB Tryz.prog 208 = some false := by kernel_rfl
@[simp] theorem sz_208 : szOf Tryz.prog 208 = some 1 := by kernel_rfl
@[simp] theorem cl_118 : callable Tryz.prog 118 = true := by kernel_rfl
@[simp] theorem cl_119 : callable Tryz.prog 119 = true := by kernel_rfl
@[simp] theorem cl_120 : callable Tryz.prog 120 = true := by kernel_rfl
@[simp] theorem cl_121 : callable Tryz.prog 121 = true := by kernel_rfl
@[simp] theorem ln_144 (a : Option Addr) (n c : Nat) : aLen Tryz.prog 144 (.slice a n c) = ret (.int .i64 n) := by kernel_rfl
@[simp] theorem ia_144 (b o n c : Nat) (i : Int) (h : 0 ≤ i ∧ i < n) : aIndexAddr Tryz.prog 144 (.slice (some ⟨b, o, none⟩) n c) (.int .i64 i) = ret (.pointer (some ⟨b, o + i.toNat * 5, none⟩)) := (show _ = ite (0 ≤ i ∧ i < (n : Int)) (ret _) fail by kernel_rfl).trans (if_pos h)
@[simp] theorem ag_152 : aggB Tryz.prog 152 = some true := by kernel_rfl
@[simp] theorem sz_152 : szOf Tryz.prog 152 = some 5 := by kernel_rfl
@[simp] theorem zr_152 : zeroOf Tryz.prog 152 = some (.agg #[.int .i64 0, .string ⟨#[]⟩, .bool false, .int .u8 0, .int .i64 0]) := by kernel_rfl
@[simp] theorem fa_154_0 (b o : Nat) : aFieldAddr Tryz.prog 154 (.pointer (some ⟨b, o, none⟩)) 0 = ret (.pointer (some ⟨b, o + 0, none⟩)) := by kernel_rfl
@[simp] theorem cl_122 : callable Tryz.prog 122 = true := by kernel_rfl
@[simp] theorem cl_123 : callable Tryz.prog 123 = true := by kernel_rfl
@[simp] theorem ip_220 : isPtrT Tryz.prog 220 = true := by kernel_rfl
@[simp] theorem fa_154_1 (b o : Nat) : aFieldAddr Tryz.prog 154 (.pointer (some ⟨b, o, none⟩)) 1 = ret (.pointer (some ⟨b, o + 1, none⟩)) := by kernel_rfl
@[simp] theorem fa_154_4 (b o : Nat) : aFieldAddr Tryz.prog 154 (.pointer (some ⟨b, o, none⟩)) 4 = ret (.pointer (some ⟨b, o + 15, none⟩)) := by kernel_rfl
@[simp] theorem fa_86_1 (b o : Nat) : aFieldAddr Tryz.prog 86 (.pointer (some ⟨b, o, none⟩)) 1 = ret (.pointer (some ⟨b, o + 1, none⟩)) := by kernel_rfl
@[simp] theorem fa_154_3 (b o : Nat) : aFieldAddr Tryz.prog 154 (.pointer (some ⟨b, o, none⟩)) 3 = ret (.pointer (some ⟨b, o + 10, none⟩)) := by kernel_rfl
@[simp] theorem fa_152_0 (b o : Nat) : aFieldAddr Tryz.prog 152 (.pointer (some ⟨b, o, none⟩)) 0 = ret (.pointer (some ⟨b, o + 0, none⟩)) := by kernel_rfl
@[simp] theorem fa_152_1 (b o : Nat) : aFieldAddr Tryz.prog 152 (.pointer (some ⟨b, o, none⟩)) 1 = ret (.pointer (some ⟨b, o + 1, none⟩)) := by kernel_rfl
@[simp] theorem fa_154_2 (b o : Nat) : aFieldAddr Tryz.prog 154 (.pointer (some ⟨b, o, none⟩)) 2 = ret (.pointer (some ⟨b, o + 2, none⟩)) := by kernel_rfl
@[simp] theorem cl_124 : callable Tryz.prog 124 = true := by kernel_rfl
@[simp] theorem cl_125 : callable Tryz.prog 125 = true := by kernel_rfl
@[simp] theorem fa_86_2 (b o : Nat) : aFieldAddr Tryz.prog 86 (.pointer (some ⟨b, o, none⟩)) 2 = ret (.pointer (some ⟨b, o + 2, none⟩)) := by kernel_rfl
@[simp] theorem cl_126 : callable Tryz.prog 126 = true := by kernel_rfl
@[simp] theorem cl_128 : callable Tryz.prog 128 = true := by kernel_rfl
@[simp] theorem cl_127 : callable Tryz.prog 127 = true := by kernel_rfl
@[simp] theorem ap_144 : apInfo Tryz.prog 144 = some (152, 5, 40) := by kernel_rfl
@[simp] theorem cl_129 : callable Tryz.prog 129 = true := by kernel_rfl
@[simp] theorem cl_130 : callable Tryz.prog 130 = true := by kernel_rfl
@[simp] theorem cl_131 : callable Tryz.prog 131 = true := by kernel_rfl
@[simp] theorem fa_211_3 (b o : Nat) : aFieldAddr Tryz.prog 211 (.pointer (some ⟨b, o, none⟩)) 3 = ret (.pointer (some ⟨b, o + 3, none⟩)) := by kernel_rfl
@[simp] theorem fa_88_1 (b o : Nat) : aFieldAddr Tryz.prog 88 (.pointer (some ⟨b, o, none⟩)) 1 = ret (.pointer (some ⟨b, o + 1, none⟩)) := by kernel_rfl
@[simp] theorem fa_88_2 (b o : Nat) : aFieldAddr Tryz.prog 88 (.pointer (some ⟨b, o, none⟩)) 2 = ret (.pointer (some ⟨b, o + 2, none⟩)) := by kernel_rfl
@[simp] theorem ag_35 : aggB Tryz.prog 35 = some false := by kernel_rfl
@[simp] theorem sz_35 : szOf Tryz.prog 35 = some 1 := by kernel_rfl
@[simp] theorem cl_132 : callable Tryz.prog 132 = true := by kernel_rfl
@[simp] theorem fa_211_2 (b o : Nat) : aFieldAddr Tryz.prog 211 (.pointer (some ⟨b, o, none⟩)) 2 = ret (.pointer (some ⟨b, o + 2, none⟩)) := by kernel_rfl
@[simp] theorem fa_200_0 (b o : Nat) : aFieldAddr Tryz.prog 200 (.pointer (some ⟨b, o, none⟩)) 0 = ret (.pointer (some ⟨b, o + 0, none⟩)) := by kernel_rfl
@[simp] theorem cl_133 : callable Tryz.prog 133 = true := by kernel_rfl
@[simp] theorem zr_231 : zeroOf Tryz.prog 231 = some (.agg #[.int .u8 0, .string ⟨#[]⟩]) := by kernel_rfl
@[simp] theorem sz_231 : szOf Tryz.prog 231 = some 2 := by kernel_rfl
@[simp] theorem bu_150 : stat Tryz.prog (bInfo 150) = some (#[(0, 1), (1, 1), (2, 1), (3, 1), (4, 1), (5, 1), (6, 1), (7, 1)], none, [.int .i64 0, .int .i64 0, .int .u32 0, .int .u32 0, .int .u32 0, .slice none 0 0, .bool false, .string ⟨#[]⟩].toArray) := by kernel_rfl
@[simp] theorem fa_231_0 (b o : Nat) : aFieldAddr Tryz.prog 231 (.pointer (some ⟨b, o, none⟩)) 0 = ret (.pointer (some ⟨b, o + 0, none⟩)) := by kernel_rfl
@[simp] theorem fa_231_1 (b o : Nat) : aFieldAddr Tryz.prog 231 (.pointer (some ⟨b, o, none⟩)) 1 = ret (.pointer (some ⟨b, o + 1, none⟩)) := by kernel_rfl
@[simp] theorem cl_134 : callable Tryz.prog 134 = true := by kernel_rfl
@[simp] theorem cl_135 : callable Tryz.prog 135 = true := by kernel_rfl
@[simp] theorem cl_136 : callable Tryz.prog 136 = true := by kernel_rfl
@[simp] theorem cl_137 : callable Tryz.prog 137 = true := by kernel_rfl
@[simp] theorem cl_138 : callable Tryz.prog 138 = true := by kernel_rfl
@[simp] theorem cl_139 : callable Tryz.prog 139 = true := by kernel_rfl
@[simp] theorem cl_140 : callable Tryz.prog 140 = true := by kernel_rfl
@[simp] theorem cl_141 : callable Tryz.prog 141 = true := by kernel_rfl
@[simp] theorem zr_99 : zeroOf Tryz.prog 99 = some (.agg #[.int .i64 0, .int .i64 0, .int .i64 0, .int .i64 0, .int .u32 0]) := by kernel_rfl
@[simp] theorem fa_239_1 (b o : Nat) : aFieldAddr Tryz.prog 239 (.pointer (some ⟨b, o, none⟩)) 1 = ret (.pointer (some ⟨b, o + 2, none⟩)) := by kernel_rfl
@[simp] theorem ag_99 : aggB Tryz.prog 99 = some true := by kernel_rfl
@[simp] theorem sz_99 : szOf Tryz.prog 99 = some 5 := by kernel_rfl
@[simp] theorem fa_241_2 (b o : Nat) : aFieldAddr Tryz.prog 241 (.pointer (some ⟨b, o, none⟩)) 2 = ret (.pointer (some ⟨b, o + 2, none⟩)) := by kernel_rfl
@[simp] theorem ip_168 : isPtrT Tryz.prog 168 = true := by kernel_rfl
@[simp] theorem zr_102 : zeroOf Tryz.prog 102 = some (.agg #[.int .u32 0, .int .u32 0, .int .u32 0, .int .u32 0, .int .u32 0, .int .i64 0, .int .i64 0, .int .i64 0, .slice none 0 0]) := by kernel_rfl
@[simp] theorem fa_244_0 (b o : Nat) : aFieldAddr Tryz.prog 244 (.pointer (some ⟨b, o, none⟩)) 0 = ret (.pointer (some ⟨b, o + 0, none⟩)) := by kernel_rfl
@[simp] theorem fa_244_1 (b o : Nat) : aFieldAddr Tryz.prog 244 (.pointer (some ⟨b, o, none⟩)) 1 = ret (.pointer (some ⟨b, o + 1, none⟩)) := by kernel_rfl
@[simp] theorem fa_244_2 (b o : Nat) : aFieldAddr Tryz.prog 244 (.pointer (some ⟨b, o, none⟩)) 2 = ret (.pointer (some ⟨b, o + 2, none⟩)) := by kernel_rfl
@[simp] theorem fa_244_3 (b o : Nat) : aFieldAddr Tryz.prog 244 (.pointer (some ⟨b, o, none⟩)) 3 = ret (.pointer (some ⟨b, o + 3, none⟩)) := by kernel_rfl
@[simp] theorem fa_244_4 (b o : Nat) : aFieldAddr Tryz.prog 244 (.pointer (some ⟨b, o, none⟩)) 4 = ret (.pointer (some ⟨b, o + 4, none⟩)) := by kernel_rfl
@[simp] theorem fa_244_5 (b o : Nat) : aFieldAddr Tryz.prog 244 (.pointer (some ⟨b, o, none⟩)) 5 = ret (.pointer (some ⟨b, o + 5, none⟩)) := by kernel_rfl
@[simp] theorem fa_244_7 (b o : Nat) : aFieldAddr Tryz.prog 244 (.pointer (some ⟨b, o, none⟩)) 7 = ret (.pointer (some ⟨b, o + 7, none⟩)) := by kernel_rfl
@[simp] theorem fa_244_8 (b o : Nat) : aFieldAddr Tryz.prog 244 (.pointer (some ⟨b, o, none⟩)) 8 = ret (.pointer (some ⟨b, o + 8, none⟩)) := by kernel_rfl
@[simp] theorem ag_242 : aggB Tryz.prog 242 = some false := by kernel_rfl
@[simp] theorem sz_242 : szOf Tryz.prog 242 = some 1 := by kernel_rfl
@[simp] theorem fa_244_9 (b o : Nat) : aFieldAddr Tryz.prog 244 (.pointer (some ⟨b, o, none⟩)) 9 = ret (.pointer (some ⟨b, o + 9, none⟩)) := by kernel_rfl
@[simp] theorem ag_100 : aggB Tryz.prog 100 = some false := by kernel_rfl
@[simp] theorem sz_100 : szOf Tryz.prog 100 = some 1 := by kernel_rfl
@[simp] theorem cl_142 : callable Tryz.prog 142 = true := by kernel_rfl
@[simp] theorem bu_102 : stat Tryz.prog (bInfo 102) = some (#[(0, 1), (1, 1), (2, 1), (3, 1), (4, 1), (5, 1), (6, 1), (7, 1), (8, 1)], none, [.int .u32 0, .int .u32 0, .int .u32 0, .int .u32 0, .int .u32 0, .int .i64 0, .int .i64 0, .int .i64 0, .slice none 0 0].toArray) := by kernel_rfl
@[simp] theorem ag_102 : aggB Tryz.prog 102 = some true := by kernel_rfl
@[simp] theorem zr_104 : zeroOf Tryz.prog 104 = some (.agg #[.int .u32 0, .int .u32 0, .int .u32 0, .int .i64 0, .int .i64 0, .int .i64 0]) := by kernel_rfl
@[simp] theorem fa_249_0 (b o : Nat) : aFieldAddr Tryz.prog 249 (.pointer (some ⟨b, o, none⟩)) 0 = ret (.pointer (some ⟨b, o + 0, none⟩)) := by kernel_rfl
@[simp] theorem fa_249_1 (b o : Nat) : aFieldAddr Tryz.prog 249 (.pointer (some ⟨b, o, none⟩)) 1 = ret (.pointer (some ⟨b, o + 1, none⟩)) := by kernel_rfl
@[simp] theorem fa_249_2 (b o : Nat) : aFieldAddr Tryz.prog 249 (.pointer (some ⟨b, o, none⟩)) 2 = ret (.pointer (some ⟨b, o + 2, none⟩)) := by kernel_rfl
@[simp] theorem fa_249_4 (b o : Nat) : aFieldAddr Tryz.prog 249 (.pointer (some ⟨b, o, none⟩)) 4 = ret (.pointer (some ⟨b, o + 4, none⟩)) := by kernel_rfl
@[simp] theorem ag_246 : aggB Tryz.prog 246 = some false := by kernel_rfl
@[simp] theorem sz_246 : szOf Tryz.prog 246 = some 1 := by kernel_rfl
@[simp] theorem fa_249_5 (b o : Nat) : aFieldAddr Tryz.prog 249 (.pointer (some ⟨b, o, none⟩)) 5 = ret (.pointer (some ⟨b, o + 5, none⟩)) := by kernel_rfl
@[simp] theorem fa_249_6 (b o : Nat) : aFieldAddr Tryz.prog 249 (.pointer (some ⟨b, o, none⟩)) 6 = ret (.pointer (some ⟨b, o + 6, none⟩)) := by kernel_rfl
@[simp] theorem ag_247 : aggB Tryz.prog 247 = some false := by kernel_rfl
@[simp] theorem sz_247 : szOf Tryz.prog 247 = some 1 := by kernel_rfl
@[simp] theorem ln_247 (a : Option Addr) (n c : Nat) : aLen Tryz.prog 247 (.slice a n c) = ret (.int .i64 n) := by kernel_rfl
@[simp] theorem bu_104 : stat Tryz.prog (bInfo 104) = some (#[(0, 1), (1, 1), (2, 1), (3, 1), (4, 1), (5, 1)], none, [.int .u32 0, .int .u32 0, .int .u32 0, .int .i64 0, .int .i64 0, .int .i64 0].toArray) := by kernel_rfl
@[simp] theorem ag_104 : aggB Tryz.prog 104 = some true := by kernel_rfl
@[simp] theorem cl_143 : callable Tryz.prog 143 = true := by kernel_rfl
@[simp] theorem fa_180_0 (b o : Nat) : aFieldAddr Tryz.prog 180 (.pointer (some ⟨b, o, none⟩)) 0 = ret (.pointer (some ⟨b, o + 0, none⟩)) := by kernel_rfl
@[simp] theorem el_46 : elemT Tryz.prog 46 = some 113 := by kernel_rfl
@[simp] theorem cl_145 : callable Tryz.prog 145 = true := by kernel_rfl
@[simp] theorem cl_144 : callable Tryz.prog 144 = true := by kernel_rfl
@[simp] theorem cl_147 : callable Tryz.prog 147 = true := by kernel_rfl
@[simp] theorem cl_150 : callable Tryz.prog 150 = true := by kernel_rfl
@[simp] theorem cl_88 : callable Tryz.prog 88 = true := by kernel_rfl
@[simp] theorem cl_151 : callable Tryz.prog 151 = true := by kernel_rfl
@[simp] theorem cl_152 : callable Tryz.prog 152 = true := by kernel_rfl
@[simp] theorem cl_87 : callable Tryz.prog 87 = true := by kernel_rfl
@[simp] theorem cl_97 : callable Tryz.prog 97 = true := by kernel_rfl
@[simp] theorem cl_91 : callable Tryz.prog 91 = true := by kernel_rfl
@[simp] theorem cl_153 : callable Tryz.prog 153 = true := by kernel_rfl
@[simp] theorem cl_155 : callable Tryz.prog 155 = true := by kernel_rfl
@[simp] theorem cl_99 : callable Tryz.prog 99 = true := by kernel_rfl
@[simp] theorem cl_156 : callable Tryz.prog 156 = true := by kernel_rfl
@[simp] theorem cl_101 : callable Tryz.prog 101 = true := by kernel_rfl
@[simp] theorem bs_325_12 : bsCells Tryz.prog 325 12 = some (20, 1, [.nilIface, .nilIface, .nilIface, .nilIface, .nilIface, .nilIface, .nilIface, .nilIface, .nilIface, .nilIface, .nilIface, .nilIface]) := by kernel_rfl
@[simp] theorem cl_157 : callable Tryz.prog 157 = true := by kernel_rfl
@[simp] theorem cl_103 : callable Tryz.prog 103 = true := by kernel_rfl
@[simp] theorem cl_158 : callable Tryz.prog 158 = true := by kernel_rfl
@[simp] theorem cl_159 : callable Tryz.prog 159 = true := by kernel_rfl
@[simp] theorem zr_262 : zeroOf Tryz.prog 262 = some (.agg #[.int .u8 0, .int .u8 0, .int .u8 0, .int .u8 0, .int .u8 0, .int .u8 0, .int .u8 0, .int .u8 0, .int .u8 0, .int .u8 0, .int .u8 0, .int .u8 0, .int .u8 0, .int .u8 0, .int .u8 0, .int .u8 0, .int .u8 0, .int .u8 0, .int .u8 0, .int .u8 0, .int .u8 0, .int .u8 0, .int .u8 0, .int .u8 0]) := by kernel_rfl
@[simp] theorem ui_2 : Tryz.prog.underlying 2 = some (.int .i64) := by kernel_rfl
@[simp] theorem ui_263 : Tryz.prog.underlying 263 = some (.int .u64) := by kernel_rfl
@[simp] theorem cl_160 : callable Tryz.prog 160 = true := by kernel_rfl
@[simp] theorem cl_161 : callable Tryz.prog 161 = true := by kernel_rfl
@[simp] theorem ia_262 (b o : Nat) (i : Int) (h : 0 ≤ i ∧ i < 24) : aIndexAddr Tryz.prog 262 (.pointer (some ⟨b, o, none⟩)) (.int .i64 i) = ret (.pointer (some ⟨b, o + i.toNat * 1, none⟩)) := (show _ = ite (0 ≤ i ∧ i < 24) (ret _) fail by kernel_rfl).trans (if_pos h)
@[simp] theorem cl_162 : callable Tryz.prog 162 = true := by kernel_rfl
@[simp] theorem cl_164 : callable Tryz.prog 164 = true := by kernel_rfl
@[simp] theorem fa_78_2 (b o : Nat) : aFieldAddr Tryz.prog 78 (.pointer (some ⟨b, o, none⟩)) 2 = ret (.pointer (some ⟨b, o + 2, none⟩)) := by kernel_rfl
@[simp] theorem fa_78_4 (b o : Nat) : aFieldAddr Tryz.prog 78 (.pointer (some ⟨b, o, none⟩)) 4 = ret (.pointer (some ⟨b, o + 4, none⟩)) := by kernel_rfl
@[simp] theorem cl_165 : callable Tryz.prog 165 = true := by kernel_rfl
@[simp] theorem cl_166 : callable Tryz.prog 166 = true := by kernel_rfl
@[simp] theorem zr_197 : zeroOf Tryz.prog 197 = some (.agg #[.int .u32 0, .int .u32 0, .int .u32 0, .int .u32 0, .int .u32 0, .int .u32 0, .int .u32 0, .int .u32 0, .int .u32 0, .int .u32 0, .int .u32 0, .int .u32 0, .int .u32 0, .int .u32 0, .int .u32 0, .int .u32 0, .int .u32 0, .int .u32 0, .int .u32 0, .int .u32 0, .int .u32 0, .int .u32 0, .int .u32 0, .int .u32 0, .int .u32 0, .int .u32 0, .int .u32 0, .int .u32 0, .int .u32 0, .int .u32 0, .int .u32 0, .int .u32 0, .int .u32 0, .int .u32 0, .int .u32 0, .int .u32 0, .int .u32 0, .int .u32 0, .int .u32 0, .int .u32 0, .int .u32 0, .int .u32 0, .int .u32 0, .int .u32 0, .int .u32 0, .int .u32 0, .int .u32 0, .int .u32 0, .int .u32 0, .int .u32 0, .int .u32 0, .int .u32 0, .int .u32 0, .int .u32 0, .int .u32 0, .int .u32 0, .int .u32 0, .int .u32 0, .int .u32 0, .int .u32 0, .int .u32 0, .int .u32 0, .int .u32 0, .int .u32 0, .int .u32 0, .int .u32 0, .int .u32 0, .int .u32 0, .int .u32 0, .int .u32 0, .int .u32 0, .int .u32 0, .int .u32 0, .int .u32 0, .int .u32 0, .int .u32 0, .int .u32 0, .int .u32 0, .int .u32 0, .int .u32 0, .int .u32 0, .int .u32 0, .int .u32 0, .int .u32 0, .int .u32 0, .int .u32 0, .int .u32 0, .int .u32 0, .int .u32 0, .int .u32 0, .int .u32 0, .int .u32 0, .int .u32 0, .int .u32 0, .int .u32 0, .int .u32 0, .int .u32 0, .int .u32 0, .int .u32 0, .int .u32 0, .int .u32 0, .int .u32 0, .int .u32 0, .int .u32 0, .int .u32 0, .int .u32 0, .int .u32 0, .int .u32 0, .int .u32 0, .int .u32 0, .int .u32 0, .int .u32 0, .int .u32 0, .int .u32 0, .int .u32 0, .int .u32 0, .int .u32 0, .int .u32 0, .int .u32 0, .int .u32 0, .int .u32 0, .int .u32 0, .int .u32 0, .int .u32 0, .int .u32 0, .int .u32 0, .int .u32 0, .int .u32 0, .int .u32 0, .int .u32 0, .int .u32 0, .int .u32 0, .int .u32 0, .int .u32 0, .int .u32 0, .int .u32 0, .int .u32 0, .int .u32 0, .int .u32 0, .int .u32 0, .int .u32 0, .int .u32 0, .int .u32 0, .int .u32 0, .int .u32 0, .int .u32 0, .int .u32 0, .int .u32 0, .int .u32 0, .int .u32 0, .int .u32 0, .int .u32 0, .int .u32 0, .int .u32 0, .int .u32 0, .int .u32 0, .int .u32 0, .int .u32 0, .int .u32 0, .int .u32 0, .int .u32 0, .int .u32 0, .int .u32 0, .int .u32 0, .int .u32 0, .int .u32 0, .int .u32 0, .int .u32 0, .int .u32 0, .int .u32 0, .int .u32 0, .int .u32 0, .int .u32 0, .int .u32 0, .int .u32 0, .int .u32 0, .int .u32 0, .int .u32 0, .int .u32 0, .int .u32 0, .int .u32 0, .int .u32 0, .int .u32 0, .int .u32 0, .int .u32 0, .int .u32 0, .int .u32 0, .int .u32 0, .int .u32 0, .int .u32 0, .int .u32 0, .int .u32 0, .int .u32 0, .int .u32 0, .int .u32 0, .int .u32 0, .int .u32 0, .int .u32 0, .int .u32 0, .int .u32 0, .int .u32 0, .int .u32 0, .int .u32 0, .int .u32 0, .int .u32 0, .int .u32 0, .int .u32 0, .int .u32 0, .int .u32 0, .int .u32 0, .int .u32 0, .int .u32 0, .int .u32 0, .int .u32 0, .int .u32 0, .int .u32 0, .int .u32 0, .int .u32 0, .int .u32 0, .int .u32 0, .int .u32 0, .int .u32 0, .int .u32 0, .int .u32 0, .int .u32 0, .int .u32 0, .int .u32 0, .int .u32 0, .int .u32 0, .int .u32 0, .int .u32 0, .int .u32 0, .int .u32 0, .int .u32 0, .int .u32 0, .int .u32 0, .int .u32 0, .int .u32 0, .int .u32 0, .int .u32 0, .int .u32 0, .int .u32 0, .int .u32 0, .int .u32 0, .int .u32 0, .int .u32 0, .int .u32 0, .int .u32 0, .int .u32 0, .int .u32 0, .int .u32 0, .int .u32 0, .int .u32 0, .int .u32 0, .int .u32 0, .int .u32 0]) := by kernel_rfl
@[simp] theorem ia_197 (b o : Nat) (i : Int) (h : 0 ≤ i ∧ i < 256) : aIndexAddr Tryz.prog 197 (.pointer (some ⟨b, o, none⟩)) (.int .i64 i) = ret (.pointer (some ⟨b, o + i.toNat * 1, none⟩)) := (show _ = ite (0 ≤ i ∧ i < 256) (ret _) fail by kernel_rfl).trans (if_pos h)
@[simp] theorem ag_197 : aggB Tryz.prog 197 = some true := by kernel_rfl
@[simp] theorem sz_197 : szOf Tryz.prog 197 = some 256 := by kernel_rfl
@[simp] theorem bu_182 : stat Tryz.prog (bInfo 182) = some (#[(0, 5), (5, 5)], none, [.int .i64 0, .int .i64 0, .int .i64 0, .int .i64 0, .int .i64 0, .int .i64 0, .int .i64 0, .int .i64 0, .int .i64 0, .int .i64 0].toArray) := by kernel_rfl
@[simp] theorem zr_182 : zeroOf Tryz.prog 182 = some (.agg #[.int .i64 0, .int .i64 0, .int .i64 0, .int .i64 0, .int .i64 0, .int .i64 0, .int .i64 0, .int .i64 0, .int .i64 0, .int .i64 0]) := by kernel_rfl
@[simp] theorem fa_206_0 (b o : Nat) : aFieldAddr Tryz.prog 206 (.pointer (some ⟨b, o, none⟩)) 0 = ret (.pointer (some ⟨b, o + 0, none⟩)) := by kernel_rfl
@[simp] theorem fa_206_1 (b o : Nat) : aFieldAddr Tryz.prog 206 (.pointer (some ⟨b, o, none⟩)) 1 = ret (.pointer (some ⟨b, o + 1, none⟩)) := by kernel_rfl
@[simp] theorem ag_206 : aggB Tryz.prog 206 = some true := by kernel_rfl
@[simp] theorem sz_206 : szOf Tryz.prog 206 = some 2 := by kernel_rfl
@[simp] theorem bu_99 : stat Tryz.prog (bInfo 99) = some (#[(0, 1), (1, 1), (2, 1), (3, 1), (4, 1)], none, [.int .i64 0, .int .i64 0, .int .i64 0, .int .i64 0, .int .u32 0].toArray) := by kernel_rfl
@[simp] theorem bu_239 : stat Tryz.prog (bInfo 239) = some (#[(0, 2), (2, 5), (7, 1)], none, [.int .i64 0, .int .u32 0, .int .i64 0, .int .i64 0, .int .i64 0, .int .i64 0, .int .u32 0, .string ⟨#[]⟩].toArray) := by kernel_rfl
@[simp] theorem zr_239 : zeroOf Tryz.prog 239 = some (.agg #[.int .i64 0, .int .u32 0, .int .i64 0, .int .i64 0, .int .i64 0, .int .i64 0, .int .u32 0, .string ⟨#[]⟩]) := by kernel_rfl
@[simp] theorem cl_167 : callable Tryz.prog 167 = true := by kernel_rfl
@[simp] theorem bu_241 : stat Tryz.prog (bInfo 241) = some (#[(0, 1), (1, 1), (2, 1), (3, 1)], none, [.slice none 0 0, .int .i64 0, .int .i64 0, .int .i64 0].toArray) := by kernel_rfl
@[simp] theorem zr_241 : zeroOf Tryz.prog 241 = some (.agg #[.slice none 0 0, .int .i64 0, .int .i64 0, .int .i64 0]) := by kernel_rfl
@[simp] theorem bu_271 : stat Tryz.prog (bInfo 271) = some (#[(0, 1), (1, 1), (2, 1), (3, 1)], none, [.slice none 0 0, .int .i64 0, .int .i64 0, .int .i64 0].toArray) := by kernel_rfl
@[simp] theorem zr_271 : zeroOf Tryz.prog 271 = some (.agg #[.slice none 0 0, .int .i64 0, .int .i64 0, .int .i64 0]) := by kernel_rfl
@[simp] theorem cl_168 : callable Tryz.prog 168 = true := by kernel_rfl
@[simp] theorem bu_275 : stat Tryz.prog (bInfo 275) = some (#[], some 1, [.int .i64 0, .int .i64 0].toArray) := by kernel_rfl
@[simp] theorem zr_275 : zeroOf Tryz.prog 275 = some (.agg #[.int .i64 0, .int .i64 0]) := by kernel_rfl
@[simp] theorem mt_272 : mapT Tryz.prog 272 = some (275, 3) := by kernel_rfl
@[simp] theorem cl_169 : callable Tryz.prog 169 = true := by kernel_rfl
@[simp] theorem cl_170 : callable Tryz.prog 170 = true := by kernel_rfl
@[simp] theorem cl_171 : callable Tryz.prog 171 = true := by kernel_rfl
@[simp] theorem cl_172 : callable Tryz.prog 172 = true := by kernel_rfl
@[simp] theorem bu_152 : stat Tryz.prog (bInfo 152) = some (#[(0, 1), (1, 1), (2, 1), (3, 1), (4, 1)], none, [.int .i64 0, .string ⟨#[]⟩, .bool false, .int .u8 0, .int .i64 0].toArray) := by kernel_rfl
@[simp] theorem bs_144_1 : bsCells Tryz.prog 144 1 = some (152, 5, [.int .i64 0, .string ⟨#[]⟩, .bool false, .int .u8 0, .int .i64 0]) := by kernel_rfl
@[simp] theorem cl_173 : callable Tryz.prog 173 = true := by kernel_rfl
@[simp] theorem zr_226 : zeroOf Tryz.prog 226 = some (.agg #[.slice none 0 0, .slice none 0 0, .bool false, .bool false, .int .u32 0, .int .i64 0]) := by kernel_rfl
@[simp] theorem sz_226 : szOf Tryz.prog 226 = some 6 := by kernel_rfl
@[simp] theorem ag_226 : aggB Tryz.prog 226 = some true := by kernel_rfl
@[simp] theorem cl_174 : callable Tryz.prog 174 = true := by kernel_rfl
@[simp] theorem fa_271_3 (b o : Nat) : aFieldAddr Tryz.prog 271 (.pointer (some ⟨b, o, none⟩)) 3 = ret (.pointer (some ⟨b, o + 3, none⟩)) := by kernel_rfl
@[simp] theorem fa_271_2 (b o : Nat) : aFieldAddr Tryz.prog 271 (.pointer (some ⟨b, o, none⟩)) 2 = ret (.pointer (some ⟨b, o + 2, none⟩)) := by kernel_rfl
@[simp] theorem ia_170 (b o n c : Nat) (i : Int) (h : 0 ≤ i ∧ i < n) : aIndexAddr Tryz.prog 170 (.slice (some ⟨b, o, none⟩) n c) (.int .i64 i) = ret (.pointer (some ⟨b, o + i.toNat * 8, none⟩)) := (show _ = ite (0 ≤ i ∧ i < (n : Int)) (ret _) fail by kernel_rfl).trans (if_pos h)
@[simp] theorem el_170 : elemT Tryz.prog 170 = some 150 := by kernel_rfl
@[simp] theorem cl_175 : callable Tryz.prog 175 = true := by kernel_rfl
@[simp] theorem cl_176 : callable Tryz.prog 176 = true := by kernel_rfl
@[simp] theorem cl_177 : callable Tryz.prog 177 = true := by kernel_rfl
@[simp] theorem fa_173_9 (b o : Nat) : aFieldAddr Tryz.prog 173 (.pointer (some ⟨b, o, none⟩)) 9 = ret (.pointer (some ⟨b, o + 19, none⟩)) := by kernel_rfl
@[simp] theorem cl_178 : callable Tryz.prog 178 = true := by kernel_rfl
@[simp] theorem cl_179 : callable Tryz.prog 179 = true := by kernel_rfl
@[simp] theorem cl_180 : callable Tryz.prog 180 = true := by kernel_rfl
@[simp] theorem cl_182 : callable Tryz.prog 182 = true := by kernel_rfl
@[simp] theorem cl_181 : callable Tryz.prog 181 = true := by kernel_rfl
@[simp] theorem cl_183 : callable Tryz.prog 183 = true := by kernel_rfl
@[simp] theorem cl_184 : callable Tryz.prog 184 = true := by kernel_rfl
@[simp] theorem cl_185 : callable Tryz.prog 185 = true := by kernel_rfl
@[simp] theorem bu_231 : stat Tryz.prog (bInfo 231) = some (#[(0, 1), (1, 1)], none, [.int .u8 0, .string ⟨#[]⟩].toArray) := by kernel_rfl
@[simp] theorem cl_186 : callable Tryz.prog 186 = true := by kernel_rfl
@[simp] theorem cl_187 : callable Tryz.prog 187 = true := by kernel_rfl
@[simp] theorem fa_211_1 (b o : Nat) : aFieldAddr Tryz.prog 211 (.pointer (some ⟨b, o, none⟩)) 1 = ret (.pointer (some ⟨b, o + 1, none⟩)) := by kernel_rfl
@[simp] theorem cl_188 : callable Tryz.prog 188 = true := by kernel_rfl
@[simp] theorem fa_150_0 (b o : Nat) : aFieldAddr Tryz.prog 150 (.pointer (some ⟨b, o, none⟩)) 0 = ret (.pointer (some ⟨b, o + 0, none⟩)) := by kernel_rfl
@[simp] theorem cl_189 : callable Tryz.prog 189 = true := by kernel_rfl
@[simp] theorem fa_150_1 (b o : Nat) : aFieldAddr Tryz.prog 150 (.pointer (some ⟨b, o, none⟩)) 1 = ret (.pointer (some ⟨b, o + 1, none⟩)) := by kernel_rfl
@[simp] theorem fa_150_2 (b o : Nat) : aFieldAddr Tryz.prog 150 (.pointer (some ⟨b, o, none⟩)) 2 = ret (.pointer (some ⟨b, o + 2, none⟩)) := by kernel_rfl
@[simp] theorem fa_150_3 (b o : Nat) : aFieldAddr Tryz.prog 150 (.pointer (some ⟨b, o, none⟩)) 3 = ret (.pointer (some ⟨b, o + 3, none⟩)) := by kernel_rfl
@[simp] theorem fa_150_4 (b o : Nat) : aFieldAddr Tryz.prog 150 (.pointer (some ⟨b, o, none⟩)) 4 = ret (.pointer (some ⟨b, o + 4, none⟩)) := by kernel_rfl
@[simp] theorem fa_150_5 (b o : Nat) : aFieldAddr Tryz.prog 150 (.pointer (some ⟨b, o, none⟩)) 5 = ret (.pointer (some ⟨b, o + 5, none⟩)) := by kernel_rfl
@[simp] theorem cl_190 : callable Tryz.prog 190 = true := by kernel_rfl
@[simp] theorem fa_150_6 (b o : Nat) : aFieldAddr Tryz.prog 150 (.pointer (some ⟨b, o, none⟩)) 6 = ret (.pointer (some ⟨b, o + 6, none⟩)) := by kernel_rfl
@[simp] theorem fa_150_7 (b o : Nat) : aFieldAddr Tryz.prog 150 (.pointer (some ⟨b, o, none⟩)) 7 = ret (.pointer (some ⟨b, o + 7, none⟩)) := by kernel_rfl
@[simp] theorem ia_293 (b o : Nat) (i : Int) (h : 0 ≤ i ∧ i < 13) : aIndexAddr Tryz.prog 293 (.pointer (some ⟨b, o, none⟩)) (.int .i64 i) = ret (.pointer (some ⟨b, o + i.toNat * 1, none⟩)) := (show _ = ite (0 ≤ i ∧ i < 13) (ret _) fail by kernel_rfl).trans (if_pos h)
@[simp] theorem fa_152_2 (b o : Nat) : aFieldAddr Tryz.prog 152 (.pointer (some ⟨b, o, none⟩)) 2 = ret (.pointer (some ⟨b, o + 2, none⟩)) := by kernel_rfl
@[simp] theorem fa_152_3 (b o : Nat) : aFieldAddr Tryz.prog 152 (.pointer (some ⟨b, o, none⟩)) 3 = ret (.pointer (some ⟨b, o + 3, none⟩)) := by kernel_rfl
@[simp] theorem fa_152_4 (b o : Nat) : aFieldAddr Tryz.prog 152 (.pointer (some ⟨b, o, none⟩)) 4 = ret (.pointer (some ⟨b, o + 4, none⟩)) := by kernel_rfl
@[simp] theorem fa_226_1 (b o : Nat) : aFieldAddr Tryz.prog 226 (.pointer (some ⟨b, o, none⟩)) 1 = ret (.pointer (some ⟨b, o + 1, none⟩)) := by kernel_rfl
@[simp] theorem cl_192 : callable Tryz.prog 192 = true := by kernel_rfl
@[simp] theorem cl_191 : callable Tryz.prog 191 = true := by kernel_rfl
@[simp] theorem bs_170_1 : bsCells Tryz.prog 170 1 = some (150, 8, [.int .i64 0, .int .i64 0, .int .u32 0, .int .u32 0, .int .u32 0, .slice none 0 0, .bool false, .string ⟨#[]⟩]) := by kernel_rfl
@[simp] theorem ap_170 : apInfo Tryz.prog 170 = some (150, 8, 80) := by kernel_rfl
@[simp] theorem fa_226_5 (b o : Nat) : aFieldAddr Tryz.prog 226 (.pointer (some ⟨b, o, none⟩)) 5 = ret (.pointer (some ⟨b, o + 5, none⟩)) := by kernel_rfl
@[simp] theorem cl_193 : callable Tryz.prog 193 = true := by kernel_rfl
@[simp] theorem cl_194 : callable Tryz.prog 194 = true := by kernel_rfl
@[simp] theorem fa_226_3 (b o : Nat) : aFieldAddr Tryz.prog 226 (.pointer (some ⟨b, o, none⟩)) 3 = ret (.pointer (some ⟨b, o + 3, none⟩)) := by kernel_rfl
@[simp] theorem cl_195 : callable Tryz.prog 195 = true := by kernel_rfl
@[simp] theorem cl_196 : callable Tryz.prog 196 = true := by kernel_rfl
@[simp] theorem cl_197 : callable Tryz.prog 197 = true := by kernel_rfl
@[simp] theorem fa_226_2 (b o : Nat) : aFieldAddr Tryz.prog 226 (.pointer (some ⟨b, o, none⟩)) 2 = ret (.pointer (some ⟨b, o + 2, none⟩)) := by kernel_rfl
@[simp] theorem fa_173_0 (b o : Nat) : aFieldAddr Tryz.prog 173 (.pointer (some ⟨b, o, none⟩)) 0 = ret (.pointer (some ⟨b, o + 0, none⟩)) := by kernel_rfl
@[simp] theorem cl_198 : callable Tryz.prog 198 = true := by kernel_rfl
@[simp] theorem cl_199 : callable Tryz.prog 199 = true := by kernel_rfl
@[simp] theorem fa_226_4 (b o : Nat) : aFieldAddr Tryz.prog 226 (.pointer (some ⟨b, o, none⟩)) 4 = ret (.pointer (some ⟨b, o + 4, none⟩)) := by kernel_rfl
@[simp] theorem cl_200 : callable Tryz.prog 200 = true := by kernel_rfl
@[simp] theorem cl_201 : callable Tryz.prog 201 = true := by kernel_rfl
@[simp] theorem fa_226_0 (b o : Nat) : aFieldAddr Tryz.prog 226 (.pointer (some ⟨b, o, none⟩)) 0 = ret (.pointer (some ⟨b, o + 0, none⟩)) := by kernel_rfl
@[simp] theorem ag_144 : aggB Tryz.prog 144 = some false := by kernel_rfl
@[simp] theorem sz_144 : szOf Tryz.prog 144 = some 1 := by kernel_rfl
@[simp] theorem cl_202 : callable Tryz.prog 202 = true := by kernel_rfl
@[simp] theorem cl_203 : callable Tryz.prog 203 = true := by kernel_rfl
@[simp] theorem bu_226 : stat Tryz.prog (bInfo 226) = some (#[(0, 1), (1, 1), (2, 1), (3, 1), (4, 1), (5, 1)], none, [.slice none 0 0, .slice none 0 0, .bool false, .bool false, .int .u32 0, .int .i64 0].toArray) := by kernel_rfl
@[simp] theorem cl_209 : callable Tryz.prog 209 = true := by kernel_rfl
@[simp] theorem cl_211 : callable Tryz.prog 211 = true := by kernel_rfl
@[simp] theorem fa_271_0 (b o : Nat) : aFieldAddr Tryz.prog 271 (.pointer (some ⟨b, o, none⟩)) 0 = ret (.pointer (some ⟨b, o + 0, none⟩)) := by kernel_rfl
@[simp] theorem fa_271_1 (b o : Nat) : aFieldAddr Tryz.prog 271 (.pointer (some ⟨b, o, none⟩)) 1 = ret (.pointer (some ⟨b, o + 1, none⟩)) := by kernel_rfl
@[simp] theorem cl_212 : callable Tryz.prog 212 = true := by kernel_rfl
@[simp] theorem cl_213 : callable Tryz.prog 213 = true := by kernel_rfl
@[simp] theorem cl_214 : callable Tryz.prog 214 = true := by kernel_rfl
@[simp] theorem cl_215 : callable Tryz.prog 215 = true := by kernel_rfl
@[simp] theorem ag_231 : aggB Tryz.prog 231 = some true := by kernel_rfl
@[simp] theorem bu_310 : stat Tryz.prog (bInfo 310) = some (#[(0, 1)], none, [.string ⟨#[]⟩].toArray) := by kernel_rfl
@[simp] theorem zr_310 : zeroOf Tryz.prog 310 = some (.agg #[.string ⟨#[]⟩]) := by kernel_rfl
@[simp] theorem cl_216 : callable Tryz.prog 216 = true := by kernel_rfl
@[simp] theorem cl_217 : callable Tryz.prog 217 = true := by kernel_rfl
@[simp] theorem zr_313 : zeroOf Tryz.prog 313 = some (.agg #[.int .i64 0, .bool false, .bool false, .int .i64 0, .bool false, .bool false, .bool false, .bool false]) := by kernel_rfl
@[simp] theorem sz_313 : szOf Tryz.prog 313 = some 8 := by kernel_rfl
@[simp] theorem fa_313_7 (b o : Nat) : aFieldAddr Tryz.prog 313 (.pointer (some ⟨b, o, none⟩)) 7 = ret (.pointer (some ⟨b, o + 7, none⟩)) := by kernel_rfl
@[simp] theorem ag_313 : aggB Tryz.prog 313 = some true := by kernel_rfl
@[simp] theorem cl_218 : callable Tryz.prog 218 = true := by kernel_rfl
@[simp] theorem fa_313_5 (b o : Nat) : aFieldAddr Tryz.prog 313 (.pointer (some ⟨b, o, none⟩)) 5 = ret (.pointer (some ⟨b, o + 5, none⟩)) := by kernel_rfl
@[simp] theorem fa_313_4 (b o : Nat) : aFieldAddr Tryz.prog 313 (.pointer (some ⟨b, o, none⟩)) 4 = ret (.pointer (some ⟨b, o + 4, none⟩)) := by kernel_rfl
@[simp] theorem fa_313_3 (b o : Nat) : aFieldAddr Tryz.prog 313 (.pointer (some ⟨b, o, none⟩)) 3 = ret (.pointer (some ⟨b, o + 3, none⟩)) := by kernel_rfl
@[simp] theorem fa_310_0 (b o : Nat) : aFieldAddr Tryz.prog 310 (.pointer (some ⟨b, o, none⟩)) 0 = ret (.pointer (some ⟨b, o + 0, none⟩)) := by kernel_rfl
@[simp] theorem bs_100_1 : bsCells Tryz.prog 100 1 = some (76, 1, [.int .u32 0]) := by kernel_rfl
@[simp] theorem ap_100 : apInfo Tryz.prog 100 = some (76, 1, 4) := by kernel_rfl
@[simp] theorem cl_219 : callable Tryz.prog 219 = true := by kernel_rfl
@[simp] theorem fa_313_1 (b o : Nat) : aFieldAddr Tryz.prog 313 (.pointer (some ⟨b, o, none⟩)) 1 = ret (.pointer (some ⟨b, o + 1, none⟩)) := by kernel_rfl
@[simp] theorem cl_220 : callable Tryz.prog 220 = true := by kernel_rfl
@[simp] theorem cl_221 : callable Tryz.prog 221 = true := by kernel_rfl
@[simp] theorem cl_222 : callable Tryz.prog 222 = true := by kernel_rfl
@[simp] theorem ag_173 : aggB Tryz.prog 173 = some true := by kernel_rfl
@[simp] theorem sz_173 : szOf Tryz.prog 173 = some 22 := by kernel_rfl
@[simp] theorem cl_223 : callable Tryz.prog 223 = true := by kernel_rfl
@[simp] theorem cl_224 : callable Tryz.prog 224 = true := by kernel_rfl
@[simp] theorem cl_225 : callable Tryz.prog 225 = true := by kernel_rfl
@[simp] theorem cl_226 : callable Tryz.prog 226 = true := by kernel_rfl
@[simp] theorem cl_227 : callable Tryz.prog 227 = true := by kernel_rfl
@[simp] theorem cl_228 : callable Tryz.prog 228 = true := by kernel_rfl
@[simp] theorem cl_229 : callable Tryz.prog 229 = true := by kernel_rfl
@[simp] theorem el_100 : elemT Tryz.prog 100 = some 76 := by kernel_rfl
@[simp] theorem bs_100_0 : bsCells Tryz.prog 100 0 = some (76, 1, []) := by kernel_rfl
@[simp] theorem cl_146 : callable Tryz.prog 146 = true := by kernel_rfl
@[simp] theorem cl_230 : callable Tryz.prog 230 = true := by kernel_rfl
@[simp] theorem cl_148 : callable Tryz.prog 148 = true := by kernel_rfl
@[simp] theorem cl_149 : callable Tryz.prog 149 = true := by kernel_rfl
@[simp] theorem ui_21 : Tryz.prog.underlying 21 = some (.int .i32) := by kernel_rfl
@[simp] theorem cl_231 : callable Tryz.prog 231 = true := by kernel_rfl
@[simp] theorem cl_232 : callable Tryz.prog 232 = true := by kernel_rfl
@[simp] theorem cl_233 : callable Tryz.prog 233 = true := by kernel_rfl
@[simp] theorem cl_234 : callable Tryz.prog 234 = true := by kernel_rfl
@[simp] theorem zr_9 : zeroOf Tryz.prog 9 = some (.string ⟨#[]⟩) := by kernel_rfl
@[simp] theorem cl_235 : callable Tryz.prog 235 = true := by kernel_rfl
@[simp] theorem ag_192 : aggB Tryz.prog 192 = some false := by kernel_rfl
@[simp] theorem sz_192 : szOf Tryz.prog 192 = some 1 := by kernel_rfl
@[simp] theorem cl_154 : callable Tryz.prog 154 = true := by kernel_rfl
@[simp] theorem ln_325 (a : Option Addr) (n c : Nat) : aLen Tryz.prog 325 (.slice a n c) = ret (.int .i64 n) := by kernel_rfl
@[simp] theorem ia_325 (b o n c : Nat) (i : Int) (h : 0 ≤ i ∧ i < n) : aIndexAddr Tryz.prog 325 (.slice (some ⟨b, o, none⟩) n c) (.int .i64 i) = ret (.pointer (some ⟨b, o + i.toNat * 1, none⟩)) := (show _ = ite (0 ≤ i ∧ i < (n : Int)) (ret _) fail by kernel_rfl).trans (if_pos h)
@[simp] theorem ag_20 : aggB Tryz.prog 20 = some false := by kernel_rfl
@[simp] theorem sz_20 : szOf Tryz.prog 20 = some 1 := by kernel_rfl
@[simp] theorem cl_237 : callable Tryz.prog 237 = true := by kernel_rfl
@[simp] theorem cl_236 : callable Tryz.prog 236 = true := by kernel_rfl
@[simp] theorem ia_327 (b o : Nat) (i : Int) (h : 0 ≤ i ∧ i < 20) : aIndexAddr Tryz.prog 327 (.pointer (some ⟨b, o, none⟩)) (.int .i64 i) = ret (.pointer (some ⟨b, o + i.toNat * 1, none⟩)) := (show _ = ite (0 ≤ i ∧ i < 20) (ret _) fail by kernel_rfl).trans (if_pos h)
@[simp] theorem ag_263 : aggB Tryz.prog 263 = some false := by kernel_rfl
@[simp] theorem sz_263 : szOf Tryz.prog 263 = some 1 := by kernel_rfl
@[simp] theorem cl_238 : callable Tryz.prog 238 = true := by kernel_rfl
@[simp] theorem zr_328 : zeroOf Tryz.prog 328 = some (.agg #[.int .u8 0, .int .u8 0, .int .u8 0, .int .u8 0, .int .u8 0, .int .u8 0, .int .u8 0, .int .u8 0, .int .u8 0, .int .u8 0, .int .u8 0, .int .u8 0, .int .u8 0, .int .u8 0, .int .u8 0, .int .u8 0, .int .u8 0, .int .u8 0, .int .u8 0, .int .u8 0, .int .u8 0, .int .u8 0, .int .u8 0, .int .u8 0, .int .u8 0, .int .u8 0, .int .u8 0, .int .u8 0, .int .u8 0, .int .u8 0, .int .u8 0, .int .u8 0, .int .u8 0, .int .u8 0, .int .u8 0, .int .u8 0, .int .u8 0, .int .u8 0, .int .u8 0, .int .u8 0, .int .u8 0, .int .u8 0, .int .u8 0, .int .u8 0, .int .u8 0, .int .u8 0, .int .u8 0, .int .u8 0, .int .u8 0, .int .u8 0, .int .u8 0, .int .u8 0, .int .u8 0, .int .u8 0, .int .u8 0, .int .u8 0, .int .u8 0, .int .u8 0, .int .u8 0, .int .u8 0, .int .u8 0, .int .u8 0, .int .u8 0, .int .u8 0, .int .u8 0]) := by kernel_rfl
@[simp] theorem cl_239 : callable Tryz.prog 239 = true := by kernel_rfl
@[simp] theorem ui_129 : Tryz.prog.underlying 129 = some (.int .u64) := by kernel_rfl
@[simp] theorem cl_240 : callable Tryz.prog 240 = true := by kernel_rfl
@[simp] theorem ia_328 (b o : Nat) (i : Int) (h : 0 ≤ i ∧ i < 65) : aIndexAddr Tryz.prog 328 (.pointer (some ⟨b, o, none⟩)) (.int .i64 i) = ret (.pointer (some ⟨b, o + i.toNat * 1, none⟩)) := (show _ = ite (0 ≤ i ∧ i < 65) (ret _) fail by kernel_rfl).trans (if_pos h)
@[simp] theorem fa_56_0 (b o : Nat) : aFieldAddr Tryz.prog 56 (.pointer (some ⟨b, o, none⟩)) 0 = ret (.pointer (some ⟨b, o + 0, none⟩)) := by kernel_rfl
@[simp] theorem fa_56_1 (b o : Nat) : aFieldAddr Tryz.prog 56 (.pointer (some ⟨b, o, none⟩)) 1 = ret (.pointer (some ⟨b, o + 1, none⟩)) := by kernel_rfl
@[simp] theorem fa_56_2 (b o : Nat) : aFieldAddr Tryz.prog 56 (.pointer (some ⟨b, o, none⟩)) 2 = ret (.pointer (some ⟨b, o + 2, none⟩)) := by kernel_rfl
@[simp] theorem fa_56_3 (b o : Nat) : aFieldAddr Tryz.prog 56 (.pointer (some ⟨b, o, none⟩)) 3 = ret (.pointer (some ⟨b, o + 3, none⟩)) := by kernel_rfl
@[simp] theorem fa_56_4 (b o : Nat) : aFieldAddr Tryz.prog 56 (.pointer (some ⟨b, o, none⟩)) 4 = ret (.pointer (some ⟨b, o + 4, none⟩)) := by kernel_rfl
@[simp] theorem bu_105 : stat Tryz.prog (bInfo 105) = some (#[], some 1, [.int .i64 0, .int .i64 0, .int .i64 0, .int .i64 0, .int .i64 0].toArray) := by kernel_rfl
@[simp] theorem zr_105 : zeroOf Tryz.prog 105 = some (.agg #[.int .i64 0, .int .i64 0, .int .i64 0, .int .i64 0, .int .i64 0]) := by kernel_rfl
@[simp] theorem ix_105 (cs : Array Value) (i : Int) (h : 0 ≤ i ∧ i < 5) : aIndex Tryz.prog 105 (.agg cs) (.int .i64 i) = ofOpt cs[i.toNat * 1]? := (show _ = ite (0 ≤ i ∧ i < 5) (ofOpt _) fail by kernel_rfl).trans (if_pos h)
@[simp] theorem bs_22_4 : bsCells Tryz.prog 22 4 = some (3, 1, [.int .i64 0, .int .i64 0, .int .i64 0, .int .i64 0]) := by kernel_rfl
@[simp] theorem cl_241 : callable Tryz.prog 241 = true := by kernel_rfl
@[simp] theorem bs_22_2 : bsCells Tryz.prog 22 2 = some (3, 1, [.int .i64 0, .int .i64 0]) := by kernel_rfl
@[simp] theorem cl_242 : callable Tryz.prog 242 = true := by kernel_rfl
@[simp] theorem cl_243 : callable Tryz.prog 243 = true := by kernel_rfl
@[simp] theorem fa_182_1 (b o : Nat) : aFieldAddr Tryz.prog 182 (.pointer (some ⟨b, o, none⟩)) 1 = ret (.pointer (some ⟨b, o + 5, none⟩)) := by kernel_rfl
@[simp] theorem cl_244 : callable Tryz.prog 244 = true := by kernel_rfl
@[simp] theorem cl_245 : callable Tryz.prog 245 = true := by kernel_rfl
@[simp] theorem cl_246 : callable Tryz.prog 246 = true := by kernel_rfl
@[simp] theorem fa_241_0 (b o : Nat) : aFieldAddr Tryz.prog 241 (.pointer (some ⟨b, o, none⟩)) 0 = ret (.pointer (some ⟨b, o + 0, none⟩)) := by kernel_rfl
@[simp] theorem cl_247 : callable Tryz.prog 247 = true := by kernel_rfl
@[simp] theorem cl_248 : callable Tryz.prog 248 = true := by kernel_rfl
@[simp] theorem cl_249 : callable Tryz.prog 249 = true := by kernel_rfl
@[simp] theorem bs_170_0 : bsCells Tryz.prog 170 0 = some (150, 8, []) := by kernel_rfl
@[simp] theorem cl_251 : callable Tryz.prog 251 = true := by kernel_rfl
@[simp] theorem fa_241_1 (b o : Nat) : aFieldAddr Tryz.prog 241 (.pointer (some ⟨b, o, none⟩)) 1 = ret (.pointer (some ⟨b, o + 1, none⟩)) := by kernel_rfl
@[simp] theorem cl_252 : callable Tryz.prog 252 = true := by kernel_rfl
@[simp] theorem cl_254 : callable Tryz.prog 254 = true := by kernel_rfl
@[simp] theorem cl_253 : callable Tryz.prog 253 = true := by kernel_rfl
@[simp] theorem ia_247 (b o n c : Nat) (i : Int) (h : 0 ≤ i ∧ i < n) : aIndexAddr Tryz.prog 247 (.slice (some ⟨b, o, none⟩) n c) (.int .i64 i) = ret (.pointer (some ⟨b, o + i.toNat * 2, none⟩)) := (show _ = ite (0 ≤ i ∧ i < (n : Int)) (ret _) fail by kernel_rfl).trans (if_pos h)
@[simp] theorem ag_340 : aggB Tryz.prog 340 = some true := by kernel_rfl
@[simp] theorem sz_340 : szOf Tryz.prog 340 = some 2 := by kernel_rfl
@[simp] theorem cl_255 : callable Tryz.prog 255 = true := by kernel_rfl
@[simp] theorem el_247 : elemT Tryz.prog 247 = some 340 := by kernel_rfl
@[simp] theorem ln_336 (a : Option Addr) (n c : Nat) : aLen Tryz.prog 336 (.slice a n c) = ret (.int .i64 n) := by kernel_rfl
@[simp] theorem el_336 : elemT Tryz.prog 336 = some 387 := by kernel_rfl
@[simp] theorem sz_387 : szOf Tryz.prog 387 = some 2 := by kernel_rfl
@[simp] theorem fa_244_6 (b o : Nat) : aFieldAddr Tryz.prog 244 (.pointer (some ⟨b, o, none⟩)) 6 = ret (.pointer (some ⟨b, o + 6, none⟩)) := by kernel_rfl
@[simp] theorem bs_22_3 : bsCells Tryz.prog 22 3 = some (3, 1, [.int .i64 0, .int .i64 0, .int .i64 0]) := by kernel_rfl
@[simp] theorem cl_256 : callable Tryz.prog 256 = true := by kernel_rfl
@[simp] theorem ln_100 (a : Option Addr) (n c : Nat) : aLen Tryz.prog 100 (.slice a n c) = ret (.int .i64 n) := by kernel_rfl
@[simp] theorem ia_100 (b o n c : Nat) (i : Int) (h : 0 ≤ i ∧ i < n) : aIndexAddr Tryz.prog 100 (.slice (some ⟨b, o, none⟩) n c) (.int .i64 i) = ret (.pointer (some ⟨b, o + i.toNat * 1, none⟩)) := (show _ = ite (0 ≤ i ∧ i < (n : Int)) (ret _) fail by kernel_rfl).trans (if_pos h)
@[simp] theorem mt_242 : mapT Tryz.prog 242 = some (76, 342) := by kernel_rfl
@[simp] theorem zr_342 : zeroOf Tryz.prog 342 = some (.agg #[.string ⟨#[]⟩, .int .u32 0]) := by kernel_rfl
@[simp] theorem ff_342_0 (cs : Array Value) : aField Tryz.prog 342 (.agg cs) 0 = ofOpt cs[0]? := by kernel_rfl
@[simp] theorem cl_257 : callable Tryz.prog 257 = true := by kernel_rfl
@[simp] theorem fa_313_0 (b o : Nat) : aFieldAddr Tryz.prog 313 (.pointer (some ⟨b, o, none⟩)) 0 = ret (.pointer (some ⟨b, o + 0, none⟩)) := by kernel_rfl
@[simp] theorem cl_258 : callable Tryz.prog 258 = true := by kernel_rfl
@[simp] theorem cl_259 : callable Tryz.prog 259 = true := by kernel_rfl
@[simp] theorem cl_260 : callable Tryz.prog 260 = true := by kernel_rfl
@[simp] theorem fa_313_2 (b o : Nat) : aFieldAddr Tryz.prog 313 (.pointer (some ⟨b, o, none⟩)) 2 = ret (.pointer (some ⟨b, o + 2, none⟩)) := by kernel_rfl
@[simp] theorem fa_313_6 (b o : Nat) : aFieldAddr Tryz.prog 313 (.pointer (some ⟨b, o, none⟩)) 6 = ret (.pointer (some ⟨b, o + 6, none⟩)) := by kernel_rfl
@[simp] theorem cl_261 : callable Tryz.prog 261 = true := by kernel_rfl
@[simp] theorem cl_262 : callable Tryz.prog 262 = true := by kernel_rfl
@[simp] theorem ln_346 (a : Option Addr) (n c : Nat) : aLen Tryz.prog 346 (.slice a n c) = ret (.int .i64 n) := by kernel_rfl
@[simp] theorem ia_346 (b o n c : Nat) (i : Int) (h : 0 ≤ i ∧ i < n) : aIndexAddr Tryz.prog 346 (.slice (some ⟨b, o, none⟩) n c) (.int .i64 i) = ret (.pointer (some ⟨b, o + i.toNat * 1, none⟩)) := (show _ = ite (0 ≤ i ∧ i < (n : Int)) (ret _) fail by kernel_rfl).trans (if_pos h)
@[simp] theorem cl_263 : callable Tryz.prog 263 = true := by kernel_rfl
@[simp] theorem cl_264 : callable Tryz.prog 264 = true := by kernel_rfl
@[simp] theorem bs_66_4 : bsCells Tryz.prog 66 4 = some (5, 1, [.int .u8 0, .int .u8 0, .int .u8 0, .int .u8 0]) := by kernel_rfl
@[simp] theorem cl_265 : callable Tryz.prog 265 = true := by kernel_rfl
@[simp] theorem cl_266 : callable Tryz.prog 266 = true := by kernel_rfl
@[simp] theorem ff_313_7 (cs : Array Value) : aField Tryz.prog 313 (.agg cs) 7 = ofOpt cs[7]? := by kernel_rfl
@[simp] theorem bu_350 : stat Tryz.prog (bInfo 350) = some (#[], some 1, [.string ⟨#[]⟩, .string ⟨#[]⟩, .string ⟨#[]⟩, .string ⟨#[]⟩, .string ⟨#[]⟩, .string ⟨#[]⟩, .string ⟨#[]⟩, .string ⟨#[]⟩, .string ⟨#[]⟩, .string ⟨#[]⟩, .string ⟨#[]⟩, .string ⟨#[]⟩, .string ⟨#[]⟩, .string ⟨#[]⟩, .string ⟨#[]⟩, .string ⟨#[]⟩].toArray) := by kernel_rfl
@[simp] theorem zr_350 : zeroOf Tryz.prog 350 = some (.agg #[.string ⟨#[]⟩, .string ⟨#[]⟩, .string ⟨#[]⟩, .string ⟨#[]⟩, .string ⟨#[]⟩, .string ⟨#[]⟩, .string ⟨#[]⟩, .string ⟨#[]⟩, .string ⟨#[]⟩, .string ⟨#[]⟩, .string ⟨#[]⟩, .string ⟨#[]⟩, .string ⟨#[]⟩, .string ⟨#[]⟩, .string ⟨#[]⟩, .string ⟨#[]⟩]) := by kernel_rfl
@[simp] theorem ix_350 (cs : Array Value) (i : Int) (h : 0 ≤ i ∧ i < 16) : aIndex Tryz.prog 350 (.agg cs) (.int .i64 i) = ofOpt cs[i.toNat * 1]? := (show _ = ite (0 ≤ i ∧ i < 16) (ofOpt _) fail by kernel_rfl).trans (if_pos h)
@[simp] theorem cl_267 : callable Tryz.prog 267 = true := by kernel_rfl
@[simp] theorem cl_268 : callable Tryz.prog 268 = true := by kernel_rfl
@[simp] theorem cl_269 : callable Tryz.prog 269 = true := by kernel_rfl
@[simp] theorem cl_270 : callable Tryz.prog 270 = true := by kernel_rfl
@[simp] theorem bu_244 : stat Tryz.prog (bInfo 244) = some (#[(0, 1), (1, 1), (2, 1), (3, 1), (4, 1), (5, 1), (6, 1), (7, 1), (8, 1), (9, 1)], none, [.int .u32 0, .int .u32 0, .int .u32 0, .int .u32 0, .int .u32 0, .int .i64 0, .int .i64 0, .pointer none, .map none, .slice none 0 0].toArray) := by kernel_rfl
@[simp] theorem zr_244 : zeroOf Tryz.prog 244 = some (.agg #[.int .u32 0, .int .u32 0, .int .u32 0, .int .u32 0, .int .u32 0, .int .i64 0, .int .i64 0, .pointer none, .map none, .slice none 0 0]) := by kernel_rfl
@[simp] theorem mt_246 : mapT Tryz.prog 246 = some (76, 9) := by kernel_rfl
@[simp] theorem bu_249 : stat Tryz.prog (bInfo 249) = some (#[(0, 1), (1, 1), (2, 1), (3, 1), (4, 1), (5, 1), (6, 1)], none, [.int .u32 0, .int .u32 0, .int .u32 0, .int .i64 0, .map none, .slice none 0 0, .slice none 0 0].toArray) := by kernel_rfl
@[simp] theorem zr_249 : zeroOf Tryz.prog 249 = some (.agg #[.int .u32 0, .int .u32 0, .int .u32 0, .int .i64 0, .map none, .slice none 0 0, .slice none 0 0]) := by kernel_rfl
@[simp] theorem cl_271 : callable Tryz.prog 271 = true := by kernel_rfl
@[simp] theorem bu_303 : stat Tryz.prog (bInfo 303) = some (#[(0, 1), (1, 6)], none, [.pointer none, .slice none 0 0, .slice none 0 0, .bool false, .bool false, .int .u32 0, .int .i64 0].toArray) := by kernel_rfl
@[simp] theorem zr_303 : zeroOf Tryz.prog 303 = some (.agg #[.pointer none, .slice none 0 0, .slice none 0 0, .bool false, .bool false, .int .u32 0, .int .i64 0]) := by kernel_rfl
@[simp] theorem fa_303_1 (b o : Nat) : aFieldAddr Tryz.prog 303 (.pointer (some ⟨b, o, none⟩)) 1 = ret (.pointer (some ⟨b, o + 1, none⟩)) := by kernel_rfl
@[simp] theorem fa_303_0 (b o : Nat) : aFieldAddr Tryz.prog 303 (.pointer (some ⟨b, o, none⟩)) 0 = ret (.pointer (some ⟨b, o + 0, none⟩)) := by kernel_rfl
@[simp] theorem fa_99_3 (b o : Nat) : aFieldAddr Tryz.prog 99 (.pointer (some ⟨b, o, none⟩)) 3 = ret (.pointer (some ⟨b, o + 3, none⟩)) := by kernel_rfl
@[simp] theorem fa_239_0 (b o : Nat) : aFieldAddr Tryz.prog 239 (.pointer (some ⟨b, o, none⟩)) 0 = ret (.pointer (some ⟨b, o + 0, none⟩)) := by kernel_rfl
@[simp] theorem cl_204 : callable Tryz.prog 204 = true := by kernel_rfl
@[simp] theorem cl_205 : callable Tryz.prog 205 = true := by kernel_rfl
@[simp] theorem cl_206 : callable Tryz.prog 206 = true := by kernel_rfl
@[simp] theorem cl_207 : callable Tryz.prog 207 = true := by kernel_rfl
@[simp] theorem cl_208 : callable Tryz.prog 208 = true := by kernel_rfl
@[simp] theorem fa_239_2 (b o : Nat) : aFieldAddr Tryz.prog 239 (.pointer (some ⟨b, o, none⟩)) 2 = ret (.pointer (some ⟨b, o + 7, none⟩)) := by kernel_rfl
@[simp] theorem cl_272 : callable Tryz.prog 272 = true := by kernel_rfl
@[simp] theorem cl_210 : callable Tryz.prog 210 = true := by kernel_rfl
@[simp] theorem cl_274 : callable Tryz.prog 274 = true := by kernel_rfl
@[simp] theorem cl_273 : callable Tryz.prog 273 = true := by kernel_rfl
@[simp] theorem cl_276 : callable Tryz.prog 276 = true := by kernel_rfl
@[simp] theorem cl_275 : callable Tryz.prog 275 = true := by kernel_rfl
@[simp] theorem cl_277 : callable Tryz.prog 277 = true := by kernel_rfl
@[simp] theorem zr_357 : zeroOf Tryz.prog 357 = some (.agg #[.bool false, .bool false, .bool false, .bool false, .bool false, .bool false, .bool false, .bool false, .bool false, .bool false, .bool false, .bool false, .bool false, .bool false, .bool false, .bool false, .bool false, .bool false, .bool false, .bool false, .bool false, .bool false, .bool false, .bool false, .bool false, .bool false, .bool false, .bool false, .bool false, .bool false, .bool false, .bool false, .bool false, .bool false, .bool false, .bool false, .bool false, .bool false, .bool false, .bool false, .bool false, .bool false, .bool false, .bool false, .bool false, .bool false, .bool false, .bool false, .bool false, .bool false, .bool false, .bool false, .bool false, .bool false, .bool false, .bool false, .bool false, .bool false, .bool false, .bool false, .bool false, .bool false, .bool false, .bool false, .bool false, .bool false, .bool false, .bool false, .bool false, .bool false, .bool false, .bool false, .bool false, .bool false, .bool false, .bool false, .bool false, .bool false, .bool false, .bool false, .bool false, .bool false, .bool false, .bool false, .bool false, .bool false, .bool false, .bool false, .bool false, .bool false, .bool false, .bool false, .bool false, .bool false, .bool false, .bool false, .bool false, .bool false, .bool false, .bool false, .bool false, .bool false, .bool false, .bool false, .bool false, .bool false, .bool false, .bool false, .bool false, .bool false, .bool false, .bool false, .bool false, .bool false, .bool false, .bool false, .bool false, .bool false, .bool false, .bool false, .bool false, .bool false, .bool false, .bool false, .bool false, .bool false, .bool false, .bool false, .bool false, .bool false, .bool false, .bool false, .bool false, .bool false, .bool false, .bool false, .bool false, .bool false, .bool false, .bool false, .bool false, .bool false, .bool false, .bool false, .bool false, .bool false, .bool false, .bool false, .bool false, .bool false, .bool false, .bool false, .bool false, .bool false, .bool false, .bool false, .bool false, .bool false, .bool false, .bool false, .bool false, .bool false, .bool false, .bool false, .bool false, .bool false, .bool false, .bool false, .bool false, .bool false, .bool false, .bool false, .bool false, .bool false, .bool false, .bool false, .bool false, .bool false, .bool false, .bool false, .bool false, .bool false, .bool false, .bool false, .bool false, .bool false, .bool false, .bool false, .bool false, .bool false, .bool false, .bool false, .bool false, .bool false, .bool false, .bool false, .bool false, .bool false, .bool false, .bool false, .bool false, .bool false, .bool false, .bool false, .bool false, .bool false, .bool false, .bool false, .bool false, .bool false, .bool false, .bool false, .bool false, .bool false, .bool false, .bool false, .bool false, .bool false, .bool false, .bool false, .bool false, .bool false, .bool false, .bool false, .bool false, .bool false, .bool false, .bool false, .bool false, .bool false, .bool false, .bool false, .bool false, .bool false, .bool false, .bool false, .bool false, .bool false, .bool false, .bool false, .bool false, .bool false, .bool false, .bool false, .bool false, .bool false, .bool false, .bool false, .bool false, .bool false, .bool false, .bool false, .bool false, .bool false, .bool false, .bool false]) := by kernel_rfl
@[simp] theorem sz_357 : szOf Tryz.prog 357 = some 256 := by kernel_rfl
@[simp] theorem cl_279 : callable Tryz.prog 279 = true := by kernel_rfl
@[simp] theorem cl_278 : callable Tryz.prog 278 = true := by kernel_rfl
@[simp] theorem cl_281 : callable Tryz.prog 281 = true := by kernel_rfl
@[simp] theorem cl_280 : callable Tryz.prog 280 = true := by kernel_rfl
@[simp] theorem cl_282 : callable Tryz.prog 282 = true := by kernel_rfl
@[simp] theorem bu_313 : stat Tryz.prog (bInfo 313) = some (#[(0, 1), (1, 1), (2, 1), (3, 1), (4, 1), (5, 1), (6, 1), (7, 1)], none, [.int .i64 0, .bool false, .bool false, .int .i64 0, .bool false, .bool false, .bool false, .bool false].toArray) := by kernel_rfl
@[simp] theorem cl_283 : callable Tryz.prog 283 = true := by kernel_rfl
@[simp] theorem cl_284 : callable Tryz.prog 284 = true := by kernel_rfl
@[simp] theorem cl_285 : callable Tryz.prog 285 = true := by kernel_rfl
@[simp] theorem cl_286 : callable Tryz.prog 286 = true := by kernel_rfl
@[simp] theorem cl_287 : callable Tryz.prog 287 = true := by kernel_rfl
@[simp] theorem cl_288 : callable Tryz.prog 288 = true := by kernel_rfl
@[simp] theorem cl_289 : callable Tryz.prog 289 = true := by kernel_rfl
@[simp] theorem cl_290 : callable Tryz.prog 290 = true := by kernel_rfl
@[simp] theorem ag_239 : aggB Tryz.prog 239 = some true := by kernel_rfl
@[simp] theorem sz_239 : szOf Tryz.prog 239 = some 8 := by kernel_rfl
@[simp] theorem ag_182 : aggB Tryz.prog 182 = some true := by kernel_rfl
@[simp] theorem sz_182 : szOf Tryz.prog 182 = some 10 := by kernel_rfl
@[simp] theorem fa_241_3 (b o : Nat) : aFieldAddr Tryz.prog 241 (.pointer (some ⟨b, o, none⟩)) 3 = ret (.pointer (some ⟨b, o + 3, none⟩)) := by kernel_rfl
@[simp] theorem ag_244 : aggB Tryz.prog 244 = some true := by kernel_rfl
@[simp] theorem sz_244 : szOf Tryz.prog 244 = some 10 := by kernel_rfl
@[simp] theorem cl_294 : callable Tryz.prog 294 = true := by kernel_rfl
@[simp] theorem ag_249 : aggB Tryz.prog 249 = some true := by kernel_rfl
@[simp] theorem sz_249 : szOf Tryz.prog 249 = some 7 := by kernel_rfl
@[simp] theorem cl_295 : callable Tryz.prog 295 = true := by kernel_rfl
@[simp] theorem cl_296 : callable Tryz.prog 296 = true := by kernel_rfl
@[simp] theorem ff_104_5 (cs : Array Value) : aField Tryz.prog 104 (.agg cs) 5 = ofOpt cs[5]? := by kernel_rfl
@[simp] theorem ia_376 (b o : Nat) (i : Int) (h : 0 ≤ i ∧ i < 256) : aIndexAddr Tryz.prog 376 (.pointer (some ⟨b, o, none⟩)) (.int .i64 i) = ret (.pointer (some ⟨b, o + i.toNat * 1, none⟩)) := (show _ = ite (0 ≤ i ∧ i < 256) (ret _) fail by kernel_rfl).trans (if_pos h)
@[simp] theorem ia_379 (b o : Nat) (i : Int) (h : 0 ≤ i ∧ i < 16) : aIndexAddr Tryz.prog 379 (.pointer (some ⟨b, o, none⟩)) (.int .i64 i) = ret (.pointer (some ⟨b, o + i.toNat * 2, none⟩)) := (show _ = ite (0 ≤ i ∧ i < 16) (ret _) fail by kernel_rfl).trans (if_pos h)
@[simp] theorem ag_378 : aggB Tryz.prog 378 = some true := by kernel_rfl
@[simp] theorem sz_378 : szOf Tryz.prog 378 = some 2 := by kernel_rfl
@[simp] theorem zr_378 : zeroOf Tryz.prog 378 = some (.agg #[.int .u8 0, .int .u8 0]) := by kernel_rfl
@[simp] theorem fa_378_0 (b o : Nat) : aFieldAddr Tryz.prog 378 (.pointer (some ⟨b, o, none⟩)) 0 = ret (.pointer (some ⟨b, o + 0, none⟩)) := by kernel_rfl
@[simp] theorem fa_378_1 (b o : Nat) : aFieldAddr Tryz.prog 378 (.pointer (some ⟨b, o, none⟩)) 1 = ret (.pointer (some ⟨b, o + 1, none⟩)) := by kernel_rfl
@[simp] theorem cl_297 : callable Tryz.prog 297 = true := by kernel_rfl
@[simp] theorem cl_299 : callable Tryz.prog 299 = true := by kernel_rfl
@[simp] theorem cl_300 : callable Tryz.prog 300 = true := by kernel_rfl
@[simp] theorem cl_301 : callable Tryz.prog 301 = true := by kernel_rfl
@[simp] theorem cl_303 : callable Tryz.prog 303 = true := by kernel_rfl
@[simp] theorem cl_304 : callable Tryz.prog 304 = true := by kernel_rfl
@[simp] theorem cl_305 : callable Tryz.prog 305 = true := by kernel_rfl
@[simp] theorem cl_250 : callable Tryz.prog 250 = true := by kernel_rfl
@[simp] theorem cl_306 : callable Tryz.prog 306 = true := by kernel_rfl
@[simp] theorem cl_307 : callable Tryz.prog 307 = true := by kernel_rfl
@[simp] theorem cl_308 : callable Tryz.prog 308 = true := by kernel_rfl
@[simp] theorem fa_249_3 (b o : Nat) : aFieldAddr Tryz.prog 249 (.pointer (some ⟨b, o, none⟩)) 3 = ret (.pointer (some ⟨b, o + 3, none⟩)) := by kernel_rfl
@[simp] theorem cl_309 : callable Tryz.prog 309 = true := by kernel_rfl
@[simp] theorem bu_387 : stat Tryz.prog (bInfo 387) = some (#[(0, 1), (1, 1)], none, [.int .i64 0, .int .i64 0].toArray) := by kernel_rfl
@[simp] theorem zr_387 : zeroOf Tryz.prog 387 = some (.agg #[.int .i64 0, .int .i64 0]) := by kernel_rfl
@[simp] theorem bs_335_1 : bsCells Tryz.prog 335 1 = some (387, 2, [.int .i64 0, .int .i64 0]) := by kernel_rfl
@[simp] theorem cl_311 : callable Tryz.prog 311 = true := by kernel_rfl
@[simp] theorem cl_310 : callable Tryz.prog 310 = true := by kernel_rfl
@[simp] theorem ia_336 (b o n c : Nat) (i : Int) (h : 0 ≤ i ∧ i < n) : aIndexAddr Tryz.prog 336 (.slice (some ⟨b, o, none⟩) n c) (.int .i64 i) = ret (.pointer (some ⟨b, o + i.toNat * 2, none⟩)) := (show _ = ite (0 ≤ i ∧ i < (n : Int)) (ret _) fail by kernel_rfl).trans (if_pos h)
@[simp] theorem ag_387 : aggB Tryz.prog 387 = some true := by kernel_rfl
@[simp] theorem fa_387_0 (b o : Nat) : aFieldAddr Tryz.prog 387 (.pointer (some ⟨b, o, none⟩)) 0 = ret (.pointer (some ⟨b, o + 0, none⟩)) := by kernel_rfl
@[simp] theorem fa_387_1 (b o : Nat) : aFieldAddr Tryz.prog 387 (.pointer (some ⟨b, o, none⟩)) 1 = ret (.pointer (some ⟨b, o + 1, none⟩)) := by kernel_rfl
@[simp] theorem bs_100_2 : bsCells Tryz.prog 100 2 = some (76, 1, [.int .u32 0, .int .u32 0]) := by kernel_rfl
@[simp] theorem cl_312 : callable Tryz.prog 312 = true := by kernel_rfl
@[simp] theorem fa_340_1 (b o : Nat) : aFieldAddr Tryz.prog 340 (.pointer (some ⟨b, o, none⟩)) 1 = ret (.pointer (some ⟨b, o + 1, none⟩)) := by kernel_rfl
@[simp] theorem fa_340_0 (b o : Nat) : aFieldAddr Tryz.prog 340 (.pointer (some ⟨b, o, none⟩)) 0 = ret (.pointer (some ⟨b, o + 0, none⟩)) := by kernel_rfl
@[simp] theorem bu_342 : stat Tryz.prog (bInfo 342) = some (#[(0, 1), (1, 1)], none, [.string ⟨#[]⟩, .int .u32 0].toArray) := by kernel_rfl
@[simp] theorem cl_313 : callable Tryz.prog 313 = true := by kernel_rfl
@[simp] theorem cl_314 : callable Tryz.prog 314 = true := by kernel_rfl
@[simp] theorem cl_44 : callable Tryz.prog 44 = true := by kernel_rfl
@[simp] theorem cl_315 : callable Tryz.prog 315 = true := by kernel_rfl
@[simp] theorem bs_346_1 : bsCells Tryz.prog 346 1 = some (35, 1, [.int .u32 0]) := by kernel_rfl
@[simp] theorem ap_346 : apInfo Tryz.prog 346 = some (35, 1, 4) := by kernel_rfl
@[simp] theorem ag_357 : aggB Tryz.prog 357 = some true := by kernel_rfl
@[simp] theorem ia_357 (b o : Nat) (i : Int) (h : 0 ≤ i ∧ i < 256) : aIndexAddr Tryz.prog 357 (.pointer (some ⟨b, o, none⟩)) (.int .i64 i) = ret (.pointer (some ⟨b, o + i.toNat * 1, none⟩)) := (show _ = ite (0 ≤ i ∧ i < 256) (ret _) fail by kernel_rfl).trans (if_pos h)
@[simp] theorem cl_316 : callable Tryz.prog 316 = true := by kernel_rfl
@[simp] theorem cl_317 : callable Tryz.prog 317 = true := by kernel_rfl
@[simp] theorem cl_318 : callable Tryz.prog 318 = true := by kernel_rfl
@[simp] theorem cl_319 : callable Tryz.prog 319 = true := by kernel_rfl
@[simp] theorem bu_340 : stat Tryz.prog (bInfo 340) = some (#[(0, 1), (1, 1)], none, [.int .u32 0, .int .u32 0].toArray) := by kernel_rfl
@[simp] theorem zr_340 : zeroOf Tryz.prog 340 = some (.agg #[.int .u32 0, .int .u32 0]) := by kernel_rfl
@[simp] theorem bs_247_1 : bsCells Tryz.prog 247 1 = some (340, 2, [.int .u32 0, .int .u32 0]) := by kernel_rfl
@[simp] theorem ap_247 : apInfo Tryz.prog 247 = some (340, 2, 8) := by kernel_rfl
@[simp] theorem cl_320 : callable Tryz.prog 320 = true := by kernel_rfl
@[simp] theorem cl_321 : callable Tryz.prog 321 = true := by kernel_rfl
@[simp] theorem cl_322 : callable Tryz.prog 322 = true := by kernel_rfl
@[simp] theorem cl_323 : callable Tryz.prog 323 = true := by kernel_rfl
@[simp] theorem cl_324 : callable Tryz.prog 324 = true := by kernel_rfl
@[simp] theorem cl_326 : callable Tryz.prog 326 = true := by kernel_rfl
@[simp] theorem cl_325 : callable Tryz.prog 325 = true := by kernel_rfl
@[simp] theorem cl_328 : callable Tryz.prog 328 = true := by kernel_rfl
@[simp] theorem cl_291 : callable Tryz.prog 291 = true := by kernel_rfl
@[simp] theorem cl_292 : callable Tryz.prog 292 = true := by kernel_rfl
@[simp] theorem cl_293 : callable Tryz.prog 293 = true := by kernel_rfl
@[simp] theorem cl_329 : callable Tryz.prog 329 = true := by kernel_rfl
@[simp] theorem cl_330 : callable Tryz.prog 330 = true := by kernel_rfl
@[simp] theorem cl_331 : callable Tryz.prog 331 = true := by kernel_rfl
@[simp] theorem cl_332 : callable Tryz.prog 332 = true := by kernel_rfl
@[simp] theorem cl_333 : callable Tryz.prog 333 = true := by kernel_rfl
@[simp] theorem cl_334 : callable Tryz.prog 334 = true := by kernel_rfl
@[simp] theorem cl_335 : callable Tryz.prog 335 = true := by kernel_rfl
@[simp] theorem cl_336 : callable Tryz.prog 336 = true := by kernel_rfl
@[simp] theorem bs_247_0 : bsCells Tryz.prog 247 0 = some (340, 2, []) := by kernel_rfl
@[simp] theorem cl_339 : callable Tryz.prog 339 = true := by kernel_rfl
@[simp] theorem ia_403 (b o : Nat) (i : Int) (h : 0 ≤ i ∧ i < 32) : aIndexAddr Tryz.prog 403 (.pointer (some ⟨b, o, none⟩)) (.int .i64 i) = ret (.pointer (some ⟨b, o + i.toNat * 1, none⟩)) := (show _ = ite (0 ≤ i ∧ i < 32) (ret _) fail by kernel_rfl).trans (if_pos h)
@[simp] theorem ia_404 (b o : Nat) (i : Int) (h : 0 ≤ i ∧ i < 64) : aIndexAddr Tryz.prog 404 (.pointer (some ⟨b, o, none⟩)) (.int .i64 i) = ret (.pointer (some ⟨b, o + i.toNat * 1, none⟩)) := (show _ = ite (0 ≤ i ∧ i < 64) (ret _) fail by kernel_rfl).trans (if_pos h)
@[simp] theorem fa_99_4 (b o : Nat) : aFieldAddr Tryz.prog 99 (.pointer (some ⟨b, o, none⟩)) 4 = ret (.pointer (some ⟨b, o + 4, none⟩)) := by kernel_rfl
@[simp] theorem ap_335 : apInfo Tryz.prog 335 = some (387, 2, 16) := by kernel_rfl
@[simp] theorem ln_335 (a : Option Addr) (n c : Nat) : aLen Tryz.prog 335 (.slice a n c) = ret (.int .i64 n) := by kernel_rfl
@[simp] theorem ia_335 (b o n c : Nat) (i : Int) (h : 0 ≤ i ∧ i < n) : aIndexAddr Tryz.prog 335 (.slice (some ⟨b, o, none⟩) n c) (.int .i64 i) = ret (.pointer (some ⟨b, o + i.toNat * 2, none⟩)) := (show _ = ite (0 ≤ i ∧ i < (n : Int)) (ret _) fail by kernel_rfl).trans (if_pos h)
@[simp] theorem cl_340 : callable Tryz.prog 340 = true := by kernel_rfl
@[simp] theorem cl_341 : callable Tryz.prog 341 = true := by kernel_rfl
@[simp] theorem cl_342 : callable Tryz.prog 342 = true := by kernel_rfl
@[simp] theorem cl_343 : callable Tryz.prog 343 = true := by kernel_rfl
@[simp] theorem bs_336_1 : bsCells Tryz.prog 336 1 = some (387, 2, [.int .i64 0, .int .i64 0]) := by kernel_rfl
@[simp] theorem ap_336 : apInfo Tryz.prog 336 = some (387, 2, 16) := by kernel_rfl
@[simp] theorem bs_335_2 : bsCells Tryz.prog 335 2 = some (387, 2, [.int .i64 0, .int .i64 0, .int .i64 0, .int .i64 0]) := by kernel_rfl
@[simp] theorem cl_345 : callable Tryz.prog 345 = true := by kernel_rfl
@[simp] theorem cl_346 : callable Tryz.prog 346 = true := by kernel_rfl
@[simp] theorem cl_347 : callable Tryz.prog 347 = true := by kernel_rfl
@[simp] theorem cl_348 : callable Tryz.prog 348 = true := by kernel_rfl
@[simp] theorem cl_349 : callable Tryz.prog 349 = true := by kernel_rfl
@[simp] theorem cl_350 : callable Tryz.prog 350 = true := by kernel_rfl
@[simp] theorem cl_352 : callable Tryz.prog 352 = true := by kernel_rfl
@[simp] theorem cl_351 : callable Tryz.prog 351 = true := by kernel_rfl
@[simp] theorem cl_353 : callable Tryz.prog 353 = true := by kernel_rfl
@[simp] theorem ff_342_1 (cs : Array Value) : aField Tryz.prog 342 (.agg cs) 1 = ofOpt cs[1]? := by kernel_rfl
@[simp] theorem cl_354 : callable Tryz.prog 354 = true := by kernel_rfl
@[simp] theorem cl_356 : callable Tryz.prog 356 = true := by kernel_rfl
@[simp] theorem cl_355 : callable Tryz.prog 355 = true := by kernel_rfl
@[simp] theorem cl_327 : callable Tryz.prog 327 = true := by kernel_rfl
@[simp] theorem bs_22_9 : bsCells Tryz.prog 22 9 = some (3, 1, [.int .i64 0, .int .i64 0, .int .i64 0, .int .i64 0, .int .i64 0, .int .i64 0, .int .i64 0, .int .i64 0, .int .i64 0]) := by kernel_rfl
@[simp] theorem bs_22_11 : bsCells Tryz.prog 22 11 = some (3, 1, [.int .i64 0, .int .i64 0, .int .i64 0, .int .i64 0, .int .i64 0, .int .i64 0, .int .i64 0, .int .i64 0, .int .i64 0, .int .i64 0, .int .i64 0]) := by kernel_rfl
@[simp] theorem cl_357 : callable Tryz.prog 357 = true := by kernel_rfl
@[simp] theorem cl_359 : callable Tryz.prog 359 = true := by kernel_rfl
@[simp] theorem cl_358 : callable Tryz.prog 358 = true := by kernel_rfl
@[simp] theorem cl_344 : callable Tryz.prog 344 = true := by kernel_rfl
@[simp] theorem cl_360 : callable Tryz.prog 360 = true := by kernel_rfl
@[simp] theorem cl_361 : callable Tryz.prog 361 = true := by kernel_rfl
@[simp] theorem sz_342 : szOf Tryz.prog 342 = some 2 := by kernel_rfl
@[simp] theorem cl_362 : callable Tryz.prog 362 = true := by kernel_rfl
@[simp] theorem cl_363 : callable Tryz.prog 363 = true := by kernel_rfl
@[simp] theorem cl_364 : callable Tryz.prog 364 = true := by kernel_rfl
@[simp] theorem cl_365 : callable Tryz.prog 365 = true := by kernel_rfl
@[simp] theorem cl_366 : callable Tryz.prog 366 = true := by kernel_rfl
@[simp] theorem cl_367 : callable Tryz.prog 367 = true := by kernel_rfl
@[simp] theorem cl_368 : callable Tryz.prog 368 = true := by kernel_rfl
@[simp] theorem cl_369 : callable Tryz.prog 369 = true := by kernel_rfl
@[simp] theorem cl_370 : callable Tryz.prog 370 = true := by kernel_rfl
@[simp] theorem cl_371 : callable Tryz.prog 371 = true := by kernel_rfl
@[simp] theorem cl_372 : callable Tryz.prog 372 = true := by kernel_rfl
@[simp] theorem cl_373 : callable Tryz.prog 373 = true := by kernel_rfl
@[simp] theorem cl_374 : callable Tryz.prog 374 = true := by kernel_rfl
@[simp] theorem cl_375 : callable Tryz.prog 375 = true := by kernel_rfl
@[simp] theorem cl_376 : callable Tryz.prog 376 = true := by kernel_rfl
@[simp] theorem cl_377 : callable Tryz.prog 377 = true := by kernel_rfl
@[simp] theorem cl_378 : callable Tryz.prog 378 = true := by kernel_rfl
@[simp] theorem cl_379 : callable Tryz.prog 379 = true := by kernel_rfl
@[simp] theorem cl_380 : callable Tryz.prog 380 = true := by kernel_rfl
@[simp] theorem cl_381 : callable Tryz.prog 381 = true := by kernel_rfl
@[simp] theorem ui_434 : Tryz.prog.underlying 434 = some (.int .u64) := by kernel_rfl
@[simp] theorem zr_434 : zeroOf Tryz.prog 434 = some (.int .u64 0) := by kernel_rfl
@[simp] theorem sz_434 : szOf Tryz.prog 434 = some 1 := by kernel_rfl
@[simp] theorem cl_382 : callable Tryz.prog 382 = true := by kernel_rfl
@[simp] theorem cl_383 : callable Tryz.prog 383 = true := by kernel_rfl
@[simp] theorem cl_384 : callable Tryz.prog 384 = true := by kernel_rfl
@[simp] theorem cl_385 : callable Tryz.prog 385 = true := by kernel_rfl
@[simp] theorem cl_386 : callable Tryz.prog 386 = true := by kernel_rfl
@[simp] theorem cl_387 : callable Tryz.prog 387 = true := by kernel_rfl
@[simp] theorem cl_388 : callable Tryz.prog 388 = true := by kernel_rfl
@[simp] theorem ag_434 : aggB Tryz.prog 434 = some false := by kernel_rfl
@[simp] theorem cl_389 : callable Tryz.prog 389 = true := by kernel_rfl
@[simp] theorem cl_390 : callable Tryz.prog 390 = true := by kernel_rfl
@[simp] theorem bu_403 : stat Tryz.prog (bInfo 403) = some (#[], some 1, [.int .u8 0, .int .u8 0, .int .u8 0, .int .u8 0, .int .u8 0, .int .u8 0, .int .u8 0, .int .u8 0, .int .u8 0, .int .u8 0, .int .u8 0, .int .u8 0, .int .u8 0, .int .u8 0, .int .u8 0, .int .u8 0, .int .u8 0, .int .u8 0, .int .u8 0, .int .u8 0, .int .u8 0, .int .u8 0, .int .u8 0, .int .u8 0, .int .u8 0, .int .u8 0, .int .u8 0, .int .u8 0, .int .u8 0, .int .u8 0, .int .u8 0, .int .u8 0].toArray) := by kernel_rfl
@[simp] theorem zr_403 : zeroOf Tryz.prog 403 = some (.agg #[.int .u8 0, .int .u8 0, .int .u8 0, .int .u8 0, .int .u8 0, .int .u8 0, .int .u8 0, .int .u8 0, .int .u8 0, .int .u8 0, .int .u8 0, .int .u8 0, .int .u8 0, .int .u8 0, .int .u8 0, .int .u8 0, .int .u8 0, .int .u8 0, .int .u8 0, .int .u8 0, .int .u8 0, .int .u8 0, .int .u8 0, .int .u8 0, .int .u8 0, .int .u8 0, .int .u8 0, .int .u8 0, .int .u8 0, .int .u8 0, .int .u8 0, .int .u8 0]) := by kernel_rfl
@[simp] theorem sz_403 : szOf Tryz.prog 403 = some 32 := by kernel_rfl
@[simp] theorem bu_404 : stat Tryz.prog (bInfo 404) = some (#[], some 1, [.int .u8 0, .int .u8 0, .int .u8 0, .int .u8 0, .int .u8 0, .int .u8 0, .int .u8 0, .int .u8 0, .int .u8 0, .int .u8 0, .int .u8 0, .int .u8 0, .int .u8 0, .int .u8 0, .int .u8 0, .int .u8 0, .int .u8 0, .int .u8 0, .int .u8 0, .int .u8 0, .int .u8 0, .int .u8 0, .int .u8 0, .int .u8 0, .int .u8 0, .int .u8 0, .int .u8 0, .int .u8 0, .int .u8 0, .int .u8 0, .int .u8 0, .int .u8 0, .int .u8 0, .int .u8 0, .int .u8 0, .int .u8 0, .int .u8 0, .int .u8 0, .int .u8 0, .int .u8 0, .int .u8 0, .int .u8 0, .int .u8 0, .int .u8 0, .int .u8 0, .int .u8 0, .int .u8 0, .int .u8 0, .int .u8 0, .int .u8 0, .int .u8 0, .int .u8 0, .int .u8 0, .int .u8 0, .int .u8 0, .int .u8 0, .int .u8 0, .int .u8 0, .int .u8 0, .int .u8 0, .int .u8 0, .int .u8 0, .int .u8 0, .int .u8 0].toArray) := by kernel_rfl
@[simp] theorem zr_404 : zeroOf Tryz.prog 404 = some (.agg #[.int .u8 0, .int .u8 0, .int .u8 0, .int .u8 0, .int .u8 0, .int .u8 0, .int .u8 0, .int .u8 0, .int .u8 0, .int .u8 0, .int .u8 0, .int .u8 0, .int .u8 0, .int .u8 0, .int .u8 0, .int .u8 0, .int .u8 0, .int .u8 0, .int .u8 0, .int .u8 0, .int .u8 0, .int .u8 0, .int .u8 0, .int .u8 0, .int .u8 0, .int .u8 0, .int .u8 0, .int .u8 0, .int .u8 0, .int .u8 0, .int .u8 0, .int .u8 0, .int .u8 0, .int .u8 0, .int .u8 0, .int .u8 0, .int .u8 0, .int .u8 0, .int .u8 0, .int .u8 0, .int .u8 0, .int .u8 0, .int .u8 0, .int .u8 0, .int .u8 0, .int .u8 0, .int .u8 0, .int .u8 0, .int .u8 0, .int .u8 0, .int .u8 0, .int .u8 0, .int .u8 0, .int .u8 0, .int .u8 0, .int .u8 0, .int .u8 0, .int .u8 0, .int .u8 0, .int .u8 0, .int .u8 0, .int .u8 0, .int .u8 0, .int .u8 0]) := by kernel_rfl
@[simp] theorem sz_404 : szOf Tryz.prog 404 = some 64 := by kernel_rfl
@[simp] theorem bu_327 : stat Tryz.prog (bInfo 327) = some (#[], some 1, [.int .u64 0, .int .u64 0, .int .u64 0, .int .u64 0, .int .u64 0, .int .u64 0, .int .u64 0, .int .u64 0, .int .u64 0, .int .u64 0, .int .u64 0, .int .u64 0, .int .u64 0, .int .u64 0, .int .u64 0, .int .u64 0, .int .u64 0, .int .u64 0, .int .u64 0, .int .u64 0].toArray) := by kernel_rfl
@[simp] theorem zr_327 : zeroOf Tryz.prog 327 = some (.agg #[.int .u64 0, .int .u64 0, .int .u64 0, .int .u64 0, .int .u64 0, .int .u64 0, .int .u64 0, .int .u64 0, .int .u64 0, .int .u64 0, .int .u64 0, .int .u64 0, .int .u64 0, .int .u64 0, .int .u64 0, .int .u64 0, .int .u64 0, .int .u64 0, .int .u64 0, .int .u64 0]) := by kernel_rfl
@[simp] theorem sz_327 : szOf Tryz.prog 327 = some 20 := by kernel_rfl
@[simp] theorem bu_378 : stat Tryz.prog (bInfo 378) = some (#[(0, 1), (1, 1)], none, [.int .u8 0, .int .u8 0].toArray) := by kernel_rfl
@[simp] theorem bu_379 : stat Tryz.prog (bInfo 379) = some (#[], some 2, [.int .u8 0, .int .u8 0, .int .u8 0, .int .u8 0, .int .u8 0, .int .u8 0, .int .u8 0, .int .u8 0, .int .u8 0, .int .u8 0, .int .u8 0, .int .u8 0, .int .u8 0, .int .u8 0, .int .u8 0, .int .u8 0, .int .u8 0, .int .u8 0, .int .u8 0, .int .u8 0, .int .u8 0, .int .u8 0, .int .u8 0, .int .u8 0, .int .u8 0, .int .u8 0, .int .u8 0, .int .u8 0, .int .u8 0, .int .u8 0, .int .u8 0, .int .u8 0].toArray) := by kernel_rfl
@[simp] theorem zr_379 : zeroOf Tryz.prog 379 = some (.agg #[.int .u8 0, .int .u8 0, .int .u8 0, .int .u8 0, .int .u8 0, .int .u8 0, .int .u8 0, .int .u8 0, .int .u8 0, .int .u8 0, .int .u8 0, .int .u8 0, .int .u8 0, .int .u8 0, .int .u8 0, .int .u8 0, .int .u8 0, .int .u8 0, .int .u8 0, .int .u8 0, .int .u8 0, .int .u8 0, .int .u8 0, .int .u8 0, .int .u8 0, .int .u8 0, .int .u8 0, .int .u8 0, .int .u8 0, .int .u8 0, .int .u8 0, .int .u8 0]) := by kernel_rfl
@[simp] theorem sz_379 : szOf Tryz.prog 379 = some 32 := by kernel_rfl
@[simp] theorem bu_293 : stat Tryz.prog (bInfo 293) = some (#[], some 1, [.string ⟨#[]⟩, .string ⟨#[]⟩, .string ⟨#[]⟩, .string ⟨#[]⟩, .string ⟨#[]⟩, .string ⟨#[]⟩, .string ⟨#[]⟩, .string ⟨#[]⟩, .string ⟨#[]⟩, .string ⟨#[]⟩, .string ⟨#[]⟩, .string ⟨#[]⟩, .string ⟨#[]⟩].toArray) := by kernel_rfl
@[simp] theorem zr_293 : zeroOf Tryz.prog 293 = some (.agg #[.string ⟨#[]⟩, .string ⟨#[]⟩, .string ⟨#[]⟩, .string ⟨#[]⟩, .string ⟨#[]⟩, .string ⟨#[]⟩, .string ⟨#[]⟩, .string ⟨#[]⟩, .string ⟨#[]⟩, .string ⟨#[]⟩, .string ⟨#[]⟩, .string ⟨#[]⟩, .string ⟨#[]⟩]) := by kernel_rfl
@[simp] theorem sz_293 : szOf Tryz.prog 293 = some 13 := by kernel_rfl
end Go.Proofs.YtlkceignfhnpoaaGreatDoor
