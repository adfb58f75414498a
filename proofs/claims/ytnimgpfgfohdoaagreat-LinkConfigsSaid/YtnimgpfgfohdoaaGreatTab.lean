import Derived.Test.YtnimgpfgfohdoaaGreatAyD
import Derived.Test.YtnimgpfgfohdoaaGreatProg
import Derived.KernelRfl
set_option linter.unusedVariables false
namespace Go.Proofs.YtnimgpfgfohdoaaGreat
open Go AX
@[simp] theorem cl_4 : callable Tryz.prog 4 = true := by kernel_rfl
@[simp] theorem fa_26_0 (b o : Nat) : aFieldAddr Tryz.prog 26 (.pointer (some ⟨b, o, none⟩)) 0 = ret (.pointer (some ⟨b, o + 0, none⟩)) := by kernel_rfl
@[simp] theorem fa_24_6 (b o : Nat) : aFieldAddr Tryz.prog 24 (.pointer (some ⟨b, o, none⟩)) 6 = ret (.pointer (some ⟨b, o + 6, none⟩)) := by kernel_rfl
@[simp] theorem ag_22 : aggB Tryz.prog 22 = some false := by kernel_rfl
@[simp] theorem sz_22 : szOf Tryz.prog 22 = some 1 := by kernel_rfl
@[simp] theorem ln_22 (a : Option Addr) (n c : Nat) : aLen Tryz.prog 22 (.slice a n c) = ret (.int .i64 n) := by kernel_rfl
@[simp] theorem bs_22_5 : bsCells Tryz.prog 22 5 = some (3, 1, [.int .i64 0, .int .i64 0, .int .i64 0, .int .i64 0, .int .i64 0]) := by kernel_rfl
@[simp] theorem fa_26_1 (b o : Nat) : aFieldAddr Tryz.prog 26 (.pointer (some ⟨b, o, none⟩)) 1 = ret (.pointer (some ⟨b, o + 7, none⟩)) := by kernel_rfl
@[simp] theorem cl_5 : callable Tryz.prog 5 = true := by kernel_rfl
@[simp] theorem fa_24_5 (b o : Nat) : aFieldAddr Tryz.prog 24 (.pointer (some ⟨b, o, none⟩)) 5 = ret (.pointer (some ⟨b, o + 5, none⟩)) := by kernel_rfl
@[simp] theorem ag_3 : aggB Tryz.prog 3 = some false := by kernel_rfl
@[simp] theorem sz_3 : szOf Tryz.prog 3 = some 1 := by kernel_rfl
@[simp] theorem ag_26 : aggB Tryz.prog 26 = some true := by kernel_rfl
@[simp] theorem sz_26 : szOf Tryz.prog 26 = some 15 := by kernel_rfl
@[simp] theorem cl_7 : callable Tryz.prog 7 = true := by kernel_rfl
@[simp] theorem cl_6 : callable Tryz.prog 6 = true := by kernel_rfl
@[simp] theorem ag_24 : aggB Tryz.prog 24 = some true := by kernel_rfl
@[simp] theorem sz_24 : szOf Tryz.prog 24 = some 7 := by kernel_rfl
@[simp] theorem cl_8 : callable Tryz.prog 8 = true := by kernel_rfl
@[simp] theorem fa_26_2 (b o : Nat) : aFieldAddr Tryz.prog 26 (.pointer (some ⟨b, o, none⟩)) 2 = ret (.pointer (some ⟨b, o + 14, none⟩)) := by kernel_rfl
@[simp] theorem ip_29 : isPtrT Tryz.prog 29 = true := by kernel_rfl
@[simp] theorem cl_9 : callable Tryz.prog 9 = true := by kernel_rfl
@[simp] theorem bu_26 : stat Tryz.prog (bInfo 26) = some (#[(0, 7), (7, 7), (14, 1)], none, [.int .i64 0, .int .i64 0, .int .i64 0, .int .i64 0, .int .i64 0, .int .i64 0, .slice none 0 0, .int .i64 0, .int .i64 0, .int .i64 0, .int .i64 0, .int .i64 0, .int .i64 0, .slice none 0 0, .int .i64 0].toArray) := by kernel_rfl
@[simp] theorem zr_26 : zeroOf Tryz.prog 26 = some (.agg #[.int .i64 0, .int .i64 0, .int .i64 0, .int .i64 0, .int .i64 0, .int .i64 0, .slice none 0 0, .int .i64 0, .int .i64 0, .int .i64 0, .int .i64 0, .int .i64 0, .int .i64 0, .slice none 0 0, .int .i64 0]) := by kernel_rfl
@[simp] theorem cl_10 : callable Tryz.prog 10 = true := by kernel_rfl
@[simp] theorem zr_49 : zeroOf Tryz.prog 49 = some (.agg #[.slice none 0 0, .slice none 0 0, .int .i64 0]) := by kernel_rfl
@[simp] theorem sz_49 : szOf Tryz.prog 49 = some 3 := by kernel_rfl
@[simp] theorem cl_11 : callable Tryz.prog 11 = true := by kernel_rfl
@[simp] theorem bu_56 : stat Tryz.prog (bInfo 56) = some (#[(0, 1), (1, 1), (2, 1)], none, [.int .i64 0, .string ⟨#[]⟩, .int .i64 0].toArray) := by kernel_rfl
@[simp] theorem zr_56 : zeroOf Tryz.prog 56 = some (.agg #[.int .i64 0, .string ⟨#[]⟩, .int .i64 0]) := by kernel_rfl
@[simp] theorem cl_12 : callable Tryz.prog 12 = true := by kernel_rfl
@[simp] theorem ln_52 (a : Option Addr) (n c : Nat) : aLen Tryz.prog 52 (.slice a n c) = ret (.int .i64 n) := by kernel_rfl
@[simp] theorem ia_52 (b o n c : Nat) (i : Int) (h : 0 ≤ i ∧ i < n) : aIndexAddr Tryz.prog 52 (.slice (some ⟨b, o, none⟩) n c) (.int .i64 i) = ret (.pointer (some ⟨b, o + i.toNat * 18, none⟩)) := (show _ = ite (0 ≤ i ∧ i < (n : Int)) (ret _) fail by kernel_rfl).trans (if_pos h)
@[simp] theorem fa_63_1 (b o : Nat) : aFieldAddr Tryz.prog 63 (.pointer (some ⟨b, o, none⟩)) 1 = ret (.pointer (some ⟨b, o + 1, none⟩)) := by kernel_rfl
@[simp] theorem fa_63_2 (b o : Nat) : aFieldAddr Tryz.prog 63 (.pointer (some ⟨b, o, none⟩)) 2 = ret (.pointer (some ⟨b, o + 2, none⟩)) := by kernel_rfl
@[simp] theorem fa_59_0 (b o : Nat) : aFieldAddr Tryz.prog 59 (.pointer (some ⟨b, o, none⟩)) 0 = ret (.pointer (some ⟨b, o + 0, none⟩)) := by kernel_rfl
@[simp] theorem cl_13 : callable Tryz.prog 13 = true := by kernel_rfl
@[simp] theorem ip_64 : isPtrT Tryz.prog 64 = true := by kernel_rfl
@[simp] theorem fa_69_0 (b o : Nat) : aFieldAddr Tryz.prog 69 (.pointer (some ⟨b, o, none⟩)) 0 = ret (.pointer (some ⟨b, o + 0, none⟩)) := by kernel_rfl
@[simp] theorem ag_67 : aggB Tryz.prog 67 = some false := by kernel_rfl
@[simp] theorem sz_67 : szOf Tryz.prog 67 = some 1 := by kernel_rfl
@[simp] theorem cl_14 : callable Tryz.prog 14 = true := by kernel_rfl
@[simp] theorem cl_15 : callable Tryz.prog 15 = true := by kernel_rfl
@[simp] theorem ip_70 : isPtrT Tryz.prog 70 = true := by kernel_rfl
@[simp] theorem ag_41 : aggB Tryz.prog 41 = some true := by kernel_rfl
@[simp] theorem sz_41 : szOf Tryz.prog 41 = some 23 := by kernel_rfl
@[simp] theorem cl_16 : callable Tryz.prog 16 = true := by kernel_rfl
@[simp] theorem bu_78 : stat Tryz.prog (bInfo 78) = some (#[(0, 1), (1, 4)], none, [.pointer none, .pointer none, .pointer none, .pointer none, .pointer none].toArray) := by kernel_rfl
@[simp] theorem zr_78 : zeroOf Tryz.prog 78 = some (.agg #[.pointer none, .pointer none, .pointer none, .pointer none, .pointer none]) := by kernel_rfl
@[simp] theorem fa_41_0 (b o : Nat) : aFieldAddr Tryz.prog 41 (.pointer (some ⟨b, o, none⟩)) 0 = ret (.pointer (some ⟨b, o + 0, none⟩)) := by kernel_rfl
@[simp] theorem ag_39 : aggB Tryz.prog 39 = some true := by kernel_rfl
@[simp] theorem sz_39 : szOf Tryz.prog 39 = some 22 := by kernel_rfl
@[simp] theorem ix_39 (cs : Array Value) (i : Int) (h : 0 ≤ i ∧ i < 2) : aIndex Tryz.prog 39 (.agg cs) (.int .i64 i) = ofOpt (some (.agg (cs.extract (i.toNat * 11) (i.toNat * 11 + 11)))) := (show _ = ite (0 ≤ i ∧ i < 2) (ofOpt _) fail by kernel_rfl).trans (if_pos h)
@[simp] theorem zr_38 : zeroOf Tryz.prog 38 = some (.agg #[.int .i64 0, .int .i64 0, .int .i64 0, .int .i64 0, .int .i64 0, .int .u32 0, .int .i64 0, .int .i64 0, .int .i64 0, .int .i64 0, .int .i64 0]) := by kernel_rfl
@[simp] theorem sz_38 : szOf Tryz.prog 38 = some 11 := by kernel_rfl
@[simp] theorem ag_38 : aggB Tryz.prog 38 = some true := by kernel_rfl
@[simp] theorem cl_17 : callable Tryz.prog 17 = true := by kernel_rfl
@[simp] theorem fa_41_1 (b o : Nat) : aFieldAddr Tryz.prog 41 (.pointer (some ⟨b, o, none⟩)) 1 = ret (.pointer (some ⟨b, o + 22, none⟩)) := by kernel_rfl
@[simp] theorem cl_18 : callable Tryz.prog 18 = true := by kernel_rfl
@[simp] theorem bu_75 : stat Tryz.prog (bInfo 75) = some (#[(0, 1), (1, 1)], none, [.pointer none, .pointer none].toArray) := by kernel_rfl
@[simp] theorem zr_75 : zeroOf Tryz.prog 75 = some (.agg #[.pointer none, .pointer none]) := by kernel_rfl
@[simp] theorem fa_78_1 (b o : Nat) : aFieldAddr Tryz.prog 78 (.pointer (some ⟨b, o, none⟩)) 1 = ret (.pointer (some ⟨b, o + 1, none⟩)) := by kernel_rfl
@[simp] theorem ia_76 (b o : Nat) (i : Int) (h : 0 ≤ i ∧ i < 2) : aIndexAddr Tryz.prog 76 (.pointer (some ⟨b, o, none⟩)) (.int .i64 i) = ret (.pointer (some ⟨b, o + i.toNat * 2, none⟩)) := (show _ = ite (0 ≤ i ∧ i < 2) (ret _) fail by kernel_rfl).trans (if_pos h)
@[simp] theorem sz_75 : szOf Tryz.prog 75 = some 2 := by kernel_rfl
@[simp] theorem zr_41 : zeroOf Tryz.prog 41 = some (.agg #[.int .i64 0, .int .i64 0, .int .i64 0, .int .i64 0, .int .i64 0, .int .u32 0, .int .i64 0, .int .i64 0, .int .i64 0, .int .i64 0, .int .i64 0, .int .i64 0, .int .i64 0, .int .i64 0, .int .i64 0, .int .i64 0, .int .u32 0, .int .i64 0, .int .i64 0, .int .i64 0, .int .i64 0, .int .i64 0, .int .i64 0]) := by kernel_rfl
@[simp] theorem cl_19 : callable Tryz.prog 19 = true := by kernel_rfl
@[simp] theorem bu_39 : stat Tryz.prog (bInfo 39) = some (#[], some 11, [.int .i64 0, .int .i64 0, .int .i64 0, .int .i64 0, .int .i64 0, .int .u32 0, .int .i64 0, .int .i64 0, .int .i64 0, .int .i64 0, .int .i64 0, .int .i64 0, .int .i64 0, .int .i64 0, .int .i64 0, .int .i64 0, .int .u32 0, .int .i64 0, .int .i64 0, .int .i64 0, .int .i64 0, .int .i64 0].toArray) := by kernel_rfl
@[simp] theorem zr_39 : zeroOf Tryz.prog 39 = some (.agg #[.int .i64 0, .int .i64 0, .int .i64 0, .int .i64 0, .int .i64 0, .int .u32 0, .int .i64 0, .int .i64 0, .int .i64 0, .int .i64 0, .int .i64 0, .int .i64 0, .int .i64 0, .int .i64 0, .int .i64 0, .int .i64 0, .int .u32 0, .int .i64 0, .int .i64 0, .int .i64 0, .int .i64 0, .int .i64 0]) := by kernel_rfl
@[simp] theorem bu_41 : stat Tryz.prog (bInfo 41) = some (#[(0, 22), (22, 1)], none, [.int .i64 0, .int .i64 0, .int .i64 0, .int .i64 0, .int .i64 0, .int .u32 0, .int .i64 0, .int .i64 0, .int .i64 0, .int .i64 0, .int .i64 0, .int .i64 0, .int .i64 0, .int .i64 0, .int .i64 0, .int .i64 0, .int .u32 0, .int .i64 0, .int .i64 0, .int .i64 0, .int .i64 0, .int .i64 0, .int .i64 0].toArray) := by kernel_rfl
@[simp] theorem fa_24_0 (b o : Nat) : aFieldAddr Tryz.prog 24 (.pointer (some ⟨b, o, none⟩)) 0 = ret (.pointer (some ⟨b, o + 0, none⟩)) := by kernel_rfl
@[simp] theorem fa_24_1 (b o : Nat) : aFieldAddr Tryz.prog 24 (.pointer (some ⟨b, o, none⟩)) 1 = ret (.pointer (some ⟨b, o + 1, none⟩)) := by kernel_rfl
@[simp] theorem fa_24_2 (b o : Nat) : aFieldAddr Tryz.prog 24 (.pointer (some ⟨b, o, none⟩)) 2 = ret (.pointer (some ⟨b, o + 2, none⟩)) := by kernel_rfl
@[simp] theorem fa_24_3 (b o : Nat) : aFieldAddr Tryz.prog 24 (.pointer (some ⟨b, o, none⟩)) 3 = ret (.pointer (some ⟨b, o + 3, none⟩)) := by kernel_rfl
@[simp] theorem fa_24_4 (b o : Nat) : aFieldAddr Tryz.prog 24 (.pointer (some ⟨b, o, none⟩)) 4 = ret (.pointer (some ⟨b, o + 4, none⟩)) := by kernel_rfl
@[simp] theorem cl_20 : callable Tryz.prog 20 = true := by kernel_rfl
@[simp] theorem cl_21 : callable Tryz.prog 21 = true := by kernel_rfl
@[simp] theorem ia_39 (b o : Nat) (i : Int) (h : 0 ≤ i ∧ i < 2) : aIndexAddr Tryz.prog 39 (.pointer (some ⟨b, o, none⟩)) (.int .i64 i) = ret (.pointer (some ⟨b, o + i.toNat * 11, none⟩)) := (show _ = ite (0 ≤ i ∧ i < 2) (ret _) fail by kernel_rfl).trans (if_pos h)
@[simp] theorem fa_38_5 (b o : Nat) : aFieldAddr Tryz.prog 38 (.pointer (some ⟨b, o, none⟩)) 5 = ret (.pointer (some ⟨b, o + 5, none⟩)) := by kernel_rfl
@[simp] theorem ag_34 : aggB Tryz.prog 34 = some false := by kernel_rfl
@[simp] theorem sz_34 : szOf Tryz.prog 34 = some 1 := by kernel_rfl
@[simp] theorem cl_22 : callable Tryz.prog 22 = true := by kernel_rfl
@[simp] theorem bu_49 : stat Tryz.prog (bInfo 49) = some (#[(0, 1), (1, 1), (2, 1)], none, [.slice none 0 0, .slice none 0 0, .int .i64 0].toArray) := by kernel_rfl
@[simp] theorem cl_23 : callable Tryz.prog 23 = true := by kernel_rfl
@[simp] theorem ag_76 : aggB Tryz.prog 76 = some true := by kernel_rfl
@[simp] theorem sz_76 : szOf Tryz.prog 76 = some 4 := by kernel_rfl
@[simp] theorem ix_76 (cs : Array Value) (i : Int) (h : 0 ≤ i ∧ i < 2) : aIndex Tryz.prog 76 (.agg cs) (.int .i64 i) = ofOpt (some (.agg (cs.extract (i.toNat * 2) (i.toNat * 2 + 2)))) := (show _ = ite (0 ≤ i ∧ i < 2) (ofOpt _) fail by kernel_rfl).trans (if_pos h)
@[simp] theorem fa_75_1 (b o : Nat) : aFieldAddr Tryz.prog 75 (.pointer (some ⟨b, o, none⟩)) 1 = ret (.pointer (some ⟨b, o + 1, none⟩)) := by kernel_rfl
@[simp] theorem ag_64 : aggB Tryz.prog 64 = some false := by kernel_rfl
@[simp] theorem sz_64 : szOf Tryz.prog 64 = some 1 := by kernel_rfl
@[simp] theorem fa_75_0 (b o : Nat) : aFieldAddr Tryz.prog 75 (.pointer (some ⟨b, o, none⟩)) 0 = ret (.pointer (some ⟨b, o + 0, none⟩)) := by kernel_rfl
@[simp] theorem ag_70 : aggB Tryz.prog 70 = some false := by kernel_rfl
@[simp] theorem sz_70 : szOf Tryz.prog 70 = some 1 := by kernel_rfl
@[simp] theorem cl_24 : callable Tryz.prog 24 = true := by kernel_rfl
@[simp] theorem cl_25 : callable Tryz.prog 25 = true := by kernel_rfl
@[simp] theorem ag_56 : aggB Tryz.prog 56 = some true := by kernel_rfl
@[simp] theorem sz_56 : szOf Tryz.prog 56 = some 3 := by kernel_rfl
@[simp] theorem cl_26 : callable Tryz.prog 26 = true := by kernel_rfl
@[simp] theorem bu_63 : stat Tryz.prog (bInfo 63) = some (#[(0, 1), (1, 1), (2, 8), (10, 5), (15, 3)], none, [.int .i64 0, .int .i64 0, .int .i64 0, .int .i64 0, .int .u32 0, .int .u32 0, .int .u32 0, .slice none 0 0, .bool false, .string ⟨#[]⟩, .int .i64 0, .string ⟨#[]⟩, .bool false, .int .u8 0, .int .i64 0, .int .i64 0, .string ⟨#[]⟩, .int .i64 0].toArray) := by kernel_rfl
@[simp] theorem zr_63 : zeroOf Tryz.prog 63 = some (.agg #[.int .i64 0, .int .i64 0, .int .i64 0, .int .i64 0, .int .u32 0, .int .u32 0, .int .u32 0, .slice none 0 0, .bool false, .string ⟨#[]⟩, .int .i64 0, .string ⟨#[]⟩, .bool false, .int .u8 0, .int .i64 0, .int .i64 0, .string ⟨#[]⟩, .int .i64 0]) := by kernel_rfl
@[simp] theorem bs_52_1 : bsCells Tryz.prog 52 1 = some (63, 18, [.int .i64 0, .int .i64 0, .int .i64 0, .int .i64 0, .int .u32 0, .int .u32 0, .int .u32 0, .slice none 0 0, .bool false, .string ⟨#[]⟩, .int .i64 0, .string ⟨#[]⟩, .bool false, .int .u8 0, .int .i64 0, .int .i64 0, .string ⟨#[]⟩, .int .i64 0]) := by kernel_rfl
@[simp] theorem cl_28 : callable Tryz.prog 28 = true := by kernel_rfl
@[simp] theorem cl_27 : callable Tryz.prog 27 = true := by kernel_rfl
@[simp] theorem fa_93_2 (b o : Nat) : aFieldAddr Tryz.prog 93 (.pointer (some ⟨b, o, none⟩)) 2 = ret (.pointer (some ⟨b, o + 2, none⟩)) := by kernel_rfl
@[simp] theorem cl_29 : callable Tryz.prog 29 = true := by kernel_rfl
@[simp] theorem bu_98 : stat Tryz.prog (bInfo 98) = some (#[(0, 256)], none, [.int .u32 0, .int .u32 0, .int .u32 0, .int .u32 0, .int .u32 0, .int .u32 0, .int .u32 0, .int .u32 0, .int .u32 0, .int .u32 0, .int .u32 0, .int .u32 0, .int .u32 0, .int .u32 0, .int .u32 0, .int .u32 0, .int .u32 0, .int .u32 0, .int .u32 0, .int .u32 0, .int .u32 0, .int .u32 0, .int .u32 0, .int .u32 0, .int .u32 0, .int .u32 0, .int .u32 0, .int .u32 0, .int .u32 0, .int .u32 0, .int .u32 0, .int .u32 0, .int .u32 0, .int .u32 0, .int .u32 0, .int .u32 0, .int .u32 0, .int .u32 0, .int .u32 0, .int .u32 0, .int .u32 0, .int .u32 0, .int .u32 0, .int .u32 0, .int .u32 0, .int .u32 0, .int .u32 0, .int .u32 0, .int .u32 0, .int .u32 0, .int .u32 0, .int .u32 0, .int .u32 0, .int .u32 0, .int .u32 0, .int .u32 0, .int .u32 0, .int .u32 0, .int .u32 0, .int .u32 0, .int .u32 0, .int .u32 0, .int .u32 0, .int .u32 0, .int .u32 0, .int .u32 0, .int .u32 0, .int .u32 0, .int .u32 0, .int .u32 0, .int .u32 0, .int .u32 0, .int .u32 0, .int .u32 0, .int .u32 0, .int .u32 0, .int .u32 0, .int .u32 0, .int .u32 0, .int .u32 0, .int .u32 0, .int .u32 0, .int .u32 0, .int .u32 0, .int .u32 0, .int .u32 0, .int .u32 0, .int .u32 0, .int .u32 0, .int .u32 0, .int .u32 0, .int .u32 0, .int .u32 0, .int .u32 0, .int .u32 0, .int .u32 0, .int .u32 0, .int .u32 0, .int .u32 0, .int .u32 0, .int .u32 0, .int .u32 0, .int .u32 0, .int .u32 0, .int .u32 0, .int .u32 0, .int .u32 0, .int .u32 0, .int .u32 0, .int .u32 0, .int .u32 0, .int .u32 0, .int .u32 0, .int .u32 0, .int .u32 0, .int .u32 0, .int .u32 0, .int .u32 0, .int .u32 0, .int .u32 0, .int .u32 0, .int .u32 0, .int .u32 0, .int .u32 0, .int .u32 0, .int .u32 0, .int .u32 0, .int .u32 0, .int .u32 0, .int .u32 0, .int .u32 0, .int .u32 0, .int .u32 0, .int .u32 0, .int .u32 0, .int .u32 0, .int .u32 0, .int .u32 0, .int .u32 0, .int .u32 0, .int .u32 0, .int .u32 0, .int .u32 0, .int .u32 0, .int .u32 0, .int .u32 0, .int .u32 0, .int .u32 0, .int .u32 0, .int .u32 0, .int .u32 0, .int .u32 0, .int .u32 0, .int .u32 0, .int .u32 0, .int .u32 0, .int .u32 0, .int .u32 0, .int .u32 0, .int .u32 0, .int .u32 0, .int .u32 0, .int .u32 0, .int .u32 0, .int .u32 0, .int .u32 0, .int .u32 0, .int .u32 0, .int .u32 0, .int .u32 0, .int .u32 0, .int .u32 0, .int .u32 0, .int .u32 0, .int .u32 0, .int .u32 0, .int .u32 0, .int .u32 0, .int .u32 0, .int .u32 0, .int .u32 0, .int .u32 0, .int .u32 0, .int .u32 0, .int .u32 0, .int .u32 0, .int .u32 0, .int .u32 0, .int .u32 0, .int .u32 0, .int .u32 0, .int .u32 0, .int .u32 0, .int .u32 0, .int .u32 0, .int .u32 0, .int .u32 0, .int .u32 0, .int .u32 0, .int .u32 0, .int .u32 0, .int .u32 0, .int .u32 0, .int .u32 0, .int .u32 0, .int .u32 0, .int .u32 0, .int .u32 0, .int .u32 0, .int .u32 0, .int .u32 0, .int .u32 0, .int .u32 0, .int .u32 0, .int .u32 0, .int .u32 0, .int .u32 0, .int .u32 0, .int .u32 0, .int .u32 0, .int .u32 0, .int .u32 0, .int .u32 0, .int .u32 0, .int .u32 0, .int .u32 0, .int .u32 0, .int .u32 0, .int .u32 0, .int .u32 0, .int .u32 0, .int .u32 0, .int .u32 0, .int .u32 0, .int .u32 0, .int .u32 0, .int .u32 0, .int .u32 0, .int .u32 0, .int .u32 0, .int .u32 0, .int .u32 0, .int .u32 0, .int .u32 0, .int .u32 0, .int .u32 0, .int .u32 0, .int .u32 0, .int .u32 0, .int .u32 0, .int .u32 0, .int .u32 0, .int .u32 0, .int .u32 0, .int .u32 0, .int .u32 0].toArray) := by kernel_rfl
@[simp] theorem zr_98 : zeroOf Tryz.prog 98 = some (.agg #[.int .u32 0, .int .u32 0, .int .u32 0, .int .u32 0, .int .u32 0, .int .u32 0, .int .u32 0, .int .u32 0, .int .u32 0, .int .u32 0, .int .u32 0, .int .u32 0, .int .u32 0, .int .u32 0, .int .u32 0, .int .u32 0, .int .u32 0, .int .u32 0, .int .u32 0, .int .u32 0, .int .u32 0, .int .u32 0, .int .u32 0, .int .u32 0, .int .u32 0, .int .u32 0, .int .u32 0, .int .u32 0, .int .u32 0, .int .u32 0, .int .u32 0, .int .u32 0, .int .u32 0, .int .u32 0, .int .u32 0, .int .u32 0, .int .u32 0, .int .u32 0, .int .u32 0, .int .u32 0, .int .u32 0, .int .u32 0, .int .u32 0, .int .u32 0, .int .u32 0, .int .u32 0, .int .u32 0, .int .u32 0, .int .u32 0, .int .u32 0, .int .u32 0, .int .u32 0, .int .u32 0, .int .u32 0, .int .u32 0, .int .u32 0, .int .u32 0, .int .u32 0, .int .u32 0, .int .u32 0, .int .u32 0, .int .u32 0, .int .u32 0, .int .u32 0, .int .u32 0, .int .u32 0, .int .u32 0, .int .u32 0, .int .u32 0, .int .u32 0, .int .u32 0, .int .u32 0, .int .u32 0, .int .u32 0, .int .u32 0, .int .u32 0, .int .u32 0, .int .u32 0, .int .u32 0, .int .u32 0, .int .u32 0, .int .u32 0, .int .u32 0, .int .u32 0, .int .u32 0, .int .u32 0, .int .u32 0, .int .u32 0, .int .u32 0, .int .u32 0, .int .u32 0, .int .u32 0, .int .u32 0, .int .u32 0, .int .u32 0, .int .u32 0, .int .u32 0, .int .u32 0, .int .u32 0, .int .u32 0, .int .u32 0, .int .u32 0, .int .u32 0, .int .u32 0, .int .u32 0, .int .u32 0, .int .u32 0, .int .u32 0, .int .u32 0, .int .u32 0, .int .u32 0, .int .u32 0, .int .u32 0, .int .u32 0, .int .u32 0, .int .u32 0, .int .u32 0, .int .u32 0, .int .u32 0, .int .u32 0, .int .u32 0, .int .u32 0, .int .u32 0, .int .u32 0, .int .u32 0, .int .u32 0, .int .u32 0, .int .u32 0, .int .u32 0, .int .u32 0, .int .u32 0, .int .u32 0, .int .u32 0, .int .u32 0, .int .u32 0, .int .u32 0, .int .u32 0, .int .u32 0, .int .u32 0, .int .u32 0, .int .u32 0, .int .u32 0, .int .u32 0, .int .u32 0, .int .u32 0, .int .u32 0, .int .u32 0, .int .u32 0, .int .u32 0, .int .u32 0, .int .u32 0, .int .u32 0, .int .u32 0, .int .u32 0, .int .u32 0, .int .u32 0, .int .u32 0, .int .u32 0, .int .u32 0, .int .u32 0, .int .u32 0, .int .u32 0, .int .u32 0, .int .u32 0, .int .u32 0, .int .u32 0, .int .u32 0, .int .u32 0, .int .u32 0, .int .u32 0, .int .u32 0, .int .u32 0, .int .u32 0, .int .u32 0, .int .u32 0, .int .u32 0, .int .u32 0, .int .u32 0, .int .u32 0, .int .u32 0, .int .u32 0, .int .u32 0, .int .u32 0, .int .u32 0, .int .u32 0, .int .u32 0, .int .u32 0, .int .u32 0, .int .u32 0, .int .u32 0, .int .u32 0, .int .u32 0, .int .u32 0, .int .u32 0, .int .u32 0, .int .u32 0, .int .u32 0, .int .u32 0, .int .u32 0, .int .u32 0, .int .u32 0, .int .u32 0, .int .u32 0, .int .u32 0, .int .u32 0, .int .u32 0, .int .u32 0, .int .u32 0, .int .u32 0, .int .u32 0, .int .u32 0, .int .u32 0, .int .u32 0, .int .u32 0, .int .u32 0, .int .u32 0, .int .u32 0, .int .u32 0, .int .u32 0, .int .u32 0, .int .u32 0, .int .u32 0, .int .u32 0, .int .u32 0, .int .u32 0, .int .u32 0, .int .u32 0, .int .u32 0, .int .u32 0, .int .u32 0, .int .u32 0, .int .u32 0, .int .u32 0, .int .u32 0, .int .u32 0, .int .u32 0, .int .u32 0, .int .u32 0, .int .u32 0, .int .u32 0, .int .u32 0, .int .u32 0, .int .u32 0, .int .u32 0, .int .u32 0, .int .u32 0, .int .u32 0, .int .u32 0, .int .u32 0, .int .u32 0, .int .u32 0, .int .u32 0, .int .u32 0, .int .u32 0, .int .u32 0, .int .u32 0]) := by kernel_rfl
@[simp] theorem fa_38_6 (b o : Nat) : aFieldAddr Tryz.prog 38 (.pointer (some ⟨b, o, none⟩)) 6 = ret (.pointer (some ⟨b, o + 6, none⟩)) := by kernel_rfl
@[simp] theorem ag_36 : aggB Tryz.prog 36 = some true := by kernel_rfl
@[simp] theorem sz_36 : szOf Tryz.prog 36 = some 5 := by kernel_rfl
@[simp] theorem cl_30 : callable Tryz.prog 30 = true := by kernel_rfl
@[simp] theorem fa_38_0 (b o : Nat) : aFieldAddr Tryz.prog 38 (.pointer (some ⟨b, o, none⟩)) 0 = ret (.pointer (some ⟨b, o + 0, none⟩)) := by kernel_rfl
@[simp] theorem fa_38_1 (b o : Nat) : aFieldAddr Tryz.prog 38 (.pointer (some ⟨b, o, none⟩)) 1 = ret (.pointer (some ⟨b, o + 1, none⟩)) := by kernel_rfl
@[simp] theorem cl_32 : callable Tryz.prog 32 = true := by kernel_rfl
@[simp] theorem bu_106 : stat Tryz.prog (bInfo 106) = some (#[(0, 1), (1, 1)], none, [.int .i64 0, .int .u32 0].toArray) := by kernel_rfl
@[simp] theorem zr_106 : zeroOf Tryz.prog 106 = some (.agg #[.int .i64 0, .int .u32 0]) := by kernel_rfl
@[simp] theorem cl_31 : callable Tryz.prog 31 = true := by kernel_rfl
@[simp] theorem fa_38_3 (b o : Nat) : aFieldAddr Tryz.prog 38 (.pointer (some ⟨b, o, none⟩)) 3 = ret (.pointer (some ⟨b, o + 3, none⟩)) := by kernel_rfl
@[simp] theorem cl_33 : callable Tryz.prog 33 = true := by kernel_rfl
@[simp] theorem bu_113 : stat Tryz.prog (bInfo 113) = some (#[(0, 11), (11, 1), (12, 1), (13, 1), (14, 1), (15, 1), (16, 1), (17, 1), (18, 1), (19, 1), (20, 1), (21, 1)], none, [.int .i64 0, .int .i64 0, .int .i64 0, .int .i64 0, .int .i64 0, .int .u32 0, .int .i64 0, .int .i64 0, .int .i64 0, .int .i64 0, .int .i64 0, .pointer none, .pointer none, .pointer none, .pointer none, .slice none 0 0, .pointer none, .bool false, .bool false, .int .u32 0, .bool false, .slice none 0 0].toArray) := by kernel_rfl
@[simp] theorem zr_113 : zeroOf Tryz.prog 113 = some (.agg #[.int .i64 0, .int .i64 0, .int .i64 0, .int .i64 0, .int .i64 0, .int .u32 0, .int .i64 0, .int .i64 0, .int .i64 0, .int .i64 0, .int .i64 0, .pointer none, .pointer none, .pointer none, .pointer none, .slice none 0 0, .pointer none, .bool false, .bool false, .int .u32 0, .bool false, .slice none 0 0]) := by kernel_rfl
@[simp] theorem cl_34 : callable Tryz.prog 34 = true := by kernel_rfl
@[simp] theorem bu_69 : stat Tryz.prog (bInfo 69) = some (#[(0, 1), (1, 1), (2, 1), (3, 1)], none, [.pointer none, .int .i64 0, .int .i64 0, .int .i64 0].toArray) := by kernel_rfl
@[simp] theorem zr_69 : zeroOf Tryz.prog 69 = some (.agg #[.pointer none, .int .i64 0, .int .i64 0, .int .i64 0]) := by kernel_rfl
@[simp] theorem cl_35 : callable Tryz.prog 35 = true := by kernel_rfl
@[simp] theorem cl_36 : callable Tryz.prog 36 = true := by kernel_rfl
@[simp] theorem bu_38 : stat Tryz.prog (bInfo 38) = some (#[(0, 1), (1, 1), (2, 1), (3, 1), (4, 1), (5, 1), (6, 5)], none, [.int .i64 0, .int .i64 0, .int .i64 0, .int .i64 0, .int .i64 0, .int .u32 0, .int .i64 0, .int .i64 0, .int .i64 0, .int .i64 0, .int .i64 0].toArray) := by kernel_rfl
@[simp] theorem ia_22 (b o n c : Nat) (i : Int) (h : 0 ≤ i ∧ i < n) : aIndexAddr Tryz.prog 22 (.slice (some ⟨b, o, none⟩) n c) (.int .i64 i) = ret (.pointer (some ⟨b, o + i.toNat * 1, none⟩)) := (show _ = ite (0 ≤ i ∧ i < (n : Int)) (ret _) fail by kernel_rfl).trans (if_pos h)
@[simp] theorem cl_37 : callable Tryz.prog 37 = true := by kernel_rfl
@[simp] theorem fa_38_2 (b o : Nat) : aFieldAddr Tryz.prog 38 (.pointer (some ⟨b, o, none⟩)) 2 = ret (.pointer (some ⟨b, o + 2, none⟩)) := by kernel_rfl
@[simp] theorem fa_38_4 (b o : Nat) : aFieldAddr Tryz.prog 38 (.pointer (some ⟨b, o, none⟩)) 4 = ret (.pointer (some ⟨b, o + 4, none⟩)) := by kernel_rfl
@[simp] theorem cl_38 : callable Tryz.prog 38 = true := by kernel_rfl
@[simp] theorem cl_39 : callable Tryz.prog 39 = true := by kernel_rfl
@[simp] theorem cl_40 : callable Tryz.prog 40 = true := by kernel_rfl
@[simp] theorem zr_24 : zeroOf Tryz.prog 24 = some (.agg #[.int .i64 0, .int .i64 0, .int .i64 0, .int .i64 0, .int .i64 0, .int .i64 0, .slice none 0 0]) := by kernel_rfl
@[simp] theorem cl_41 : callable Tryz.prog 41 = true := by kernel_rfl
@[simp] theorem bs_46_2 : bsCells Tryz.prog 46 2 = some (131, 43, [.int .i64 0, .int .i64 0, .int .i64 0, .int .i64 0, .int .i64 0, .int .i64 0, .slice none 0 0, .int .i64 0, .int .i64 0, .int .i64 0, .int .i64 0, .int .i64 0, .int .i64 0, .int .i64 0, .string ⟨#[]⟩, .slice none 0 0, .slice none 0 0, .int .i64 0, .int .i64 0, .int .i64 0, .int .i64 0, .int .i64 0, .int .i64 0, .int .i64 0, .int .i64 0, .slice none 0 0, .slice none 0 0, .slice none 0 0, .slice none 0 0, .int .i64 0, .int .i64 0, .int .i64 0, .int .i64 0, .slice none 0 0, .slice none 0 0, .slice none 0 0, .slice none 0 0, .slice none 0 0, .bool false, .bool false, .int .i64 0, .bool false, .slice none 0 0, .int .i64 0, .int .i64 0, .int .i64 0, .int .i64 0, .int .i64 0, .int .i64 0, .slice none 0 0, .int .i64 0, .int .i64 0, .int .i64 0, .int .i64 0, .int .i64 0, .int .i64 0, .int .i64 0, .string ⟨#[]⟩, .slice none 0 0, .slice none 0 0, .int .i64 0, .int .i64 0, .int .i64 0, .int .i64 0, .int .i64 0, .int .i64 0, .int .i64 0, .int .i64 0, .slice none 0 0, .slice none 0 0, .slice none 0 0, .slice none 0 0, .int .i64 0, .int .i64 0, .int .i64 0, .int .i64 0, .slice none 0 0, .slice none 0 0, .slice none 0 0, .slice none 0 0, .slice none 0 0, .bool false, .bool false, .int .i64 0, .bool false, .slice none 0 0]) := by kernel_rfl
@[simp] theorem bs_129_0 : bsCells Tryz.prog 129 0 = some (309, 8, []) := by kernel_rfl
@[simp] theorem bs_47_2 : bsCells Tryz.prog 47 2 = some (129, 1, [.slice none 0 0, .slice none 0 0]) := by kernel_rfl
@[simp] theorem fa_113_5 (b o : Nat) : aFieldAddr Tryz.prog 113 (.pointer (some ⟨b, o, none⟩)) 5 = ret (.pointer (some ⟨b, o + 15, none⟩)) := by kernel_rfl
@[simp] theorem ag_111 : aggB Tryz.prog 111 = some false := by kernel_rfl
@[simp] theorem sz_111 : szOf Tryz.prog 111 = some 1 := by kernel_rfl
@[simp] theorem ln_111 (a : Option Addr) (n c : Nat) : aLen Tryz.prog 111 (.slice a n c) = ret (.int .i64 n) := by kernel_rfl
@[simp] theorem fa_113_6 (b o : Nat) : aFieldAddr Tryz.prog 113 (.pointer (some ⟨b, o, none⟩)) 6 = ret (.pointer (some ⟨b, o + 16, none⟩)) := by kernel_rfl
@[simp] theorem ag_107 : aggB Tryz.prog 107 = some false := by kernel_rfl
@[simp] theorem sz_107 : szOf Tryz.prog 107 = some 1 := by kernel_rfl
@[simp] theorem cl_42 : callable Tryz.prog 42 = true := by kernel_rfl
@[simp] theorem fa_113_7 (b o : Nat) : aFieldAddr Tryz.prog 113 (.pointer (some ⟨b, o, none⟩)) 7 = ret (.pointer (some ⟨b, o + 17, none⟩)) := by kernel_rfl
@[simp] theorem ag_4 : aggB Tryz.prog 4 = some false := by kernel_rfl
@[simp] theorem sz_4 : szOf Tryz.prog 4 = some 1 := by kernel_rfl
@[simp] theorem fa_113_8 (b o : Nat) : aFieldAddr Tryz.prog 113 (.pointer (some ⟨b, o, none⟩)) 8 = ret (.pointer (some ⟨b, o + 18, none⟩)) := by kernel_rfl
@[simp] theorem cl_43 : callable Tryz.prog 43 = true := by kernel_rfl
@[simp] theorem cl_44 : callable Tryz.prog 44 = true := by kernel_rfl
@[simp] theorem fa_113_4 (b o : Nat) : aFieldAddr Tryz.prog 113 (.pointer (some ⟨b, o, none⟩)) 4 = ret (.pointer (some ⟨b, o + 14, none⟩)) := by kernel_rfl
@[simp] theorem ag_110 : aggB Tryz.prog 110 = some false := by kernel_rfl
@[simp] theorem sz_110 : szOf Tryz.prog 110 = some 1 := by kernel_rfl
@[simp] theorem cl_45 : callable Tryz.prog 45 = true := by kernel_rfl
@[simp] theorem ff_134_5 (cs : Array Value) : aField Tryz.prog 134 (.agg cs) 5 = ofOpt cs[5]? := by kernel_rfl
@[simp] theorem cl_46 : callable Tryz.prog 46 = true := by kernel_rfl
@[simp] theorem fa_113_1 (b o : Nat) : aFieldAddr Tryz.prog 113 (.pointer (some ⟨b, o, none⟩)) 1 = ret (.pointer (some ⟨b, o + 11, none⟩)) := by kernel_rfl
@[simp] theorem ag_102 : aggB Tryz.prog 102 = some false := by kernel_rfl
@[simp] theorem sz_102 : szOf Tryz.prog 102 = some 1 := by kernel_rfl
@[simp] theorem cl_48 : callable Tryz.prog 48 = true := by kernel_rfl
@[simp] theorem ff_137_0 (cs : Array Value) : aField Tryz.prog 137 (.agg cs) 0 = ofOpt cs[0]? := by kernel_rfl
@[simp] theorem fa_56_0 (b o : Nat) : aFieldAddr Tryz.prog 56 (.pointer (some ⟨b, o, none⟩)) 0 = ret (.pointer (some ⟨b, o + 0, none⟩)) := by kernel_rfl
@[simp] theorem cl_47 : callable Tryz.prog 47 = true := by kernel_rfl
@[simp] theorem cl_49 : callable Tryz.prog 49 = true := by kernel_rfl
@[simp] theorem cl_50 : callable Tryz.prog 50 = true := by kernel_rfl
@[simp] theorem cl_51 : callable Tryz.prog 51 = true := by kernel_rfl
@[simp] theorem cl_52 : callable Tryz.prog 52 = true := by kernel_rfl
@[simp] theorem zr_59 : zeroOf Tryz.prog 59 = some (.agg #[.int .i64 0, .int .i64 0, .int .u32 0, .int .u32 0, .int .u32 0, .slice none 0 0, .bool false, .string ⟨#[]⟩]) := by kernel_rfl
@[simp] theorem sz_59 : szOf Tryz.prog 59 = some 8 := by kernel_rfl
@[simp] theorem fa_78_0 (b o : Nat) : aFieldAddr Tryz.prog 78 (.pointer (some ⟨b, o, none⟩)) 0 = ret (.pointer (some ⟨b, o + 0, none⟩)) := by kernel_rfl
@[simp] theorem ag_72 : aggB Tryz.prog 72 = some false := by kernel_rfl
@[simp] theorem sz_72 : szOf Tryz.prog 72 = some 1 := by kernel_rfl
@[simp] theorem ag_59 : aggB Tryz.prog 59 = some true := by kernel_rfl
@[simp] theorem cl_53 : callable Tryz.prog 53 = true := by kernel_rfl
@[simp] theorem cl_54 : callable Tryz.prog 54 = true := by kernel_rfl
@[simp] theorem ap_52 : apInfo Tryz.prog 52 = some (63, 18, 168) := by kernel_rfl
@[simp] theorem ln_86 (a : Option Addr) (n c : Nat) : aLen Tryz.prog 86 (.slice a n c) = ret (.int .i64 n) := by kernel_rfl
@[simp] theorem ia_86 (b o n c : Nat) (i : Int) (h : 0 ≤ i ∧ i < n) : aIndexAddr Tryz.prog 86 (.slice (some ⟨b, o, none⟩) n c) (.int .i64 i) = ret (.pointer (some ⟨b, o + i.toNat * 5, none⟩)) := (show _ = ite (0 ≤ i ∧ i < (n : Int)) (ret _) fail by kernel_rfl).trans (if_pos h)
@[simp] theorem ag_61 : aggB Tryz.prog 61 = some true := by kernel_rfl
@[simp] theorem sz_61 : szOf Tryz.prog 61 = some 5 := by kernel_rfl
@[simp] theorem zr_61 : zeroOf Tryz.prog 61 = some (.agg #[.int .i64 0, .string ⟨#[]⟩, .bool false, .int .u8 0, .int .i64 0]) := by kernel_rfl
@[simp] theorem zr_95 : zeroOf Tryz.prog 95 = some (.agg #[.int .u32 0, .int .u32 0, .int .u32 0, .int .u32 0, .int .u32 0, .int .u32 0, .int .u32 0, .int .u32 0, .int .u32 0, .int .u32 0, .int .u32 0, .int .u32 0, .int .u32 0, .int .u32 0, .int .u32 0, .int .u32 0, .int .u32 0, .int .u32 0, .int .u32 0, .int .u32 0, .int .u32 0, .int .u32 0, .int .u32 0, .int .u32 0, .int .u32 0, .int .u32 0, .int .u32 0, .int .u32 0, .int .u32 0, .int .u32 0, .int .u32 0, .int .u32 0, .int .u32 0, .int .u32 0, .int .u32 0, .int .u32 0, .int .u32 0, .int .u32 0, .int .u32 0, .int .u32 0, .int .u32 0, .int .u32 0, .int .u32 0, .int .u32 0, .int .u32 0, .int .u32 0, .int .u32 0, .int .u32 0, .int .u32 0, .int .u32 0, .int .u32 0, .int .u32 0, .int .u32 0, .int .u32 0, .int .u32 0, .int .u32 0, .int .u32 0, .int .u32 0, .int .u32 0, .int .u32 0, .int .u32 0, .int .u32 0, .int .u32 0, .int .u32 0, .int .u32 0, .int .u32 0, .int .u32 0, .int .u32 0, .int .u32 0, .int .u32 0, .int .u32 0, .int .u32 0, .int .u32 0, .int .u32 0, .int .u32 0, .int .u32 0, .int .u32 0, .int .u32 0, .int .u32 0, .int .u32 0, .int .u32 0, .int .u32 0, .int .u32 0, .int .u32 0, .int .u32 0, .int .u32 0, .int .u32 0, .int .u32 0, .int .u32 0, .int .u32 0, .int .u32 0, .int .u32 0, .int .u32 0, .int .u32 0, .int .u32 0, .int .u32 0, .int .u32 0, .int .u32 0, .int .u32 0, .int .u32 0, .int .u32 0, .int .u32 0, .int .u32 0, .int .u32 0, .int .u32 0, .int .u32 0, .int .u32 0, .int .u32 0, .int .u32 0, .int .u32 0, .int .u32 0, .int .u32 0, .int .u32 0, .int .u32 0, .int .u32 0, .int .u32 0, .int .u32 0, .int .u32 0, .int .u32 0, .int .u32 0, .int .u32 0, .int .u32 0, .int .u32 0, .int .u32 0, .int .u32 0, .int .u32 0, .int .u32 0, .int .u32 0, .int .u32 0, .int .u32 0, .int .u32 0, .int .u32 0, .int .u32 0, .int .u32 0, .int .u32 0, .int .u32 0, .int .u32 0, .int .u32 0, .int .u32 0, .int .u32 0, .int .u32 0, .int .u32 0, .int .u32 0, .int .u32 0, .int .u32 0, .int .u32 0, .int .u32 0, .int .u32 0, .int .u32 0, .int .u32 0, .int .u32 0, .int .u32 0, .int .u32 0, .int .u32 0, .int .u32 0, .int .u32 0, .int .u32 0, .int .u32 0, .int .u32 0, .int .u32 0, .int .u32 0, .int .u32 0, .int .u32 0, .int .u32 0, .int .u32 0, .int .u32 0, .int .u32 0, .int .u32 0, .int .u32 0, .int .u32 0, .int .u32 0, .int .u32 0, .int .u32 0, .int .u32 0, .int .u32 0, .int .u32 0, .int .u32 0, .int .u32 0, .int .u32 0, .int .u32 0, .int .u32 0, .int .u32 0, .int .u32 0, .int .u32 0, .int .u32 0, .int .u32 0, .int .u32 0, .int .u32 0, .int .u32 0, .int .u32 0, .int .u32 0, .int .u32 0, .int .u32 0, .int .u32 0, .int .u32 0, .int .u32 0, .int .u32 0, .int .u32 0, .int .u32 0, .int .u32 0, .int .u32 0, .int .u32 0, .int .u32 0, .int .u32 0, .int .u32 0, .int .u32 0, .int .u32 0, .int .u32 0, .int .u32 0, .int .u32 0, .int .u32 0, .int .u32 0, .int .u32 0, .int .u32 0, .int .u32 0, .int .u32 0, .int .u32 0, .int .u32 0, .int .u32 0, .int .u32 0, .int .u32 0, .int .u32 0, .int .u32 0, .int .u32 0, .int .u32 0, .int .u32 0, .int .u32 0, .int .u32 0, .int .u32 0, .int .u32 0, .int .u32 0, .int .u32 0, .int .u32 0, .int .u32 0, .int .u32 0, .int .u32 0, .int .u32 0, .int .u32 0, .int .u32 0, .int .u32 0, .int .u32 0, .int .u32 0, .int .u32 0, .int .u32 0, .int .u32 0, .int .u32 0, .int .u32 0, .int .u32 0, .int .u32 0, .int .u32 0, .int .u32 0, .int .u32 0, .int .u32 0, .int .u32 0, .int .u32 0, .int .u32 0]) := by kernel_rfl
@[simp] theorem ui_3 : Tryz.prog.underlying 3 = some (.int .i64) := by kernel_rfl
@[simp] theorem ui_33 : Tryz.prog.underlying 33 = some (.int .u32) := by kernel_rfl
@[simp] theorem ia_95 (b o : Nat) (i : Int) (h : 0 ≤ i ∧ i < 256) : aIndexAddr Tryz.prog 95 (.pointer (some ⟨b, o, none⟩)) (.int .i64 i) = ret (.pointer (some ⟨b, o + i.toNat * 1, none⟩)) := (show _ = ite (0 ≤ i ∧ i < 256) (ret _) fail by kernel_rfl).trans (if_pos h)
@[simp] theorem sz_33 : szOf Tryz.prog 33 = some 1 := by kernel_rfl
@[simp] theorem ag_95 : aggB Tryz.prog 95 = some true := by kernel_rfl
@[simp] theorem sz_95 : szOf Tryz.prog 95 = some 256 := by kernel_rfl
@[simp] theorem bu_150 : stat Tryz.prog (bInfo 150) = some (#[(0, 5), (5, 5)], none, [.int .i64 0, .int .i64 0, .int .i64 0, .int .i64 0, .int .i64 0, .int .i64 0, .int .i64 0, .int .i64 0, .int .i64 0, .int .i64 0].toArray) := by kernel_rfl
@[simp] theorem zr_150 : zeroOf Tryz.prog 150 = some (.agg #[.int .i64 0, .int .i64 0, .int .i64 0, .int .i64 0, .int .i64 0, .int .i64 0, .int .i64 0, .int .i64 0, .int .i64 0, .int .i64 0]) := by kernel_rfl
@[simp] theorem fa_106_0 (b o : Nat) : aFieldAddr Tryz.prog 106 (.pointer (some ⟨b, o, none⟩)) 0 = ret (.pointer (some ⟨b, o + 0, none⟩)) := by kernel_rfl
@[simp] theorem fa_106_1 (b o : Nat) : aFieldAddr Tryz.prog 106 (.pointer (some ⟨b, o, none⟩)) 1 = ret (.pointer (some ⟨b, o + 1, none⟩)) := by kernel_rfl
@[simp] theorem ag_106 : aggB Tryz.prog 106 = some true := by kernel_rfl
@[simp] theorem sz_106 : szOf Tryz.prog 106 = some 2 := by kernel_rfl
@[simp] theorem bu_137 : stat Tryz.prog (bInfo 137) = some (#[(0, 1), (1, 1), (2, 1), (3, 1), (4, 1)], none, [.int .i64 0, .int .i64 0, .int .i64 0, .int .i64 0, .int .u32 0].toArray) := by kernel_rfl
@[simp] theorem zr_137 : zeroOf Tryz.prog 137 = some (.agg #[.int .i64 0, .int .i64 0, .int .i64 0, .int .i64 0, .int .u32 0]) := by kernel_rfl
@[simp] theorem bu_152 : stat Tryz.prog (bInfo 152) = some (#[(0, 2), (2, 5), (7, 1)], none, [.int .i64 0, .int .u32 0, .int .i64 0, .int .i64 0, .int .i64 0, .int .i64 0, .int .u32 0, .string ⟨#[]⟩].toArray) := by kernel_rfl
@[simp] theorem zr_152 : zeroOf Tryz.prog 152 = some (.agg #[.int .i64 0, .int .u32 0, .int .i64 0, .int .i64 0, .int .i64 0, .int .i64 0, .int .u32 0, .string ⟨#[]⟩]) := by kernel_rfl
@[simp] theorem ui_34 : Tryz.prog.underlying 34 = some (.int .u32) := by kernel_rfl
@[simp] theorem bu_154 : stat Tryz.prog (bInfo 154) = some (#[(0, 1), (1, 1), (2, 1), (3, 1)], none, [.slice none 0 0, .int .i64 0, .int .i64 0, .int .i64 0].toArray) := by kernel_rfl
@[simp] theorem zr_154 : zeroOf Tryz.prog 154 = some (.agg #[.slice none 0 0, .int .i64 0, .int .i64 0, .int .i64 0]) := by kernel_rfl
@[simp] theorem bu_93 : stat Tryz.prog (bInfo 93) = some (#[(0, 1), (1, 1), (2, 1), (3, 1)], none, [.slice none 0 0, .int .i64 0, .int .i64 0, .int .i64 0].toArray) := by kernel_rfl
@[simp] theorem zr_93 : zeroOf Tryz.prog 93 = some (.agg #[.slice none 0 0, .int .i64 0, .int .i64 0, .int .i64 0]) := by kernel_rfl
@[simp] theorem zr_36 : zeroOf Tryz.prog 36 = some (.agg #[.int .i64 0, .int .i64 0, .int .i64 0, .int .i64 0, .int .i64 0]) := by kernel_rfl
@[simp] theorem bu_36 : stat Tryz.prog (bInfo 36) = some (#[(0, 1), (1, 1), (2, 1), (3, 1), (4, 1)], none, [.int .i64 0, .int .i64 0, .int .i64 0, .int .i64 0, .int .i64 0].toArray) := by kernel_rfl
@[simp] theorem fa_36_0 (b o : Nat) : aFieldAddr Tryz.prog 36 (.pointer (some ⟨b, o, none⟩)) 0 = ret (.pointer (some ⟨b, o + 0, none⟩)) := by kernel_rfl
@[simp] theorem fa_36_1 (b o : Nat) : aFieldAddr Tryz.prog 36 (.pointer (some ⟨b, o, none⟩)) 1 = ret (.pointer (some ⟨b, o + 1, none⟩)) := by kernel_rfl
@[simp] theorem fa_36_2 (b o : Nat) : aFieldAddr Tryz.prog 36 (.pointer (some ⟨b, o, none⟩)) 2 = ret (.pointer (some ⟨b, o + 2, none⟩)) := by kernel_rfl
@[simp] theorem fa_36_3 (b o : Nat) : aFieldAddr Tryz.prog 36 (.pointer (some ⟨b, o, none⟩)) 3 = ret (.pointer (some ⟨b, o + 3, none⟩)) := by kernel_rfl
@[simp] theorem fa_36_4 (b o : Nat) : aFieldAddr Tryz.prog 36 (.pointer (some ⟨b, o, none⟩)) 4 = ret (.pointer (some ⟨b, o + 4, none⟩)) := by kernel_rfl
@[simp] theorem bu_146 : stat Tryz.prog (bInfo 146) = some (#[], some 1, [.int .i64 0, .int .i64 0, .int .i64 0, .int .i64 0, .int .i64 0].toArray) := by kernel_rfl
@[simp] theorem zr_146 : zeroOf Tryz.prog 146 = some (.agg #[.int .i64 0, .int .i64 0, .int .i64 0, .int .i64 0, .int .i64 0]) := by kernel_rfl
@[simp] theorem ix_146 (cs : Array Value) (i : Int) (h : 0 ≤ i ∧ i < 5) : aIndex Tryz.prog 146 (.agg cs) (.int .i64 i) = ofOpt cs[i.toNat * 1]? := (show _ = ite (0 ≤ i ∧ i < 5) (ofOpt _) fail by kernel_rfl).trans (if_pos h)
@[simp] theorem cl_55 : callable Tryz.prog 55 = true := by kernel_rfl
@[simp] theorem cl_56 : callable Tryz.prog 56 = true := by kernel_rfl
@[simp] theorem cl_57 : callable Tryz.prog 57 = true := by kernel_rfl
@[simp] theorem bu_24 : stat Tryz.prog (bInfo 24) = some (#[(0, 1), (1, 1), (2, 1), (3, 1), (4, 1), (5, 1), (6, 1)], none, [.int .i64 0, .int .i64 0, .int .i64 0, .int .i64 0, .int .i64 0, .int .i64 0, .slice none 0 0].toArray) := by kernel_rfl
@[simp] theorem zr_131 : zeroOf Tryz.prog 131 = some (.agg #[.int .i64 0, .int .i64 0, .int .i64 0, .int .i64 0, .int .i64 0, .int .i64 0, .slice none 0 0, .int .i64 0, .int .i64 0, .int .i64 0, .int .i64 0, .int .i64 0, .int .i64 0, .int .i64 0, .string ⟨#[]⟩, .slice none 0 0, .slice none 0 0, .int .i64 0, .int .i64 0, .int .i64 0, .int .i64 0, .int .i64 0, .int .i64 0, .int .i64 0, .int .i64 0, .slice none 0 0, .slice none 0 0, .slice none 0 0, .slice none 0 0, .int .i64 0, .int .i64 0, .int .i64 0, .int .i64 0, .slice none 0 0, .slice none 0 0, .slice none 0 0, .slice none 0 0, .slice none 0 0, .bool false, .bool false, .int .i64 0, .bool false, .slice none 0 0]) := by kernel_rfl
@[simp] theorem cl_58 : callable Tryz.prog 58 = true := by kernel_rfl
@[simp] theorem cl_59 : callable Tryz.prog 59 = true := by kernel_rfl
@[simp] theorem bu_131 : stat Tryz.prog (bInfo 131) = some (#[(0, 7), (7, 8), (15, 2), (17, 12), (29, 7), (36, 1), (37, 1), (38, 1), (39, 1), (40, 1), (41, 1), (42, 1)], none, [.int .i64 0, .int .i64 0, .int .i64 0, .int .i64 0, .int .i64 0, .int .i64 0, .slice none 0 0, .int .i64 0, .int .i64 0, .int .i64 0, .int .i64 0, .int .i64 0, .int .i64 0, .int .i64 0, .string ⟨#[]⟩, .slice none 0 0, .slice none 0 0, .int .i64 0, .int .i64 0, .int .i64 0, .int .i64 0, .int .i64 0, .int .i64 0, .int .i64 0, .int .i64 0, .slice none 0 0, .slice none 0 0, .slice none 0 0, .slice none 0 0, .int .i64 0, .int .i64 0, .int .i64 0, .int .i64 0, .slice none 0 0, .slice none 0 0, .slice none 0 0, .slice none 0 0, .slice none 0 0, .bool false, .bool false, .int .i64 0, .bool false, .slice none 0 0].toArray) := by kernel_rfl
@[simp] theorem sz_131 : szOf Tryz.prog 131 = some 43 := by kernel_rfl
@[simp] theorem fa_154_2 (b o : Nat) : aFieldAddr Tryz.prog 154 (.pointer (some ⟨b, o, none⟩)) 2 = ret (.pointer (some ⟨b, o + 2, none⟩)) := by kernel_rfl
@[simp] theorem fa_113_3 (b o : Nat) : aFieldAddr Tryz.prog 113 (.pointer (some ⟨b, o, none⟩)) 3 = ret (.pointer (some ⟨b, o + 13, none⟩)) := by kernel_rfl
@[simp] theorem ag_109 : aggB Tryz.prog 109 = some false := by kernel_rfl
@[simp] theorem sz_109 : szOf Tryz.prog 109 = some 1 := by kernel_rfl
@[simp] theorem ip_109 : isPtrT Tryz.prog 109 = true := by kernel_rfl
@[simp] theorem cl_60 : callable Tryz.prog 60 = true := by kernel_rfl
@[simp] theorem zr_134 : zeroOf Tryz.prog 134 = some (.agg #[.int .u32 0, .int .u32 0, .int .u32 0, .int .i64 0, .int .i64 0, .int .i64 0]) := by kernel_rfl
@[simp] theorem fa_162_0 (b o : Nat) : aFieldAddr Tryz.prog 162 (.pointer (some ⟨b, o, none⟩)) 0 = ret (.pointer (some ⟨b, o + 0, none⟩)) := by kernel_rfl
@[simp] theorem fa_162_1 (b o : Nat) : aFieldAddr Tryz.prog 162 (.pointer (some ⟨b, o, none⟩)) 1 = ret (.pointer (some ⟨b, o + 1, none⟩)) := by kernel_rfl
@[simp] theorem fa_162_2 (b o : Nat) : aFieldAddr Tryz.prog 162 (.pointer (some ⟨b, o, none⟩)) 2 = ret (.pointer (some ⟨b, o + 2, none⟩)) := by kernel_rfl
@[simp] theorem fa_162_4 (b o : Nat) : aFieldAddr Tryz.prog 162 (.pointer (some ⟨b, o, none⟩)) 4 = ret (.pointer (some ⟨b, o + 4, none⟩)) := by kernel_rfl
@[simp] theorem ag_159 : aggB Tryz.prog 159 = some false := by kernel_rfl
@[simp] theorem sz_159 : szOf Tryz.prog 159 = some 1 := by kernel_rfl
@[simp] theorem fa_162_5 (b o : Nat) : aFieldAddr Tryz.prog 162 (.pointer (some ⟨b, o, none⟩)) 5 = ret (.pointer (some ⟨b, o + 5, none⟩)) := by kernel_rfl
@[simp] theorem ag_91 : aggB Tryz.prog 91 = some false := by kernel_rfl
@[simp] theorem sz_91 : szOf Tryz.prog 91 = some 1 := by kernel_rfl
@[simp] theorem ln_91 (a : Option Addr) (n c : Nat) : aLen Tryz.prog 91 (.slice a n c) = ret (.int .i64 n) := by kernel_rfl
@[simp] theorem fa_162_6 (b o : Nat) : aFieldAddr Tryz.prog 162 (.pointer (some ⟨b, o, none⟩)) 6 = ret (.pointer (some ⟨b, o + 6, none⟩)) := by kernel_rfl
@[simp] theorem ag_160 : aggB Tryz.prog 160 = some false := by kernel_rfl
@[simp] theorem sz_160 : szOf Tryz.prog 160 = some 1 := by kernel_rfl
@[simp] theorem ln_160 (a : Option Addr) (n c : Nat) : aLen Tryz.prog 160 (.slice a n c) = ret (.int .i64 n) := by kernel_rfl
@[simp] theorem bu_134 : stat Tryz.prog (bInfo 134) = some (#[(0, 1), (1, 1), (2, 1), (3, 1), (4, 1), (5, 1)], none, [.int .u32 0, .int .u32 0, .int .u32 0, .int .i64 0, .int .i64 0, .int .i64 0].toArray) := by kernel_rfl
@[simp] theorem sz_134 : szOf Tryz.prog 134 = some 6 := by kernel_rfl
@[simp] theorem fa_56_1 (b o : Nat) : aFieldAddr Tryz.prog 56 (.pointer (some ⟨b, o, none⟩)) 1 = ret (.pointer (some ⟨b, o + 1, none⟩)) := by kernel_rfl
@[simp] theorem ag_9 : aggB Tryz.prog 9 = some false := by kernel_rfl
@[simp] theorem sz_9 : szOf Tryz.prog 9 = some 1 := by kernel_rfl
@[simp] theorem ln_9 (b : ByteArray) : aLen Tryz.prog 9 (.string b) = ret (.int .i64 b.size) := by kernel_rfl
@[simp] theorem fa_56_2 (b o : Nat) : aFieldAddr Tryz.prog 56 (.pointer (some ⟨b, o, none⟩)) 2 = ret (.pointer (some ⟨b, o + 2, none⟩)) := by kernel_rfl
@[simp] theorem cl_61 : callable Tryz.prog 61 = true := by kernel_rfl
@[simp] theorem bu_166 : stat Tryz.prog (bInfo 166) = some (#[], some 1, [.int .i64 0, .int .i64 0].toArray) := by kernel_rfl
@[simp] theorem zr_166 : zeroOf Tryz.prog 166 = some (.agg #[.int .i64 0, .int .i64 0]) := by kernel_rfl
@[simp] theorem mt_163 : mapT Tryz.prog 163 = some (166, 3) := by kernel_rfl
@[simp] theorem zr_3 : zeroOf Tryz.prog 3 = some (.int .i64 0) := by kernel_rfl
@[simp] theorem fa_152_1 (b o : Nat) : aFieldAddr Tryz.prog 152 (.pointer (some ⟨b, o, none⟩)) 1 = ret (.pointer (some ⟨b, o + 2, none⟩)) := by kernel_rfl
@[simp] theorem ag_137 : aggB Tryz.prog 137 = some true := by kernel_rfl
@[simp] theorem sz_137 : szOf Tryz.prog 137 = some 5 := by kernel_rfl
@[simp] theorem cl_62 : callable Tryz.prog 62 = true := by kernel_rfl
@[simp] theorem fa_113_2 (b o : Nat) : aFieldAddr Tryz.prog 113 (.pointer (some ⟨b, o, none⟩)) 2 = ret (.pointer (some ⟨b, o + 12, none⟩)) := by kernel_rfl
@[simp] theorem ag_99 : aggB Tryz.prog 99 = some false := by kernel_rfl
@[simp] theorem sz_99 : szOf Tryz.prog 99 = some 1 := by kernel_rfl
@[simp] theorem cl_63 : callable Tryz.prog 63 = true := by kernel_rfl
@[simp] theorem bu_59 : stat Tryz.prog (bInfo 59) = some (#[(0, 1), (1, 1), (2, 1), (3, 1), (4, 1), (5, 1), (6, 1), (7, 1)], none, [.int .i64 0, .int .i64 0, .int .u32 0, .int .u32 0, .int .u32 0, .slice none 0 0, .bool false, .string ⟨#[]⟩].toArray) := by kernel_rfl
@[simp] theorem cl_64 : callable Tryz.prog 64 = true := by kernel_rfl
@[simp] theorem cl_65 : callable Tryz.prog 65 = true := by kernel_rfl
@[simp] theorem fa_113_11 (b o : Nat) : aFieldAddr Tryz.prog 113 (.pointer (some ⟨b, o, none⟩)) 11 = ret (.pointer (some ⟨b, o + 21, none⟩)) := by kernel_rfl
@[simp] theorem ia_91 (b o n c : Nat) (i : Int) (h : 0 ≤ i ∧ i < n) : aIndexAddr Tryz.prog 91 (.slice (some ⟨b, o, none⟩) n c) (.int .i64 i) = ret (.pointer (some ⟨b, o + i.toNat * 1, none⟩)) := (show _ = ite (0 ≤ i ∧ i < (n : Int)) (ret _) fail by kernel_rfl).trans (if_pos h)
@[simp] theorem bu_61 : stat Tryz.prog (bInfo 61) = some (#[(0, 1), (1, 1), (2, 1), (3, 1), (4, 1)], none, [.int .i64 0, .string ⟨#[]⟩, .bool false, .int .u8 0, .int .i64 0].toArray) := by kernel_rfl
@[simp] theorem bs_86_1 : bsCells Tryz.prog 86 1 = some (61, 5, [.int .i64 0, .string ⟨#[]⟩, .bool false, .int .u8 0, .int .i64 0]) := by kernel_rfl
@[simp] theorem ap_86 : apInfo Tryz.prog 86 = some (61, 5, 40) := by kernel_rfl
@[simp] theorem cl_66 : callable Tryz.prog 66 = true := by kernel_rfl
@[simp] theorem zr_170 : zeroOf Tryz.prog 170 = some (.agg #[.slice none 0 0, .slice none 0 0, .bool false, .bool false, .int .u32 0, .int .i64 0]) := by kernel_rfl
@[simp] theorem sz_170 : szOf Tryz.prog 170 = some 6 := by kernel_rfl
@[simp] theorem ag_170 : aggB Tryz.prog 170 = some true := by kernel_rfl
@[simp] theorem cl_67 : callable Tryz.prog 67 = true := by kernel_rfl
@[simp] theorem fa_113_10 (b o : Nat) : aFieldAddr Tryz.prog 113 (.pointer (some ⟨b, o, none⟩)) 10 = ret (.pointer (some ⟨b, o + 20, none⟩)) := by kernel_rfl
@[simp] theorem cl_68 : callable Tryz.prog 68 = true := by kernel_rfl
@[simp] theorem cl_69 : callable Tryz.prog 69 = true := by kernel_rfl
@[simp] theorem fa_93_3 (b o : Nat) : aFieldAddr Tryz.prog 93 (.pointer (some ⟨b, o, none⟩)) 3 = ret (.pointer (some ⟨b, o + 3, none⟩)) := by kernel_rfl
@[simp] theorem ia_111 (b o n c : Nat) (i : Int) (h : 0 ≤ i ∧ i < n) : aIndexAddr Tryz.prog 111 (.slice (some ⟨b, o, none⟩) n c) (.int .i64 i) = ret (.pointer (some ⟨b, o + i.toNat * 8, none⟩)) := (show _ = ite (0 ≤ i ∧ i < (n : Int)) (ret _) fail by kernel_rfl).trans (if_pos h)
@[simp] theorem el_111 : elemT Tryz.prog 111 = some 59 := by kernel_rfl
@[simp] theorem cl_70 : callable Tryz.prog 70 = true := by kernel_rfl
@[simp] theorem cl_71 : callable Tryz.prog 71 = true := by kernel_rfl
@[simp] theorem cl_72 : callable Tryz.prog 72 = true := by kernel_rfl
@[simp] theorem fa_113_9 (b o : Nat) : aFieldAddr Tryz.prog 113 (.pointer (some ⟨b, o, none⟩)) 9 = ret (.pointer (some ⟨b, o + 19, none⟩)) := by kernel_rfl
@[simp] theorem cl_73 : callable Tryz.prog 73 = true := by kernel_rfl
@[simp] theorem cl_74 : callable Tryz.prog 74 = true := by kernel_rfl
@[simp] theorem cl_75 : callable Tryz.prog 75 = true := by kernel_rfl
@[simp] theorem cl_76 : callable Tryz.prog 76 = true := by kernel_rfl
@[simp] theorem cl_77 : callable Tryz.prog 77 = true := by kernel_rfl
@[simp] theorem cl_78 : callable Tryz.prog 78 = true := by kernel_rfl
@[simp] theorem cl_79 : callable Tryz.prog 79 = true := by kernel_rfl
@[simp] theorem bu_189 : stat Tryz.prog (bInfo 189) = some (#[(0, 1), (1, 1)], none, [.int .u8 0, .string ⟨#[]⟩].toArray) := by kernel_rfl
@[simp] theorem zr_189 : zeroOf Tryz.prog 189 = some (.agg #[.int .u8 0, .string ⟨#[]⟩]) := by kernel_rfl
@[simp] theorem fa_98_0 (b o : Nat) : aFieldAddr Tryz.prog 98 (.pointer (some ⟨b, o, none⟩)) 0 = ret (.pointer (some ⟨b, o + 0, none⟩)) := by kernel_rfl
@[simp] theorem cl_80 : callable Tryz.prog 80 = true := by kernel_rfl
@[simp] theorem cl_81 : callable Tryz.prog 81 = true := by kernel_rfl
@[simp] theorem fa_69_1 (b o : Nat) : aFieldAddr Tryz.prog 69 (.pointer (some ⟨b, o, none⟩)) 1 = ret (.pointer (some ⟨b, o + 1, none⟩)) := by kernel_rfl
@[simp] theorem zr_120 : zeroOf Tryz.prog 120 = some (.agg #[.int .i64 0, .int .i64 0, .int .i64 0, .int .i64 0, .int .i64 0, .int .i64 0, .int .i64 0, .string ⟨#[]⟩]) := by kernel_rfl
@[simp] theorem bu_120 : stat Tryz.prog (bInfo 120) = some (#[(0, 1), (1, 1), (2, 1), (3, 1), (4, 1), (5, 1), (6, 1), (7, 1)], none, [.int .i64 0, .int .i64 0, .int .i64 0, .int .i64 0, .int .i64 0, .int .i64 0, .int .i64 0, .string ⟨#[]⟩].toArray) := by kernel_rfl
@[simp] theorem sz_120 : szOf Tryz.prog 120 = some 8 := by kernel_rfl
@[simp] theorem zr_122 : zeroOf Tryz.prog 122 = some (.agg #[.slice none 0 0, .slice none 0 0]) := by kernel_rfl
@[simp] theorem bu_122 : stat Tryz.prog (bInfo 122) = some (#[(0, 1), (1, 1)], none, [.slice none 0 0, .slice none 0 0].toArray) := by kernel_rfl
@[simp] theorem sz_122 : szOf Tryz.prog 122 = some 2 := by kernel_rfl
@[simp] theorem fa_194_7 (b o : Nat) : aFieldAddr Tryz.prog 194 (.pointer (some ⟨b, o, none⟩)) 7 = ret (.pointer (some ⟨b, o + 7, none⟩)) := by kernel_rfl
@[simp] theorem fa_194_8 (b o : Nat) : aFieldAddr Tryz.prog 194 (.pointer (some ⟨b, o, none⟩)) 8 = ret (.pointer (some ⟨b, o + 8, none⟩)) := by kernel_rfl
@[simp] theorem ag_192 : aggB Tryz.prog 192 = some false := by kernel_rfl
@[simp] theorem sz_192 : szOf Tryz.prog 192 = some 1 := by kernel_rfl
@[simp] theorem bs_22_4 : bsCells Tryz.prog 22 4 = some (3, 1, [.int .i64 0, .int .i64 0, .int .i64 0, .int .i64 0]) := by kernel_rfl
@[simp] theorem cl_82 : callable Tryz.prog 82 = true := by kernel_rfl
@[simp] theorem bs_22_1 : bsCells Tryz.prog 22 1 = some (3, 1, [.int .i64 0]) := by kernel_rfl
@[simp] theorem bs_22_2 : bsCells Tryz.prog 22 2 = some (3, 1, [.int .i64 0, .int .i64 0]) := by kernel_rfl
@[simp] theorem fa_150_0 (b o : Nat) : aFieldAddr Tryz.prog 150 (.pointer (some ⟨b, o, none⟩)) 0 = ret (.pointer (some ⟨b, o + 0, none⟩)) := by kernel_rfl
@[simp] theorem cl_83 : callable Tryz.prog 83 = true := by kernel_rfl
@[simp] theorem cl_84 : callable Tryz.prog 84 = true := by kernel_rfl
@[simp] theorem fa_150_1 (b o : Nat) : aFieldAddr Tryz.prog 150 (.pointer (some ⟨b, o, none⟩)) 1 = ret (.pointer (some ⟨b, o + 5, none⟩)) := by kernel_rfl
@[simp] theorem cl_85 : callable Tryz.prog 85 = true := by kernel_rfl
@[simp] theorem cl_86 : callable Tryz.prog 86 = true := by kernel_rfl
@[simp] theorem cl_87 : callable Tryz.prog 87 = true := by kernel_rfl
@[simp] theorem fa_154_0 (b o : Nat) : aFieldAddr Tryz.prog 154 (.pointer (some ⟨b, o, none⟩)) 0 = ret (.pointer (some ⟨b, o + 0, none⟩)) := by kernel_rfl
@[simp] theorem cl_88 : callable Tryz.prog 88 = true := by kernel_rfl
@[simp] theorem cl_89 : callable Tryz.prog 89 = true := by kernel_rfl
@[simp] theorem el_91 : elemT Tryz.prog 91 = some 9 := by kernel_rfl
@[simp] theorem cl_90 : callable Tryz.prog 90 = true := by kernel_rfl
@[simp] theorem bu_170 : stat Tryz.prog (bInfo 170) = some (#[(0, 1), (1, 1), (2, 1), (3, 1), (4, 1), (5, 1)], none, [.slice none 0 0, .slice none 0 0, .bool false, .bool false, .int .u32 0, .int .i64 0].toArray) := by kernel_rfl
@[simp] theorem fa_137_0 (b o : Nat) : aFieldAddr Tryz.prog 137 (.pointer (some ⟨b, o, none⟩)) 0 = ret (.pointer (some ⟨b, o + 0, none⟩)) := by kernel_rfl
@[simp] theorem cl_92 : callable Tryz.prog 92 = true := by kernel_rfl
@[simp] theorem cl_91 : callable Tryz.prog 91 = true := by kernel_rfl
@[simp] theorem fa_170_1 (b o : Nat) : aFieldAddr Tryz.prog 170 (.pointer (some ⟨b, o, none⟩)) 1 = ret (.pointer (some ⟨b, o + 1, none⟩)) := by kernel_rfl
@[simp] theorem cl_95 : callable Tryz.prog 95 = true := by kernel_rfl
@[simp] theorem cl_94 : callable Tryz.prog 94 = true := by kernel_rfl
@[simp] theorem bs_111_1 : bsCells Tryz.prog 111 1 = some (59, 8, [.int .i64 0, .int .i64 0, .int .u32 0, .int .u32 0, .int .u32 0, .slice none 0 0, .bool false, .string ⟨#[]⟩]) := by kernel_rfl
@[simp] theorem ap_111 : apInfo Tryz.prog 111 = some (59, 8, 80) := by kernel_rfl
@[simp] theorem fa_170_5 (b o : Nat) : aFieldAddr Tryz.prog 170 (.pointer (some ⟨b, o, none⟩)) 5 = ret (.pointer (some ⟨b, o + 5, none⟩)) := by kernel_rfl
@[simp] theorem cl_96 : callable Tryz.prog 96 = true := by kernel_rfl
@[simp] theorem cl_97 : callable Tryz.prog 97 = true := by kernel_rfl
@[simp] theorem fa_170_3 (b o : Nat) : aFieldAddr Tryz.prog 170 (.pointer (some ⟨b, o, none⟩)) 3 = ret (.pointer (some ⟨b, o + 3, none⟩)) := by kernel_rfl
@[simp] theorem cl_98 : callable Tryz.prog 98 = true := by kernel_rfl
@[simp] theorem cl_99 : callable Tryz.prog 99 = true := by kernel_rfl
@[simp] theorem cl_100 : callable Tryz.prog 100 = true := by kernel_rfl
@[simp] theorem fa_170_2 (b o : Nat) : aFieldAddr Tryz.prog 170 (.pointer (some ⟨b, o, none⟩)) 2 = ret (.pointer (some ⟨b, o + 2, none⟩)) := by kernel_rfl
@[simp] theorem fa_113_0 (b o : Nat) : aFieldAddr Tryz.prog 113 (.pointer (some ⟨b, o, none⟩)) 0 = ret (.pointer (some ⟨b, o + 0, none⟩)) := by kernel_rfl
@[simp] theorem cl_101 : callable Tryz.prog 101 = true := by kernel_rfl
@[simp] theorem cl_102 : callable Tryz.prog 102 = true := by kernel_rfl
@[simp] theorem fa_170_4 (b o : Nat) : aFieldAddr Tryz.prog 170 (.pointer (some ⟨b, o, none⟩)) 4 = ret (.pointer (some ⟨b, o + 4, none⟩)) := by kernel_rfl
@[simp] theorem cl_103 : callable Tryz.prog 103 = true := by kernel_rfl
@[simp] theorem cl_104 : callable Tryz.prog 104 = true := by kernel_rfl
@[simp] theorem fa_170_0 (b o : Nat) : aFieldAddr Tryz.prog 170 (.pointer (some ⟨b, o, none⟩)) 0 = ret (.pointer (some ⟨b, o + 0, none⟩)) := by kernel_rfl
@[simp] theorem ag_86 : aggB Tryz.prog 86 = some false := by kernel_rfl
@[simp] theorem sz_86 : szOf Tryz.prog 86 = some 1 := by kernel_rfl
@[simp] theorem fa_194_0 (b o : Nat) : aFieldAddr Tryz.prog 194 (.pointer (some ⟨b, o, none⟩)) 0 = ret (.pointer (some ⟨b, o + 0, none⟩)) := by kernel_rfl
@[simp] theorem fa_194_2 (b o : Nat) : aFieldAddr Tryz.prog 194 (.pointer (some ⟨b, o, none⟩)) 2 = ret (.pointer (some ⟨b, o + 2, none⟩)) := by kernel_rfl
@[simp] theorem bs_111_0 : bsCells Tryz.prog 111 0 = some (59, 8, []) := by kernel_rfl
@[simp] theorem cl_105 : callable Tryz.prog 105 = true := by kernel_rfl
@[simp] theorem fa_154_1 (b o : Nat) : aFieldAddr Tryz.prog 154 (.pointer (some ⟨b, o, none⟩)) 1 = ret (.pointer (some ⟨b, o + 1, none⟩)) := by kernel_rfl
@[simp] theorem cl_106 : callable Tryz.prog 106 = true := by kernel_rfl
@[simp] theorem cl_108 : callable Tryz.prog 108 = true := by kernel_rfl
@[simp] theorem cl_107 : callable Tryz.prog 107 = true := by kernel_rfl
@[simp] theorem ia_160 (b o n c : Nat) (i : Int) (h : 0 ≤ i ∧ i < n) : aIndexAddr Tryz.prog 160 (.slice (some ⟨b, o, none⟩) n c) (.int .i64 i) = ret (.pointer (some ⟨b, o + i.toNat * 2, none⟩)) := (show _ = ite (0 ≤ i ∧ i < (n : Int)) (ret _) fail by kernel_rfl).trans (if_pos h)
@[simp] theorem ag_215 : aggB Tryz.prog 215 = some true := by kernel_rfl
@[simp] theorem sz_215 : szOf Tryz.prog 215 = some 2 := by kernel_rfl
@[simp] theorem cl_109 : callable Tryz.prog 109 = true := by kernel_rfl
@[simp] theorem el_160 : elemT Tryz.prog 160 = some 215 := by kernel_rfl
@[simp] theorem ln_211 (a : Option Addr) (n c : Nat) : aLen Tryz.prog 211 (.slice a n c) = ret (.int .i64 n) := by kernel_rfl
@[simp] theorem el_211 : elemT Tryz.prog 211 = some 252 := by kernel_rfl
@[simp] theorem sz_252 : szOf Tryz.prog 252 = some 2 := by kernel_rfl
@[simp] theorem fa_194_5 (b o : Nat) : aFieldAddr Tryz.prog 194 (.pointer (some ⟨b, o, none⟩)) 5 = ret (.pointer (some ⟨b, o + 5, none⟩)) := by kernel_rfl
@[simp] theorem fa_194_6 (b o : Nat) : aFieldAddr Tryz.prog 194 (.pointer (some ⟨b, o, none⟩)) 6 = ret (.pointer (some ⟨b, o + 6, none⟩)) := by kernel_rfl
@[simp] theorem fa_194_3 (b o : Nat) : aFieldAddr Tryz.prog 194 (.pointer (some ⟨b, o, none⟩)) 3 = ret (.pointer (some ⟨b, o + 3, none⟩)) := by kernel_rfl
@[simp] theorem bs_22_3 : bsCells Tryz.prog 22 3 = some (3, 1, [.int .i64 0, .int .i64 0, .int .i64 0]) := by kernel_rfl
@[simp] theorem fa_194_9 (b o : Nat) : aFieldAddr Tryz.prog 194 (.pointer (some ⟨b, o, none⟩)) 9 = ret (.pointer (some ⟨b, o + 9, none⟩)) := by kernel_rfl
@[simp] theorem ag_57 : aggB Tryz.prog 57 = some false := by kernel_rfl
@[simp] theorem sz_57 : szOf Tryz.prog 57 = some 1 := by kernel_rfl
@[simp] theorem ln_57 (a : Option Addr) (n c : Nat) : aLen Tryz.prog 57 (.slice a n c) = ret (.int .i64 n) := by kernel_rfl
@[simp] theorem ia_57 (b o n c : Nat) (i : Int) (h : 0 ≤ i ∧ i < n) : aIndexAddr Tryz.prog 57 (.slice (some ⟨b, o, none⟩) n c) (.int .i64 i) = ret (.pointer (some ⟨b, o + i.toNat * 1, none⟩)) := (show _ = ite (0 ≤ i ∧ i < (n : Int)) (ret _) fail by kernel_rfl).trans (if_pos h)
@[simp] theorem el_57 : elemT Tryz.prog 57 = some 34 := by kernel_rfl
@[simp] theorem mt_192 : mapT Tryz.prog 192 = some (34, 217) := by kernel_rfl
@[simp] theorem zr_217 : zeroOf Tryz.prog 217 = some (.agg #[.string ⟨#[]⟩, .int .u32 0]) := by kernel_rfl
@[simp] theorem ff_217_0 (cs : Array Value) : aField Tryz.prog 217 (.agg cs) 0 = ofOpt cs[0]? := by kernel_rfl
@[simp] theorem cl_110 : callable Tryz.prog 110 = true := by kernel_rfl
@[simp] theorem cl_111 : callable Tryz.prog 111 = true := by kernel_rfl
@[simp] theorem cl_112 : callable Tryz.prog 112 = true := by kernel_rfl
@[simp] theorem zr_221 : zeroOf Tryz.prog 221 = some (.agg #[.int .i64 0, .bool false, .bool false, .int .i64 0, .bool false, .bool false, .bool false, .bool false]) := by kernel_rfl
@[simp] theorem sz_221 : szOf Tryz.prog 221 = some 8 := by kernel_rfl
@[simp] theorem fa_221_7 (b o : Nat) : aFieldAddr Tryz.prog 221 (.pointer (some ⟨b, o, none⟩)) 7 = ret (.pointer (some ⟨b, o + 7, none⟩)) := by kernel_rfl
@[simp] theorem fa_59_7 (b o : Nat) : aFieldAddr Tryz.prog 59 (.pointer (some ⟨b, o, none⟩)) 7 = ret (.pointer (some ⟨b, o + 7, none⟩)) := by kernel_rfl
@[simp] theorem fa_221_0 (b o : Nat) : aFieldAddr Tryz.prog 221 (.pointer (some ⟨b, o, none⟩)) 0 = ret (.pointer (some ⟨b, o + 0, none⟩)) := by kernel_rfl
@[simp] theorem fa_59_5 (b o : Nat) : aFieldAddr Tryz.prog 59 (.pointer (some ⟨b, o, none⟩)) 5 = ret (.pointer (some ⟨b, o + 5, none⟩)) := by kernel_rfl
@[simp] theorem fa_221_3 (b o : Nat) : aFieldAddr Tryz.prog 221 (.pointer (some ⟨b, o, none⟩)) 3 = ret (.pointer (some ⟨b, o + 3, none⟩)) := by kernel_rfl
@[simp] theorem fa_59_2 (b o : Nat) : aFieldAddr Tryz.prog 59 (.pointer (some ⟨b, o, none⟩)) 2 = ret (.pointer (some ⟨b, o + 2, none⟩)) := by kernel_rfl
@[simp] theorem cl_113 : callable Tryz.prog 113 = true := by kernel_rfl
@[simp] theorem fa_59_3 (b o : Nat) : aFieldAddr Tryz.prog 59 (.pointer (some ⟨b, o, none⟩)) 3 = ret (.pointer (some ⟨b, o + 3, none⟩)) := by kernel_rfl
@[simp] theorem fa_59_4 (b o : Nat) : aFieldAddr Tryz.prog 59 (.pointer (some ⟨b, o, none⟩)) 4 = ret (.pointer (some ⟨b, o + 4, none⟩)) := by kernel_rfl
@[simp] theorem cl_114 : callable Tryz.prog 114 = true := by kernel_rfl
@[simp] theorem cl_115 : callable Tryz.prog 115 = true := by kernel_rfl
@[simp] theorem fa_221_2 (b o : Nat) : aFieldAddr Tryz.prog 221 (.pointer (some ⟨b, o, none⟩)) 2 = ret (.pointer (some ⟨b, o + 2, none⟩)) := by kernel_rfl
@[simp] theorem fa_221_4 (b o : Nat) : aFieldAddr Tryz.prog 221 (.pointer (some ⟨b, o, none⟩)) 4 = ret (.pointer (some ⟨b, o + 4, none⟩)) := by kernel_rfl
@[simp] theorem fa_221_5 (b o : Nat) : aFieldAddr Tryz.prog 221 (.pointer (some ⟨b, o, none⟩)) 5 = ret (.pointer (some ⟨b, o + 5, none⟩)) := by kernel_rfl
@[simp] theorem fa_221_6 (b o : Nat) : aFieldAddr Tryz.prog 221 (.pointer (some ⟨b, o, none⟩)) 6 = ret (.pointer (some ⟨b, o + 6, none⟩)) := by kernel_rfl
@[simp] theorem fa_59_6 (b o : Nat) : aFieldAddr Tryz.prog 59 (.pointer (some ⟨b, o, none⟩)) 6 = ret (.pointer (some ⟨b, o + 6, none⟩)) := by kernel_rfl
@[simp] theorem fa_59_1 (b o : Nat) : aFieldAddr Tryz.prog 59 (.pointer (some ⟨b, o, none⟩)) 1 = ret (.pointer (some ⟨b, o + 1, none⟩)) := by kernel_rfl
@[simp] theorem fa_221_1 (b o : Nat) : aFieldAddr Tryz.prog 221 (.pointer (some ⟨b, o, none⟩)) 1 = ret (.pointer (some ⟨b, o + 1, none⟩)) := by kernel_rfl
@[simp] theorem zr_228 : zeroOf Tryz.prog 228 = some (.agg #[.pointer none, .slice none 0 0]) := by kernel_rfl
@[simp] theorem cl_117 : callable Tryz.prog 117 = true := by kernel_rfl
@[simp] theorem cl_116 : callable Tryz.prog 116 = true := by kernel_rfl
@[simp] theorem cl_118 : callable Tryz.prog 118 = true := by kernel_rfl
@[simp] theorem ln_234 (a : Option Addr) (n c : Nat) : aLen Tryz.prog 234 (.slice a n c) = ret (.int .i64 n) := by kernel_rfl
@[simp] theorem ia_234 (b o n c : Nat) (i : Int) (h : 0 ≤ i ∧ i < n) : aIndexAddr Tryz.prog 234 (.slice (some ⟨b, o, none⟩) n c) (.int .i64 i) = ret (.pointer (some ⟨b, o + i.toNat * 1, none⟩)) := (show _ = ite (0 ≤ i ∧ i < (n : Int)) (ret _) fail by kernel_rfl).trans (if_pos h)
@[simp] theorem ag_33 : aggB Tryz.prog 33 = some false := by kernel_rfl
@[simp] theorem cl_119 : callable Tryz.prog 119 = true := by kernel_rfl
@[simp] theorem cl_120 : callable Tryz.prog 120 = true := by kernel_rfl
@[simp] theorem cl_121 : callable Tryz.prog 121 = true := by kernel_rfl
@[simp] theorem fa_189_1 (b o : Nat) : aFieldAddr Tryz.prog 189 (.pointer (some ⟨b, o, none⟩)) 1 = ret (.pointer (some ⟨b, o + 1, none⟩)) := by kernel_rfl
@[simp] theorem cl_122 : callable Tryz.prog 122 = true := by kernel_rfl
@[simp] theorem fa_189_0 (b o : Nat) : aFieldAddr Tryz.prog 189 (.pointer (some ⟨b, o, none⟩)) 0 = ret (.pointer (some ⟨b, o + 0, none⟩)) := by kernel_rfl
@[simp] theorem ag_5 : aggB Tryz.prog 5 = some false := by kernel_rfl
@[simp] theorem sz_5 : szOf Tryz.prog 5 = some 1 := by kernel_rfl
@[simp] theorem ui_5 : Tryz.prog.underlying 5 = some (.int .u8) := by kernel_rfl
@[simp] theorem bs_226_4 : bsCells Tryz.prog 226 4 = some (5, 1, [.int .u8 0, .int .u8 0, .int .u8 0, .int .u8 0]) := by kernel_rfl
@[simp] theorem us_9 : Tryz.prog.underlying 9 = some .string := by kernel_rfl
@[simp] theorem cl_123 : callable Tryz.prog 123 = true := by kernel_rfl
@[simp] theorem fa_93_0 (b o : Nat) : aFieldAddr Tryz.prog 93 (.pointer (some ⟨b, o, none⟩)) 0 = ret (.pointer (some ⟨b, o + 0, none⟩)) := by kernel_rfl
@[simp] theorem cl_124 : callable Tryz.prog 124 = true := by kernel_rfl
@[simp] theorem cl_125 : callable Tryz.prog 125 = true := by kernel_rfl
@[simp] theorem cl_126 : callable Tryz.prog 126 = true := by kernel_rfl
@[simp] theorem cl_127 : callable Tryz.prog 127 = true := by kernel_rfl
@[simp] theorem cl_128 : callable Tryz.prog 128 = true := by kernel_rfl
@[simp] theorem fa_148_0 (b o : Nat) : aFieldAddr Tryz.prog 148 (.pointer (some ⟨b, o, none⟩)) 0 = ret (.pointer (some ⟨b, o + 0, none⟩)) := by kernel_rfl
@[simp] theorem ia_146 (b o : Nat) (i : Int) (h : 0 ≤ i ∧ i < 5) : aIndexAddr Tryz.prog 146 (.pointer (some ⟨b, o, none⟩)) (.int .i64 i) = ret (.pointer (some ⟨b, o + i.toNat * 1, none⟩)) := (show _ = ite (0 ≤ i ∧ i < 5) (ret _) fail by kernel_rfl).trans (if_pos h)
@[simp] theorem fa_154_3 (b o : Nat) : aFieldAddr Tryz.prog 154 (.pointer (some ⟨b, o, none⟩)) 3 = ret (.pointer (some ⟨b, o + 3, none⟩)) := by kernel_rfl
@[simp] theorem cl_129 : callable Tryz.prog 129 = true := by kernel_rfl
@[simp] theorem bs_91_0 : bsCells Tryz.prog 91 0 = some (9, 1, []) := by kernel_rfl
@[simp] theorem ap_91 : apInfo Tryz.prog 91 = some (9, 1, 16) := by kernel_rfl
@[simp] theorem bu_243 : stat Tryz.prog (bInfo 243) = some (#[(0, 1), (1, 6)], none, [.pointer none, .slice none 0 0, .slice none 0 0, .bool false, .bool false, .int .u32 0, .int .i64 0].toArray) := by kernel_rfl
@[simp] theorem zr_243 : zeroOf Tryz.prog 243 = some (.agg #[.pointer none, .slice none 0 0, .slice none 0 0, .bool false, .bool false, .int .u32 0, .int .i64 0]) := by kernel_rfl
@[simp] theorem fa_243_1 (b o : Nat) : aFieldAddr Tryz.prog 243 (.pointer (some ⟨b, o, none⟩)) 1 = ret (.pointer (some ⟨b, o + 1, none⟩)) := by kernel_rfl
@[simp] theorem cl_93 : callable Tryz.prog 93 = true := by kernel_rfl
@[simp] theorem cl_130 : callable Tryz.prog 130 = true := by kernel_rfl
@[simp] theorem fa_243_0 (b o : Nat) : aFieldAddr Tryz.prog 243 (.pointer (some ⟨b, o, none⟩)) 0 = ret (.pointer (some ⟨b, o + 0, none⟩)) := by kernel_rfl
@[simp] theorem fa_137_2 (b o : Nat) : aFieldAddr Tryz.prog 137 (.pointer (some ⟨b, o, none⟩)) 2 = ret (.pointer (some ⟨b, o + 2, none⟩)) := by kernel_rfl
@[simp] theorem cl_131 : callable Tryz.prog 131 = true := by kernel_rfl
@[simp] theorem cl_132 : callable Tryz.prog 132 = true := by kernel_rfl
@[simp] theorem cl_133 : callable Tryz.prog 133 = true := by kernel_rfl
@[simp] theorem cl_134 : callable Tryz.prog 134 = true := by kernel_rfl
@[simp] theorem cl_135 : callable Tryz.prog 135 = true := by kernel_rfl
@[simp] theorem fa_194_1 (b o : Nat) : aFieldAddr Tryz.prog 194 (.pointer (some ⟨b, o, none⟩)) 1 = ret (.pointer (some ⟨b, o + 1, none⟩)) := by kernel_rfl
@[simp] theorem bs_91_1 : bsCells Tryz.prog 91 1 = some (9, 1, [.string ⟨#[]⟩]) := by kernel_rfl
@[simp] theorem cl_136 : callable Tryz.prog 136 = true := by kernel_rfl
@[simp] theorem cl_137 : callable Tryz.prog 137 = true := by kernel_rfl
@[simp] theorem bu_194 : stat Tryz.prog (bInfo 194) = some (#[(0, 1), (1, 1), (2, 1), (3, 1), (4, 1), (5, 1), (6, 1), (7, 1), (8, 1), (9, 1)], none, [.int .u32 0, .int .u32 0, .int .u32 0, .int .u32 0, .int .u32 0, .int .i64 0, .int .i64 0, .pointer none, .map none, .slice none 0 0].toArray) := by kernel_rfl
@[simp] theorem zr_194 : zeroOf Tryz.prog 194 = some (.agg #[.int .u32 0, .int .u32 0, .int .u32 0, .int .u32 0, .int .u32 0, .int .i64 0, .int .i64 0, .pointer none, .map none, .slice none 0 0]) := by kernel_rfl
@[simp] theorem mt_159 : mapT Tryz.prog 159 = some (34, 9) := by kernel_rfl
@[simp] theorem bu_162 : stat Tryz.prog (bInfo 162) = some (#[(0, 1), (1, 1), (2, 1), (3, 1), (4, 1), (5, 1), (6, 1)], none, [.int .u32 0, .int .u32 0, .int .u32 0, .int .i64 0, .map none, .slice none 0 0, .slice none 0 0].toArray) := by kernel_rfl
@[simp] theorem zr_162 : zeroOf Tryz.prog 162 = some (.agg #[.int .u32 0, .int .u32 0, .int .u32 0, .int .i64 0, .map none, .slice none 0 0, .slice none 0 0]) := by kernel_rfl
@[simp] theorem cl_138 : callable Tryz.prog 138 = true := by kernel_rfl
@[simp] theorem fa_162_3 (b o : Nat) : aFieldAddr Tryz.prog 162 (.pointer (some ⟨b, o, none⟩)) 3 = ret (.pointer (some ⟨b, o + 3, none⟩)) := by kernel_rfl
@[simp] theorem cl_139 : callable Tryz.prog 139 = true := by kernel_rfl
@[simp] theorem bu_252 : stat Tryz.prog (bInfo 252) = some (#[(0, 1), (1, 1)], none, [.int .i64 0, .int .i64 0].toArray) := by kernel_rfl
@[simp] theorem zr_252 : zeroOf Tryz.prog 252 = some (.agg #[.int .i64 0, .int .i64 0]) := by kernel_rfl
@[simp] theorem bs_210_1 : bsCells Tryz.prog 210 1 = some (252, 2, [.int .i64 0, .int .i64 0]) := by kernel_rfl
@[simp] theorem cl_141 : callable Tryz.prog 141 = true := by kernel_rfl
@[simp] theorem cl_140 : callable Tryz.prog 140 = true := by kernel_rfl
@[simp] theorem ia_211 (b o n c : Nat) (i : Int) (h : 0 ≤ i ∧ i < n) : aIndexAddr Tryz.prog 211 (.slice (some ⟨b, o, none⟩) n c) (.int .i64 i) = ret (.pointer (some ⟨b, o + i.toNat * 2, none⟩)) := (show _ = ite (0 ≤ i ∧ i < (n : Int)) (ret _) fail by kernel_rfl).trans (if_pos h)
@[simp] theorem ag_252 : aggB Tryz.prog 252 = some true := by kernel_rfl
@[simp] theorem fa_252_0 (b o : Nat) : aFieldAddr Tryz.prog 252 (.pointer (some ⟨b, o, none⟩)) 0 = ret (.pointer (some ⟨b, o + 0, none⟩)) := by kernel_rfl
@[simp] theorem fa_252_1 (b o : Nat) : aFieldAddr Tryz.prog 252 (.pointer (some ⟨b, o, none⟩)) 1 = ret (.pointer (some ⟨b, o + 1, none⟩)) := by kernel_rfl
@[simp] theorem bs_57_2 : bsCells Tryz.prog 57 2 = some (34, 1, [.int .u32 0, .int .u32 0]) := by kernel_rfl
@[simp] theorem ap_57 : apInfo Tryz.prog 57 = some (34, 1, 4) := by kernel_rfl
@[simp] theorem cl_142 : callable Tryz.prog 142 = true := by kernel_rfl
@[simp] theorem fa_215_1 (b o : Nat) : aFieldAddr Tryz.prog 215 (.pointer (some ⟨b, o, none⟩)) 1 = ret (.pointer (some ⟨b, o + 1, none⟩)) := by kernel_rfl
@[simp] theorem fa_215_0 (b o : Nat) : aFieldAddr Tryz.prog 215 (.pointer (some ⟨b, o, none⟩)) 0 = ret (.pointer (some ⟨b, o + 0, none⟩)) := by kernel_rfl
@[simp] theorem bu_217 : stat Tryz.prog (bInfo 217) = some (#[(0, 1), (1, 1)], none, [.string ⟨#[]⟩, .int .u32 0].toArray) := by kernel_rfl
@[simp] theorem cl_143 : callable Tryz.prog 143 = true := by kernel_rfl
@[simp] theorem fa_93_1 (b o : Nat) : aFieldAddr Tryz.prog 93 (.pointer (some ⟨b, o, none⟩)) 1 = ret (.pointer (some ⟨b, o + 1, none⟩)) := by kernel_rfl
@[simp] theorem bu_221 : stat Tryz.prog (bInfo 221) = some (#[(0, 1), (1, 1), (2, 1), (3, 1), (4, 1), (5, 1), (6, 1), (7, 1)], none, [.int .i64 0, .bool false, .bool false, .int .i64 0, .bool false, .bool false, .bool false, .bool false].toArray) := by kernel_rfl
@[simp] theorem cl_144 : callable Tryz.prog 144 = true := by kernel_rfl
@[simp] theorem cl_145 : callable Tryz.prog 145 = true := by kernel_rfl
@[simp] theorem fa_228_1 (b o : Nat) : aFieldAddr Tryz.prog 228 (.pointer (some ⟨b, o, none⟩)) 1 = ret (.pointer (some ⟨b, o + 1, none⟩)) := by kernel_rfl
@[simp] theorem ag_226 : aggB Tryz.prog 226 = some false := by kernel_rfl
@[simp] theorem sz_226 : szOf Tryz.prog 226 = some 1 := by kernel_rfl
@[simp] theorem ap_226 : apInfo Tryz.prog 226 = some (5, 1, 1) := by kernel_rfl
@[simp] theorem ui_145 : Tryz.prog.underlying 145 = some (.int .u64) := by kernel_rfl
@[simp] theorem cl_146 : callable Tryz.prog 146 = true := by kernel_rfl
@[simp] theorem cl_147 : callable Tryz.prog 147 = true := by kernel_rfl
@[simp] theorem cl_148 : callable Tryz.prog 148 = true := by kernel_rfl
@[simp] theorem cl_149 : callable Tryz.prog 149 = true := by kernel_rfl
@[simp] theorem bs_234_1 : bsCells Tryz.prog 234 1 = some (33, 1, [.int .u32 0]) := by kernel_rfl
@[simp] theorem ap_234 : apInfo Tryz.prog 234 = some (33, 1, 4) := by kernel_rfl
@[simp] theorem el_226 : elemT Tryz.prog 226 = some 5 := by kernel_rfl
@[simp] theorem ln_226 (a : Option Addr) (n c : Nat) : aLen Tryz.prog 226 (.slice a n c) = ret (.int .i64 n) := by kernel_rfl
@[simp] theorem cl_151 : callable Tryz.prog 151 = true := by kernel_rfl
@[simp] theorem cl_150 : callable Tryz.prog 150 = true := by kernel_rfl
@[simp] theorem zr_9 : zeroOf Tryz.prog 9 = some (.string ⟨#[]⟩) := by kernel_rfl
@[simp] theorem fa_137_1 (b o : Nat) : aFieldAddr Tryz.prog 137 (.pointer (some ⟨b, o, none⟩)) 1 = ret (.pointer (some ⟨b, o + 1, none⟩)) := by kernel_rfl
@[simp] theorem fa_137_3 (b o : Nat) : aFieldAddr Tryz.prog 137 (.pointer (some ⟨b, o, none⟩)) 3 = ret (.pointer (some ⟨b, o + 3, none⟩)) := by kernel_rfl
@[simp] theorem fa_152_2 (b o : Nat) : aFieldAddr Tryz.prog 152 (.pointer (some ⟨b, o, none⟩)) 2 = ret (.pointer (some ⟨b, o + 7, none⟩)) := by kernel_rfl
@[simp] theorem cl_152 : callable Tryz.prog 152 = true := by kernel_rfl
@[simp] theorem fa_152_0 (b o : Nat) : aFieldAddr Tryz.prog 152 (.pointer (some ⟨b, o, none⟩)) 0 = ret (.pointer (some ⟨b, o + 0, none⟩)) := by kernel_rfl
@[simp] theorem cl_153 : callable Tryz.prog 153 = true := by kernel_rfl
@[simp] theorem fa_137_4 (b o : Nat) : aFieldAddr Tryz.prog 137 (.pointer (some ⟨b, o, none⟩)) 4 = ret (.pointer (some ⟨b, o + 4, none⟩)) := by kernel_rfl
@[simp] theorem ap_210 : apInfo Tryz.prog 210 = some (252, 2, 16) := by kernel_rfl
@[simp] theorem ln_210 (a : Option Addr) (n c : Nat) : aLen Tryz.prog 210 (.slice a n c) = ret (.int .i64 n) := by kernel_rfl
@[simp] theorem ia_210 (b o n c : Nat) (i : Int) (h : 0 ≤ i ∧ i < n) : aIndexAddr Tryz.prog 210 (.slice (some ⟨b, o, none⟩) n c) (.int .i64 i) = ret (.pointer (some ⟨b, o + i.toNat * 2, none⟩)) := (show _ = ite (0 ≤ i ∧ i < (n : Int)) (ret _) fail by kernel_rfl).trans (if_pos h)
@[simp] theorem cl_154 : callable Tryz.prog 154 = true := by kernel_rfl
@[simp] theorem cl_155 : callable Tryz.prog 155 = true := by kernel_rfl
@[simp] theorem cl_156 : callable Tryz.prog 156 = true := by kernel_rfl
@[simp] theorem cl_157 : callable Tryz.prog 157 = true := by kernel_rfl
@[simp] theorem bs_211_1 : bsCells Tryz.prog 211 1 = some (252, 2, [.int .i64 0, .int .i64 0]) := by kernel_rfl
@[simp] theorem ap_211 : apInfo Tryz.prog 211 = some (252, 2, 16) := by kernel_rfl
@[simp] theorem bs_210_2 : bsCells Tryz.prog 210 2 = some (252, 2, [.int .i64 0, .int .i64 0, .int .i64 0, .int .i64 0]) := by kernel_rfl
@[simp] theorem fa_228_0 (b o : Nat) : aFieldAddr Tryz.prog 228 (.pointer (some ⟨b, o, none⟩)) 0 = ret (.pointer (some ⟨b, o + 0, none⟩)) := by kernel_rfl
@[simp] theorem ag_225 : aggB Tryz.prog 225 = some false := by kernel_rfl
@[simp] theorem sz_225 : szOf Tryz.prog 225 = some 1 := by kernel_rfl
@[simp] theorem ip_225 : isPtrT Tryz.prog 225 = true := by kernel_rfl
@[simp] theorem cl_160 : callable Tryz.prog 160 = true := by kernel_rfl
@[simp] theorem cl_161 : callable Tryz.prog 161 = true := by kernel_rfl
@[simp] theorem cl_162 : callable Tryz.prog 162 = true := by kernel_rfl
@[simp] theorem cl_163 : callable Tryz.prog 163 = true := by kernel_rfl
@[simp] theorem cl_165 : callable Tryz.prog 165 = true := by kernel_rfl
@[simp] theorem cl_164 : callable Tryz.prog 164 = true := by kernel_rfl
@[simp] theorem cl_158 : callable Tryz.prog 158 = true := by kernel_rfl
@[simp] theorem cl_166 : callable Tryz.prog 166 = true := by kernel_rfl
@[simp] theorem ui_267 : Tryz.prog.underlying 267 = some (.int .u64) := by kernel_rfl
@[simp] theorem cl_168 : callable Tryz.prog 168 = true := by kernel_rfl
@[simp] theorem cl_169 : callable Tryz.prog 169 = true := by kernel_rfl
@[simp] theorem cl_170 : callable Tryz.prog 170 = true := by kernel_rfl
@[simp] theorem cl_171 : callable Tryz.prog 171 = true := by kernel_rfl
@[simp] theorem cl_172 : callable Tryz.prog 172 = true := by kernel_rfl
@[simp] theorem cl_173 : callable Tryz.prog 173 = true := by kernel_rfl
@[simp] theorem cl_174 : callable Tryz.prog 174 = true := by kernel_rfl
@[simp] theorem cl_175 : callable Tryz.prog 175 = true := by kernel_rfl
@[simp] theorem cl_176 : callable Tryz.prog 176 = true := by kernel_rfl
@[simp] theorem cl_177 : callable Tryz.prog 177 = true := by kernel_rfl
@[simp] theorem cl_178 : callable Tryz.prog 178 = true := by kernel_rfl
@[simp] theorem ui_283 : Tryz.prog.underlying 283 = some (.int .u64) := by kernel_rfl
@[simp] theorem zr_283 : zeroOf Tryz.prog 283 = some (.int .u64 0) := by kernel_rfl
@[simp] theorem sz_283 : szOf Tryz.prog 283 = some 1 := by kernel_rfl
@[simp] theorem cl_179 : callable Tryz.prog 179 = true := by kernel_rfl
@[simp] theorem cl_180 : callable Tryz.prog 180 = true := by kernel_rfl
@[simp] theorem cl_181 : callable Tryz.prog 181 = true := by kernel_rfl
@[simp] theorem cl_182 : callable Tryz.prog 182 = true := by kernel_rfl
@[simp] theorem ag_283 : aggB Tryz.prog 283 = some false := by kernel_rfl
@[simp] theorem cl_183 : callable Tryz.prog 183 = true := by kernel_rfl
end Go.Proofs.YtnimgpfgfohdoaaGreat
