import Derived.Test.YtkabaecoamilnaaGreatDoorCAyD
import Derived.Test.YtkabaecoamilnaaGreatDoorProg
import Derived.KernelRfl
set_option linter.unusedVariables false
namespace Go.Proofs.YtkabaecoamilnaaGreatDoor
open Go AX
@[simp] theorem cl_8 : callable Tryz.prog 8 = true := by kernel_rfl
@[simp] theorem ag_26 : aggB Tryz.prog 26 = some true := by kernel_rfl
@[simp] theorem sz_26 : szOf Tryz.prog 26 = some 15 := by kernel_rfl
@[simp] theorem cl_9 : callable Tryz.prog 9 = true := by kernel_rfl
@[simp] theorem zr_32 : zeroOf Tryz.prog 32 = some (.agg #[.slice none 0 0, .slice none 0 0, .int .i64 0]) := by kernel_rfl
@[simp] theorem sz_32 : szOf Tryz.prog 32 = some 3 := by kernel_rfl
@[simp] theorem ip_28 : isPtrT Tryz.prog 28 = true := by kernel_rfl
@[simp] theorem cl_10 : callable Tryz.prog 10 = true := by kernel_rfl
@[simp] theorem ln_35 (a : Option Addr) (n c : Nat) : aLen Tryz.prog 35 (.slice a n c) = ret (.int .i64 n) := by kernel_rfl
@[simp] theorem cl_11 : callable Tryz.prog 11 = true := by kernel_rfl
@[simp] theorem bu_41 : stat Tryz.prog (bInfo 41) = some (#[(0, 1), (1, 1), (2, 1)], none, [.int .i64 0, .int .i64 0, .int .u32 0].toArray) := by kernel_rfl
@[simp] theorem zr_41 : zeroOf Tryz.prog 41 = some (.agg #[.int .i64 0, .int .i64 0, .int .u32 0]) := by kernel_rfl
@[simp] theorem cl_12 : callable Tryz.prog 12 = true := by kernel_rfl
@[simp] theorem ag_32 : aggB Tryz.prog 32 = some true := by kernel_rfl
@[simp] theorem cl_13 : callable Tryz.prog 13 = true := by kernel_rfl
@[simp] theorem ln_44 (a : Option Addr) (n c : Nat) : aLen Tryz.prog 44 (.slice a n c) = ret (.int .i64 n) := by kernel_rfl
@[simp] theorem ia_44 (b o n c : Nat) (i : Int) (h : 0 ≤ i ∧ i < n) : aIndexAddr Tryz.prog 44 (.slice (some ⟨b, o, none⟩) n c) (.int .i64 i) = ret (.pointer (some ⟨b, o + i.toNat * 9, none⟩)) := (show _ = ite (0 ≤ i ∧ i < (n : Int)) (ret _) fail by kernel_rfl).trans (if_pos h)
@[simp] theorem ag_50 : aggB Tryz.prog 50 = some true := by kernel_rfl
@[simp] theorem sz_50 : szOf Tryz.prog 50 = some 9 := by kernel_rfl
@[simp] theorem cl_14 : callable Tryz.prog 14 = true := by kernel_rfl
@[simp] theorem bu_53 : stat Tryz.prog (bInfo 53) = some (#[], some 1, [.slice none 0 0, .slice none 0 0].toArray) := by kernel_rfl
@[simp] theorem zr_53 : zeroOf Tryz.prog 53 = some (.agg #[.slice none 0 0, .slice none 0 0]) := by kernel_rfl
@[simp] theorem sz_53 : szOf Tryz.prog 53 = some 2 := by kernel_rfl
@[simp] theorem fa_50_0 (b o : Nat) : aFieldAddr Tryz.prog 50 (.pointer (some ⟨b, o, none⟩)) 0 = ret (.pointer (some ⟨b, o + 0, none⟩)) := by kernel_rfl
@[simp] theorem ag_3 : aggB Tryz.prog 3 = some false := by kernel_rfl
@[simp] theorem sz_3 : szOf Tryz.prog 3 = some 1 := by kernel_rfl
@[simp] theorem ia_35 (b o n c : Nat) (i : Int) (h : 0 ≤ i ∧ i < n) : aIndexAddr Tryz.prog 35 (.slice (some ⟨b, o, none⟩) n c) (.int .i64 i) = ret (.pointer (some ⟨b, o + i.toNat * 18, none⟩)) := (show _ = ite (0 ≤ i ∧ i < (n : Int)) (ret _) fail by kernel_rfl).trans (if_pos h)
@[simp] theorem ag_61 : aggB Tryz.prog 61 = some true := by kernel_rfl
@[simp] theorem sz_61 : szOf Tryz.prog 61 = some 18 := by kernel_rfl
@[simp] theorem zr_61 : zeroOf Tryz.prog 61 = some (.agg #[.int .i64 0, .int .i64 0, .int .i64 0, .int .i64 0, .int .u32 0, .int .u32 0, .int .u32 0, .slice none 0 0, .bool false, .string ⟨#[]⟩, .int .i64 0, .string ⟨#[]⟩, .bool false, .int .u8 0, .int .i64 0, .int .i64 0, .string ⟨#[]⟩, .int .i64 0]) := by kernel_rfl
@[simp] theorem fa_61_1 (b o : Nat) : aFieldAddr Tryz.prog 61 (.pointer (some ⟨b, o, none⟩)) 1 = ret (.pointer (some ⟨b, o + 1, none⟩)) := by kernel_rfl
@[simp] theorem fa_61_0 (b o : Nat) : aFieldAddr Tryz.prog 61 (.pointer (some ⟨b, o, none⟩)) 0 = ret (.pointer (some ⟨b, o + 0, none⟩)) := by kernel_rfl
@[simp] theorem ia_53 (b o : Nat) (i : Int) (h : 0 ≤ i ∧ i < 2) : aIndexAddr Tryz.prog 53 (.pointer (some ⟨b, o, none⟩)) (.int .i64 i) = ret (.pointer (some ⟨b, o + i.toNat * 1, none⟩)) := (show _ = ite (0 ≤ i ∧ i < 2) (ret _) fail by kernel_rfl).trans (if_pos h)
@[simp] theorem ag_52 : aggB Tryz.prog 52 = some false := by kernel_rfl
@[simp] theorem sz_52 : szOf Tryz.prog 52 = some 1 := by kernel_rfl
@[simp] theorem fa_61_2 (b o : Nat) : aFieldAddr Tryz.prog 61 (.pointer (some ⟨b, o, none⟩)) 2 = ret (.pointer (some ⟨b, o + 2, none⟩)) := by kernel_rfl
@[simp] theorem ag_57 : aggB Tryz.prog 57 = some true := by kernel_rfl
@[simp] theorem sz_57 : szOf Tryz.prog 57 = some 8 := by kernel_rfl
@[simp] theorem bs_52_1 : bsCells Tryz.prog 52 1 = some (57, 8, [.int .i64 0, .int .i64 0, .int .u32 0, .int .u32 0, .int .u32 0, .slice none 0 0, .bool false, .string ⟨#[]⟩]) := by kernel_rfl
@[simp] theorem ap_52 : apInfo Tryz.prog 52 = some (57, 8, 80) := by kernel_rfl
@[simp] theorem ln_52 (a : Option Addr) (n c : Nat) : aLen Tryz.prog 52 (.slice a n c) = ret (.int .i64 n) := by kernel_rfl
@[simp] theorem ia_52 (b o n c : Nat) (i : Int) (h : 0 ≤ i ∧ i < n) : aIndexAddr Tryz.prog 52 (.slice (some ⟨b, o, none⟩) n c) (.int .i64 i) = ret (.pointer (some ⟨b, o + i.toNat * 8, none⟩)) := (show _ = ite (0 ≤ i ∧ i < (n : Int)) (ret _) fail by kernel_rfl).trans (if_pos h)
@[simp] theorem cl_15 : callable Tryz.prog 15 = true := by kernel_rfl
@[simp] theorem el_52 : elemT Tryz.prog 52 = some 57 := by kernel_rfl
@[simp] theorem cl_16 : callable Tryz.prog 16 = true := by kernel_rfl
@[simp] theorem fa_68_0 (b o : Nat) : aFieldAddr Tryz.prog 68 (.pointer (some ⟨b, o, none⟩)) 0 = ret (.pointer (some ⟨b, o + 0, none⟩)) := by kernel_rfl
@[simp] theorem ag_66 : aggB Tryz.prog 66 = some false := by kernel_rfl
@[simp] theorem sz_66 : szOf Tryz.prog 66 = some 1 := by kernel_rfl
@[simp] theorem cl_17 : callable Tryz.prog 17 = true := by kernel_rfl
@[simp] theorem ln_69 (a : Option Addr) (n c : Nat) : aLen Tryz.prog 69 (.slice a n c) = ret (.int .i64 n) := by kernel_rfl
@[simp] theorem ia_69 (b o n c : Nat) (i : Int) (h : 0 ≤ i ∧ i < n) : aIndexAddr Tryz.prog 69 (.slice (some ⟨b, o, none⟩) n c) (.int .i64 i) = ret (.pointer (some ⟨b, o + i.toNat * 1, none⟩)) := (show _ = ite (0 ≤ i ∧ i < (n : Int)) (ret _) fail by kernel_rfl).trans (if_pos h)
@[simp] theorem ag_9 : aggB Tryz.prog 9 = some false := by kernel_rfl
@[simp] theorem sz_9 : szOf Tryz.prog 9 = some 1 := by kernel_rfl
@[simp] theorem bu_50 : stat Tryz.prog (bInfo 50) = some (#[(0, 1), (1, 1), (2, 3), (5, 3), (8, 1)], none, [.int .i64 0, .int .i64 0, .int .i64 0, .string ⟨#[]⟩, .int .i64 0, .int .i64 0, .int .i64 0, .int .u32 0, .string ⟨#[]⟩].toArray) := by kernel_rfl
@[simp] theorem zr_50 : zeroOf Tryz.prog 50 = some (.agg #[.int .i64 0, .int .i64 0, .int .i64 0, .string ⟨#[]⟩, .int .i64 0, .int .i64 0, .int .i64 0, .int .u32 0, .string ⟨#[]⟩]) := by kernel_rfl
@[simp] theorem ln_70 (a : Option Addr) (n c : Nat) : aLen Tryz.prog 70 (.slice a n c) = ret (.int .i64 n) := by kernel_rfl
@[simp] theorem ia_70 (b o n c : Nat) (i : Int) (h : 0 ≤ i ∧ i < n) : aIndexAddr Tryz.prog 70 (.slice (some ⟨b, o, none⟩) n c) (.int .i64 i) = ret (.pointer (some ⟨b, o + i.toNat * 8, none⟩)) := (show _ = ite (0 ≤ i ∧ i < (n : Int)) (ret _) fail by kernel_rfl).trans (if_pos h)
@[simp] theorem ag_72 : aggB Tryz.prog 72 = some true := by kernel_rfl
@[simp] theorem sz_72 : szOf Tryz.prog 72 = some 8 := by kernel_rfl
@[simp] theorem cl_18 : callable Tryz.prog 18 = true := by kernel_rfl
@[simp] theorem zr_72 : zeroOf Tryz.prog 72 = some (.agg #[.int .i64 0, .int .i64 0, .int .i64 0, .int .i64 0, .int .i64 0, .slice none 0 0, .bool false, .string ⟨#[]⟩]) := by kernel_rfl
@[simp] theorem cl_20 : callable Tryz.prog 20 = true := by kernel_rfl
@[simp] theorem cl_19 : callable Tryz.prog 19 = true := by kernel_rfl
@[simp] theorem bu_48 : stat Tryz.prog (bInfo 48) = some (#[(0, 1), (1, 1), (2, 1)], none, [.int .i64 0, .string ⟨#[]⟩, .int .i64 0].toArray) := by kernel_rfl
@[simp] theorem zr_48 : zeroOf Tryz.prog 48 = some (.agg #[.int .i64 0, .string ⟨#[]⟩, .int .i64 0]) := by kernel_rfl
@[simp] theorem cl_21 : callable Tryz.prog 21 = true := by kernel_rfl
@[simp] theorem bu_26 : stat Tryz.prog (bInfo 26) = some (#[(0, 7), (7, 7), (14, 1)], none, [.int .i64 0, .int .i64 0, .int .i64 0, .int .i64 0, .int .i64 0, .int .i64 0, .slice none 0 0, .int .i64 0, .int .i64 0, .int .i64 0, .int .i64 0, .int .i64 0, .int .i64 0, .slice none 0 0, .int .i64 0].toArray) := by kernel_rfl
@[simp] theorem zr_26 : zeroOf Tryz.prog 26 = some (.agg #[.int .i64 0, .int .i64 0, .int .i64 0, .int .i64 0, .int .i64 0, .int .i64 0, .slice none 0 0, .int .i64 0, .int .i64 0, .int .i64 0, .int .i64 0, .int .i64 0, .int .i64 0, .slice none 0 0, .int .i64 0]) := by kernel_rfl
@[simp] theorem cl_22 : callable Tryz.prog 22 = true := by kernel_rfl
@[simp] theorem fa_57_0 (b o : Nat) : aFieldAddr Tryz.prog 57 (.pointer (some ⟨b, o, none⟩)) 0 = ret (.pointer (some ⟨b, o + 0, none⟩)) := by kernel_rfl
@[simp] theorem ip_63 : isPtrT Tryz.prog 63 = true := by kernel_rfl
@[simp] theorem cl_23 : callable Tryz.prog 23 = true := by kernel_rfl
@[simp] theorem ip_82 : isPtrT Tryz.prog 82 = true := by kernel_rfl
@[simp] theorem cl_24 : callable Tryz.prog 24 = true := by kernel_rfl
@[simp] theorem cl_26 : callable Tryz.prog 26 = true := by kernel_rfl
@[simp] theorem cl_25 : callable Tryz.prog 25 = true := by kernel_rfl
@[simp] theorem bu_32 : stat Tryz.prog (bInfo 32) = some (#[(0, 1), (1, 1), (2, 1)], none, [.slice none 0 0, .slice none 0 0, .int .i64 0].toArray) := by kernel_rfl
@[simp] theorem fa_26_0 (b o : Nat) : aFieldAddr Tryz.prog 26 (.pointer (some ⟨b, o, none⟩)) 0 = ret (.pointer (some ⟨b, o + 0, none⟩)) := by kernel_rfl
@[simp] theorem ag_24 : aggB Tryz.prog 24 = some true := by kernel_rfl
@[simp] theorem sz_24 : szOf Tryz.prog 24 = some 7 := by kernel_rfl
@[simp] theorem fa_26_1 (b o : Nat) : aFieldAddr Tryz.prog 26 (.pointer (some ⟨b, o, none⟩)) 1 = ret (.pointer (some ⟨b, o + 7, none⟩)) := by kernel_rfl
@[simp] theorem fa_26_2 (b o : Nat) : aFieldAddr Tryz.prog 26 (.pointer (some ⟨b, o, none⟩)) 2 = ret (.pointer (some ⟨b, o + 14, none⟩)) := by kernel_rfl
@[simp] theorem cl_27 : callable Tryz.prog 27 = true := by kernel_rfl
@[simp] theorem fa_101_1 (b o : Nat) : aFieldAddr Tryz.prog 101 (.pointer (some ⟨b, o, none⟩)) 1 = ret (.pointer (some ⟨b, o + 1, none⟩)) := by kernel_rfl
@[simp] theorem ag_99 : aggB Tryz.prog 99 = some true := by kernel_rfl
@[simp] theorem sz_99 : szOf Tryz.prog 99 = some 4 := by kernel_rfl
@[simp] theorem ix_99 (cs : Array Value) (i : Int) (h : 0 ≤ i ∧ i < 2) : aIndex Tryz.prog 99 (.agg cs) (.int .i64 i) = ofOpt (some (.agg (cs.extract (i.toNat * 2) (i.toNat * 2 + 2)))) := (show _ = ite (0 ≤ i ∧ i < 2) (ofOpt _) fail by kernel_rfl).trans (if_pos h)
@[simp] theorem zr_98 : zeroOf Tryz.prog 98 = some (.agg #[.pointer none, .pointer none]) := by kernel_rfl
@[simp] theorem sz_98 : szOf Tryz.prog 98 = some 2 := by kernel_rfl
@[simp] theorem fa_98_0 (b o : Nat) : aFieldAddr Tryz.prog 98 (.pointer (some ⟨b, o, none⟩)) 0 = ret (.pointer (some ⟨b, o + 0, none⟩)) := by kernel_rfl
@[simp] theorem ag_82 : aggB Tryz.prog 82 = some false := by kernel_rfl
@[simp] theorem sz_82 : szOf Tryz.prog 82 = some 1 := by kernel_rfl
@[simp] theorem cl_29 : callable Tryz.prog 29 = true := by kernel_rfl
@[simp] theorem cl_28 : callable Tryz.prog 28 = true := by kernel_rfl
@[simp] theorem cl_30 : callable Tryz.prog 30 = true := by kernel_rfl
@[simp] theorem fa_98_1 (b o : Nat) : aFieldAddr Tryz.prog 98 (.pointer (some ⟨b, o, none⟩)) 1 = ret (.pointer (some ⟨b, o + 1, none⟩)) := by kernel_rfl
@[simp] theorem ag_63 : aggB Tryz.prog 63 = some false := by kernel_rfl
@[simp] theorem sz_63 : szOf Tryz.prog 63 = some 1 := by kernel_rfl
@[simp] theorem cl_31 : callable Tryz.prog 31 = true := by kernel_rfl
@[simp] theorem cl_32 : callable Tryz.prog 32 = true := by kernel_rfl
@[simp] theorem ia_99 (b o : Nat) (i : Int) (h : 0 ≤ i ∧ i < 2) : aIndexAddr Tryz.prog 99 (.pointer (some ⟨b, o, none⟩)) (.int .i64 i) = ret (.pointer (some ⟨b, o + i.toNat * 2, none⟩)) := (show _ = ite (0 ≤ i ∧ i < 2) (ret _) fail by kernel_rfl).trans (if_pos h)
@[simp] theorem ag_41 : aggB Tryz.prog 41 = some true := by kernel_rfl
@[simp] theorem sz_41 : szOf Tryz.prog 41 = some 3 := by kernel_rfl
@[simp] theorem cl_33 : callable Tryz.prog 33 = true := by kernel_rfl
@[simp] theorem bu_61 : stat Tryz.prog (bInfo 61) = some (#[(0, 1), (1, 1), (2, 8), (10, 5), (15, 3)], none, [.int .i64 0, .int .i64 0, .int .i64 0, .int .i64 0, .int .u32 0, .int .u32 0, .int .u32 0, .slice none 0 0, .bool false, .string ⟨#[]⟩, .int .i64 0, .string ⟨#[]⟩, .bool false, .int .u8 0, .int .i64 0, .int .i64 0, .string ⟨#[]⟩, .int .i64 0].toArray) := by kernel_rfl
@[simp] theorem bs_35_1 : bsCells Tryz.prog 35 1 = some (61, 18, [.int .i64 0, .int .i64 0, .int .i64 0, .int .i64 0, .int .u32 0, .int .u32 0, .int .u32 0, .slice none 0 0, .bool false, .string ⟨#[]⟩, .int .i64 0, .string ⟨#[]⟩, .bool false, .int .u8 0, .int .i64 0, .int .i64 0, .string ⟨#[]⟩, .int .i64 0]) := by kernel_rfl
@[simp] theorem cl_34 : callable Tryz.prog 34 = true := by kernel_rfl
@[simp] theorem fa_32_0 (b o : Nat) : aFieldAddr Tryz.prog 32 (.pointer (some ⟨b, o, none⟩)) 0 = ret (.pointer (some ⟨b, o + 0, none⟩)) := by kernel_rfl
@[simp] theorem ag_29 : aggB Tryz.prog 29 = some false := by kernel_rfl
@[simp] theorem sz_29 : szOf Tryz.prog 29 = some 1 := by kernel_rfl
@[simp] theorem ia_29 (b o n c : Nat) (i : Int) (h : 0 ≤ i ∧ i < n) : aIndexAddr Tryz.prog 29 (.slice (some ⟨b, o, none⟩) n c) (.int .i64 i) = ret (.pointer (some ⟨b, o + i.toNat * 43, none⟩)) := (show _ = ite (0 ≤ i ∧ i < (n : Int)) (ret _) fail by kernel_rfl).trans (if_pos h)
@[simp] theorem ag_122 : aggB Tryz.prog 122 = some true := by kernel_rfl
@[simp] theorem sz_122 : szOf Tryz.prog 122 = some 43 := by kernel_rfl
@[simp] theorem cl_35 : callable Tryz.prog 35 = true := by kernel_rfl
@[simp] theorem fa_32_1 (b o : Nat) : aFieldAddr Tryz.prog 32 (.pointer (some ⟨b, o, none⟩)) 1 = ret (.pointer (some ⟨b, o + 1, none⟩)) := by kernel_rfl
@[simp] theorem ag_30 : aggB Tryz.prog 30 = some false := by kernel_rfl
@[simp] theorem sz_30 : szOf Tryz.prog 30 = some 1 := by kernel_rfl
@[simp] theorem ia_30 (b o n c : Nat) (i : Int) (h : 0 ≤ i ∧ i < n) : aIndexAddr Tryz.prog 30 (.slice (some ⟨b, o, none⟩) n c) (.int .i64 i) = ret (.pointer (some ⟨b, o + i.toNat * 1, none⟩)) := (show _ = ite (0 ≤ i ∧ i < (n : Int)) (ret _) fail by kernel_rfl).trans (if_pos h)
@[simp] theorem ag_70 : aggB Tryz.prog 70 = some false := by kernel_rfl
@[simp] theorem sz_70 : szOf Tryz.prog 70 = some 1 := by kernel_rfl
@[simp] theorem cl_36 : callable Tryz.prog 36 = true := by kernel_rfl
@[simp] theorem cl_37 : callable Tryz.prog 37 = true := by kernel_rfl
@[simp] theorem fa_50_2 (b o : Nat) : aFieldAddr Tryz.prog 50 (.pointer (some ⟨b, o, none⟩)) 2 = ret (.pointer (some ⟨b, o + 2, none⟩)) := by kernel_rfl
@[simp] theorem ag_48 : aggB Tryz.prog 48 = some true := by kernel_rfl
@[simp] theorem sz_48 : szOf Tryz.prog 48 = some 3 := by kernel_rfl
@[simp] theorem fa_48_1 (b o : Nat) : aFieldAddr Tryz.prog 48 (.pointer (some ⟨b, o, none⟩)) 1 = ret (.pointer (some ⟨b, o + 1, none⟩)) := by kernel_rfl
@[simp] theorem fa_50_1 (b o : Nat) : aFieldAddr Tryz.prog 50 (.pointer (some ⟨b, o, none⟩)) 1 = ret (.pointer (some ⟨b, o + 1, none⟩)) := by kernel_rfl
@[simp] theorem fa_48_0 (b o : Nat) : aFieldAddr Tryz.prog 48 (.pointer (some ⟨b, o, none⟩)) 0 = ret (.pointer (some ⟨b, o + 0, none⟩)) := by kernel_rfl
@[simp] theorem fa_48_2 (b o : Nat) : aFieldAddr Tryz.prog 48 (.pointer (some ⟨b, o, none⟩)) 2 = ret (.pointer (some ⟨b, o + 2, none⟩)) := by kernel_rfl
@[simp] theorem cl_38 : callable Tryz.prog 38 = true := by kernel_rfl
@[simp] theorem cl_39 : callable Tryz.prog 39 = true := by kernel_rfl
@[simp] theorem fa_61_4 (b o : Nat) : aFieldAddr Tryz.prog 61 (.pointer (some ⟨b, o, none⟩)) 4 = ret (.pointer (some ⟨b, o + 15, none⟩)) := by kernel_rfl
@[simp] theorem cl_40 : callable Tryz.prog 40 = true := by kernel_rfl
@[simp] theorem fa_50_4 (b o : Nat) : aFieldAddr Tryz.prog 50 (.pointer (some ⟨b, o, none⟩)) 4 = ret (.pointer (some ⟨b, o + 8, none⟩)) := by kernel_rfl
@[simp] theorem cl_41 : callable Tryz.prog 41 = true := by kernel_rfl
@[simp] theorem cl_42 : callable Tryz.prog 42 = true := by kernel_rfl
@[simp] theorem fa_50_3 (b o : Nat) : aFieldAddr Tryz.prog 50 (.pointer (some ⟨b, o, none⟩)) 3 = ret (.pointer (some ⟨b, o + 5, none⟩)) := by kernel_rfl
@[simp] theorem cl_43 : callable Tryz.prog 43 = true := by kernel_rfl
@[simp] theorem cl_45 : callable Tryz.prog 45 = true := by kernel_rfl
@[simp] theorem cl_44 : callable Tryz.prog 44 = true := by kernel_rfl
@[simp] theorem cl_46 : callable Tryz.prog 46 = true := by kernel_rfl
@[simp] theorem zr_142 : zeroOf Tryz.prog 142 = some (.agg #[.pointer none, .slice none 0 0]) := by kernel_rfl
@[simp] theorem fa_57_7 (b o : Nat) : aFieldAddr Tryz.prog 57 (.pointer (some ⟨b, o, none⟩)) 7 = ret (.pointer (some ⟨b, o + 7, none⟩)) := by kernel_rfl
@[simp] theorem ln_9 (b : ByteArray) : aLen Tryz.prog 9 (.string b) = ret (.int .i64 b.size) := by kernel_rfl
@[simp] theorem cl_48 : callable Tryz.prog 48 = true := by kernel_rfl
@[simp] theorem cl_47 : callable Tryz.prog 47 = true := by kernel_rfl
@[simp] theorem cl_49 : callable Tryz.prog 49 = true := by kernel_rfl
@[simp] theorem ln_147 (a : Option Addr) (n c : Nat) : aLen Tryz.prog 147 (.slice a n c) = ret (.int .i64 n) := by kernel_rfl
@[simp] theorem ia_147 (b o n c : Nat) (i : Int) (h : 0 ≤ i ∧ i < n) : aIndexAddr Tryz.prog 147 (.slice (some ⟨b, o, none⟩) n c) (.int .i64 i) = ret (.pointer (some ⟨b, o + i.toNat * 1, none⟩)) := (show _ = ite (0 ≤ i ∧ i < (n : Int)) (ret _) fail by kernel_rfl).trans (if_pos h)
@[simp] theorem ag_39 : aggB Tryz.prog 39 = some false := by kernel_rfl
@[simp] theorem sz_39 : szOf Tryz.prog 39 = some 1 := by kernel_rfl
@[simp] theorem cl_50 : callable Tryz.prog 50 = true := by kernel_rfl
@[simp] theorem ui_3 : Tryz.prog.underlying 3 = some (.int .i64) := by kernel_rfl
@[simp] theorem ui_39 : Tryz.prog.underlying 39 = some (.int .u32) := by kernel_rfl
@[simp] theorem fa_57_6 (b o : Nat) : aFieldAddr Tryz.prog 57 (.pointer (some ⟨b, o, none⟩)) 6 = ret (.pointer (some ⟨b, o + 6, none⟩)) := by kernel_rfl
@[simp] theorem ag_4 : aggB Tryz.prog 4 = some false := by kernel_rfl
@[simp] theorem sz_4 : szOf Tryz.prog 4 = some 1 := by kernel_rfl
@[simp] theorem cl_51 : callable Tryz.prog 51 = true := by kernel_rfl
@[simp] theorem fa_57_2 (b o : Nat) : aFieldAddr Tryz.prog 57 (.pointer (some ⟨b, o, none⟩)) 2 = ret (.pointer (some ⟨b, o + 2, none⟩)) := by kernel_rfl
@[simp] theorem ag_54 : aggB Tryz.prog 54 = some false := by kernel_rfl
@[simp] theorem sz_54 : szOf Tryz.prog 54 = some 1 := by kernel_rfl
@[simp] theorem cl_52 : callable Tryz.prog 52 = true := by kernel_rfl
@[simp] theorem fa_153_2 (b o : Nat) : aFieldAddr Tryz.prog 153 (.pointer (some ⟨b, o, none⟩)) 2 = ret (.pointer (some ⟨b, o + 2, none⟩)) := by kernel_rfl
@[simp] theorem cl_53 : callable Tryz.prog 53 = true := by kernel_rfl
@[simp] theorem fa_72_2 (b o : Nat) : aFieldAddr Tryz.prog 72 (.pointer (some ⟨b, o, none⟩)) 2 = ret (.pointer (some ⟨b, o + 2, none⟩)) := by kernel_rfl
@[simp] theorem fa_72_3 (b o : Nat) : aFieldAddr Tryz.prog 72 (.pointer (some ⟨b, o, none⟩)) 3 = ret (.pointer (some ⟨b, o + 3, none⟩)) := by kernel_rfl
@[simp] theorem fa_72_4 (b o : Nat) : aFieldAddr Tryz.prog 72 (.pointer (some ⟨b, o, none⟩)) 4 = ret (.pointer (some ⟨b, o + 4, none⟩)) := by kernel_rfl
@[simp] theorem fa_72_7 (b o : Nat) : aFieldAddr Tryz.prog 72 (.pointer (some ⟨b, o, none⟩)) 7 = ret (.pointer (some ⟨b, o + 7, none⟩)) := by kernel_rfl
@[simp] theorem fa_72_5 (b o : Nat) : aFieldAddr Tryz.prog 72 (.pointer (some ⟨b, o, none⟩)) 5 = ret (.pointer (some ⟨b, o + 5, none⟩)) := by kernel_rfl
@[simp] theorem ag_22 : aggB Tryz.prog 22 = some false := by kernel_rfl
@[simp] theorem sz_22 : szOf Tryz.prog 22 = some 1 := by kernel_rfl
@[simp] theorem ln_22 (a : Option Addr) (n c : Nat) : aLen Tryz.prog 22 (.slice a n c) = ret (.int .i64 n) := by kernel_rfl
@[simp] theorem ia_22 (b o n c : Nat) (i : Int) (h : 0 ≤ i ∧ i < n) : aIndexAddr Tryz.prog 22 (.slice (some ⟨b, o, none⟩) n c) (.int .i64 i) = ret (.pointer (some ⟨b, o + i.toNat * 1, none⟩)) := (show _ = ite (0 ≤ i ∧ i < (n : Int)) (ret _) fail by kernel_rfl).trans (if_pos h)
@[simp] theorem bs_22_1 : bsCells Tryz.prog 22 1 = some (3, 1, [.int .i64 0]) := by kernel_rfl
@[simp] theorem ap_22 : apInfo Tryz.prog 22 = some (3, 1, 8) := by kernel_rfl
@[simp] theorem us_9 : Tryz.prog.underlying 9 = some .string := by kernel_rfl
@[simp] theorem cl_54 : callable Tryz.prog 54 = true := by kernel_rfl
@[simp] theorem cl_56 : callable Tryz.prog 56 = true := by kernel_rfl
@[simp] theorem cl_55 : callable Tryz.prog 55 = true := by kernel_rfl
@[simp] theorem fa_101_0 (b o : Nat) : aFieldAddr Tryz.prog 101 (.pointer (some ⟨b, o, none⟩)) 0 = ret (.pointer (some ⟨b, o + 0, none⟩)) := by kernel_rfl
@[simp] theorem ag_96 : aggB Tryz.prog 96 = some false := by kernel_rfl
@[simp] theorem sz_96 : szOf Tryz.prog 96 = some 1 := by kernel_rfl
@[simp] theorem bu_101 : stat Tryz.prog (bInfo 101) = some (#[(0, 1), (1, 4)], none, [.pointer none, .pointer none, .pointer none, .pointer none, .pointer none].toArray) := by kernel_rfl
@[simp] theorem zr_101 : zeroOf Tryz.prog 101 = some (.agg #[.pointer none, .pointer none, .pointer none, .pointer none, .pointer none]) := by kernel_rfl
@[simp] theorem cl_57 : callable Tryz.prog 57 = true := by kernel_rfl
@[simp] theorem cl_58 : callable Tryz.prog 58 = true := by kernel_rfl
@[simp] theorem bu_98 : stat Tryz.prog (bInfo 98) = some (#[(0, 1), (1, 1)], none, [.pointer none, .pointer none].toArray) := by kernel_rfl
@[simp] theorem cl_59 : callable Tryz.prog 59 = true := by kernel_rfl
@[simp] theorem cl_60 : callable Tryz.prog 60 = true := by kernel_rfl
@[simp] theorem zr_24 : zeroOf Tryz.prog 24 = some (.agg #[.int .i64 0, .int .i64 0, .int .i64 0, .int .i64 0, .int .i64 0, .int .i64 0, .slice none 0 0]) := by kernel_rfl
@[simp] theorem fa_24_5 (b o : Nat) : aFieldAddr Tryz.prog 24 (.pointer (some ⟨b, o, none⟩)) 5 = ret (.pointer (some ⟨b, o + 5, none⟩)) := by kernel_rfl
@[simp] theorem ag_93 : aggB Tryz.prog 93 = some true := by kernel_rfl
@[simp] theorem sz_93 : szOf Tryz.prog 93 = some 23 := by kernel_rfl
@[simp] theorem cl_61 : callable Tryz.prog 61 = true := by kernel_rfl
@[simp] theorem cl_62 : callable Tryz.prog 62 = true := by kernel_rfl
@[simp] theorem fa_93_0 (b o : Nat) : aFieldAddr Tryz.prog 93 (.pointer (some ⟨b, o, none⟩)) 0 = ret (.pointer (some ⟨b, o + 0, none⟩)) := by kernel_rfl
@[simp] theorem ag_91 : aggB Tryz.prog 91 = some true := by kernel_rfl
@[simp] theorem sz_91 : szOf Tryz.prog 91 = some 22 := by kernel_rfl
@[simp] theorem ix_91 (cs : Array Value) (i : Int) (h : 0 ≤ i ∧ i < 2) : aIndex Tryz.prog 91 (.agg cs) (.int .i64 i) = ofOpt (some (.agg (cs.extract (i.toNat * 11) (i.toNat * 11 + 11)))) := (show _ = ite (0 ≤ i ∧ i < 2) (ofOpt _) fail by kernel_rfl).trans (if_pos h)
@[simp] theorem zr_90 : zeroOf Tryz.prog 90 = some (.agg #[.int .i64 0, .int .i64 0, .int .i64 0, .int .i64 0, .int .i64 0, .int .u32 0, .int .i64 0, .int .i64 0, .int .i64 0, .int .i64 0, .int .i64 0]) := by kernel_rfl
@[simp] theorem sz_90 : szOf Tryz.prog 90 = some 11 := by kernel_rfl
@[simp] theorem ag_90 : aggB Tryz.prog 90 = some true := by kernel_rfl
@[simp] theorem cl_63 : callable Tryz.prog 63 = true := by kernel_rfl
@[simp] theorem fa_93_1 (b o : Nat) : aFieldAddr Tryz.prog 93 (.pointer (some ⟨b, o, none⟩)) 1 = ret (.pointer (some ⟨b, o + 22, none⟩)) := by kernel_rfl
@[simp] theorem cl_64 : callable Tryz.prog 64 = true := by kernel_rfl
@[simp] theorem zr_93 : zeroOf Tryz.prog 93 = some (.agg #[.int .i64 0, .int .i64 0, .int .i64 0, .int .i64 0, .int .i64 0, .int .u32 0, .int .i64 0, .int .i64 0, .int .i64 0, .int .i64 0, .int .i64 0, .int .i64 0, .int .i64 0, .int .i64 0, .int .i64 0, .int .i64 0, .int .u32 0, .int .i64 0, .int .i64 0, .int .i64 0, .int .i64 0, .int .i64 0, .int .i64 0]) := by kernel_rfl
@[simp] theorem cl_65 : callable Tryz.prog 65 = true := by kernel_rfl
@[simp] theorem bu_91 : stat Tryz.prog (bInfo 91) = some (#[], some 11, [.int .i64 0, .int .i64 0, .int .i64 0, .int .i64 0, .int .i64 0, .int .u32 0, .int .i64 0, .int .i64 0, .int .i64 0, .int .i64 0, .int .i64 0, .int .i64 0, .int .i64 0, .int .i64 0, .int .i64 0, .int .i64 0, .int .u32 0, .int .i64 0, .int .i64 0, .int .i64 0, .int .i64 0, .int .i64 0].toArray) := by kernel_rfl
@[simp] theorem zr_91 : zeroOf Tryz.prog 91 = some (.agg #[.int .i64 0, .int .i64 0, .int .i64 0, .int .i64 0, .int .i64 0, .int .u32 0, .int .i64 0, .int .i64 0, .int .i64 0, .int .i64 0, .int .i64 0, .int .i64 0, .int .i64 0, .int .i64 0, .int .i64 0, .int .i64 0, .int .u32 0, .int .i64 0, .int .i64 0, .int .i64 0, .int .i64 0, .int .i64 0]) := by kernel_rfl
@[simp] theorem bu_93 : stat Tryz.prog (bInfo 93) = some (#[(0, 22), (22, 1)], none, [.int .i64 0, .int .i64 0, .int .i64 0, .int .i64 0, .int .i64 0, .int .u32 0, .int .i64 0, .int .i64 0, .int .i64 0, .int .i64 0, .int .i64 0, .int .i64 0, .int .i64 0, .int .i64 0, .int .i64 0, .int .i64 0, .int .u32 0, .int .i64 0, .int .i64 0, .int .i64 0, .int .i64 0, .int .i64 0, .int .i64 0].toArray) := by kernel_rfl
@[simp] theorem cl_66 : callable Tryz.prog 66 = true := by kernel_rfl
@[simp] theorem bs_29_2 : bsCells Tryz.prog 29 2 = some (122, 43, [.int .i64 0, .int .i64 0, .int .i64 0, .int .i64 0, .int .i64 0, .int .i64 0, .slice none 0 0, .int .i64 0, .int .i64 0, .int .i64 0, .int .i64 0, .int .i64 0, .int .i64 0, .int .i64 0, .string ⟨#[]⟩, .slice none 0 0, .slice none 0 0, .int .i64 0, .int .i64 0, .int .i64 0, .int .i64 0, .int .i64 0, .int .i64 0, .int .i64 0, .int .i64 0, .slice none 0 0, .slice none 0 0, .slice none 0 0, .slice none 0 0, .int .i64 0, .int .i64 0, .int .i64 0, .int .i64 0, .slice none 0 0, .slice none 0 0, .slice none 0 0, .slice none 0 0, .slice none 0 0, .bool false, .bool false, .int .i64 0, .bool false, .slice none 0 0, .int .i64 0, .int .i64 0, .int .i64 0, .int .i64 0, .int .i64 0, .int .i64 0, .slice none 0 0, .int .i64 0, .int .i64 0, .int .i64 0, .int .i64 0, .int .i64 0, .int .i64 0, .int .i64 0, .string ⟨#[]⟩, .slice none 0 0, .slice none 0 0, .int .i64 0, .int .i64 0, .int .i64 0, .int .i64 0, .int .i64 0, .int .i64 0, .int .i64 0, .int .i64 0, .slice none 0 0, .slice none 0 0, .slice none 0 0, .slice none 0 0, .int .i64 0, .int .i64 0, .int .i64 0, .int .i64 0, .slice none 0 0, .slice none 0 0, .slice none 0 0, .slice none 0 0, .slice none 0 0, .bool false, .bool false, .int .i64 0, .bool false, .slice none 0 0]) := by kernel_rfl
@[simp] theorem bs_70_0 : bsCells Tryz.prog 70 0 = some (72, 8, []) := by kernel_rfl
@[simp] theorem bs_30_2 : bsCells Tryz.prog 30 2 = some (70, 1, [.slice none 0 0, .slice none 0 0]) := by kernel_rfl
@[simp] theorem ln_103 (a : Option Addr) (n c : Nat) : aLen Tryz.prog 103 (.slice a n c) = ret (.int .i64 n) := by kernel_rfl
@[simp] theorem ia_103 (b o n c : Nat) (i : Int) (h : 0 ≤ i ∧ i < n) : aIndexAddr Tryz.prog 103 (.slice (some ⟨b, o, none⟩) n c) (.int .i64 i) = ret (.pointer (some ⟨b, o + i.toNat * 5, none⟩)) := (show _ = ite (0 ≤ i ∧ i < (n : Int)) (ret _) fail by kernel_rfl).trans (if_pos h)
@[simp] theorem ag_59 : aggB Tryz.prog 59 = some true := by kernel_rfl
@[simp] theorem sz_59 : szOf Tryz.prog 59 = some 5 := by kernel_rfl
@[simp] theorem zr_59 : zeroOf Tryz.prog 59 = some (.agg #[.int .i64 0, .string ⟨#[]⟩, .bool false, .int .u8 0, .int .i64 0]) := by kernel_rfl
@[simp] theorem ap_35 : apInfo Tryz.prog 35 = some (61, 18, 168) := by kernel_rfl
@[simp] theorem fa_173_2 (b o : Nat) : aFieldAddr Tryz.prog 173 (.pointer (some ⟨b, o, none⟩)) 2 = ret (.pointer (some ⟨b, o + 12, none⟩)) := by kernel_rfl
@[simp] theorem ag_168 : aggB Tryz.prog 168 = some false := by kernel_rfl
@[simp] theorem sz_168 : szOf Tryz.prog 168 = some 1 := by kernel_rfl
@[simp] theorem fa_179_0 (b o : Nat) : aFieldAddr Tryz.prog 179 (.pointer (some ⟨b, o, none⟩)) 0 = ret (.pointer (some ⟨b, o + 0, none⟩)) := by kernel_rfl
@[simp] theorem cl_67 : callable Tryz.prog 67 = true := by kernel_rfl
@[simp] theorem fa_173_1 (b o : Nat) : aFieldAddr Tryz.prog 173 (.pointer (some ⟨b, o, none⟩)) 1 = ret (.pointer (some ⟨b, o + 11, none⟩)) := by kernel_rfl
@[simp] theorem ag_167 : aggB Tryz.prog 167 = some false := by kernel_rfl
@[simp] theorem sz_167 : szOf Tryz.prog 167 = some 1 := by kernel_rfl
@[simp] theorem cl_69 : callable Tryz.prog 69 = true := by kernel_rfl
@[simp] theorem cl_68 : callable Tryz.prog 68 = true := by kernel_rfl
@[simp] theorem ap_103 : apInfo Tryz.prog 103 = some (59, 5, 40) := by kernel_rfl
@[simp] theorem cl_70 : callable Tryz.prog 70 = true := by kernel_rfl
@[simp] theorem cl_71 : callable Tryz.prog 71 = true := by kernel_rfl
@[simp] theorem cl_72 : callable Tryz.prog 72 = true := by kernel_rfl
@[simp] theorem fa_173_7 (b o : Nat) : aFieldAddr Tryz.prog 173 (.pointer (some ⟨b, o, none⟩)) 7 = ret (.pointer (some ⟨b, o + 17, none⟩)) := by kernel_rfl
@[simp] theorem cl_73 : callable Tryz.prog 73 = true := by kernel_rfl
@[simp] theorem cl_74 : callable Tryz.prog 74 = true := by kernel_rfl
@[simp] theorem cl_75 : callable Tryz.prog 75 = true := by kernel_rfl
@[simp] theorem zr_57 : zeroOf Tryz.prog 57 = some (.agg #[.int .i64 0, .int .i64 0, .int .u32 0, .int .u32 0, .int .u32 0, .slice none 0 0, .bool false, .string ⟨#[]⟩]) := by kernel_rfl
@[simp] theorem cl_76 : callable Tryz.prog 76 = true := by kernel_rfl
@[simp] theorem cl_77 : callable Tryz.prog 77 = true := by kernel_rfl
@[simp] theorem fa_173_5 (b o : Nat) : aFieldAddr Tryz.prog 173 (.pointer (some ⟨b, o, none⟩)) 5 = ret (.pointer (some ⟨b, o + 15, none⟩)) := by kernel_rfl
@[simp] theorem fa_173_6 (b o : Nat) : aFieldAddr Tryz.prog 173 (.pointer (some ⟨b, o, none⟩)) 6 = ret (.pointer (some ⟨b, o + 16, none⟩)) := by kernel_rfl
@[simp] theorem ag_171 : aggB Tryz.prog 171 = some false := by kernel_rfl
@[simp] theorem sz_171 : szOf Tryz.prog 171 = some 1 := by kernel_rfl
@[simp] theorem cl_78 : callable Tryz.prog 78 = true := by kernel_rfl
@[simp] theorem fa_173_8 (b o : Nat) : aFieldAddr Tryz.prog 173 (.pointer (some ⟨b, o, none⟩)) 8 = ret (.pointer (some ⟨b, o + 18, none⟩)) := by kernel_rfl
@[simp] theorem cl_79 : callable Tryz.prog 79 = true := by kernel_rfl
@[simp] theorem fa_173_4 (b o : Nat) : aFieldAddr Tryz.prog 173 (.pointer (some ⟨b, o, none⟩)) 4 = ret (.pointer (some ⟨b, o + 14, none⟩)) := by kernel_rfl
@[simp] theorem ag_170 : aggB Tryz.prog 170 = some false := by kernel_rfl
@[simp] theorem sz_170 : szOf Tryz.prog 170 = some 1 := by kernel_rfl
@[simp] theorem cl_80 : callable Tryz.prog 80 = true := by kernel_rfl
@[simp] theorem ff_191_5 (cs : Array Value) : aField Tryz.prog 191 (.agg cs) 5 = ofOpt cs[5]? := by kernel_rfl
@[simp] theorem cl_81 : callable Tryz.prog 81 = true := by kernel_rfl
@[simp] theorem fa_41_0 (b o : Nat) : aFieldAddr Tryz.prog 41 (.pointer (some ⟨b, o, none⟩)) 0 = ret (.pointer (some ⟨b, o + 0, none⟩)) := by kernel_rfl
@[simp] theorem fa_68_3 (b o : Nat) : aFieldAddr Tryz.prog 68 (.pointer (some ⟨b, o, none⟩)) 3 = ret (.pointer (some ⟨b, o + 3, none⟩)) := by kernel_rfl
@[simp] theorem fa_41_1 (b o : Nat) : aFieldAddr Tryz.prog 41 (.pointer (some ⟨b, o, none⟩)) 1 = ret (.pointer (some ⟨b, o + 1, none⟩)) := by kernel_rfl
@[simp] theorem fa_41_2 (b o : Nat) : aFieldAddr Tryz.prog 41 (.pointer (some ⟨b, o, none⟩)) 2 = ret (.pointer (some ⟨b, o + 2, none⟩)) := by kernel_rfl
@[simp] theorem cl_82 : callable Tryz.prog 82 = true := by kernel_rfl
@[simp] theorem fa_68_2 (b o : Nat) : aFieldAddr Tryz.prog 68 (.pointer (some ⟨b, o, none⟩)) 2 = ret (.pointer (some ⟨b, o + 2, none⟩)) := by kernel_rfl
@[simp] theorem cl_83 : callable Tryz.prog 83 = true := by kernel_rfl
@[simp] theorem cl_84 : callable Tryz.prog 84 = true := by kernel_rfl
@[simp] theorem cl_85 : callable Tryz.prog 85 = true := by kernel_rfl
@[simp] theorem cl_86 : callable Tryz.prog 86 = true := by kernel_rfl
@[simp] theorem zr_203 : zeroOf Tryz.prog 203 = some (.agg #[.int .i64 0, .int .i64 0, .int .i64 0, .int .i64 0, .int .u32 0, .int .u32 0, .int .u32 0, .int .u32 0, .int .u32 0, .int .u32 0, .int .i64 0, .int .i64 0, .int .i64 0, .slice none 0 0, .int .u32 0, .int .u32 0, .int .u32 0, .int .i64 0, .int .i64 0, .int .i64 0, .int .i64 0, .int .i64 0, .int .i64 0, .bool false, .bool false, .bool false, .int .i64 0, .int .i64 0, .int .i64 0, .int .i64 0, .int .i64 0]) := by kernel_rfl
@[simp] theorem sz_203 : szOf Tryz.prog 203 = some 31 := by kernel_rfl
@[simp] theorem fa_203_0 (b o : Nat) : aFieldAddr Tryz.prog 203 (.pointer (some ⟨b, o, none⟩)) 0 = ret (.pointer (some ⟨b, o + 0, none⟩)) := by kernel_rfl
@[simp] theorem fa_199_0 (b o : Nat) : aFieldAddr Tryz.prog 199 (.pointer (some ⟨b, o, none⟩)) 0 = ret (.pointer (some ⟨b, o + 0, none⟩)) := by kernel_rfl
@[simp] theorem fa_122_1 (b o : Nat) : aFieldAddr Tryz.prog 122 (.pointer (some ⟨b, o, none⟩)) 1 = ret (.pointer (some ⟨b, o + 7, none⟩)) := by kernel_rfl
@[simp] theorem fa_112_2 (b o : Nat) : aFieldAddr Tryz.prog 112 (.pointer (some ⟨b, o, none⟩)) 2 = ret (.pointer (some ⟨b, o + 2, none⟩)) := by kernel_rfl
@[simp] theorem fa_199_1 (b o : Nat) : aFieldAddr Tryz.prog 199 (.pointer (some ⟨b, o, none⟩)) 1 = ret (.pointer (some ⟨b, o + 1, none⟩)) := by kernel_rfl
@[simp] theorem fa_112_3 (b o : Nat) : aFieldAddr Tryz.prog 112 (.pointer (some ⟨b, o, none⟩)) 3 = ret (.pointer (some ⟨b, o + 3, none⟩)) := by kernel_rfl
@[simp] theorem fa_199_2 (b o : Nat) : aFieldAddr Tryz.prog 199 (.pointer (some ⟨b, o, none⟩)) 2 = ret (.pointer (some ⟨b, o + 2, none⟩)) := by kernel_rfl
@[simp] theorem fa_112_4 (b o : Nat) : aFieldAddr Tryz.prog 112 (.pointer (some ⟨b, o, none⟩)) 4 = ret (.pointer (some ⟨b, o + 4, none⟩)) := by kernel_rfl
@[simp] theorem fa_199_3 (b o : Nat) : aFieldAddr Tryz.prog 199 (.pointer (some ⟨b, o, none⟩)) 3 = ret (.pointer (some ⟨b, o + 3, none⟩)) := by kernel_rfl
@[simp] theorem fa_112_5 (b o : Nat) : aFieldAddr Tryz.prog 112 (.pointer (some ⟨b, o, none⟩)) 5 = ret (.pointer (some ⟨b, o + 5, none⟩)) := by kernel_rfl
@[simp] theorem fa_203_3 (b o : Nat) : aFieldAddr Tryz.prog 203 (.pointer (some ⟨b, o, none⟩)) 3 = ret (.pointer (some ⟨b, o + 20, none⟩)) := by kernel_rfl
@[simp] theorem fa_122_5 (b o : Nat) : aFieldAddr Tryz.prog 122 (.pointer (some ⟨b, o, none⟩)) 5 = ret (.pointer (some ⟨b, o + 36, none⟩)) := by kernel_rfl
@[simp] theorem fa_203_4 (b o : Nat) : aFieldAddr Tryz.prog 203 (.pointer (some ⟨b, o, none⟩)) 4 = ret (.pointer (some ⟨b, o + 21, none⟩)) := by kernel_rfl
@[simp] theorem fa_122_6 (b o : Nat) : aFieldAddr Tryz.prog 122 (.pointer (some ⟨b, o, none⟩)) 6 = ret (.pointer (some ⟨b, o + 37, none⟩)) := by kernel_rfl
@[simp] theorem fa_203_5 (b o : Nat) : aFieldAddr Tryz.prog 203 (.pointer (some ⟨b, o, none⟩)) 5 = ret (.pointer (some ⟨b, o + 22, none⟩)) := by kernel_rfl
@[simp] theorem fa_122_11 (b o : Nat) : aFieldAddr Tryz.prog 122 (.pointer (some ⟨b, o, none⟩)) 11 = ret (.pointer (some ⟨b, o + 42, none⟩)) := by kernel_rfl
@[simp] theorem ag_69 : aggB Tryz.prog 69 = some false := by kernel_rfl
@[simp] theorem sz_69 : szOf Tryz.prog 69 = some 1 := by kernel_rfl
@[simp] theorem fa_203_6 (b o : Nat) : aFieldAddr Tryz.prog 203 (.pointer (some ⟨b, o, none⟩)) 6 = ret (.pointer (some ⟨b, o + 23, none⟩)) := by kernel_rfl
@[simp] theorem fa_122_7 (b o : Nat) : aFieldAddr Tryz.prog 122 (.pointer (some ⟨b, o, none⟩)) 7 = ret (.pointer (some ⟨b, o + 38, none⟩)) := by kernel_rfl
@[simp] theorem fa_203_7 (b o : Nat) : aFieldAddr Tryz.prog 203 (.pointer (some ⟨b, o, none⟩)) 7 = ret (.pointer (some ⟨b, o + 24, none⟩)) := by kernel_rfl
@[simp] theorem fa_122_8 (b o : Nat) : aFieldAddr Tryz.prog 122 (.pointer (some ⟨b, o, none⟩)) 8 = ret (.pointer (some ⟨b, o + 39, none⟩)) := by kernel_rfl
@[simp] theorem fa_203_8 (b o : Nat) : aFieldAddr Tryz.prog 203 (.pointer (some ⟨b, o, none⟩)) 8 = ret (.pointer (some ⟨b, o + 25, none⟩)) := by kernel_rfl
@[simp] theorem fa_122_10 (b o : Nat) : aFieldAddr Tryz.prog 122 (.pointer (some ⟨b, o, none⟩)) 10 = ret (.pointer (some ⟨b, o + 41, none⟩)) := by kernel_rfl
@[simp] theorem fa_122_2 (b o : Nat) : aFieldAddr Tryz.prog 122 (.pointer (some ⟨b, o, none⟩)) 2 = ret (.pointer (some ⟨b, o + 15, none⟩)) := by kernel_rfl
@[simp] theorem fa_114_1 (b o : Nat) : aFieldAddr Tryz.prog 114 (.pointer (some ⟨b, o, none⟩)) 1 = ret (.pointer (some ⟨b, o + 1, none⟩)) := by kernel_rfl
@[simp] theorem fa_203_9 (b o : Nat) : aFieldAddr Tryz.prog 203 (.pointer (some ⟨b, o, none⟩)) 9 = ret (.pointer (some ⟨b, o + 26, none⟩)) := by kernel_rfl
@[simp] theorem ia_175 (b o : Nat) (i : Int) (h : 0 ≤ i ∧ i < 5) : aIndexAddr Tryz.prog 175 (.pointer (some ⟨b, o, none⟩)) (.int .i64 i) = ret (.pointer (some ⟨b, o + i.toNat * 1, none⟩)) := (show _ = ite (0 ≤ i ∧ i < 5) (ret _) fail by kernel_rfl).trans (if_pos h)
@[simp] theorem cl_87 : callable Tryz.prog 87 = true := by kernel_rfl
@[simp] theorem cl_88 : callable Tryz.prog 88 = true := by kernel_rfl
@[simp] theorem ag_114 : aggB Tryz.prog 114 = some true := by kernel_rfl
@[simp] theorem sz_114 : szOf Tryz.prog 114 = some 2 := by kernel_rfl
@[simp] theorem cl_89 : callable Tryz.prog 89 = true := by kernel_rfl
@[simp] theorem cl_90 : callable Tryz.prog 90 = true := by kernel_rfl
@[simp] theorem fa_203_1 (b o : Nat) : aFieldAddr Tryz.prog 203 (.pointer (some ⟨b, o, none⟩)) 1 = ret (.pointer (some ⟨b, o + 5, none⟩)) := by kernel_rfl
@[simp] theorem fa_201_7 (b o : Nat) : aFieldAddr Tryz.prog 201 (.pointer (some ⟨b, o, none⟩)) 7 = ret (.pointer (some ⟨b, o + 7, none⟩)) := by kernel_rfl
@[simp] theorem fa_201_6 (b o : Nat) : aFieldAddr Tryz.prog 201 (.pointer (some ⟨b, o, none⟩)) 6 = ret (.pointer (some ⟨b, o + 6, none⟩)) := by kernel_rfl
@[simp] theorem fa_203_2 (b o : Nat) : aFieldAddr Tryz.prog 203 (.pointer (some ⟨b, o, none⟩)) 2 = ret (.pointer (some ⟨b, o + 14, none⟩)) := by kernel_rfl
@[simp] theorem fa_191_4 (b o : Nat) : aFieldAddr Tryz.prog 191 (.pointer (some ⟨b, o, none⟩)) 4 = ret (.pointer (some ⟨b, o + 4, none⟩)) := by kernel_rfl
@[simp] theorem cl_91 : callable Tryz.prog 91 = true := by kernel_rfl
@[simp] theorem fa_122_3 (b o : Nat) : aFieldAddr Tryz.prog 122 (.pointer (some ⟨b, o, none⟩)) 3 = ret (.pointer (some ⟨b, o + 17, none⟩)) := by kernel_rfl
@[simp] theorem ag_116 : aggB Tryz.prog 116 = some true := by kernel_rfl
@[simp] theorem sz_116 : szOf Tryz.prog 116 = some 12 := by kernel_rfl
@[simp] theorem fa_122_4 (b o : Nat) : aFieldAddr Tryz.prog 122 (.pointer (some ⟨b, o, none⟩)) 4 = ret (.pointer (some ⟨b, o + 29, none⟩)) := by kernel_rfl
@[simp] theorem ag_120 : aggB Tryz.prog 120 = some true := by kernel_rfl
@[simp] theorem sz_120 : szOf Tryz.prog 120 = some 7 := by kernel_rfl
@[simp] theorem zr_116 : zeroOf Tryz.prog 116 = some (.agg #[.int .i64 0, .int .i64 0, .int .i64 0, .int .i64 0, .int .i64 0, .int .i64 0, .int .i64 0, .int .i64 0, .slice none 0 0, .slice none 0 0, .slice none 0 0, .slice none 0 0]) := by kernel_rfl
@[simp] theorem zr_120 : zeroOf Tryz.prog 120 = some (.agg #[.int .i64 0, .int .i64 0, .int .i64 0, .int .i64 0, .slice none 0 0, .slice none 0 0, .slice none 0 0]) := by kernel_rfl
@[simp] theorem fa_201_0 (b o : Nat) : aFieldAddr Tryz.prog 201 (.pointer (some ⟨b, o, none⟩)) 0 = ret (.pointer (some ⟨b, o + 0, none⟩)) := by kernel_rfl
@[simp] theorem fa_116_0 (b o : Nat) : aFieldAddr Tryz.prog 116 (.pointer (some ⟨b, o, none⟩)) 0 = ret (.pointer (some ⟨b, o + 0, none⟩)) := by kernel_rfl
@[simp] theorem fa_201_1 (b o : Nat) : aFieldAddr Tryz.prog 201 (.pointer (some ⟨b, o, none⟩)) 1 = ret (.pointer (some ⟨b, o + 1, none⟩)) := by kernel_rfl
@[simp] theorem fa_116_1 (b o : Nat) : aFieldAddr Tryz.prog 116 (.pointer (some ⟨b, o, none⟩)) 1 = ret (.pointer (some ⟨b, o + 1, none⟩)) := by kernel_rfl
@[simp] theorem fa_201_2 (b o : Nat) : aFieldAddr Tryz.prog 201 (.pointer (some ⟨b, o, none⟩)) 2 = ret (.pointer (some ⟨b, o + 2, none⟩)) := by kernel_rfl
@[simp] theorem fa_116_2 (b o : Nat) : aFieldAddr Tryz.prog 116 (.pointer (some ⟨b, o, none⟩)) 2 = ret (.pointer (some ⟨b, o + 2, none⟩)) := by kernel_rfl
@[simp] theorem fa_201_3 (b o : Nat) : aFieldAddr Tryz.prog 201 (.pointer (some ⟨b, o, none⟩)) 3 = ret (.pointer (some ⟨b, o + 3, none⟩)) := by kernel_rfl
@[simp] theorem fa_116_3 (b o : Nat) : aFieldAddr Tryz.prog 116 (.pointer (some ⟨b, o, none⟩)) 3 = ret (.pointer (some ⟨b, o + 3, none⟩)) := by kernel_rfl
@[simp] theorem fa_201_4 (b o : Nat) : aFieldAddr Tryz.prog 201 (.pointer (some ⟨b, o, none⟩)) 4 = ret (.pointer (some ⟨b, o + 4, none⟩)) := by kernel_rfl
@[simp] theorem fa_116_4 (b o : Nat) : aFieldAddr Tryz.prog 116 (.pointer (some ⟨b, o, none⟩)) 4 = ret (.pointer (some ⟨b, o + 4, none⟩)) := by kernel_rfl
@[simp] theorem fa_116_9 (b o : Nat) : aFieldAddr Tryz.prog 116 (.pointer (some ⟨b, o, none⟩)) 9 = ret (.pointer (some ⟨b, o + 9, none⟩)) := by kernel_rfl
@[simp] theorem fa_116_8 (b o : Nat) : aFieldAddr Tryz.prog 116 (.pointer (some ⟨b, o, none⟩)) 8 = ret (.pointer (some ⟨b, o + 8, none⟩)) := by kernel_rfl
@[simp] theorem fa_201_8 (b o : Nat) : aFieldAddr Tryz.prog 201 (.pointer (some ⟨b, o, none⟩)) 8 = ret (.pointer (some ⟨b, o + 8, none⟩)) := by kernel_rfl
@[simp] theorem ag_55 : aggB Tryz.prog 55 = some false := by kernel_rfl
@[simp] theorem sz_55 : szOf Tryz.prog 55 = some 1 := by kernel_rfl
@[simp] theorem ln_55 (a : Option Addr) (n c : Nat) : aLen Tryz.prog 55 (.slice a n c) = ret (.int .i64 n) := by kernel_rfl
@[simp] theorem fa_116_11 (b o : Nat) : aFieldAddr Tryz.prog 116 (.pointer (some ⟨b, o, none⟩)) 11 = ret (.pointer (some ⟨b, o + 11, none⟩)) := by kernel_rfl
@[simp] theorem fa_191_0 (b o : Nat) : aFieldAddr Tryz.prog 191 (.pointer (some ⟨b, o, none⟩)) 0 = ret (.pointer (some ⟨b, o + 0, none⟩)) := by kernel_rfl
@[simp] theorem fa_120_0 (b o : Nat) : aFieldAddr Tryz.prog 120 (.pointer (some ⟨b, o, none⟩)) 0 = ret (.pointer (some ⟨b, o + 0, none⟩)) := by kernel_rfl
@[simp] theorem fa_191_1 (b o : Nat) : aFieldAddr Tryz.prog 191 (.pointer (some ⟨b, o, none⟩)) 1 = ret (.pointer (some ⟨b, o + 1, none⟩)) := by kernel_rfl
@[simp] theorem fa_120_1 (b o : Nat) : aFieldAddr Tryz.prog 120 (.pointer (some ⟨b, o, none⟩)) 1 = ret (.pointer (some ⟨b, o + 1, none⟩)) := by kernel_rfl
@[simp] theorem fa_191_2 (b o : Nat) : aFieldAddr Tryz.prog 191 (.pointer (some ⟨b, o, none⟩)) 2 = ret (.pointer (some ⟨b, o + 2, none⟩)) := by kernel_rfl
@[simp] theorem fa_120_2 (b o : Nat) : aFieldAddr Tryz.prog 120 (.pointer (some ⟨b, o, none⟩)) 2 = ret (.pointer (some ⟨b, o + 2, none⟩)) := by kernel_rfl
@[simp] theorem fa_120_5 (b o : Nat) : aFieldAddr Tryz.prog 120 (.pointer (some ⟨b, o, none⟩)) 5 = ret (.pointer (some ⟨b, o + 5, none⟩)) := by kernel_rfl
@[simp] theorem fa_191_3 (b o : Nat) : aFieldAddr Tryz.prog 191 (.pointer (some ⟨b, o, none⟩)) 3 = ret (.pointer (some ⟨b, o + 3, none⟩)) := by kernel_rfl
@[simp] theorem fa_120_4 (b o : Nat) : aFieldAddr Tryz.prog 120 (.pointer (some ⟨b, o, none⟩)) 4 = ret (.pointer (some ⟨b, o + 4, none⟩)) := by kernel_rfl
@[simp] theorem ag_117 : aggB Tryz.prog 117 = some false := by kernel_rfl
@[simp] theorem sz_117 : szOf Tryz.prog 117 = some 1 := by kernel_rfl
@[simp] theorem ln_117 (a : Option Addr) (n c : Nat) : aLen Tryz.prog 117 (.slice a n c) = ret (.int .i64 n) := by kernel_rfl
@[simp] theorem fa_191_5 (b o : Nat) : aFieldAddr Tryz.prog 191 (.pointer (some ⟨b, o, none⟩)) 5 = ret (.pointer (some ⟨b, o + 5, none⟩)) := by kernel_rfl
@[simp] theorem fa_120_6 (b o : Nat) : aFieldAddr Tryz.prog 120 (.pointer (some ⟨b, o, none⟩)) 6 = ret (.pointer (some ⟨b, o + 6, none⟩)) := by kernel_rfl
@[simp] theorem ag_118 : aggB Tryz.prog 118 = some false := by kernel_rfl
@[simp] theorem sz_118 : szOf Tryz.prog 118 = some 1 := by kernel_rfl
@[simp] theorem ln_118 (a : Option Addr) (n c : Nat) : aLen Tryz.prog 118 (.slice a n c) = ret (.int .i64 n) := by kernel_rfl
@[simp] theorem fa_153_0 (b o : Nat) : aFieldAddr Tryz.prog 153 (.pointer (some ⟨b, o, none⟩)) 0 = ret (.pointer (some ⟨b, o + 0, none⟩)) := by kernel_rfl
@[simp] theorem cl_93 : callable Tryz.prog 93 = true := by kernel_rfl
@[simp] theorem bs_69_1 : bsCells Tryz.prog 69 1 = some (9, 1, [.string ⟨#[]⟩]) := by kernel_rfl
@[simp] theorem ap_69 : apInfo Tryz.prog 69 = some (9, 1, 16) := by kernel_rfl
@[simp] theorem cl_94 : callable Tryz.prog 94 = true := by kernel_rfl
@[simp] theorem zr_122 : zeroOf Tryz.prog 122 = some (.agg #[.int .i64 0, .int .i64 0, .int .i64 0, .int .i64 0, .int .i64 0, .int .i64 0, .slice none 0 0, .int .i64 0, .int .i64 0, .int .i64 0, .int .i64 0, .int .i64 0, .int .i64 0, .int .i64 0, .string ⟨#[]⟩, .slice none 0 0, .slice none 0 0, .int .i64 0, .int .i64 0, .int .i64 0, .int .i64 0, .int .i64 0, .int .i64 0, .int .i64 0, .int .i64 0, .slice none 0 0, .slice none 0 0, .slice none 0 0, .slice none 0 0, .int .i64 0, .int .i64 0, .int .i64 0, .int .i64 0, .slice none 0 0, .slice none 0 0, .slice none 0 0, .slice none 0 0, .slice none 0 0, .bool false, .bool false, .int .i64 0, .bool false, .slice none 0 0]) := by kernel_rfl
@[simp] theorem cl_96 : callable Tryz.prog 96 = true := by kernel_rfl
@[simp] theorem bu_216 : stat Tryz.prog (bInfo 216) = some (#[(0, 1), (1, 1), (2, 8), (10, 5)], none, [.int .i64 0, .int .i64 0, .int .i64 0, .int .i64 0, .int .i64 0, .int .i64 0, .int .i64 0, .slice none 0 0, .bool false, .string ⟨#[]⟩, .int .i64 0, .string ⟨#[]⟩, .bool false, .int .u8 0, .int .i64 0].toArray) := by kernel_rfl
@[simp] theorem zr_216 : zeroOf Tryz.prog 216 = some (.agg #[.int .i64 0, .int .i64 0, .int .i64 0, .int .i64 0, .int .i64 0, .int .i64 0, .int .i64 0, .slice none 0 0, .bool false, .string ⟨#[]⟩, .int .i64 0, .string ⟨#[]⟩, .bool false, .int .u8 0, .int .i64 0]) := by kernel_rfl
@[simp] theorem bs_125_1 : bsCells Tryz.prog 125 1 = some (216, 15, [.int .i64 0, .int .i64 0, .int .i64 0, .int .i64 0, .int .i64 0, .int .i64 0, .int .i64 0, .slice none 0 0, .bool false, .string ⟨#[]⟩, .int .i64 0, .string ⟨#[]⟩, .bool false, .int .u8 0, .int .i64 0]) := by kernel_rfl
@[simp] theorem cl_97 : callable Tryz.prog 97 = true := by kernel_rfl
@[simp] theorem cl_95 : callable Tryz.prog 95 = true := by kernel_rfl
@[simp] theorem ln_125 (a : Option Addr) (n c : Nat) : aLen Tryz.prog 125 (.slice a n c) = ret (.int .i64 n) := by kernel_rfl
@[simp] theorem ia_125 (b o n c : Nat) (i : Int) (h : 0 ≤ i ∧ i < n) : aIndexAddr Tryz.prog 125 (.slice (some ⟨b, o, none⟩) n c) (.int .i64 i) = ret (.pointer (some ⟨b, o + i.toNat * 15, none⟩)) := (show _ = ite (0 ≤ i ∧ i < (n : Int)) (ret _) fail by kernel_rfl).trans (if_pos h)
@[simp] theorem ag_216 : aggB Tryz.prog 216 = some true := by kernel_rfl
@[simp] theorem sz_216 : szOf Tryz.prog 216 = some 15 := by kernel_rfl
@[simp] theorem fa_216_3 (b o : Nat) : aFieldAddr Tryz.prog 216 (.pointer (some ⟨b, o, none⟩)) 3 = ret (.pointer (some ⟨b, o + 10, none⟩)) := by kernel_rfl
@[simp] theorem fa_214_0 (b o : Nat) : aFieldAddr Tryz.prog 214 (.pointer (some ⟨b, o, none⟩)) 0 = ret (.pointer (some ⟨b, o + 0, none⟩)) := by kernel_rfl
@[simp] theorem fa_214_1 (b o : Nat) : aFieldAddr Tryz.prog 214 (.pointer (some ⟨b, o, none⟩)) 1 = ret (.pointer (some ⟨b, o + 1, none⟩)) := by kernel_rfl
@[simp] theorem fa_214_2 (b o : Nat) : aFieldAddr Tryz.prog 214 (.pointer (some ⟨b, o, none⟩)) 2 = ret (.pointer (some ⟨b, o + 2, none⟩)) := by kernel_rfl
@[simp] theorem fa_214_3 (b o : Nat) : aFieldAddr Tryz.prog 214 (.pointer (some ⟨b, o, none⟩)) 3 = ret (.pointer (some ⟨b, o + 3, none⟩)) := by kernel_rfl
@[simp] theorem ag_5 : aggB Tryz.prog 5 = some false := by kernel_rfl
@[simp] theorem sz_5 : szOf Tryz.prog 5 = some 1 := by kernel_rfl
@[simp] theorem fa_214_4 (b o : Nat) : aFieldAddr Tryz.prog 214 (.pointer (some ⟨b, o, none⟩)) 4 = ret (.pointer (some ⟨b, o + 4, none⟩)) := by kernel_rfl
@[simp] theorem bu_59 : stat Tryz.prog (bInfo 59) = some (#[(0, 1), (1, 1), (2, 1), (3, 1), (4, 1)], none, [.int .i64 0, .string ⟨#[]⟩, .bool false, .int .u8 0, .int .i64 0].toArray) := by kernel_rfl
@[simp] theorem fa_216_0 (b o : Nat) : aFieldAddr Tryz.prog 216 (.pointer (some ⟨b, o, none⟩)) 0 = ret (.pointer (some ⟨b, o + 0, none⟩)) := by kernel_rfl
@[simp] theorem fa_216_1 (b o : Nat) : aFieldAddr Tryz.prog 216 (.pointer (some ⟨b, o, none⟩)) 1 = ret (.pointer (some ⟨b, o + 1, none⟩)) := by kernel_rfl
@[simp] theorem fa_61_3 (b o : Nat) : aFieldAddr Tryz.prog 61 (.pointer (some ⟨b, o, none⟩)) 3 = ret (.pointer (some ⟨b, o + 10, none⟩)) := by kernel_rfl
@[simp] theorem fa_216_2 (b o : Nat) : aFieldAddr Tryz.prog 216 (.pointer (some ⟨b, o, none⟩)) 2 = ret (.pointer (some ⟨b, o + 2, none⟩)) := by kernel_rfl
@[simp] theorem cl_98 : callable Tryz.prog 98 = true := by kernel_rfl
@[simp] theorem bs_125_0 : bsCells Tryz.prog 125 0 = some (216, 15, []) := by kernel_rfl
@[simp] theorem cl_99 : callable Tryz.prog 99 = true := by kernel_rfl
@[simp] theorem cl_100 : callable Tryz.prog 100 = true := by kernel_rfl
@[simp] theorem bu_72 : stat Tryz.prog (bInfo 72) = some (#[(0, 1), (1, 1), (2, 1), (3, 1), (4, 1), (5, 1), (6, 1), (7, 1)], none, [.int .i64 0, .int .i64 0, .int .i64 0, .int .i64 0, .int .i64 0, .slice none 0 0, .bool false, .string ⟨#[]⟩].toArray) := by kernel_rfl
@[simp] theorem cl_101 : callable Tryz.prog 101 = true := by kernel_rfl
@[simp] theorem bu_214 : stat Tryz.prog (bInfo 214) = some (#[(0, 1), (1, 1), (2, 1), (3, 1), (4, 1)], none, [.int .i64 0, .string ⟨#[]⟩, .bool false, .int .u8 0, .int .i64 0].toArray) := by kernel_rfl
@[simp] theorem zr_214 : zeroOf Tryz.prog 214 = some (.agg #[.int .i64 0, .string ⟨#[]⟩, .bool false, .int .u8 0, .int .i64 0]) := by kernel_rfl
@[simp] theorem bs_208_1 : bsCells Tryz.prog 208 1 = some (214, 5, [.int .i64 0, .string ⟨#[]⟩, .bool false, .int .u8 0, .int .i64 0]) := by kernel_rfl
@[simp] theorem cl_102 : callable Tryz.prog 102 = true := by kernel_rfl
@[simp] theorem el_70 : elemT Tryz.prog 70 = some 72 := by kernel_rfl
@[simp] theorem cl_103 : callable Tryz.prog 103 = true := by kernel_rfl
@[simp] theorem cl_104 : callable Tryz.prog 104 = true := by kernel_rfl
@[simp] theorem zr_224 : zeroOf Tryz.prog 224 = some (.agg #[.int .i64 0, .bool false, .bool false, .int .i64 0, .bool false, .bool false, .bool false, .bool false]) := by kernel_rfl
@[simp] theorem sz_224 : szOf Tryz.prog 224 = some 8 := by kernel_rfl
@[simp] theorem fa_224_7 (b o : Nat) : aFieldAddr Tryz.prog 224 (.pointer (some ⟨b, o, none⟩)) 7 = ret (.pointer (some ⟨b, o + 7, none⟩)) := by kernel_rfl
@[simp] theorem fa_224_0 (b o : Nat) : aFieldAddr Tryz.prog 224 (.pointer (some ⟨b, o, none⟩)) 0 = ret (.pointer (some ⟨b, o + 0, none⟩)) := by kernel_rfl
@[simp] theorem fa_57_5 (b o : Nat) : aFieldAddr Tryz.prog 57 (.pointer (some ⟨b, o, none⟩)) 5 = ret (.pointer (some ⟨b, o + 5, none⟩)) := by kernel_rfl
@[simp] theorem fa_224_3 (b o : Nat) : aFieldAddr Tryz.prog 224 (.pointer (some ⟨b, o, none⟩)) 3 = ret (.pointer (some ⟨b, o + 3, none⟩)) := by kernel_rfl
@[simp] theorem cl_105 : callable Tryz.prog 105 = true := by kernel_rfl
@[simp] theorem fa_57_3 (b o : Nat) : aFieldAddr Tryz.prog 57 (.pointer (some ⟨b, o, none⟩)) 3 = ret (.pointer (some ⟨b, o + 3, none⟩)) := by kernel_rfl
@[simp] theorem fa_57_4 (b o : Nat) : aFieldAddr Tryz.prog 57 (.pointer (some ⟨b, o, none⟩)) 4 = ret (.pointer (some ⟨b, o + 4, none⟩)) := by kernel_rfl
@[simp] theorem cl_106 : callable Tryz.prog 106 = true := by kernel_rfl
@[simp] theorem cl_107 : callable Tryz.prog 107 = true := by kernel_rfl
@[simp] theorem fa_224_2 (b o : Nat) : aFieldAddr Tryz.prog 224 (.pointer (some ⟨b, o, none⟩)) 2 = ret (.pointer (some ⟨b, o + 2, none⟩)) := by kernel_rfl
@[simp] theorem fa_224_4 (b o : Nat) : aFieldAddr Tryz.prog 224 (.pointer (some ⟨b, o, none⟩)) 4 = ret (.pointer (some ⟨b, o + 4, none⟩)) := by kernel_rfl
@[simp] theorem fa_224_5 (b o : Nat) : aFieldAddr Tryz.prog 224 (.pointer (some ⟨b, o, none⟩)) 5 = ret (.pointer (some ⟨b, o + 5, none⟩)) := by kernel_rfl
@[simp] theorem fa_224_6 (b o : Nat) : aFieldAddr Tryz.prog 224 (.pointer (some ⟨b, o, none⟩)) 6 = ret (.pointer (some ⟨b, o + 6, none⟩)) := by kernel_rfl
@[simp] theorem fa_57_1 (b o : Nat) : aFieldAddr Tryz.prog 57 (.pointer (some ⟨b, o, none⟩)) 1 = ret (.pointer (some ⟨b, o + 1, none⟩)) := by kernel_rfl
@[simp] theorem fa_224_1 (b o : Nat) : aFieldAddr Tryz.prog 224 (.pointer (some ⟨b, o, none⟩)) 1 = ret (.pointer (some ⟨b, o + 1, none⟩)) := by kernel_rfl
@[simp] theorem cl_108 : callable Tryz.prog 108 = true := by kernel_rfl
@[simp] theorem fa_142_1 (b o : Nat) : aFieldAddr Tryz.prog 142 (.pointer (some ⟨b, o, none⟩)) 1 = ret (.pointer (some ⟨b, o + 1, none⟩)) := by kernel_rfl
@[simp] theorem ag_140 : aggB Tryz.prog 140 = some false := by kernel_rfl
@[simp] theorem sz_140 : szOf Tryz.prog 140 = some 1 := by kernel_rfl
@[simp] theorem ap_140 : apInfo Tryz.prog 140 = some (5, 1, 1) := by kernel_rfl
@[simp] theorem ui_150 : Tryz.prog.underlying 150 = some (.int .u64) := by kernel_rfl
@[simp] theorem cl_109 : callable Tryz.prog 109 = true := by kernel_rfl
@[simp] theorem cl_110 : callable Tryz.prog 110 = true := by kernel_rfl
@[simp] theorem cl_111 : callable Tryz.prog 111 = true := by kernel_rfl
@[simp] theorem cl_112 : callable Tryz.prog 112 = true := by kernel_rfl
@[simp] theorem bs_147_1 : bsCells Tryz.prog 147 1 = some (39, 1, [.int .u32 0]) := by kernel_rfl
@[simp] theorem ap_147 : apInfo Tryz.prog 147 = some (39, 1, 4) := by kernel_rfl
@[simp] theorem ia_55 (b o n c : Nat) (i : Int) (h : 0 ≤ i ∧ i < n) : aIndexAddr Tryz.prog 55 (.slice (some ⟨b, o, none⟩) n c) (.int .i64 i) = ret (.pointer (some ⟨b, o + i.toNat * 1, none⟩)) := (show _ = ite (0 ≤ i ∧ i < (n : Int)) (ret _) fail by kernel_rfl).trans (if_pos h)
@[simp] theorem ui_5 : Tryz.prog.underlying 5 = some (.int .u8) := by kernel_rfl
@[simp] theorem bs_140_4 : bsCells Tryz.prog 140 4 = some (5, 1, [.int .u8 0, .int .u8 0, .int .u8 0, .int .u8 0]) := by kernel_rfl
@[simp] theorem el_140 : elemT Tryz.prog 140 = some 5 := by kernel_rfl
@[simp] theorem ln_140 (a : Option Addr) (n c : Nat) : aLen Tryz.prog 140 (.slice a n c) = ret (.int .i64 n) := by kernel_rfl
@[simp] theorem fa_72_0 (b o : Nat) : aFieldAddr Tryz.prog 72 (.pointer (some ⟨b, o, none⟩)) 0 = ret (.pointer (some ⟨b, o + 0, none⟩)) := by kernel_rfl
@[simp] theorem cl_113 : callable Tryz.prog 113 = true := by kernel_rfl
@[simp] theorem cl_114 : callable Tryz.prog 114 = true := by kernel_rfl
@[simp] theorem fa_72_1 (b o : Nat) : aFieldAddr Tryz.prog 72 (.pointer (some ⟨b, o, none⟩)) 1 = ret (.pointer (some ⟨b, o + 1, none⟩)) := by kernel_rfl
@[simp] theorem cl_115 : callable Tryz.prog 115 = true := by kernel_rfl
@[simp] theorem cl_116 : callable Tryz.prog 116 = true := by kernel_rfl
@[simp] theorem fa_72_6 (b o : Nat) : aFieldAddr Tryz.prog 72 (.pointer (some ⟨b, o, none⟩)) 6 = ret (.pointer (some ⟨b, o + 6, none⟩)) := by kernel_rfl
@[simp] theorem bs_22_2 : bsCells Tryz.prog 22 2 = some (3, 1, [.int .i64 0, .int .i64 0]) := by kernel_rfl
@[simp] theorem cl_117 : callable Tryz.prog 117 = true := by kernel_rfl
@[simp] theorem bs_140_1 : bsCells Tryz.prog 140 1 = some (5, 1, [.int .u8 0]) := by kernel_rfl
@[simp] theorem cl_119 : callable Tryz.prog 119 = true := by kernel_rfl
@[simp] theorem cl_118 : callable Tryz.prog 118 = true := by kernel_rfl
@[simp] theorem cl_120 : callable Tryz.prog 120 = true := by kernel_rfl
@[simp] theorem ag_173 : aggB Tryz.prog 173 = some true := by kernel_rfl
@[simp] theorem sz_173 : szOf Tryz.prog 173 = some 22 := by kernel_rfl
@[simp] theorem zr_173 : zeroOf Tryz.prog 173 = some (.agg #[.int .i64 0, .int .i64 0, .int .i64 0, .int .i64 0, .int .i64 0, .int .u32 0, .int .i64 0, .int .i64 0, .int .i64 0, .int .i64 0, .int .i64 0, .pointer none, .pointer none, .pointer none, .pointer none, .slice none 0 0, .pointer none, .bool false, .bool false, .int .u32 0, .bool false, .slice none 0 0]) := by kernel_rfl
@[simp] theorem cl_121 : callable Tryz.prog 121 = true := by kernel_rfl
@[simp] theorem cl_122 : callable Tryz.prog 122 = true := by kernel_rfl
@[simp] theorem cl_123 : callable Tryz.prog 123 = true := by kernel_rfl
@[simp] theorem cl_124 : callable Tryz.prog 124 = true := by kernel_rfl
@[simp] theorem fa_173_11 (b o : Nat) : aFieldAddr Tryz.prog 173 (.pointer (some ⟨b, o, none⟩)) 11 = ret (.pointer (some ⟨b, o + 21, none⟩)) := by kernel_rfl
@[simp] theorem cl_125 : callable Tryz.prog 125 = true := by kernel_rfl
@[simp] theorem fa_173_3 (b o : Nat) : aFieldAddr Tryz.prog 173 (.pointer (some ⟨b, o, none⟩)) 3 = ret (.pointer (some ⟨b, o + 13, none⟩)) := by kernel_rfl
@[simp] theorem ag_169 : aggB Tryz.prog 169 = some false := by kernel_rfl
@[simp] theorem sz_169 : szOf Tryz.prog 169 = some 1 := by kernel_rfl
@[simp] theorem cl_126 : callable Tryz.prog 126 = true := by kernel_rfl
@[simp] theorem cl_127 : callable Tryz.prog 127 = true := by kernel_rfl
@[simp] theorem cl_128 : callable Tryz.prog 128 = true := by kernel_rfl
@[simp] theorem fa_68_1 (b o : Nat) : aFieldAddr Tryz.prog 68 (.pointer (some ⟨b, o, none⟩)) 1 = ret (.pointer (some ⟨b, o + 1, none⟩)) := by kernel_rfl
@[simp] theorem bu_68 : stat Tryz.prog (bInfo 68) = some (#[(0, 1), (1, 1), (2, 1), (3, 1)], none, [.pointer none, .int .i64 0, .int .i64 0, .int .i64 0].toArray) := by kernel_rfl
@[simp] theorem zr_68 : zeroOf Tryz.prog 68 = some (.agg #[.pointer none, .int .i64 0, .int .i64 0, .int .i64 0]) := by kernel_rfl
@[simp] theorem cl_129 : callable Tryz.prog 129 = true := by kernel_rfl
@[simp] theorem cl_131 : callable Tryz.prog 131 = true := by kernel_rfl
@[simp] theorem ff_199_0 (cs : Array Value) : aField Tryz.prog 199 (.agg cs) 0 = ofOpt cs[0]? := by kernel_rfl
@[simp] theorem cl_130 : callable Tryz.prog 130 = true := by kernel_rfl
@[simp] theorem cl_132 : callable Tryz.prog 132 = true := by kernel_rfl
@[simp] theorem cl_133 : callable Tryz.prog 133 = true := by kernel_rfl
@[simp] theorem fa_24_0 (b o : Nat) : aFieldAddr Tryz.prog 24 (.pointer (some ⟨b, o, none⟩)) 0 = ret (.pointer (some ⟨b, o + 0, none⟩)) := by kernel_rfl
@[simp] theorem fa_24_1 (b o : Nat) : aFieldAddr Tryz.prog 24 (.pointer (some ⟨b, o, none⟩)) 1 = ret (.pointer (some ⟨b, o + 1, none⟩)) := by kernel_rfl
@[simp] theorem fa_24_2 (b o : Nat) : aFieldAddr Tryz.prog 24 (.pointer (some ⟨b, o, none⟩)) 2 = ret (.pointer (some ⟨b, o + 2, none⟩)) := by kernel_rfl
@[simp] theorem fa_24_3 (b o : Nat) : aFieldAddr Tryz.prog 24 (.pointer (some ⟨b, o, none⟩)) 3 = ret (.pointer (some ⟨b, o + 3, none⟩)) := by kernel_rfl
@[simp] theorem fa_24_4 (b o : Nat) : aFieldAddr Tryz.prog 24 (.pointer (some ⟨b, o, none⟩)) 4 = ret (.pointer (some ⟨b, o + 4, none⟩)) := by kernel_rfl
@[simp] theorem cl_92 : callable Tryz.prog 92 = true := by kernel_rfl
@[simp] theorem fa_24_6 (b o : Nat) : aFieldAddr Tryz.prog 24 (.pointer (some ⟨b, o, none⟩)) 6 = ret (.pointer (some ⟨b, o + 6, none⟩)) := by kernel_rfl
@[simp] theorem cl_134 : callable Tryz.prog 134 = true := by kernel_rfl
@[simp] theorem bu_24 : stat Tryz.prog (bInfo 24) = some (#[(0, 1), (1, 1), (2, 1), (3, 1), (4, 1), (5, 1), (6, 1)], none, [.int .i64 0, .int .i64 0, .int .i64 0, .int .i64 0, .int .i64 0, .int .i64 0, .slice none 0 0].toArray) := by kernel_rfl
@[simp] theorem cl_135 : callable Tryz.prog 135 = true := by kernel_rfl
@[simp] theorem ia_91 (b o : Nat) (i : Int) (h : 0 ≤ i ∧ i < 2) : aIndexAddr Tryz.prog 91 (.pointer (some ⟨b, o, none⟩)) (.int .i64 i) = ret (.pointer (some ⟨b, o + i.toNat * 11, none⟩)) := (show _ = ite (0 ≤ i ∧ i < 2) (ret _) fail by kernel_rfl).trans (if_pos h)
@[simp] theorem fa_90_5 (b o : Nat) : aFieldAddr Tryz.prog 90 (.pointer (some ⟨b, o, none⟩)) 5 = ret (.pointer (some ⟨b, o + 5, none⟩)) := by kernel_rfl
@[simp] theorem cl_136 : callable Tryz.prog 136 = true := by kernel_rfl
@[simp] theorem bu_252 : stat Tryz.prog (bInfo 252) = some (#[(0, 256)], none, [.int .u32 0, .int .u32 0, .int .u32 0, .int .u32 0, .int .u32 0, .int .u32 0, .int .u32 0, .int .u32 0, .int .u32 0, .int .u32 0, .int .u32 0, .int .u32 0, .int .u32 0, .int .u32 0, .int .u32 0, .int .u32 0, .int .u32 0, .int .u32 0, .int .u32 0, .int .u32 0, .int .u32 0, .int .u32 0, .int .u32 0, .int .u32 0, .int .u32 0, .int .u32 0, .int .u32 0, .int .u32 0, .int .u32 0, .int .u32 0, .int .u32 0, .int .u32 0, .int .u32 0, .int .u32 0, .int .u32 0, .int .u32 0, .int .u32 0, .int .u32 0, .int .u32 0, .int .u32 0, .int .u32 0, .int .u32 0, .int .u32 0, .int .u32 0, .int .u32 0, .int .u32 0, .int .u32 0, .int .u32 0, .int .u32 0, .int .u32 0, .int .u32 0, .int .u32 0, .int .u32 0, .int .u32 0, .int .u32 0, .int .u32 0, .int .u32 0, .int .u32 0, .int .u32 0, .int .u32 0, .int .u32 0, .int .u32 0, .int .u32 0, .int .u32 0, .int .u32 0, .int .u32 0, .int .u32 0, .int .u32 0, .int .u32 0, .int .u32 0, .int .u32 0, .int .u32 0, .int .u32 0, .int .u32 0, .int .u32 0, .int .u32 0, .int .u32 0, .int .u32 0, .int .u32 0, .int .u32 0, .int .u32 0, .int .u32 0, .int .u32 0, .int .u32 0, .int .u32 0, .int .u32 0, .int .u32 0, .int .u32 0, .int .u32 0, .int .u32 0, .int .u32 0, .int .u32 0, .int .u32 0, .int .u32 0, .int .u32 0, .int .u32 0, .int .u32 0, .int .u32 0, .int .u32 0, .int .u32 0, .int .u32 0, .int .u32 0, .int .u32 0, .int .u32 0, .int .u32 0, .int .u32 0, .int .u32 0, .int .u32 0, .int .u32 0, .int .u32 0, .int .u32 0, .int .u32 0, .int .u32 0, .int .u32 0, .int .u32 0, .int .u32 0, .int .u32 0, .int .u32 0, .int .u32 0, .int .u32 0, .int .u32 0, .int .u32 0, .int .u32 0, .int .u32 0, .int .u32 0, .int .u32 0, .int .u32 0, .int .u32 0, .int .u32 0, .int .u32 0, .int .u32 0, .int .u32 0, .int .u32 0, .int .u32 0, .int .u32 0, .int .u32 0, .int .u32 0, .int .u32 0, .int .u32 0, .int .u32 0, .int .u32 0, .int .u32 0, .int .u32 0, .int .u32 0, .int .u32 0, .int .u32 0, .int .u32 0, .int .u32 0, .int .u32 0, .int .u32 0, .int .u32 0, .int .u32 0, .int .u32 0, .int .u32 0, .int .u32 0, .int .u32 0, .int .u32 0, .int .u32 0, .int .u32 0, .int .u32 0, .int .u32 0, .int .u32 0, .int .u32 0, .int .u32 0, .int .u32 0, .int .u32 0, .int .u32 0, .int .u32 0, .int .u32 0, .int .u32 0, .int .u32 0, .int .u32 0, .int .u32 0, .int .u32 0, .int .u32 0, .int .u32 0, .int .u32 0, .int .u32 0, .int .u32 0, .int .u32 0, .int .u32 0, .int .u32 0, .int .u32 0, .int .u32 0, .int .u32 0, .int .u32 0, .int .u32 0, .int .u32 0, .int .u32 0, .int .u32 0, .int .u32 0, .int .u32 0, .int .u32 0, .int .u32 0, .int .u32 0, .int .u32 0, .int .u32 0, .int .u32 0, .int .u32 0, .int .u32 0, .int .u32 0, .int .u32 0, .int .u32 0, .int .u32 0, .int .u32 0, .int .u32 0, .int .u32 0, .int .u32 0, .int .u32 0, .int .u32 0, .int .u32 0, .int .u32 0, .int .u32 0, .int .u32 0, .int .u32 0, .int .u32 0, .int .u32 0, .int .u32 0, .int .u32 0, .int .u32 0, .int .u32 0, .int .u32 0, .int .u32 0, .int .u32 0, .int .u32 0, .int .u32 0, .int .u32 0, .int .u32 0, .int .u32 0, .int .u32 0, .int .u32 0, .int .u32 0, .int .u32 0, .int .u32 0, .int .u32 0, .int .u32 0, .int .u32 0, .int .u32 0, .int .u32 0, .int .u32 0, .int .u32 0, .int .u32 0, .int .u32 0, .int .u32 0, .int .u32 0, .int .u32 0, .int .u32 0, .int .u32 0, .int .u32 0, .int .u32 0, .int .u32 0, .int .u32 0, .int .u32 0, .int .u32 0, .int .u32 0, .int .u32 0].toArray) := by kernel_rfl
@[simp] theorem zr_252 : zeroOf Tryz.prog 252 = some (.agg #[.int .u32 0, .int .u32 0, .int .u32 0, .int .u32 0, .int .u32 0, .int .u32 0, .int .u32 0, .int .u32 0, .int .u32 0, .int .u32 0, .int .u32 0, .int .u32 0, .int .u32 0, .int .u32 0, .int .u32 0, .int .u32 0, .int .u32 0, .int .u32 0, .int .u32 0, .int .u32 0, .int .u32 0, .int .u32 0, .int .u32 0, .int .u32 0, .int .u32 0, .int .u32 0, .int .u32 0, .int .u32 0, .int .u32 0, .int .u32 0, .int .u32 0, .int .u32 0, .int .u32 0, .int .u32 0, .int .u32 0, .int .u32 0, .int .u32 0, .int .u32 0, .int .u32 0, .int .u32 0, .int .u32 0, .int .u32 0, .int .u32 0, .int .u32 0, .int .u32 0, .int .u32 0, .int .u32 0, .int .u32 0, .int .u32 0, .int .u32 0, .int .u32 0, .int .u32 0, .int .u32 0, .int .u32 0, .int .u32 0, .int .u32 0, .int .u32 0, .int .u32 0, .int .u32 0, .int .u32 0, .int .u32 0, .int .u32 0, .int .u32 0, .int .u32 0, .int .u32 0, .int .u32 0, .int .u32 0, .int .u32 0, .int .u32 0, .int .u32 0, .int .u32 0, .int .u32 0, .int .u32 0, .int .u32 0, .int .u32 0, .int .u32 0, .int .u32 0, .int .u32 0, .int .u32 0, .int .u32 0, .int .u32 0, .int .u32 0, .int .u32 0, .int .u32 0, .int .u32 0, .int .u32 0, .int .u32 0, .int .u32 0, .int .u32 0, .int .u32 0, .int .u32 0, .int .u32 0, .int .u32 0, .int .u32 0, .int .u32 0, .int .u32 0, .int .u32 0, .int .u32 0, .int .u32 0, .int .u32 0, .int .u32 0, .int .u32 0, .int .u32 0, .int .u32 0, .int .u32 0, .int .u32 0, .int .u32 0, .int .u32 0, .int .u32 0, .int .u32 0, .int .u32 0, .int .u32 0, .int .u32 0, .int .u32 0, .int .u32 0, .int .u32 0, .int .u32 0, .int .u32 0, .int .u32 0, .int .u32 0, .int .u32 0, .int .u32 0, .int .u32 0, .int .u32 0, .int .u32 0, .int .u32 0, .int .u32 0, .int .u32 0, .int .u32 0, .int .u32 0, .int .u32 0, .int .u32 0, .int .u32 0, .int .u32 0, .int .u32 0, .int .u32 0, .int .u32 0, .int .u32 0, .int .u32 0, .int .u32 0, .int .u32 0, .int .u32 0, .int .u32 0, .int .u32 0, .int .u32 0, .int .u32 0, .int .u32 0, .int .u32 0, .int .u32 0, .int .u32 0, .int .u32 0, .int .u32 0, .int .u32 0, .int .u32 0, .int .u32 0, .int .u32 0, .int .u32 0, .int .u32 0, .int .u32 0, .int .u32 0, .int .u32 0, .int .u32 0, .int .u32 0, .int .u32 0, .int .u32 0, .int .u32 0, .int .u32 0, .int .u32 0, .int .u32 0, .int .u32 0, .int .u32 0, .int .u32 0, .int .u32 0, .int .u32 0, .int .u32 0, .int .u32 0, .int .u32 0, .int .u32 0, .int .u32 0, .int .u32 0, .int .u32 0, .int .u32 0, .int .u32 0, .int .u32 0, .int .u32 0, .int .u32 0, .int .u32 0, .int .u32 0, .int .u32 0, .int .u32 0, .int .u32 0, .int .u32 0, .int .u32 0, .int .u32 0, .int .u32 0, .int .u32 0, .int .u32 0, .int .u32 0, .int .u32 0, .int .u32 0, .int .u32 0, .int .u32 0, .int .u32 0, .int .u32 0, .int .u32 0, .int .u32 0, .int .u32 0, .int .u32 0, .int .u32 0, .int .u32 0, .int .u32 0, .int .u32 0, .int .u32 0, .int .u32 0, .int .u32 0, .int .u32 0, .int .u32 0, .int .u32 0, .int .u32 0, .int .u32 0, .int .u32 0, .int .u32 0, .int .u32 0, .int .u32 0, .int .u32 0, .int .u32 0, .int .u32 0, .int .u32 0, .int .u32 0, .int .u32 0, .int .u32 0, .int .u32 0, .int .u32 0, .int .u32 0, .int .u32 0, .int .u32 0, .int .u32 0, .int .u32 0, .int .u32 0, .int .u32 0, .int .u32 0, .int .u32 0, .int .u32 0, .int .u32 0, .int .u32 0, .int .u32 0, .int .u32 0, .int .u32 0, .int .u32 0, .int .u32 0, .int .u32 0, .int .u32 0, .int .u32 0, .int .u32 0, .int .u32 0, .int .u32 0]) := by kernel_rfl
@[simp] theorem fa_90_6 (b o : Nat) : aFieldAddr Tryz.prog 90 (.pointer (some ⟨b, o, none⟩)) 6 = ret (.pointer (some ⟨b, o + 6, none⟩)) := by kernel_rfl
@[simp] theorem ag_88 : aggB Tryz.prog 88 = some true := by kernel_rfl
@[simp] theorem sz_88 : szOf Tryz.prog 88 = some 5 := by kernel_rfl
@[simp] theorem cl_137 : callable Tryz.prog 137 = true := by kernel_rfl
@[simp] theorem fa_90_0 (b o : Nat) : aFieldAddr Tryz.prog 90 (.pointer (some ⟨b, o, none⟩)) 0 = ret (.pointer (some ⟨b, o + 0, none⟩)) := by kernel_rfl
@[simp] theorem fa_90_1 (b o : Nat) : aFieldAddr Tryz.prog 90 (.pointer (some ⟨b, o, none⟩)) 1 = ret (.pointer (some ⟨b, o + 1, none⟩)) := by kernel_rfl
@[simp] theorem cl_139 : callable Tryz.prog 139 = true := by kernel_rfl
@[simp] theorem bu_258 : stat Tryz.prog (bInfo 258) = some (#[(0, 1), (1, 1)], none, [.int .i64 0, .int .u32 0].toArray) := by kernel_rfl
@[simp] theorem zr_258 : zeroOf Tryz.prog 258 = some (.agg #[.int .i64 0, .int .u32 0]) := by kernel_rfl
@[simp] theorem cl_138 : callable Tryz.prog 138 = true := by kernel_rfl
@[simp] theorem fa_90_3 (b o : Nat) : aFieldAddr Tryz.prog 90 (.pointer (some ⟨b, o, none⟩)) 3 = ret (.pointer (some ⟨b, o + 3, none⟩)) := by kernel_rfl
@[simp] theorem cl_140 : callable Tryz.prog 140 = true := by kernel_rfl
@[simp] theorem bu_173 : stat Tryz.prog (bInfo 173) = some (#[(0, 11), (11, 1), (12, 1), (13, 1), (14, 1), (15, 1), (16, 1), (17, 1), (18, 1), (19, 1), (20, 1), (21, 1)], none, [.int .i64 0, .int .i64 0, .int .i64 0, .int .i64 0, .int .i64 0, .int .u32 0, .int .i64 0, .int .i64 0, .int .i64 0, .int .i64 0, .int .i64 0, .pointer none, .pointer none, .pointer none, .pointer none, .slice none 0 0, .pointer none, .bool false, .bool false, .int .u32 0, .bool false, .slice none 0 0].toArray) := by kernel_rfl
@[simp] theorem cl_141 : callable Tryz.prog 141 = true := by kernel_rfl
@[simp] theorem cl_142 : callable Tryz.prog 142 = true := by kernel_rfl
@[simp] theorem cl_143 : callable Tryz.prog 143 = true := by kernel_rfl
@[simp] theorem bu_90 : stat Tryz.prog (bInfo 90) = some (#[(0, 1), (1, 1), (2, 1), (3, 1), (4, 1), (5, 1), (6, 5)], none, [.int .i64 0, .int .i64 0, .int .i64 0, .int .i64 0, .int .i64 0, .int .u32 0, .int .i64 0, .int .i64 0, .int .i64 0, .int .i64 0, .int .i64 0].toArray) := by kernel_rfl
@[simp] theorem cl_144 : callable Tryz.prog 144 = true := by kernel_rfl
@[simp] theorem cl_145 : callable Tryz.prog 145 = true := by kernel_rfl
@[simp] theorem bu_122 : stat Tryz.prog (bInfo 122) = some (#[(0, 7), (7, 8), (15, 2), (17, 12), (29, 7), (36, 1), (37, 1), (38, 1), (39, 1), (40, 1), (41, 1), (42, 1)], none, [.int .i64 0, .int .i64 0, .int .i64 0, .int .i64 0, .int .i64 0, .int .i64 0, .slice none 0 0, .int .i64 0, .int .i64 0, .int .i64 0, .int .i64 0, .int .i64 0, .int .i64 0, .int .i64 0, .string ⟨#[]⟩, .slice none 0 0, .slice none 0 0, .int .i64 0, .int .i64 0, .int .i64 0, .int .i64 0, .int .i64 0, .int .i64 0, .int .i64 0, .int .i64 0, .slice none 0 0, .slice none 0 0, .slice none 0 0, .slice none 0 0, .int .i64 0, .int .i64 0, .int .i64 0, .int .i64 0, .slice none 0 0, .slice none 0 0, .slice none 0 0, .slice none 0 0, .slice none 0 0, .bool false, .bool false, .int .i64 0, .bool false, .slice none 0 0].toArray) := by kernel_rfl
@[simp] theorem fa_177_0 (b o : Nat) : aFieldAddr Tryz.prog 177 (.pointer (some ⟨b, o, none⟩)) 0 = ret (.pointer (some ⟨b, o + 0, none⟩)) := by kernel_rfl
@[simp] theorem fa_182_1 (b o : Nat) : aFieldAddr Tryz.prog 182 (.pointer (some ⟨b, o, none⟩)) 1 = ret (.pointer (some ⟨b, o + 1, none⟩)) := by kernel_rfl
@[simp] theorem cl_147 : callable Tryz.prog 147 = true := by kernel_rfl
@[simp] theorem cl_146 : callable Tryz.prog 146 = true := by kernel_rfl
@[simp] theorem fa_182_5 (b o : Nat) : aFieldAddr Tryz.prog 182 (.pointer (some ⟨b, o, none⟩)) 5 = ret (.pointer (some ⟨b, o + 5, none⟩)) := by kernel_rfl
@[simp] theorem cl_148 : callable Tryz.prog 148 = true := by kernel_rfl
@[simp] theorem cl_149 : callable Tryz.prog 149 = true := by kernel_rfl
@[simp] theorem fa_182_3 (b o : Nat) : aFieldAddr Tryz.prog 182 (.pointer (some ⟨b, o, none⟩)) 3 = ret (.pointer (some ⟨b, o + 3, none⟩)) := by kernel_rfl
@[simp] theorem cl_150 : callable Tryz.prog 150 = true := by kernel_rfl
@[simp] theorem cl_151 : callable Tryz.prog 151 = true := by kernel_rfl
@[simp] theorem cl_152 : callable Tryz.prog 152 = true := by kernel_rfl
@[simp] theorem fa_182_2 (b o : Nat) : aFieldAddr Tryz.prog 182 (.pointer (some ⟨b, o, none⟩)) 2 = ret (.pointer (some ⟨b, o + 2, none⟩)) := by kernel_rfl
@[simp] theorem fa_173_0 (b o : Nat) : aFieldAddr Tryz.prog 173 (.pointer (some ⟨b, o, none⟩)) 0 = ret (.pointer (some ⟨b, o + 0, none⟩)) := by kernel_rfl
@[simp] theorem fa_90_2 (b o : Nat) : aFieldAddr Tryz.prog 90 (.pointer (some ⟨b, o, none⟩)) 2 = ret (.pointer (some ⟨b, o + 2, none⟩)) := by kernel_rfl
@[simp] theorem fa_90_4 (b o : Nat) : aFieldAddr Tryz.prog 90 (.pointer (some ⟨b, o, none⟩)) 4 = ret (.pointer (some ⟨b, o + 4, none⟩)) := by kernel_rfl
@[simp] theorem cl_153 : callable Tryz.prog 153 = true := by kernel_rfl
@[simp] theorem cl_154 : callable Tryz.prog 154 = true := by kernel_rfl
@[simp] theorem fa_182_4 (b o : Nat) : aFieldAddr Tryz.prog 182 (.pointer (some ⟨b, o, none⟩)) 4 = ret (.pointer (some ⟨b, o + 4, none⟩)) := by kernel_rfl
@[simp] theorem cl_155 : callable Tryz.prog 155 = true := by kernel_rfl
@[simp] theorem cl_156 : callable Tryz.prog 156 = true := by kernel_rfl
@[simp] theorem fa_182_0 (b o : Nat) : aFieldAddr Tryz.prog 182 (.pointer (some ⟨b, o, none⟩)) 0 = ret (.pointer (some ⟨b, o + 0, none⟩)) := by kernel_rfl
@[simp] theorem ag_103 : aggB Tryz.prog 103 = some false := by kernel_rfl
@[simp] theorem sz_103 : szOf Tryz.prog 103 = some 1 := by kernel_rfl
@[simp] theorem zr_182 : zeroOf Tryz.prog 182 = some (.agg #[.slice none 0 0, .slice none 0 0, .bool false, .bool false, .int .u32 0, .int .i64 0]) := by kernel_rfl
@[simp] theorem cl_157 : callable Tryz.prog 157 = true := by kernel_rfl
@[simp] theorem cl_158 : callable Tryz.prog 158 = true := by kernel_rfl
@[simp] theorem sz_182 : szOf Tryz.prog 182 = some 6 := by kernel_rfl
@[simp] theorem fa_275_1 (b o : Nat) : aFieldAddr Tryz.prog 275 (.pointer (some ⟨b, o, none⟩)) 1 = ret (.pointer (some ⟨b, o + 2, none⟩)) := by kernel_rfl
@[simp] theorem bu_182 : stat Tryz.prog (bInfo 182) = some (#[(0, 1), (1, 1), (2, 1), (3, 1), (4, 1), (5, 1)], none, [.slice none 0 0, .slice none 0 0, .bool false, .bool false, .int .u32 0, .int .i64 0].toArray) := by kernel_rfl
@[simp] theorem cl_164 : callable Tryz.prog 164 = true := by kernel_rfl
@[simp] theorem ip_169 : isPtrT Tryz.prog 169 = true := by kernel_rfl
@[simp] theorem fa_173_10 (b o : Nat) : aFieldAddr Tryz.prog 173 (.pointer (some ⟨b, o, none⟩)) 10 = ret (.pointer (some ⟨b, o + 20, none⟩)) := by kernel_rfl
@[simp] theorem cl_166 : callable Tryz.prog 166 = true := by kernel_rfl
@[simp] theorem cl_167 : callable Tryz.prog 167 = true := by kernel_rfl
@[simp] theorem fa_153_3 (b o : Nat) : aFieldAddr Tryz.prog 153 (.pointer (some ⟨b, o, none⟩)) 3 = ret (.pointer (some ⟨b, o + 3, none⟩)) := by kernel_rfl
@[simp] theorem cl_168 : callable Tryz.prog 168 = true := by kernel_rfl
@[simp] theorem bu_57 : stat Tryz.prog (bInfo 57) = some (#[(0, 1), (1, 1), (2, 1), (3, 1), (4, 1), (5, 1), (6, 1), (7, 1)], none, [.int .i64 0, .int .i64 0, .int .u32 0, .int .u32 0, .int .u32 0, .slice none 0 0, .bool false, .string ⟨#[]⟩].toArray) := by kernel_rfl
@[simp] theorem cl_169 : callable Tryz.prog 169 = true := by kernel_rfl
@[simp] theorem fa_173_9 (b o : Nat) : aFieldAddr Tryz.prog 173 (.pointer (some ⟨b, o, none⟩)) 9 = ret (.pointer (some ⟨b, o + 19, none⟩)) := by kernel_rfl
@[simp] theorem cl_170 : callable Tryz.prog 170 = true := by kernel_rfl
@[simp] theorem cl_171 : callable Tryz.prog 171 = true := by kernel_rfl
@[simp] theorem cl_172 : callable Tryz.prog 172 = true := by kernel_rfl
@[simp] theorem cl_173 : callable Tryz.prog 173 = true := by kernel_rfl
@[simp] theorem cl_174 : callable Tryz.prog 174 = true := by kernel_rfl
@[simp] theorem bu_291 : stat Tryz.prog (bInfo 291) = some (#[(0, 1), (1, 1)], none, [.int .u8 0, .string ⟨#[]⟩].toArray) := by kernel_rfl
@[simp] theorem zr_291 : zeroOf Tryz.prog 291 = some (.agg #[.int .u8 0, .string ⟨#[]⟩]) := by kernel_rfl
@[simp] theorem fa_252_0 (b o : Nat) : aFieldAddr Tryz.prog 252 (.pointer (some ⟨b, o, none⟩)) 0 = ret (.pointer (some ⟨b, o + 0, none⟩)) := by kernel_rfl
@[simp] theorem cl_175 : callable Tryz.prog 175 = true := by kernel_rfl
@[simp] theorem cl_176 : callable Tryz.prog 176 = true := by kernel_rfl
@[simp] theorem fa_295_2 (b o : Nat) : aFieldAddr Tryz.prog 295 (.pointer (some ⟨b, o, none⟩)) 2 = ret (.pointer (some ⟨b, o + 2, none⟩)) := by kernel_rfl
@[simp] theorem cl_177 : callable Tryz.prog 177 = true := by kernel_rfl
@[simp] theorem zr_191 : zeroOf Tryz.prog 191 = some (.agg #[.int .u32 0, .int .u32 0, .int .u32 0, .int .i64 0, .int .i64 0, .int .i64 0]) := by kernel_rfl
@[simp] theorem fa_299_0 (b o : Nat) : aFieldAddr Tryz.prog 299 (.pointer (some ⟨b, o, none⟩)) 0 = ret (.pointer (some ⟨b, o + 0, none⟩)) := by kernel_rfl
@[simp] theorem fa_299_1 (b o : Nat) : aFieldAddr Tryz.prog 299 (.pointer (some ⟨b, o, none⟩)) 1 = ret (.pointer (some ⟨b, o + 1, none⟩)) := by kernel_rfl
@[simp] theorem fa_299_2 (b o : Nat) : aFieldAddr Tryz.prog 299 (.pointer (some ⟨b, o, none⟩)) 2 = ret (.pointer (some ⟨b, o + 2, none⟩)) := by kernel_rfl
@[simp] theorem fa_299_4 (b o : Nat) : aFieldAddr Tryz.prog 299 (.pointer (some ⟨b, o, none⟩)) 4 = ret (.pointer (some ⟨b, o + 4, none⟩)) := by kernel_rfl
@[simp] theorem ag_296 : aggB Tryz.prog 296 = some false := by kernel_rfl
@[simp] theorem sz_296 : szOf Tryz.prog 296 = some 1 := by kernel_rfl
@[simp] theorem fa_299_5 (b o : Nat) : aFieldAddr Tryz.prog 299 (.pointer (some ⟨b, o, none⟩)) 5 = ret (.pointer (some ⟨b, o + 5, none⟩)) := by kernel_rfl
@[simp] theorem fa_299_6 (b o : Nat) : aFieldAddr Tryz.prog 299 (.pointer (some ⟨b, o, none⟩)) 6 = ret (.pointer (some ⟨b, o + 6, none⟩)) := by kernel_rfl
@[simp] theorem ag_297 : aggB Tryz.prog 297 = some false := by kernel_rfl
@[simp] theorem sz_297 : szOf Tryz.prog 297 = some 1 := by kernel_rfl
@[simp] theorem ln_297 (a : Option Addr) (n c : Nat) : aLen Tryz.prog 297 (.slice a n c) = ret (.int .i64 n) := by kernel_rfl
@[simp] theorem bu_191 : stat Tryz.prog (bInfo 191) = some (#[(0, 1), (1, 1), (2, 1), (3, 1), (4, 1), (5, 1)], none, [.int .u32 0, .int .u32 0, .int .u32 0, .int .i64 0, .int .i64 0, .int .i64 0].toArray) := by kernel_rfl
@[simp] theorem sz_191 : szOf Tryz.prog 191 = some 6 := by kernel_rfl
@[simp] theorem cl_178 : callable Tryz.prog 178 = true := by kernel_rfl
@[simp] theorem fa_153_1 (b o : Nat) : aFieldAddr Tryz.prog 153 (.pointer (some ⟨b, o, none⟩)) 1 = ret (.pointer (some ⟨b, o + 1, none⟩)) := by kernel_rfl
@[simp] theorem ia_140 (b o n c : Nat) (i : Int) (h : 0 ≤ i ∧ i < n) : aIndexAddr Tryz.prog 140 (.slice (some ⟨b, o, none⟩) n c) (.int .i64 i) = ret (.pointer (some ⟨b, o + i.toNat * 1, none⟩)) := (show _ = ite (0 ≤ i ∧ i < (n : Int)) (ret _) fail by kernel_rfl).trans (if_pos h)
@[simp] theorem cl_179 : callable Tryz.prog 179 = true := by kernel_rfl
@[simp] theorem sz_291 : szOf Tryz.prog 291 = some 2 := by kernel_rfl
@[simp] theorem fa_291_0 (b o : Nat) : aFieldAddr Tryz.prog 291 (.pointer (some ⟨b, o, none⟩)) 0 = ret (.pointer (some ⟨b, o + 0, none⟩)) := by kernel_rfl
@[simp] theorem fa_291_1 (b o : Nat) : aFieldAddr Tryz.prog 291 (.pointer (some ⟨b, o, none⟩)) 1 = ret (.pointer (some ⟨b, o + 1, none⟩)) := by kernel_rfl
@[simp] theorem cl_180 : callable Tryz.prog 180 = true := by kernel_rfl
@[simp] theorem cl_181 : callable Tryz.prog 181 = true := by kernel_rfl
@[simp] theorem bu_203 : stat Tryz.prog (bInfo 203) = some (#[(0, 5), (5, 9), (14, 6), (20, 1), (21, 1), (22, 1), (23, 1), (24, 1), (25, 1), (26, 5)], none, [.int .i64 0, .int .i64 0, .int .i64 0, .int .i64 0, .int .u32 0, .int .u32 0, .int .u32 0, .int .u32 0, .int .u32 0, .int .u32 0, .int .i64 0, .int .i64 0, .int .i64 0, .slice none 0 0, .int .u32 0, .int .u32 0, .int .u32 0, .int .i64 0, .int .i64 0, .int .i64 0, .int .i64 0, .int .i64 0, .int .i64 0, .bool false, .bool false, .bool false, .int .i64 0, .int .i64 0, .int .i64 0, .int .i64 0, .int .i64 0].toArray) := by kernel_rfl
@[simp] theorem cl_182 : callable Tryz.prog 182 = true := by kernel_rfl
@[simp] theorem sz_201 : szOf Tryz.prog 201 = some 9 := by kernel_rfl
@[simp] theorem cl_183 : callable Tryz.prog 183 = true := by kernel_rfl
@[simp] theorem ag_203 : aggB Tryz.prog 203 = some true := by kernel_rfl
@[simp] theorem cl_184 : callable Tryz.prog 184 = true := by kernel_rfl
@[simp] theorem cl_185 : callable Tryz.prog 185 = true := by kernel_rfl
@[simp] theorem ui_54 : Tryz.prog.underlying 54 = some (.int .u32) := by kernel_rfl
@[simp] theorem cl_186 : callable Tryz.prog 186 = true := by kernel_rfl
@[simp] theorem cl_187 : callable Tryz.prog 187 = true := by kernel_rfl
@[simp] theorem bs_208_0 : bsCells Tryz.prog 208 0 = some (214, 5, []) := by kernel_rfl
@[simp] theorem cl_188 : callable Tryz.prog 188 = true := by kernel_rfl
@[simp] theorem cl_189 : callable Tryz.prog 189 = true := by kernel_rfl
@[simp] theorem fa_122_0 (b o : Nat) : aFieldAddr Tryz.prog 122 (.pointer (some ⟨b, o, none⟩)) 0 = ret (.pointer (some ⟨b, o + 0, none⟩)) := by kernel_rfl
@[simp] theorem ap_70 : apInfo Tryz.prog 70 = some (72, 8, 88) := by kernel_rfl
@[simp] theorem bs_70_1 : bsCells Tryz.prog 70 1 = some (72, 8, [.int .i64 0, .int .i64 0, .int .i64 0, .int .i64 0, .int .i64 0, .slice none 0 0, .bool false, .string ⟨#[]⟩]) := by kernel_rfl
@[simp] theorem el_69 : elemT Tryz.prog 69 = some 9 := by kernel_rfl
@[simp] theorem ap_208 : apInfo Tryz.prog 208 = some (214, 5, 40) := by kernel_rfl
@[simp] theorem ag_112 : aggB Tryz.prog 112 = some true := by kernel_rfl
@[simp] theorem sz_112 : szOf Tryz.prog 112 = some 8 := by kernel_rfl
@[simp] theorem cl_190 : callable Tryz.prog 190 = true := by kernel_rfl
@[simp] theorem zr_112 : zeroOf Tryz.prog 112 = some (.agg #[.int .i64 0, .int .i64 0, .int .i64 0, .int .i64 0, .int .i64 0, .int .i64 0, .int .i64 0, .string ⟨#[]⟩]) := by kernel_rfl
@[simp] theorem zr_310 : zeroOf Tryz.prog 310 = some (.agg #[.slice none 0 0, .slice none 0 0, .bool false, .bool false, .int .i64 0, .int .i64 0]) := by kernel_rfl
@[simp] theorem sz_310 : szOf Tryz.prog 310 = some 6 := by kernel_rfl
@[simp] theorem ag_310 : aggB Tryz.prog 310 = some true := by kernel_rfl
@[simp] theorem cl_191 : callable Tryz.prog 191 = true := by kernel_rfl
@[simp] theorem cl_192 : callable Tryz.prog 192 = true := by kernel_rfl
@[simp] theorem fa_32_2 (b o : Nat) : aFieldAddr Tryz.prog 32 (.pointer (some ⟨b, o, none⟩)) 2 = ret (.pointer (some ⟨b, o + 2, none⟩)) := by kernel_rfl
@[simp] theorem cl_193 : callable Tryz.prog 193 = true := by kernel_rfl
@[simp] theorem ap_125 : apInfo Tryz.prog 125 = some (216, 15, 144) := by kernel_rfl
@[simp] theorem bs_29_0 : bsCells Tryz.prog 29 0 = some (122, 43, []) := by kernel_rfl
@[simp] theorem ap_29 : apInfo Tryz.prog 29 = some (122, 43, 552) := by kernel_rfl
@[simp] theorem bs_30_0 : bsCells Tryz.prog 30 0 = some (70, 1, []) := by kernel_rfl
@[simp] theorem ap_30 : apInfo Tryz.prog 30 = some (70, 1, 24) := by kernel_rfl
@[simp] theorem ln_208 (a : Option Addr) (n c : Nat) : aLen Tryz.prog 208 (.slice a n c) = ret (.int .i64 n) := by kernel_rfl
@[simp] theorem ia_208 (b o n c : Nat) (i : Int) (h : 0 ≤ i ∧ i < n) : aIndexAddr Tryz.prog 208 (.slice (some ⟨b, o, none⟩) n c) (.int .i64 i) = ret (.pointer (some ⟨b, o + i.toNat * 5, none⟩)) := (show _ = ite (0 ≤ i ∧ i < (n : Int)) (ret _) fail by kernel_rfl).trans (if_pos h)
@[simp] theorem ag_214 : aggB Tryz.prog 214 = some true := by kernel_rfl
@[simp] theorem sz_214 : szOf Tryz.prog 214 = some 5 := by kernel_rfl
@[simp] theorem cl_194 : callable Tryz.prog 194 = true := by kernel_rfl
@[simp] theorem zr_114 : zeroOf Tryz.prog 114 = some (.agg #[.slice none 0 0, .slice none 0 0]) := by kernel_rfl
@[simp] theorem bu_310 : stat Tryz.prog (bInfo 310) = some (#[(0, 1), (1, 1), (2, 1), (3, 1), (4, 1), (5, 1)], none, [.slice none 0 0, .slice none 0 0, .bool false, .bool false, .int .i64 0, .int .i64 0].toArray) := by kernel_rfl
@[simp] theorem cl_195 : callable Tryz.prog 195 = true := by kernel_rfl
@[simp] theorem cl_196 : callable Tryz.prog 196 = true := by kernel_rfl
@[simp] theorem cl_197 : callable Tryz.prog 197 = true := by kernel_rfl
@[simp] theorem cl_198 : callable Tryz.prog 198 = true := by kernel_rfl
@[simp] theorem bu_224 : stat Tryz.prog (bInfo 224) = some (#[(0, 1), (1, 1), (2, 1), (3, 1), (4, 1), (5, 1), (6, 1), (7, 1)], none, [.int .i64 0, .bool false, .bool false, .int .i64 0, .bool false, .bool false, .bool false, .bool false].toArray) := by kernel_rfl
@[simp] theorem cl_199 : callable Tryz.prog 199 = true := by kernel_rfl
@[simp] theorem cl_200 : callable Tryz.prog 200 = true := by kernel_rfl
@[simp] theorem fa_142_0 (b o : Nat) : aFieldAddr Tryz.prog 142 (.pointer (some ⟨b, o, none⟩)) 0 = ret (.pointer (some ⟨b, o + 0, none⟩)) := by kernel_rfl
@[simp] theorem ag_139 : aggB Tryz.prog 139 = some false := by kernel_rfl
@[simp] theorem sz_139 : szOf Tryz.prog 139 = some 1 := by kernel_rfl
@[simp] theorem ip_139 : isPtrT Tryz.prog 139 = true := by kernel_rfl
@[simp] theorem cl_202 : callable Tryz.prog 202 = true := by kernel_rfl
@[simp] theorem cl_203 : callable Tryz.prog 203 = true := by kernel_rfl
@[simp] theorem cl_204 : callable Tryz.prog 204 = true := by kernel_rfl
@[simp] theorem cl_205 : callable Tryz.prog 205 = true := by kernel_rfl
@[simp] theorem bs_22_4 : bsCells Tryz.prog 22 4 = some (3, 1, [.int .i64 0, .int .i64 0, .int .i64 0, .int .i64 0]) := by kernel_rfl
@[simp] theorem bs_22_3 : bsCells Tryz.prog 22 3 = some (3, 1, [.int .i64 0, .int .i64 0, .int .i64 0]) := by kernel_rfl
@[simp] theorem bs_22_9 : bsCells Tryz.prog 22 9 = some (3, 1, [.int .i64 0, .int .i64 0, .int .i64 0, .int .i64 0, .int .i64 0, .int .i64 0, .int .i64 0, .int .i64 0, .int .i64 0]) := by kernel_rfl
@[simp] theorem bs_22_10 : bsCells Tryz.prog 22 10 = some (3, 1, [.int .i64 0, .int .i64 0, .int .i64 0, .int .i64 0, .int .i64 0, .int .i64 0, .int .i64 0, .int .i64 0, .int .i64 0, .int .i64 0]) := by kernel_rfl
@[simp] theorem cl_206 : callable Tryz.prog 206 = true := by kernel_rfl
@[simp] theorem ag_275 : aggB Tryz.prog 275 = some true := by kernel_rfl
@[simp] theorem sz_275 : szOf Tryz.prog 275 = some 8 := by kernel_rfl
@[simp] theorem zr_275 : zeroOf Tryz.prog 275 = some (.agg #[.int .i64 0, .int .u32 0, .int .i64 0, .int .i64 0, .int .i64 0, .int .i64 0, .int .u32 0, .string ⟨#[]⟩]) := by kernel_rfl
@[simp] theorem ag_179 : aggB Tryz.prog 179 = some true := by kernel_rfl
@[simp] theorem sz_179 : szOf Tryz.prog 179 = some 10 := by kernel_rfl
@[simp] theorem zr_179 : zeroOf Tryz.prog 179 = some (.agg #[.int .i64 0, .int .i64 0, .int .i64 0, .int .i64 0, .int .i64 0, .int .i64 0, .int .i64 0, .int .i64 0, .int .i64 0, .int .i64 0]) := by kernel_rfl
@[simp] theorem fa_295_0 (b o : Nat) : aFieldAddr Tryz.prog 295 (.pointer (some ⟨b, o, none⟩)) 0 = ret (.pointer (some ⟨b, o + 0, none⟩)) := by kernel_rfl
@[simp] theorem fa_295_1 (b o : Nat) : aFieldAddr Tryz.prog 295 (.pointer (some ⟨b, o, none⟩)) 1 = ret (.pointer (some ⟨b, o + 1, none⟩)) := by kernel_rfl
@[simp] theorem fa_295_3 (b o : Nat) : aFieldAddr Tryz.prog 295 (.pointer (some ⟨b, o, none⟩)) 3 = ret (.pointer (some ⟨b, o + 3, none⟩)) := by kernel_rfl
@[simp] theorem bu_295 : stat Tryz.prog (bInfo 295) = some (#[(0, 1), (1, 1), (2, 1), (3, 1)], none, [.slice none 0 0, .int .i64 0, .int .i64 0, .int .i64 0].toArray) := by kernel_rfl
@[simp] theorem zr_295 : zeroOf Tryz.prog 295 = some (.agg #[.slice none 0 0, .int .i64 0, .int .i64 0, .int .i64 0]) := by kernel_rfl
@[simp] theorem bs_52_0 : bsCells Tryz.prog 52 0 = some (57, 8, []) := by kernel_rfl
@[simp] theorem bs_69_0 : bsCells Tryz.prog 69 0 = some (9, 1, []) := by kernel_rfl
@[simp] theorem ag_334 : aggB Tryz.prog 334 = some true := by kernel_rfl
@[simp] theorem sz_334 : szOf Tryz.prog 334 = some 10 := by kernel_rfl
@[simp] theorem zr_334 : zeroOf Tryz.prog 334 = some (.agg #[.int .u32 0, .int .u32 0, .int .u32 0, .int .u32 0, .int .u32 0, .int .i64 0, .int .i64 0, .pointer none, .map none, .slice none 0 0]) := by kernel_rfl
@[simp] theorem fa_334_7 (b o : Nat) : aFieldAddr Tryz.prog 334 (.pointer (some ⟨b, o, none⟩)) 7 = ret (.pointer (some ⟨b, o + 7, none⟩)) := by kernel_rfl
@[simp] theorem fa_334_8 (b o : Nat) : aFieldAddr Tryz.prog 334 (.pointer (some ⟨b, o, none⟩)) 8 = ret (.pointer (some ⟨b, o + 8, none⟩)) := by kernel_rfl
@[simp] theorem ag_332 : aggB Tryz.prog 332 = some false := by kernel_rfl
@[simp] theorem sz_332 : szOf Tryz.prog 332 = some 1 := by kernel_rfl
@[simp] theorem cl_207 : callable Tryz.prog 207 = true := by kernel_rfl
@[simp] theorem fa_334_9 (b o : Nat) : aFieldAddr Tryz.prog 334 (.pointer (some ⟨b, o, none⟩)) 9 = ret (.pointer (some ⟨b, o + 9, none⟩)) := by kernel_rfl
@[simp] theorem cl_208 : callable Tryz.prog 208 = true := by kernel_rfl
@[simp] theorem ag_299 : aggB Tryz.prog 299 = some true := by kernel_rfl
@[simp] theorem sz_299 : szOf Tryz.prog 299 = some 7 := by kernel_rfl
@[simp] theorem zr_299 : zeroOf Tryz.prog 299 = some (.agg #[.int .u32 0, .int .u32 0, .int .u32 0, .int .i64 0, .map none, .slice none 0 0, .slice none 0 0]) := by kernel_rfl
@[simp] theorem cl_209 : callable Tryz.prog 209 = true := by kernel_rfl
@[simp] theorem cl_210 : callable Tryz.prog 210 = true := by kernel_rfl
@[simp] theorem bu_153 : stat Tryz.prog (bInfo 153) = some (#[(0, 1), (1, 1), (2, 1), (3, 1)], none, [.slice none 0 0, .int .i64 0, .int .i64 0, .int .i64 0].toArray) := by kernel_rfl
@[simp] theorem zr_153 : zeroOf Tryz.prog 153 = some (.agg #[.slice none 0 0, .int .i64 0, .int .i64 0, .int .i64 0]) := by kernel_rfl
@[simp] theorem cl_211 : callable Tryz.prog 211 = true := by kernel_rfl
@[simp] theorem bu_346 : stat Tryz.prog (bInfo 346) = some (#[], some 1, [.int .i64 0, .int .i64 0].toArray) := by kernel_rfl
@[simp] theorem zr_346 : zeroOf Tryz.prog 346 = some (.agg #[.int .i64 0, .int .i64 0]) := by kernel_rfl
@[simp] theorem mt_343 : mapT Tryz.prog 343 = some (346, 3) := by kernel_rfl
@[simp] theorem zr_3 : zeroOf Tryz.prog 3 = some (.int .i64 0) := by kernel_rfl
@[simp] theorem zr_199 : zeroOf Tryz.prog 199 = some (.agg #[.int .i64 0, .int .i64 0, .int .i64 0, .int .i64 0, .int .u32 0]) := by kernel_rfl
@[simp] theorem ag_199 : aggB Tryz.prog 199 = some true := by kernel_rfl
@[simp] theorem sz_199 : szOf Tryz.prog 199 = some 5 := by kernel_rfl
@[simp] theorem cl_212 : callable Tryz.prog 212 = true := by kernel_rfl
@[simp] theorem cl_213 : callable Tryz.prog 213 = true := by kernel_rfl
@[simp] theorem cl_214 : callable Tryz.prog 214 = true := by kernel_rfl
@[simp] theorem cl_215 : callable Tryz.prog 215 = true := by kernel_rfl
@[simp] theorem bs_103_1 : bsCells Tryz.prog 103 1 = some (59, 5, [.int .i64 0, .string ⟨#[]⟩, .bool false, .int .u8 0, .int .i64 0]) := by kernel_rfl
@[simp] theorem cl_216 : callable Tryz.prog 216 = true := by kernel_rfl
@[simp] theorem ag_182 : aggB Tryz.prog 182 = some true := by kernel_rfl
@[simp] theorem bs_22_5 : bsCells Tryz.prog 22 5 = some (3, 1, [.int .i64 0, .int .i64 0, .int .i64 0, .int .i64 0, .int .i64 0]) := by kernel_rfl
@[simp] theorem cl_217 : callable Tryz.prog 217 = true := by kernel_rfl
@[simp] theorem cl_218 : callable Tryz.prog 218 = true := by kernel_rfl
@[simp] theorem zr_249 : zeroOf Tryz.prog 249 = some (.agg #[.int .u32 0, .int .u32 0, .int .u32 0, .int .u32 0, .int .u32 0, .int .u32 0, .int .u32 0, .int .u32 0, .int .u32 0, .int .u32 0, .int .u32 0, .int .u32 0, .int .u32 0, .int .u32 0, .int .u32 0, .int .u32 0, .int .u32 0, .int .u32 0, .int .u32 0, .int .u32 0, .int .u32 0, .int .u32 0, .int .u32 0, .int .u32 0, .int .u32 0, .int .u32 0, .int .u32 0, .int .u32 0, .int .u32 0, .int .u32 0, .int .u32 0, .int .u32 0, .int .u32 0, .int .u32 0, .int .u32 0, .int .u32 0, .int .u32 0, .int .u32 0, .int .u32 0, .int .u32 0, .int .u32 0, .int .u32 0, .int .u32 0, .int .u32 0, .int .u32 0, .int .u32 0, .int .u32 0, .int .u32 0, .int .u32 0, .int .u32 0, .int .u32 0, .int .u32 0, .int .u32 0, .int .u32 0, .int .u32 0, .int .u32 0, .int .u32 0, .int .u32 0, .int .u32 0, .int .u32 0, .int .u32 0, .int .u32 0, .int .u32 0, .int .u32 0, .int .u32 0, .int .u32 0, .int .u32 0, .int .u32 0, .int .u32 0, .int .u32 0, .int .u32 0, .int .u32 0, .int .u32 0, .int .u32 0, .int .u32 0, .int .u32 0, .int .u32 0, .int .u32 0, .int .u32 0, .int .u32 0, .int .u32 0, .int .u32 0, .int .u32 0, .int .u32 0, .int .u32 0, .int .u32 0, .int .u32 0, .int .u32 0, .int .u32 0, .int .u32 0, .int .u32 0, .int .u32 0, .int .u32 0, .int .u32 0, .int .u32 0, .int .u32 0, .int .u32 0, .int .u32 0, .int .u32 0, .int .u32 0, .int .u32 0, .int .u32 0, .int .u32 0, .int .u32 0, .int .u32 0, .int .u32 0, .int .u32 0, .int .u32 0, .int .u32 0, .int .u32 0, .int .u32 0, .int .u32 0, .int .u32 0, .int .u32 0, .int .u32 0, .int .u32 0, .int .u32 0, .int .u32 0, .int .u32 0, .int .u32 0, .int .u32 0, .int .u32 0, .int .u32 0, .int .u32 0, .int .u32 0, .int .u32 0, .int .u32 0, .int .u32 0, .int .u32 0, .int .u32 0, .int .u32 0, .int .u32 0, .int .u32 0, .int .u32 0, .int .u32 0, .int .u32 0, .int .u32 0, .int .u32 0, .int .u32 0, .int .u32 0, .int .u32 0, .int .u32 0, .int .u32 0, .int .u32 0, .int .u32 0, .int .u32 0, .int .u32 0, .int .u32 0, .int .u32 0, .int .u32 0, .int .u32 0, .int .u32 0, .int .u32 0, .int .u32 0, .int .u32 0, .int .u32 0, .int .u32 0, .int .u32 0, .int .u32 0, .int .u32 0, .int .u32 0, .int .u32 0, .int .u32 0, .int .u32 0, .int .u32 0, .int .u32 0, .int .u32 0, .int .u32 0, .int .u32 0, .int .u32 0, .int .u32 0, .int .u32 0, .int .u32 0, .int .u32 0, .int .u32 0, .int .u32 0, .int .u32 0, .int .u32 0, .int .u32 0, .int .u32 0, .int .u32 0, .int .u32 0, .int .u32 0, .int .u32 0, .int .u32 0, .int .u32 0, .int .u32 0, .int .u32 0, .int .u32 0, .int .u32 0, .int .u32 0, .int .u32 0, .int .u32 0, .int .u32 0, .int .u32 0, .int .u32 0, .int .u32 0, .int .u32 0, .int .u32 0, .int .u32 0, .int .u32 0, .int .u32 0, .int .u32 0, .int .u32 0, .int .u32 0, .int .u32 0, .int .u32 0, .int .u32 0, .int .u32 0, .int .u32 0, .int .u32 0, .int .u32 0, .int .u32 0, .int .u32 0, .int .u32 0, .int .u32 0, .int .u32 0, .int .u32 0, .int .u32 0, .int .u32 0, .int .u32 0, .int .u32 0, .int .u32 0, .int .u32 0, .int .u32 0, .int .u32 0, .int .u32 0, .int .u32 0, .int .u32 0, .int .u32 0, .int .u32 0, .int .u32 0, .int .u32 0, .int .u32 0, .int .u32 0, .int .u32 0, .int .u32 0, .int .u32 0, .int .u32 0, .int .u32 0, .int .u32 0, .int .u32 0, .int .u32 0, .int .u32 0, .int .u32 0, .int .u32 0, .int .u32 0, .int .u32 0, .int .u32 0, .int .u32 0, .int .u32 0, .int .u32 0, .int .u32 0, .int .u32 0, .int .u32 0, .int .u32 0]) := by kernel_rfl
@[simp] theorem ia_249 (b o : Nat) (i : Int) (h : 0 ≤ i ∧ i < 256) : aIndexAddr Tryz.prog 249 (.pointer (some ⟨b, o, none⟩)) (.int .i64 i) = ret (.pointer (some ⟨b, o + i.toNat * 1, none⟩)) := (show _ = ite (0 ≤ i ∧ i < 256) (ret _) fail by kernel_rfl).trans (if_pos h)
@[simp] theorem ag_249 : aggB Tryz.prog 249 = some true := by kernel_rfl
@[simp] theorem sz_249 : szOf Tryz.prog 249 = some 256 := by kernel_rfl
@[simp] theorem bu_179 : stat Tryz.prog (bInfo 179) = some (#[(0, 5), (5, 5)], none, [.int .i64 0, .int .i64 0, .int .i64 0, .int .i64 0, .int .i64 0, .int .i64 0, .int .i64 0, .int .i64 0, .int .i64 0, .int .i64 0].toArray) := by kernel_rfl
@[simp] theorem fa_258_0 (b o : Nat) : aFieldAddr Tryz.prog 258 (.pointer (some ⟨b, o, none⟩)) 0 = ret (.pointer (some ⟨b, o + 0, none⟩)) := by kernel_rfl
@[simp] theorem fa_258_1 (b o : Nat) : aFieldAddr Tryz.prog 258 (.pointer (some ⟨b, o, none⟩)) 1 = ret (.pointer (some ⟨b, o + 1, none⟩)) := by kernel_rfl
@[simp] theorem ag_258 : aggB Tryz.prog 258 = some true := by kernel_rfl
@[simp] theorem sz_258 : szOf Tryz.prog 258 = some 2 := by kernel_rfl
@[simp] theorem bu_199 : stat Tryz.prog (bInfo 199) = some (#[(0, 1), (1, 1), (2, 1), (3, 1), (4, 1)], none, [.int .i64 0, .int .i64 0, .int .i64 0, .int .i64 0, .int .u32 0].toArray) := by kernel_rfl
@[simp] theorem bu_275 : stat Tryz.prog (bInfo 275) = some (#[(0, 2), (2, 5), (7, 1)], none, [.int .i64 0, .int .u32 0, .int .i64 0, .int .i64 0, .int .i64 0, .int .i64 0, .int .u32 0, .string ⟨#[]⟩].toArray) := by kernel_rfl
@[simp] theorem zr_88 : zeroOf Tryz.prog 88 = some (.agg #[.int .i64 0, .int .i64 0, .int .i64 0, .int .i64 0, .int .i64 0]) := by kernel_rfl
@[simp] theorem bu_88 : stat Tryz.prog (bInfo 88) = some (#[(0, 1), (1, 1), (2, 1), (3, 1), (4, 1)], none, [.int .i64 0, .int .i64 0, .int .i64 0, .int .i64 0, .int .i64 0].toArray) := by kernel_rfl
@[simp] theorem bu_112 : stat Tryz.prog (bInfo 112) = some (#[(0, 1), (1, 1), (2, 1), (3, 1), (4, 1), (5, 1), (6, 1), (7, 1)], none, [.int .i64 0, .int .i64 0, .int .i64 0, .int .i64 0, .int .i64 0, .int .i64 0, .int .i64 0, .string ⟨#[]⟩].toArray) := by kernel_rfl
@[simp] theorem bu_114 : stat Tryz.prog (bInfo 114) = some (#[(0, 1), (1, 1)], none, [.slice none 0 0, .slice none 0 0].toArray) := by kernel_rfl
@[simp] theorem cl_219 : callable Tryz.prog 219 = true := by kernel_rfl
@[simp] theorem fa_179_1 (b o : Nat) : aFieldAddr Tryz.prog 179 (.pointer (some ⟨b, o, none⟩)) 1 = ret (.pointer (some ⟨b, o + 5, none⟩)) := by kernel_rfl
@[simp] theorem fa_88_0 (b o : Nat) : aFieldAddr Tryz.prog 88 (.pointer (some ⟨b, o, none⟩)) 0 = ret (.pointer (some ⟨b, o + 0, none⟩)) := by kernel_rfl
@[simp] theorem cl_220 : callable Tryz.prog 220 = true := by kernel_rfl
@[simp] theorem cl_221 : callable Tryz.prog 221 = true := by kernel_rfl
@[simp] theorem cl_222 : callable Tryz.prog 222 = true := by kernel_rfl
@[simp] theorem fa_334_1 (b o : Nat) : aFieldAddr Tryz.prog 334 (.pointer (some ⟨b, o, none⟩)) 1 = ret (.pointer (some ⟨b, o + 1, none⟩)) := by kernel_rfl
@[simp] theorem fa_334_0 (b o : Nat) : aFieldAddr Tryz.prog 334 (.pointer (some ⟨b, o, none⟩)) 0 = ret (.pointer (some ⟨b, o + 0, none⟩)) := by kernel_rfl
@[simp] theorem mt_332 : mapT Tryz.prog 332 = some (54, 337) := by kernel_rfl
@[simp] theorem zr_337 : zeroOf Tryz.prog 337 = some (.agg #[.string ⟨#[]⟩, .int .u32 0]) := by kernel_rfl
@[simp] theorem ff_337_0 (cs : Array Value) : aField Tryz.prog 337 (.agg cs) 0 = ofOpt cs[0]? := by kernel_rfl
@[simp] theorem cl_223 : callable Tryz.prog 223 = true := by kernel_rfl
@[simp] theorem bu_334 : stat Tryz.prog (bInfo 334) = some (#[(0, 1), (1, 1), (2, 1), (3, 1), (4, 1), (5, 1), (6, 1), (7, 1), (8, 1), (9, 1)], none, [.int .u32 0, .int .u32 0, .int .u32 0, .int .u32 0, .int .u32 0, .int .i64 0, .int .i64 0, .pointer none, .map none, .slice none 0 0].toArray) := by kernel_rfl
@[simp] theorem mt_296 : mapT Tryz.prog 296 = some (54, 9) := by kernel_rfl
@[simp] theorem bu_299 : stat Tryz.prog (bInfo 299) = some (#[(0, 1), (1, 1), (2, 1), (3, 1), (4, 1), (5, 1), (6, 1)], none, [.int .u32 0, .int .u32 0, .int .u32 0, .int .i64 0, .map none, .slice none 0 0, .slice none 0 0].toArray) := by kernel_rfl
@[simp] theorem cl_224 : callable Tryz.prog 224 = true := by kernel_rfl
@[simp] theorem fa_334_2 (b o : Nat) : aFieldAddr Tryz.prog 334 (.pointer (some ⟨b, o, none⟩)) 2 = ret (.pointer (some ⟨b, o + 2, none⟩)) := by kernel_rfl
@[simp] theorem fa_88_1 (b o : Nat) : aFieldAddr Tryz.prog 88 (.pointer (some ⟨b, o, none⟩)) 1 = ret (.pointer (some ⟨b, o + 1, none⟩)) := by kernel_rfl
@[simp] theorem cl_225 : callable Tryz.prog 225 = true := by kernel_rfl
@[simp] theorem bu_273 : stat Tryz.prog (bInfo 273) = some (#[(0, 1), (1, 6)], none, [.pointer none, .slice none 0 0, .slice none 0 0, .bool false, .bool false, .int .u32 0, .int .i64 0].toArray) := by kernel_rfl
@[simp] theorem zr_273 : zeroOf Tryz.prog 273 = some (.agg #[.pointer none, .slice none 0 0, .slice none 0 0, .bool false, .bool false, .int .u32 0, .int .i64 0]) := by kernel_rfl
@[simp] theorem fa_273_1 (b o : Nat) : aFieldAddr Tryz.prog 273 (.pointer (some ⟨b, o, none⟩)) 1 = ret (.pointer (some ⟨b, o + 1, none⟩)) := by kernel_rfl
@[simp] theorem fa_273_0 (b o : Nat) : aFieldAddr Tryz.prog 273 (.pointer (some ⟨b, o, none⟩)) 0 = ret (.pointer (some ⟨b, o + 0, none⟩)) := by kernel_rfl
@[simp] theorem fa_275_0 (b o : Nat) : aFieldAddr Tryz.prog 275 (.pointer (some ⟨b, o, none⟩)) 0 = ret (.pointer (some ⟨b, o + 0, none⟩)) := by kernel_rfl
@[simp] theorem cl_159 : callable Tryz.prog 159 = true := by kernel_rfl
@[simp] theorem cl_160 : callable Tryz.prog 160 = true := by kernel_rfl
@[simp] theorem cl_161 : callable Tryz.prog 161 = true := by kernel_rfl
@[simp] theorem cl_162 : callable Tryz.prog 162 = true := by kernel_rfl
@[simp] theorem cl_163 : callable Tryz.prog 163 = true := by kernel_rfl
@[simp] theorem fa_275_2 (b o : Nat) : aFieldAddr Tryz.prog 275 (.pointer (some ⟨b, o, none⟩)) 2 = ret (.pointer (some ⟨b, o + 7, none⟩)) := by kernel_rfl
@[simp] theorem cl_226 : callable Tryz.prog 226 = true := by kernel_rfl
@[simp] theorem cl_165 : callable Tryz.prog 165 = true := by kernel_rfl
@[simp] theorem cl_227 : callable Tryz.prog 227 = true := by kernel_rfl
@[simp] theorem cl_228 : callable Tryz.prog 228 = true := by kernel_rfl
@[simp] theorem cl_229 : callable Tryz.prog 229 = true := by kernel_rfl
@[simp] theorem cl_231 : callable Tryz.prog 231 = true := by kernel_rfl
@[simp] theorem cl_230 : callable Tryz.prog 230 = true := by kernel_rfl
@[simp] theorem ia_297 (b o n c : Nat) (i : Int) (h : 0 ≤ i ∧ i < n) : aIndexAddr Tryz.prog 297 (.slice (some ⟨b, o, none⟩) n c) (.int .i64 i) = ret (.pointer (some ⟨b, o + i.toNat * 2, none⟩)) := (show _ = ite (0 ≤ i ∧ i < (n : Int)) (ret _) fail by kernel_rfl).trans (if_pos h)
@[simp] theorem ag_342 : aggB Tryz.prog 342 = some true := by kernel_rfl
@[simp] theorem sz_342 : szOf Tryz.prog 342 = some 2 := by kernel_rfl
@[simp] theorem cl_232 : callable Tryz.prog 232 = true := by kernel_rfl
@[simp] theorem el_297 : elemT Tryz.prog 297 = some 342 := by kernel_rfl
@[simp] theorem ln_358 (a : Option Addr) (n c : Nat) : aLen Tryz.prog 358 (.slice a n c) = ret (.int .i64 n) := by kernel_rfl
@[simp] theorem el_358 : elemT Tryz.prog 358 = some 410 := by kernel_rfl
@[simp] theorem sz_410 : szOf Tryz.prog 410 = some 2 := by kernel_rfl
@[simp] theorem fa_334_5 (b o : Nat) : aFieldAddr Tryz.prog 334 (.pointer (some ⟨b, o, none⟩)) 5 = ret (.pointer (some ⟨b, o + 5, none⟩)) := by kernel_rfl
@[simp] theorem fa_334_6 (b o : Nat) : aFieldAddr Tryz.prog 334 (.pointer (some ⟨b, o, none⟩)) 6 = ret (.pointer (some ⟨b, o + 6, none⟩)) := by kernel_rfl
@[simp] theorem fa_334_3 (b o : Nat) : aFieldAddr Tryz.prog 334 (.pointer (some ⟨b, o, none⟩)) 3 = ret (.pointer (some ⟨b, o + 3, none⟩)) := by kernel_rfl
@[simp] theorem fa_88_2 (b o : Nat) : aFieldAddr Tryz.prog 88 (.pointer (some ⟨b, o, none⟩)) 2 = ret (.pointer (some ⟨b, o + 2, none⟩)) := by kernel_rfl
@[simp] theorem el_55 : elemT Tryz.prog 55 = some 54 := by kernel_rfl
@[simp] theorem cl_233 : callable Tryz.prog 233 = true := by kernel_rfl
@[simp] theorem cl_234 : callable Tryz.prog 234 = true := by kernel_rfl
@[simp] theorem cl_235 : callable Tryz.prog 235 = true := by kernel_rfl
@[simp] theorem cl_236 : callable Tryz.prog 236 = true := by kernel_rfl
@[simp] theorem cl_237 : callable Tryz.prog 237 = true := by kernel_rfl
@[simp] theorem cl_238 : callable Tryz.prog 238 = true := by kernel_rfl
@[simp] theorem bu_367 : stat Tryz.prog (bInfo 367) = some (#[(0, 1)], none, [.string ⟨#[]⟩].toArray) := by kernel_rfl
@[simp] theorem zr_367 : zeroOf Tryz.prog 367 = some (.agg #[.string ⟨#[]⟩]) := by kernel_rfl
@[simp] theorem cl_239 : callable Tryz.prog 239 = true := by kernel_rfl
@[simp] theorem ag_224 : aggB Tryz.prog 224 = some true := by kernel_rfl
@[simp] theorem cl_240 : callable Tryz.prog 240 = true := by kernel_rfl
@[simp] theorem fa_367_0 (b o : Nat) : aFieldAddr Tryz.prog 367 (.pointer (some ⟨b, o, none⟩)) 0 = ret (.pointer (some ⟨b, o + 0, none⟩)) := by kernel_rfl
@[simp] theorem bs_55_1 : bsCells Tryz.prog 55 1 = some (54, 1, [.int .u32 0]) := by kernel_rfl
@[simp] theorem ap_55 : apInfo Tryz.prog 55 = some (54, 1, 4) := by kernel_rfl
@[simp] theorem cl_241 : callable Tryz.prog 241 = true := by kernel_rfl
@[simp] theorem cl_242 : callable Tryz.prog 242 = true := by kernel_rfl
@[simp] theorem cl_243 : callable Tryz.prog 243 = true := by kernel_rfl
@[simp] theorem cl_244 : callable Tryz.prog 244 = true := by kernel_rfl
@[simp] theorem zr_201 : zeroOf Tryz.prog 201 = some (.agg #[.int .u32 0, .int .u32 0, .int .u32 0, .int .u32 0, .int .u32 0, .int .i64 0, .int .i64 0, .int .i64 0, .slice none 0 0]) := by kernel_rfl
@[simp] theorem fa_334_4 (b o : Nat) : aFieldAddr Tryz.prog 334 (.pointer (some ⟨b, o, none⟩)) 4 = ret (.pointer (some ⟨b, o + 4, none⟩)) := by kernel_rfl
@[simp] theorem bu_201 : stat Tryz.prog (bInfo 201) = some (#[(0, 1), (1, 1), (2, 1), (3, 1), (4, 1), (5, 1), (6, 1), (7, 1), (8, 1)], none, [.int .u32 0, .int .u32 0, .int .u32 0, .int .u32 0, .int .u32 0, .int .i64 0, .int .i64 0, .int .i64 0, .slice none 0 0].toArray) := by kernel_rfl
@[simp] theorem cl_245 : callable Tryz.prog 245 = true := by kernel_rfl
@[simp] theorem bu_345 : stat Tryz.prog (bInfo 345) = some (#[], some 1, [.int .i64 0, .int .i64 0].toArray) := by kernel_rfl
@[simp] theorem zr_345 : zeroOf Tryz.prog 345 = some (.agg #[.int .i64 0, .int .i64 0]) := by kernel_rfl
@[simp] theorem ix_345 (cs : Array Value) (i : Int) (h : 0 ≤ i ∧ i < 2) : aIndex Tryz.prog 345 (.agg cs) (.int .i64 i) = ofOpt cs[i.toNat * 1]? := (show _ = ite (0 ≤ i ∧ i < 2) (ofOpt _) fail by kernel_rfl).trans (if_pos h)
@[simp] theorem cl_246 : callable Tryz.prog 246 = true := by kernel_rfl
@[simp] theorem fa_116_7 (b o : Nat) : aFieldAddr Tryz.prog 116 (.pointer (some ⟨b, o, none⟩)) 7 = ret (.pointer (some ⟨b, o + 7, none⟩)) := by kernel_rfl
@[simp] theorem cl_248 : callable Tryz.prog 248 = true := by kernel_rfl
@[simp] theorem cl_247 : callable Tryz.prog 247 = true := by kernel_rfl
@[simp] theorem cl_249 : callable Tryz.prog 249 = true := by kernel_rfl
@[simp] theorem cl_250 : callable Tryz.prog 250 = true := by kernel_rfl
@[simp] theorem cl_251 : callable Tryz.prog 251 = true := by kernel_rfl
@[simp] theorem cl_252 : callable Tryz.prog 252 = true := by kernel_rfl
@[simp] theorem fa_112_7 (b o : Nat) : aFieldAddr Tryz.prog 112 (.pointer (some ⟨b, o, none⟩)) 7 = ret (.pointer (some ⟨b, o + 7, none⟩)) := by kernel_rfl
@[simp] theorem fa_310_0 (b o : Nat) : aFieldAddr Tryz.prog 310 (.pointer (some ⟨b, o, none⟩)) 0 = ret (.pointer (some ⟨b, o + 0, none⟩)) := by kernel_rfl
@[simp] theorem ag_307 : aggB Tryz.prog 307 = some false := by kernel_rfl
@[simp] theorem sz_307 : szOf Tryz.prog 307 = some 1 := by kernel_rfl
@[simp] theorem ln_307 (a : Option Addr) (n c : Nat) : aLen Tryz.prog 307 (.slice a n c) = ret (.int .i64 n) := by kernel_rfl
@[simp] theorem ia_307 (b o n c : Nat) (i : Int) (h : 0 ≤ i ∧ i < n) : aIndexAddr Tryz.prog 307 (.slice (some ⟨b, o, none⟩) n c) (.int .i64 i) = ret (.pointer (some ⟨b, o + i.toNat * 4, none⟩)) := (show _ = ite (0 ≤ i ∧ i < (n : Int)) (ret _) fail by kernel_rfl).trans (if_pos h)
@[simp] theorem ag_377 : aggB Tryz.prog 377 = some true := by kernel_rfl
@[simp] theorem sz_377 : szOf Tryz.prog 377 = some 4 := by kernel_rfl
@[simp] theorem zr_377 : zeroOf Tryz.prog 377 = some (.agg #[.int .i64 0, .string ⟨#[]⟩, .bool false, .int .u8 0]) := by kernel_rfl
@[simp] theorem fa_377_0 (b o : Nat) : aFieldAddr Tryz.prog 377 (.pointer (some ⟨b, o, none⟩)) 0 = ret (.pointer (some ⟨b, o + 0, none⟩)) := by kernel_rfl
@[simp] theorem fa_377_1 (b o : Nat) : aFieldAddr Tryz.prog 377 (.pointer (some ⟨b, o, none⟩)) 1 = ret (.pointer (some ⟨b, o + 1, none⟩)) := by kernel_rfl
@[simp] theorem fa_377_2 (b o : Nat) : aFieldAddr Tryz.prog 377 (.pointer (some ⟨b, o, none⟩)) 2 = ret (.pointer (some ⟨b, o + 2, none⟩)) := by kernel_rfl
@[simp] theorem fa_377_3 (b o : Nat) : aFieldAddr Tryz.prog 377 (.pointer (some ⟨b, o, none⟩)) 3 = ret (.pointer (some ⟨b, o + 3, none⟩)) := by kernel_rfl
@[simp] theorem fa_310_1 (b o : Nat) : aFieldAddr Tryz.prog 310 (.pointer (some ⟨b, o, none⟩)) 1 = ret (.pointer (some ⟨b, o + 1, none⟩)) := by kernel_rfl
@[simp] theorem ag_308 : aggB Tryz.prog 308 = some false := by kernel_rfl
@[simp] theorem sz_308 : szOf Tryz.prog 308 = some 1 := by kernel_rfl
@[simp] theorem ln_308 (a : Option Addr) (n c : Nat) : aLen Tryz.prog 308 (.slice a n c) = ret (.int .i64 n) := by kernel_rfl
@[simp] theorem ia_308 (b o n c : Nat) (i : Int) (h : 0 ≤ i ∧ i < n) : aIndexAddr Tryz.prog 308 (.slice (some ⟨b, o, none⟩) n c) (.int .i64 i) = ret (.pointer (some ⟨b, o + i.toNat * 5, none⟩)) := (show _ = ite (0 ≤ i ∧ i < (n : Int)) (ret _) fail by kernel_rfl).trans (if_pos h)
@[simp] theorem ag_379 : aggB Tryz.prog 379 = some true := by kernel_rfl
@[simp] theorem sz_379 : szOf Tryz.prog 379 = some 5 := by kernel_rfl
@[simp] theorem zr_379 : zeroOf Tryz.prog 379 = some (.agg #[.int .i64 0, .int .i64 0, .int .i64 0, .bool false, .string ⟨#[]⟩]) := by kernel_rfl
@[simp] theorem fa_379_0 (b o : Nat) : aFieldAddr Tryz.prog 379 (.pointer (some ⟨b, o, none⟩)) 0 = ret (.pointer (some ⟨b, o + 0, none⟩)) := by kernel_rfl
@[simp] theorem fa_379_1 (b o : Nat) : aFieldAddr Tryz.prog 379 (.pointer (some ⟨b, o, none⟩)) 1 = ret (.pointer (some ⟨b, o + 1, none⟩)) := by kernel_rfl
@[simp] theorem fa_379_2 (b o : Nat) : aFieldAddr Tryz.prog 379 (.pointer (some ⟨b, o, none⟩)) 2 = ret (.pointer (some ⟨b, o + 2, none⟩)) := by kernel_rfl
@[simp] theorem fa_379_3 (b o : Nat) : aFieldAddr Tryz.prog 379 (.pointer (some ⟨b, o, none⟩)) 3 = ret (.pointer (some ⟨b, o + 3, none⟩)) := by kernel_rfl
@[simp] theorem fa_379_4 (b o : Nat) : aFieldAddr Tryz.prog 379 (.pointer (some ⟨b, o, none⟩)) 4 = ret (.pointer (some ⟨b, o + 4, none⟩)) := by kernel_rfl
@[simp] theorem fa_310_5 (b o : Nat) : aFieldAddr Tryz.prog 310 (.pointer (some ⟨b, o, none⟩)) 5 = ret (.pointer (some ⟨b, o + 5, none⟩)) := by kernel_rfl
@[simp] theorem cl_253 : callable Tryz.prog 253 = true := by kernel_rfl
@[simp] theorem cl_254 : callable Tryz.prog 254 = true := by kernel_rfl
@[simp] theorem fa_310_3 (b o : Nat) : aFieldAddr Tryz.prog 310 (.pointer (some ⟨b, o, none⟩)) 3 = ret (.pointer (some ⟨b, o + 3, none⟩)) := by kernel_rfl
@[simp] theorem cl_255 : callable Tryz.prog 255 = true := by kernel_rfl
@[simp] theorem fa_310_2 (b o : Nat) : aFieldAddr Tryz.prog 310 (.pointer (some ⟨b, o, none⟩)) 2 = ret (.pointer (some ⟨b, o + 2, none⟩)) := by kernel_rfl
@[simp] theorem cl_257 : callable Tryz.prog 257 = true := by kernel_rfl
@[simp] theorem fa_310_4 (b o : Nat) : aFieldAddr Tryz.prog 310 (.pointer (some ⟨b, o, none⟩)) 4 = ret (.pointer (some ⟨b, o + 4, none⟩)) := by kernel_rfl
@[simp] theorem cl_256 : callable Tryz.prog 256 = true := by kernel_rfl
@[simp] theorem cl_258 : callable Tryz.prog 258 = true := by kernel_rfl
@[simp] theorem cl_259 : callable Tryz.prog 259 = true := by kernel_rfl
@[simp] theorem cl_260 : callable Tryz.prog 260 = true := by kernel_rfl
@[simp] theorem cl_261 : callable Tryz.prog 261 = true := by kernel_rfl
@[simp] theorem fa_122_9 (b o : Nat) : aFieldAddr Tryz.prog 122 (.pointer (some ⟨b, o, none⟩)) 9 = ret (.pointer (some ⟨b, o + 40, none⟩)) := by kernel_rfl
@[simp] theorem cl_262 : callable Tryz.prog 262 = true := by kernel_rfl
@[simp] theorem cl_263 : callable Tryz.prog 263 = true := by kernel_rfl
@[simp] theorem fa_116_5 (b o : Nat) : aFieldAddr Tryz.prog 116 (.pointer (some ⟨b, o, none⟩)) 5 = ret (.pointer (some ⟨b, o + 5, none⟩)) := by kernel_rfl
@[simp] theorem fa_116_6 (b o : Nat) : aFieldAddr Tryz.prog 116 (.pointer (some ⟨b, o, none⟩)) 6 = ret (.pointer (some ⟨b, o + 6, none⟩)) := by kernel_rfl
@[simp] theorem cl_264 : callable Tryz.prog 264 = true := by kernel_rfl
@[simp] theorem cl_265 : callable Tryz.prog 265 = true := by kernel_rfl
@[simp] theorem bs_22_0 : bsCells Tryz.prog 22 0 = some (3, 1, []) := by kernel_rfl
@[simp] theorem fa_114_0 (b o : Nat) : aFieldAddr Tryz.prog 114 (.pointer (some ⟨b, o, none⟩)) 0 = ret (.pointer (some ⟨b, o + 0, none⟩)) := by kernel_rfl
@[simp] theorem fa_112_0 (b o : Nat) : aFieldAddr Tryz.prog 112 (.pointer (some ⟨b, o, none⟩)) 0 = ret (.pointer (some ⟨b, o + 0, none⟩)) := by kernel_rfl
@[simp] theorem cl_266 : callable Tryz.prog 266 = true := by kernel_rfl
@[simp] theorem cl_267 : callable Tryz.prog 267 = true := by kernel_rfl
@[simp] theorem cl_268 : callable Tryz.prog 268 = true := by kernel_rfl
@[simp] theorem cl_269 : callable Tryz.prog 269 = true := by kernel_rfl
@[simp] theorem cl_270 : callable Tryz.prog 270 = true := by kernel_rfl
@[simp] theorem cl_271 : callable Tryz.prog 271 = true := by kernel_rfl
@[simp] theorem cl_272 : callable Tryz.prog 272 = true := by kernel_rfl
@[simp] theorem cl_273 : callable Tryz.prog 273 = true := by kernel_rfl
@[simp] theorem bu_379 : stat Tryz.prog (bInfo 379) = some (#[(0, 1), (1, 1), (2, 1), (3, 1), (4, 1)], none, [.int .i64 0, .int .i64 0, .int .i64 0, .bool false, .string ⟨#[]⟩].toArray) := by kernel_rfl
@[simp] theorem cl_274 : callable Tryz.prog 274 = true := by kernel_rfl
@[simp] theorem ui_328 : Tryz.prog.underlying 328 = some (.int .u64) := by kernel_rfl
@[simp] theorem bs_55_0 : bsCells Tryz.prog 55 0 = some (54, 1, []) := by kernel_rfl
@[simp] theorem bs_297_0 : bsCells Tryz.prog 297 0 = some (342, 2, []) := by kernel_rfl
@[simp] theorem ap_297 : apInfo Tryz.prog 297 = some (342, 2, 8) := by kernel_rfl
@[simp] theorem cl_277 : callable Tryz.prog 277 = true := by kernel_rfl
@[simp] theorem cl_278 : callable Tryz.prog 278 = true := by kernel_rfl
@[simp] theorem cl_279 : callable Tryz.prog 279 = true := by kernel_rfl
@[simp] theorem cl_280 : callable Tryz.prog 280 = true := by kernel_rfl
@[simp] theorem fa_88_3 (b o : Nat) : aFieldAddr Tryz.prog 88 (.pointer (some ⟨b, o, none⟩)) 3 = ret (.pointer (some ⟨b, o + 3, none⟩)) := by kernel_rfl
@[simp] theorem fa_88_4 (b o : Nat) : aFieldAddr Tryz.prog 88 (.pointer (some ⟨b, o, none⟩)) 4 = ret (.pointer (some ⟨b, o + 4, none⟩)) := by kernel_rfl
@[simp] theorem bu_175 : stat Tryz.prog (bInfo 175) = some (#[], some 1, [.int .i64 0, .int .i64 0, .int .i64 0, .int .i64 0, .int .i64 0].toArray) := by kernel_rfl
@[simp] theorem zr_175 : zeroOf Tryz.prog 175 = some (.agg #[.int .i64 0, .int .i64 0, .int .i64 0, .int .i64 0, .int .i64 0]) := by kernel_rfl
@[simp] theorem ix_175 (cs : Array Value) (i : Int) (h : 0 ≤ i ∧ i < 5) : aIndex Tryz.prog 175 (.agg cs) (.int .i64 i) = ofOpt cs[i.toNat * 1]? := (show _ = ite (0 ≤ i ∧ i < 5) (ofOpt _) fail by kernel_rfl).trans (if_pos h)
@[simp] theorem fa_299_3 (b o : Nat) : aFieldAddr Tryz.prog 299 (.pointer (some ⟨b, o, none⟩)) 3 = ret (.pointer (some ⟨b, o + 3, none⟩)) := by kernel_rfl
@[simp] theorem cl_282 : callable Tryz.prog 282 = true := by kernel_rfl
@[simp] theorem bu_410 : stat Tryz.prog (bInfo 410) = some (#[(0, 1), (1, 1)], none, [.int .i64 0, .int .i64 0].toArray) := by kernel_rfl
@[simp] theorem zr_410 : zeroOf Tryz.prog 410 = some (.agg #[.int .i64 0, .int .i64 0]) := by kernel_rfl
@[simp] theorem bs_357_1 : bsCells Tryz.prog 357 1 = some (410, 2, [.int .i64 0, .int .i64 0]) := by kernel_rfl
@[simp] theorem cl_284 : callable Tryz.prog 284 = true := by kernel_rfl
@[simp] theorem cl_283 : callable Tryz.prog 283 = true := by kernel_rfl
@[simp] theorem ia_358 (b o n c : Nat) (i : Int) (h : 0 ≤ i ∧ i < n) : aIndexAddr Tryz.prog 358 (.slice (some ⟨b, o, none⟩) n c) (.int .i64 i) = ret (.pointer (some ⟨b, o + i.toNat * 2, none⟩)) := (show _ = ite (0 ≤ i ∧ i < (n : Int)) (ret _) fail by kernel_rfl).trans (if_pos h)
@[simp] theorem ag_410 : aggB Tryz.prog 410 = some true := by kernel_rfl
@[simp] theorem fa_410_0 (b o : Nat) : aFieldAddr Tryz.prog 410 (.pointer (some ⟨b, o, none⟩)) 0 = ret (.pointer (some ⟨b, o + 0, none⟩)) := by kernel_rfl
@[simp] theorem fa_410_1 (b o : Nat) : aFieldAddr Tryz.prog 410 (.pointer (some ⟨b, o, none⟩)) 1 = ret (.pointer (some ⟨b, o + 1, none⟩)) := by kernel_rfl
@[simp] theorem bs_55_2 : bsCells Tryz.prog 55 2 = some (54, 1, [.int .u32 0, .int .u32 0]) := by kernel_rfl
@[simp] theorem cl_285 : callable Tryz.prog 285 = true := by kernel_rfl
@[simp] theorem fa_342_1 (b o : Nat) : aFieldAddr Tryz.prog 342 (.pointer (some ⟨b, o, none⟩)) 1 = ret (.pointer (some ⟨b, o + 1, none⟩)) := by kernel_rfl
@[simp] theorem fa_342_0 (b o : Nat) : aFieldAddr Tryz.prog 342 (.pointer (some ⟨b, o, none⟩)) 0 = ret (.pointer (some ⟨b, o + 0, none⟩)) := by kernel_rfl
@[simp] theorem bu_337 : stat Tryz.prog (bInfo 337) = some (#[(0, 1), (1, 1)], none, [.string ⟨#[]⟩, .int .u32 0].toArray) := by kernel_rfl
@[simp] theorem cl_287 : callable Tryz.prog 287 = true := by kernel_rfl
@[simp] theorem cl_286 : callable Tryz.prog 286 = true := by kernel_rfl
@[simp] theorem zr_9 : zeroOf Tryz.prog 9 = some (.string ⟨#[]⟩) := by kernel_rfl
@[simp] theorem cl_289 : callable Tryz.prog 289 = true := by kernel_rfl
@[simp] theorem cl_288 : callable Tryz.prog 288 = true := by kernel_rfl
@[simp] theorem cl_290 : callable Tryz.prog 290 = true := by kernel_rfl
@[simp] theorem zr_415 : zeroOf Tryz.prog 415 = some (.agg #[.bool false, .bool false, .bool false, .bool false, .bool false, .bool false, .bool false, .bool false, .bool false, .bool false, .bool false, .bool false, .bool false, .bool false, .bool false, .bool false, .bool false, .bool false, .bool false, .bool false, .bool false, .bool false, .bool false, .bool false, .bool false, .bool false, .bool false, .bool false, .bool false, .bool false, .bool false, .bool false, .bool false, .bool false, .bool false, .bool false, .bool false, .bool false, .bool false, .bool false, .bool false, .bool false, .bool false, .bool false, .bool false, .bool false, .bool false, .bool false, .bool false, .bool false, .bool false, .bool false, .bool false, .bool false, .bool false, .bool false, .bool false, .bool false, .bool false, .bool false, .bool false, .bool false, .bool false, .bool false, .bool false, .bool false, .bool false, .bool false, .bool false, .bool false, .bool false, .bool false, .bool false, .bool false, .bool false, .bool false, .bool false, .bool false, .bool false, .bool false, .bool false, .bool false, .bool false, .bool false, .bool false, .bool false, .bool false, .bool false, .bool false, .bool false, .bool false, .bool false, .bool false, .bool false, .bool false, .bool false, .bool false, .bool false, .bool false, .bool false, .bool false, .bool false, .bool false, .bool false, .bool false, .bool false, .bool false, .bool false, .bool false, .bool false, .bool false, .bool false, .bool false, .bool false, .bool false, .bool false, .bool false, .bool false, .bool false, .bool false, .bool false, .bool false, .bool false, .bool false, .bool false, .bool false, .bool false, .bool false, .bool false, .bool false, .bool false, .bool false, .bool false, .bool false, .bool false, .bool false, .bool false, .bool false, .bool false, .bool false, .bool false, .bool false, .bool false, .bool false, .bool false, .bool false, .bool false, .bool false, .bool false, .bool false, .bool false, .bool false, .bool false, .bool false, .bool false, .bool false, .bool false, .bool false, .bool false, .bool false, .bool false, .bool false, .bool false, .bool false, .bool false, .bool false, .bool false, .bool false, .bool false, .bool false, .bool false, .bool false, .bool false, .bool false, .bool false, .bool false, .bool false, .bool false, .bool false, .bool false, .bool false, .bool false, .bool false, .bool false, .bool false, .bool false, .bool false, .bool false, .bool false, .bool false, .bool false, .bool false, .bool false, .bool false, .bool false, .bool false, .bool false, .bool false, .bool false, .bool false, .bool false, .bool false, .bool false, .bool false, .bool false, .bool false, .bool false, .bool false, .bool false, .bool false, .bool false, .bool false, .bool false, .bool false, .bool false, .bool false, .bool false, .bool false, .bool false, .bool false, .bool false, .bool false, .bool false, .bool false, .bool false, .bool false, .bool false, .bool false, .bool false, .bool false, .bool false, .bool false, .bool false, .bool false, .bool false, .bool false, .bool false, .bool false, .bool false, .bool false, .bool false, .bool false, .bool false, .bool false, .bool false, .bool false, .bool false, .bool false, .bool false, .bool false, .bool false, .bool false, .bool false, .bool false, .bool false, .bool false]) := by kernel_rfl
@[simp] theorem sz_415 : szOf Tryz.prog 415 = some 256 := by kernel_rfl
@[simp] theorem cl_292 : callable Tryz.prog 292 = true := by kernel_rfl
@[simp] theorem cl_291 : callable Tryz.prog 291 = true := by kernel_rfl
@[simp] theorem cl_294 : callable Tryz.prog 294 = true := by kernel_rfl
@[simp] theorem cl_293 : callable Tryz.prog 293 = true := by kernel_rfl
@[simp] theorem cl_295 : callable Tryz.prog 295 = true := by kernel_rfl
@[simp] theorem cl_296 : callable Tryz.prog 296 = true := by kernel_rfl
@[simp] theorem cl_297 : callable Tryz.prog 297 = true := by kernel_rfl
@[simp] theorem cl_298 : callable Tryz.prog 298 = true := by kernel_rfl
@[simp] theorem cl_299 : callable Tryz.prog 299 = true := by kernel_rfl
@[simp] theorem cl_300 : callable Tryz.prog 300 = true := by kernel_rfl
@[simp] theorem cl_301 : callable Tryz.prog 301 = true := by kernel_rfl
@[simp] theorem cl_302 : callable Tryz.prog 302 = true := by kernel_rfl
@[simp] theorem cl_303 : callable Tryz.prog 303 = true := by kernel_rfl
@[simp] theorem fa_112_1 (b o : Nat) : aFieldAddr Tryz.prog 112 (.pointer (some ⟨b, o, none⟩)) 1 = ret (.pointer (some ⟨b, o + 1, none⟩)) := by kernel_rfl
@[simp] theorem bs_308_1 : bsCells Tryz.prog 308 1 = some (379, 5, [.int .i64 0, .int .i64 0, .int .i64 0, .bool false, .string ⟨#[]⟩]) := by kernel_rfl
@[simp] theorem ap_308 : apInfo Tryz.prog 308 = some (379, 5, 48) := by kernel_rfl
@[simp] theorem fa_112_6 (b o : Nat) : aFieldAddr Tryz.prog 112 (.pointer (some ⟨b, o, none⟩)) 6 = ret (.pointer (some ⟨b, o + 6, none⟩)) := by kernel_rfl
@[simp] theorem cl_307 : callable Tryz.prog 307 = true := by kernel_rfl
@[simp] theorem bu_116 : stat Tryz.prog (bInfo 116) = some (#[(0, 1), (1, 1), (2, 1), (3, 1), (4, 1), (5, 1), (6, 1), (7, 1), (8, 1), (9, 1), (10, 1), (11, 1)], none, [.int .i64 0, .int .i64 0, .int .i64 0, .int .i64 0, .int .i64 0, .int .i64 0, .int .i64 0, .int .i64 0, .slice none 0 0, .slice none 0 0, .slice none 0 0, .slice none 0 0].toArray) := by kernel_rfl
@[simp] theorem bu_120 : stat Tryz.prog (bInfo 120) = some (#[(0, 1), (1, 1), (2, 1), (3, 1), (4, 1), (5, 1), (6, 1)], none, [.int .i64 0, .int .i64 0, .int .i64 0, .int .i64 0, .slice none 0 0, .slice none 0 0, .slice none 0 0].toArray) := by kernel_rfl
@[simp] theorem fa_120_3 (b o : Nat) : aFieldAddr Tryz.prog 120 (.pointer (some ⟨b, o, none⟩)) 3 = ret (.pointer (some ⟨b, o + 3, none⟩)) := by kernel_rfl
@[simp] theorem cl_308 : callable Tryz.prog 308 = true := by kernel_rfl
@[simp] theorem cl_309 : callable Tryz.prog 309 = true := by kernel_rfl
@[simp] theorem ia_118 (b o n c : Nat) (i : Int) (h : 0 ≤ i ∧ i < n) : aIndexAddr Tryz.prog 118 (.slice (some ⟨b, o, none⟩) n c) (.int .i64 i) = ret (.pointer (some ⟨b, o + i.toNat * 1, none⟩)) := (show _ = ite (0 ≤ i ∧ i < (n : Int)) (ret _) fail by kernel_rfl).trans (if_pos h)
@[simp] theorem el_118 : elemT Tryz.prog 118 = some 22 := by kernel_rfl
@[simp] theorem el_22 : elemT Tryz.prog 22 = some 3 := by kernel_rfl
@[simp] theorem fa_116_10 (b o : Nat) : aFieldAddr Tryz.prog 116 (.pointer (some ⟨b, o, none⟩)) 10 = ret (.pointer (some ⟨b, o + 10, none⟩)) := by kernel_rfl
@[simp] theorem bu_377 : stat Tryz.prog (bInfo 377) = some (#[(0, 1), (1, 1), (2, 1), (3, 1)], none, [.int .i64 0, .string ⟨#[]⟩, .bool false, .int .u8 0].toArray) := by kernel_rfl
@[simp] theorem bs_307_1 : bsCells Tryz.prog 307 1 = some (377, 4, [.int .i64 0, .string ⟨#[]⟩, .bool false, .int .u8 0]) := by kernel_rfl
@[simp] theorem ap_307 : apInfo Tryz.prog 307 = some (377, 4, 32) := by kernel_rfl
@[simp] theorem cl_310 : callable Tryz.prog 310 = true := by kernel_rfl
@[simp] theorem bs_117_0 : bsCells Tryz.prog 117 0 = some (433, 2, []) := by kernel_rfl
@[simp] theorem ap_117 : apInfo Tryz.prog 117 = some (433, 2, 24) := by kernel_rfl
@[simp] theorem bu_433 : stat Tryz.prog (bInfo 433) = some (#[(0, 1), (1, 1)], none, [.int .i64 0, .string ⟨#[]⟩].toArray) := by kernel_rfl
@[simp] theorem zr_433 : zeroOf Tryz.prog 433 = some (.agg #[.int .i64 0, .string ⟨#[]⟩]) := by kernel_rfl
@[simp] theorem bs_117_1 : bsCells Tryz.prog 117 1 = some (433, 2, [.int .i64 0, .string ⟨#[]⟩]) := by kernel_rfl
@[simp] theorem bs_118_0 : bsCells Tryz.prog 118 0 = some (22, 1, []) := by kernel_rfl
@[simp] theorem ap_118 : apInfo Tryz.prog 118 = some (22, 1, 24) := by kernel_rfl
@[simp] theorem bs_118_1 : bsCells Tryz.prog 118 1 = some (22, 1, [.slice none 0 0]) := by kernel_rfl
@[simp] theorem ia_117 (b o n c : Nat) (i : Int) (h : 0 ≤ i ∧ i < n) : aIndexAddr Tryz.prog 117 (.slice (some ⟨b, o, none⟩) n c) (.int .i64 i) = ret (.pointer (some ⟨b, o + i.toNat * 2, none⟩)) := (show _ = ite (0 ≤ i ∧ i < (n : Int)) (ret _) fail by kernel_rfl).trans (if_pos h)
@[simp] theorem ag_433 : aggB Tryz.prog 433 = some true := by kernel_rfl
@[simp] theorem sz_433 : szOf Tryz.prog 433 = some 2 := by kernel_rfl
@[simp] theorem fa_433_0 (b o : Nat) : aFieldAddr Tryz.prog 433 (.pointer (some ⟨b, o, none⟩)) 0 = ret (.pointer (some ⟨b, o + 0, none⟩)) := by kernel_rfl
@[simp] theorem fa_433_1 (b o : Nat) : aFieldAddr Tryz.prog 433 (.pointer (some ⟨b, o, none⟩)) 1 = ret (.pointer (some ⟨b, o + 1, none⟩)) := by kernel_rfl
@[simp] theorem cl_311 : callable Tryz.prog 311 = true := by kernel_rfl
@[simp] theorem cl_312 : callable Tryz.prog 312 = true := by kernel_rfl
@[simp] theorem cl_313 : callable Tryz.prog 313 = true := by kernel_rfl
@[simp] theorem cl_314 : callable Tryz.prog 314 = true := by kernel_rfl
@[simp] theorem cl_315 : callable Tryz.prog 315 = true := by kernel_rfl
@[simp] theorem cl_316 : callable Tryz.prog 316 = true := by kernel_rfl
@[simp] theorem cl_281 : callable Tryz.prog 281 = true := by kernel_rfl
@[simp] theorem cl_317 : callable Tryz.prog 317 = true := by kernel_rfl
@[simp] theorem cl_318 : callable Tryz.prog 318 = true := by kernel_rfl
@[simp] theorem cl_319 : callable Tryz.prog 319 = true := by kernel_rfl
@[simp] theorem ap_357 : apInfo Tryz.prog 357 = some (410, 2, 16) := by kernel_rfl
@[simp] theorem ln_357 (a : Option Addr) (n c : Nat) : aLen Tryz.prog 357 (.slice a n c) = ret (.int .i64 n) := by kernel_rfl
@[simp] theorem ia_357 (b o n c : Nat) (i : Int) (h : 0 ≤ i ∧ i < n) : aIndexAddr Tryz.prog 357 (.slice (some ⟨b, o, none⟩) n c) (.int .i64 i) = ret (.pointer (some ⟨b, o + i.toNat * 2, none⟩)) := (show _ = ite (0 ≤ i ∧ i < (n : Int)) (ret _) fail by kernel_rfl).trans (if_pos h)
@[simp] theorem cl_320 : callable Tryz.prog 320 = true := by kernel_rfl
@[simp] theorem cl_321 : callable Tryz.prog 321 = true := by kernel_rfl
@[simp] theorem cl_322 : callable Tryz.prog 322 = true := by kernel_rfl
@[simp] theorem cl_323 : callable Tryz.prog 323 = true := by kernel_rfl
@[simp] theorem bs_358_1 : bsCells Tryz.prog 358 1 = some (410, 2, [.int .i64 0, .int .i64 0]) := by kernel_rfl
@[simp] theorem ap_358 : apInfo Tryz.prog 358 = some (410, 2, 16) := by kernel_rfl
@[simp] theorem bs_357_2 : bsCells Tryz.prog 357 2 = some (410, 2, [.int .i64 0, .int .i64 0, .int .i64 0, .int .i64 0]) := by kernel_rfl
@[simp] theorem ag_415 : aggB Tryz.prog 415 = some true := by kernel_rfl
@[simp] theorem ia_415 (b o : Nat) (i : Int) (h : 0 ≤ i ∧ i < 256) : aIndexAddr Tryz.prog 415 (.pointer (some ⟨b, o, none⟩)) (.int .i64 i) = ret (.pointer (some ⟨b, o + i.toNat * 1, none⟩)) := (show _ = ite (0 ≤ i ∧ i < 256) (ret _) fail by kernel_rfl).trans (if_pos h)
@[simp] theorem cl_325 : callable Tryz.prog 325 = true := by kernel_rfl
@[simp] theorem cl_326 : callable Tryz.prog 326 = true := by kernel_rfl
@[simp] theorem cl_327 : callable Tryz.prog 327 = true := by kernel_rfl
@[simp] theorem ui_21 : Tryz.prog.underlying 21 = some (.int .i32) := by kernel_rfl
@[simp] theorem cl_328 : callable Tryz.prog 328 = true := by kernel_rfl
@[simp] theorem cl_329 : callable Tryz.prog 329 = true := by kernel_rfl
@[simp] theorem bu_342 : stat Tryz.prog (bInfo 342) = some (#[(0, 1), (1, 1)], none, [.int .u32 0, .int .u32 0].toArray) := by kernel_rfl
@[simp] theorem zr_342 : zeroOf Tryz.prog 342 = some (.agg #[.int .u32 0, .int .u32 0]) := by kernel_rfl
@[simp] theorem bs_297_1 : bsCells Tryz.prog 297 1 = some (342, 2, [.int .u32 0, .int .u32 0]) := by kernel_rfl
@[simp] theorem cl_330 : callable Tryz.prog 330 = true := by kernel_rfl
@[simp] theorem cl_331 : callable Tryz.prog 331 = true := by kernel_rfl
@[simp] theorem cl_332 : callable Tryz.prog 332 = true := by kernel_rfl
@[simp] theorem cl_333 : callable Tryz.prog 333 = true := by kernel_rfl
@[simp] theorem cl_334 : callable Tryz.prog 334 = true := by kernel_rfl
@[simp] theorem cl_336 : callable Tryz.prog 336 = true := by kernel_rfl
@[simp] theorem cl_335 : callable Tryz.prog 335 = true := by kernel_rfl
@[simp] theorem cl_338 : callable Tryz.prog 338 = true := by kernel_rfl
@[simp] theorem cl_304 : callable Tryz.prog 304 = true := by kernel_rfl
@[simp] theorem cl_305 : callable Tryz.prog 305 = true := by kernel_rfl
@[simp] theorem cl_306 : callable Tryz.prog 306 = true := by kernel_rfl
@[simp] theorem cl_339 : callable Tryz.prog 339 = true := by kernel_rfl
@[simp] theorem cl_340 : callable Tryz.prog 340 = true := by kernel_rfl
@[simp] theorem cl_341 : callable Tryz.prog 341 = true := by kernel_rfl
@[simp] theorem cl_342 : callable Tryz.prog 342 = true := by kernel_rfl
@[simp] theorem cl_343 : callable Tryz.prog 343 = true := by kernel_rfl
@[simp] theorem cl_344 : callable Tryz.prog 344 = true := by kernel_rfl
@[simp] theorem cl_345 : callable Tryz.prog 345 = true := by kernel_rfl
@[simp] theorem cl_346 : callable Tryz.prog 346 = true := by kernel_rfl
@[simp] theorem cl_347 : callable Tryz.prog 347 = true := by kernel_rfl
@[simp] theorem bs_140_15 : bsCells Tryz.prog 140 15 = some (5, 1, [.int .u8 0, .int .u8 0, .int .u8 0, .int .u8 0, .int .u8 0, .int .u8 0, .int .u8 0, .int .u8 0, .int .u8 0, .int .u8 0, .int .u8 0, .int .u8 0, .int .u8 0, .int .u8 0, .int .u8 0]) := by kernel_rfl
@[simp] theorem fa_199_4 (b o : Nat) : aFieldAddr Tryz.prog 199 (.pointer (some ⟨b, o, none⟩)) 4 = ret (.pointer (some ⟨b, o + 4, none⟩)) := by kernel_rfl
@[simp] theorem cl_349 : callable Tryz.prog 349 = true := by kernel_rfl
@[simp] theorem cl_348 : callable Tryz.prog 348 = true := by kernel_rfl
@[simp] theorem cl_324 : callable Tryz.prog 324 = true := by kernel_rfl
@[simp] theorem cl_350 : callable Tryz.prog 350 = true := by kernel_rfl
@[simp] theorem cl_351 : callable Tryz.prog 351 = true := by kernel_rfl
@[simp] theorem cl_352 : callable Tryz.prog 352 = true := by kernel_rfl
@[simp] theorem cl_353 : callable Tryz.prog 353 = true := by kernel_rfl
@[simp] theorem cl_354 : callable Tryz.prog 354 = true := by kernel_rfl
@[simp] theorem cl_355 : callable Tryz.prog 355 = true := by kernel_rfl
@[simp] theorem cl_357 : callable Tryz.prog 357 = true := by kernel_rfl
@[simp] theorem cl_356 : callable Tryz.prog 356 = true := by kernel_rfl
@[simp] theorem cl_358 : callable Tryz.prog 358 = true := by kernel_rfl
@[simp] theorem ff_337_1 (cs : Array Value) : aField Tryz.prog 337 (.agg cs) 1 = ofOpt cs[1]? := by kernel_rfl
@[simp] theorem cl_359 : callable Tryz.prog 359 = true := by kernel_rfl
@[simp] theorem cl_361 : callable Tryz.prog 361 = true := by kernel_rfl
@[simp] theorem cl_360 : callable Tryz.prog 360 = true := by kernel_rfl
@[simp] theorem cl_337 : callable Tryz.prog 337 = true := by kernel_rfl
@[simp] theorem bs_22_11 : bsCells Tryz.prog 22 11 = some (3, 1, [.int .i64 0, .int .i64 0, .int .i64 0, .int .i64 0, .int .i64 0, .int .i64 0, .int .i64 0, .int .i64 0, .int .i64 0, .int .i64 0, .int .i64 0]) := by kernel_rfl
@[simp] theorem bs_22_6 : bsCells Tryz.prog 22 6 = some (3, 1, [.int .i64 0, .int .i64 0, .int .i64 0, .int .i64 0, .int .i64 0, .int .i64 0]) := by kernel_rfl
@[simp] theorem cl_362 : callable Tryz.prog 362 = true := by kernel_rfl
@[simp] theorem bs_69_10 : bsCells Tryz.prog 69 10 = some (9, 1, [.string ⟨#[]⟩, .string ⟨#[]⟩, .string ⟨#[]⟩, .string ⟨#[]⟩, .string ⟨#[]⟩, .string ⟨#[]⟩, .string ⟨#[]⟩, .string ⟨#[]⟩, .string ⟨#[]⟩, .string ⟨#[]⟩]) := by kernel_rfl
@[simp] theorem cl_363 : callable Tryz.prog 363 = true := by kernel_rfl
@[simp] theorem cl_364 : callable Tryz.prog 364 = true := by kernel_rfl
@[simp] theorem cl_365 : callable Tryz.prog 365 = true := by kernel_rfl
@[simp] theorem cl_366 : callable Tryz.prog 366 = true := by kernel_rfl
@[simp] theorem cl_367 : callable Tryz.prog 367 = true := by kernel_rfl
@[simp] theorem cl_368 : callable Tryz.prog 368 = true := by kernel_rfl
@[simp] theorem cl_369 : callable Tryz.prog 369 = true := by kernel_rfl
@[simp] theorem cl_370 : callable Tryz.prog 370 = true := by kernel_rfl
@[simp] theorem cl_371 : callable Tryz.prog 371 = true := by kernel_rfl
@[simp] theorem cl_372 : callable Tryz.prog 372 = true := by kernel_rfl
@[simp] theorem ia_473 (b o : Nat) (i : Int) (h : 0 ≤ i ∧ i < 256) : aIndexAddr Tryz.prog 473 (.pointer (some ⟨b, o, none⟩)) (.int .i64 i) = ret (.pointer (some ⟨b, o + i.toNat * 1, none⟩)) := (show _ = ite (0 ≤ i ∧ i < 256) (ret _) fail by kernel_rfl).trans (if_pos h)
@[simp] theorem ia_476 (b o : Nat) (i : Int) (h : 0 ≤ i ∧ i < 16) : aIndexAddr Tryz.prog 476 (.pointer (some ⟨b, o, none⟩)) (.int .i64 i) = ret (.pointer (some ⟨b, o + i.toNat * 2, none⟩)) := (show _ = ite (0 ≤ i ∧ i < 16) (ret _) fail by kernel_rfl).trans (if_pos h)
@[simp] theorem ag_475 : aggB Tryz.prog 475 = some true := by kernel_rfl
@[simp] theorem sz_475 : szOf Tryz.prog 475 = some 2 := by kernel_rfl
@[simp] theorem zr_475 : zeroOf Tryz.prog 475 = some (.agg #[.int .u8 0, .int .u8 0]) := by kernel_rfl
@[simp] theorem fa_475_0 (b o : Nat) : aFieldAddr Tryz.prog 475 (.pointer (some ⟨b, o, none⟩)) 0 = ret (.pointer (some ⟨b, o + 0, none⟩)) := by kernel_rfl
@[simp] theorem fa_475_1 (b o : Nat) : aFieldAddr Tryz.prog 475 (.pointer (some ⟨b, o, none⟩)) 1 = ret (.pointer (some ⟨b, o + 1, none⟩)) := by kernel_rfl
@[simp] theorem cl_373 : callable Tryz.prog 373 = true := by kernel_rfl
@[simp] theorem cl_374 : callable Tryz.prog 374 = true := by kernel_rfl
@[simp] theorem cl_375 : callable Tryz.prog 375 = true := by kernel_rfl
@[simp] theorem sz_337 : szOf Tryz.prog 337 = some 2 := by kernel_rfl
@[simp] theorem cl_377 : callable Tryz.prog 377 = true := by kernel_rfl
@[simp] theorem cl_378 : callable Tryz.prog 378 = true := by kernel_rfl
@[simp] theorem cl_379 : callable Tryz.prog 379 = true := by kernel_rfl
@[simp] theorem ui_482 : Tryz.prog.underlying 482 = some (.int .u64) := by kernel_rfl
@[simp] theorem zr_482 : zeroOf Tryz.prog 482 = some (.int .u64 0) := by kernel_rfl
@[simp] theorem sz_482 : szOf Tryz.prog 482 = some 1 := by kernel_rfl
@[simp] theorem cl_380 : callable Tryz.prog 380 = true := by kernel_rfl
@[simp] theorem cl_381 : callable Tryz.prog 381 = true := by kernel_rfl
@[simp] theorem cl_382 : callable Tryz.prog 382 = true := by kernel_rfl
@[simp] theorem cl_383 : callable Tryz.prog 383 = true := by kernel_rfl
@[simp] theorem cl_384 : callable Tryz.prog 384 = true := by kernel_rfl
@[simp] theorem cl_385 : callable Tryz.prog 385 = true := by kernel_rfl
@[simp] theorem cl_386 : callable Tryz.prog 386 = true := by kernel_rfl
@[simp] theorem cl_387 : callable Tryz.prog 387 = true := by kernel_rfl
@[simp] theorem cl_388 : callable Tryz.prog 388 = true := by kernel_rfl
@[simp] theorem cl_389 : callable Tryz.prog 389 = true := by kernel_rfl
@[simp] theorem cl_390 : callable Tryz.prog 390 = true := by kernel_rfl
@[simp] theorem cl_391 : callable Tryz.prog 391 = true := by kernel_rfl
@[simp] theorem cl_392 : callable Tryz.prog 392 = true := by kernel_rfl
@[simp] theorem ag_482 : aggB Tryz.prog 482 = some false := by kernel_rfl
@[simp] theorem cl_393 : callable Tryz.prog 393 = true := by kernel_rfl
@[simp] theorem cl_395 : callable Tryz.prog 395 = true := by kernel_rfl
@[simp] theorem cl_396 : callable Tryz.prog 396 = true := by kernel_rfl
@[simp] theorem cl_397 : callable Tryz.prog 397 = true := by kernel_rfl
@[simp] theorem cl_398 : callable Tryz.prog 398 = true := by kernel_rfl
@[simp] theorem bu_475 : stat Tryz.prog (bInfo 475) = some (#[(0, 1), (1, 1)], none, [.int .u8 0, .int .u8 0].toArray) := by kernel_rfl
@[simp] theorem bu_476 : stat Tryz.prog (bInfo 476) = some (#[], some 2, [.int .u8 0, .int .u8 0, .int .u8 0, .int .u8 0, .int .u8 0, .int .u8 0, .int .u8 0, .int .u8 0, .int .u8 0, .int .u8 0, .int .u8 0, .int .u8 0, .int .u8 0, .int .u8 0, .int .u8 0, .int .u8 0, .int .u8 0, .int .u8 0, .int .u8 0, .int .u8 0, .int .u8 0, .int .u8 0, .int .u8 0, .int .u8 0, .int .u8 0, .int .u8 0, .int .u8 0, .int .u8 0, .int .u8 0, .int .u8 0, .int .u8 0, .int .u8 0].toArray) := by kernel_rfl
@[simp] theorem zr_476 : zeroOf Tryz.prog 476 = some (.agg #[.int .u8 0, .int .u8 0, .int .u8 0, .int .u8 0, .int .u8 0, .int .u8 0, .int .u8 0, .int .u8 0, .int .u8 0, .int .u8 0, .int .u8 0, .int .u8 0, .int .u8 0, .int .u8 0, .int .u8 0, .int .u8 0, .int .u8 0, .int .u8 0, .int .u8 0, .int .u8 0, .int .u8 0, .int .u8 0, .int .u8 0, .int .u8 0, .int .u8 0, .int .u8 0, .int .u8 0, .int .u8 0, .int .u8 0, .int .u8 0, .int .u8 0, .int .u8 0]) := by kernel_rfl
@[simp] theorem sz_476 : szOf Tryz.prog 476 = some 32 := by kernel_rfl
end Go.Proofs.YtkabaecoamilnaaGreatDoor
