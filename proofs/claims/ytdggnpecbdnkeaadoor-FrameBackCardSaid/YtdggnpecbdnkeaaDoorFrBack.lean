/-
  The walk of the statement FrameBack.
-/
import Derived.Test.YtdggnpecbdnkeaaDoorRefFrBytes
import Derived.Test.YtdggnpecbdnkeaaDoorFrUnlike
set_option linter.unusedVariables false
set_option linter.unusedSimpArgs false
namespace Go.Proofs.YtdggnpecbdnkeaaDoor
open Go.RowKit

set_option maxRecDepth 100000 in
set_option maxHeartbeats 1000000 in
theorem frameBack_any (u : UInt8) (a : ByteArray) (ha : a.size ≤ maxLen) (w : World) :
    Calls Tryd.prog 3 #[.int .u8 (u.toNat : Int), .string a] w fun e w' => e = .returned (.bool true) ∧ Below w.heap.size w w' := by
  have HAW := Lib.hid awake5
  have HMK := Lib.hid make_any
  have HCA : Hid (∀ W : World, Calls Tryd.prog 14 #[.string a, .int .i64 400] W fun e w' => e = .returned (.string (cutL 400 a)) ∧ W = w') := Lib.hid (fun W => cut_any a 400 W ha (by omega))
  have hsa := cutL_size 400 a
  generalize cutL 400 a = A at *
  have HBY := Lib.hid (fun (tb : Nat) (w : World) (ht : TabAt w tb) => frBytes_ok u A tb w ht (by omega))
  have HRB := Lib.hid (fun w => rfBytes_any u A w (by omega))
  have hFz : (⟨(frameOf u A.data.toList).toArray⟩ : ByteArray).size = ((A.size + 7) / 48 + 1) * 48 := by rw [size_arr, frameOf_length, size_len]
  have HPA : Hid (∀ (tb : Nat) (w : World), TabAt w tb → Calls Tryd.prog 17 #[.pointer (some ⟨tb, 0, none⟩), .string ⟨(frameOf u A.data.toList).toArray⟩] w fun e w' => e = .returned (.tuple #[.agg #[.int .u8 (u.toNat : Int), .string A], .int .i64 0]) ∧ Below w.heap.size w w') := Lib.hid (fun tb w h => by
    have := frParse_any tb ⟨(frameOf u A.data.toList).toArray⟩ w h (by rw [hFz]; omega)
    rw [show (⟨(frameOf u A.data.toList).toArray⟩ : ByteArray).data.toList = frameOf u A.data.toList from rfl, frParse_back u A.data.toList (by rw [size_len]; omega)] at this
    exact this)
  have HC := Lib.hid (fun w => cells_any (A.size : Int) (by omega) w)
  have hcc : cellsOf (A.size : Int) = ((⟨(frameOf u A.data.toList).toArray⟩ : ByteArray).size : Int) / 48 := by
    rw [hFz]; unfold cellsOf; rw [if_neg (by omega)]; omega
  have hFb : (⟨(frameOf u A.data.toList).toArray⟩ : ByteArray).size ≤ 1000 := by omega
  generalize (⟨(frameOf u A.data.toList).toArray⟩ : ByteArray) = FR at *
  have HCC : Hid ((cellsOf (A.size : Int) == (FR.size : Int) / 48) = true) := Lib.hid (by rw [hcc]; simp)
  generalize cellsOf (A.size : Int) = cc at *
  clear hFz hcc
  go_enter Tryd.func3, Tryd.ntmps3
  go_wp2_with fail
  refine (HAW.out _).mono ?_
  rintro e w1 ⟨rfl, hb1⟩
  have HB1 := Lib.hid hb1
  clear hb1
  go_wp2_with fail
  refine (HCA.out _).mono ?_
  rintro e w1' ⟨rfl, rfl⟩
  go_wp2_with fail
  refine (HMK.out _).mono ?_
  rintro e w2 ⟨rfl, hb2⟩
  have HB2 := Lib.hid (belSeq HB1.out hb2)
  clear hb2 HB1
  have HT := Lib.hid (TabAt.of_box (BoxAt.new w2 26 tabCells))
  have HB3 := Lib.hid (HB2.out.alloc HB2.out.size (.cells tabCells.toArray 26))
  go_wp2_with (refine wpList_store_new rfl 26 _ _ rfl w2.heap.size 26 Tryd.zeroCells26 tabCells.toArray rfl rfl rfl zero_size tab_size2 tabCells_one ?_)
  generalize w2.alloc (.cells tabCells.toArray 26) = W3 at *
  generalize w2.heap.size = tb at *
  refine (HBY.out tb _ HT.out).mono ?_
  rintro e w5 ⟨rfl, hb5⟩
  have HT5 := Lib.hid (HT.out.below hb5 HT.out.lt)
  have HB5 := Lib.hid (belSeq HB3.out hb5)
  clear hb5 HT HB3
  go_wp2_with fail
  refine (HPA.out tb _ HT5.out).mono ?_
  rintro e w6 ⟨rfl, hb6⟩
  have HB6 := Lib.hid (belSeq HB5.out hb6)
  clear hb6 HT5 HB5
  go_wp2_with fail
  refine (HRB.out _).mono ?_
  rintro e w7 ⟨rfl, hb7⟩
  have hbq := (BoxAt.new w6 31 [.int .u8 (u.toNat : Int), .string A]).below hb7 (by simp)
  obtain ⟨q0, q1⟩ := hbq.cells2
  have HB7 := Lib.hid (belSeq HB6.out (belAlloc hb7 (by simp)))
  clear hb7 hbq
  go_wp2_with fail
  refine (HC.out _).mono ?_
  rintro e w8 ⟨rfl, rfl⟩
  have hc := HCC.out
  go_wp2_with fail
  go_ret
  exact ⟨ret_bool (by first | rfl | exact hc), HB7.out⟩
end Go.Proofs.YtdggnpecbdnkeaaDoor
