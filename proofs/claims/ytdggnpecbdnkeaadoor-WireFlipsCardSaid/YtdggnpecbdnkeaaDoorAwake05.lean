/-
  The statements' 'awake' (layer 5) returns true.
-/
import Derived.Test.YtdggnpecbdnkeaaDoorPlainFrame
import Derived.Test.YtdggnpecbdnkeaaDoorBigStruct
set_option linter.unusedVariables false
set_option linter.unusedSimpArgs false
namespace Go.Proofs.YtdggnpecbdnkeaaDoor
open Go.RowKit

theorem zero_size : Tryd.zeroCells26.size = tabCells.toArray.size := by rw [zero_tab, tabCells_size]; simp [tabUpto]
theorem tab_size2 : (Tryd.prog.info? 26).map (·.size) = some tabCells.toArray.size := by rw [tabCells_size]; exact tab_size
theorem fr7 : (⟨(frameOf 7 [97, 98]).toArray⟩ : ByteArray).size = 48 := by rw [size_arr, frameOf_length]; rfl

set_option maxRecDepth 100000 in
set_option maxHeartbeats 1000000 in
theorem awake5 (w : World) : Calls Tryd.prog 13 #[] w fun e w' => e = .returned (.bool true) ∧ Below w.heap.size w w' := by
  have HMK := Lib.hid make_any
  have HBY : Hid (∀ (w : World) (tb : Nat), TabAt w tb → Calls Tryd.prog 16 #[.agg #[.int .u8 7, .string ⟨#[97, 98]⟩], .pointer (some ⟨tb, 0, none⟩)] w fun e w' => e = .returned (.tuple #[.string ⟨(frameOf 7 [97, 98]).toArray⟩, .int .i64 0]) ∧ Below w.heap.size w w') := Lib.hid (fun w tb h => frBytes_ok 7 ⟨#[97, 98]⟩ tb w h (by decide))
  have HPA : Hid (∀ (w : World) (tb : Nat), TabAt w tb → Calls Tryd.prog 17 #[.pointer (some ⟨tb, 0, none⟩), .string ⟨(frameOf 7 [97, 98]).toArray⟩] w fun e w' => e = .returned (.tuple #[.agg #[.int .u8 7, .string ⟨#[97, 98]⟩], .int .i64 0]) ∧ Below w.heap.size w w') := Lib.hid (fun w tb h => by
    have := frParse_any tb ⟨(frameOf 7 [97, 98]).toArray⟩ w h (by rw [fr7]; omega)
    rw [show (⟨(frameOf 7 [97, 98]).toArray⟩ : ByteArray).data.toList = frameOf 7 [97, 98] from rfl, frParse_back 7 [97, 98] (by decide)] at this
    exact this)
  have hsz := fr7
  have HC := Lib.hid (cells_any 0 (by omega))
  generalize hFR : (⟨(frameOf 7 [97, 98]).toArray⟩ : ByteArray) = FR at *
  clear hFR
  go_enter Tryd.func13, Tryd.ntmps13
  go_wp2_with fail
  refine (HMK.out _).mono ?_
  rintro e w1 ⟨rfl, hb1⟩
  go_wp2_with (refine wpList_store_new rfl 26 _ _ rfl w1.heap.size 26 Tryd.zeroCells26 tabCells.toArray rfl rfl rfl zero_size tab_size2 tabCells_one ?_)
  have HT := Lib.hid (TabAt.of_box (BoxAt.new w1 26 tabCells))
  refine (HBY.out _ _ HT.out).mono ?_
  rintro e w2 ⟨rfl, hb2⟩
  have HT2 := Lib.hid (HT.out.below hb2 (by simp))
  have HB2 := Lib.hid (hb1.trans ((((Below.refl _ w1).alloc (Nat.le_refl _) _).trans (hb2.mono (by simp))).mono hb1.size))
  clear HT hb1 hb2
  go_wp2_with fail
  refine (HPA.out _ _ HT2.out).mono ?_
  rintro e w3 ⟨rfl, hb3⟩
  have HB3 := Lib.hid (belSeq HB2.out hb3)
  clear hb3 HT2
  have hsz2 : ((FR.size : Int) == 48) = true := by rw [hsz]; rfl
  go_wp2_with fail
  refine (HC.out _).mono ?_
  rintro e w4 ⟨rfl, rfl⟩
  go_wp2_with fail
  go_ret
  exact ⟨ret_bool (by first | rfl | decide), HB3.out.alloc HB3.out.size _⟩
end Go.Proofs.YtdggnpecbdnkeaaDoor
