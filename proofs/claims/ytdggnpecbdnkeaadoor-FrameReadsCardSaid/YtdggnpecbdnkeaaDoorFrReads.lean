/-
  The walk of the statement FrameReads.
-/
import Derived.Test.YtdggnpecbdnkeaaDoorRefFrParse
import Derived.Test.YtdggnpecbdnkeaaDoorFrUnlike
set_option linter.unusedVariables false
set_option linter.unusedSimpArgs false
namespace Go.Proofs.YtdggnpecbdnkeaaDoor
open Go.RowKit

def ReadRel (w : World) (tb sb : Nat) (A B : ByteArray) (wx : World) : Prop := TabAt wx tb ∧ BoxAt wx sb 9 [.string A, .string B] ∧ Below w.heap.size w wx
set_option maxRecDepth 100000 in
set_option maxHeartbeats 1000000 in
theorem frameReads_any (a : ByteArray) (ha : a.size ≤ maxLen) (w : World) :
    Calls Tryd.prog 4 #[.string a] w fun e w' => e = .returned (.bool true) ∧ Below w.heap.size w w' := by
  have HAW := Lib.hid awake5
  have HMK := Lib.hid make_any
  have HCA : Hid (∀ W : World, Calls Tryd.prog 14 #[.string a, .int .i64 300] W fun e w' => e = .returned (.string (cutL 300 a)) ∧ W = w') := Lib.hid (fun W => cut_any a 300 W ha (by omega))
  have hsa := cutL_size 300 a
  generalize cutL 300 a = A at *
  have HSM := Lib.hid (fun w => rsum_any A w (by omega))
  have hsl := (sumOf A.data.toList).isLt
  have HFO := Lib.hid (rfour_any (sumOf A.data.toList).toNat hsl)
  have hWz : (⟨(be4 (sumOf A.data.toList).toNat).toArray⟩ : ByteArray).size ≤ 4 := by rw [size_arr, be4_length]; omega
  generalize (sumOf A.data.toList).toNat = sm at *
  generalize (⟨(be4 sm).toArray⟩ : ByteArray) = WB at *
  go_enter Tryd.func4, Tryd.ntmps4
  go_wp2_with fail
  refine (HAW.out _).mono ?_
  rintro e w1 ⟨rfl, hb1⟩
  have HB1 := Lib.hid hb1
  clear hb1
  go_wp2_with fail
  refine (HCA.out _).mono ?_
  rintro e w1' ⟨rfl, rfl⟩
  go_wp2_with fail
  refine (HMK.out _).mono ?_
  rintro e w2 ⟨rfl, hb2⟩
  have HB2 := Lib.hid (belSeq HB1.out hb2)
  clear hb2 HB1
  have HT := Lib.hid (TabAt.of_box (BoxAt.new w2 26 tabCells))
  have HB3 := Lib.hid (HB2.out.alloc HB2.out.size (.cells tabCells.toArray 26))
  go_wp2_with (refine wpList_store_new rfl 26 _ _ rfl w2.heap.size 26 Tryd.zeroCells26 tabCells.toArray rfl rfl rfl zero_size tab_size2 tabCells_one ?_)
  generalize w2.alloc (.cells tabCells.toArray 26) = W3 at *
  generalize w2.heap.size = tb at *
  refine (HSM.out _).mono ?_
  rintro e w4 ⟨rfl, hb4⟩
  have HT4 := Lib.hid (HT.out.below hb4 HT.out.lt)
  have HB4 := Lib.hid (belSeq HB3.out hb4)
  clear hb4 HT HB3
  go_wp2_with fail
  refine (HFO.out _).mono ?_
  rintro e w5 ⟨rfl, hb5⟩
  have HT5 := Lib.hid (HT4.out.below hb5 HT4.out.lt)
  have HB5 := Lib.hid (belSeq HB4.out hb5)
  clear hb5 HT4 HB4
  have hABz : (A ++ WB).size ≤ 400 := by rw [← size_len, dapp, List.length_append, size_len, size_len]; omega
  have HR := Lib.hid (show ReadRel w tb w5.heap.size A (A ++ WB) (w5.alloc (.cells #[.string A, .string (A ++ WB)] 9)) from
    ⟨HT5.out.below ((Below.refl _ _).alloc (Nat.le_refl _) _) HT5.out.lt, BoxAt.new w5 9 [.string A, .string (A ++ WB)], HB5.out.alloc HB5.out.size _⟩)
  go_wp2_with fail
  clear HT5 HB5
  generalize w5.alloc (.cells #[.string A, .string (A ++ WB)] 9) = W6 at *
  generalize w5.heap.size = sb at *
  generalize A ++ WB = AB at *
  go_loopw [24] (fun i wx => ∃ k : Nat, k ≤ 2 ∧ i = .int .i64 k ∧ ReadRel w tb sb A AB wx) (fun i _ => 2 - (intOf i).toNat)
  case atStart => exact ⟨0, by omega, rfl, HR.out⟩
  case round =>
    clear HR
    obtain ⟨k, hk, rfl, hrl⟩ := hrel
    have HR := Lib.hid hrl
    clear hrl
    by_cases hlt : k < 2
    · obtain ⟨X, hX, hXz⟩ : ∃ X : ByteArray, wr.cell? ⟨sb, k, none⟩ = some (.string X) ∧ X.size ≤ 400 := by
        have : k = 0 ∨ k = 1 := by omega
        rcases this with rfl | rfl
        · exact ⟨A, HR.out.2.1.cell 0, by omega⟩
        · exact ⟨AB, HR.out.2.1.cell 1, by omega⟩
      have HPA := Lib.hid (fun (w : World) (ht : TabAt w tb) => frParse_any tb X w ht (by omega))
      have HRP := Lib.hid (fun (w : World) => rfParse_is X w (by omega))
      generalize frParse X.data.toList = r at *
      obtain ⟨u, d, er⟩ := r
      unfold frV at HPA
      unfold rfV at HRP
      generalize (⟨d.toArray⟩ : ByteArray) = D at *
      go_wp2_with fail
      refine (HPA.out _ HR.out.1).mono ?_
      rintro e w7 ⟨rfl, hb7⟩
      have HR7 := Lib.hid (show ReadRel w tb sb A AB w7 from ⟨HR.out.1.below hb7 HR.out.1.lt, HR.out.2.1.below hb7 HR.out.2.1.lt, belSeq HR.out.2.2 hb7⟩)
      clear hb7 HR HPA hX
      go_wp2_with fail
      have HBF := Lib.hid (BoxAt.new w7 31 [.int .u8 (u.toNat : Int), .string D])
      refine (HRP.out _).mono ?_
      rintro e w8 ⟨rfl, hb8⟩
      have HR8 := Lib.hid (show ReadRel w tb sb A AB w8 from ⟨HR7.out.1.below (belAlloc hb8 (by simp)) HR7.out.1.lt, HR7.out.2.1.below (belAlloc hb8 (by simp)) HR7.out.2.1.lt, belSeq HR7.out.2.2 (belAlloc hb8 (by simp))⟩)
      obtain ⟨q0, q1⟩ := (HBF.out.below hb8 (by simp)).cells2
      clear hb8 HBF HR7 HRP
      go_wp2_with fail
      go_roundw
      case rel => exact ⟨k + 1, by omega, by go_num, HR8.out⟩
      case measure => simp [intOf]; omega
    · obtain rfl : k = 2 := by omega
      go_wp2_with fail
      go_ret
      exact ⟨rfl, HR.out.2.2⟩
end Go.Proofs.YtdggnpecbdnkeaaDoor
