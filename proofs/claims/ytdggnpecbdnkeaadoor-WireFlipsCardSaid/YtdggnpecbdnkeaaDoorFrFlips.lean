/-
  The walk of the statement FrameFlips.
-/
import Derived.Test.YtdggnpecbdnkeaaDoorFrUnlike
import Derived.Test.YtdggnpecbdnkeaaDoorFlip
set_option linter.unusedVariables false
set_option linter.unusedSimpArgs false
namespace Go.Proofs.YtdggnpecbdnkeaaDoor
open Go.RowKit

theorem run_append (x : BitVec 32) (a b : List UInt8) : run x (a ++ b) = run (run x a) b := by unfold run; rw [List.foldl_append]
theorem fits_run (l : List UInt8) (h : fitsB l = true) : run ones32 l = stN 32 ones32 := by
  unfold fitsB at h
  rw [Bool.and_eq_true, decide_eq_true_eq, decide_eq_true_eq] at h
  obtain ⟨h4, h⟩ := h
  rw [← List.take_append_drop (l.length - 4) l]
  rw [run_append, ← h, topB_parts _ (BitVec.isLt _), BitVec.ofNat_toNat, BitVec.setWidth_eq]
  unfold sumOf
  rw [← BitVec.xor_assoc, BitVec.xor_comm (run _ _) ones32, BitVec.xor_assoc, BitVec.xor_self, BitVec.xor_zero]
/-- A frame with bits turned within 32: the same, or its sum does not fit. -/
theorem frParse_flip (u : UInt8) (d : List UInt8) (p : Int) (m : Nat) (hne : flipL (frameOf u d) p m ≠ frameOf u d) : frParse (flipL (frameOf u d) p m) = (0, [], 4) := by
  have hl := frameOf_length u d
  have hfl := flipL_length (frameOf u d) p m
  have hf : fitsB (flipL (frameOf u d) p m) = false := by
    cases hf : fitsB (flipL (frameOf u d) p m) with
    | false => rfl
    | true =>
      exfalso
      apply hne
      apply flipL_burst _ _ _ ones32
      rw [fits_run _ hf, fits_run _ (by unfold frameOf; exact fits_seal _)]
  unfold frParse
  rw [if_neg (by rw [hfl, hl]; omega), if_pos hf]
set_option maxRecDepth 100000 in
set_option maxHeartbeats 1000000 in
theorem frameFlips_any (u : UInt8) (a : ByteArray) (p : Int) (m : Nat) (ha : a.size ≤ maxLen) (hm : m < 4294967296) (w : World) :
    Calls Tryd.prog 8 #[.agg #[.int .u8 (u.toNat : Int), .string a, .int .i64 p, .int .u32 (m : Int)]] w fun e w' => e = .returned (.bool true) ∧ Below w.heap.size w w' := by
  have HAW := Lib.hid awake5
  have HMK := Lib.hid make_any
  have HCA : Hid (∀ W : World, Calls Tryd.prog 14 #[.string a, .int .i64 200] W fun e w' => e = .returned (.string (cutL 200 a)) ∧ W = w') := Lib.hid (fun W => cut_any a 200 W ha (by omega))
  have hsa := cutL_size 200 a
  generalize cutL 200 a = A at *
  have HBY := Lib.hid (fun (tb : Nat) (w : World) (ht : TabAt w tb) => frBytes_ok u A tb w ht (by omega))
  have hFz : (⟨(frameOf u A.data.toList).toArray⟩ : ByteArray).size = ((A.size + 7) / 48 + 1) * 48 := by rw [size_arr, frameOf_length, size_len]
  go_enter Tryd.func8, Tryd.ntmps8
  have HBX0 := Lib.hid (BoxAt.new w 51 [.int .u8 (u.toNat : Int), .string a, .int .i64 p, .int .u32 (m : Int)])
  go_wp2_with fail
  refine (HAW.out _).mono ?_
  rintro e w1 ⟨rfl, hb1⟩
  have HBX1 := Lib.hid (HBX0.out.below hb1 (by simp))
  have HB1 := Lib.hid (belAlloc hb1 (by simp))
  clear hb1 HBX0
  obtain ⟨q0, q1, q2, q3⟩ := HBX1.out.cells4
  go_wp2_with fail
  go_quiet (fail)
  have HB1' := Lib.hid (below_drewN HB1.out nq)
  clear HB1 q0 q2 q3
  go_wp2_with fail
  generalize w1.drewN nq = W1 at *
  refine (HCA.out _).mono ?_
  rintro e w1' ⟨rfl, rfl⟩
  go_wp2_with fail
  refine (HMK.out _).mono ?_
  rintro e w2 ⟨rfl, hb2⟩
  have HB2 := Lib.hid (belSeq HB1'.out hb2)
  clear hb2 HB1'
  have HT := Lib.hid (TabAt.of_box (BoxAt.new w2 26 tabCells))
  have HB3 := Lib.hid (HB2.out.alloc HB2.out.size (.cells tabCells.toArray 26))
  go_wp2_with (refine wpList_store_new rfl 26 _ _ rfl w2.heap.size 26 Tryd.zeroCells26 tabCells.toArray rfl rfl rfl zero_size tab_size2 tabCells_one ?_)
  generalize w2.alloc (.cells tabCells.toArray 26) = W3 at *
  generalize w2.heap.size = tb at *
  refine (HBY.out tb _ HT.out).mono ?_
  rintro e w5 ⟨rfl, hb5⟩
  have HT5 := Lib.hid (HT.out.below hb5 HT.out.lt)
  have HB5 := Lib.hid (belSeq HB3.out hb5)
  clear hb5 HT HB3 HBY
  have hFl : (⟨(frameOf u A.data.toList).toArray⟩ : ByteArray).data.toList = frameOf u A.data.toList := rfl
  have hFb : (⟨(frameOf u A.data.toList).toArray⟩ : ByteArray).size ≤ 1000 := by omega
  generalize hFR : (⟨(frameOf u A.data.toList).toArray⟩ : ByteArray) = FR at *
  obtain ⟨P, hP⟩ : ∃ P : Int, P = max (-40) (min p (8 * (FR.size : Int) + 4)) := ⟨_, rfl⟩
  have hP1 : -40 ≤ P := by omega
  have hP2 : P ≤ 10000 := by omega
  have HP := Lib.hid hP
  have HFL : Hid (FR.data.toList = frameOf u A.data.toList) := Lib.hid (by rw [← hFR])
  clear hFl hFR hFz
  have HFP := Lib.hid (fun w => flip_any FR P m w (by omega) (by omega) (by omega) hm)
  have HTU := Lib.hid (fun w => turn_any FR P m w (by omega) (by omega) (by omega) hm)
  have hBz : (⟨(flipL FR.data.toList P m).toArray⟩ : ByteArray).size = FR.size := by rw [size_arr, flipL_length, size_len]
  have HF2 : Hid (∀ w : World, Calls Tryd.prog 23 #[.string ⟨(flipL FR.data.toList P m).toArray⟩, .int .i64 P, .int .u32 (m : Int)] w fun e w' => e = .returned (.string FR) ∧ Below w.heap.size w w') := Lib.hid (fun w => by
    have := flip_any ⟨(flipL FR.data.toList P m).toArray⟩ P m w (by omega) (by omega) (by omega) hm
    rw [show (⟨(flipL FR.data.toList P m).toArray⟩ : ByteArray).data.toList = flipL FR.data.toList P m from rfl, flipL_twice] at this
    exact this)
  have HPA : Hid (∀ (w : World), TabAt w tb → Calls Tryd.prog 17 #[.pointer (some ⟨tb, 0, none⟩), .string ⟨(flipL FR.data.toList P m).toArray⟩] w fun e w' => e = .returned (frV (frParse (flipL FR.data.toList P m))) ∧ Below w.heap.size w w') := Lib.hid (fun w h => frParse_any tb _ w h (by omega))
  have HEQ : Hid (flipL FR.data.toList P m ≠ FR.data.toList → frParse (flipL FR.data.toList P m) = (0, [], 4)) := Lib.hid (fun h => by rw [HFL.out] at h ⊢; exact frParse_flip u _ P m h)
  have HEQ2 : Hid (frParse FR.data.toList = (u, A.data.toList, 0)) := Lib.hid (by rw [HFL.out]; exact frParse_back u _ (by rw [size_len]; omega))
  clear hP
  go_wp2_with fail
  have hPP : max (-40) (min p (8 * (FR.size : Int) + 4)) = P := HP.out.symm
  rw [hPP]
  clear hPP
  by_cases hsame : flipL FR.data.toList P m = FR.data.toList
  · have hFF : (⟨(flipL FR.data.toList P m).toArray⟩ : ByteArray) = FR := str_eq hsame
    rw [hsame] at HPA HEQ
    rw [hFF] at HFP HTU HF2
    rw [HEQ2.out] at HPA
    have hFF2 : (⟨FR.data.toList.toArray⟩ : ByteArray) = FR := str_eq rfl
    rw [hFF2] at HPA
    clear hFF hFF2 hsame HEQ hBz
    refine (HFP.out _).mono ?_
    rintro e w6 ⟨rfl, hb6⟩
    have HT6 := Lib.hid (HT5.out.below hb6 HT5.out.lt)
    have HB6 := Lib.hid (belSeq HB5.out hb6)
    clear hb6 HT5 HB5
    go_wp2_with fail
    refine (HTU.out _).mono ?_
    rintro e w7 ⟨rfl, hb7⟩
    have HT7 := Lib.hid (HT6.out.below hb7 HT6.out.lt)
    have HB7 := Lib.hid (belSeq HB6.out hb7)
    clear hb7 HT6 HB6
    go_wp2_with fail
    refine (HF2.out _).mono ?_
    rintro e w8 ⟨rfl, hb8⟩
    have HT8 := Lib.hid (HT7.out.below hb8 HT7.out.lt)
    have HB8 := Lib.hid (belSeq HB7.out hb8)
    clear hb8 HT7 HB7
    go_wp2_with fail
    refine (HPA.out _ HT8.out).mono ?_
    rintro e w9 ⟨rfl, hb9⟩
    have HB9 := Lib.hid (belSeq HB8.out hb9)
    clear hb9 HT8 HB8
    unfold frV
    go_wp2_with fail
    go_ret
    exact ⟨ret_bool (by simp [Lib.toList_data]), HB9.out.alloc HB9.out.size _⟩
  · rw [HEQ.out hsame] at HPA
    have hne : ((⟨(flipL FR.data.toList P m).toArray⟩ : ByteArray).toList == FR.toList) = false := by
      rw [Lib.toList_data, Lib.toList_data]
      exact beq_eq_false_iff_ne.2 hsame
    clear hsame HEQ
    generalize (⟨(flipL FR.data.toList P m).toArray⟩ : ByteArray) = BAD at *
    refine (HFP.out _).mono ?_
    rintro e w6 ⟨rfl, hb6⟩
    have HT6 := Lib.hid (HT5.out.below hb6 HT5.out.lt)
    have HB6 := Lib.hid (belSeq HB5.out hb6)
    clear hb6 HT5 HB5
    go_wp2_with fail
    refine (HTU.out _).mono ?_
    rintro e w7 ⟨rfl, hb7⟩
    have HT7 := Lib.hid (HT6.out.below hb7 HT6.out.lt)
    have HB7 := Lib.hid (belSeq HB6.out hb7)
    clear hb7 HT6 HB6
    go_wp2_with fail
    refine (HF2.out _).mono ?_
    rintro e w8 ⟨rfl, hb8⟩
    have HT8 := Lib.hid (HT7.out.below hb8 HT7.out.lt)
    have HB8 := Lib.hid (belSeq HB7.out hb8)
    clear hb8 HT7 HB7
    go_wp2_with fail
    refine (HPA.out _ HT8.out).mono ?_
    rintro e w9 ⟨rfl, hb9⟩
    have HB9 := Lib.hid (belSeq HB8.out hb9)
    clear hb9 HT8 HB8
    unfold frV
    go_wp2_with fail
    go_ret
    exact ⟨ret_bool (by simp), HB9.out.alloc HB9.out.size _⟩
end Go.Proofs.YtdggnpecbdnkeaaDoor
