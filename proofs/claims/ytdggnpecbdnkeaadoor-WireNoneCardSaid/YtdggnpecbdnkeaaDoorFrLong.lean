/-
  The walk of the statement FrameLong.
-/
import Derived.Test.YtdggnpecbdnkeaaDoorFrUnlike
import Derived.Laws.OwnMore
import Derived.Laws.BytesArg
set_option linter.unusedVariables false
set_option linter.unusedSimpArgs false
namespace Go.Proofs.YtdggnpecbdnkeaaDoor
open Go.RowKit

/-- Noughts. -/
def zerosB (m : Nat) : ByteArray := ⟨(List.replicate m 0).toArray⟩
theorem zerosB_size (m : Nat) : (zerosB m).size = m := by simp [zerosB, ByteArray.size]
theorem u8_facts : (Tryd.prog.info? 5).map (fun i => (i.zero, i.bytes, i.size)) = some (some (.int .u8 0), 1, 1) := by kernel_rfl
theorem make_zeros (m : Nat) (hm : m ≤ 1000000) (w : World) : (Instr.makeSlice 45 (.int .i64 (m : Int)) (.int .i64 (m : Int))).run Tryd.prog w =
    .ok (.slice (some ⟨w.heap.size, 0, none⟩) m m) (w.alloc (.cells (Array.replicate m (Value.int .u8 0)) 5)) := by
  obtain ⟨i, hi, hq⟩ := Option.map_eq_some_iff.1 u8_facts
  simp only [Prod.mk.injEq] at hq
  obtain ⟨hz, hy, hs⟩ := hq
  have h := run_make (P := Tryd.prog) w 45 5 i (.int .u8 0) Tryd.underlying45 hi hz .i64 .i64 (m : Int) (m : Int) (by omega) (by omega) (by rw [hy]; omega) (by omega)
  rw [h, hs, Nat.mul_one, Int.toNat_natCast]
  have e : (madeCells (Value.int IntKind.u8 0).cells m) = (Array.replicate m (Value.int .u8 0)) := by
    apply Array.toList_inj.1
    rw [show (Value.int IntKind.u8 0).cells = #[Value.int .u8 0] from rfl, toList_madeCells_one]; simp
  rw [e]
theorem conv_zeros (m : Nat) (w : World) (b : Nat) (hb : w.heap.size = b) :
    (convert 45 9 (.slice (some ⟨b, 0, none⟩) m m)).run Tryd.prog (w.alloc (.cells (Array.replicate m (Value.int .u8 0)) 5)) = .ok (.string (zerosB m)) (w.alloc (.cells (Array.replicate m (Value.int .u8 0)) 5)) := by
  subst hb
  rw [(run_convert_bytes_arg _ 45 5 Tryd.underlying45 Tryd.underlying5 w.heap.size 0 m m (List.replicate m 0) (by simp) (by
    intro i hi
    rw [World.cell?_alloc_mark]
    simp [hi])) 9 Tryd.underlying9]
  congr 2
  apply str_eq
  rw [strOfNums_data]
  simp [zerosB]

set_option maxRecDepth 100000 in
set_option maxHeartbeats 1000000 in
theorem frameLong_any (n : Int) (w : World) : Calls Tryd.prog 5 #[.int .i64 n] w fun e w' => e = .returned (.bool true) ∧ Below w.heap.size w w' := by
  have HAW := Lib.hid awake5
  have HMK := Lib.hid make_any
  go_enter Tryd.func5, Tryd.ntmps5
  go_wp2_with fail
  refine (HAW.out _).mono ?_
  rintro e w1 ⟨rfl, hb1⟩
  have HB1 := Lib.hid hb1
  clear hb1
  go_wp2_with fail
  refine (HMK.out _).mono ?_
  rintro e w2 ⟨rfl, hb2⟩
  have HB2 := Lib.hid (belSeq HB1.out hb2)
  clear hb2 HB1
  have HT := Lib.hid (TabAt.of_box (BoxAt.new w2 26 tabCells))
  have HB3 := Lib.hid (HB2.out.alloc HB2.out.size (.cells tabCells.toArray 26))
  obtain ⟨m, hm⟩ : ∃ m : Nat, max 0 (min n 65540) = (m : Int) := ⟨(max 0 (min n 65540)).toNat, by omega⟩
  rw [hm]
  have hmb : m ≤ 65540 := by omega
  clear hm
  have kmk := make_zeros m (by omega)
  have kcv := conv_zeros m
  have hzs := zerosB_size m
  generalize zerosB m = Z at *
  go_wp2_with (refine wpList_store_new rfl 26 _ _ rfl w2.heap.size 26 Tryd.zeroCells26 tabCells.toArray rfl rfl rfl zero_size tab_size2 tabCells_one ?_)
  have HT3 := Lib.hid (HT.out.below ((Below.refl _ _).alloc (Nat.le_refl _) (.cells (Array.replicate m (Value.int .u8 0)) 5)) HT.out.lt)
  have HB4 := Lib.hid (HB3.out.alloc HB3.out.size (.cells (Array.replicate m (Value.int .u8 0)) 5))
  clear HT HB3 kmk kcv
  generalize (w2.alloc (.cells tabCells.toArray 26)).alloc (.cells (Array.replicate m (Value.int .u8 0)) 5) = W3 at *
  generalize w2.heap.size = tb at *
  by_cases hbig : 65535 < m
  · have HBY := Lib.hid (fun (w : World) => frBytes_big 0 Z tb w (by omega) (by omega))
    refine (HBY.out _).mono ?_
    rintro e w5 ⟨rfl, hb5⟩
    have HB5 := Lib.hid (belSeq HB4.out hb5)
    clear hb5
    have ht : decide (65535 < m) = true := by simpa using hbig
    go_wp2_with fail
    go_ret
    exact ⟨ret_bool rfl, HB5.out⟩
  · have HBY : Hid (∀ w : World, TabAt w tb → Calls Tryd.prog 16 #[.agg #[.int .u8 0, .string Z], .pointer (some ⟨tb, 0, none⟩)] w fun e w' => e = .returned (.tuple #[.string ⟨(frameOf 0 Z.data.toList).toArray⟩, .int .i64 0]) ∧ Below w.heap.size w w') := Lib.hid (fun w ht => frBytes_ok 0 Z tb w ht (by omega))
    have hFz : (⟨(frameOf 0 Z.data.toList).toArray⟩ : ByteArray).size = ((m + 7) / 48 + 1) * 48 := by rw [size_arr, frameOf_length, size_len, hzs]
    have HPA : Hid (∀ (w : World), TabAt w tb → Calls Tryd.prog 17 #[.pointer (some ⟨tb, 0, none⟩), .string ⟨(frameOf 0 Z.data.toList).toArray⟩] w fun e w' => e = .returned (.tuple #[.agg #[.int .u8 0, .string Z], .int .i64 0]) ∧ Below w.heap.size w w') := Lib.hid (fun w h => by
      have := frParse_any tb ⟨(frameOf 0 Z.data.toList).toArray⟩ w h (by rw [hFz]; omega)
      rw [show (⟨(frameOf 0 Z.data.toList).toArray⟩ : ByteArray).data.toList = frameOf 0 Z.data.toList from rfl, frParse_back 0 Z.data.toList (by rw [size_len]; omega)] at this
      exact this)
    have HC := Lib.hid (fun w => cells_any (m : Int) (by omega) w)
    have hcc : 48 * cellsOf (m : Int) = ((⟨(frameOf 0 Z.data.toList).toArray⟩ : ByteArray).size : Int) := by
      rw [hFz]; unfold cellsOf; rw [if_neg (by omega)]; omega
    have hFb : (⟨(frameOf 0 Z.data.toList).toArray⟩ : ByteArray).size ≤ 66000 := by omega
    have hF1 : (m : Int) ≤ ((⟨(frameOf 0 Z.data.toList).toArray⟩ : ByteArray).size : Int) - 8 := by omega
    have hF2 : ((⟨(frameOf 0 Z.data.toList).toArray⟩ : ByteArray).size : Int) - 8 - (m : Int) < 48 := by omega
    generalize (⟨(frameOf 0 Z.data.toList).toArray⟩ : ByteArray) = FR at *
    generalize cellsOf (m : Int) = cc at *
    have HCC : Hid (((FR.size : Int) == 48 * cc) = true) := Lib.hid (by rw [hcc]; simp)
    have hc1 : 0 ≤ cc := by omega
    have hc2 : cc ≤ 10000 := by omega
    have HZS : Hid (((Z.size : Int) == (m : Int)) = true) := Lib.hid (by rw [hzs]; simp)
    have ht : decide (65535 < m) = false := by simpa using hbig
    clear hFz hcc hzs
    refine (HBY.out _ HT3.out).mono ?_
    rintro e w5 ⟨rfl, hb5⟩
    have HT5 := Lib.hid (HT3.out.below hb5 HT3.out.lt)
    have HB5 := Lib.hid (belSeq HB4.out hb5)
    clear hb5 HT3 HB4
    go_wp2_with fail
    refine (HPA.out _ HT5.out).mono ?_
    rintro e w6 ⟨rfl, hb6⟩
    have HB6 := Lib.hid (belSeq HB5.out hb6)
    clear hb6 HT5 HB5
    have hz := HZS.out
    go_wp2_with fail
    refine (HC.out _).mono ?_
    rintro e w8 ⟨rfl, rfl⟩
    have hc := HCC.out
    go_wp2_with fail
    go_ret
    exact ⟨ret_bool (by first | rfl | exact hc), HB6.out.alloc HB6.out.size _⟩
end Go.Proofs.YtdggnpecbdnkeaaDoor
