/-
  The walk of the statement WireNone.
-/
import Derived.Test.YtdggnpecbdnkeaaDoorWireOps
import Derived.Test.YtdggnpecbdnkeaaDoorFrLong
import Derived.Test.YtdggnpecbdnkeaaDoorFrFlips
set_option linter.unusedVariables false
set_option linter.unusedSimpArgs false
namespace Go.Proofs.YtdggnpecbdnkeaaDoor
open Go.RowKit
attribute [local go_sem ↓] Go.wp_at_zero Go.wp_at_succ

theorem run_zeros : ∀ (m : Nat) (x : BitVec 32), run x (List.replicate m 0) = stN (8 * m) x
  | 0, x => rfl
  | m + 1, x => by
    rw [List.replicate_succ]
    show run (on x 0) (List.replicate m 0) = _
    rw [run_zeros m]
    have e : on x 0 = stN 8 x := by
      unfold on
      have : topB (0 : UInt8).toNat = 0#32 := by decide
      rw [this, BitVec.xor_zero]
    rw [e, stN_add, show 8 * (m + 1) = 8 + 8 * m by omega]
theorem st_far : ∀ q : Fin 4, stN (384 * q.val + 352) ones32 ≠ ones32 := by decide +kernel
theorem zeros_no (q : Nat) (hq : q < 4) : fitsB (List.replicate (48 * (1 + q)) 0) = false := by
  cases hf : fitsB (List.replicate (48 * (1 + q)) 0) with
  | false => rfl
  | true =>
    exfalso
    have h := fits_run _ hf
    rw [run_zeros, show 8 * (48 * (1 + q)) = (384 * q + 352) + 32 by omega, ← stN_add] at h
    exact st_far ⟨q, hq⟩ (stN_inj 32 h)
set_option maxRecDepth 100000 in
set_option maxHeartbeats 1000000 in
theorem wireNone_any (a : ByteArray) (n : Int) (ha : a.size ≤ maxLen) (w : World) :
    Calls Tryd.prog 9 #[.string a, .int .i64 n] w fun e w' => e = .returned (.bool true) ∧ Below w.heap.size w w' := by
  have HAW := Lib.hid awake7
  have HNW := Lib.hid new_any
  have HCA : Hid (∀ W : World, Calls Tryd.prog 14 #[.string a, .int .i64 300] W fun e w' => e = .returned (.string (cutL 300 a)) ∧ W = w') := Lib.hid (fun W => cut_any a 300 W ha (by omega))
  have hsa := cutL_size 300 a
  generalize cutL 300 a = A at *
  obtain ⟨q, hq, hq4⟩ : ∃ q : Nat, bits .and .i64 n 3 = (q : Int) ∧ q < 4 := by
    refine ⟨(n % 4).toNat, ?_, by omega⟩
    have := mask_i64 n 2 (by omega)
    rw [show (2 : Int) ^ 2 - 1 = 3 by decide, show (2 : Int) ^ 2 = 4 by decide] at this
    rw [this]; omega
  have HQ := Lib.hid hq
  clear hq
  have HZQ : Hid (fitsB (zerosB (48 * (1 + q))).data.toList = false) := Lib.hid (by unfold zerosB; exact zeros_no q hq4)
  obtain ⟨m, hm1, hm2, hm3, hm4⟩ : ∃ m : Nat, m = 48 * (1 + q) ∧ m ≤ 192 ∧ m % 48 = 0 ∧ m ≠ 0 := ⟨_, rfl, by omega, by omega, by omega⟩
  rw [← hm1] at HZQ
  have HMK : Hid (∀ w : World, (Instr.makeSlice 45 (.int .i64 (48 * (1 + (q : Int)))) (.int .i64 (48 * (1 + (q : Int))))).run Tryd.prog w = .ok (.slice (some ⟨w.heap.size, 0, none⟩) m m) (w.alloc (.cells (Array.replicate m (Value.int .u8 0)) 5))) := Lib.hid (fun w => by
    rw [show 48 * (1 + (q : Int)) = (m : Int) by omega]; exact make_zeros m (by omega) w)
  have hzs := zerosB_size m
  have HOZ := Lib.hid (fun (tb : Nat) (w : World) (ht : TabAt w tb) => open_err tb (zerosB m) 4 w ht (by omega) (by unfold frParse; rw [size_len, hzs, if_neg (by omega), if_pos HZQ.out]) (by omega))
  have HSZ : Hid (∀ (tb : Nat) (w : World), TabAt w tb → Calls Tryd.prog 28 #[.pointer (some ⟨tb, 0, none⟩), .string (zerosB m)] w fun e w' => e = .returned (.bool false) ∧ Below w.heap.size w w') := Lib.hid (fun tb w ht => by
    have := sound_any tb (zerosB m) w ht (by omega)
    rw [show soundB (zerosB m).data.toList = false from by unfold soundB; rw [HZQ.out, Bool.and_false]] at this
    exact this)
  have HOE := Lib.hid (fun (tb : Nat) (w : World) (ht : TabAt w tb) => open_err tb ⟨#[]⟩ 5 w ht (by decide) (by unfold frParse; rfl) (by omega))
  clear hm1 HZQ hzs
  go_enter Tryd.func9, Tryd.ntmps9
  go_wp2_with fail
  refine (HAW.out _).mono ?_
  rintro e w1 ⟨rfl, hb1⟩
  have HB1 := Lib.hid hb1
  clear hb1
  go_wp2_with fail
  refine (HCA.out _).mono ?_
  rintro e w1' ⟨rfl, rfl⟩
  go_wp2_with fail
  refine (HNW.out _).mono ?_
  rintro e w2 ⟨tb, rfl, ht, hb2⟩
  have HT := Lib.hid ht
  have HB := Lib.hid (belSeq HB1.out hb2)
  clear hb2 ht HB1
  have hmz := HQ.out
  by_cases h48 : A.size % 48 = 0
  · have ht48 : ((A.size : Int) % 48 == 0) = true := by simp; omega
    have hXz : (A ++ ⟨#[120]⟩ : ByteArray).size = A.size + 1 := by rw [← size_len, dapp, List.length_append, size_len]; rfl
    have hXm : (A ++ ⟨#[120]⟩ : ByteArray).size % 48 ≠ 0 := by omega
    generalize hXX : (A ++ ⟨#[120]⟩ : ByteArray) = X at *
    clear h48

    have hXb : X.size ≤ 400 := by omega
    have HOX := Lib.hid (fun (w : World) (ht : TabAt w tb) => open_err tb X 5 w ht (by omega) (by unfold frParse; rw [size_len, if_pos (Or.inr hXm)]) (by omega))
    have HSX : Hid (∀ (w : World), TabAt w tb → Calls Tryd.prog 28 #[.pointer (some ⟨tb, 0, none⟩), .string X] w fun e w' => e = .returned (.bool false) ∧ Below w.heap.size w w') := Lib.hid (fun w ht => by
      have := sound_any tb X w ht (by omega)
      rw [show soundB X.data.toList = false from by unfold soundB; rw [size_len, decide_eq_false hXm, Bool.and_false]; rfl] at this
      exact this)
    clear hXm
    go_wp2_with fail
    refine (HOX.out _ HT.out).mono ?_
    rintro e w3 ⟨rfl, hb3⟩
    have HT3 := Lib.hid (HT.out.below (hb3.alloc hb3.size (.cells #[.int .i64 0, .int .i64 0, .int .u32 0, .int .u32 0, .int .u32 0, .slice none 0 0, .bool false, .string ⟨#[]⟩] 59)) HT.out.lt)
    have HB3 := Lib.hid (belSeq HB.out (hb3.alloc hb3.size (.cells #[.int .i64 0, .int .i64 0, .int .u32 0, .int .u32 0, .int .u32 0, .slice none 0 0, .bool false, .string ⟨#[]⟩] 59)))
    unfold zeroPdu pduV at *
    clear hb3 HT HB HOX
    have kmk := HMK.out
    have kcv := conv_zeros m
    generalize zerosB m = Z at *
    go_wp2_with fail
    generalize w3.alloc (.cells #[.int .i64 0, .int .i64 0, .int .u32 0, .int .u32 0, .int .u32 0, .slice none 0 0, .bool false, .string ⟨#[]⟩] 59) = W3 at *
    have HT4 := Lib.hid (HT3.out.below ((Below.refl _ _).alloc (Nat.le_refl _) (.cells (Array.replicate m (Value.int .u8 0)) 5)) HT3.out.lt)
    have HB4 := Lib.hid (HB3.out.alloc HB3.out.size (.cells (Array.replicate m (Value.int .u8 0)) 5))
    clear HT3 HB3 kmk kcv
    generalize W3.alloc (.cells (Array.replicate m (Value.int .u8 0)) 5) = W4 at *
    refine (HOZ.out tb _ HT4.out).mono ?_
    rintro e w5 ⟨rfl, hb5⟩
    have HT5 := Lib.hid (HT4.out.below hb5 HT4.out.lt)
    have HB5 := Lib.hid (belSeq HB4.out hb5)
    have HBZ := Lib.hid (BoxAt.new w5 59 [.int .i64 0, .int .i64 0, .int .u32 0, .int .u32 0, .int .u32 0, .slice none 0 0, .bool false, .string ⟨#[]⟩])
    have HT6 := Lib.hid (HT5.out.below ((Below.refl _ _).alloc (Nat.le_refl _) (.cells #[.int .i64 0, .int .i64 0, .int .u32 0, .int .u32 0, .int .u32 0, .slice none 0 0, .bool false, .string ⟨#[]⟩] 59)) HT5.out.lt)
    have HB6 := Lib.hid (HB5.out.alloc HB5.out.size (.cells #[.int .i64 0, .int .i64 0, .int .u32 0, .int .u32 0, .int .u32 0, .slice none 0 0, .bool false, .string ⟨#[]⟩] 59))
    clear hb5 HT4 HB4 HT5 HB5
    go_wp2_with fail
    generalize w5.alloc (.cells #[.int .i64 0, .int .i64 0, .int .u32 0, .int .u32 0, .int .u32 0, .slice none 0 0, .bool false, .string ⟨#[]⟩] 59) = W6 at *
    generalize w5.heap.size = zb at *
    refine (HOE.out tb _ HT6.out).mono ?_
    rintro e w7 ⟨rfl, hb7⟩
    have HT7 := Lib.hid (HT6.out.below hb7 HT6.out.lt)
    have HB7 := Lib.hid (belSeq HB6.out hb7)
    have HBZ7 := Lib.hid (HBZ.out.below hb7 HBZ.out.lt)
    have HT8 := Lib.hid (HT7.out.below ((Below.refl _ _).alloc (Nat.le_refl _) (.cells #[.int .i64 0, .int .i64 0, .int .u32 0, .int .u32 0, .int .u32 0, .slice none 0 0, .bool false, .string ⟨#[]⟩] 59)) HT7.out.lt)
    have HB8 := Lib.hid (HB7.out.alloc HB7.out.size (.cells #[.int .i64 0, .int .i64 0, .int .u32 0, .int .u32 0, .int .u32 0, .slice none 0 0, .bool false, .string ⟨#[]⟩] 59))
    have HBZ8 := Lib.hid (HBZ7.out.alloc (o := .cells #[.int .i64 0, .int .i64 0, .int .u32 0, .int .u32 0, .int .u32 0, .slice none 0 0, .bool false, .string ⟨#[]⟩] 59))
    clear hb7 HT6 HB6 HBZ HT7 HB7 HBZ7
    go_wp2_with fail
    generalize w7.alloc (.cells #[.int .i64 0, .int .i64 0, .int .u32 0, .int .u32 0, .int .u32 0, .slice none 0 0, .bool false, .string ⟨#[]⟩] 59) = W8 at *
    obtain ⟨z0, z1, z2, z3, z4, z5, z6, z7⟩ := HBZ8.out.cells8
    clear z1 z2 z3 z4 z5 z6 z7
    refine (HSX.out _ HT8.out).mono ?_
    rintro e w9 ⟨rfl, hb9⟩
    have z9 := (bcell hb9 _ _ HBZ8.out.lt).trans z0
    have HT9 := Lib.hid (HT8.out.below hb9 HT8.out.lt)
    have HB9 := Lib.hid (belSeq HB8.out hb9)
    clear hb9 HT8 HB8 z0
    go_wp2_with fail
    refine (HSZ.out tb _ HT9.out).mono ?_
    rintro e w10 ⟨rfl, hb10⟩
    have HB10 := Lib.hid (belSeq HB9.out hb10)
    clear hb10 HT9 HB9 z9
    go_wp2_with fail
    go_ret
    exact ⟨ret_bool rfl, HB10.out⟩

  · have ht48 : ((A.size : Int) % 48 == 0) = false := by simp; omega
    have hXm : A.size % 48 ≠ 0 := h48
    clear h48
    generalize A = X at *

    have hXb : X.size ≤ 400 := by omega
    have HOX := Lib.hid (fun (w : World) (ht : TabAt w tb) => open_err tb X 5 w ht (by omega) (by unfold frParse; rw [size_len, if_pos (Or.inr hXm)]) (by omega))
    have HSX : Hid (∀ (w : World), TabAt w tb → Calls Tryd.prog 28 #[.pointer (some ⟨tb, 0, none⟩), .string X] w fun e w' => e = .returned (.bool false) ∧ Below w.heap.size w w') := Lib.hid (fun w ht => by
      have := sound_any tb X w ht (by omega)
      rw [show soundB X.data.toList = false from by unfold soundB; rw [size_len, decide_eq_false hXm, Bool.and_false]; rfl] at this
      exact this)
    clear hXm
    go_wp2_with fail
    refine (HOX.out _ HT.out).mono ?_
    rintro e w3 ⟨rfl, hb3⟩
    have HT3 := Lib.hid (HT.out.below (hb3.alloc hb3.size (.cells #[.int .i64 0, .int .i64 0, .int .u32 0, .int .u32 0, .int .u32 0, .slice none 0 0, .bool false, .string ⟨#[]⟩] 59)) HT.out.lt)
    have HB3 := Lib.hid (belSeq HB.out (hb3.alloc hb3.size (.cells #[.int .i64 0, .int .i64 0, .int .u32 0, .int .u32 0, .int .u32 0, .slice none 0 0, .bool false, .string ⟨#[]⟩] 59)))
    unfold zeroPdu pduV at *
    clear hb3 HT HB HOX
    have kmk := HMK.out
    have kcv := conv_zeros m
    generalize zerosB m = Z at *
    go_wp2_with fail
    generalize w3.alloc (.cells #[.int .i64 0, .int .i64 0, .int .u32 0, .int .u32 0, .int .u32 0, .slice none 0 0, .bool false, .string ⟨#[]⟩] 59) = W3 at *
    have HT4 := Lib.hid (HT3.out.below ((Below.refl _ _).alloc (Nat.le_refl _) (.cells (Array.replicate m (Value.int .u8 0)) 5)) HT3.out.lt)
    have HB4 := Lib.hid (HB3.out.alloc HB3.out.size (.cells (Array.replicate m (Value.int .u8 0)) 5))
    clear HT3 HB3 kmk kcv
    generalize W3.alloc (.cells (Array.replicate m (Value.int .u8 0)) 5) = W4 at *
    refine (HOZ.out tb _ HT4.out).mono ?_
    rintro e w5 ⟨rfl, hb5⟩
    have HT5 := Lib.hid (HT4.out.below hb5 HT4.out.lt)
    have HB5 := Lib.hid (belSeq HB4.out hb5)
    have HBZ := Lib.hid (BoxAt.new w5 59 [.int .i64 0, .int .i64 0, .int .u32 0, .int .u32 0, .int .u32 0, .slice none 0 0, .bool false, .string ⟨#[]⟩])
    have HT6 := Lib.hid (HT5.out.below ((Below.refl _ _).alloc (Nat.le_refl _) (.cells #[.int .i64 0, .int .i64 0, .int .u32 0, .int .u32 0, .int .u32 0, .slice none 0 0, .bool false, .string ⟨#[]⟩] 59)) HT5.out.lt)
    have HB6 := Lib.hid (HB5.out.alloc HB5.out.size (.cells #[.int .i64 0, .int .i64 0, .int .u32 0, .int .u32 0, .int .u32 0, .slice none 0 0, .bool false, .string ⟨#[]⟩] 59))
    clear hb5 HT4 HB4 HT5 HB5
    go_wp2_with fail
    generalize w5.alloc (.cells #[.int .i64 0, .int .i64 0, .int .u32 0, .int .u32 0, .int .u32 0, .slice none 0 0, .bool false, .string ⟨#[]⟩] 59) = W6 at *
    generalize w5.heap.size = zb at *
    refine (HOE.out tb _ HT6.out).mono ?_
    rintro e w7 ⟨rfl, hb7⟩
    have HT7 := Lib.hid (HT6.out.below hb7 HT6.out.lt)
    have HB7 := Lib.hid (belSeq HB6.out hb7)
    have HBZ7 := Lib.hid (HBZ.out.below hb7 HBZ.out.lt)
    have HT8 := Lib.hid (HT7.out.below ((Below.refl _ _).alloc (Nat.le_refl _) (.cells #[.int .i64 0, .int .i64 0, .int .u32 0, .int .u32 0, .int .u32 0, .slice none 0 0, .bool false, .string ⟨#[]⟩] 59)) HT7.out.lt)
    have HB8 := Lib.hid (HB7.out.alloc HB7.out.size (.cells #[.int .i64 0, .int .i64 0, .int .u32 0, .int .u32 0, .int .u32 0, .slice none 0 0, .bool false, .string ⟨#[]⟩] 59))
    have HBZ8 := Lib.hid (HBZ7.out.alloc (o := .cells #[.int .i64 0, .int .i64 0, .int .u32 0, .int .u32 0, .int .u32 0, .slice none 0 0, .bool false, .string ⟨#[]⟩] 59))
    clear hb7 HT6 HB6 HBZ HT7 HB7 HBZ7
    go_wp2_with fail
    generalize w7.alloc (.cells #[.int .i64 0, .int .i64 0, .int .u32 0, .int .u32 0, .int .u32 0, .slice none 0 0, .bool false, .string ⟨#[]⟩] 59) = W8 at *
    obtain ⟨z0, z1, z2, z3, z4, z5, z6, z7⟩ := HBZ8.out.cells8
    clear z1 z2 z3 z4 z5 z6 z7
    refine (HSX.out _ HT8.out).mono ?_
    rintro e w9 ⟨rfl, hb9⟩
    have z9 := (bcell hb9 _ _ HBZ8.out.lt).trans z0
    have HT9 := Lib.hid (HT8.out.below hb9 HT8.out.lt)
    have HB9 := Lib.hid (belSeq HB8.out hb9)
    clear hb9 HT8 HB8 z0
    go_wp2_with fail
    refine (HSZ.out tb _ HT9.out).mono ?_
    rintro e w10 ⟨rfl, hb10⟩
    have HB10 := Lib.hid (belSeq HB9.out hb10)
    clear hb10 HT9 HB9 z9
    go_wp2_with fail
    go_ret
    exact ⟨ret_bool rfl, HB10.out⟩

end Go.Proofs.YtdggnpecbdnkeaaDoor
