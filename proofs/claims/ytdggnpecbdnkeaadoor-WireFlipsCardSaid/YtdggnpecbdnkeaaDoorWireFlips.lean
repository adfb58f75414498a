/-
  The walk of the statement WireFlips.
-/
import Derived.Test.YtdggnpecbdnkeaaDoorWireOps
import Derived.Test.YtdggnpecbdnkeaaDoorPduSame
import Derived.Test.YtdggnpecbdnkeaaDoorPduFew
import Derived.Test.YtdggnpecbdnkeaaDoorFrFlips
set_option linter.unusedVariables false
set_option linter.unusedSimpArgs false
namespace Go.Proofs.YtdggnpecbdnkeaaDoor
open Go.RowKit
attribute [local go_sem ↓] Go.wp_at_zero Go.wp_at_succ

theorem sound_err {l : List UInt8} (h : frParse l = (0, [], 4)) : soundB l = false := by
  unfold frParse at h
  unfold soundB
  by_cases h0 : l.length = 0 ∨ l.length % 48 ≠ 0
  · rcases h0 with h0 | h0
    · rw [decide_eq_false (by omega : ¬ l.length ≠ 0)]; rfl
    · rw [decide_eq_false h0, Bool.and_false]; rfl
  · rw [if_neg h0] at h
    cases hf : fitsB l with
    | false => rw [Bool.and_false]
    | true =>
      exfalso
      rw [if_neg (by rw [hf]; simp)] at h
      split at h
      · simp at h
      · split at h
        · simp at h
        · simp at h
set_option maxRecDepth 100000 in
set_option maxHeartbeats 2000000 in
theorem wireFlips_any (k sq n ps mr : Int) (lv : Value) (l : List Int) (self : Bool) (d : ByteArray) (p : Int) (m : Nat) (w : World) (hl : IntsR .i64 w lv l) (hd : d.size ≤ maxLen) (hm : m < 4294967296) :
    Calls Tryd.prog 12 #[refV k sq n ps mr lv self d, .int .i64 p, .int .u32 (m : Int)] w fun e w' => e = .returned (.bool true) ∧ Below w.heap.size w w' := by
  have HL := Lib.hid hl
  clear hl
  have HAW := Lib.hid awake7
  have HNW := Lib.hid new_any
  unfold refV
  go_enter Tryd.func12, Tryd.ntmps12
  have HBX0 := Lib.hid (BoxAt.new w 65 [.int .i64 k, .int .i64 sq, .int .i64 n, .int .i64 ps, .int .i64 mr, lv, .bool self, .string d])
  go_wp2_with fail
  refine (HAW.out _).mono ?_
  rintro e w1 ⟨rfl, hb⟩
  have HBX1 := Lib.hid (HBX0.out.below hb (by simp))
  have HB1 := Lib.hid (belAlloc hb (by simp))
  have HL1 := Lib.hid (HL.out.alloc.below hb (by simp))
  have hp1 := HBX1.out.lt
  clear hb HAW HBX0 HL
  obtain ⟨q0, q1, q2, q3, q4, q5, q6, q7⟩ := HBX1.out.cells8
  go_wp2_with fail
  refine (few_any k sq n ps mr lv l self d _ HL1.out hd).mono ?_
  rintro e w2 ⟨lv2, rfl, hown2, hb2⟩
  have HBX2 := Lib.hid (HBX1.out.below hb2 hp1)
  have HB2 := Lib.hid (belSeq HB1.out hb2)
  have HO2 := Lib.hid hown2
  have hll2 : ((l.take 140).map cl).length ≤ 140 := by simp; omega
  have HLL := Lib.hid (cl_all l)
  have hds := cutB_size 210 d
  have hN := cl_in n
  have hPS := cl_in ps
  have hMR := cl_in mr
  clear hb2 hown2 HBX1 HB1 HL1 q0 q1 q2 q3 q4 q5 q6 q7 hd
  generalize (l.take 140).map cl = L at *
  generalize cutB 210 d = D at *
  generalize cl n = N at *
  generalize cl ps = PS at *
  generalize cl mr = MR at *
  obtain ⟨a2, c2, rfl, hc2, hm2, ha2⟩ := (IntsR.of_owns HO2.out (by omega)).len
  unfold refV
  obtain ⟨q0, q1, q2, q3, q4, q5, q6, q7⟩ := HBX2.out.cells8
  obtain ⟨f0, f1, f2, f3, f4, f5, f6, f7⟩ := HBX2.out.frozs8
  have HBX3 : Hid (BoxAt ((((((((w2.setCell ⟨w.heap.size, 0, none⟩ (.int .i64 k)).setCell ⟨w.heap.size, 1, none⟩ (.int .i64 sq)).setCell ⟨w.heap.size, 2, none⟩ (.int .i64 N)).setCell ⟨w.heap.size, 3, none⟩ (.int .i64 PS)).setCell ⟨w.heap.size, 4, none⟩ (.int .i64 MR)).setCell ⟨w.heap.size, 5, none⟩ (.slice a2 L.length c2)).setCell ⟨w.heap.size, 6, none⟩ (.bool self)).setCell ⟨w.heap.size, 7, none⟩ (.string D)) w.heap.size 65 [.int .i64 k, .int .i64 sq, .int .i64 N, .int .i64 PS, .int .i64 MR, .slice a2 L.length c2, .bool self, .string D]) := Lib.hid ((((((((HBX2.out.set 0 _).set 1 _).set 2 _).set 3 _).set 4 _).set 5 _).set 6 _).set 7 _)
  have HB3 : Hid (Below w.heap.size w ((((((((w2.setCell ⟨w.heap.size, 0, none⟩ (.int .i64 k)).setCell ⟨w.heap.size, 1, none⟩ (.int .i64 sq)).setCell ⟨w.heap.size, 2, none⟩ (.int .i64 N)).setCell ⟨w.heap.size, 3, none⟩ (.int .i64 PS)).setCell ⟨w.heap.size, 4, none⟩ (.int .i64 MR)).setCell ⟨w.heap.size, 5, none⟩ (.slice a2 L.length c2)).setCell ⟨w.heap.size, 6, none⟩ (.bool self)).setCell ⟨w.heap.size, 7, none⟩ (.string D))) := Lib.hid ((((((((HB2.out.setCell (Nat.le_refl _) _).setCell (Nat.le_refl _) _).setCell (Nat.le_refl _) _).setCell (Nat.le_refl _) _).setCell (Nat.le_refl _) _).setCell (Nat.le_refl _) _).setCell (Nat.le_refl _) _).setCell (Nat.le_refl _) _)
  have HL3 : Hid (IntsR .i64 ((((((((w2.setCell ⟨w.heap.size, 0, none⟩ (.int .i64 k)).setCell ⟨w.heap.size, 1, none⟩ (.int .i64 sq)).setCell ⟨w.heap.size, 2, none⟩ (.int .i64 N)).setCell ⟨w.heap.size, 3, none⟩ (.int .i64 PS)).setCell ⟨w.heap.size, 4, none⟩ (.int .i64 MR)).setCell ⟨w.heap.size, 5, none⟩ (.slice a2 L.length c2)).setCell ⟨w.heap.size, 6, none⟩ (.bool self)).setCell ⟨w.heap.size, 7, none⟩ (.string D)) (.slice a2 L.length c2) L) := Lib.hid (by
    refine IntsR.of_owns (base := w1.heap.size) (E := 3) ?_ (by omega)
    repeat refine ownsRow_setCell_below ?_ (by simp; omega) _
    exact HO2.out)
  go_upto_region 4 with fail
  clear q0 q1 q2 q3 q4 q5 q6 q7 f0 f1 f2 f3 f4 f5 f6 f7 HBX2 HB2 HO2
  generalize ((((((((w2.setCell ⟨w.heap.size, 0, none⟩ (.int .i64 k)).setCell ⟨w.heap.size, 1, none⟩ (.int .i64 sq)).setCell ⟨w.heap.size, 2, none⟩ (.int .i64 N)).setCell ⟨w.heap.size, 3, none⟩ (.int .i64 PS)).setCell ⟨w.heap.size, 4, none⟩ (.int .i64 MR)).setCell ⟨w.heap.size, 5, none⟩ (.slice a2 L.length c2)).setCell ⟨w.heap.size, 6, none⟩ (.bool self)).setCell ⟨w.heap.size, 7, none⟩ (.string D)) = W at *
  have hpW := HBX3.out.lt
  go_wp2_with fail
  refine (HNW.out _).mono ?_
  rintro e w4 ⟨tb, rfl, ht, hb4⟩
  have HT4 := Lib.hid ht
  have HBX4 := Lib.hid (HBX3.out.below hb4 hpW)
  have HB4 := Lib.hid (belSeq HB3.out hb4)
  have HL4 := Lib.hid (HL3.out.below hb4 (Nat.le_refl _))
  clear ht hb4 HBX3 HB3 HL3 hpW
  have hpW := HBX4.out.lt
  obtain ⟨q0, q1, q2, q3, q4, q5, q6, q7⟩ := HBX4.out.cells8
  go_wp2_with fail
  refine (own_few k sq N PS MR (.slice a2 L.length c2) L self D _ hN hPS hMR HL4.out (by omega) HLL.out).mono ?_
  rintro e w5 ⟨lv5, rfl, hI5, hb5⟩
  obtain ⟨a5, c5, rfl, _, _, _⟩ := hI5.len
  have HBX5 := Lib.hid (HBX4.out.below hb5 hpW)
  have HB5 := Lib.hid (belSeq HB4.out hb5)
  have HIX5 := Lib.hid (HL4.out.below hb5 (Nat.le_refl _))
  have HIP5 := Lib.hid hI5
  have HT5 := Lib.hid (HT4.out.below hb5 HT4.out.lt)
  clear hb5 hI5 HBX4 HB4 HL4 HT4 q0 q1 q2 q3 q4 q5 q6 q7
  unfold pduV
  by_cases hck : checkOf k sq N PS MR L self D.size = 0
  · skip
    have HCK := Lib.hid hck
    clear hck
    have HCK2 : Hid (∀ w : World, IntsR .i64 w (.slice a2 L.length c2) L → Calls Tryd.prog 32 #[.agg #[.int .i64 k, .int .i64 sq, .int .i64 N, .int .i64 PS, .int .i64 MR, .slice a2 L.length c2, .bool self, .string D]] w fun e w' => e = .returned (.int .i64 0) ∧ Below w.heap.size w w') := Lib.hid (fun w h => by
      have := rcheck_any k sq N PS MR (.slice a2 L.length c2) L self D w hN.1 hPS.1 hMR.1 h (fun x hx => (HLL.out x hx).1) (by omega) (by omega)
      rw [HCK.out] at this; exact this)
    have HBY : Hid (∀ w : World, IntsR .u32 w (.slice a5 L.length c5) L → Calls Tryd.prog 36 #[.agg #[.int .i64 k, .int .i64 sq, .int .u32 N, .int .u32 PS, .int .u32 MR, .slice a5 L.length c5, .bool self, .string D]] w fun e w' => e = .returned (.string ⟨(bytesOf k sq N PS MR L self D.data.toList).toArray⟩) ∧ Below w.heap.size w w') := Lib.hid (fun w h => bytes_ok k sq N PS MR (.slice a5 L.length c5) L self D w hN.1 hPS.1 hMR.1 h (fun x hx => (HLL.out x hx).1) HCK.out)
    have HSI : Hid (∀ w : World, IntsR .u32 w (.slice a5 L.length c5) L → Calls Tryd.prog 34 #[.agg #[.int .i64 k, .int .i64 sq, .int .u32 N, .int .u32 PS, .int .u32 MR, .slice a5 L.length c5, .bool self, .string D]] w fun e w' => e = .returned (.int .i64 (48 * cellsOf ((bytesOf k sq N PS MR L self D.data.toList).length : Int))) ∧ Below w.heap.size w w') := Lib.hid (fun w h => size_ok k sq N PS MR (.slice a5 L.length c5) L self D w hN hPS hMR h HLL.out HCK.out)
    have HPK : Hid (∀ (tb : Nat) (w : World), TabAt w tb → IntsR .u32 w (.slice a5 L.length c5) L → Calls Tryd.prog 31 #[.pointer (some ⟨tb, 0, none⟩), .agg #[.int .i64 k, .int .i64 sq, .int .u32 N, .int .u32 PS, .int .u32 MR, .slice a5 L.length c5, .bool self, .string D]] w fun e w' => e = .returned (.tuple #[.string ⟨(packOf k sq N PS MR L self D.data.toList).toArray⟩, .int .i64 0]) ∧ Below w.heap.size w w') := Lib.hid (fun tb w ht h => pack_ok tb k sq N PS MR (.slice a5 L.length c5) L self D w ht hN hPS hMR h HLL.out HCK.out)
    have HRP : Hid (∀ w : World, IntsR .i64 w (.slice a2 L.length c2) L → Calls Tryd.prog 33 #[.agg #[.int .i64 k, .int .i64 sq, .int .i64 N, .int .i64 PS, .int .i64 MR, .slice a2 L.length c2, .bool self, .string D]] w fun e w' => e = .returned (.string ⟨(packOf k sq N PS MR L self D.data.toList).toArray⟩) ∧ Below w.heap.size w w') := Lib.hid (fun w h => rpack_ok k sq N PS MR (.slice a2 L.length c2) L self D w hN.1 hPS.1 hMR.1 h (fun x hx => (HLL.out x hx).1) HCK.out)
    have HOP := Lib.hid (fun (tb : Nat) (s : ByteArray) (w : World) (ht : TabAt w tb) (hs : s.data.toList = packOf k sq N PS MR L self D.data.toList) => open_ok tb k sq N PS MR L self D s w ht hN.1 hPS.1 hMR.1 (fun x hx => (HLL.out x hx).1) HCK.out hs)
    have hble := bytesOf_le (n := N) (ps := PS) (mr := MR) (self := self) HCK.out
    have hplen : (packOf k sq N PS MR L self D.data.toList).length = (((bytesOf k sq N PS MR L self D.data.toList).length + 7) / 48 + 1) * 48 := frameOf_length 0 _
    have hPZ : (⟨(packOf k sq N PS MR L self D.data.toList).toArray⟩ : ByteArray).size = (((bytesOf k sq N PS MR L self D.data.toList).length + 7) / 48 + 1) * 48 := by rw [size_arr, hplen]
    have HFL : Hid ((⟨(packOf k sq N PS MR L self D.data.toList).toArray⟩ : ByteArray).data.toList = frameOf 0 (bytesOf k sq N PS MR L self D.data.toList)) := Lib.hid rfl
    have HOQ := Lib.hid (fun (w : World) (ht : TabAt w tb) => HOP.out tb ⟨(packOf k sq N PS MR L self D.data.toList).toArray⟩ w ht rfl)
    clear HBY HOP HSI HRP
    generalize (⟨(packOf k sq N PS MR L self D.data.toList).toArray⟩ : ByteArray) = PP at *
    have hpz : PP.size ≤ 10000 := by omega
    clear hPZ hplen hble
    obtain ⟨Q, hQ⟩ : ∃ Q : Int, Q = max (-40) (min p (8 * (PP.size : Int) + 4)) := ⟨_, rfl⟩
    have hQ1 : -40 ≤ Q := by omega
    have hQ2 : Q ≤ 100000 := by omega
    have HQ := Lib.hid hQ
    clear hQ
    have HFP := Lib.hid (fun w => flip_any PP Q m w (by omega) (by omega) (by omega) hm)
    have hBz : (⟨(flipL PP.data.toList Q m).toArray⟩ : ByteArray).size = PP.size := by rw [size_arr, flipL_length, size_len]
    have HFB : Hid (flipL PP.data.toList Q m ≠ PP.data.toList → frParse (flipL PP.data.toList Q m) = (0, [], 4)) := Lib.hid (fun h => by rw [HFL.out] at h ⊢; exact frParse_flip 0 _ Q m h)
    go_wp2_with fail
    refine (HPK.out tb _ HT5.out HIP5.out).mono ?_
    rintro e w6 ⟨rfl, hb6⟩
    have HBX6 := Lib.hid (HBX5.out.below hb6 HBX5.out.lt)
    have HB6 := Lib.hid (belSeq HB5.out hb6)
    have HIX6 := Lib.hid (HIX5.out.below hb6 (Nat.le_refl _))
    have HT6 := Lib.hid (HT5.out.below hb6 HT5.out.lt)
    clear hb6 HBX5 HB5 HIX5 HT5
    clear HIP5
    go_wp2_with fail
    have hQQ : max (-40) (min p (8 * (PP.size : Int) + 4)) = Q := HQ.out.symm
    rw [hQQ]
    clear hQQ
    by_cases hsame : flipL PP.data.toList Q m = PP.data.toList
    · have hFF : (⟨(flipL PP.data.toList Q m).toArray⟩ : ByteArray) = PP := str_eq hsame
      rw [hFF] at HFP
      clear hFF hsame hBz HFB
      skip
      refine (HFP.out _).mono ?_
      rintro e w7 ⟨rfl, hb7⟩
      have HBX7 := Lib.hid (HBX6.out.below hb7 HBX6.out.lt)
      have HB7 := Lib.hid (belSeq HB6.out hb7)
      have HIX7 := Lib.hid (HIX6.out.below hb7 (Nat.le_refl _))
      have HT7 := Lib.hid (HT6.out.below hb7 HT6.out.lt)
      clear hb7 HBX6 HB6 HIX6 HT6
      go_wp2_with fail
      refine (HOQ.out _ HT7.out).mono ?_
      rintro e w8 ⟨lq, rfl, hIq, hb8⟩
      obtain ⟨aq, cq, rfl, _, _, _⟩ := hIq.len
      have HBX8 := Lib.hid (HBX7.out.below hb8 HBX7.out.lt)
      have HB8 := Lib.hid (belSeq HB7.out hb8)
      have HIX8 := Lib.hid (HIX7.out.below hb8 (Nat.le_refl _))
      have HIQ := Lib.hid hIq
      clear hb8 HBX7 HB7 HIX7 hIq HT7
      unfold pduV
      obtain ⟨x0, x1, x2, x3, x4, x5, x6, x7⟩ := HBX8.out.cells8
      have hpx8 := HBX8.out.lt
      go_wp2_with fail
      refine (same_any k sq N PS MR (.slice aq L.length cq) L self D k sq N PS MR (.slice a2 L.length c2) L self D _ hN hPS hMR HIQ.out.alloc HIX8.out.alloc (by omega) HLL.out).mono ?_
      rintro e w9 ⟨rfl, hb9⟩
      rw [show sameB k sq N PS MR L self D k sq N PS MR L self D = true from decide_eq_true ⟨rfl, rfl, rfl, rfl, rfl, rfl, rfl, rfl⟩]
      have HB9 := Lib.hid (belSeq HB8.out (belAlloc hb9 (by simp)))
      clear hb9 x0 x1 x2 x3 x4 x5 x6 x7
      go_wp2_with fail
      go_ret
      exact ⟨ret_bool rfl, HB9.out⟩
    · have hfp := HFB.out hsame
      have hne : ((⟨(flipL PP.data.toList Q m).toArray⟩ : ByteArray).toList == PP.toList) = false := by
        rw [Lib.toList_data, Lib.toList_data]
        exact beq_eq_false_iff_ne.2 hsame
      have HOE := Lib.hid (fun (w : World) (ht : TabAt w tb) => open_err tb ⟨(flipL PP.data.toList Q m).toArray⟩ 4 w ht (by omega) hfp (by omega))
      have HSB : Hid (∀ (w : World), TabAt w tb → Calls Tryd.prog 28 #[.pointer (some ⟨tb, 0, none⟩), .string ⟨(flipL PP.data.toList Q m).toArray⟩] w fun e w' => e = .returned (.bool false) ∧ Below w.heap.size w w') := Lib.hid (fun w ht => by
        have := sound_any tb ⟨(flipL PP.data.toList Q m).toArray⟩ w ht (by omega)
        rw [sound_err hfp] at this
        exact this)
      clear hfp hsame HFB hBz
      generalize (⟨(flipL PP.data.toList Q m).toArray⟩ : ByteArray) = BAD at *
      skip
      refine (HFP.out _).mono ?_
      rintro e w7 ⟨rfl, hb7⟩
      have HBX7 := Lib.hid (HBX6.out.below hb7 HBX6.out.lt)
      have HB7 := Lib.hid (belSeq HB6.out hb7)
      have HIX7 := Lib.hid (HIX6.out.below hb7 (Nat.le_refl _))
      have HT7 := Lib.hid (HT6.out.below hb7 HT6.out.lt)
      clear hb7 HBX6 HB6 HIX6 HT6
      unfold zeroPdu pduV at *
      go_wp2_with fail
      refine (HOE.out _ HT7.out).mono ?_
      rintro e w8 ⟨rfl, hb8⟩
      have HB8 := Lib.hid (belSeq HB7.out hb8)
      have HT8 := Lib.hid (HT7.out.below hb8 HT7.out.lt)
      have HBZ := Lib.hid (BoxAt.new w8 59 [.int .i64 0, .int .i64 0, .int .u32 0, .int .u32 0, .int .u32 0, .slice none 0 0, .bool false, .string ⟨#[]⟩])
      clear hb8 HBX7 HB7 HIX7 HT7
      go_wp2_with fail
      refine (HSB.out _ (HT8.out.below ((Below.refl _ _).alloc (Nat.le_refl _) _) HT8.out.lt)).mono ?_
      rintro e w9 ⟨rfl, hb9⟩
      have HB9 := Lib.hid (belSeq HB8.out (belAlloc hb9 (by simp)))
      obtain ⟨z0, z1, z2, z3, z4, z5, z6, z7⟩ := (HBZ.out.below hb9 (by simp)).cells8
      clear hb9 HBZ z1 z2 z3 z4 z5 z6 z7
      go_wp2_with fail
      go_ret
      exact ⟨ret_bool rfl, HB9.out⟩
  · skip
    have hck2 : (checkOf k sq N PS MR L self D.size != 0) = true := by simpa using hck
    have HCK2 := Lib.hid (fun (w : World) (h : IntsR .i64 w (.slice a2 L.length c2) L) => rcheck_any k sq N PS MR (.slice a2 L.length c2) L self D w hN.1 hPS.1 hMR.1 h (fun x hx => (HLL.out x hx).1) (by omega) (by omega))
    have HBY := Lib.hid (fun (w : World) (h : IntsR .u32 w (.slice a5 L.length c5) L) => bytes_bad k sq N PS MR (.slice a5 L.length c5) L self D w hN hPS hMR h HLL.out (by omega) (by omega) hck)
    have HSI := Lib.hid (fun (w : World) (h : IntsR .u32 w (.slice a5 L.length c5) L) => size_bad k sq N PS MR (.slice a5 L.length c5) L self D w hN hPS hMR h HLL.out (by omega) (by omega) hck)
    have HPK := Lib.hid (fun (tb : Nat) (w : World) (h : IntsR .u32 w (.slice a5 L.length c5) L) => pack_bad tb k sq N PS MR (.slice a5 L.length c5) L self D w hN hPS hMR h HLL.out (by omega) (by omega) hck)
    have HRP := Lib.hid (fun (w : World) (h : IntsR .i64 w (.slice a2 L.length c2) L) => rpack_bad k sq N PS MR (.slice a2 L.length c2) L self D w hN.1 hPS.1 hMR.1 h (fun x hx => (HLL.out x hx).1) (by omega) (by omega) hck)
    unfold refV at HCK2 HRP
    unfold pduV at HBY HSI HPK
    generalize checkOf k sq N PS MR L self D.size = R at *
    clear hck
    go_wp2_with fail
    refine (HPK.out tb _ HIP5.out).mono ?_
    rintro e w6 ⟨rfl, hb6⟩
    have HBX6 := Lib.hid (HBX5.out.below hb6 HBX5.out.lt)
    have HB6 := Lib.hid (belSeq HB5.out hb6)
    have HIX6 := Lib.hid (HIX5.out.below hb6 (Nat.le_refl _))
    have HT6 := Lib.hid (HT5.out.below hb6 HT5.out.lt)
    clear hb6 HBX5 HB5 HIX5 HT5
    obtain ⟨x0, x1, x2, x3, x4, x5, x6, x7⟩ := HBX6.out.cells8
    go_wp2_with fail
    refine (HCK2.out _ HIX6.out).mono ?_
    rintro e w7 ⟨rfl, hb7⟩
    have HBX7 := Lib.hid (HBX6.out.below hb7 HBX6.out.lt)
    have HB7 := Lib.hid (belSeq HB6.out hb7)
    have HIX7 := Lib.hid (HIX6.out.below hb7 (Nat.le_refl _))
    have HT7 := Lib.hid (HT6.out.below hb7 HT6.out.lt)
    clear hb7 HBX6 HB6 HIX6 HT6
    clear x0 x1 x2 x3 x4 x5 x6 x7
    go_wp2_with fail
    go_ret
    exact ⟨ret_bool (by simp), HB7.out⟩
end Go.Proofs.YtdggnpecbdnkeaaDoor
