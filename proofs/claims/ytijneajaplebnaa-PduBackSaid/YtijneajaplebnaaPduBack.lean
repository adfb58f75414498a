/-
  The walk of the statement PduBack.
-/
import Derived.Test.YtijneajaplebnaaPduUnlike
import Derived.Test.YtijneajaplebnaaRefBytes
import Derived.Test.YtijneajaplebnaaPduParse
set_option linter.unusedVariables false
set_option linter.unusedSimpArgs false
namespace Go.Proofs.Ytijneajaplebnaa
open Go.RowKit
attribute [local go_sem ↓] Go.wp_at_zero Go.wp_at_succ

set_option maxRecDepth 100000 in
set_option maxHeartbeats 2000000 in
theorem pduBack_any (k sq n ps mr : Int) (lv : Value) (l : List Int) (self : Bool) (d : ByteArray) (w : World) (hl : IntsR .i64 w lv l) (hd : d.size ≤ maxLen) :
    Calls Try.prog 3 #[refV k sq n ps mr lv self d] w fun e w' => e = .returned (.bool true) ∧ Below w.heap.size w w' := by
  have HL := Lib.hid hl
  clear hl
  have HAW := Lib.hid awake_any
  unfold refV
  go_enter Try.func3, Try.ntmps3
  have HBX0 := Lib.hid (BoxAt.new w 24 [.int .i64 k, .int .i64 sq, .int .i64 n, .int .i64 ps, .int .i64 mr, lv, .bool self, .string d])
  go_wp2_with fail
  refine (HAW.out _).mono ?_
  rintro e w1 ⟨rfl, hb⟩
  have HBX1 := Lib.hid (HBX0.out.below hb (by simp))
  have HB1 := Lib.hid (belAlloc hb (by simp))
  have HL1 := Lib.hid (HL.out.alloc.below hb (by simp))
  have hp1 := HBX1.out.lt
  clear hb HAW HBX0 HL
  obtain ⟨q0, q1, q2, q3, q4, q5, q6, q7⟩ := HBX1.out.cells8
  go_wp2_with fail
  refine (few_any k sq n ps mr lv l self d _ HL1.out hd).mono ?_
  rintro e w2 ⟨lv2, rfl, hown2, hb2⟩
  have HBX2 := Lib.hid (HBX1.out.below hb2 hp1)
  have HB2 := Lib.hid (belSeq HB1.out hb2)
  have HO2 := Lib.hid hown2
  have hll2 : ((l.take 140).map cl).length ≤ 140 := by simp; omega
  have HLL := Lib.hid (cl_all l)
  have hds := cutB_size 210 d
  have hN := cl_in n
  have hPS := cl_in ps
  have hMR := cl_in mr
  clear hb2 hown2 HBX1 HB1 HL1 q0 q1 q2 q3 q4 q5 q6 q7 hd
  generalize (l.take 140).map cl = L at *
  generalize cutB 210 d = D at *
  generalize cl n = N at *
  generalize cl ps = PS at *
  generalize cl mr = MR at *
  obtain ⟨a2, c2, rfl, hc2, hm2, ha2⟩ := (IntsR.of_owns HO2.out (by omega)).len
  unfold refV
  obtain ⟨q0, q1, q2, q3, q4, q5, q6, q7⟩ := HBX2.out.cells8
  obtain ⟨f0, f1, f2, f3, f4, f5, f6, f7⟩ := HBX2.out.frozs8
  have HBX3 : Hid (BoxAt ((((((((w2.setCell ⟨w.heap.size, 0, none⟩ (.int .i64 k)).setCell ⟨w.heap.size, 1, none⟩ (.int .i64 sq)).setCell ⟨w.heap.size, 2, none⟩ (.int .i64 N)).setCell ⟨w.heap.size, 3, none⟩ (.int .i64 PS)).setCell ⟨w.heap.size, 4, none⟩ (.int .i64 MR)).setCell ⟨w.heap.size, 5, none⟩ (.slice a2 L.length c2)).setCell ⟨w.heap.size, 6, none⟩ (.bool self)).setCell ⟨w.heap.size, 7, none⟩ (.string D)) w.heap.size 24 [.int .i64 k, .int .i64 sq, .int .i64 N, .int .i64 PS, .int .i64 MR, .slice a2 L.length c2, .bool self, .string D]) := Lib.hid ((((((((HBX2.out.set 0 _).set 1 _).set 2 _).set 3 _).set 4 _).set 5 _).set 6 _).set 7 _)
  have HB3 : Hid (Below w.heap.size w ((((((((w2.setCell ⟨w.heap.size, 0, none⟩ (.int .i64 k)).setCell ⟨w.heap.size, 1, none⟩ (.int .i64 sq)).setCell ⟨w.heap.size, 2, none⟩ (.int .i64 N)).setCell ⟨w.heap.size, 3, none⟩ (.int .i64 PS)).setCell ⟨w.heap.size, 4, none⟩ (.int .i64 MR)).setCell ⟨w.heap.size, 5, none⟩ (.slice a2 L.length c2)).setCell ⟨w.heap.size, 6, none⟩ (.bool self)).setCell ⟨w.heap.size, 7, none⟩ (.string D))) := Lib.hid ((((((((HB2.out.setCell (Nat.le_refl _) _).setCell (Nat.le_refl _) _).setCell (Nat.le_refl _) _).setCell (Nat.le_refl _) _).setCell (Nat.le_refl _) _).setCell (Nat.le_refl _) _).setCell (Nat.le_refl _) _).setCell (Nat.le_refl _) _)
  have HL3 : Hid (IntsR .i64 ((((((((w2.setCell ⟨w.heap.size, 0, none⟩ (.int .i64 k)).setCell ⟨w.heap.size, 1, none⟩ (.int .i64 sq)).setCell ⟨w.heap.size, 2, none⟩ (.int .i64 N)).setCell ⟨w.heap.size, 3, none⟩ (.int .i64 PS)).setCell ⟨w.heap.size, 4, none⟩ (.int .i64 MR)).setCell ⟨w.heap.size, 5, none⟩ (.slice a2 L.length c2)).setCell ⟨w.heap.size, 6, none⟩ (.bool self)).setCell ⟨w.heap.size, 7, none⟩ (.string D)) (.slice a2 L.length c2) L) := Lib.hid (by
    refine IntsR.of_owns (base := w1.heap.size) (E := 3) ?_ (by omega)
    repeat refine ownsRow_setCell_below ?_ (by simp; omega) _
    exact HO2.out)
  go_upto_region 4 with fail
  clear q0 q1 q2 q3 q4 q5 q6 q7 f0 f1 f2 f3 f4 f5 f6 f7 HBX2 HB2 HO2
  generalize ((((((((w2.setCell ⟨w.heap.size, 0, none⟩ (.int .i64 k)).setCell ⟨w.heap.size, 1, none⟩ (.int .i64 sq)).setCell ⟨w.heap.size, 2, none⟩ (.int .i64 N)).setCell ⟨w.heap.size, 3, none⟩ (.int .i64 PS)).setCell ⟨w.heap.size, 4, none⟩ (.int .i64 MR)).setCell ⟨w.heap.size, 5, none⟩ (.slice a2 L.length c2)).setCell ⟨w.heap.size, 6, none⟩ (.bool self)).setCell ⟨w.heap.size, 7, none⟩ (.string D)) = W at *
  have hpW := HBX3.out.lt
  obtain ⟨q0, q1, q2, q3, q4, q5, q6, q7⟩ := HBX3.out.cells8
  go_wp2_with fail
  refine (own_few k sq N PS MR (.slice a2 L.length c2) L self D _ hN hPS hMR HL3.out (by omega) HLL.out).mono ?_
  rintro e w5 ⟨lv5, rfl, hI5, hb5⟩
  obtain ⟨a5, c5, rfl, _, _, _⟩ := hI5.len
  have HBX6 := Lib.hid ((HBX3.out.below hb5 hpW).alloc (o := .cells #[.int .i64 k, .int .i64 sq, .int .u32 N, .int .u32 PS, .int .u32 MR, .slice a5 L.length c5, .bool self, .string D] 31))
  have HBP6 := Lib.hid (BoxAt.new w5 31 [.int .i64 k, .int .i64 sq, .int .u32 N, .int .u32 PS, .int .u32 MR, .slice a5 L.length c5, .bool self, .string D])
  have HB5 := belSeq HB3.out hb5
  have HB6 := Lib.hid (HB5.alloc HB5.size (.cells #[.int .i64 k, .int .i64 sq, .int .u32 N, .int .u32 PS, .int .u32 MR, .slice a5 L.length c5, .bool self, .string D] 31))
  have HIX := Lib.hid ((HL3.out.below hb5 (Nat.le_refl _)).alloc (o := .cells #[.int .i64 k, .int .i64 sq, .int .u32 N, .int .u32 PS, .int .u32 MR, .slice a5 L.length c5, .bool self, .string D] 31))
  have HIP := Lib.hid (hI5.alloc (o := .cells #[.int .i64 k, .int .i64 sq, .int .u32 N, .int .u32 PS, .int .u32 MR, .slice a5 L.length c5, .bool self, .string D] 31))
  clear hb5 hI5 HBX3 HB3 HL3 HB5 q0 q1 q2 q3 q4 q5 q6 q7
  unfold pduV
  go_upto_region 5 with fail
  generalize w5.alloc (.cells #[.int .i64 k, .int .i64 sq, .int .u32 N, .int .u32 PS, .int .u32 MR, .slice a5 L.length c5, .bool self, .string D] 31) = W6 at *
  have hpx6 := HBX6.out.lt
  have hpp6 := HBP6.out.lt
  obtain ⟨x0, x1, x2, x3, x4, x5, x6, x7⟩ := HBX6.out.cells8
  obtain ⟨p0, p1, p2, p3, p4, p5, p6, p7⟩ := HBP6.out.cells8
  clear x0 x1 x2 x3 x4 x5 x6 x7 p0 p1 p2 p3 p4 p5 p6 p7
  by_cases hck : checkOf k sq N PS MR L self D.size = 0
  · have HCK := Lib.hid hck
    clear hck
    have HCK1 : Hid (∀ w : World, IntsR .u32 w (.slice a5 L.length c5) L → Calls Try.prog 10 #[.agg #[.int .i64 k, .int .i64 sq, .int .u32 N, .int .u32 PS, .int .u32 MR, .slice a5 L.length c5, .bool self, .string D]] w fun e w' => e = .returned (.int .i64 0) ∧ Below w.heap.size w w') := Lib.hid (fun w h => by
      have := check_any k sq N PS MR (.slice a5 L.length c5) L self D w hN hPS hMR h HLL.out (by omega) (by omega)
      rw [HCK.out] at this; exact this)
    have HCK2 : Hid (∀ w : World, IntsR .i64 w (.slice a2 L.length c2) L → Calls Try.prog 11 #[.agg #[.int .i64 k, .int .i64 sq, .int .i64 N, .int .i64 PS, .int .i64 MR, .slice a2 L.length c2, .bool self, .string D]] w fun e w' => e = .returned (.int .i64 0) ∧ Below w.heap.size w w') := Lib.hid (fun w h => by
      have := rcheck_any k sq N PS MR (.slice a2 L.length c2) L self D w hN.1 hPS.1 hMR.1 h (fun x hx => (HLL.out x hx).1) (by omega) (by omega)
      rw [HCK.out] at this; exact this)
    have HBY1 : Hid (∀ w : World, IntsR .u32 w (.slice a5 L.length c5) L → Calls Try.prog 12 #[.agg #[.int .i64 k, .int .i64 sq, .int .u32 N, .int .u32 PS, .int .u32 MR, .slice a5 L.length c5, .bool self, .string D]] w fun e w' => e = .returned (.string ⟨(bytesOf k sq N PS MR L self D.data.toList).toArray⟩) ∧ Below w.heap.size w w') := Lib.hid (fun w h => bytes_ok k sq N PS MR (.slice a5 L.length c5) L self D w hN.1 hPS.1 hMR.1 h (fun x hx => (HLL.out x hx).1) HCK.out)
    have HBY2 : Hid (∀ w : World, IntsR .i64 w (.slice a2 L.length c2) L → Calls Try.prog 13 #[.agg #[.int .i64 k, .int .i64 sq, .int .i64 N, .int .i64 PS, .int .i64 MR, .slice a2 L.length c2, .bool self, .string D]] w fun e w' => e = .returned (.string ⟨(bytesOf k sq N PS MR L self D.data.toList).toArray⟩) ∧ Below w.heap.size w w') := Lib.hid (fun w h => rbytes_ok k sq N PS MR (.slice a2 L.length c2) L self D w hN.1 hPS.1 hMR.1 h (fun x hx => (HLL.out x hx).1) HCK.out)
    have HLEN := Lib.hid (bytesOf_length k sq N PS MR L self D.data.toList)
    have HPA := Lib.hid (fun s w hs => parse_any k sq N PS MR L self D s w hN.1 hPS.1 hMR.1 (fun x hx => (HLL.out x hx).1) HCK.out hs)
    generalize hBB : bytesOf k sq N PS MR L self D.data.toList = BB at *
    have HBB := Lib.hid hBB
    clear hBB
    have HBA := Lib.hid (Below.refl W6.heap.size W6).drew
    go_wp2_with fail
    go_cut [23] (fun v wx => v = .bool false ∧ Below W6.heap.size W6 wx)
    case first =>
      go_region_held3 (fun w' => (w'.cell? ⟨w.heap.size, 0, none⟩ = some (.int .i64 k) ∧ w'.cell? ⟨w.heap.size, 1, none⟩ = some (.int .i64 sq) ∧ w'.cell? ⟨w.heap.size, 2, none⟩ = some (.int .i64 N) ∧ w'.cell? ⟨w.heap.size, 3, none⟩ = some (.int .i64 PS) ∧ w'.cell? ⟨w.heap.size, 4, none⟩ = some (.int .i64 MR) ∧ w'.cell? ⟨w.heap.size, 5, none⟩ = some (.slice a2 L.length c2) ∧ w'.cell? ⟨w.heap.size, 6, none⟩ = some (.bool self) ∧ w'.cell? ⟨w.heap.size, 7, none⟩ = some (.string D)) ∧ w'.cell? ⟨w5.heap.size, 0, none⟩ = some (.int .i64 k) ∧ w'.cell? ⟨w5.heap.size, 1, none⟩ = some (.int .i64 sq) ∧ w'.cell? ⟨w5.heap.size, 2, none⟩ = some (.int .u32 N) ∧ w'.cell? ⟨w5.heap.size, 3, none⟩ = some (.int .u32 PS) ∧ w'.cell? ⟨w5.heap.size, 4, none⟩ = some (.int .u32 MR) ∧ w'.cell? ⟨w5.heap.size, 5, none⟩ = some (.slice a5 L.length c5) ∧ w'.cell? ⟨w5.heap.size, 6, none⟩ = some (.bool self) ∧ w'.cell? ⟨w5.heap.size, 7, none⟩ = some (.string D)) (exact ⟨(HBX6.out.below HBA.out hpx6).cells8, (HBP6.out.below HBA.out hpp6).cells8⟩) (first | (go_at_call 10; (with_reducible refine (HCK1.out _ (HIP.out.below HBA.out (Nat.le_refl _))).mono ?_); rintro e w' ⟨rfl, hb⟩; have HBA : Hid (Below W6.heap.size W6 w') := Lib.hid (belSeq2 HBA.out hb); clear hb) | (go_at_call 11; (with_reducible refine (HCK2.out _ (HIX.out.below HBA.out (Nat.le_refl _))).mono ?_); rintro e w' ⟨rfl, hb⟩; have HBA : Hid (Below W6.heap.size W6 w') := Lib.hid (belSeq2 HBA.out hb); clear hb) | (go_at_call 12; (with_reducible refine (HBY1.out _ (HIP.out.below HBA.out (Nat.le_refl _))).mono ?_); rintro e w' ⟨rfl, hb⟩; have HBA : Hid (Below W6.heap.size W6 w') := Lib.hid (belSeq2 HBA.out hb); clear hb) | (go_at_call 13; (with_reducible refine (HBY2.out _ (HIX.out.below HBA.out (Nat.le_refl _))).mono ?_); rintro e w' ⟨rfl, hb⟩; have HBA : Hid (Below W6.heap.size W6 w') := Lib.hid (belSeq2 HBA.out hb); clear hb))
      all_goals
        go_wp2_with fail
        go_meet
        exact ⟨rfl, HBA.out⟩
    case rest =>
      obtain ⟨rfl, hbc⟩ := hcut
      have HBX7 := Lib.hid (HBX6.out.below hbc hpx6)
      have HBP7 := Lib.hid (HBP6.out.below hbc hpp6)
      have HB7 := Lib.hid (belSeq HB6.out hbc)
      have HIX7 := Lib.hid (HIX.out.below hbc (Nat.le_refl _))
      have HIP7 := Lib.hid (HIP.out.below hbc (Nat.le_refl _))
      have hpx7 := HBX7.out.lt
      have hpp7 := HBP7.out.lt
      clear hbc HBX6 HBP6 HB6 HIX HIP HBA
      obtain ⟨x0, x1, x2, x3, x4, x5, x6, x7⟩ := HBX7.out.cells8
      go_wp2_with fail
      refine (HCK2.out _ HIX7.out).mono ?_
      rintro e w8 ⟨rfl, hb8⟩
      have HBX8 := Lib.hid (HBX7.out.below hb8 hpx7)
      have HBP8 := Lib.hid (HBP7.out.below hb8 hpp7)
      have HB8 := Lib.hid (belSeq HB7.out hb8)
      have HIX8 := Lib.hid (HIX7.out.below hb8 (Nat.le_refl _))
      have HIP8 := Lib.hid (HIP7.out.below hb8 (Nat.le_refl _))
      have hpx8 := HBX8.out.lt
      have hpp8 := HBP8.out.lt
      clear hb8 HBX7 HBP7 HB7 HIX7 HIP7 x0 x1 x2 x3 x4 x5 x6 x7
      obtain ⟨p0, p1, p2, p3, p4, p5, p6, p7⟩ := HBP8.out.cells8
      go_wp2_with fail
      refine (HBY1.out _ HIP8.out).mono ?_
      rintro e w9 ⟨rfl, hb9⟩
      have HBX9 := Lib.hid (HBX8.out.below hb9 hpx8)
      have HBP9 := Lib.hid (HBP8.out.below hb9 hpp8)
      have HB9 := Lib.hid (belSeq HB8.out hb9)
      have HIX9 := Lib.hid (HIX8.out.below hb9 (Nat.le_refl _))
      have HIP9 := Lib.hid (HIP8.out.below hb9 (Nat.le_refl _))
      have hpx9 := HBX9.out.lt
      have hpp9 := HBP9.out.lt
      clear hb9 HBX8 HBP8 HB8 HIX8 HIP8 p0 p1 p2 p3 p4 p5 p6 p7
      go_wp2_with fail
      refine (HPA.out _ _ (by simp)).mono ?_
      rintro e w10 ⟨lq, rfl, hIq, hb10⟩
      obtain ⟨aq, cq, rfl, _, _, _⟩ := hIq.len
      have HBX10 := Lib.hid (HBX9.out.below hb10 hpx9)
      have HBP10 := Lib.hid (HBP9.out.below hb10 hpp9)
      have HB10 := Lib.hid (belSeq HB9.out hb10)
      have HIX10 := Lib.hid (HIX9.out.below hb10 (Nat.le_refl _))
      have HIP10 := Lib.hid (HIP9.out.below hb10 (Nat.le_refl _))
      have HIQ := Lib.hid hIq
      have hpx10 := HBX10.out.lt
      have hpp10 := HBP10.out.lt
      clear hb10 HBX9 HBP9 HB9 HIX9 HIP9 hIq
      unfold pduV
      obtain ⟨x0, x1, x2, x3, x4, x5, x6, x7⟩ := HBX10.out.cells8
      obtain ⟨p0, p1, p2, p3, p4, p5, p6, p7⟩ := HBP10.out.cells8
      go_wp2_with fail
      refine (same_any k sq N PS MR (.slice aq L.length cq) L self D k sq N PS MR (.slice a2 L.length c2) L self D _ hN hPS hMR HIQ.out.alloc HIX10.out.alloc (by omega) HLL.out).mono ?_
      rintro e w11 ⟨rfl, hb11⟩
      rw [show sameB k sq N PS MR L self D k sq N PS MR L self D = true from decide_eq_true ⟨rfl, rfl, rfl, rfl, rfl, rfl, rfl, rfl⟩]
      have HB11 := Lib.hid (HB10.out.trans ((((Below.refl _ w10).alloc (Nat.le_refl _) _).trans (hb11.mono (by simp))).mono HB10.out.size))
      have HBP11 := Lib.hid (HBP10.out.alloc.below hb11 (by simp; omega))
      have HIP11 := Lib.hid (HIP10.out.alloc.below hb11 (Nat.le_refl _))
      clear hb11 HBX10 HBP10 HIX10 HIP10 HIQ x0 x1 x2 x3 x4 x5 x6 x7 p0 p1 p2 p3 p4 p5 p6 p7
      obtain ⟨p0, p1, p2, p3, p4, p5, p6, p7⟩ := HBP11.out.cells8
      go_wp2_with fail
      refine (HBY1.out _ HIP11.out).mono ?_
      rintro e w12 ⟨rfl, hb12⟩
      have hbl : (⟨BB.toArray⟩ : ByteArray).size % 4 = 0 ∧ (⟨BB.toArray⟩ : ByteArray).size ≤ 10000 := by
        have h1 := wordsOf_length k sq PS MR L
        have h2 : (if sSq k then 1 else 0) ≤ 1 := by split <;> omega
        have h3 : (if sPs k then 1 else 0) ≤ 1 := by split <;> omega
        have h4 : (if sMr k then 1 else 0) ≤ 1 := by split <;> omega
        rw [size_arr, HLEN.out, size_len]; omega
      generalize (⟨BB.toArray⟩ : ByteArray) = SS at *
      have hbl2 : ((SS.size : Int) % 4 == 0) = true := by simp; omega
      go_wp2_with fail
      go_ret
      exact ⟨ret_bool (by first | rfl | (simp; done) | (simp; omega)), belSeq HB11.out hb12⟩
  · have HCK := Lib.hid hck
    obtain ⟨C, hC⟩ : ∃ C, checkOf k sq N PS MR L self D.size = C := ⟨_, rfl⟩
    have hck2 : (C != 0) = true := by rw [← hC]; simpa using hck
    clear hck
    have HCK1 : Hid (∀ w : World, IntsR .u32 w (.slice a5 L.length c5) L → Calls Try.prog 10 #[.agg #[.int .i64 k, .int .i64 sq, .int .u32 N, .int .u32 PS, .int .u32 MR, .slice a5 L.length c5, .bool self, .string D]] w fun e w' => e = .returned (.int .i64 C) ∧ Below w.heap.size w w') := Lib.hid (fun w h => by
      have := check_any k sq N PS MR (.slice a5 L.length c5) L self D w hN hPS hMR h HLL.out (by omega) (by omega)
      rw [hC] at this; exact this)
    have HCK2 : Hid (∀ w : World, IntsR .i64 w (.slice a2 L.length c2) L → Calls Try.prog 11 #[.agg #[.int .i64 k, .int .i64 sq, .int .i64 N, .int .i64 PS, .int .i64 MR, .slice a2 L.length c2, .bool self, .string D]] w fun e w' => e = .returned (.int .i64 C) ∧ Below w.heap.size w w') := Lib.hid (fun w h => by
      have := rcheck_any k sq N PS MR (.slice a2 L.length c2) L self D w hN.1 hPS.1 hMR.1 h (fun x hx => (HLL.out x hx).1) (by omega) (by omega)
      rw [hC] at this; exact this)
    have HBY1 : Hid (∀ w : World, IntsR .u32 w (.slice a5 L.length c5) L → Calls Try.prog 12 #[.agg #[.int .i64 k, .int .i64 sq, .int .u32 N, .int .u32 PS, .int .u32 MR, .slice a5 L.length c5, .bool self, .string D]] w fun e w' => e = .returned (.string ⟨#[]⟩) ∧ Below w.heap.size w w') := Lib.hid (fun w h => bytes_bad k sq N PS MR (.slice a5 L.length c5) L self D w hN hPS hMR h HLL.out (by omega) (by omega) HCK.out)
    have HBY2 : Hid (∀ w : World, IntsR .i64 w (.slice a2 L.length c2) L → Calls Try.prog 13 #[.agg #[.int .i64 k, .int .i64 sq, .int .i64 N, .int .i64 PS, .int .i64 MR, .slice a2 L.length c2, .bool self, .string D]] w fun e w' => e = .returned (.string ⟨#[]⟩) ∧ Below w.heap.size w w') := Lib.hid (fun w h => rbytes_bad k sq N PS MR (.slice a2 L.length c2) L self D w hN.1 hPS.1 hMR.1 h (fun x hx => (HLL.out x hx).1) (by omega) (by omega) HCK.out)
    clear hC
    have HBA := Lib.hid (Below.refl W6.heap.size W6).drew
    go_wp2_with fail
    go_cut [23] (fun v wx => v = .bool false ∧ Below W6.heap.size W6 wx)
    case first =>
      go_region_held3 (fun w' => (w'.cell? ⟨w.heap.size, 0, none⟩ = some (.int .i64 k) ∧ w'.cell? ⟨w.heap.size, 1, none⟩ = some (.int .i64 sq) ∧ w'.cell? ⟨w.heap.size, 2, none⟩ = some (.int .i64 N) ∧ w'.cell? ⟨w.heap.size, 3, none⟩ = some (.int .i64 PS) ∧ w'.cell? ⟨w.heap.size, 4, none⟩ = some (.int .i64 MR) ∧ w'.cell? ⟨w.heap.size, 5, none⟩ = some (.slice a2 L.length c2) ∧ w'.cell? ⟨w.heap.size, 6, none⟩ = some (.bool self) ∧ w'.cell? ⟨w.heap.size, 7, none⟩ = some (.string D)) ∧ w'.cell? ⟨w5.heap.size, 0, none⟩ = some (.int .i64 k) ∧ w'.cell? ⟨w5.heap.size, 1, none⟩ = some (.int .i64 sq) ∧ w'.cell? ⟨w5.heap.size, 2, none⟩ = some (.int .u32 N) ∧ w'.cell? ⟨w5.heap.size, 3, none⟩ = some (.int .u32 PS) ∧ w'.cell? ⟨w5.heap.size, 4, none⟩ = some (.int .u32 MR) ∧ w'.cell? ⟨w5.heap.size, 5, none⟩ = some (.slice a5 L.length c5) ∧ w'.cell? ⟨w5.heap.size, 6, none⟩ = some (.bool self) ∧ w'.cell? ⟨w5.heap.size, 7, none⟩ = some (.string D)) (exact ⟨(HBX6.out.below HBA.out hpx6).cells8, (HBP6.out.below HBA.out hpp6).cells8⟩) (first | (go_at_call 10; (with_reducible refine (HCK1.out _ (HIP.out.below HBA.out (Nat.le_refl _))).mono ?_); rintro e w' ⟨rfl, hb⟩; have HBA : Hid (Below W6.heap.size W6 w') := Lib.hid (belSeq2 HBA.out hb); clear hb) | (go_at_call 11; (with_reducible refine (HCK2.out _ (HIX.out.below HBA.out (Nat.le_refl _))).mono ?_); rintro e w' ⟨rfl, hb⟩; have HBA : Hid (Below W6.heap.size W6 w') := Lib.hid (belSeq2 HBA.out hb); clear hb) | (go_at_call 12; (with_reducible refine (HBY1.out _ (HIP.out.below HBA.out (Nat.le_refl _))).mono ?_); rintro e w' ⟨rfl, hb⟩; have HBA : Hid (Below W6.heap.size W6 w') := Lib.hid (belSeq2 HBA.out hb); clear hb) | (go_at_call 13; (with_reducible refine (HBY2.out _ (HIX.out.below HBA.out (Nat.le_refl _))).mono ?_); rintro e w' ⟨rfl, hb⟩; have HBA : Hid (Below W6.heap.size W6 w') := Lib.hid (belSeq2 HBA.out hb); clear hb))
      all_goals
        go_wp2_with fail
        go_meet
        exact ⟨rfl, HBA.out⟩
    case rest =>
      obtain ⟨rfl, hbc⟩ := hcut
      have HBX7 := Lib.hid (HBX6.out.below hbc hpx6)
      have HBP7 := Lib.hid (HBP6.out.below hbc hpp6)
      have HB7 := Lib.hid (belSeq HB6.out hbc)
      have HIX7 := Lib.hid (HIX.out.below hbc (Nat.le_refl _))
      have HIP7 := Lib.hid (HIP.out.below hbc (Nat.le_refl _))
      have hpx7 := HBX7.out.lt
      have hpp7 := HBP7.out.lt
      clear hbc HBX6 HBP6 HB6 HIX HIP HBA
      obtain ⟨x0, x1, x2, x3, x4, x5, x6, x7⟩ := HBX7.out.cells8
      go_wp2_with fail
      refine (HCK2.out _ HIX7.out).mono ?_
      rintro e w8 ⟨rfl, hb8⟩
      go_wp2_with fail
      go_ret
      exact ⟨rfl, belSeq HB7.out hb8⟩
end Go.Proofs.Ytijneajaplebnaa
