/-
  The walk of the statement TraceBack.
-/
import Derived.Test.YtohenohgceaibaaGreatDoorTrAwake
import Derived.Test.YtohenohgceaibaaGreatDoorPduFewLaw
import Derived.Test.YtohenohgceaibaaGreatDoorRefPdu
import Derived.Test.YtohenohgceaibaaGreatDoorRefCheck
import Derived.Test.YtohenohgceaibaaGreatDoorTrRef
import Derived.Test.YtohenohgceaibaaGreatDoorPduSame
import Derived.Deep.RegionHeld3
set_option linter.unusedVariables false
set_option linter.unusedSimpArgs false
namespace Go.Proofs.YtohenohgceaibaaGreatDoor
open Go.RowKit
attribute [local go_sem ↓] Go.wp_at_zero Go.wp_at_succ

def BackP (w : World) (k sq n ps mr : Int) (l : List Int) (self : Bool) (d : ByteArray) (e : Ending) (w' : World) : Prop :=
  ∃ a c, e = .returned (.tuple #[.agg #[.int .i64 k, .int .i64 sq, .int .u32 n, .int .u32 ps, .int .u32 mr, .slice a l.length c, .bool self, .string d], .bool true]) ∧ IntsR .u32 w' (.slice a l.length c) l ∧ Below w.heap.size w w'
set_option maxRecDepth 100000 in
set_option maxHeartbeats 4000000 in
theorem traceBack_any (k sq n ps mr : Int) (lv : Value) (l : List Int) (self : Bool) (d : ByteArray) (w : World) (hl : IntsR .i64 w lv l) (hd : d.size ≤ maxLen) (he : Env w) :
    Calls Tryz.prog 3 #[refV k sq n ps mr lv self d] w fun e w' => e = .returned (.bool true) ∧ Below w.heap.size w w' := by
  have HL := Lib.hid hl
  have HE := Lib.hid he
  clear hl he
  have HAW := Lib.hid awake19
  unfold refV
  go_enter Tryz.func3, Tryz.ntmps3
  have HBX0 := Lib.hid (BoxAt.new w 24 [.int .i64 k, .int .i64 sq, .int .i64 n, .int .i64 ps, .int .i64 mr, lv, .bool self, .string d])
  go_wp2_with fail
  refine (HAW.out _ HE.out.alloc).mono ?_
  rintro e w1 ⟨rfl, hb⟩
  have HBX1 := Lib.hid (HBX0.out.below hb (by simp))
  have HB1 := Lib.hid (belAlloc hb (by simp))
  have HL1 := Lib.hid (HL.out.alloc.below hb (by simp))
  have hp1 := HBX1.out.lt
  clear hb HAW HBX0 HL
  obtain ⟨q0, q1, q2, q3, q4, q5, q6, q7⟩ := HBX1.out.cells8
  go_wp2_with fail
  refine (few_any k sq n ps mr lv l self d _ HL1.out hd).mono ?_
  rintro e w2 ⟨lv2, rfl, hown2, hb2⟩
  have HBX2 := Lib.hid (HBX1.out.below hb2 hp1)
  have HB2 := Lib.hid (belSeq HB1.out hb2)
  have HO2 := Lib.hid hown2
  have hll2 : ((l.take 140).map cl).length ≤ 140 := by simp; omega
  have HLL := Lib.hid (cl_all l)
  have hds := cutB_size 210 d
  have hN := cl_in n
  have hPS := cl_in ps
  have hMR := cl_in mr
  clear hb2 hown2 HBX1 HB1 HL1 q0 q1 q2 q3 q4 q5 q6 q7 hd
  generalize (l.take 140).map cl = L at *
  generalize cutB 210 d = D at *
  generalize cl n = N at *
  generalize cl ps = PS at *
  generalize cl mr = MR at *
  obtain ⟨a2, c2, rfl, hc2, hm2, ha2⟩ := (IntsR.of_owns HO2.out (by omega)).len
  unfold refV
  obtain ⟨q0, q1, q2, q3, q4, q5, q6, q7⟩ := HBX2.out.cells8
  obtain ⟨f0, f1, f2, f3, f4, f5, f6, f7⟩ := HBX2.out.frozs8
  have HBX3 : Hid (BoxAt ((((((((w2.setCell ⟨w.heap.size, 0, none⟩ (.int .i64 k)).setCell ⟨w.heap.size, 1, none⟩ (.int .i64 sq)).setCell ⟨w.heap.size, 2, none⟩ (.int .i64 N)).setCell ⟨w.heap.size, 3, none⟩ (.int .i64 PS)).setCell ⟨w.heap.size, 4, none⟩ (.int .i64 MR)).setCell ⟨w.heap.size, 5, none⟩ (.slice a2 L.length c2)).setCell ⟨w.heap.size, 6, none⟩ (.bool self)).setCell ⟨w.heap.size, 7, none⟩ (.string D)) w.heap.size 24 [.int .i64 k, .int .i64 sq, .int .i64 N, .int .i64 PS, .int .i64 MR, .slice a2 L.length c2, .bool self, .string D]) := Lib.hid ((((((((HBX2.out.set 0 _).set 1 _).set 2 _).set 3 _).set 4 _).set 5 _).set 6 _).set 7 _)
  have HB3 : Hid (Below w.heap.size w ((((((((w2.setCell ⟨w.heap.size, 0, none⟩ (.int .i64 k)).setCell ⟨w.heap.size, 1, none⟩ (.int .i64 sq)).setCell ⟨w.heap.size, 2, none⟩ (.int .i64 N)).setCell ⟨w.heap.size, 3, none⟩ (.int .i64 PS)).setCell ⟨w.heap.size, 4, none⟩ (.int .i64 MR)).setCell ⟨w.heap.size, 5, none⟩ (.slice a2 L.length c2)).setCell ⟨w.heap.size, 6, none⟩ (.bool self)).setCell ⟨w.heap.size, 7, none⟩ (.string D))) := Lib.hid ((((((((HB2.out.setCell (Nat.le_refl _) _).setCell (Nat.le_refl _) _).setCell (Nat.le_refl _) _).setCell (Nat.le_refl _) _).setCell (Nat.le_refl _) _).setCell (Nat.le_refl _) _).setCell (Nat.le_refl _) _).setCell (Nat.le_refl _) _)
  have HL3 : Hid (IntsR .i64 ((((((((w2.setCell ⟨w.heap.size, 0, none⟩ (.int .i64 k)).setCell ⟨w.heap.size, 1, none⟩ (.int .i64 sq)).setCell ⟨w.heap.size, 2, none⟩ (.int .i64 N)).setCell ⟨w.heap.size, 3, none⟩ (.int .i64 PS)).setCell ⟨w.heap.size, 4, none⟩ (.int .i64 MR)).setCell ⟨w.heap.size, 5, none⟩ (.slice a2 L.length c2)).setCell ⟨w.heap.size, 6, none⟩ (.bool self)).setCell ⟨w.heap.size, 7, none⟩ (.string D)) (.slice a2 L.length c2) L) := Lib.hid (by
    refine IntsR.of_owns (base := w1.heap.size) (E := 3) ?_ (by omega)
    repeat refine ownsRow_setCell_below ?_ (by simp; omega) _
    exact HO2.out)
  go_upto_region 4 with fail
  clear q0 q1 q2 q3 q4 q5 q6 q7 f0 f1 f2 f3 f4 f5 f6 f7 HBX2 HB2 HO2
  generalize ((((((((w2.setCell ⟨w.heap.size, 0, none⟩ (.int .i64 k)).setCell ⟨w.heap.size, 1, none⟩ (.int .i64 sq)).setCell ⟨w.heap.size, 2, none⟩ (.int .i64 N)).setCell ⟨w.heap.size, 3, none⟩ (.int .i64 PS)).setCell ⟨w.heap.size, 4, none⟩ (.int .i64 MR)).setCell ⟨w.heap.size, 5, none⟩ (.slice a2 L.length c2)).setCell ⟨w.heap.size, 6, none⟩ (.bool self)).setCell ⟨w.heap.size, 7, none⟩ (.string D)) = W at *
  have hpW := HBX3.out.lt
  obtain ⟨q0, q1, q2, q3, q4, q5, q6, q7⟩ := HBX3.out.cells8
  go_wp2_with fail
  refine (own_few k sq N PS MR (.slice a2 L.length c2) L self D _ hN hPS hMR HL3.out (by omega) HLL.out).mono ?_
  rintro e w4 ⟨lv4, rfl, hI4, hb4⟩
  have HBX4 := Lib.hid (HBX3.out.below hb4 hpW)
  have HB4 := Lib.hid (belSeq HB3.out hb4)
  have HL4 := Lib.hid (HL3.out.below hb4 (Nat.le_refl _))
  have HI4 := Lib.hid hI4
  have hp4 := HBX4.out.lt
  obtain ⟨a4, c4, rfl, _, _, _⟩ := hI4.len
  unfold pduV
  clear hb4 HBX3 HB3 HL3 q0 q1 q2 q3 q4 q5 q6 q7 hI4
  have HPB := Lib.hid (BoxAt.new w4 31 [.int .i64 k, .int .i64 sq, .int .u32 N, .int .u32 PS, .int .u32 MR, .slice a4 L.length c4, .bool self, .string D])
  have HBX5 := Lib.hid (HBX4.out.alloc (o := .cells #[.int .i64 k, .int .i64 sq, .int .u32 N, .int .u32 PS, .int .u32 MR, .slice a4 L.length c4, .bool self, .string D] 31))
  have HB5 := Lib.hid (HB4.out.alloc HB4.out.size (.cells #[.int .i64 k, .int .i64 sq, .int .u32 N, .int .u32 PS, .int .u32 MR, .slice a4 L.length c4, .bool self, .string D] 31))
  have HL5 := Lib.hid (HL4.out.alloc (o := .cells #[.int .i64 k, .int .i64 sq, .int .u32 N, .int .u32 PS, .int .u32 MR, .slice a4 L.length c4, .bool self, .string D] 31))
  have HI5 := Lib.hid (HI4.out.alloc (o := .cells #[.int .i64 k, .int .i64 sq, .int .u32 N, .int .u32 PS, .int .u32 MR, .slice a4 L.length c4, .bool self, .string D] 31))
  go_upto_region 5 with fail
  clear HBX4 HB4 HL4 HI4
  generalize w4.alloc (.cells #[.int .i64 k, .int .i64 sq, .int .u32 N, .int .u32 PS, .int .u32 MR, .slice a4 L.length c4, .bool self, .string D] 31) = W5 at *
  generalize w4.heap.size = pb at *
  obtain ⟨p0, p1, p2, p3, p4, p5, p6, p7⟩ := HPB.out.cells8
  by_cases hck : checkOf k sq N PS MR L self D.size = 0
  case neg =>
    have hck2 : (checkOf k sq N PS MR L self D.size != 0) = true := by simpa using hck
    have HE5 := Lib.hid (HE.out.below HB5.out)
    have HUB := Lib.hid (unit_bad k sq N PS MR (.slice a4 L.length c4) L self D W5 hN hPS hMR HI5.out HLL.out (by omega) (by omega) hck)
    have HRU : Hid (∀ W, IntsR .i64 W (.slice a2 L.length c2) L → Calls Tryz.prog 9 #[.agg #[.int .i64 k, .int .i64 sq, .int .i64 N, .int .i64 PS, .int .i64 MR, .slice a2 L.length c2, .bool self, .string D]] W fun e w' => e = .returned (.string ⟨#[]⟩) ∧ Below W.heap.size W w') := Lib.hid (fun W h => refUnit_bad k sq N PS MR (.slice a2 L.length c2) L self D W hN.1 hPS.1 hMR.1 h (fun x hx => (HLL.out x hx).1) (by omega) (by omega) hck)
    have HPT : Hid (∀ W, Env W → Calls Tryz.prog 10 #[.string ⟨#[]⟩] W fun e w' => e = .returned (.tuple #[.agg #[.int .i64 0, .int .i64 0, .int .u32 0, .int .u32 0, .int .u32 0, .slice none 0 0, .bool false, .string ⟨#[]⟩], .bool false]) ∧ Below W.heap.size W w') := Lib.hid (fun W h => (parse_txt ⟨#[]⟩ W (by decide) h).mono fun e w' hp => by
      unfold ParseEnd at hp
      rw [show (⟨#[]⟩ : ByteArray).data.toList = [] from rfl, parse_none] at hp
      exact ⟨hp.2, hp.1⟩)
    unfold pduV at HUB
    go_wp2_with fail
    refine HUB.out.mono ?_
    rintro e w6 ⟨rfl, hb6⟩
    have HB6 := Lib.hid (belSeq HB5.out hb6)
    have HL6 := Lib.hid (HL5.out.below hb6 (Nat.le_refl _))
    have HBX6 := Lib.hid (HBX5.out.below hb6 HBX5.out.lt)
    obtain ⟨q0, q1, q2, q3, q4, q5, q6, q7⟩ := HBX6.out.cells8
    clear hb6 HUB
    go_wp2_with fail
    refine (HRU.out _ HL6.out).mono ?_
    rintro e w7 ⟨rfl, hb7⟩
    have HB7 := Lib.hid (belSeq HB6.out hb7)
    have HL7 := Lib.hid (HL6.out.below hb7 (Nat.le_refl _))
    have HBX7 := Lib.hid (HBX6.out.below hb7 HBX6.out.lt)
    clear hb7 q0 q1 q2 q3 q4 q5 q6 q7 HRU
    go_wp2_with fail
    refine (HPT.out _ (HE.out.below HB7.out)).mono ?_
    rintro e w8 ⟨rfl, hb8⟩
    have HB8 := Lib.hid (belSeq HB7.out hb8)
    have HL8 := Lib.hid (HL7.out.below hb8 (Nat.le_refl _))
    have HBX8 := Lib.hid (HBX7.out.below hb8 HBX7.out.lt)
    have HL9 := Lib.hid (HL8.out.alloc (o := .cells #[.int .i64 0, .int .i64 0, .int .u32 0, .int .u32 0, .int .u32 0, .slice none 0 0, .bool false, .string ⟨#[]⟩] 31))
    have HB9 := Lib.hid (HB8.out.alloc HB8.out.size (.cells #[.int .i64 0, .int .i64 0, .int .u32 0, .int .u32 0, .int .u32 0, .slice none 0 0, .bool false, .string ⟨#[]⟩] 31))
    obtain ⟨q0, q1, q2, q3, q4, q5, q6, q7⟩ := (HBX8.out.alloc (o := .cells #[.int .i64 0, .int .i64 0, .int .u32 0, .int .u32 0, .int .u32 0, .slice none 0 0, .bool false, .string ⟨#[]⟩] 31)).cells8
    clear hb8 HPT
    go_wp2_with fail
    refine (rcheck_any k sq N PS MR (.slice a2 L.length c2) L self D _ hN.1 hPS.1 hMR.1 HL9.out (fun x hx => (HLL.out x hx).1) (by omega) (by omega)).mono ?_
    rintro e w9 ⟨rfl, hb9⟩
    have HB10 := Lib.hid (belSeq HB9.out hb9)
    clear hb9 hck
    generalize checkOf k sq N PS MR L self D.size = C at *
    go_wp2_with fail
    go_ret
    exact ⟨rfl, HB10.out⟩
  have HE5 := Lib.hid (HE.out.below HB5.out)
  have HUO := Lib.hid (unit_ok k sq N PS MR (.slice a4 L.length c4) L self D W5 hN.1 hPS.1 hMR.1 HI5.out (fun x hx => (HLL.out x hx).1) hck HE5.out)
  unfold pduV at HUO
  have HRC : Hid (∀ W, IntsR .i64 W (.slice a2 L.length c2) L → Calls Tryz.prog 11 #[.agg #[.int .i64 k, .int .i64 sq, .int .i64 N, .int .i64 PS, .int .i64 MR, .slice a2 L.length c2, .bool self, .string D]] W fun e w' => e = .returned (.int .i64 0) ∧ Below W.heap.size W w') := Lib.hid (fun W h => by
    have := rcheck_any k sq N PS MR (.slice a2 L.length c2) L self D W hN.1 hPS.1 hMR.1 h (fun x hx => (HLL.out x hx).1) (by omega) (by omega)
    rwa [hck] at this)
  have hck' : ckOf ⟨k, sq, N, PS, MR, L, self, D.data.toList⟩ = 0 := by unfold ckOf; rw [size_len]; exact hck
  have hfit := fit_of ⟨k, sq, N, PS, MR, L, self, D.data.toList⟩ hN.1 hPS.1 hMR.1 (fun x hx => (HLL.out x hx).1) hck'
  have hpu := parse_unit _ hfit hck'
  have HRU : Hid (∀ W, IntsR .i64 W (.slice a2 L.length c2) L → Calls Tryz.prog 9 #[.agg #[.int .i64 k, .int .i64 sq, .int .i64 N, .int .i64 PS, .int .i64 MR, .slice a2 L.length c2, .bool self, .string D]] W fun e w' => e = .returned (.string ⟨(unitText ⟨k, sq, N, PS, MR, L, self, D.data.toList⟩).toArray⟩) ∧ Below W.heap.size W w') := Lib.hid (fun W h => refUnit_ok k sq N PS MR (.slice a2 L.length c2) L self D W hN.1 hPS.1 hMR.1 h (fun x hx => (HLL.out x hx).1) hck)
  obtain ⟨_, hlen, hdl, _⟩ := ck_parts hck
  have htl := text_le _ hfit hlen (by rw [size_len]; exact hdl)
  have HPT : Hid (∀ W, Env W → Calls Tryz.prog 10 #[.string ⟨(unitText ⟨k, sq, N, PS, MR, L, self, D.data.toList⟩).toArray⟩] W (BackP W k sq N PS MR L self D)) := Lib.hid (fun W h => (parse_txt _ W (by rw [size_arr]; omega) h).mono fun e w' hp => by
    unfold ParseEnd at hp
    rw [show (⟨(unitText ⟨k, sq, N, PS, MR, L, self, D.data.toList⟩).toArray⟩ : ByteArray).data.toList = unitText ⟨k, sq, N, PS, MR, L, self, D.data.toList⟩ from rfl, hpu] at hp
    obtain ⟨hb, lv, he, ho⟩ := hp
    obtain ⟨a, c, rfl, _, _, _⟩ := (IntsR.of_owns ho (by show L.length ≤ _; omega)).len
    exact ⟨a, c, he, IntsR.of_owns ho (by show L.length ≤ _; omega), hb⟩)
  have HSM : Hid (∀ (w : World) lv, IntsR .u32 w lv L → IntsR .i64 w (.slice a2 L.length c2) L → Calls Tryz.prog 12 #[.agg #[.int .i64 k, .int .i64 sq, .int .u32 N, .int .u32 PS, .int .u32 MR, lv, .bool self, .string D], .agg #[.int .i64 k, .int .i64 sq, .int .i64 N, .int .i64 PS, .int .i64 MR, .slice a2 L.length c2, .bool self, .string D]] w fun e w' => e = .returned (.bool true) ∧ Below w.heap.size w w') := Lib.hid (fun w lv h h' => by
    have := same_any k sq N PS MR lv L self D k sq N PS MR (.slice a2 L.length c2) L self D w hN hPS hMR h h' (by omega) HLL.out
    rwa [show sameB k sq N PS MR L self D k sq N PS MR L self D = true from decide_eq_true ⟨rfl, rfl, rfl, rfl, rfl, rfl, rfl, rfl⟩] at this)
  clear hck hck' hfit hpu hlen hdl
  generalize unitText ⟨k, sq, N, PS, MR, L, self, D.data.toList⟩ = UT at *
  have hSz : (⟨UT.toArray⟩ : ByteArray).size = UT.length := size_arr _
  generalize (⟨UT.toArray⟩ : ByteArray) = S at *
  go_wp2_with fail
  refine HUO.out.mono ?_
  rintro e w6 ⟨rfl, hb6⟩
  have HB6 := Lib.hid (belSeq HB5.out hb6)
  have HL6 := Lib.hid (HL5.out.below hb6 (Nat.le_refl _))
  have HBX6 := Lib.hid (HBX5.out.below hb6 HBX5.out.lt)
  clear hb6 HUO p0 p1 p2 p3 p4 p5 p6 p7
  obtain ⟨q0, q1, q2, q3, q4, q5, q6, q7⟩ := HBX6.out.cells8
  go_wp2_with fail
  refine (HRU.out _ HL6.out).mono ?_
  rintro e w7 ⟨rfl, hb7⟩
  have HB7 := Lib.hid (belSeq HB6.out hb7)
  have HL7 := Lib.hid (HL6.out.below hb7 (Nat.le_refl _))
  have HBX7 := Lib.hid (HBX6.out.below hb7 HBX6.out.lt)
  clear hb7 q0 q1 q2 q3 q4 q5 q6 q7 HRU HB6 HL6 HBX6
  go_wp2_with fail
  refine (HPT.out _ (HE.out.below HB7.out)).mono ?_
  rintro e w8 ⟨a, c, rfl, hI8, hb8⟩
  have HB9 := Lib.hid ((belSeq HB7.out hb8).alloc (belSeq HB7.out hb8).size (.cells #[.int .i64 k, .int .i64 sq, .int .u32 N, .int .u32 PS, .int .u32 MR, .slice a L.length c, .bool self, .string D] 31))
  have HL9 := Lib.hid ((HL7.out.below hb8 (Nat.le_refl _)).alloc (o := .cells #[.int .i64 k, .int .i64 sq, .int .u32 N, .int .u32 PS, .int .u32 MR, .slice a L.length c, .bool self, .string D] 31))
  have HBX9 := Lib.hid ((HBX7.out.below hb8 HBX7.out.lt).alloc (o := .cells #[.int .i64 k, .int .i64 sq, .int .u32 N, .int .u32 PS, .int .u32 MR, .slice a L.length c, .bool self, .string D] 31))
  have HI9 := Lib.hid (hI8.alloc (o := .cells #[.int .i64 k, .int .i64 sq, .int .u32 N, .int .u32 PS, .int .u32 MR, .slice a L.length c, .bool self, .string D] 31))
  have HQ9 := Lib.hid (BoxAt.new w8 31 [.int .i64 k, .int .i64 sq, .int .u32 N, .int .u32 PS, .int .u32 MR, .slice a L.length c, .bool self, .string D])
  clear hb8 hI8 HPT HB7 HL7 HBX7
  go_upto_region 9 with fail
  generalize w8.alloc (.cells #[.int .i64 k, .int .i64 sq, .int .u32 N, .int .u32 PS, .int .u32 MR, .slice a L.length c, .bool self, .string D] 31) = W9 at *
  generalize w8.heap.size = qb at *
  obtain ⟨q0, q1, q2, q3, q4, q5, q6, q7⟩ := HBX9.out.cells8
  go_wp2_with fail
  refine (HRC.out _ HL9.out).mono ?_
  rintro e w10 ⟨rfl, hb10⟩
  have HB10 := Lib.hid (belSeq HB9.out hb10)
  have HL10 := Lib.hid (HL9.out.below hb10 (Nat.le_refl _))
  have HI10 := Lib.hid (HI9.out.below hb10 (Nat.le_refl _))
  obtain ⟨r0, r1, r2, r3, r4, r5, r6, r7⟩ := (HBX9.out.below hb10 HBX9.out.lt).cells8
  obtain ⟨s0, s1, s2, s3, s4, s5, s6, s7⟩ := (HQ9.out.below hb10 HQ9.out.lt).cells8
  clear hb10 q0 q1 q2 q3 q4 q5 q6 q7 HB9 HL9 HI9 HBX9 HQ9 HRC
  go_wp2_with fail
  refine (HSM.out _ _ HI10.out HL10.out).mono ?_
  rintro e w11 ⟨rfl, hb11⟩
  have HB11 := Lib.hid (belSeq HB10.out hb11)
  clear hb11
  go_wp2_with fail
  go_ret
  exact ⟨rfl, HB11.out⟩
end Go.Proofs.YtohenohgceaibaaGreatDoor
