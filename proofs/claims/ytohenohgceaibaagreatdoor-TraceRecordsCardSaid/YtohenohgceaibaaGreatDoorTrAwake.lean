/-
  The fixed fact at the head of the statements on traces; a lost record's line.
-/
import Derived.Test.YtohenohgceaibaaGreatDoorTrParse
import Derived.Test.YtohenohgceaibaaGreatDoorRefPdu
set_option linter.unusedVariables false
set_option linter.unusedSimpArgs false
namespace Go.Proofs.YtohenohgceaibaaGreatDoor
open Go.RowKit

set_option maxRecDepth 100000 in
set_option maxHeartbeats 2000000 in
theorem record_lost (w : World) (he : Env w) :
    Calls Tryz.prog 17 #[.agg #[.int .i64 1, .int .i64 4, .int .i64 0, .int .i64 0, .int .u32 0, .int .u32 0, .int .u32 0, .slice none 0 0, .bool false, .string ⟨#[]⟩, .int .i64 0, .string ⟨#[]⟩, .bool false, .int .u8 0, .int .i64 0, .int .i64 0, .string ⟨#[]⟩, .int .i64 0]] w fun e w' => e = .returned (.string ⟨#[49, 32, 120]⟩) ∧ Below w.heap.size w w' := by
  have HE := Lib.hid he
  have HIT : Hid (∀ W, Env W → Calls Tryz.prog 24 #[.int .i64 1] W fun e w' => e = .returned (.string ⟨#[49]⟩) ∧ Below W.heap.size W w') := Lib.hid (fun W h => by
    have := itoa_any 1 W (by omega) (by omega) h
    rwa [show (Lib.itoa 1).toArray = #[49] by decide +kernel] at this)
  clear he
  go_enter Tryz.func17, Tryz.ntmps17
  have HB0 := Lib.hid ((Below.refl w.heap.size w).alloc (Nat.le_refl _) (.cells #[.int .i64 1, .int .i64 4, .int .i64 0, .int .i64 0, .int .u32 0, .int .u32 0, .int .u32 0, .slice none 0 0, .bool false, .string ⟨#[]⟩, .int .i64 0, .string ⟨#[]⟩, .bool false, .int .u8 0, .int .i64 0, .int .i64 0, .string ⟨#[]⟩, .int .i64 0] 45))
  have HX0 := Lib.hid (BoxAt.new w 45 [.int .i64 1, .int .i64 4, .int .i64 0, .int .i64 0, .int .u32 0, .int .u32 0, .int .u32 0, .slice none 0 0, .bool false, .string ⟨#[]⟩, .int .i64 0, .string ⟨#[]⟩, .bool false, .int .u8 0, .int .i64 0, .int .i64 0, .string ⟨#[]⟩, .int .i64 0])
  go_wp2_with fail
  refine (HIT.out _ HE.out.alloc).mono ?_
  rintro e w1 ⟨rfl, hb1⟩
  have HB1 := Lib.hid (belAlloc hb1 (by simp))
  have q1 : w1.cell? ⟨w.heap.size, 1, none⟩ = some (.int .i64 4) := (HX0.out.below hb1 (by simp)).cell 1
  clear hb1 HB0 HX0
  go_wp2_with fail
  go_ret
  exact ⟨rfl, HB1.out⟩
def AwP (w : World) (e : Ending) (w' : World) : Prop := ∃ a c, e = .returned (.tuple #[.agg #[.int .i64 8, .int .i64 0, .int .u32 5, .int .u32 0, .int .u32 0, .slice a 0 c, .bool false, .string ⟨#[97, 98]⟩], .bool true]) ∧ Below w.heap.size w w'
theorem awake_parse (W : World) (h : Env W) : Calls Tryz.prog 10 #[.string ⟨#[115, 100, 32, 110, 53, 32, 100, 54, 49, 54, 50]⟩] W (AwP W) :=
  (parse_txt _ W (by decide) h).mono fun e w' hp => by
    have hp2 : parseT [115, 100, 32, 110, 53, 32, 100, 54, 49, 54, 50] = some ⟨8, 0, 5, 0, 0, [], false, [97, 98]⟩ := by
      have hpu := parse_unit ⟨8, 0, 5, 0, 0, [], false, [97, 98]⟩ (fit_of _ (by simp) (by simp) (by simp) (by simp) (by decide)) (by decide)
      rwa [show unitText ⟨8, 0, 5, 0, 0, [], false, [97, 98]⟩ = [115, 100, 32, 110, 53, 32, 100, 54, 49, 54, 50] by decide +kernel] at hpu
    unfold ParseEnd at hp
    rw [show (⟨#[115, 100, 32, 110, 53, 32, 100, 54, 49, 54, 50]⟩ : ByteArray).data.toList = [115, 100, 32, 110, 53, 32, 100, 54, 49, 54, 50] from rfl, hp2] at hp
    obtain ⟨hb, lv, he, ho⟩ := hp
    obtain ⟨a, c, rfl, _, _, _⟩ := (IntsR.of_owns ho (by simp)).len
    exact ⟨a, c, he, hb⟩
set_option maxRecDepth 100000 in
set_option maxHeartbeats 2000000 in
theorem awake19 (w : World) (he : Env w) :
    Calls Tryz.prog 5 #[] w fun e w' => e = .returned (.bool true) ∧ Below w.heap.size w w' := by
  have HE := Lib.hid he
  have HPT := Lib.hid awake_parse
  have HUN : Hid (∀ W lv, Env W → IntsR .u32 W lv [3, 5] → Calls Tryz.prog 8 #[.agg #[.int .i64 11, .int .i64 0, .int .u32 3, .int .u32 9, .int .u32 40, lv, .bool false, .string ⟨#[]⟩]] W fun e w' => e = .returned (.string ⟨#[115, 116, 97, 116, 32, 110, 51, 32, 112, 115, 57, 32, 109, 114, 52, 48, 32, 108, 51, 44, 53]⟩) ∧ Below W.heap.size W w') := Lib.hid (fun W lv h hl => by
    have := unit_ok 11 0 3 9 40 lv [3, 5] false ⟨#[]⟩ W (by decide) (by decide) (by decide) hl (by decide) (by decide) h
    rwa [show (unitText ⟨11, 0, 3, 9, 40, [3, 5], false, (⟨#[]⟩ : ByteArray).data.toList⟩).toArray = #[115, 116, 97, 116, 32, 110, 51, 32, 112, 115, 57, 32, 109, 114, 52, 48, 32, 108, 51, 44, 53] by decide +kernel] at this)
  have HRL := Lib.hid record_lost
  clear he
  go_enter Tryz.func5, Tryz.ntmps5
  have HL0 := Lib.hid (BoxAt.new w 28 [.int .u32 3, .int .u32 5])
  have HB0 := Lib.hid ((Below.refl w.heap.size w).alloc (Nat.le_refl _) (.cells #[.int .u32 3, .int .u32 5] 28))
  have HX0 := Lib.hid (BoxAt.new (w.alloc (.cells #[.int .u32 3, .int .u32 5] 28)) 31 [.int .i64 11, .int .i64 0, .int .u32 3, .int .u32 9, .int .u32 40, .slice (some ⟨w.heap.size, 0, none⟩) 2 2, .bool false, .string ⟨#[]⟩])
  have HXa := Lib.hid (BoxAt.newAt (w := w.alloc (.cells #[.int .u32 3, .int .u32 5] 28)) (b := w.heap.size + 1) (by simp) 31 [.int .i64 11, .int .i64 0, .int .u32 3, .int .u32 9, .int .u32 40, .slice (some ⟨w.heap.size, 0, none⟩) 2 2, .bool false, .string ⟨#[]⟩])
  have HI0 : Hid (IntsR .u32 ((w.alloc (.cells #[.int .u32 3, .int .u32 5] 28)).alloc (.cells #[.int .i64 11, .int .i64 0, .int .u32 3, .int .u32 9, .int .u32 40, .slice (some ⟨w.heap.size, 0, none⟩) 2 2, .bool false, .string ⟨#[]⟩] 31)) (.slice (some ⟨w.heap.size, 0, none⟩) 2 2) [3, 5]) := Lib.hid (IntsR.lit .u32 w w.heap.size rfl 28 [3, 5] (by simp)).alloc
  have HB1 := Lib.hid (HB0.out.alloc HB0.out.size (.cells #[.int .i64 11, .int .i64 0, .int .u32 3, .int .u32 9, .int .u32 40, .slice (some ⟨w.heap.size, 0, none⟩) 2 2, .bool false, .string ⟨#[]⟩] 31))
  clear HL0 HB0 HX0
  go_wp2_with fail
  refine (HPT.out _ HE.out.alloc.alloc).mono ?_
  rintro e w1 ⟨a, c, rfl, hb1⟩
  have HX1 := Lib.hid (HXa.out.below hb1 (by simp))
  have HI1 := Lib.hid (HI0.out.below hb1 (Nat.le_refl _))
  have HB2 := Lib.hid (belSeq HB1.out hb1)
  have HQ := Lib.hid (BoxAt.new w1 31 [.int .i64 8, .int .i64 0, .int .u32 5, .int .u32 0, .int .u32 0, .slice a 0 c, .bool false, .string ⟨#[97, 98]⟩])
  have HX2 := Lib.hid (HX1.out.alloc (o := .cells #[.int .i64 8, .int .i64 0, .int .u32 5, .int .u32 0, .int .u32 0, .slice a 0 c, .bool false, .string ⟨#[97, 98]⟩] 31))
  have HI2 := Lib.hid (HI1.out.alloc (o := .cells #[.int .i64 8, .int .i64 0, .int .u32 5, .int .u32 0, .int .u32 0, .slice a 0 c, .bool false, .string ⟨#[97, 98]⟩] 31))
  have HB3 := Lib.hid (HB2.out.alloc HB2.out.size (.cells #[.int .i64 8, .int .i64 0, .int .u32 5, .int .u32 0, .int .u32 0, .slice a 0 c, .bool false, .string ⟨#[97, 98]⟩] 31))
  clear hb1 HXa HI0 HB1 HX1 HI1 HB2
  go_upto_region 3 with fail
  generalize w1.alloc (.cells #[.int .i64 8, .int .i64 0, .int .u32 5, .int .u32 0, .int .u32 0, .slice a 0 c, .bool false, .string ⟨#[97, 98]⟩] 31) = W2 at *
  generalize w1.heap.size = qb at *
  obtain ⟨p0, p1, p2, p3, p4, p5, p6, p7⟩ := HX2.out.cells8
  go_wp2_with fail
  refine (HUN.out _ _ (HE.out.below HB3.out) HI2.out).mono ?_
  rintro e w3 ⟨rfl, hb3⟩
  have HB4 := Lib.hid (belSeq HB3.out hb3)
  obtain ⟨q0, q1, q2, q3, q4, q5, q6, q7⟩ := (HQ.out.below hb3 HQ.out.lt).cells8
  clear hb3 p0 p1 p2 p3 p4 p5 p6 p7 HX2 HI2 HB3 HQ
  go_wp2_with fail
  refine (HRL.out _ (HE.out.below HB4.out)).mono ?_
  rintro e w4 ⟨rfl, hb4⟩
  have HB5 := Lib.hid (belSeq HB4.out hb4)
  clear hb4
  go_wp2_with fail
  go_ret
  exact ⟨rfl, HB5.out⟩
end Go.Proofs.YtohenohgceaibaaGreatDoor
