/-
  Contract of the statement's Note.record.
-/
import Derived.Test.YtanmdmidjeobeaaEpAdd
import Derived.Test.YtanmdmidjeobeaaBox
import Derived.Test.YtanmdmidjeobeaaBits
import Derived.Deep.CutBlock
import Derived.Deep.DeepCutAuto
import Derived.Deep.RegionHeld3
set_option linter.unusedVariables false
set_option linter.unusedSimpArgs false
namespace Go.Proofs.Ytanmdmidjeobeaa
open Go.RowKit

def recOf (en what how : Int) (data : ByteArray) : Rc :=
  if what = 0 then
    if how % 8 = 0 then ⟨en, 6, 0, ⟨#[]⟩, 2, ⟨#[]⟩⟩ else if how % 8 = 1 then ⟨en, 6, 0, ⟨#[]⟩, 5, ⟨#[]⟩⟩ else if how % 8 = 2 then ⟨en, 6, 0, ⟨#[]⟩, 6, ⟨#[]⟩⟩
    else if how % 8 = 3 then ⟨en, 5, 2, ⟨#[]⟩, 0, ⟨#[]⟩⟩ else ⟨en, 5, 6, ⟨#[]⟩, 0, ⟨#[]⟩⟩
  else if what = 1 then ⟨en, 6, 0, ⟨#[]⟩, 7, data⟩ else if what = 2 then ⟨en, 5, 8, data, 0, ⟨#[]⟩⟩ else ⟨en, 1 + how % 4, 3, ⟨#[]⟩, 3, ⟨#[]⟩⟩
def rcList (en kind sk : Int) (sd : ByteArray) (rk : Int) (rd : ByteArray) : List Value := [.int .i64 en, .int .i64 kind, .int .i64 0, .int .i64 0, .int .u32 0, .int .u32 0, .int .u32 0, .slice none 0 0, .bool false, .string ⟨#[]⟩, .int .i64 sk, .string sd, .bool false, .int .u8 0, .int .i64 0, .int .i64 rk, .string rd, .int .i64 0]

theorem keep_drew {w : World} {p : Addr} {v : Value} (h : w.cell? p = some v) : w.drew.cell? p = some v := h
theorem keep_set {w : World} {p a : Addr} {v u : Value} (h : w.cell? p = some v) (hne : p.block ≠ a.block) : (w.setCell a u).cell? p = some v := (World.cell?_of_block (Below.heap_setCell _ _ _ _ hne)).trans h

theorem below_setCells (B b : Nat) : ∀ (vs : List Value) (o : Nat) (w : World), B ≤ b → Below B w (w.setCells b o vs)
  | [], _, _, _ => ⟨rfl, rfl, rfl, Nat.le_refl _, fun _ _ => rfl⟩
  | v :: vs, o, w, h => Below.trans (Below.setCell (p := ⟨b, o, none⟩) ⟨rfl, rfl, rfl, Nat.le_refl _, fun _ _ => rfl⟩ h v) (below_setCells B b vs (o + 1) _ h)

set_option maxHeartbeats 4000000 in
set_option maxRecDepth 100000 in
theorem record_any (en what how : Int) (data : ByteArray) (w : World) :
    Calls Try.prog 9 #[.agg #[.int .i64 en, .int .i64 what, .int .i64 how, .string data]] w fun e w' => e = .returned (.agg (rcList (recOf en what how data).en (recOf en what how data).kind (recOf en what how data).sk (recOf en what how data).sd (recOf en what how data).rk (recOf en what how data).rd).toArray) ∧ Below w.heap.size w w' := by
  go_enter Try.func9, Try.ntmps9
  go_upto_region 2 with (first | (refine wpList_store_new rfl 43 (.tmp 3) (.tmp 6) rfl (w.heap.size + 2) 43 _ #[.int .i64 en, .int .i64 0, .int .i64 0, .int .i64 0, .int .u32 0, .int .u32 0, .int .u32 0, .slice none 0 0, .bool false, .string ⟨#[]⟩, .int .i64 0, .string ⟨#[]⟩, .bool false, .int .u8 0, .int .i64 0, .int .i64 0, .string ⟨#[]⟩, .int .i64 0] (by simp) (by rfl) (by rfl) rfl rec_info (recs_one ⟨en, 0, 0, ⟨#[]⟩, 0, ⟨#[]⟩⟩) ?_))
  refine region_gen (fun W => BoxAt W w.heap.size 31 [.int .i64 en, .int .i64 what, .int .i64 how, .string data] ∧ BoxAt W (w.heap.size + 1) 43 (rcList 0 0 0 ⟨#[]⟩ 0 ⟨#[]⟩) ∧ BoxAt W (w.heap.size + 1 + 1) 43 (rcList en 0 0 ⟨#[]⟩ 0 ⟨#[]⟩) ∧ Below w.heap.size w W) ⟨(BoxAt.new _ _ _).alloc.alloc, (BoxAt.newAt (w := w.alloc _) (by simp) _ _).alloc, BoxAt.newAt (by simp) _ _, (((Below.refl _ w).alloc (Nat.le_refl _) _).alloc (by simp) _).alloc (by simp; omega) _⟩ ?_
  rintro W ⟨hb1, hb2, hb3, hbl⟩
  have HB1 := Lib.hid hb1
  have HB2 := Lib.hid hb2
  have HB3 := Lib.hid hb3
  have HBL := Lib.hid hbl
  clear hb1 hb2 hb3 hbl
  obtain ⟨n0, n1, n2, n3⟩ := HB1.out.cells4
  have c1 := HB3.out.cell 1
  have c10 := HB3.out.cell 10
  have c11 := HB3.out.cell 11
  have c12 := HB3.out.cell 12
  have c13 := HB3.out.cell 13
  have c14 := HB3.out.cell 14
  have c15 := HB3.out.cell 15
  have c16 := HB3.out.cell 16
  have c17 := HB3.out.cell 17
  simp only [rcList, List.getElem?_cons_succ, List.getElem?_cons_zero] at c1 c10 c11 c12 c13 c14 c15 c16 c17
  have f := HB3.out.froz
  have f1 := f 1
  have f10 := f 10
  have f11 := f 11
  have f12 := f 12
  have f13 := f 13
  have f14 := f 14
  have f15 := f 15
  have f16 := f 16
  have f17 := f 17
  clear f
  go_upto_block 0 with fail
  go_cut [] (fun wx => BoxAt wx (w.heap.size + 1 + 1) 43 (rcList (recOf en what how data).en (recOf en what how data).kind (recOf en what how data).sk (recOf en what how data).sd (recOf en what how data).rk (recOf en what how data).rd) ∧ BoxAt wx (w.heap.size + 1) 43 (rcList 0 0 0 ⟨#[]⟩ 0 ⟨#[]⟩) ∧ Below w.heap.size w wx)
  case first =>
    by_cases h0 : what = 0
    · subst h0
      have hm0 : 0 ≤ how % 8 := by omega
      have hm1 : how % 8 < 8 := by omega
      by_cases e0 : how % 8 = 0
      · have q0 : (how % 8 == 0) = true := by simp [e0]
        have HR : Hid (rcList (recOf en 0 how data).en (recOf en 0 how data).kind (recOf en 0 how data).sk (recOf en 0 how data).sd (recOf en 0 how data).rk (recOf en 0 how data).rd = rcList en (6) 0 ⟨#[]⟩ 2 ⟨#[]⟩) := Lib.hid (by unfold recOf; simp [*])
        go_wp2_with fail
        go_meet
        exact ⟨by rw [HR.out]; exact ((HB3.out.set 1 _).set 15 _), by exact ((HB2.out.other (a := ⟨w.heap.size + 1 + 1, 1, none⟩) (by simp) _).other (a := ⟨w.heap.size + 1 + 1, 15, none⟩) (by simp) _), by exact ((HBL.out.setCell (p := ⟨w.heap.size + 1 + 1, 1, none⟩) (by simp; omega) _).setCell (p := ⟨w.heap.size + 1 + 1, 15, none⟩) (by simp; omega) _)⟩
      by_cases e1 : how % 8 = 1
      · have q0 : (how % 8 == 0) = false := by simp [e0]
        have q1 : (how % 8 == 1) = true := by simp [e1]
        have HR : Hid (rcList (recOf en 0 how data).en (recOf en 0 how data).kind (recOf en 0 how data).sk (recOf en 0 how data).sd (recOf en 0 how data).rk (recOf en 0 how data).rd = rcList en (6) 0 ⟨#[]⟩ 5 ⟨#[]⟩) := Lib.hid (by unfold recOf; simp [*])
        go_wp2_with fail
        go_meet
        exact ⟨by rw [HR.out]; exact ((HB3.out.set 1 _).set 15 _), by exact ((HB2.out.other (a := ⟨w.heap.size + 1 + 1, 1, none⟩) (by simp) _).other (a := ⟨w.heap.size + 1 + 1, 15, none⟩) (by simp) _), by exact ((HBL.out.setCell (p := ⟨w.heap.size + 1 + 1, 1, none⟩) (by simp; omega) _).setCell (p := ⟨w.heap.size + 1 + 1, 15, none⟩) (by simp; omega) _)⟩
      by_cases e2 : how % 8 = 2
      · have q0 : (how % 8 == 0) = false := by simp [e0]
        have q1 : (how % 8 == 1) = false := by simp [e1]
        have q2 : (how % 8 == 2) = true := by simp [e2]
        have HR : Hid (rcList (recOf en 0 how data).en (recOf en 0 how data).kind (recOf en 0 how data).sk (recOf en 0 how data).sd (recOf en 0 how data).rk (recOf en 0 how data).rd = rcList en (6) 0 ⟨#[]⟩ 6 ⟨#[]⟩) := Lib.hid (by unfold recOf; simp [*])
        go_wp2_with fail
        go_meet
        exact ⟨by rw [HR.out]; exact ((HB3.out.set 1 _).set 15 _), by exact ((HB2.out.other (a := ⟨w.heap.size + 1 + 1, 1, none⟩) (by simp) _).other (a := ⟨w.heap.size + 1 + 1, 15, none⟩) (by simp) _), by exact ((HBL.out.setCell (p := ⟨w.heap.size + 1 + 1, 1, none⟩) (by simp; omega) _).setCell (p := ⟨w.heap.size + 1 + 1, 15, none⟩) (by simp; omega) _)⟩
      by_cases e3 : how % 8 = 3
      · have q0 : (how % 8 == 0) = false := by simp [e0]
        have q1 : (how % 8 == 1) = false := by simp [e1]
        have q2 : (how % 8 == 2) = false := by simp [e2]
        have q3 : (how % 8 == 3) = true := by simp [e3]
        have HR : Hid (rcList (recOf en 0 how data).en (recOf en 0 how data).kind (recOf en 0 how data).sk (recOf en 0 how data).sd (recOf en 0 how data).rk (recOf en 0 how data).rd = rcList en (5) 2 ⟨#[]⟩ 0 ⟨#[]⟩) := Lib.hid (by unfold recOf; simp [*])
        go_wp2_with fail
        go_meet
        exact ⟨by rw [HR.out]; exact (((HB3.out.set 1 _).set 1 _).set 10 _), by exact (((HB2.out.other (a := ⟨w.heap.size + 1 + 1, 1, none⟩) (by simp) _).other (a := ⟨w.heap.size + 1 + 1, 1, none⟩) (by simp) _).other (a := ⟨w.heap.size + 1 + 1, 10, none⟩) (by simp) _), by exact (((HBL.out.setCell (p := ⟨w.heap.size + 1 + 1, 1, none⟩) (by simp; omega) _).setCell (p := ⟨w.heap.size + 1 + 1, 1, none⟩) (by simp; omega) _).setCell (p := ⟨w.heap.size + 1 + 1, 10, none⟩) (by simp; omega) _)⟩
      have q0 : (how % 8 == 0) = false := by simp [e0]
      have q1 : (how % 8 == 1) = false := by simp [e1]
      have q2 : (how % 8 == 2) = false := by simp [e2]
      have q3 : (how % 8 == 3) = false := by simp [e3]
      have HR : Hid (rcList (recOf en 0 how data).en (recOf en 0 how data).kind (recOf en 0 how data).sk (recOf en 0 how data).sd (recOf en 0 how data).rk (recOf en 0 how data).rd = rcList en (5) 6 ⟨#[]⟩ 0 ⟨#[]⟩) := Lib.hid (by unfold recOf; simp [*])
      go_wp2_with fail
      go_meet
      exact ⟨by rw [HR.out]; exact (((HB3.out.set 1 _).set 1 _).set 10 _), by exact (((HB2.out.other (a := ⟨w.heap.size + 1 + 1, 1, none⟩) (by simp) _).other (a := ⟨w.heap.size + 1 + 1, 1, none⟩) (by simp) _).other (a := ⟨w.heap.size + 1 + 1, 10, none⟩) (by simp) _), by exact (((HBL.out.setCell (p := ⟨w.heap.size + 1 + 1, 1, none⟩) (by simp; omega) _).setCell (p := ⟨w.heap.size + 1 + 1, 1, none⟩) (by simp; omega) _).setCell (p := ⟨w.heap.size + 1 + 1, 10, none⟩) (by simp; omega) _)⟩
    · have h0b : (what == 0) = false := beq_eq_false_iff_ne.2 h0
      by_cases h1 : what = 1
      · subst h1
        have HR : Hid (rcList (recOf en 1 how data).en (recOf en 1 how data).kind (recOf en 1 how data).sk (recOf en 1 how data).sd (recOf en 1 how data).rk (recOf en 1 how data).rd = rcList en (6) 0 ⟨#[]⟩ 7 data) := Lib.hid (by unfold recOf; simp [*])
        go_wp2_with fail
        go_region_held3 (fun w' => w'.cell? ⟨w.heap.size, 3, none⟩ = some (.string data)) (iterate 9 (first | with_reducible exact n3 | with_reducible refine keep_drew ?_ | with_reducible refine keep_set ?_ (by simp; try omega) | skip)) (fail)
        all_goals
          go_wp2_with fail
          go_meet
          exact ⟨by rw [HR.out]; exact ((((HB3.out.set 1 _).set 15 _).set 16 _).set 17 _).drew, by exact ((((HB2.out.other (a := ⟨w.heap.size + 1 + 1, 1, none⟩) (by simp) _).other (a := ⟨w.heap.size + 1 + 1, 15, none⟩) (by simp) _).other (a := ⟨w.heap.size + 1 + 1, 16, none⟩) (by simp) _).other (a := ⟨w.heap.size + 1 + 1, 17, none⟩) (by simp) _).drew, by exact ((((HBL.out.setCell (p := ⟨w.heap.size + 1 + 1, 1, none⟩) (by simp; omega) _).setCell (p := ⟨w.heap.size + 1 + 1, 15, none⟩) (by simp; omega) _).setCell (p := ⟨w.heap.size + 1 + 1, 16, none⟩) (by simp; omega) _).setCell (p := ⟨w.heap.size + 1 + 1, 17, none⟩) (by simp; omega) _).drew⟩
      have h1b : (what == 1) = false := beq_eq_false_iff_ne.2 h1
      by_cases h2 : what = 2
      · subst h2
        have HR : Hid (rcList (recOf en 2 how data).en (recOf en 2 how data).kind (recOf en 2 how data).sk (recOf en 2 how data).sd (recOf en 2 how data).rk (recOf en 2 how data).rd = rcList en (5) 8 data 0 ⟨#[]⟩) := Lib.hid (by unfold recOf; simp [*])
        go_wp2_with fail
        go_region_held3 (fun w' => w'.cell? ⟨w.heap.size, 3, none⟩ = some (.string data)) (iterate 9 (first | with_reducible exact n3 | with_reducible refine keep_drew ?_ | with_reducible refine keep_set ?_ (by simp; try omega) | skip)) (fail)
        all_goals
          go_wp2_with fail
          go_meet
          exact ⟨by rw [HR.out]; exact ((((((HB3.out.set 1 _).set 10 _).set 11 _).set 12 _).set 13 _).set 14 _).drew, by exact ((((((HB2.out.other (a := ⟨w.heap.size + 1 + 1, 1, none⟩) (by simp) _).other (a := ⟨w.heap.size + 1 + 1, 10, none⟩) (by simp) _).other (a := ⟨w.heap.size + 1 + 1, 11, none⟩) (by simp) _).other (a := ⟨w.heap.size + 1 + 1, 12, none⟩) (by simp) _).other (a := ⟨w.heap.size + 1 + 1, 13, none⟩) (by simp) _).other (a := ⟨w.heap.size + 1 + 1, 14, none⟩) (by simp) _).drew, by exact ((((((HBL.out.setCell (p := ⟨w.heap.size + 1 + 1, 1, none⟩) (by simp; omega) _).setCell (p := ⟨w.heap.size + 1 + 1, 10, none⟩) (by simp; omega) _).setCell (p := ⟨w.heap.size + 1 + 1, 11, none⟩) (by simp; omega) _).setCell (p := ⟨w.heap.size + 1 + 1, 12, none⟩) (by simp; omega) _).setCell (p := ⟨w.heap.size + 1 + 1, 13, none⟩) (by simp; omega) _).setCell (p := ⟨w.heap.size + 1 + 1, 14, none⟩) (by simp; omega) _).drew⟩
      have h2b : (what == 2) = false := beq_eq_false_iff_ne.2 h2
      have hw0 : 0 ≤ how % 4 := by omega
      have hw1 : how % 4 < 4 := by omega
      have HR : Hid (rcList (recOf en what how data).en (recOf en what how data).kind (recOf en what how data).sk (recOf en what how data).sd (recOf en what how data).rk (recOf en what how data).rd = rcList en (1 + how % 4) 3 ⟨#[]⟩ 3 ⟨#[]⟩) := Lib.hid (by unfold recOf; simp [*])
      go_wp2_with fail
      go_meet
      exact ⟨by rw [HR.out]; exact (((((((((HB3.out.set 1 _).set 10 _).set 11 _).set 12 _).set 13 _).set 14 _).set 15 _).set 16 _).set 17 _), by exact (((((((((HB2.out.other (a := ⟨w.heap.size + 1 + 1, 1, none⟩) (by simp) _).other (a := ⟨w.heap.size + 1 + 1, 10, none⟩) (by simp) _).other (a := ⟨w.heap.size + 1 + 1, 11, none⟩) (by simp) _).other (a := ⟨w.heap.size + 1 + 1, 12, none⟩) (by simp) _).other (a := ⟨w.heap.size + 1 + 1, 13, none⟩) (by simp) _).other (a := ⟨w.heap.size + 1 + 1, 14, none⟩) (by simp) _).other (a := ⟨w.heap.size + 1 + 1, 15, none⟩) (by simp) _).other (a := ⟨w.heap.size + 1 + 1, 16, none⟩) (by simp) _).other (a := ⟨w.heap.size + 1 + 1, 17, none⟩) (by simp) _), by exact (((((((((HBL.out.setCell (p := ⟨w.heap.size + 1 + 1, 1, none⟩) (by simp; omega) _).setCell (p := ⟨w.heap.size + 1 + 1, 10, none⟩) (by simp; omega) _).setCell (p := ⟨w.heap.size + 1 + 1, 11, none⟩) (by simp; omega) _).setCell (p := ⟨w.heap.size + 1 + 1, 12, none⟩) (by simp; omega) _).setCell (p := ⟨w.heap.size + 1 + 1, 13, none⟩) (by simp; omega) _).setCell (p := ⟨w.heap.size + 1 + 1, 14, none⟩) (by simp; omega) _).setCell (p := ⟨w.heap.size + 1 + 1, 15, none⟩) (by simp; omega) _).setCell (p := ⟨w.heap.size + 1 + 1, 16, none⟩) (by simp; omega) _).setCell (p := ⟨w.heap.size + 1 + 1, 17, none⟩) (by simp; omega) _)⟩
  case rest =>
    obtain ⟨h3, h2, hbl⟩ := hcut
    clear c1 c10 c11 c12 c13 c14 c15 c16 c17 f1 f10 f11 f12 f13 f14 f15 f16 f17 n0 n1 n2 n3 HB1 HB2 HB3 HBL
    generalize hr : recOf en what how data = r at *
    obtain ⟨a0, a1, a2, a3, a4, a5⟩ := r
    have HR := Lib.hid hr
    clear hr
    simp only [rcList] at h3 ⊢
    have HRG : Hid (wc.rangeAt (w.heap.size + 1 + 1) 0 [.int .i64 a0, .int .i64 a1, .int .i64 0, .int .i64 0, .int .u32 0, .int .u32 0, .int .u32 0, .slice none 0 0, .bool false, .string ⟨#[]⟩, .int .i64 a2, .string a3, .bool false, .int .u8 0, .int .i64 0, .int .i64 a4, .string a5, .int .i64 0]) := Lib.hid (fun j v hv => by rw [Nat.zero_add, h3.cell]; exact hv)
    have HTH : Hid (wc.there (w.heap.size + 1) 0 18) := Lib.hid (fun j hj => by
      rw [Nat.zero_add, h2.cell, h2.froz]
      refine ⟨?_, rfl⟩
      have : j < (rcList 0 0 0 ⟨#[]⟩ 0 ⟨#[]⟩).length := hj
      simp [this])
    have HBL := Lib.hid hbl
    clear h3 h2 hbl
    go_wp2_with (first | (refine wpList_load_mid rfl 43 (.tmp 3) rfl (w.heap.size + 1 + 1) 0 (by rfl) [.int .i64 a0, .int .i64 a1, .int .i64 0, .int .i64 0, .int .u32 0, .int .u32 0, .int .u32 0, .slice none 0 0, .bool false, .string ⟨#[]⟩, .int .i64 a2, .string a3, .bool false, .int .u8 0, .int .i64 0, .int .i64 a4, .string a5, .int .i64 0] _ HRG.out Try.underlying43 rfl rec_info ?_) | (refine wpList_store_mid rfl 43 (.tmp 2) (.tmp 58) (by rfl) (w.heap.size + 1) 0 #[.int .i64 a0, .int .i64 a1, .int .i64 0, .int .i64 0, .int .u32 0, .int .u32 0, .int .u32 0, .slice none 0 0, .bool false, .string ⟨#[]⟩, .int .i64 a2, .string a3, .bool false, .int .u8 0, .int .i64 0, .int .i64 a4, .string a5, .int .i64 0] (by rfl) (by rfl) HTH.out rec_info (recs_one ⟨a0, a1, a2, a3, a4, a5⟩) ?_))
    have hra := World.rangeAt_setCells_same wc (w.heap.size + 1) 0 [.int .i64 a0, .int .i64 a1, .int .i64 0, .int .i64 0, .int .u32 0, .int .u32 0, .int .u32 0, .slice none 0 0, .bool false, .string ⟨#[]⟩, .int .i64 a2, .string a3, .bool false, .int .u8 0, .int .i64 0, .int .i64 a4, .string a5, .int .i64 0] HTH.out
    have hbf : Below w.heap.size w (wc.setCells (w.heap.size + 1) 0 [.int .i64 a0, .int .i64 a1, .int .i64 0, .int .i64 0, .int .u32 0, .int .u32 0, .int .u32 0, .slice none 0 0, .bool false, .string ⟨#[]⟩, .int .i64 a2, .string a3, .bool false, .int .u8 0, .int .i64 0, .int .i64 a4, .string a5, .int .i64 0]) := HBL.out.trans (below_setCells _ _ _ _ _ (by omega))
    generalize wc.setCells (w.heap.size + 1) 0 [.int .i64 a0, .int .i64 a1, .int .i64 0, .int .i64 0, .int .u32 0, .int .u32 0, .int .u32 0, .slice none 0 0, .bool false, .string ⟨#[]⟩, .int .i64 a2, .string a3, .bool false, .int .u8 0, .int .i64 0, .int .i64 a4, .string a5, .int .i64 0] = W9 at *
    have r0 := hra 0 _ rfl
    have r1 := hra 1 _ rfl
    have r2 := hra 2 _ rfl
    have r3 := hra 3 _ rfl
    have r4 := hra 4 _ rfl
    have r5 := hra 5 _ rfl
    have r6 := hra 6 _ rfl
    have r7 := hra 7 _ rfl
    have r8 := hra 8 _ rfl
    have r9 := hra 9 _ rfl
    have r10 := hra 10 _ rfl
    have r11 := hra 11 _ rfl
    have r12 := hra 12 _ rfl
    have r13 := hra 13 _ rfl
    have r14 := hra 14 _ rfl
    have r15 := hra 15 _ rfl
    have r16 := hra 16 _ rfl
    have r17 := hra 17 _ rfl
    exact bodyPost_ret (v := .agg #[.int .i64 a0, .int .i64 a1, .int .i64 0, .int .i64 0, .int .u32 0, .int .u32 0, .int .u32 0, .slice none 0 0, .bool false, .string ⟨#[]⟩, .int .i64 a2, .string a3, .bool false, .int .u8 0, .int .i64 0, .int .i64 a4, .string a5, .int .i64 0]) (by simp [results, Try.results9, go_sem, r0, r1, r2, r3, r4, r5, r6, r7, r8, r9, r10, r11, r12, r13, r14, r15, r16, r17]) rfl ⟨by rw [HR.out]; rfl, hbf⟩
end Go.Proofs.Ytanmdmidjeobeaa
