/-
  Contract of (*audit.Audit).sent: a unit of data, a POLL, a status whose list can't be.
-/
import Derived.Test.YtbppgicdmkkmnaaDoorAuSet
import Derived.Test.YtbppgicdmkkmnaaDoorPduCheck
import Derived.Deep.RegionHeld3
set_option linter.unusedVariables false
set_option linter.unusedSimpArgs false
namespace Go.Proofs.YtbppgicdmkkmnaaDoor
open Go.RowKit

def pollW : List UInt8 := [112, 111, 108, 108]
def listW : List UInt8 := [108, 105, 115, 116]
theorem sent_end {B b : Nat} {S S' : AudS} {w w1 : World} {e : Ending} {w2 : World} (hb : Below w.heap.size w w1) (h : ProbEnd B b S w1 e w2) (hS : S' = S) : ProbEnd B b S' w e w2 := by
  subst hS
  obtain ⟨he, lv, h1, h2⟩ := h
  exact ⟨he, lv, h1, (KeepA.of_below hb).trans h2⟩
/-- The two new boxes of 'sent', and what stays. -/
theorem sent_two {w : World} {rc pc : List Value} :
    BoxAt ((w.alloc (.cells rc.toArray 36)).alloc (.cells pc.toArray 30)) w.heap.size 36 rc ∧
    BoxAt ((w.alloc (.cells rc.toArray 36)).alloc (.cells pc.toArray 30)) (w.heap.size + 1) 30 pc ∧
    Below w.heap.size w ((w.alloc (.cells rc.toArray 36)).alloc (.cells pc.toArray 30)) :=
  ⟨(BoxAt.new w _ _).alloc, BoxAt.newAt (by simp) _ _, ((Below.refl _ _).alloc (Nat.le_refl _) _).alloc (by simp) _⟩
theorem data_o (B b i j mb o : Nat) (S : AudS) (lv : Value) (n : Int) (w : World) (h : AudAt w B b S lv) (hi : i < 2) (hj : j < 10) (hm : (S.e i).m = some mb) (hn0 : 0 ≤ n) (hn1 : n < 16777216) (hl : S.l.length ≤ 100000) (hc : (S.e i).cnt ≤ 1000000) (hB : B ≤ w.heap.size) (ho : o = 2 + 6 * i) :
    Calls Tryd.prog 25 #[.pointer (some ⟨b, 0, none⟩), .int .i64 (j : Int), .pointer (some ⟨b, o, none⟩), .int .u32 n] w (ProbEnd B b (dataA S i j n) w) := by
  subst ho; exact data_any B b i j mb S lv n w h hi hj hm hn0 hn1 hl hc hB
theorem ck_sd (n : Int) (hn : n < 16777216) : checkOf 8 0 n 0 0 [] false 0 = 0 := by
  have h : lowB n = true := decide_eq_true hn
  unfold checkOf allB; rw [h]; rfl
theorem ck_poll (n : Int) (hn : n < 16777216) : checkOf 10 0 n 0 0 [] false 0 = 0 := by
  have h : lowB n = true := decide_eq_true hn
  unfold checkOf allB; rw [h]; rfl
theorem ck_list (n x y : Int) (hn : n < 16777216) (hx : x < 16777216) (hy : y < 16777216) : checkOf 11 0 n 0 0 [x, y] false 0 = 0 := by
  have h : lowB n = true := decide_eq_true hn
  have h1 : [x, y].all lowB = true := by simp [lowB, hx, hy]
  unfold checkOf allB; rw [h, h1]; simp [listB, someB, sqB, bigB, sIs, sData, sList, sN, sPs, sMr, sSelf, sSq, lowB]
theorem ints_two {w : World} {g c : Nat} {x y : Int} (hc : 2 ≤ c) (hg0 : w.cell? ⟨g, 0, none⟩ = some (.int .u32 x)) (hg1 : w.cell? ⟨g, 1, none⟩ = some (.int .u32 y)) : IntsR .u32 w (.slice (some ⟨g, 0, none⟩) 2 c) [x, y] := by
  refine ⟨_, c, rfl, hc, by simp, fun _ => ⟨g, 0, rfl⟩, fun b o h j hj => ?_⟩
  cases h
  have : j = 0 ∨ j = 1 := by simp at hj; omega
  rcases this with rfl | rfl
  · exact hg0
  · exact hg1
set_option maxRecDepth 100000 in
set_option maxHeartbeats 2000000 in
theorem sent_sd (B b i mb : Nat) (S : AudS) (lv : Value) (n sk sc rk : Int) (w : World) (h : AudAt w B b S lv) (hi : i < 2) (hm : (S.e i).m = some mb) (hbg : (S.e i).begun = true) (hn0 : 0 ≤ n) (hn1 : n < 16777216) (hl : S.l.length ≤ 100000) (hc : (S.e i).cnt ≤ 1000000) (hB : B ≤ w.heap.size) :
    Calls Tryd.prog 17 #[.pointer (some ⟨b, 0, none⟩), .agg #[.int .i64 (i : Int), .int .i64 1, .int .i64 8, .int .i64 0, .int .u32 n, .int .u32 0, .int .u32 0, .slice none 0 0, .bool false, .string ⟨#[]⟩, .int .i64 sk, .string ⟨#[]⟩, .bool false, .int .u8 sc, .int .i64 0, .int .i64 rk, .string ⟨#[]⟩, .int .i64 0], .pointer (some ⟨b, 2 + 6 * i, none⟩)] w (ProbEnd B b (dataA S i i n) w) := by
  obtain ⟨o, ho⟩ : ∃ o, o = 2 + 6 * i := ⟨_, rfl⟩
  rw [← ho]
  have HO := Lib.hid ho
  clear ho
  have HA := Lib.hid h
  have HM := Lib.hid hm
  have HBG := Lib.hid hbg
  have HC := Lib.hid hc
  have HNN : Hid (n % 16777216 = n) := Lib.hid (by omega)
  have HCK : Hid (checkOf 8 0 n 0 0 [] false (⟨#[]⟩ : ByteArray).size = 0) := Lib.hid (ck_sd n hn1)
  have HT := Lib.hid (@sent_two w [.int .i64 (i : Int), .int .i64 1, .int .i64 8, .int .i64 0, .int .u32 n, .int .u32 0, .int .u32 0, .slice none 0 0, .bool false, .string ⟨#[]⟩, .int .i64 sk, .string ⟨#[]⟩, .bool false, .int .u8 sc, .int .i64 0, .int .i64 rk, .string ⟨#[]⟩, .int .i64 0] [.int .i64 8, .int .i64 0, .int .u32 n, .int .u32 0, .int .u32 0, .slice none 0 0, .bool false, .string ⟨#[]⟩])
  clear h hm hbg hc
  go_enter Tryd.func17, Tryd.ntmps17
  go_wp2_with fail
  obtain ⟨x1, x2, x3⟩ := HT.out
  have HX1 := Lib.hid x1
  have HX2 := Lib.hid x2
  have HX3 := Lib.hid x3
  generalize (w.alloc _).alloc _ = W at *
  clear x1 x2 x3 HT
  refine (check_any 8 0 n 0 0 (.slice none 0 0) [] false ⟨#[]⟩ W ⟨hn0, by omega⟩ ⟨by omega, by omega⟩ ⟨by omega, by omega⟩ (IntsR.nil .u32 W) (by simp) (by decide) (by simp)).mono ?_
  rintro e w3 ⟨rfl, hb3⟩
  rw [HCK.out]
  have HB3 := Lib.hid (HX3.out.trans (hb3.mono HX3.out.size))
  have HY1 := Lib.hid (HX1.out.below hb3 HX1.out.lt)
  have HY2 := Lib.hid (HX2.out.below hb3 HX2.out.lt)
  have HA3 := Lib.hid (HA.out.below HB3.out)
  have HZ3 : Hid (B ≤ w3.heap.size) := Lib.hid (by have := HB3.out.size; omega)
  clear hb3 HX1 HX2 HX3
  obtain ⟨e0, -⟩ := HA3.out.ecells hi HO.out
  rw [HBG.out] at e0
  obtain ⟨q0, q1, q2, q3, q4, q5, q6, q7⟩ := HY2.out.cells8
  have r0 := HY1.out.cell 0
  simp only [List.getElem?_cons_zero] at r0
  go_wp2_with fail
  have HA4 := Lib.hid (HA3.out.below (Below.refl _ w3).drew)
  have HI10 : Hid (i < 10) := Lib.hid (by omega)
  have HZ4 : Hid (B ≤ w3.drew.heap.size) := Lib.hid HZ3.out
  go_region_held3 (fun w' => w'.cell? ⟨w.heap.size, 0, none⟩ = some (.int .i64 (i : Int)) ∧ w'.cell? ⟨w.heap.size + 1, 2, none⟩ = some (.int .u32 n)) (first | go_keep | exact ⟨(HKK.out.box HY1.out (by decide) (by decide)).cell 0, (HKK.out.box HY2.out (by decide) (by decide)).cell 2⟩) (first | ((go_at_call 14; refine (low_num _ _).mono ?_; rintro e w' ⟨rfl, rfl⟩)) | ((go_at_call 25; (try rw [HNN.out]); refine (data_o B b i i mb o S lv n _ HA4.out hi HI10.out HM.out hn0 hn1 hl HC.out HZ4.out HO.out).mono ?_; rintro e w5 ⟨rfl, lv5, ha5, hk5⟩; have HAA := Lib.hid ha5; have HKK := Lib.hid (KeepA.trans (KeepA.of_below (B := B) (Below.refl _ w3).drew) hk5); clear ha5 hk5)))
  go_wp2_with fail
  go_end0
  exact ⟨rfl, lv5, HAA.out, (KeepA.of_below HB3.out).trans HKK.out⟩
set_option maxRecDepth 100000 in
set_option maxHeartbeats 2000000 in
theorem sent_poll (B b i mb : Nat) (S : AudS) (lv : Value) (n sk sc rk : Int) (w : World) (h : AudAt w B b S lv) (hi : i < 2) (hm : (S.e i).m = some mb) (hbg : (S.e i).begun = true) (hn0 : 0 ≤ n) (hn1 : n < 16777216) (hl : S.l.length ≤ 100000) (hs : (S.e i).s ≠ n) (hB : B ≤ w.heap.size) :
    Calls Tryd.prog 17 #[.pointer (some ⟨b, 0, none⟩), .agg #[.int .i64 (i : Int), .int .i64 1, .int .i64 10, .int .i64 0, .int .u32 n, .int .u32 0, .int .u32 0, .slice none 0 0, .bool false, .string ⟨#[]⟩, .int .i64 sk, .string ⟨#[]⟩, .bool false, .int .u8 sc, .int .i64 0, .int .i64 rk, .string ⟨#[]⟩, .int .i64 0], .pointer (some ⟨b, 2 + 6 * i, none⟩)] w (ProbEnd B b (S.tell i pollW) w) := by
  obtain ⟨o, ho⟩ : ∃ o, o = 2 + 6 * i := ⟨_, rfl⟩
  rw [← ho]
  have HO := Lib.hid ho
  clear ho
  have HA := Lib.hid h
  have HM := Lib.hid hm
  have HBG := Lib.hid hbg
  have HC : Hid ((n == (S.e i).s) = false) := Lib.hid (by simpa using fun e => hs e.symm)
  have HNN : Hid (n % 16777216 = n) := Lib.hid (by omega)
  have HCK : Hid (checkOf 10 0 n 0 0 [] false (⟨#[]⟩ : ByteArray).size = 0) := Lib.hid (ck_poll n hn1)
  have HT := Lib.hid (@sent_two w [.int .i64 (i : Int), .int .i64 1, .int .i64 10, .int .i64 0, .int .u32 n, .int .u32 0, .int .u32 0, .slice none 0 0, .bool false, .string ⟨#[]⟩, .int .i64 sk, .string ⟨#[]⟩, .bool false, .int .u8 sc, .int .i64 0, .int .i64 rk, .string ⟨#[]⟩, .int .i64 0] [.int .i64 10, .int .i64 0, .int .u32 n, .int .u32 0, .int .u32 0, .slice none 0 0, .bool false, .string ⟨#[]⟩])
  clear h hm hbg hs
  go_enter Tryd.func17, Tryd.ntmps17
  go_wp2_with fail
  obtain ⟨x1, x2, x3⟩ := HT.out
  have HX1 := Lib.hid x1
  have HX2 := Lib.hid x2
  have HX3 := Lib.hid x3
  generalize (w.alloc _).alloc _ = W at *
  clear x1 x2 x3 HT
  refine (check_any 10 0 n 0 0 (.slice none 0 0) [] false ⟨#[]⟩ W ⟨hn0, by omega⟩ ⟨by omega, by omega⟩ ⟨by omega, by omega⟩ (IntsR.nil .u32 W) (by simp) (by decide) (by simp)).mono ?_
  rintro e w3 ⟨rfl, hb3⟩
  rw [HCK.out]
  have HB3 := Lib.hid (HX3.out.trans (hb3.mono HX3.out.size))
  have HY1 := Lib.hid (HX1.out.below hb3 HX1.out.lt)
  have HY2 := Lib.hid (HX2.out.below hb3 HX2.out.lt)
  have HA3 := Lib.hid (HA.out.below HB3.out)
  have HZ3 : Hid (B ≤ w3.heap.size) := Lib.hid (by have := HB3.out.size; omega)
  clear hb3 HX1 HX2 HX3
  obtain ⟨e0, e1, -⟩ := HA3.out.ecells hi HO.out
  rw [HBG.out] at e0
  obtain ⟨q0, q1, q2, q3, q4, q5, q6, q7⟩ := HY2.out.cells8
  have r0 := HY1.out.cell 0
  simp only [List.getElem?_cons_zero] at r0
  generalize (S.e i).s = s9 at *
  have hne := HC.out
  go_wp2_with fail
  go_quiet (fail)
  generalize hWq : w3.drewN _ = wq
  have hwq : Below w3.heap.size w3 wq := hWq ▸ below_drewN (Below.refl _ _) _
  have HB4 := Lib.hid (HB3.out.trans (hwq.mono (by have := HB3.out.size; omega)))
  have HA4 := Lib.hid (HA3.out.below hwq)
  have HZ4 : Hid (B ≤ wq.heap.size) := Lib.hid (by have := hwq.size; have := HZ3.out; omega)
  have r0 := (HY1.out.below hwq HY1.out.lt).cell 0
  simp only [List.getElem?_cons_zero] at r0
  have HI10 : Hid (i < 10) := Lib.hid (by omega)
  clear hWq hwq
  go_wp2_with fail
  refine (prob_tell B b S lv i ⟨#[112, 111, 108, 108]⟩ wq HA4.out HI10.out (by decide) hl HZ4.out).mono ?_
  rintro e w5 ⟨rfl, lv5, ha5, hk5⟩
  have HAA := Lib.hid ha5
  have HKK := Lib.hid hk5
  clear ha5 hk5
  go_wp2_with fail
  go_end0
  exact ⟨rfl, lv5, HAA.out, (KeepA.of_below HB4.out).trans HKK.out⟩
set_option maxRecDepth 100000 in
set_option maxHeartbeats 2000000 in
theorem sent_list (B b i mb : Nat) (S : AudS) (lv : Value) (n sk sc rk x y : Int) (g c : Nat) (w : World) (h : AudAt w B b S lv) (hi : i < 2) (hm : (S.e i).m = some mb) (hbg : (S.e i).begun = true) (hn0 : 0 ≤ n) (hn1 : n < 16777216) (hl : S.l.length ≤ 100000) (hx : (x - n) % 16777216 = 2) (hy : (y - n) % 16777216 = 1) (hx0 : 0 ≤ x ∧ x < 16777216) (hy0 : 0 ≤ y ∧ y < 16777216) (hc : 2 ≤ c) (hg0 : w.cell? ⟨g, 0, none⟩ = some (.int .u32 x)) (hg1 : w.cell? ⟨g, 1, none⟩ = some (.int .u32 y)) (hB : B ≤ w.heap.size) :
    Calls Tryd.prog 17 #[.pointer (some ⟨b, 0, none⟩), .agg #[.int .i64 (i : Int), .int .i64 1, .int .i64 11, .int .i64 0, .int .u32 n, .int .u32 0, .int .u32 0, .slice (some ⟨g, 0, none⟩) 2 c, .bool false, .string ⟨#[]⟩, .int .i64 sk, .string ⟨#[]⟩, .bool false, .int .u8 sc, .int .i64 0, .int .i64 rk, .string ⟨#[]⟩, .int .i64 0], .pointer (some ⟨b, 2 + 6 * i, none⟩)] w (ProbEnd B b (S.tell i listW) w) := by
  obtain ⟨o, ho⟩ : ∃ o, o = 2 + 6 * i := ⟨_, rfl⟩
  rw [← ho]
  have HO := Lib.hid ho
  clear ho
  have HA := Lib.hid h
  have HM := Lib.hid hm
  have HBG := Lib.hid hbg
  have HX := Lib.hid hx
  have HY := Lib.hid hy
  have HX0 := Lib.hid hx0
  have HY0 := Lib.hid hy0
  have HG0 := Lib.hid hg0
  have HG1 := Lib.hid hg1
  have HNN : Hid (n % 16777216 = n) := Lib.hid (by omega)
  have HCK : Hid (checkOf 11 0 n 0 0 [x, y] false (⟨#[]⟩ : ByteArray).size = 0) := Lib.hid (ck_list n x y hn1 hx0.2 hy0.2)
  have HT := Lib.hid (@sent_two w [.int .i64 (i : Int), .int .i64 1, .int .i64 11, .int .i64 0, .int .u32 n, .int .u32 0, .int .u32 0, .slice (some ⟨g, 0, none⟩) 2 c, .bool false, .string ⟨#[]⟩, .int .i64 sk, .string ⟨#[]⟩, .bool false, .int .u8 sc, .int .i64 0, .int .i64 rk, .string ⟨#[]⟩, .int .i64 0] [.int .i64 11, .int .i64 0, .int .u32 n, .int .u32 0, .int .u32 0, .slice (some ⟨g, 0, none⟩) 2 c, .bool false, .string ⟨#[]⟩])
  clear h hm hbg hx hy hx0 hy0 hg0 hg1
  go_enter Tryd.func17, Tryd.ntmps17
  go_wp2_with fail
  obtain ⟨x1, x2, x3⟩ := HT.out
  have HX1 := Lib.hid x1
  have HX2 := Lib.hid x2
  have HX3 := Lib.hid x3
  generalize (w.alloc _).alloc _ = W at *
  clear x1 x2 x3 HT
  have HI : Hid (IntsR .u32 W (.slice (some ⟨g, 0, none⟩) 2 c) [x, y]) := Lib.hid (ints_two hc ((HX3.out.cell (block_lt_of_cell HG0.out)).trans HG0.out) ((HX3.out.cell (block_lt_of_cell HG1.out)).trans HG1.out))
  refine (check_any 11 0 n 0 0 (.slice (some ⟨g, 0, none⟩) 2 c) [x, y] false ⟨#[]⟩ W ⟨hn0, by omega⟩ ⟨by omega, by omega⟩ ⟨by omega, by omega⟩ HI.out (by simp; have := HX0.out; have := HY0.out; omega) (by decide) (by simp)).mono ?_
  rintro e w3 ⟨rfl, hb3⟩
  rw [HCK.out]
  have HB3 := Lib.hid (HX3.out.trans (hb3.mono HX3.out.size))
  have HY1 := Lib.hid (HX1.out.below hb3 HX1.out.lt)
  have HY2 := Lib.hid (HX2.out.below hb3 HX2.out.lt)
  have HA3 := Lib.hid (HA.out.below HB3.out)
  have HZ3 : Hid (B ≤ w3.heap.size) := Lib.hid (by have := HB3.out.size; omega)
  clear hb3 HX1 HX2 HX3
  obtain ⟨e0, -⟩ := HA3.out.ecells hi HO.out
  rw [HBG.out] at e0
  obtain ⟨q0, q1, q2, q3, q4, q5, q6, q7⟩ := HY2.out.cells8
  have r0 := HY1.out.cell 0
  simp only [List.getElem?_cons_zero] at r0
  have k0 := (HB3.out.cell (block_lt_of_cell HG0.out)).trans HG0.out
  have k1 := (HB3.out.cell (block_lt_of_cell HG1.out)).trans HG1.out
  have HSB := Lib.hid (fun m => set_bad n x y g c (w3.drewN m) HX.out HY.out (((below_drewN (Below.refl w3.heap.size w3) m).cell (block_lt_of_cell k0)).trans k0) (((below_drewN (Below.refl w3.heap.size w3) m).cell (block_lt_of_cell k1)).trans k1))
  clear k0 k1
  go_wp2_with fail
  go_quiet (first | (go_at_call 8; exact Calls.quiet_of_same ((add_num _ _ _).mono fun _ _ ⟨h1, h2⟩ => ⟨h1, h2.symm⟩)) | (go_at_call 24; exact Calls.quiet_of_same ((HSB.out _).mono fun _ _ ⟨h1, h2⟩ => ⟨h1, h2.symm⟩)))
  generalize hWq : w3.drewN _ = wq
  have hwq : Below w3.heap.size w3 wq := hWq ▸ below_drewN (Below.refl _ _) _
  have HB4 := Lib.hid (HB3.out.trans (hwq.mono (by have := HB3.out.size; omega)))
  have HA4 := Lib.hid (HA3.out.below hwq)
  have HZ4 : Hid (B ≤ wq.heap.size) := Lib.hid (by have := hwq.size; have := HZ3.out; omega)
  have r0 := (HY1.out.below hwq HY1.out.lt).cell 0
  simp only [List.getElem?_cons_zero] at r0
  have HYq := Lib.hid (HY2.out.below hwq HY2.out.lt)
  have HI10 : Hid (i < 10) := Lib.hid (by omega)
  clear hWq hwq
  go_wp2_with fail
  refine (prob_tell B b S lv i ⟨#[108, 105, 115, 116]⟩ wq HA4.out HI10.out (by decide) hl HZ4.out).mono ?_
  rintro e w5 ⟨rfl, lv5, ha5, hk5⟩
  obtain ⟨e0, -⟩ := ha5.ecells hi HO.out
  rw [AudS.tell_e, HBG.out] at e0
  obtain ⟨q0, q1, q2, q3, q4, q5, q6, q7⟩ := (hk5.box HYq.out (by decide) (by decide)).cells8
  have HAA := Lib.hid ha5
  have HKK := Lib.hid hk5
  clear ha5 hk5
  go_wp2_with fail
  go_end0
  exact ⟨rfl, lv5, HAA.out, (KeepA.of_below HB4.out).trans HKK.out⟩
end Go.Proofs.YtbppgicdmkkmnaaDoor
