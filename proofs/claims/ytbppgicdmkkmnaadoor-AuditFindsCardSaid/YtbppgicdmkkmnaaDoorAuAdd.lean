/-
  Contract of (*audit.Audit).Add: the records of a call.
-/
import Derived.Test.YtbppgicdmkkmnaaDoorAuStep
import Derived.Outline
set_option linter.unusedVariables false
set_option linter.unusedSimpArgs false
namespace Go.Proofs.YtbppgicdmkkmnaaDoor
open Go.RowKit

structure AddRel (w : World) (B b : Nat) (P : AudS) (wx : World) : Prop where
  aud : AudP wx B b P
  keep : KeepA B w wx
theorem AddRel.of {w w1 w2 : World} {B b : Nat} {P : AudS} {S : AudS} {lv : Value} (hk : KeepA B w w1) (hk2 : KeepA B w1 w2) (ha : AudAt w2 B b S lv) (hs : S.er = P) (hg : S.good) : AddRel w B b P w2 := ⟨⟨S, lv, ha, hs, hg⟩, hk.trans hk2⟩
def AddEnd (w : World) (B b : Nat) (P : AudS) (e : Ending) (w' : World) : Prop := e = .returned (.tuple #[]) ∧ AddRel w B b P w'
theorem AudAt.starts {w : World} {B b : Nat} {S : AudS} {lv : Value} (h : AudAt w B b S lv) : w.cell? ⟨b, 0, none⟩ = some (.int .u32 S.st0) ∧ w.cell? ⟨b, 1, none⟩ = some (.int .u32 S.st1) := ⟨h.box.cell 0, h.box.cell 1⟩
set_option maxRecDepth 100000 in
set_option maxHeartbeats 8000000 in
theorem add_any (B b g c : Nat) (rs : List RecS) (F : Nat → AudS) (I : Nat → Nat) (w : World) (h : AudP w B b (F 0)) (hr : RecsAt w g rs) (hlen : rs.length ≤ 1000) (hI : ∀ j, I j < 2)
    (hF : ∀ j (h : j < rs.length), StepR w (F j) (I j) rs[j] (refusedB rs j) (F (j + 1))) (hl : ∀ j, (F j).l.length ≤ 1000) (hcnt : ∀ j i, ((F j).e i).cnt ≤ 1000) (hB : B ≤ w.heap.size) :
    Calls Tryd.prog 10 #[.pointer (some ⟨b, 0, none⟩), .slice (some ⟨g, 0, none⟩) rs.length c] w (AddEnd w B b (F rs.length)) := by
  have HF := Lib.hid hF
  have HL := Lib.hid hl
  have HC := Lib.hid hcnt
  have HI := Lib.hid hI
  have HR := Lib.hid hr
  have HA0 := Lib.hid h
  have HBB := Lib.hid hB
  have HLN := Lib.hid hlen
  clear hF hl hcnt hI hr h hB
  go_enter Tryd.func10, Tryd.ntmps10
  go_wp2_with fail
  go_loopw [12] (fun ix wx => ∃ j : Nat, ix = .int .i64 (j : Int) ∧ j ≤ rs.length ∧ AddRel w B b (F j) wx) (fun ix _ => rs.length - (intOf ix).toNat)
  case atStart => exact ⟨0, rfl, by omega, ⟨HA0.out, KeepA.refl _ _⟩⟩
  case round =>
    obtain ⟨j, rfl, hj, hrl⟩ := hrel
    by_cases hjn : j < rs.length
    · have hjn1 : (j : Int) < (rs.length : Int) := by omega
      have HS := Lib.hid ((HF.out j hjn).keep hrl.keep)
      have hrange := (HR.out.keep hrl.keep).range hjn
      have HRX := Lib.hid (HR.out.keep hrl.keep)
      have HREF := Lib.hid (fun W (h : RecsAt W g rs) => refused_any g c j rs W h hjn (by omega))
      have hl1 := HL.out j
      have hc1 := HC.out j (I j)
      have hi2 := HI.out j
      have HKW := Lib.hid hrl.keep
      obtain ⟨S, lv, ha, hse, hsg⟩ := hrl.aud
      have HA := Lib.hid ha
      have HG := Lib.hid hsg
      have hBx : B ≤ wr.heap.size := by have := hrl.keep.size; have := HBB.out; omega
      have HBX := Lib.hid hBx
      clear hrl ha hsg hBx
      generalize hP : F (j + 1) = P' at *
      have HPP := Lib.hid hP
      clear hP
      generalize F j = P at *
      subst hse
      generalize hrr : rs[j] = r at *
      generalize hrf : refusedB rs j = rf at *
      generalize I j = i at *
      clear hrr
      have hen := HS.out.en
      obtain ⟨en, kd, k, n, mr, la, ll, lc, sk, sc, rk⟩ := r
      simp only at hen
      subst hen
      have HRF := Lib.hid hrf
      clear hrf
      have HL1 : Hid (S.l.length ≤ 100000) := Lib.hid (by rw [AudS.er_l] at hl1; omega)
      have HC1 : Hid ((S.e i).cnt ≤ 900000) := Lib.hid (by rw [AudS.er_e] at hc1; exact Nat.le_trans hc1 (by decide))
      clear hl1 hc1
      have hi0 : ¬ ((i : Int) < 0) := by omega
      have hi3 : ¬ (2 ≤ (i : Int)) := by omega
      unfold RecS.cells recC at hrange
      have HR0 := Lib.hid hrange
      have c0 := hrange 0 _ rfl
      rw [Nat.add_zero] at c0
      have HB := Lib.hid ((Below.refl wr.heap.size wr).alloc (Nat.le_refl _) (.cells #[.int .i64 i, .int .i64 kd, .int .i64 k, .int .i64 0, .int .u32 n, .int .u32 0, .int .u32 mr, .slice la ll lc, .bool false, .string ⟨#[]⟩, .int .i64 sk, .string ⟨#[]⟩, .bool false, .int .u8 sc, .int .i64 0, .int .i64 rk, .string ⟨#[]⟩, .int .i64 0] 36))
      have HX := Lib.hid (BoxAt.new wr 36 [.int .i64 i, .int .i64 kd, .int .i64 k, .int .i64 0, .int .u32 n, .int .u32 0, .int .u32 mr, .slice la ll lc, .bool false, .string ⟨#[]⟩, .int .i64 sk, .string ⟨#[]⟩, .bool false, .int .u8 sc, .int .i64 0, .int .i64 rk, .string ⟨#[]⟩, .int .i64 0])
      clear hrange
      go_upto_region 3 with (first | (refine wpList_load_mid rfl 36 (.tmp 15) rfl g (j * 18) (by rfl) [.int .i64 i, .int .i64 kd, .int .i64 k, .int .i64 0, .int .u32 n, .int .u32 0, .int .u32 mr, .slice la ll lc, .bool false, .string ⟨#[]⟩, .int .i64 sk, .string ⟨#[]⟩, .bool false, .int .u8 sc, .int .i64 0, .int .i64 rk, .string ⟨#[]⟩, .int .i64 0] _ HR0.out Tryd.underlying36 rfl rec_info ?_) | (refine wpList_store_new rfl 36 (.tmp 5) (.tmp 16) rfl wr.heap.size 36 _ #[.int .i64 i, .int .i64 kd, .int .i64 k, .int .i64 0, .int .u32 n, .int .u32 0, .int .u32 mr, .slice la ll lc, .bool false, .string ⟨#[]⟩, .int .i64 sk, .string ⟨#[]⟩, .bool false, .int .u8 sc, .int .i64 0, .int .i64 rk, .string ⟨#[]⟩, .int .i64 0] rfl (by rfl) (by rfl) rfl rec_info (rec_one _ kd k n mr la ll lc sk sc rk) ?_))
      generalize wr.alloc (.cells #[.int .i64 i, .int .i64 kd, .int .i64 k, .int .i64 0, .int .u32 n, .int .u32 0, .int .u32 mr, .slice la ll lc, .bool false, .string ⟨#[]⟩, .int .i64 sk, .string ⟨#[]⟩, .bool false, .int .u8 sc, .int .i64 0, .int .i64 rk, .string ⟨#[]⟩, .int .i64 0] 36) = W at *
      have d0 := HX.out.cell 0
      simp only [List.getElem?_cons_succ, List.getElem?_cons_zero] at d0
      have HXR := Lib.hid HX.out.range
      clear c0
      go_wp2_with (first | (refine wpList_load_mid rfl 36 (.tmp 5) rfl wr.heap.size 0 (by rfl) [.int .i64 i, .int .i64 kd, .int .i64 k, .int .i64 0, .int .u32 n, .int .u32 0, .int .u32 mr, .slice la ll lc, .bool false, .string ⟨#[]⟩, .int .i64 sk, .string ⟨#[]⟩, .bool false, .int .u8 sc, .int .i64 0, .int .i64 rk, .string ⟨#[]⟩, .int .i64 0] _ HXR.out Tryd.underlying36 rfl rec_info ?_) | fail)
      refine (begins_any _ kd k n mr la ll lc sk sc rk _).mono ?_
      rintro e w4 ⟨rfl, hb4⟩
      have HB4 := Lib.hid (HB.out.trans (hb4.mono HB.out.size))
      have HX4 := Lib.hid (HX.out.below hb4 HX.out.lt)
      have HA4 := Lib.hid (HA.out.below HB4.out)
      have HK4 := Lib.hid (KeepA.of_below (B := B) HB4.out)
      have HR4 := Lib.hid (HRX.out.keep HK4.out)
      have HS4 := Lib.hid (HS.out.keep HK4.out)
      have HZ4 : Hid (B ≤ w4.heap.size) := Lib.hid (by have := HB4.out.size; have := HBX.out; omega)
      clear hb4 HR0 HB HX HXR HRX HS d0 HA HBX
      generalize hrb : wr.heap.size = rb at *
      have HRB := Lib.hid hrb
      clear hrb
      have HST := HS4.out
      clear HS4
      cases HST with
      | conf k n mr sc rk rf =>
        rcases (show i = 0 ∨ i = 1 by omega) with rfl | rfl
        · rw [show beginsB 5 6 rk = true by rfl]
          have d0 := HX4.out.cell 0
          have d1 := HX4.out.cell 1
          have d2 := HX4.out.cell 2
          have d3 := HX4.out.cell 3
          have d4 := HX4.out.cell 4
          have d5 := HX4.out.cell 5
          have d6 := HX4.out.cell 6
          have d7 := HX4.out.cell 7
          have d8 := HX4.out.cell 8
          have d9 := HX4.out.cell 9
          have d10 := HX4.out.cell 10
          simp only [List.getElem?_cons_succ, List.getElem?_cons_zero] at d0 d1 d2 d3 d4 d5 d6 d7 d8 d9 d10
          have st := HA4.out.starts.1
          go_upto_region 5 with fail
          go_big_quiet (fail)
          generalize hWq : w4.drewN _ = wp
          have hwp : Below w4.heap.size w4 wp := hWq ▸ below_drewN (Below.refl _ _) _
          have HXp := Lib.hid (HX4.out.below hwp HX4.out.lt)
          have HAp := Lib.hid (HA4.out.below hwp)
          have HKp := Lib.hid (HK4.out.trans (KeepA.of_below hwp))
          have HRp := Lib.hid (HR4.out.keep (KeepA.of_below (B := B) hwp))
          have HZp : Hid (B ≤ wp.heap.size) := Lib.hid (by have := hwp.size; have := HZ4.out; omega)
          clear hWq hwp HX4 HA4 HK4 HR4 HZ4 st
          clear d0 d1 d2 d3 d4 d5 d6 d7 d8 d9 d10
          have d0 := HXp.out.cell 0
          have d1 := HXp.out.cell 1
          have d2 := HXp.out.cell 2
          have d3 := HXp.out.cell 3
          have d4 := HXp.out.cell 4
          have d5 := HXp.out.cell 5
          have d6 := HXp.out.cell 6
          have d7 := HXp.out.cell 7
          have d8 := HXp.out.cell 8
          have d9 := HXp.out.cell 9
          have d10 := HXp.out.cell 10
          simp only [List.getElem?_cons_succ, List.getElem?_cons_zero] at d0 d1 d2 d3 d4 d5 d6 d7 d8 d9 d10
          obtain ⟨-, -, -, -, e4, -⟩ := HAp.out.ecells (i := 0) (o := 2) (by decide) rfl
          go_upto_region 6 with fail
          go_big_quiet (fail)
          generalize hWq : wp.drewN _ = wt
          have hwp : Below wp.heap.size wp wt := hWq ▸ below_drewN (Below.refl _ _) _
          have HXt := Lib.hid (HXp.out.below hwp HXp.out.lt)
          have HAt := Lib.hid (HAp.out.below hwp)
          have HKt := Lib.hid (HKp.out.trans (KeepA.of_below hwp))
          have HRt := Lib.hid (HRp.out.keep (KeepA.of_below (B := B) hwp))
          have HZt : Hid (B ≤ wt.heap.size) := Lib.hid (by have := hwp.size; have := HZp.out; omega)
          clear hWq hwp HXp HAp HKp HRp HZp e4
          clear d0 d1 d2 d3 d4 d5 d6 d7 d8 d9 d10
          have d0 := HXt.out.cell 0
          simp only [List.getElem?_cons_succ, List.getElem?_cons_zero] at d0
          have hmm := @run_makeMap Tryd.prog
          have ef2 := HAt.out.efroz 2
          have ef3 := HAt.out.efroz 3
          have ef4 := HAt.out.efroz 4
          have ef5 := HAt.out.efroz 5
          have ef6 := HAt.out.efroz 6
          have ef7 := HAt.out.efroz 7
          obtain ⟨ek0, ek1, ek2, ek3, ek4, ek5⟩ := HAt.out.ecells (i := 0) (o := 2) (by decide) rfl
          have hltb := HAt.out.lt
          have hltx := HXt.out.lt
          have HFR : Hid (AudAt ((((((((wt.setCell ⟨b, 2, none⟩ (.bool true)).setCell ⟨b, 3, none⟩ (.int .u32 S.st0)).setCell ⟨b, 4, none⟩ (.int .u32 S.st0)).setCell ⟨b, 5, none⟩ (.int .u32 ((S.st0 + (S.e 0).credit) % 16777216))).setCell ⟨b, 6, none⟩ (.int .i64 (S.e 0).credit)).setCell ⟨b, 7, none⟩ (.map (some wt.heap.size))).alloc (.map #[] 0)).drew) B b (S.put 0 (freshE S.st0 (S.e 0).credit (some wt.heap.size))) lv ∧ KeepA B wt ((((((((wt.setCell ⟨b, 2, none⟩ (.bool true)).setCell ⟨b, 3, none⟩ (.int .u32 S.st0)).setCell ⟨b, 4, none⟩ (.int .u32 S.st0)).setCell ⟨b, 5, none⟩ (.int .u32 ((S.st0 + (S.e 0).credit) % 16777216))).setCell ⟨b, 6, none⟩ (.int .i64 (S.e 0).credit)).setCell ⟨b, 7, none⟩ (.map (some wt.heap.size))).alloc (.map #[] 0)).drew)) := Lib.hid (HAt.out.fresh2 (i := 0) (o := 2) (by decide) rfl HZt.out S.st0 (S.e 0).credit)
          have HC1 : Hid (((((((((wt.setCell ⟨b, 2, none⟩ (.bool true)).setCell ⟨b, 3, none⟩ (.int .u32 S.st0)).setCell ⟨b, 4, none⟩ (.int .u32 S.st0)).setCell ⟨b, 5, none⟩ (.int .u32 ((S.st0 + (S.e 0).credit) % 16777216))).setCell ⟨b, 6, none⟩ (.int .i64 (S.e 0).credit)).setCell ⟨b, 7, none⟩ (.map (some wt.heap.size))).alloc (.map #[] 0)).drew).cell? ⟨rb, 0, none⟩ = some (.int .i64 ((0 : Nat) : Int))) := Lib.hid ((HFR.out.2.box HXt.out (by decide) (by decide)).cell 0)
          have HC2 : Hid (wt.cell? ⟨rb, 0, none⟩ = some (.int .i64 ((0 : Nat) : Int))) := Lib.hid (HXt.out.cell 0)
          have HC3 : Hid (wt.drew.cell? ⟨rb, 0, none⟩ = some (.int .i64 ((0 : Nat) : Int))) := Lib.hid (HXt.out.cell 0)
          go_upto_region 7 with fail
          go_region_held3 (fun w' => w'.cell? ⟨rb, 0, none⟩ = some (.int .i64 ((0 : Nat) : Int))) (first | with_reducible exact HC1.out | with_reducible exact HC2.out | with_reducible exact HC3.out | go_keep) ((go_at_call 8; refine (add_num _ _ _).mono ?_; rintro e w' ⟨rfl, rfl⟩))
          all_goals
            have HFS : ∃ w5, w5 = ((((((((wt.setCell ⟨b, 2, none⟩ (.bool true)).setCell ⟨b, 3, none⟩ (.int .u32 S.st0)).setCell ⟨b, 4, none⟩ (.int .u32 S.st0)).setCell ⟨b, 5, none⟩ (.int .u32 ((S.st0 + (S.e 0).credit) % 16777216))).setCell ⟨b, 6, none⟩ (.int .i64 (S.e 0).credit)).setCell ⟨b, 7, none⟩ (.map (some wt.heap.size))).alloc (.map #[] 0)).drew) := ⟨_, rfl⟩
            obtain ⟨w5, hw5⟩ := HFS
            have hfr : AudAt w5 B b (S.put 0 (freshE S.st0 (S.e 0).credit (some wt.heap.size))) lv ∧ KeepA B wt w5 := by rw [hw5]; exact HFR.out
            rw [← hw5]
            have HER : Hid ((S.put 0 (freshE S.st0 (S.e 0).credit (some wt.heap.size))).er = S.er.put 0 (freshE (S.er.st 0) (S.er.e 0).credit none)) := Lib.hid (er_conf rfl rfl)
            have HGR : Hid ((S.put 0 (freshE S.st0 (S.e 0).credit (some wt.heap.size))).good) := Lib.hid (HG.out.put rfl)
            have HX4 := Lib.hid (hfr.2.box HXt.out (by decide) (by decide))
            have HA4 := Lib.hid hfr.1
            have HK4 := Lib.hid (HKt.out.trans hfr.2)
            have HR4 := Lib.hid (HRt.out.keep hfr.2)
            have HZ4 : Hid (B ≤ w5.heap.size) := Lib.hid (by have := hfr.2.size; have := HZt.out; omega)
            clear hw5 hfr HFR HC1 HC2 HC3 HAt HKt HRt HZt HXt ek0 ek1 ek2 ek3 ek4 ek5 d0 hltb hltx ef2 ef3 ef4 ef5 ef6 ef7
            have d0 := HX4.out.cell 0
            have d1 := HX4.out.cell 1
            have d2 := HX4.out.cell 2
            have d3 := HX4.out.cell 3
            have d4 := HX4.out.cell 4
            have d5 := HX4.out.cell 5
            have d6 := HX4.out.cell 6
            have d7 := HX4.out.cell 7
            have d8 := HX4.out.cell 8
            have d9 := HX4.out.cell 9
            have d10 := HX4.out.cell 10
            simp only [List.getElem?_cons_succ, List.getElem?_cons_zero] at d0 d1 d2 d3 d4 d5 d6 d7 d8 d9 d10
            go_upto_region 8 with fail
            go_big_quiet (fail)
            generalize hWq : w5.drewN _ = wq
            have hwq : Below w5.heap.size w5 wq := hWq ▸ below_drewN (Below.refl _ _) _
            have HXq := Lib.hid (HX4.out.below hwq HX4.out.lt)
            have HAq := Lib.hid (HA4.out.below hwq)
            have HKq := Lib.hid (HK4.out.trans (KeepA.of_below hwq))
            have HRq := Lib.hid (HR4.out.keep (KeepA.of_below (B := B) hwq))
            have HZq : Hid (B ≤ wq.heap.size) := Lib.hid (by have := hwq.size; have := HZ4.out; omega)
            have HSq := Lib.hid (fun g cs (h : BoxAt w5 g 24 cs) => h.below hwq h.lt)
            clear hWq hwq HX4 HA4 HK4 HR4 HZ4
            clear d0 d1 d2 d3 d4 d5 d6 d7 d8 d9 d10
            have d0 := HXq.out.cell 0
            have d1 := HXq.out.cell 1
            have d2 := HXq.out.cell 2
            have d3 := HXq.out.cell 3
            have d4 := HXq.out.cell 4
            have d5 := HXq.out.cell 5
            have d6 := HXq.out.cell 6
            have d7 := HXq.out.cell 7
            have d8 := HXq.out.cell 8
            have d9 := HXq.out.cell 9
            have d10 := HXq.out.cell 10
            simp only [List.getElem?_cons_succ, List.getElem?_cons_zero] at d0 d1 d2 d3 d4 d5 d6 d7 d8 d9 d10
            go_wp2_with fail
            go_roundw
            case rel => exact ⟨j + 1, by go_num, by omega, by rw [HPP.out]; exact AddRel.of HKW.out HKq.out HAq.out HER.out HGR.out⟩
            case measure => simp [intOf]; omega
        · rw [show beginsB 5 6 rk = true by rfl]
          have d0 := HX4.out.cell 0
          have d1 := HX4.out.cell 1
          have d2 := HX4.out.cell 2
          have d3 := HX4.out.cell 3
          have d4 := HX4.out.cell 4
          have d5 := HX4.out.cell 5
          have d6 := HX4.out.cell 6
          have d7 := HX4.out.cell 7
          have d8 := HX4.out.cell 8
          have d9 := HX4.out.cell 9
          have d10 := HX4.out.cell 10
          simp only [List.getElem?_cons_succ, List.getElem?_cons_zero] at d0 d1 d2 d3 d4 d5 d6 d7 d8 d9 d10
          have st := HA4.out.starts.2
          go_upto_region 5 with fail
          go_big_quiet (fail)
          generalize hWq : w4.drewN _ = wp
          have hwp : Below w4.heap.size w4 wp := hWq ▸ below_drewN (Below.refl _ _) _
          have HXp := Lib.hid (HX4.out.below hwp HX4.out.lt)
          have HAp := Lib.hid (HA4.out.below hwp)
          have HKp := Lib.hid (HK4.out.trans (KeepA.of_below hwp))
          have HRp := Lib.hid (HR4.out.keep (KeepA.of_below (B := B) hwp))
          have HZp : Hid (B ≤ wp.heap.size) := Lib.hid (by have := hwp.size; have := HZ4.out; omega)
          clear hWq hwp HX4 HA4 HK4 HR4 HZ4 st
          clear d0 d1 d2 d3 d4 d5 d6 d7 d8 d9 d10
          have d0 := HXp.out.cell 0
          have d1 := HXp.out.cell 1
          have d2 := HXp.out.cell 2
          have d3 := HXp.out.cell 3
          have d4 := HXp.out.cell 4
          have d5 := HXp.out.cell 5
          have d6 := HXp.out.cell 6
          have d7 := HXp.out.cell 7
          have d8 := HXp.out.cell 8
          have d9 := HXp.out.cell 9
          have d10 := HXp.out.cell 10
          simp only [List.getElem?_cons_succ, List.getElem?_cons_zero] at d0 d1 d2 d3 d4 d5 d6 d7 d8 d9 d10
          obtain ⟨-, -, -, -, e4, -⟩ := HAp.out.ecells (i := 1) (o := 8) (by decide) rfl
          go_upto_region 6 with fail
          go_big_quiet (fail)
          generalize hWq : wp.drewN _ = wt
          have hwp : Below wp.heap.size wp wt := hWq ▸ below_drewN (Below.refl _ _) _
          have HXt := Lib.hid (HXp.out.below hwp HXp.out.lt)
          have HAt := Lib.hid (HAp.out.below hwp)
          have HKt := Lib.hid (HKp.out.trans (KeepA.of_below hwp))
          have HRt := Lib.hid (HRp.out.keep (KeepA.of_below (B := B) hwp))
          have HZt : Hid (B ≤ wt.heap.size) := Lib.hid (by have := hwp.size; have := HZp.out; omega)
          clear hWq hwp HXp HAp HKp HRp HZp e4
          clear d0 d1 d2 d3 d4 d5 d6 d7 d8 d9 d10
          have d0 := HXt.out.cell 0
          simp only [List.getElem?_cons_succ, List.getElem?_cons_zero] at d0
          have hmm := @run_makeMap Tryd.prog
          have ef8 := HAt.out.efroz 8
          have ef9 := HAt.out.efroz 9
          have ef10 := HAt.out.efroz 10
          have ef11 := HAt.out.efroz 11
          have ef12 := HAt.out.efroz 12
          have ef13 := HAt.out.efroz 13
          obtain ⟨ek0, ek1, ek2, ek3, ek4, ek5⟩ := HAt.out.ecells (i := 1) (o := 8) (by decide) rfl
          have hltb := HAt.out.lt
          have hltx := HXt.out.lt
          have HFR : Hid (AudAt ((((((((wt.setCell ⟨b, 8, none⟩ (.bool true)).setCell ⟨b, 9, none⟩ (.int .u32 S.st1)).setCell ⟨b, 10, none⟩ (.int .u32 S.st1)).setCell ⟨b, 11, none⟩ (.int .u32 ((S.st1 + (S.e 1).credit) % 16777216))).setCell ⟨b, 12, none⟩ (.int .i64 (S.e 1).credit)).setCell ⟨b, 13, none⟩ (.map (some wt.heap.size))).alloc (.map #[] 0)).drew) B b (S.put 1 (freshE S.st1 (S.e 1).credit (some wt.heap.size))) lv ∧ KeepA B wt ((((((((wt.setCell ⟨b, 8, none⟩ (.bool true)).setCell ⟨b, 9, none⟩ (.int .u32 S.st1)).setCell ⟨b, 10, none⟩ (.int .u32 S.st1)).setCell ⟨b, 11, none⟩ (.int .u32 ((S.st1 + (S.e 1).credit) % 16777216))).setCell ⟨b, 12, none⟩ (.int .i64 (S.e 1).credit)).setCell ⟨b, 13, none⟩ (.map (some wt.heap.size))).alloc (.map #[] 0)).drew)) := Lib.hid (HAt.out.fresh2 (i := 1) (o := 8) (by decide) rfl HZt.out S.st1 (S.e 1).credit)
          have HC1 : Hid (((((((((wt.setCell ⟨b, 8, none⟩ (.bool true)).setCell ⟨b, 9, none⟩ (.int .u32 S.st1)).setCell ⟨b, 10, none⟩ (.int .u32 S.st1)).setCell ⟨b, 11, none⟩ (.int .u32 ((S.st1 + (S.e 1).credit) % 16777216))).setCell ⟨b, 12, none⟩ (.int .i64 (S.e 1).credit)).setCell ⟨b, 13, none⟩ (.map (some wt.heap.size))).alloc (.map #[] 0)).drew).cell? ⟨rb, 0, none⟩ = some (.int .i64 ((1 : Nat) : Int))) := Lib.hid ((HFR.out.2.box HXt.out (by decide) (by decide)).cell 0)
          have HC2 : Hid (wt.cell? ⟨rb, 0, none⟩ = some (.int .i64 ((1 : Nat) : Int))) := Lib.hid (HXt.out.cell 0)
          have HC3 : Hid (wt.drew.cell? ⟨rb, 0, none⟩ = some (.int .i64 ((1 : Nat) : Int))) := Lib.hid (HXt.out.cell 0)
          go_upto_region 7 with fail
          go_region_held3 (fun w' => w'.cell? ⟨rb, 0, none⟩ = some (.int .i64 ((1 : Nat) : Int))) (first | with_reducible exact HC1.out | with_reducible exact HC2.out | with_reducible exact HC3.out | go_keep) ((go_at_call 8; refine (add_num _ _ _).mono ?_; rintro e w' ⟨rfl, rfl⟩))
          all_goals
            have HFS : ∃ w5, w5 = ((((((((wt.setCell ⟨b, 8, none⟩ (.bool true)).setCell ⟨b, 9, none⟩ (.int .u32 S.st1)).setCell ⟨b, 10, none⟩ (.int .u32 S.st1)).setCell ⟨b, 11, none⟩ (.int .u32 ((S.st1 + (S.e 1).credit) % 16777216))).setCell ⟨b, 12, none⟩ (.int .i64 (S.e 1).credit)).setCell ⟨b, 13, none⟩ (.map (some wt.heap.size))).alloc (.map #[] 0)).drew) := ⟨_, rfl⟩
            obtain ⟨w5, hw5⟩ := HFS
            have hfr : AudAt w5 B b (S.put 1 (freshE S.st1 (S.e 1).credit (some wt.heap.size))) lv ∧ KeepA B wt w5 := by rw [hw5]; exact HFR.out
            rw [← hw5]
            have HER : Hid ((S.put 1 (freshE S.st1 (S.e 1).credit (some wt.heap.size))).er = S.er.put 1 (freshE (S.er.st 1) (S.er.e 1).credit none)) := Lib.hid (er_conf rfl rfl)
            have HGR : Hid ((S.put 1 (freshE S.st1 (S.e 1).credit (some wt.heap.size))).good) := Lib.hid (HG.out.put rfl)
            have HX4 := Lib.hid (hfr.2.box HXt.out (by decide) (by decide))
            have HA4 := Lib.hid hfr.1
            have HK4 := Lib.hid (HKt.out.trans hfr.2)
            have HR4 := Lib.hid (HRt.out.keep hfr.2)
            have HZ4 : Hid (B ≤ w5.heap.size) := Lib.hid (by have := hfr.2.size; have := HZt.out; omega)
            clear hw5 hfr HFR HC1 HC2 HC3 HAt HKt HRt HZt HXt ek0 ek1 ek2 ek3 ek4 ek5 d0 hltb hltx ef8 ef9 ef10 ef11 ef12 ef13
            have d0 := HX4.out.cell 0
            have d1 := HX4.out.cell 1
            have d2 := HX4.out.cell 2
            have d3 := HX4.out.cell 3
            have d4 := HX4.out.cell 4
            have d5 := HX4.out.cell 5
            have d6 := HX4.out.cell 6
            have d7 := HX4.out.cell 7
            have d8 := HX4.out.cell 8
            have d9 := HX4.out.cell 9
            have d10 := HX4.out.cell 10
            simp only [List.getElem?_cons_succ, List.getElem?_cons_zero] at d0 d1 d2 d3 d4 d5 d6 d7 d8 d9 d10
            go_upto_region 8 with fail
            go_big_quiet (fail)
            generalize hWq : w5.drewN _ = wq
            have hwq : Below w5.heap.size w5 wq := hWq ▸ below_drewN (Below.refl _ _) _
            have HXq := Lib.hid (HX4.out.below hwq HX4.out.lt)
            have HAq := Lib.hid (HA4.out.below hwq)
            have HKq := Lib.hid (HK4.out.trans (KeepA.of_below hwq))
            have HRq := Lib.hid (HR4.out.keep (KeepA.of_below (B := B) hwq))
            have HZq : Hid (B ≤ wq.heap.size) := Lib.hid (by have := hwq.size; have := HZ4.out; omega)
            have HSq := Lib.hid (fun g cs (h : BoxAt w5 g 24 cs) => h.below hwq h.lt)
            clear hWq hwq HX4 HA4 HK4 HR4 HZ4
            clear d0 d1 d2 d3 d4 d5 d6 d7 d8 d9 d10
            have d0 := HXq.out.cell 0
            have d1 := HXq.out.cell 1
            have d2 := HXq.out.cell 2
            have d3 := HXq.out.cell 3
            have d4 := HXq.out.cell 4
            have d5 := HXq.out.cell 5
            have d6 := HXq.out.cell 6
            have d7 := HXq.out.cell 7
            have d8 := HXq.out.cell 8
            have d9 := HXq.out.cell 9
            have d10 := HXq.out.cell 10
            simp only [List.getElem?_cons_succ, List.getElem?_cons_zero] at d0 d1 d2 d3 d4 d5 d6 d7 d8 d9 d10
            go_wp2_with fail
            go_roundw
            case rel => exact ⟨j + 1, by go_num, by omega, by rw [HPP.out]; exact AddRel.of HKW.out HKq.out HAq.out HER.out HGR.out⟩
            case measure => simp [intOf]; omega
      | ask k n mr sk sc rk rf hr =>
        rcases (show i = 0 ∨ i = 1 by omega) with rfl | rfl
        · rw [show beginsB 6 sk rk = true by unfold beginsB; rw [if_neg (by decide), if_pos rfl]; exact decide_eq_true hr]
          have d0 := HX4.out.cell 0
          have d1 := HX4.out.cell 1
          have d2 := HX4.out.cell 2
          have d3 := HX4.out.cell 3
          have d4 := HX4.out.cell 4
          have d5 := HX4.out.cell 5
          have d6 := HX4.out.cell 6
          have d7 := HX4.out.cell 7
          have d8 := HX4.out.cell 8
          have d9 := HX4.out.cell 9
          have d10 := HX4.out.cell 10
          simp only [List.getElem?_cons_succ, List.getElem?_cons_zero] at d0 d1 d2 d3 d4 d5 d6 d7 d8 d9 d10
          have st := HA4.out.starts.1
          go_upto_region 5 with fail
          go_big_quiet (fail)
          generalize hWq : w4.drewN _ = wp
          have hwp : Below w4.heap.size w4 wp := hWq ▸ below_drewN (Below.refl _ _) _
          have HXp := Lib.hid (HX4.out.below hwp HX4.out.lt)
          have HAp := Lib.hid (HA4.out.below hwp)
          have HKp := Lib.hid (HK4.out.trans (KeepA.of_below hwp))
          have HRp := Lib.hid (HR4.out.keep (KeepA.of_below (B := B) hwp))
          have HZp : Hid (B ≤ wp.heap.size) := Lib.hid (by have := hwp.size; have := HZ4.out; omega)
          clear hWq hwp HX4 HA4 HK4 HR4 HZ4 st
          clear d0 d1 d2 d3 d4 d5 d6 d7 d8 d9 d10
          have d0 := HXp.out.cell 0
          have d1 := HXp.out.cell 1
          have d2 := HXp.out.cell 2
          have d3 := HXp.out.cell 3
          have d4 := HXp.out.cell 4
          have d5 := HXp.out.cell 5
          have d6 := HXp.out.cell 6
          have d7 := HXp.out.cell 7
          have d8 := HXp.out.cell 8
          have d9 := HXp.out.cell 9
          have d10 := HXp.out.cell 10
          simp only [List.getElem?_cons_succ, List.getElem?_cons_zero] at d0 d1 d2 d3 d4 d5 d6 d7 d8 d9 d10
          obtain ⟨-, -, -, -, e4, -⟩ := HAp.out.ecells (i := 0) (o := 2) (by decide) rfl
          go_upto_region 6 with fail
          go_big_quiet (fail)
          generalize hWq : wp.drewN _ = wt
          have hwp : Below wp.heap.size wp wt := hWq ▸ below_drewN (Below.refl _ _) _
          have HXt := Lib.hid (HXp.out.below hwp HXp.out.lt)
          have HAt := Lib.hid (HAp.out.below hwp)
          have HKt := Lib.hid (HKp.out.trans (KeepA.of_below hwp))
          have HRt := Lib.hid (HRp.out.keep (KeepA.of_below (B := B) hwp))
          have HZt : Hid (B ≤ wt.heap.size) := Lib.hid (by have := hwp.size; have := HZp.out; omega)
          clear hWq hwp HXp HAp HKp HRp HZp e4
          clear d0 d1 d2 d3 d4 d5 d6 d7 d8 d9 d10
          have d0 := HXt.out.cell 0
          simp only [List.getElem?_cons_succ, List.getElem?_cons_zero] at d0
          have hmm := @run_makeMap Tryd.prog
          have ef2 := HAt.out.efroz 2
          have ef3 := HAt.out.efroz 3
          have ef4 := HAt.out.efroz 4
          have ef5 := HAt.out.efroz 5
          have ef6 := HAt.out.efroz 6
          have ef7 := HAt.out.efroz 7
          obtain ⟨ek0, ek1, ek2, ek3, ek4, ek5⟩ := HAt.out.ecells (i := 0) (o := 2) (by decide) rfl
          have hltb := HAt.out.lt
          have hltx := HXt.out.lt
          have HFR : Hid (AudAt ((((((((wt.setCell ⟨b, 2, none⟩ (.bool true)).setCell ⟨b, 3, none⟩ (.int .u32 S.st0)).setCell ⟨b, 4, none⟩ (.int .u32 S.st0)).setCell ⟨b, 5, none⟩ (.int .u32 ((S.st0 + (S.e 0).credit) % 16777216))).setCell ⟨b, 6, none⟩ (.int .i64 (S.e 0).credit)).setCell ⟨b, 7, none⟩ (.map (some wt.heap.size))).alloc (.map #[] 0)).drew) B b (S.put 0 (freshE S.st0 (S.e 0).credit (some wt.heap.size))) lv ∧ KeepA B wt ((((((((wt.setCell ⟨b, 2, none⟩ (.bool true)).setCell ⟨b, 3, none⟩ (.int .u32 S.st0)).setCell ⟨b, 4, none⟩ (.int .u32 S.st0)).setCell ⟨b, 5, none⟩ (.int .u32 ((S.st0 + (S.e 0).credit) % 16777216))).setCell ⟨b, 6, none⟩ (.int .i64 (S.e 0).credit)).setCell ⟨b, 7, none⟩ (.map (some wt.heap.size))).alloc (.map #[] 0)).drew)) := Lib.hid (HAt.out.fresh2 (i := 0) (o := 2) (by decide) rfl HZt.out S.st0 (S.e 0).credit)
          have HC1 : Hid (((((((((wt.setCell ⟨b, 2, none⟩ (.bool true)).setCell ⟨b, 3, none⟩ (.int .u32 S.st0)).setCell ⟨b, 4, none⟩ (.int .u32 S.st0)).setCell ⟨b, 5, none⟩ (.int .u32 ((S.st0 + (S.e 0).credit) % 16777216))).setCell ⟨b, 6, none⟩ (.int .i64 (S.e 0).credit)).setCell ⟨b, 7, none⟩ (.map (some wt.heap.size))).alloc (.map #[] 0)).drew).cell? ⟨rb, 0, none⟩ = some (.int .i64 ((0 : Nat) : Int))) := Lib.hid ((HFR.out.2.box HXt.out (by decide) (by decide)).cell 0)
          have HC2 : Hid (wt.cell? ⟨rb, 0, none⟩ = some (.int .i64 ((0 : Nat) : Int))) := Lib.hid (HXt.out.cell 0)
          have HC3 : Hid (wt.drew.cell? ⟨rb, 0, none⟩ = some (.int .i64 ((0 : Nat) : Int))) := Lib.hid (HXt.out.cell 0)
          go_upto_region 7 with fail
          go_region_held3 (fun w' => w'.cell? ⟨rb, 0, none⟩ = some (.int .i64 ((0 : Nat) : Int))) (first | with_reducible exact HC1.out | with_reducible exact HC2.out | with_reducible exact HC3.out | go_keep) ((go_at_call 8; refine (add_num _ _ _).mono ?_; rintro e w' ⟨rfl, rfl⟩))
          all_goals
            have HFS : ∃ w5, w5 = ((((((((wt.setCell ⟨b, 2, none⟩ (.bool true)).setCell ⟨b, 3, none⟩ (.int .u32 S.st0)).setCell ⟨b, 4, none⟩ (.int .u32 S.st0)).setCell ⟨b, 5, none⟩ (.int .u32 ((S.st0 + (S.e 0).credit) % 16777216))).setCell ⟨b, 6, none⟩ (.int .i64 (S.e 0).credit)).setCell ⟨b, 7, none⟩ (.map (some wt.heap.size))).alloc (.map #[] 0)).drew) := ⟨_, rfl⟩
            obtain ⟨w5, hw5⟩ := HFS
            have hfr : AudAt w5 B b (S.put 0 (freshE S.st0 (S.e 0).credit (some wt.heap.size))) lv ∧ KeepA B wt w5 := by rw [hw5]; exact HFR.out
            rw [← hw5]
            have HER : Hid ((S.put 0 (freshE S.st0 (S.e 0).credit (some wt.heap.size))).er = S.er.put 0 (freshE (S.er.st 0) (S.er.e 0).credit none)) := Lib.hid (er_conf rfl rfl)
            have HGR : Hid ((S.put 0 (freshE S.st0 (S.e 0).credit (some wt.heap.size))).good) := Lib.hid (HG.out.put rfl)
            have HX4 := Lib.hid (hfr.2.box HXt.out (by decide) (by decide))
            have HA4 := Lib.hid hfr.1
            have HK4 := Lib.hid (HKt.out.trans hfr.2)
            have HR4 := Lib.hid (HRt.out.keep hfr.2)
            have HZ4 : Hid (B ≤ w5.heap.size) := Lib.hid (by have := hfr.2.size; have := HZt.out; omega)
            clear hw5 hfr HFR HC1 HC2 HC3 HAt HKt HRt HZt HXt ek0 ek1 ek2 ek3 ek4 ek5 d0 hltb hltx ef2 ef3 ef4 ef5 ef6 ef7
            have d0 := HX4.out.cell 0
            have d1 := HX4.out.cell 1
            have d2 := HX4.out.cell 2
            have d3 := HX4.out.cell 3
            have d4 := HX4.out.cell 4
            have d5 := HX4.out.cell 5
            have d6 := HX4.out.cell 6
            have d7 := HX4.out.cell 7
            have d8 := HX4.out.cell 8
            have d9 := HX4.out.cell 9
            have d10 := HX4.out.cell 10
            simp only [List.getElem?_cons_succ, List.getElem?_cons_zero] at d0 d1 d2 d3 d4 d5 d6 d7 d8 d9 d10
            go_upto_region 8 with fail
            go_big_quiet (fail)
            generalize hWq : w5.drewN _ = wq
            have hwq : Below w5.heap.size w5 wq := hWq ▸ below_drewN (Below.refl _ _) _
            have HXq := Lib.hid (HX4.out.below hwq HX4.out.lt)
            have HAq := Lib.hid (HA4.out.below hwq)
            have HKq := Lib.hid (HK4.out.trans (KeepA.of_below hwq))
            have HRq := Lib.hid (HR4.out.keep (KeepA.of_below (B := B) hwq))
            have HZq : Hid (B ≤ wq.heap.size) := Lib.hid (by have := hwq.size; have := HZ4.out; omega)
            have HSq := Lib.hid (fun g cs (h : BoxAt w5 g 24 cs) => h.below hwq h.lt)
            clear hWq hwq HX4 HA4 HK4 HR4 HZ4
            clear d0 d1 d2 d3 d4 d5 d6 d7 d8 d9 d10
            have d0 := HXq.out.cell 0
            have d1 := HXq.out.cell 1
            have d2 := HXq.out.cell 2
            have d3 := HXq.out.cell 3
            have d4 := HXq.out.cell 4
            have d5 := HXq.out.cell 5
            have d6 := HXq.out.cell 6
            have d7 := HXq.out.cell 7
            have d8 := HXq.out.cell 8
            have d9 := HXq.out.cell 9
            have d10 := HXq.out.cell 10
            simp only [List.getElem?_cons_succ, List.getElem?_cons_zero] at d0 d1 d2 d3 d4 d5 d6 d7 d8 d9 d10
            go_wp2_with fail
            go_roundw
            case rel => exact ⟨j + 1, by go_num, by omega, by rw [HPP.out]; exact AddRel.of HKW.out HKq.out HAq.out HER.out HGR.out⟩
            case measure => simp [intOf]; omega
        · rw [show beginsB 6 sk rk = true by unfold beginsB; rw [if_neg (by decide), if_pos rfl]; exact decide_eq_true hr]
          have d0 := HX4.out.cell 0
          have d1 := HX4.out.cell 1
          have d2 := HX4.out.cell 2
          have d3 := HX4.out.cell 3
          have d4 := HX4.out.cell 4
          have d5 := HX4.out.cell 5
          have d6 := HX4.out.cell 6
          have d7 := HX4.out.cell 7
          have d8 := HX4.out.cell 8
          have d9 := HX4.out.cell 9
          have d10 := HX4.out.cell 10
          simp only [List.getElem?_cons_succ, List.getElem?_cons_zero] at d0 d1 d2 d3 d4 d5 d6 d7 d8 d9 d10
          have st := HA4.out.starts.2
          go_upto_region 5 with fail
          go_big_quiet (fail)
          generalize hWq : w4.drewN _ = wp
          have hwp : Below w4.heap.size w4 wp := hWq ▸ below_drewN (Below.refl _ _) _
          have HXp := Lib.hid (HX4.out.below hwp HX4.out.lt)
          have HAp := Lib.hid (HA4.out.below hwp)
          have HKp := Lib.hid (HK4.out.trans (KeepA.of_below hwp))
          have HRp := Lib.hid (HR4.out.keep (KeepA.of_below (B := B) hwp))
          have HZp : Hid (B ≤ wp.heap.size) := Lib.hid (by have := hwp.size; have := HZ4.out; omega)
          clear hWq hwp HX4 HA4 HK4 HR4 HZ4 st
          clear d0 d1 d2 d3 d4 d5 d6 d7 d8 d9 d10
          have d0 := HXp.out.cell 0
          have d1 := HXp.out.cell 1
          have d2 := HXp.out.cell 2
          have d3 := HXp.out.cell 3
          have d4 := HXp.out.cell 4
          have d5 := HXp.out.cell 5
          have d6 := HXp.out.cell 6
          have d7 := HXp.out.cell 7
          have d8 := HXp.out.cell 8
          have d9 := HXp.out.cell 9
          have d10 := HXp.out.cell 10
          simp only [List.getElem?_cons_succ, List.getElem?_cons_zero] at d0 d1 d2 d3 d4 d5 d6 d7 d8 d9 d10
          obtain ⟨-, -, -, -, e4, -⟩ := HAp.out.ecells (i := 1) (o := 8) (by decide) rfl
          go_upto_region 6 with fail
          go_big_quiet (fail)
          generalize hWq : wp.drewN _ = wt
          have hwp : Below wp.heap.size wp wt := hWq ▸ below_drewN (Below.refl _ _) _
          have HXt := Lib.hid (HXp.out.below hwp HXp.out.lt)
          have HAt := Lib.hid (HAp.out.below hwp)
          have HKt := Lib.hid (HKp.out.trans (KeepA.of_below hwp))
          have HRt := Lib.hid (HRp.out.keep (KeepA.of_below (B := B) hwp))
          have HZt : Hid (B ≤ wt.heap.size) := Lib.hid (by have := hwp.size; have := HZp.out; omega)
          clear hWq hwp HXp HAp HKp HRp HZp e4
          clear d0 d1 d2 d3 d4 d5 d6 d7 d8 d9 d10
          have d0 := HXt.out.cell 0
          simp only [List.getElem?_cons_succ, List.getElem?_cons_zero] at d0
          have hmm := @run_makeMap Tryd.prog
          have ef8 := HAt.out.efroz 8
          have ef9 := HAt.out.efroz 9
          have ef10 := HAt.out.efroz 10
          have ef11 := HAt.out.efroz 11
          have ef12 := HAt.out.efroz 12
          have ef13 := HAt.out.efroz 13
          obtain ⟨ek0, ek1, ek2, ek3, ek4, ek5⟩ := HAt.out.ecells (i := 1) (o := 8) (by decide) rfl
          have hltb := HAt.out.lt
          have hltx := HXt.out.lt
          have HFR : Hid (AudAt ((((((((wt.setCell ⟨b, 8, none⟩ (.bool true)).setCell ⟨b, 9, none⟩ (.int .u32 S.st1)).setCell ⟨b, 10, none⟩ (.int .u32 S.st1)).setCell ⟨b, 11, none⟩ (.int .u32 ((S.st1 + (S.e 1).credit) % 16777216))).setCell ⟨b, 12, none⟩ (.int .i64 (S.e 1).credit)).setCell ⟨b, 13, none⟩ (.map (some wt.heap.size))).alloc (.map #[] 0)).drew) B b (S.put 1 (freshE S.st1 (S.e 1).credit (some wt.heap.size))) lv ∧ KeepA B wt ((((((((wt.setCell ⟨b, 8, none⟩ (.bool true)).setCell ⟨b, 9, none⟩ (.int .u32 S.st1)).setCell ⟨b, 10, none⟩ (.int .u32 S.st1)).setCell ⟨b, 11, none⟩ (.int .u32 ((S.st1 + (S.e 1).credit) % 16777216))).setCell ⟨b, 12, none⟩ (.int .i64 (S.e 1).credit)).setCell ⟨b, 13, none⟩ (.map (some wt.heap.size))).alloc (.map #[] 0)).drew)) := Lib.hid (HAt.out.fresh2 (i := 1) (o := 8) (by decide) rfl HZt.out S.st1 (S.e 1).credit)
          have HC1 : Hid (((((((((wt.setCell ⟨b, 8, none⟩ (.bool true)).setCell ⟨b, 9, none⟩ (.int .u32 S.st1)).setCell ⟨b, 10, none⟩ (.int .u32 S.st1)).setCell ⟨b, 11, none⟩ (.int .u32 ((S.st1 + (S.e 1).credit) % 16777216))).setCell ⟨b, 12, none⟩ (.int .i64 (S.e 1).credit)).setCell ⟨b, 13, none⟩ (.map (some wt.heap.size))).alloc (.map #[] 0)).drew).cell? ⟨rb, 0, none⟩ = some (.int .i64 ((1 : Nat) : Int))) := Lib.hid ((HFR.out.2.box HXt.out (by decide) (by decide)).cell 0)
          have HC2 : Hid (wt.cell? ⟨rb, 0, none⟩ = some (.int .i64 ((1 : Nat) : Int))) := Lib.hid (HXt.out.cell 0)
          have HC3 : Hid (wt.drew.cell? ⟨rb, 0, none⟩ = some (.int .i64 ((1 : Nat) : Int))) := Lib.hid (HXt.out.cell 0)
          go_upto_region 7 with fail
          go_region_held3 (fun w' => w'.cell? ⟨rb, 0, none⟩ = some (.int .i64 ((1 : Nat) : Int))) (first | with_reducible exact HC1.out | with_reducible exact HC2.out | with_reducible exact HC3.out | go_keep) ((go_at_call 8; refine (add_num _ _ _).mono ?_; rintro e w' ⟨rfl, rfl⟩))
          all_goals
            have HFS : ∃ w5, w5 = ((((((((wt.setCell ⟨b, 8, none⟩ (.bool true)).setCell ⟨b, 9, none⟩ (.int .u32 S.st1)).setCell ⟨b, 10, none⟩ (.int .u32 S.st1)).setCell ⟨b, 11, none⟩ (.int .u32 ((S.st1 + (S.e 1).credit) % 16777216))).setCell ⟨b, 12, none⟩ (.int .i64 (S.e 1).credit)).setCell ⟨b, 13, none⟩ (.map (some wt.heap.size))).alloc (.map #[] 0)).drew) := ⟨_, rfl⟩
            obtain ⟨w5, hw5⟩ := HFS
            have hfr : AudAt w5 B b (S.put 1 (freshE S.st1 (S.e 1).credit (some wt.heap.size))) lv ∧ KeepA B wt w5 := by rw [hw5]; exact HFR.out
            rw [← hw5]
            have HER : Hid ((S.put 1 (freshE S.st1 (S.e 1).credit (some wt.heap.size))).er = S.er.put 1 (freshE (S.er.st 1) (S.er.e 1).credit none)) := Lib.hid (er_conf rfl rfl)
            have HGR : Hid ((S.put 1 (freshE S.st1 (S.e 1).credit (some wt.heap.size))).good) := Lib.hid (HG.out.put rfl)
            have HX4 := Lib.hid (hfr.2.box HXt.out (by decide) (by decide))
            have HA4 := Lib.hid hfr.1
            have HK4 := Lib.hid (HKt.out.trans hfr.2)
            have HR4 := Lib.hid (HRt.out.keep hfr.2)
            have HZ4 : Hid (B ≤ w5.heap.size) := Lib.hid (by have := hfr.2.size; have := HZt.out; omega)
            clear hw5 hfr HFR HC1 HC2 HC3 HAt HKt HRt HZt HXt ek0 ek1 ek2 ek3 ek4 ek5 d0 hltb hltx ef8 ef9 ef10 ef11 ef12 ef13
            have d0 := HX4.out.cell 0
            have d1 := HX4.out.cell 1
            have d2 := HX4.out.cell 2
            have d3 := HX4.out.cell 3
            have d4 := HX4.out.cell 4
            have d5 := HX4.out.cell 5
            have d6 := HX4.out.cell 6
            have d7 := HX4.out.cell 7
            have d8 := HX4.out.cell 8
            have d9 := HX4.out.cell 9
            have d10 := HX4.out.cell 10
            simp only [List.getElem?_cons_succ, List.getElem?_cons_zero] at d0 d1 d2 d3 d4 d5 d6 d7 d8 d9 d10
            go_upto_region 8 with fail
            go_big_quiet (fail)
            generalize hWq : w5.drewN _ = wq
            have hwq : Below w5.heap.size w5 wq := hWq ▸ below_drewN (Below.refl _ _) _
            have HXq := Lib.hid (HX4.out.below hwq HX4.out.lt)
            have HAq := Lib.hid (HA4.out.below hwq)
            have HKq := Lib.hid (HK4.out.trans (KeepA.of_below hwq))
            have HRq := Lib.hid (HR4.out.keep (KeepA.of_below (B := B) hwq))
            have HZq : Hid (B ≤ wq.heap.size) := Lib.hid (by have := hwq.size; have := HZ4.out; omega)
            have HSq := Lib.hid (fun g cs (h : BoxAt w5 g 24 cs) => h.below hwq h.lt)
            clear hWq hwq HX4 HA4 HK4 HR4 HZ4
            clear d0 d1 d2 d3 d4 d5 d6 d7 d8 d9 d10
            have d0 := HXq.out.cell 0
            have d1 := HXq.out.cell 1
            have d2 := HXq.out.cell 2
            have d3 := HXq.out.cell 3
            have d4 := HXq.out.cell 4
            have d5 := HXq.out.cell 5
            have d6 := HXq.out.cell 6
            have d7 := HXq.out.cell 7
            have d8 := HXq.out.cell 8
            have d9 := HXq.out.cell 9
            have d10 := HXq.out.cell 10
            simp only [List.getElem?_cons_succ, List.getElem?_cons_zero] at d0 d1 d2 d3 d4 d5 d6 d7 d8 d9 d10
            go_wp2_with fail
            go_roundw
            case rel => exact ⟨j + 1, by go_num, by omega, by rw [HPP.out]; exact AddRel.of HKW.out HKq.out HAq.out HER.out HGR.out⟩
            case measure => simp [intOf]; omega
      | grant k n mr sk sc rk rf hk =>
        as_aux_lemma =>
        rcases (show i = 0 ∨ i = 1 by omega) with rfl | rfl
        · rcases hk with rfl | rfl
          · rw [show beginsB 2 sk rk = false by simp [beginsB]]
            have d0 := HX4.out.cell 0
            have d1 := HX4.out.cell 1
            have d2 := HX4.out.cell 2
            have d3 := HX4.out.cell 3
            have d4 := HX4.out.cell 4
            have d5 := HX4.out.cell 5
            have d6 := HX4.out.cell 6
            have d7 := HX4.out.cell 7
            have d8 := HX4.out.cell 8
            have d9 := HX4.out.cell 9
            have d10 := HX4.out.cell 10
            simp only [List.getElem?_cons_succ, List.getElem?_cons_zero] at d0 d1 d2 d3 d4 d5 d6 d7 d8 d9 d10
            go_upto_region 8 with fail
            go_big_quiet (fail)
            generalize hWq : w4.drewN _ = wq
            have hwq : Below w4.heap.size w4 wq := hWq ▸ below_drewN (Below.refl _ _) _
            have HXq := Lib.hid (HX4.out.below hwq HX4.out.lt)
            have HAq := Lib.hid (HA4.out.below hwq)
            have HKq := Lib.hid (HK4.out.trans (KeepA.of_below hwq))
            have HRq := Lib.hid (HR4.out.keep (KeepA.of_below (B := B) hwq))
            have HZq : Hid (B ≤ wq.heap.size) := Lib.hid (by have := hwq.size; have := HZ4.out; omega)
            have HSq := Lib.hid (fun g cs (h : BoxAt w4 g 24 cs) => h.below hwq h.lt)
            clear hWq hwq HX4 HA4 HK4 HR4 HZ4
            clear d0 d1 d2 d3 d4 d5 d6 d7 d8 d9 d10
            have d0 := HXq.out.cell 0
            have d1 := HXq.out.cell 1
            have d2 := HXq.out.cell 2
            have d3 := HXq.out.cell 3
            have d4 := HXq.out.cell 4
            have d5 := HXq.out.cell 5
            have d6 := HXq.out.cell 6
            have d7 := HXq.out.cell 7
            have d8 := HXq.out.cell 8
            have d9 := HXq.out.cell 9
            have d10 := HXq.out.cell 10
            simp only [List.getElem?_cons_succ, List.getElem?_cons_zero] at d0 d1 d2 d3 d4 d5 d6 d7 d8 d9 d10
            go_upto_region 14 with (first | (go_at_call 19; refine (grants_any 1 _).mono ?_; rintro e w' ⟨rfl, rfl⟩; (try rw [show grantsB 1 = true by rfl])) | fail)
            have st := HAq.out.starts.1
            go_big_quiet ((go_at_call 20; exact Calls.quiet_of_same ((to_num _ _ _).mono fun _ _ ⟨h1, h2⟩ => ⟨h1, h2.symm⟩)))
            generalize hWq : wq.drewN _ = wp
            have hwp : Below wq.heap.size wq wp := hWq ▸ below_drewN (Below.refl _ _) _
            have HAp := Lib.hid (HAq.out.below hwp)
            have HKp := Lib.hid (HKq.out.trans (KeepA.of_below hwp))
            clear hWq hwp st
            clear d0 d1 d2 d3 d4 d5 d6 d7 d8 d9 d10
            have HGE : Hid ((S.put 0 (grantE (S.e 0) ((n - S.st 0) % 16777216))).er = S.er.put 0 (grantE (S.er.e 0) ((n - S.er.st 0) % 16777216))) := Lib.hid (er_grant _ _ _)
            have HGG : Hid ((S.put 0 (grantE (S.e 0) ((n - S.st 0) % 16777216))).good) := Lib.hid (HG.out.put (by unfold grantE; split <;> exact HG.out.e _))
            obtain ⟨-, -, -, -, e4, -⟩ := HAp.out.ecells (i := 0) (o := 2) (by decide) rfl
            have ef := HAp.out.efroz 6
            have HSC := Lib.hid (fun x => HAp.out.set_credit (i := 0) (o := 2) (by decide) rfl x)
            have HKC := Lib.hid (fun v => HAp.out.keep_set (i := 6) (v := v))
            have HST0 : Hid (S.st 0 = S.st0) := Lib.hid rfl
            rw [HST0.out] at HGE HGG
            generalize (n - S.st0) % 16777216 = d at *
            by_cases hd : d ≤ 8388608
            · have HGD : Hid (grantE (S.e 0) d = { S.e 0 with credit := max (S.e 0).credit d }) := Lib.hid (by unfold grantE; rw [if_pos hd])
              rw [HGD.out] at HGE HGG
              go_wp2_with fail
              go_roundw
              case rel => exact ⟨j + 1, by go_num, by omega, by rw [HPP.out]; exact AddRel.of HKW.out (HKp.out.trans (HKC.out _)) (HSC.out _) HGE.out HGG.out⟩
              case measure => simp [intOf]; omega
            · have HGD : Hid (grantE (S.e 0) d = S.e 0) := Lib.hid (by unfold grantE; rw [if_neg hd])
              rw [HGD.out] at HGE HGG
              go_wp2_with fail
              go_roundw
              case rel => exact ⟨j + 1, by go_num, by omega, by rw [HPP.out]; exact AddRel.of HKW.out HKp.out (by rw [AudS.put_self]; exact HAp.out) HGE.out HGG.out⟩
              case measure => simp [intOf]; omega
          · rw [show beginsB 2 sk rk = false by simp [beginsB]]
            have d0 := HX4.out.cell 0
            have d1 := HX4.out.cell 1
            have d2 := HX4.out.cell 2
            have d3 := HX4.out.cell 3
            have d4 := HX4.out.cell 4
            have d5 := HX4.out.cell 5
            have d6 := HX4.out.cell 6
            have d7 := HX4.out.cell 7
            have d8 := HX4.out.cell 8
            have d9 := HX4.out.cell 9
            have d10 := HX4.out.cell 10
            simp only [List.getElem?_cons_succ, List.getElem?_cons_zero] at d0 d1 d2 d3 d4 d5 d6 d7 d8 d9 d10
            go_upto_region 8 with fail
            go_big_quiet (fail)
            generalize hWq : w4.drewN _ = wq
            have hwq : Below w4.heap.size w4 wq := hWq ▸ below_drewN (Below.refl _ _) _
            have HXq := Lib.hid (HX4.out.below hwq HX4.out.lt)
            have HAq := Lib.hid (HA4.out.below hwq)
            have HKq := Lib.hid (HK4.out.trans (KeepA.of_below hwq))
            have HRq := Lib.hid (HR4.out.keep (KeepA.of_below (B := B) hwq))
            have HZq : Hid (B ≤ wq.heap.size) := Lib.hid (by have := hwq.size; have := HZ4.out; omega)
            have HSq := Lib.hid (fun g cs (h : BoxAt w4 g 24 cs) => h.below hwq h.lt)
            clear hWq hwq HX4 HA4 HK4 HR4 HZ4
            clear d0 d1 d2 d3 d4 d5 d6 d7 d8 d9 d10
            have d0 := HXq.out.cell 0
            have d1 := HXq.out.cell 1
            have d2 := HXq.out.cell 2
            have d3 := HXq.out.cell 3
            have d4 := HXq.out.cell 4
            have d5 := HXq.out.cell 5
            have d6 := HXq.out.cell 6
            have d7 := HXq.out.cell 7
            have d8 := HXq.out.cell 8
            have d9 := HXq.out.cell 9
            have d10 := HXq.out.cell 10
            simp only [List.getElem?_cons_succ, List.getElem?_cons_zero] at d0 d1 d2 d3 d4 d5 d6 d7 d8 d9 d10
            go_upto_region 14 with (first | (go_at_call 19; refine (grants_any 6 _).mono ?_; rintro e w' ⟨rfl, rfl⟩; (try rw [show grantsB 6 = true by rfl])) | fail)
            have st := HAq.out.starts.1
            go_big_quiet ((go_at_call 20; exact Calls.quiet_of_same ((to_num _ _ _).mono fun _ _ ⟨h1, h2⟩ => ⟨h1, h2.symm⟩)))
            generalize hWq : wq.drewN _ = wp
            have hwp : Below wq.heap.size wq wp := hWq ▸ below_drewN (Below.refl _ _) _
            have HAp := Lib.hid (HAq.out.below hwp)
            have HKp := Lib.hid (HKq.out.trans (KeepA.of_below hwp))
            clear hWq hwp st
            clear d0 d1 d2 d3 d4 d5 d6 d7 d8 d9 d10
            have HGE : Hid ((S.put 0 (grantE (S.e 0) ((n - S.st 0) % 16777216))).er = S.er.put 0 (grantE (S.er.e 0) ((n - S.er.st 0) % 16777216))) := Lib.hid (er_grant _ _ _)
            have HGG : Hid ((S.put 0 (grantE (S.e 0) ((n - S.st 0) % 16777216))).good) := Lib.hid (HG.out.put (by unfold grantE; split <;> exact HG.out.e _))
            obtain ⟨-, -, -, -, e4, -⟩ := HAp.out.ecells (i := 0) (o := 2) (by decide) rfl
            have ef := HAp.out.efroz 6
            have HSC := Lib.hid (fun x => HAp.out.set_credit (i := 0) (o := 2) (by decide) rfl x)
            have HKC := Lib.hid (fun v => HAp.out.keep_set (i := 6) (v := v))
            have HST0 : Hid (S.st 0 = S.st0) := Lib.hid rfl
            rw [HST0.out] at HGE HGG
            generalize (n - S.st0) % 16777216 = d at *
            by_cases hd : d ≤ 8388608
            · have HGD : Hid (grantE (S.e 0) d = { S.e 0 with credit := max (S.e 0).credit d }) := Lib.hid (by unfold grantE; rw [if_pos hd])
              rw [HGD.out] at HGE HGG
              go_wp2_with fail
              go_roundw
              case rel => exact ⟨j + 1, by go_num, by omega, by rw [HPP.out]; exact AddRel.of HKW.out (HKp.out.trans (HKC.out _)) (HSC.out _) HGE.out HGG.out⟩
              case measure => simp [intOf]; omega
            · have HGD : Hid (grantE (S.e 0) d = S.e 0) := Lib.hid (by unfold grantE; rw [if_neg hd])
              rw [HGD.out] at HGE HGG
              go_wp2_with fail
              go_roundw
              case rel => exact ⟨j + 1, by go_num, by omega, by rw [HPP.out]; exact AddRel.of HKW.out HKp.out (by rw [AudS.put_self]; exact HAp.out) HGE.out HGG.out⟩
              case measure => simp [intOf]; omega
        · rcases hk with rfl | rfl
          · rw [show beginsB 2 sk rk = false by simp [beginsB]]
            have d0 := HX4.out.cell 0
            have d1 := HX4.out.cell 1
            have d2 := HX4.out.cell 2
            have d3 := HX4.out.cell 3
            have d4 := HX4.out.cell 4
            have d5 := HX4.out.cell 5
            have d6 := HX4.out.cell 6
            have d7 := HX4.out.cell 7
            have d8 := HX4.out.cell 8
            have d9 := HX4.out.cell 9
            have d10 := HX4.out.cell 10
            simp only [List.getElem?_cons_succ, List.getElem?_cons_zero] at d0 d1 d2 d3 d4 d5 d6 d7 d8 d9 d10
            go_upto_region 8 with fail
            go_big_quiet (fail)
            generalize hWq : w4.drewN _ = wq
            have hwq : Below w4.heap.size w4 wq := hWq ▸ below_drewN (Below.refl _ _) _
            have HXq := Lib.hid (HX4.out.below hwq HX4.out.lt)
            have HAq := Lib.hid (HA4.out.below hwq)
            have HKq := Lib.hid (HK4.out.trans (KeepA.of_below hwq))
            have HRq := Lib.hid (HR4.out.keep (KeepA.of_below (B := B) hwq))
            have HZq : Hid (B ≤ wq.heap.size) := Lib.hid (by have := hwq.size; have := HZ4.out; omega)
            have HSq := Lib.hid (fun g cs (h : BoxAt w4 g 24 cs) => h.below hwq h.lt)
            clear hWq hwq HX4 HA4 HK4 HR4 HZ4
            clear d0 d1 d2 d3 d4 d5 d6 d7 d8 d9 d10
            have d0 := HXq.out.cell 0
            have d1 := HXq.out.cell 1
            have d2 := HXq.out.cell 2
            have d3 := HXq.out.cell 3
            have d4 := HXq.out.cell 4
            have d5 := HXq.out.cell 5
            have d6 := HXq.out.cell 6
            have d7 := HXq.out.cell 7
            have d8 := HXq.out.cell 8
            have d9 := HXq.out.cell 9
            have d10 := HXq.out.cell 10
            simp only [List.getElem?_cons_succ, List.getElem?_cons_zero] at d0 d1 d2 d3 d4 d5 d6 d7 d8 d9 d10
            go_upto_region 14 with (first | (go_at_call 19; refine (grants_any 1 _).mono ?_; rintro e w' ⟨rfl, rfl⟩; (try rw [show grantsB 1 = true by rfl])) | fail)
            have st := HAq.out.starts.2
            go_big_quiet ((go_at_call 20; exact Calls.quiet_of_same ((to_num _ _ _).mono fun _ _ ⟨h1, h2⟩ => ⟨h1, h2.symm⟩)))
            generalize hWq : wq.drewN _ = wp
            have hwp : Below wq.heap.size wq wp := hWq ▸ below_drewN (Below.refl _ _) _
            have HAp := Lib.hid (HAq.out.below hwp)
            have HKp := Lib.hid (HKq.out.trans (KeepA.of_below hwp))
            clear hWq hwp st
            clear d0 d1 d2 d3 d4 d5 d6 d7 d8 d9 d10
            have HGE : Hid ((S.put 1 (grantE (S.e 1) ((n - S.st 1) % 16777216))).er = S.er.put 1 (grantE (S.er.e 1) ((n - S.er.st 1) % 16777216))) := Lib.hid (er_grant _ _ _)
            have HGG : Hid ((S.put 1 (grantE (S.e 1) ((n - S.st 1) % 16777216))).good) := Lib.hid (HG.out.put (by unfold grantE; split <;> exact HG.out.e _))
            obtain ⟨-, -, -, -, e4, -⟩ := HAp.out.ecells (i := 1) (o := 8) (by decide) rfl
            have ef := HAp.out.efroz 12
            have HSC := Lib.hid (fun x => HAp.out.set_credit (i := 1) (o := 8) (by decide) rfl x)
            have HKC := Lib.hid (fun v => HAp.out.keep_set (i := 12) (v := v))
            have HST0 : Hid (S.st 1 = S.st1) := Lib.hid rfl
            rw [HST0.out] at HGE HGG
            generalize (n - S.st1) % 16777216 = d at *
            by_cases hd : d ≤ 8388608
            · have HGD : Hid (grantE (S.e 1) d = { S.e 1 with credit := max (S.e 1).credit d }) := Lib.hid (by unfold grantE; rw [if_pos hd])
              rw [HGD.out] at HGE HGG
              go_wp2_with fail
              go_roundw
              case rel => exact ⟨j + 1, by go_num, by omega, by rw [HPP.out]; exact AddRel.of HKW.out (HKp.out.trans (HKC.out _)) (HSC.out _) HGE.out HGG.out⟩
              case measure => simp [intOf]; omega
            · have HGD : Hid (grantE (S.e 1) d = S.e 1) := Lib.hid (by unfold grantE; rw [if_neg hd])
              rw [HGD.out] at HGE HGG
              go_wp2_with fail
              go_roundw
              case rel => exact ⟨j + 1, by go_num, by omega, by rw [HPP.out]; exact AddRel.of HKW.out HKp.out (by rw [AudS.put_self]; exact HAp.out) HGE.out HGG.out⟩
              case measure => simp [intOf]; omega
          · rw [show beginsB 2 sk rk = false by simp [beginsB]]
            have d0 := HX4.out.cell 0
            have d1 := HX4.out.cell 1
            have d2 := HX4.out.cell 2
            have d3 := HX4.out.cell 3
            have d4 := HX4.out.cell 4
            have d5 := HX4.out.cell 5
            have d6 := HX4.out.cell 6
            have d7 := HX4.out.cell 7
            have d8 := HX4.out.cell 8
            have d9 := HX4.out.cell 9
            have d10 := HX4.out.cell 10
            simp only [List.getElem?_cons_succ, List.getElem?_cons_zero] at d0 d1 d2 d3 d4 d5 d6 d7 d8 d9 d10
            go_upto_region 8 with fail
            go_big_quiet (fail)
            generalize hWq : w4.drewN _ = wq
            have hwq : Below w4.heap.size w4 wq := hWq ▸ below_drewN (Below.refl _ _) _
            have HXq := Lib.hid (HX4.out.below hwq HX4.out.lt)
            have HAq := Lib.hid (HA4.out.below hwq)
            have HKq := Lib.hid (HK4.out.trans (KeepA.of_below hwq))
            have HRq := Lib.hid (HR4.out.keep (KeepA.of_below (B := B) hwq))
            have HZq : Hid (B ≤ wq.heap.size) := Lib.hid (by have := hwq.size; have := HZ4.out; omega)
            have HSq := Lib.hid (fun g cs (h : BoxAt w4 g 24 cs) => h.below hwq h.lt)
            clear hWq hwq HX4 HA4 HK4 HR4 HZ4
            clear d0 d1 d2 d3 d4 d5 d6 d7 d8 d9 d10
            have d0 := HXq.out.cell 0
            have d1 := HXq.out.cell 1
            have d2 := HXq.out.cell 2
            have d3 := HXq.out.cell 3
            have d4 := HXq.out.cell 4
            have d5 := HXq.out.cell 5
            have d6 := HXq.out.cell 6
            have d7 := HXq.out.cell 7
            have d8 := HXq.out.cell 8
            have d9 := HXq.out.cell 9
            have d10 := HXq.out.cell 10
            simp only [List.getElem?_cons_succ, List.getElem?_cons_zero] at d0 d1 d2 d3 d4 d5 d6 d7 d8 d9 d10
            go_upto_region 14 with (first | (go_at_call 19; refine (grants_any 6 _).mono ?_; rintro e w' ⟨rfl, rfl⟩; (try rw [show grantsB 6 = true by rfl])) | fail)
            have st := HAq.out.starts.2
            go_big_quiet ((go_at_call 20; exact Calls.quiet_of_same ((to_num _ _ _).mono fun _ _ ⟨h1, h2⟩ => ⟨h1, h2.symm⟩)))
            generalize hWq : wq.drewN _ = wp
            have hwp : Below wq.heap.size wq wp := hWq ▸ below_drewN (Below.refl _ _) _
            have HAp := Lib.hid (HAq.out.below hwp)
            have HKp := Lib.hid (HKq.out.trans (KeepA.of_below hwp))
            clear hWq hwp st
            clear d0 d1 d2 d3 d4 d5 d6 d7 d8 d9 d10
            have HGE : Hid ((S.put 1 (grantE (S.e 1) ((n - S.st 1) % 16777216))).er = S.er.put 1 (grantE (S.er.e 1) ((n - S.er.st 1) % 16777216))) := Lib.hid (er_grant _ _ _)
            have HGG : Hid ((S.put 1 (grantE (S.e 1) ((n - S.st 1) % 16777216))).good) := Lib.hid (HG.out.put (by unfold grantE; split <;> exact HG.out.e _))
            obtain ⟨-, -, -, -, e4, -⟩ := HAp.out.ecells (i := 1) (o := 8) (by decide) rfl
            have ef := HAp.out.efroz 12
            have HSC := Lib.hid (fun x => HAp.out.set_credit (i := 1) (o := 8) (by decide) rfl x)
            have HKC := Lib.hid (fun v => HAp.out.keep_set (i := 12) (v := v))
            have HST0 : Hid (S.st 1 = S.st1) := Lib.hid rfl
            rw [HST0.out] at HGE HGG
            generalize (n - S.st1) % 16777216 = d at *
            by_cases hd : d ≤ 8388608
            · have HGD : Hid (grantE (S.e 1) d = { S.e 1 with credit := max (S.e 1).credit d }) := Lib.hid (by unfold grantE; rw [if_pos hd])
              rw [HGD.out] at HGE HGG
              go_wp2_with fail
              go_roundw
              case rel => exact ⟨j + 1, by go_num, by omega, by rw [HPP.out]; exact AddRel.of HKW.out (HKp.out.trans (HKC.out _)) (HSC.out _) HGE.out HGG.out⟩
              case measure => simp [intOf]; omega
            · have HGD : Hid (grantE (S.e 1) d = S.e 1) := Lib.hid (by unfold grantE; rw [if_neg hd])
              rw [HGD.out] at HGE HGG
              go_wp2_with fail
              go_roundw
              case rel => exact ⟨j + 1, by go_num, by omega, by rw [HPP.out]; exact AddRel.of HKW.out HKp.out (by rw [AudS.put_self]; exact HAp.out) HGE.out HGG.out⟩
              case measure => simp [intOf]; omega
      | told k n mr sc rk rf =>
        as_aux_lemma =>
        rcases (show i = 0 ∨ i = 1 by omega) with rfl | rfl
        · rw [show beginsB 5 12 rk = false by simp [beginsB]]
          have d0 := HX4.out.cell 0
          have d1 := HX4.out.cell 1
          have d2 := HX4.out.cell 2
          have d3 := HX4.out.cell 3
          have d4 := HX4.out.cell 4
          have d5 := HX4.out.cell 5
          have d6 := HX4.out.cell 6
          have d7 := HX4.out.cell 7
          have d8 := HX4.out.cell 8
          have d9 := HX4.out.cell 9
          have d10 := HX4.out.cell 10
          simp only [List.getElem?_cons_succ, List.getElem?_cons_zero] at d0 d1 d2 d3 d4 d5 d6 d7 d8 d9 d10
          go_upto_region 8 with fail
          go_big_quiet (fail)
          generalize hWq : w4.drewN _ = wq
          have hwq : Below w4.heap.size w4 wq := hWq ▸ below_drewN (Below.refl _ _) _
          have HXq := Lib.hid (HX4.out.below hwq HX4.out.lt)
          have HAq := Lib.hid (HA4.out.below hwq)
          have HKq := Lib.hid (HK4.out.trans (KeepA.of_below hwq))
          have HRq := Lib.hid (HR4.out.keep (KeepA.of_below (B := B) hwq))
          have HZq : Hid (B ≤ wq.heap.size) := Lib.hid (by have := hwq.size; have := HZ4.out; omega)
          have HSq := Lib.hid (fun g cs (h : BoxAt w4 g 24 cs) => h.below hwq h.lt)
          clear hWq hwq HX4 HA4 HK4 HR4 HZ4
          clear d0 d1 d2 d3 d4 d5 d6 d7 d8 d9 d10
          have d0 := HXq.out.cell 0
          have d1 := HXq.out.cell 1
          have d2 := HXq.out.cell 2
          have d3 := HXq.out.cell 3
          have d4 := HXq.out.cell 4
          have d5 := HXq.out.cell 5
          have d6 := HXq.out.cell 6
          have d7 := HXq.out.cell 7
          have d8 := HXq.out.cell 8
          have d9 := HXq.out.cell 9
          have d10 := HXq.out.cell 10
          simp only [List.getElem?_cons_succ, List.getElem?_cons_zero] at d0 d1 d2 d3 d4 d5 d6 d7 d8 d9 d10
          go_wp2_with fail
          go_roundw
          case rel => exact ⟨j + 1, by go_num, by omega, by rw [HPP.out]; exact AddRel.of HKW.out HKq.out HAq.out rfl HG.out⟩
          case measure => simp [intOf]; omega
        · rw [show beginsB 5 12 rk = false by simp [beginsB]]
          have d0 := HX4.out.cell 0
          have d1 := HX4.out.cell 1
          have d2 := HX4.out.cell 2
          have d3 := HX4.out.cell 3
          have d4 := HX4.out.cell 4
          have d5 := HX4.out.cell 5
          have d6 := HX4.out.cell 6
          have d7 := HX4.out.cell 7
          have d8 := HX4.out.cell 8
          have d9 := HX4.out.cell 9
          have d10 := HX4.out.cell 10
          simp only [List.getElem?_cons_succ, List.getElem?_cons_zero] at d0 d1 d2 d3 d4 d5 d6 d7 d8 d9 d10
          go_upto_region 8 with fail
          go_big_quiet (fail)
          generalize hWq : w4.drewN _ = wq
          have hwq : Below w4.heap.size w4 wq := hWq ▸ below_drewN (Below.refl _ _) _
          have HXq := Lib.hid (HX4.out.below hwq HX4.out.lt)
          have HAq := Lib.hid (HA4.out.below hwq)
          have HKq := Lib.hid (HK4.out.trans (KeepA.of_below hwq))
          have HRq := Lib.hid (HR4.out.keep (KeepA.of_below (B := B) hwq))
          have HZq : Hid (B ≤ wq.heap.size) := Lib.hid (by have := hwq.size; have := HZ4.out; omega)
          have HSq := Lib.hid (fun g cs (h : BoxAt w4 g 24 cs) => h.below hwq h.lt)
          clear hWq hwq HX4 HA4 HK4 HR4 HZ4
          clear d0 d1 d2 d3 d4 d5 d6 d7 d8 d9 d10
          have d0 := HXq.out.cell 0
          have d1 := HXq.out.cell 1
          have d2 := HXq.out.cell 2
          have d3 := HXq.out.cell 3
          have d4 := HXq.out.cell 4
          have d5 := HXq.out.cell 5
          have d6 := HXq.out.cell 6
          have d7 := HXq.out.cell 7
          have d8 := HXq.out.cell 8
          have d9 := HXq.out.cell 9
          have d10 := HXq.out.cell 10
          simp only [List.getElem?_cons_succ, List.getElem?_cons_zero] at d0 d1 d2 d3 d4 d5 d6 d7 d8 d9 d10
          go_wp2_with fail
          go_roundw
          case rel => exact ⟨j + 1, by go_num, by omega, by rw [HPP.out]; exact AddRel.of HKW.out HKq.out HAq.out rfl HG.out⟩
          case measure => simp [intOf]; omega
      | sd n sk sc rk rf hb hn0 hn1 =>
        as_aux_lemma =>
        rcases (show i = 0 ∨ i = 1 by omega) with rfl | rfl
        · have hbg : (S.e 0).begun = true := by rw [AudS.er_e] at hb; exact hb
          have HBG := Lib.hid hbg
          obtain ⟨mb, hmb⟩ := HG.out.has hbg
          have HM := Lib.hid hmb
          clear hbg hmb hb
          rw [show beginsB 1 sk rk = false by simp [beginsB]]
          have d0 := HX4.out.cell 0
          have d1 := HX4.out.cell 1
          have d2 := HX4.out.cell 2
          have d3 := HX4.out.cell 3
          have d4 := HX4.out.cell 4
          have d5 := HX4.out.cell 5
          have d6 := HX4.out.cell 6
          have d7 := HX4.out.cell 7
          have d8 := HX4.out.cell 8
          have d9 := HX4.out.cell 9
          have d10 := HX4.out.cell 10
          simp only [List.getElem?_cons_succ, List.getElem?_cons_zero] at d0 d1 d2 d3 d4 d5 d6 d7 d8 d9 d10
          go_upto_region 8 with fail
          go_big_quiet (fail)
          generalize hWq : w4.drewN _ = wq
          have hwq : Below w4.heap.size w4 wq := hWq ▸ below_drewN (Below.refl _ _) _
          have HXq := Lib.hid (HX4.out.below hwq HX4.out.lt)
          have HAq := Lib.hid (HA4.out.below hwq)
          have HKq := Lib.hid (HK4.out.trans (KeepA.of_below hwq))
          have HRq := Lib.hid (HR4.out.keep (KeepA.of_below (B := B) hwq))
          have HZq : Hid (B ≤ wq.heap.size) := Lib.hid (by have := hwq.size; have := HZ4.out; omega)
          have HSq := Lib.hid (fun g cs (h : BoxAt w4 g 24 cs) => h.below hwq h.lt)
          clear hWq hwq HX4 HA4 HK4 HR4 HZ4
          clear d0 d1 d2 d3 d4 d5 d6 d7 d8 d9 d10
          have d0 := HXq.out.cell 0
          have d1 := HXq.out.cell 1
          have d2 := HXq.out.cell 2
          have d3 := HXq.out.cell 3
          have d4 := HXq.out.cell 4
          have d5 := HXq.out.cell 5
          have d6 := HXq.out.cell 6
          have d7 := HXq.out.cell 7
          have d8 := HXq.out.cell 8
          have d9 := HXq.out.cell 9
          have d10 := HXq.out.cell 10
          simp only [List.getElem?_cons_succ, List.getElem?_cons_zero] at d0 d1 d2 d3 d4 d5 d6 d7 d8 d9 d10
          have HXR := Lib.hid HXq.out.range
          go_wp2_with (first | (refine wpList_load_mid rfl 36 (.tmp 5) rfl rb 0 (by rfl) [.int .i64 ((0 : Nat) : Int), .int .i64 1, .int .i64 8, .int .i64 0, .int .u32 n, .int .u32 0, .int .u32 0, .slice none 0 0, .bool false, .string ⟨#[]⟩, .int .i64 sk, .string ⟨#[]⟩, .bool false, .int .u8 sc, .int .i64 0, .int .i64 rk, .string ⟨#[]⟩, .int .i64 0] _ HXR.out Tryd.underlying36 rfl rec_info ?_) | fail)
          refine (sent_sd B b 0 mb S lv n sk sc rk wq HAq.out (by decide) HM.out HBG.out hn0 hn1 HL1.out (by have := HC1.out; omega) HZq.out).mono ?_
          rintro e w9 ⟨rfl, lv9, ha9, hk9⟩
          have HA9 := Lib.hid ha9
          have HK9 := Lib.hid hk9
          clear ha9 hk9
          clear d0 d1 d2 d3 d4 d5 d6 d7 d8 d9 d10
          go_wp2_with fail
          go_roundw
          case rel => exact ⟨j + 1, by go_num, by omega, by rw [HPP.out]; exact AddRel.of HKW.out (HKq.out.trans HK9.out) HA9.out (er_data _ _ _ _) (HG.out.data _ _ _)⟩
          case measure => simp [intOf]; omega
        · have hbg : (S.e 1).begun = true := by rw [AudS.er_e] at hb; exact hb
          have HBG := Lib.hid hbg
          obtain ⟨mb, hmb⟩ := HG.out.has hbg
          have HM := Lib.hid hmb
          clear hbg hmb hb
          rw [show beginsB 1 sk rk = false by simp [beginsB]]
          have d0 := HX4.out.cell 0
          have d1 := HX4.out.cell 1
          have d2 := HX4.out.cell 2
          have d3 := HX4.out.cell 3
          have d4 := HX4.out.cell 4
          have d5 := HX4.out.cell 5
          have d6 := HX4.out.cell 6
          have d7 := HX4.out.cell 7
          have d8 := HX4.out.cell 8
          have d9 := HX4.out.cell 9
          have d10 := HX4.out.cell 10
          simp only [List.getElem?_cons_succ, List.getElem?_cons_zero] at d0 d1 d2 d3 d4 d5 d6 d7 d8 d9 d10
          go_upto_region 8 with fail
          go_big_quiet (fail)
          generalize hWq : w4.drewN _ = wq
          have hwq : Below w4.heap.size w4 wq := hWq ▸ below_drewN (Below.refl _ _) _
          have HXq := Lib.hid (HX4.out.below hwq HX4.out.lt)
          have HAq := Lib.hid (HA4.out.below hwq)
          have HKq := Lib.hid (HK4.out.trans (KeepA.of_below hwq))
          have HRq := Lib.hid (HR4.out.keep (KeepA.of_below (B := B) hwq))
          have HZq : Hid (B ≤ wq.heap.size) := Lib.hid (by have := hwq.size; have := HZ4.out; omega)
          have HSq := Lib.hid (fun g cs (h : BoxAt w4 g 24 cs) => h.below hwq h.lt)
          clear hWq hwq HX4 HA4 HK4 HR4 HZ4
          clear d0 d1 d2 d3 d4 d5 d6 d7 d8 d9 d10
          have d0 := HXq.out.cell 0
          have d1 := HXq.out.cell 1
          have d2 := HXq.out.cell 2
          have d3 := HXq.out.cell 3
          have d4 := HXq.out.cell 4
          have d5 := HXq.out.cell 5
          have d6 := HXq.out.cell 6
          have d7 := HXq.out.cell 7
          have d8 := HXq.out.cell 8
          have d9 := HXq.out.cell 9
          have d10 := HXq.out.cell 10
          simp only [List.getElem?_cons_succ, List.getElem?_cons_zero] at d0 d1 d2 d3 d4 d5 d6 d7 d8 d9 d10
          have HXR := Lib.hid HXq.out.range
          go_wp2_with (first | (refine wpList_load_mid rfl 36 (.tmp 5) rfl rb 0 (by rfl) [.int .i64 ((1 : Nat) : Int), .int .i64 1, .int .i64 8, .int .i64 0, .int .u32 n, .int .u32 0, .int .u32 0, .slice none 0 0, .bool false, .string ⟨#[]⟩, .int .i64 sk, .string ⟨#[]⟩, .bool false, .int .u8 sc, .int .i64 0, .int .i64 rk, .string ⟨#[]⟩, .int .i64 0] _ HXR.out Tryd.underlying36 rfl rec_info ?_) | fail)
          refine (sent_sd B b 1 mb S lv n sk sc rk wq HAq.out (by decide) HM.out HBG.out hn0 hn1 HL1.out (by have := HC1.out; omega) HZq.out).mono ?_
          rintro e w9 ⟨rfl, lv9, ha9, hk9⟩
          have HA9 := Lib.hid ha9
          have HK9 := Lib.hid hk9
          clear ha9 hk9
          clear d0 d1 d2 d3 d4 d5 d6 d7 d8 d9 d10
          go_wp2_with fail
          go_roundw
          case rel => exact ⟨j + 1, by go_num, by omega, by rw [HPP.out]; exact AddRel.of HKW.out (HKq.out.trans HK9.out) HA9.out (er_data _ _ _ _) (HG.out.data _ _ _)⟩
          case measure => simp [intOf]; omega
      | poll n sk sc rk rf hb hs hn0 hn1 =>
        as_aux_lemma =>
        rcases (show i = 0 ∨ i = 1 by omega) with rfl | rfl
        · have hbg : (S.e 0).begun = true := by rw [AudS.er_e] at hb; exact hb
          have HBG := Lib.hid hbg
          obtain ⟨mb, hmb⟩ := HG.out.has hbg
          have HM := Lib.hid hmb
          clear hbg hmb hb
          have hs1 : (S.e 0).s ≠ n := by rw [AudS.er_e] at hs; exact hs
          have HSN := Lib.hid hs1
          clear hs hs1
          rw [show beginsB 1 sk rk = false by simp [beginsB]]
          have d0 := HX4.out.cell 0
          have d1 := HX4.out.cell 1
          have d2 := HX4.out.cell 2
          have d3 := HX4.out.cell 3
          have d4 := HX4.out.cell 4
          have d5 := HX4.out.cell 5
          have d6 := HX4.out.cell 6
          have d7 := HX4.out.cell 7
          have d8 := HX4.out.cell 8
          have d9 := HX4.out.cell 9
          have d10 := HX4.out.cell 10
          simp only [List.getElem?_cons_succ, List.getElem?_cons_zero] at d0 d1 d2 d3 d4 d5 d6 d7 d8 d9 d10
          go_upto_region 8 with fail
          go_big_quiet (fail)
          generalize hWq : w4.drewN _ = wq
          have hwq : Below w4.heap.size w4 wq := hWq ▸ below_drewN (Below.refl _ _) _
          have HXq := Lib.hid (HX4.out.below hwq HX4.out.lt)
          have HAq := Lib.hid (HA4.out.below hwq)
          have HKq := Lib.hid (HK4.out.trans (KeepA.of_below hwq))
          have HRq := Lib.hid (HR4.out.keep (KeepA.of_below (B := B) hwq))
          have HZq : Hid (B ≤ wq.heap.size) := Lib.hid (by have := hwq.size; have := HZ4.out; omega)
          have HSq := Lib.hid (fun g cs (h : BoxAt w4 g 24 cs) => h.below hwq h.lt)
          clear hWq hwq HX4 HA4 HK4 HR4 HZ4
          clear d0 d1 d2 d3 d4 d5 d6 d7 d8 d9 d10
          have d0 := HXq.out.cell 0
          have d1 := HXq.out.cell 1
          have d2 := HXq.out.cell 2
          have d3 := HXq.out.cell 3
          have d4 := HXq.out.cell 4
          have d5 := HXq.out.cell 5
          have d6 := HXq.out.cell 6
          have d7 := HXq.out.cell 7
          have d8 := HXq.out.cell 8
          have d9 := HXq.out.cell 9
          have d10 := HXq.out.cell 10
          simp only [List.getElem?_cons_succ, List.getElem?_cons_zero] at d0 d1 d2 d3 d4 d5 d6 d7 d8 d9 d10
          have HXR := Lib.hid HXq.out.range
          go_wp2_with (first | (refine wpList_load_mid rfl 36 (.tmp 5) rfl rb 0 (by rfl) [.int .i64 ((0 : Nat) : Int), .int .i64 1, .int .i64 10, .int .i64 0, .int .u32 n, .int .u32 0, .int .u32 0, .slice none 0 0, .bool false, .string ⟨#[]⟩, .int .i64 sk, .string ⟨#[]⟩, .bool false, .int .u8 sc, .int .i64 0, .int .i64 rk, .string ⟨#[]⟩, .int .i64 0] _ HXR.out Tryd.underlying36 rfl rec_info ?_) | fail)
          refine (sent_poll B b 0 mb S lv n sk sc rk wq HAq.out (by decide) HM.out HBG.out hn0 hn1 HL1.out HSN.out HZq.out).mono ?_
          rintro e w9 ⟨rfl, lv9, ha9, hk9⟩
          have HA9 := Lib.hid ha9
          have HK9 := Lib.hid hk9
          clear ha9 hk9
          clear d0 d1 d2 d3 d4 d5 d6 d7 d8 d9 d10
          go_wp2_with fail
          go_roundw
          case rel => exact ⟨j + 1, by go_num, by omega, by rw [HPP.out]; exact AddRel.of HKW.out (HKq.out.trans HK9.out) HA9.out (AudS.er_tell _ _ _) (HG.out.tell _ _)⟩
          case measure => simp [intOf]; omega
        · have hbg : (S.e 1).begun = true := by rw [AudS.er_e] at hb; exact hb
          have HBG := Lib.hid hbg
          obtain ⟨mb, hmb⟩ := HG.out.has hbg
          have HM := Lib.hid hmb
          clear hbg hmb hb
          have hs1 : (S.e 1).s ≠ n := by rw [AudS.er_e] at hs; exact hs
          have HSN := Lib.hid hs1
          clear hs hs1
          rw [show beginsB 1 sk rk = false by simp [beginsB]]
          have d0 := HX4.out.cell 0
          have d1 := HX4.out.cell 1
          have d2 := HX4.out.cell 2
          have d3 := HX4.out.cell 3
          have d4 := HX4.out.cell 4
          have d5 := HX4.out.cell 5
          have d6 := HX4.out.cell 6
          have d7 := HX4.out.cell 7
          have d8 := HX4.out.cell 8
          have d9 := HX4.out.cell 9
          have d10 := HX4.out.cell 10
          simp only [List.getElem?_cons_succ, List.getElem?_cons_zero] at d0 d1 d2 d3 d4 d5 d6 d7 d8 d9 d10
          go_upto_region 8 with fail
          go_big_quiet (fail)
          generalize hWq : w4.drewN _ = wq
          have hwq : Below w4.heap.size w4 wq := hWq ▸ below_drewN (Below.refl _ _) _
          have HXq := Lib.hid (HX4.out.below hwq HX4.out.lt)
          have HAq := Lib.hid (HA4.out.below hwq)
          have HKq := Lib.hid (HK4.out.trans (KeepA.of_below hwq))
          have HRq := Lib.hid (HR4.out.keep (KeepA.of_below (B := B) hwq))
          have HZq : Hid (B ≤ wq.heap.size) := Lib.hid (by have := hwq.size; have := HZ4.out; omega)
          have HSq := Lib.hid (fun g cs (h : BoxAt w4 g 24 cs) => h.below hwq h.lt)
          clear hWq hwq HX4 HA4 HK4 HR4 HZ4
          clear d0 d1 d2 d3 d4 d5 d6 d7 d8 d9 d10
          have d0 := HXq.out.cell 0
          have d1 := HXq.out.cell 1
          have d2 := HXq.out.cell 2
          have d3 := HXq.out.cell 3
          have d4 := HXq.out.cell 4
          have d5 := HXq.out.cell 5
          have d6 := HXq.out.cell 6
          have d7 := HXq.out.cell 7
          have d8 := HXq.out.cell 8
          have d9 := HXq.out.cell 9
          have d10 := HXq.out.cell 10
          simp only [List.getElem?_cons_succ, List.getElem?_cons_zero] at d0 d1 d2 d3 d4 d5 d6 d7 d8 d9 d10
          have HXR := Lib.hid HXq.out.range
          go_wp2_with (first | (refine wpList_load_mid rfl 36 (.tmp 5) rfl rb 0 (by rfl) [.int .i64 ((1 : Nat) : Int), .int .i64 1, .int .i64 10, .int .i64 0, .int .u32 n, .int .u32 0, .int .u32 0, .slice none 0 0, .bool false, .string ⟨#[]⟩, .int .i64 sk, .string ⟨#[]⟩, .bool false, .int .u8 sc, .int .i64 0, .int .i64 rk, .string ⟨#[]⟩, .int .i64 0] _ HXR.out Tryd.underlying36 rfl rec_info ?_) | fail)
          refine (sent_poll B b 1 mb S lv n sk sc rk wq HAq.out (by decide) HM.out HBG.out hn0 hn1 HL1.out HSN.out HZq.out).mono ?_
          rintro e w9 ⟨rfl, lv9, ha9, hk9⟩
          have HA9 := Lib.hid ha9
          have HK9 := Lib.hid hk9
          clear ha9 hk9
          clear d0 d1 d2 d3 d4 d5 d6 d7 d8 d9 d10
          go_wp2_with fail
          go_roundw
          case rel => exact ⟨j + 1, by go_num, by omega, by rw [HPP.out]; exact AddRel.of HKW.out (HKq.out.trans HK9.out) HA9.out (AudS.er_tell _ _ _) (HG.out.tell _ _)⟩
          case measure => simp [intOf]; omega
      | list n x y sk sc rk gx cx rf hb hn0 hn1 hx hy hx0 hy0 hc hg =>
        as_aux_lemma =>
        rcases (show i = 0 ∨ i = 1 by omega) with rfl | rfl
        · have hbg : (S.e 0).begun = true := by rw [AudS.er_e] at hb; exact hb
          have HBG := Lib.hid hbg
          obtain ⟨mb, hmb⟩ := HG.out.has hbg
          have HM := Lib.hid hmb
          clear hbg hmb hb
          have HGB := Lib.hid hg
          have H1 := Lib.hid (And.intro hx (And.intro hy (And.intro hx0 hy0)))
          clear hg hx hy hx0 hy0
          rw [show beginsB 1 sk rk = false by simp [beginsB]]
          have d0 := HX4.out.cell 0
          have d1 := HX4.out.cell 1
          have d2 := HX4.out.cell 2
          have d3 := HX4.out.cell 3
          have d4 := HX4.out.cell 4
          have d5 := HX4.out.cell 5
          have d6 := HX4.out.cell 6
          have d7 := HX4.out.cell 7
          have d8 := HX4.out.cell 8
          have d9 := HX4.out.cell 9
          have d10 := HX4.out.cell 10
          simp only [List.getElem?_cons_succ, List.getElem?_cons_zero] at d0 d1 d2 d3 d4 d5 d6 d7 d8 d9 d10
          go_upto_region 8 with fail
          go_big_quiet (fail)
          generalize hWq : w4.drewN _ = wq
          have hwq : Below w4.heap.size w4 wq := hWq ▸ below_drewN (Below.refl _ _) _
          have HXq := Lib.hid (HX4.out.below hwq HX4.out.lt)
          have HAq := Lib.hid (HA4.out.below hwq)
          have HKq := Lib.hid (HK4.out.trans (KeepA.of_below hwq))
          have HRq := Lib.hid (HR4.out.keep (KeepA.of_below (B := B) hwq))
          have HZq : Hid (B ≤ wq.heap.size) := Lib.hid (by have := hwq.size; have := HZ4.out; omega)
          have HSq := Lib.hid (fun g cs (h : BoxAt w4 g 24 cs) => h.below hwq h.lt)
          clear hWq hwq HX4 HA4 HK4 HR4 HZ4
          clear d0 d1 d2 d3 d4 d5 d6 d7 d8 d9 d10
          have d0 := HXq.out.cell 0
          have d1 := HXq.out.cell 1
          have d2 := HXq.out.cell 2
          have d3 := HXq.out.cell 3
          have d4 := HXq.out.cell 4
          have d5 := HXq.out.cell 5
          have d6 := HXq.out.cell 6
          have d7 := HXq.out.cell 7
          have d8 := HXq.out.cell 8
          have d9 := HXq.out.cell 9
          have d10 := HXq.out.cell 10
          simp only [List.getElem?_cons_succ, List.getElem?_cons_zero] at d0 d1 d2 d3 d4 d5 d6 d7 d8 d9 d10
          have HXR := Lib.hid HXq.out.range
          go_wp2_with (first | (refine wpList_load_mid rfl 36 (.tmp 5) rfl rb 0 (by rfl) [.int .i64 ((0 : Nat) : Int), .int .i64 1, .int .i64 11, .int .i64 0, .int .u32 n, .int .u32 0, .int .u32 0, .slice (some ⟨gx, 0, none⟩) 2 lc, .bool false, .string ⟨#[]⟩, .int .i64 sk, .string ⟨#[]⟩, .bool false, .int .u8 sc, .int .i64 0, .int .i64 rk, .string ⟨#[]⟩, .int .i64 0] _ HXR.out Tryd.underlying36 rfl rec_info ?_) | fail)
          refine (sent_list B b 0 mb S lv n sk sc rk x y gx lc wq HAq.out (by decide) HM.out HBG.out hn0 hn1 HL1.out H1.out.1 H1.out.2.1 H1.out.2.2.1 H1.out.2.2.2 hc (BoxAt.cells2 (HSq.out _ _ HGB.out)).1 (BoxAt.cells2 (HSq.out _ _ HGB.out)).2 HZq.out).mono ?_
          rintro e w9 ⟨rfl, lv9, ha9, hk9⟩
          have HA9 := Lib.hid ha9
          have HK9 := Lib.hid hk9
          clear ha9 hk9
          clear d0 d1 d2 d3 d4 d5 d6 d7 d8 d9 d10
          go_wp2_with fail
          go_roundw
          case rel => exact ⟨j + 1, by go_num, by omega, by rw [HPP.out]; exact AddRel.of HKW.out (HKq.out.trans HK9.out) HA9.out (AudS.er_tell _ _ _) (HG.out.tell _ _)⟩
          case measure => simp [intOf]; omega
        · have hbg : (S.e 1).begun = true := by rw [AudS.er_e] at hb; exact hb
          have HBG := Lib.hid hbg
          obtain ⟨mb, hmb⟩ := HG.out.has hbg
          have HM := Lib.hid hmb
          clear hbg hmb hb
          have HGB := Lib.hid hg
          have H1 := Lib.hid (And.intro hx (And.intro hy (And.intro hx0 hy0)))
          clear hg hx hy hx0 hy0
          rw [show beginsB 1 sk rk = false by simp [beginsB]]
          have d0 := HX4.out.cell 0
          have d1 := HX4.out.cell 1
          have d2 := HX4.out.cell 2
          have d3 := HX4.out.cell 3
          have d4 := HX4.out.cell 4
          have d5 := HX4.out.cell 5
          have d6 := HX4.out.cell 6
          have d7 := HX4.out.cell 7
          have d8 := HX4.out.cell 8
          have d9 := HX4.out.cell 9
          have d10 := HX4.out.cell 10
          simp only [List.getElem?_cons_succ, List.getElem?_cons_zero] at d0 d1 d2 d3 d4 d5 d6 d7 d8 d9 d10
          go_upto_region 8 with fail
          go_big_quiet (fail)
          generalize hWq : w4.drewN _ = wq
          have hwq : Below w4.heap.size w4 wq := hWq ▸ below_drewN (Below.refl _ _) _
          have HXq := Lib.hid (HX4.out.below hwq HX4.out.lt)
          have HAq := Lib.hid (HA4.out.below hwq)
          have HKq := Lib.hid (HK4.out.trans (KeepA.of_below hwq))
          have HRq := Lib.hid (HR4.out.keep (KeepA.of_below (B := B) hwq))
          have HZq : Hid (B ≤ wq.heap.size) := Lib.hid (by have := hwq.size; have := HZ4.out; omega)
          have HSq := Lib.hid (fun g cs (h : BoxAt w4 g 24 cs) => h.below hwq h.lt)
          clear hWq hwq HX4 HA4 HK4 HR4 HZ4
          clear d0 d1 d2 d3 d4 d5 d6 d7 d8 d9 d10
          have d0 := HXq.out.cell 0
          have d1 := HXq.out.cell 1
          have d2 := HXq.out.cell 2
          have d3 := HXq.out.cell 3
          have d4 := HXq.out.cell 4
          have d5 := HXq.out.cell 5
          have d6 := HXq.out.cell 6
          have d7 := HXq.out.cell 7
          have d8 := HXq.out.cell 8
          have d9 := HXq.out.cell 9
          have d10 := HXq.out.cell 10
          simp only [List.getElem?_cons_succ, List.getElem?_cons_zero] at d0 d1 d2 d3 d4 d5 d6 d7 d8 d9 d10
          have HXR := Lib.hid HXq.out.range
          go_wp2_with (first | (refine wpList_load_mid rfl 36 (.tmp 5) rfl rb 0 (by rfl) [.int .i64 ((1 : Nat) : Int), .int .i64 1, .int .i64 11, .int .i64 0, .int .u32 n, .int .u32 0, .int .u32 0, .slice (some ⟨gx, 0, none⟩) 2 lc, .bool false, .string ⟨#[]⟩, .int .i64 sk, .string ⟨#[]⟩, .bool false, .int .u8 sc, .int .i64 0, .int .i64 rk, .string ⟨#[]⟩, .int .i64 0] _ HXR.out Tryd.underlying36 rfl rec_info ?_) | fail)
          refine (sent_list B b 1 mb S lv n sk sc rk x y gx lc wq HAq.out (by decide) HM.out HBG.out hn0 hn1 HL1.out H1.out.1 H1.out.2.1 H1.out.2.2.1 H1.out.2.2.2 hc (BoxAt.cells2 (HSq.out _ _ HGB.out)).1 (BoxAt.cells2 (HSq.out _ _ HGB.out)).2 HZq.out).mono ?_
          rintro e w9 ⟨rfl, lv9, ha9, hk9⟩
          have HA9 := Lib.hid ha9
          have HK9 := Lib.hid hk9
          clear ha9 hk9
          clear d0 d1 d2 d3 d4 d5 d6 d7 d8 d9 d10
          go_wp2_with fail
          go_roundw
          case rel => exact ⟨j + 1, by go_num, by omega, by rw [HPP.out]; exact AddRel.of HKW.out (HKq.out.trans HK9.out) HA9.out (AudS.er_tell _ _ _) (HG.out.tell _ _)⟩
          case measure => simp [intOf]; omega
      | early k n mr sc rk rf hb =>
        as_aux_lemma =>
        rcases (show i = 0 ∨ i = 1 by omega) with rfl | rfl
        · have hbg : (S.e 0).begun = false := by rw [AudS.er_e] at hb; exact hb
          have HBG := Lib.hid hbg
          clear hbg hb
          rw [show beginsB 5 8 rk = false by simp [beginsB]]
          have d0 := HX4.out.cell 0
          have d1 := HX4.out.cell 1
          have d2 := HX4.out.cell 2
          have d3 := HX4.out.cell 3
          have d4 := HX4.out.cell 4
          have d5 := HX4.out.cell 5
          have d6 := HX4.out.cell 6
          have d7 := HX4.out.cell 7
          have d8 := HX4.out.cell 8
          have d9 := HX4.out.cell 9
          have d10 := HX4.out.cell 10
          simp only [List.getElem?_cons_succ, List.getElem?_cons_zero] at d0 d1 d2 d3 d4 d5 d6 d7 d8 d9 d10
          go_upto_region 8 with fail
          go_big_quiet (fail)
          generalize hWq : w4.drewN _ = wq
          have hwq : Below w4.heap.size w4 wq := hWq ▸ below_drewN (Below.refl _ _) _
          have HXq := Lib.hid (HX4.out.below hwq HX4.out.lt)
          have HAq := Lib.hid (HA4.out.below hwq)
          have HKq := Lib.hid (HK4.out.trans (KeepA.of_below hwq))
          have HRq := Lib.hid (HR4.out.keep (KeepA.of_below (B := B) hwq))
          have HZq : Hid (B ≤ wq.heap.size) := Lib.hid (by have := hwq.size; have := HZ4.out; omega)
          have HSq := Lib.hid (fun g cs (h : BoxAt w4 g 24 cs) => h.below hwq h.lt)
          clear hWq hwq HX4 HA4 HK4 HR4 HZ4
          clear d0 d1 d2 d3 d4 d5 d6 d7 d8 d9 d10
          have d0 := HXq.out.cell 0
          have d1 := HXq.out.cell 1
          have d2 := HXq.out.cell 2
          have d3 := HXq.out.cell 3
          have d4 := HXq.out.cell 4
          have d5 := HXq.out.cell 5
          have d6 := HXq.out.cell 6
          have d7 := HXq.out.cell 7
          have d8 := HXq.out.cell 8
          have d9 := HXq.out.cell 9
          have d10 := HXq.out.cell 10
          simp only [List.getElem?_cons_succ, List.getElem?_cons_zero] at d0 d1 d2 d3 d4 d5 d6 d7 d8 d9 d10
          obtain ⟨e0, -⟩ := HAq.out.ecells (i := 0) (o := 2) (by decide) rfl
          rw [HBG.out] at e0
          go_wp2_with fail
          refine (prob_tell B b S lv 0 ⟨#[101, 97, 114, 108, 121]⟩ wq HAq.out (by decide) (by decide) HL1.out HZq.out).mono ?_
          rintro e w9 ⟨rfl, lv9, ha9, hk9⟩
          have HA9 := Lib.hid ha9
          have HK9 := Lib.hid hk9
          clear ha9 hk9 e0
          clear d0 d1 d2 d3 d4 d5 d6 d7 d8 d9 d10
          go_wp2_with fail
          go_roundw
          case rel => exact ⟨j + 1, by go_num, by omega, by rw [HPP.out]; exact AddRel.of HKW.out (HKq.out.trans HK9.out) HA9.out (AudS.er_tell _ _ _) (HG.out.tell _ _)⟩
          case measure => simp [intOf]; omega
        · have hbg : (S.e 1).begun = false := by rw [AudS.er_e] at hb; exact hb
          have HBG := Lib.hid hbg
          clear hbg hb
          rw [show beginsB 5 8 rk = false by simp [beginsB]]
          have d0 := HX4.out.cell 0
          have d1 := HX4.out.cell 1
          have d2 := HX4.out.cell 2
          have d3 := HX4.out.cell 3
          have d4 := HX4.out.cell 4
          have d5 := HX4.out.cell 5
          have d6 := HX4.out.cell 6
          have d7 := HX4.out.cell 7
          have d8 := HX4.out.cell 8
          have d9 := HX4.out.cell 9
          have d10 := HX4.out.cell 10
          simp only [List.getElem?_cons_succ, List.getElem?_cons_zero] at d0 d1 d2 d3 d4 d5 d6 d7 d8 d9 d10
          go_upto_region 8 with fail
          go_big_quiet (fail)
          generalize hWq : w4.drewN _ = wq
          have hwq : Below w4.heap.size w4 wq := hWq ▸ below_drewN (Below.refl _ _) _
          have HXq := Lib.hid (HX4.out.below hwq HX4.out.lt)
          have HAq := Lib.hid (HA4.out.below hwq)
          have HKq := Lib.hid (HK4.out.trans (KeepA.of_below hwq))
          have HRq := Lib.hid (HR4.out.keep (KeepA.of_below (B := B) hwq))
          have HZq : Hid (B ≤ wq.heap.size) := Lib.hid (by have := hwq.size; have := HZ4.out; omega)
          have HSq := Lib.hid (fun g cs (h : BoxAt w4 g 24 cs) => h.below hwq h.lt)
          clear hWq hwq HX4 HA4 HK4 HR4 HZ4
          clear d0 d1 d2 d3 d4 d5 d6 d7 d8 d9 d10
          have d0 := HXq.out.cell 0
          have d1 := HXq.out.cell 1
          have d2 := HXq.out.cell 2
          have d3 := HXq.out.cell 3
          have d4 := HXq.out.cell 4
          have d5 := HXq.out.cell 5
          have d6 := HXq.out.cell 6
          have d7 := HXq.out.cell 7
          have d8 := HXq.out.cell 8
          have d9 := HXq.out.cell 9
          have d10 := HXq.out.cell 10
          simp only [List.getElem?_cons_succ, List.getElem?_cons_zero] at d0 d1 d2 d3 d4 d5 d6 d7 d8 d9 d10
          obtain ⟨e0, -⟩ := HAq.out.ecells (i := 1) (o := 8) (by decide) rfl
          rw [HBG.out] at e0
          go_wp2_with fail
          refine (prob_tell B b S lv 1 ⟨#[101, 97, 114, 108, 121]⟩ wq HAq.out (by decide) (by decide) HL1.out HZq.out).mono ?_
          rintro e w9 ⟨rfl, lv9, ha9, hk9⟩
          have HA9 := Lib.hid ha9
          have HK9 := Lib.hid hk9
          clear ha9 hk9 e0
          clear d0 d1 d2 d3 d4 d5 d6 d7 d8 d9 d10
          go_wp2_with fail
          go_roundw
          case rel => exact ⟨j + 1, by go_num, by omega, by rw [HPP.out]; exact AddRel.of HKW.out (HKq.out.trans HK9.out) HA9.out (AudS.er_tell _ _ _) (HG.out.tell _ _)⟩
          case measure => simp [intOf]; omega
      | stat n mr sk sc rk hb =>
        as_aux_lemma =>
        rcases (show i = 0 ∨ i = 1 by omega) with rfl | rfl
        · have hbg : (S.e 0).begun = true := by rw [AudS.er_e] at hb; exact hb
          have HBG := Lib.hid hbg
          obtain ⟨mb, hmb⟩ := HG.out.has hbg
          have HM := Lib.hid hmb
          clear hbg hmb hb
          rw [show beginsB 2 sk rk = false by simp [beginsB]]
          have d0 := HX4.out.cell 0
          have d1 := HX4.out.cell 1
          have d2 := HX4.out.cell 2
          have d3 := HX4.out.cell 3
          have d4 := HX4.out.cell 4
          have d5 := HX4.out.cell 5
          have d6 := HX4.out.cell 6
          have d7 := HX4.out.cell 7
          have d8 := HX4.out.cell 8
          have d9 := HX4.out.cell 9
          have d10 := HX4.out.cell 10
          simp only [List.getElem?_cons_succ, List.getElem?_cons_zero] at d0 d1 d2 d3 d4 d5 d6 d7 d8 d9 d10
          go_upto_region 8 with fail
          go_big_quiet (fail)
          generalize hWq : w4.drewN _ = wq
          have hwq : Below w4.heap.size w4 wq := hWq ▸ below_drewN (Below.refl _ _) _
          have HXq := Lib.hid (HX4.out.below hwq HX4.out.lt)
          have HAq := Lib.hid (HA4.out.below hwq)
          have HKq := Lib.hid (HK4.out.trans (KeepA.of_below hwq))
          have HRq := Lib.hid (HR4.out.keep (KeepA.of_below (B := B) hwq))
          have HZq : Hid (B ≤ wq.heap.size) := Lib.hid (by have := hwq.size; have := HZ4.out; omega)
          have HSq := Lib.hid (fun g cs (h : BoxAt w4 g 24 cs) => h.below hwq h.lt)
          clear hWq hwq HX4 HA4 HK4 HR4 HZ4
          clear d0 d1 d2 d3 d4 d5 d6 d7 d8 d9 d10
          have d0 := HXq.out.cell 0
          have d1 := HXq.out.cell 1
          have d2 := HXq.out.cell 2
          have d3 := HXq.out.cell 3
          have d4 := HXq.out.cell 4
          have d5 := HXq.out.cell 5
          have d6 := HXq.out.cell 6
          have d7 := HXq.out.cell 7
          have d8 := HXq.out.cell 8
          have d9 := HXq.out.cell 9
          have d10 := HXq.out.cell 10
          simp only [List.getElem?_cons_succ, List.getElem?_cons_zero] at d0 d1 d2 d3 d4 d5 d6 d7 d8 d9 d10
          obtain ⟨e0, -⟩ := HAq.out.ecells (i := 0) (o := 2) (by decide) rfl
          rw [HBG.out] at e0
          go_wp2_with (first | (go_at_call 19; refine (grants_any 11 _).mono ?_; rintro e w' ⟨rfl, rfl⟩; (try rw [show grantsB 11 = false by rfl])) | fail)
          refine (HREF.out _ HRq.out).mono ?_
          rintro e w6 ⟨rfl, hb6⟩
          have HX6 := Lib.hid (HXq.out.below hb6 HXq.out.lt)
          have HA6 := Lib.hid (HAq.out.below hb6)
          have HK6 := Lib.hid (HKq.out.trans (KeepA.of_below hb6))
          have HZ6 : Hid (B ≤ w6.heap.size) := Lib.hid (by have := hb6.size; have := HZq.out; omega)
          clear hb6 e0
          clear d0 d1 d2 d3 d4 d5 d6 d7 d8 d9 d10
          have d0 := HX6.out.cell 0
          have d1 := HX6.out.cell 1
          have d2 := HX6.out.cell 2
          have d3 := HX6.out.cell 3
          have d4 := HX6.out.cell 4
          have d5 := HX6.out.cell 5
          have d6 := HX6.out.cell 6
          have d7 := HX6.out.cell 7
          have d8 := HX6.out.cell 8
          have d9 := HX6.out.cell 9
          have d10 := HX6.out.cell 10
          simp only [List.getElem?_cons_succ, List.getElem?_cons_zero] at d0 d1 d2 d3 d4 d5 d6 d7 d8 d9 d10
          go_wp2_with fail
          refine (came_any B b 0 mb S lv 11 n mr none 0 0 [] w6 HA6.out (by decide) (by decide) HM.out HC1.out (by simp) (by simp) (fun W hW => named_none 11 n mr W (by decide)) HZ6.out).mono ?_
          rintro e w9 ⟨rfl, ha9, hk9⟩
          have HA9 := Lib.hid ha9
          have HK9 := Lib.hid hk9
          clear ha9 hk9
          clear d0 d1 d2 d3 d4 d5 d6 d7 d8 d9 d10
          go_wp2_with fail
          go_roundw
          case rel => exact ⟨j + 1, by go_num, by omega, by rw [HPP.out]; exact AddRel.of HKW.out (HK6.out.trans HK9.out) HA9.out (by rw [AudS.er_put, er_came, AudS.er_e]) (HG.out.came _ _ _ _)⟩
          case measure => simp [intOf]; omega
        · have hbg : (S.e 1).begun = true := by rw [AudS.er_e] at hb; exact hb
          have HBG := Lib.hid hbg
          obtain ⟨mb, hmb⟩ := HG.out.has hbg
          have HM := Lib.hid hmb
          clear hbg hmb hb
          rw [show beginsB 2 sk rk = false by simp [beginsB]]
          have d0 := HX4.out.cell 0
          have d1 := HX4.out.cell 1
          have d2 := HX4.out.cell 2
          have d3 := HX4.out.cell 3
          have d4 := HX4.out.cell 4
          have d5 := HX4.out.cell 5
          have d6 := HX4.out.cell 6
          have d7 := HX4.out.cell 7
          have d8 := HX4.out.cell 8
          have d9 := HX4.out.cell 9
          have d10 := HX4.out.cell 10
          simp only [List.getElem?_cons_succ, List.getElem?_cons_zero] at d0 d1 d2 d3 d4 d5 d6 d7 d8 d9 d10
          go_upto_region 8 with fail
          go_big_quiet (fail)
          generalize hWq : w4.drewN _ = wq
          have hwq : Below w4.heap.size w4 wq := hWq ▸ below_drewN (Below.refl _ _) _
          have HXq := Lib.hid (HX4.out.below hwq HX4.out.lt)
          have HAq := Lib.hid (HA4.out.below hwq)
          have HKq := Lib.hid (HK4.out.trans (KeepA.of_below hwq))
          have HRq := Lib.hid (HR4.out.keep (KeepA.of_below (B := B) hwq))
          have HZq : Hid (B ≤ wq.heap.size) := Lib.hid (by have := hwq.size; have := HZ4.out; omega)
          have HSq := Lib.hid (fun g cs (h : BoxAt w4 g 24 cs) => h.below hwq h.lt)
          clear hWq hwq HX4 HA4 HK4 HR4 HZ4
          clear d0 d1 d2 d3 d4 d5 d6 d7 d8 d9 d10
          have d0 := HXq.out.cell 0
          have d1 := HXq.out.cell 1
          have d2 := HXq.out.cell 2
          have d3 := HXq.out.cell 3
          have d4 := HXq.out.cell 4
          have d5 := HXq.out.cell 5
          have d6 := HXq.out.cell 6
          have d7 := HXq.out.cell 7
          have d8 := HXq.out.cell 8
          have d9 := HXq.out.cell 9
          have d10 := HXq.out.cell 10
          simp only [List.getElem?_cons_succ, List.getElem?_cons_zero] at d0 d1 d2 d3 d4 d5 d6 d7 d8 d9 d10
          obtain ⟨e0, -⟩ := HAq.out.ecells (i := 1) (o := 8) (by decide) rfl
          rw [HBG.out] at e0
          go_wp2_with (first | (go_at_call 19; refine (grants_any 11 _).mono ?_; rintro e w' ⟨rfl, rfl⟩; (try rw [show grantsB 11 = false by rfl])) | fail)
          refine (HREF.out _ HRq.out).mono ?_
          rintro e w6 ⟨rfl, hb6⟩
          have HX6 := Lib.hid (HXq.out.below hb6 HXq.out.lt)
          have HA6 := Lib.hid (HAq.out.below hb6)
          have HK6 := Lib.hid (HKq.out.trans (KeepA.of_below hb6))
          have HZ6 : Hid (B ≤ w6.heap.size) := Lib.hid (by have := hb6.size; have := HZq.out; omega)
          clear hb6 e0
          clear d0 d1 d2 d3 d4 d5 d6 d7 d8 d9 d10
          have d0 := HX6.out.cell 0
          have d1 := HX6.out.cell 1
          have d2 := HX6.out.cell 2
          have d3 := HX6.out.cell 3
          have d4 := HX6.out.cell 4
          have d5 := HX6.out.cell 5
          have d6 := HX6.out.cell 6
          have d7 := HX6.out.cell 7
          have d8 := HX6.out.cell 8
          have d9 := HX6.out.cell 9
          have d10 := HX6.out.cell 10
          simp only [List.getElem?_cons_succ, List.getElem?_cons_zero] at d0 d1 d2 d3 d4 d5 d6 d7 d8 d9 d10
          go_wp2_with fail
          refine (came_any B b 1 mb S lv 11 n mr none 0 0 [] w6 HA6.out (by decide) (by decide) HM.out HC1.out (by simp) (by simp) (fun W hW => named_none 11 n mr W (by decide)) HZ6.out).mono ?_
          rintro e w9 ⟨rfl, ha9, hk9⟩
          have HA9 := Lib.hid ha9
          have HK9 := Lib.hid hk9
          clear ha9 hk9
          clear d0 d1 d2 d3 d4 d5 d6 d7 d8 d9 d10
          go_wp2_with fail
          go_roundw
          case rel => exact ⟨j + 1, by go_num, by omega, by rw [HPP.out]; exact AddRel.of HKW.out (HK6.out.trans HK9.out) HA9.out (by rw [AudS.er_put, er_came, AudS.er_e]) (HG.out.came _ _ _ _)⟩
          case measure => simp [intOf]; omega
      | ustat n mr x sk sc rk gx cx hb hx0 hx1 hg =>
        as_aux_lemma =>
        rcases (show i = 0 ∨ i = 1 by omega) with rfl | rfl
        · have hbg : (S.e 0).begun = true := by rw [AudS.er_e] at hb; exact hb
          have HBG := Lib.hid hbg
          obtain ⟨mb, hmb⟩ := HG.out.has hbg
          have HM := Lib.hid hmb
          clear hbg hmb hb
          have HGB := Lib.hid hg
          clear hg
          rw [show beginsB 2 sk rk = false by simp [beginsB]]
          have d0 := HX4.out.cell 0
          have d1 := HX4.out.cell 1
          have d2 := HX4.out.cell 2
          have d3 := HX4.out.cell 3
          have d4 := HX4.out.cell 4
          have d5 := HX4.out.cell 5
          have d6 := HX4.out.cell 6
          have d7 := HX4.out.cell 7
          have d8 := HX4.out.cell 8
          have d9 := HX4.out.cell 9
          have d10 := HX4.out.cell 10
          simp only [List.getElem?_cons_succ, List.getElem?_cons_zero] at d0 d1 d2 d3 d4 d5 d6 d7 d8 d9 d10
          go_upto_region 8 with fail
          go_big_quiet (fail)
          generalize hWq : w4.drewN _ = wq
          have hwq : Below w4.heap.size w4 wq := hWq ▸ below_drewN (Below.refl _ _) _
          have HXq := Lib.hid (HX4.out.below hwq HX4.out.lt)
          have HAq := Lib.hid (HA4.out.below hwq)
          have HKq := Lib.hid (HK4.out.trans (KeepA.of_below hwq))
          have HRq := Lib.hid (HR4.out.keep (KeepA.of_below (B := B) hwq))
          have HZq : Hid (B ≤ wq.heap.size) := Lib.hid (by have := hwq.size; have := HZ4.out; omega)
          have HSq := Lib.hid (fun g cs (h : BoxAt w4 g 24 cs) => h.below hwq h.lt)
          clear hWq hwq HX4 HA4 HK4 HR4 HZ4
          clear d0 d1 d2 d3 d4 d5 d6 d7 d8 d9 d10
          have d0 := HXq.out.cell 0
          have d1 := HXq.out.cell 1
          have d2 := HXq.out.cell 2
          have d3 := HXq.out.cell 3
          have d4 := HXq.out.cell 4
          have d5 := HXq.out.cell 5
          have d6 := HXq.out.cell 6
          have d7 := HXq.out.cell 7
          have d8 := HXq.out.cell 8
          have d9 := HXq.out.cell 9
          have d10 := HXq.out.cell 10
          simp only [List.getElem?_cons_succ, List.getElem?_cons_zero] at d0 d1 d2 d3 d4 d5 d6 d7 d8 d9 d10
          obtain ⟨e0, -⟩ := HAq.out.ecells (i := 0) (o := 2) (by decide) rfl
          rw [HBG.out] at e0
          go_wp2_with (first | (go_at_call 19; refine (grants_any 12 _).mono ?_; rintro e w' ⟨rfl, rfl⟩; (try rw [show grantsB 12 = false by rfl])) | fail)
          refine (HREF.out _ HRq.out).mono ?_
          rintro e w6 ⟨rfl, hb6⟩
          have HX6 := Lib.hid (HXq.out.below hb6 HXq.out.lt)
          have HA6 := Lib.hid (HAq.out.below hb6)
          have HK6 := Lib.hid (HKq.out.trans (KeepA.of_below hb6))
          have HZ6 : Hid (B ≤ w6.heap.size) := Lib.hid (by have := hb6.size; have := HZq.out; omega)
          have HG6 := Lib.hid ((HSq.out _ _ HGB.out).below hb6 (BoxAt.lt (HSq.out _ _ HGB.out)))
          clear hb6 e0
          clear d0 d1 d2 d3 d4 d5 d6 d7 d8 d9 d10
          have d0 := HX6.out.cell 0
          have d1 := HX6.out.cell 1
          have d2 := HX6.out.cell 2
          have d3 := HX6.out.cell 3
          have d4 := HX6.out.cell 4
          have d5 := HX6.out.cell 5
          have d6 := HX6.out.cell 6
          have d7 := HX6.out.cell 7
          have d8 := HX6.out.cell 8
          have d9 := HX6.out.cell 9
          have d10 := HX6.out.cell 10
          simp only [List.getElem?_cons_succ, List.getElem?_cons_zero] at d0 d1 d2 d3 d4 d5 d6 d7 d8 d9 d10
          go_wp2_with fail
          refine (came_any B b 0 mb S lv 12 n mr (some ⟨gx, 0, none⟩) 2 lc [x] w6 HA6.out (by decide) (by decide) HM.out HC1.out (by simp) (by simp; omega) (fun W hW => named_one 12 n mr x gx lc W (by decide) hx0 hx1 (BoxAt.cells2 (hW.box HG6.out (by decide) (by decide))).1 (BoxAt.cells2 (hW.box HG6.out (by decide) (by decide))).2) HZ6.out).mono ?_
          rintro e w9 ⟨rfl, ha9, hk9⟩
          have HA9 := Lib.hid ha9
          have HK9 := Lib.hid hk9
          clear ha9 hk9
          clear d0 d1 d2 d3 d4 d5 d6 d7 d8 d9 d10
          go_wp2_with fail
          go_roundw
          case rel => exact ⟨j + 1, by go_num, by omega, by rw [HPP.out]; exact AddRel.of HKW.out (HK6.out.trans HK9.out) HA9.out (by rw [AudS.er_put, er_came, AudS.er_e]) (HG.out.came _ _ _ _)⟩
          case measure => simp [intOf]; omega
        · have hbg : (S.e 1).begun = true := by rw [AudS.er_e] at hb; exact hb
          have HBG := Lib.hid hbg
          obtain ⟨mb, hmb⟩ := HG.out.has hbg
          have HM := Lib.hid hmb
          clear hbg hmb hb
          have HGB := Lib.hid hg
          clear hg
          rw [show beginsB 2 sk rk = false by simp [beginsB]]
          have d0 := HX4.out.cell 0
          have d1 := HX4.out.cell 1
          have d2 := HX4.out.cell 2
          have d3 := HX4.out.cell 3
          have d4 := HX4.out.cell 4
          have d5 := HX4.out.cell 5
          have d6 := HX4.out.cell 6
          have d7 := HX4.out.cell 7
          have d8 := HX4.out.cell 8
          have d9 := HX4.out.cell 9
          have d10 := HX4.out.cell 10
          simp only [List.getElem?_cons_succ, List.getElem?_cons_zero] at d0 d1 d2 d3 d4 d5 d6 d7 d8 d9 d10
          go_upto_region 8 with fail
          go_big_quiet (fail)
          generalize hWq : w4.drewN _ = wq
          have hwq : Below w4.heap.size w4 wq := hWq ▸ below_drewN (Below.refl _ _) _
          have HXq := Lib.hid (HX4.out.below hwq HX4.out.lt)
          have HAq := Lib.hid (HA4.out.below hwq)
          have HKq := Lib.hid (HK4.out.trans (KeepA.of_below hwq))
          have HRq := Lib.hid (HR4.out.keep (KeepA.of_below (B := B) hwq))
          have HZq : Hid (B ≤ wq.heap.size) := Lib.hid (by have := hwq.size; have := HZ4.out; omega)
          have HSq := Lib.hid (fun g cs (h : BoxAt w4 g 24 cs) => h.below hwq h.lt)
          clear hWq hwq HX4 HA4 HK4 HR4 HZ4
          clear d0 d1 d2 d3 d4 d5 d6 d7 d8 d9 d10
          have d0 := HXq.out.cell 0
          have d1 := HXq.out.cell 1
          have d2 := HXq.out.cell 2
          have d3 := HXq.out.cell 3
          have d4 := HXq.out.cell 4
          have d5 := HXq.out.cell 5
          have d6 := HXq.out.cell 6
          have d7 := HXq.out.cell 7
          have d8 := HXq.out.cell 8
          have d9 := HXq.out.cell 9
          have d10 := HXq.out.cell 10
          simp only [List.getElem?_cons_succ, List.getElem?_cons_zero] at d0 d1 d2 d3 d4 d5 d6 d7 d8 d9 d10
          obtain ⟨e0, -⟩ := HAq.out.ecells (i := 1) (o := 8) (by decide) rfl
          rw [HBG.out] at e0
          go_wp2_with (first | (go_at_call 19; refine (grants_any 12 _).mono ?_; rintro e w' ⟨rfl, rfl⟩; (try rw [show grantsB 12 = false by rfl])) | fail)
          refine (HREF.out _ HRq.out).mono ?_
          rintro e w6 ⟨rfl, hb6⟩
          have HX6 := Lib.hid (HXq.out.below hb6 HXq.out.lt)
          have HA6 := Lib.hid (HAq.out.below hb6)
          have HK6 := Lib.hid (HKq.out.trans (KeepA.of_below hb6))
          have HZ6 : Hid (B ≤ w6.heap.size) := Lib.hid (by have := hb6.size; have := HZq.out; omega)
          have HG6 := Lib.hid ((HSq.out _ _ HGB.out).below hb6 (BoxAt.lt (HSq.out _ _ HGB.out)))
          clear hb6 e0
          clear d0 d1 d2 d3 d4 d5 d6 d7 d8 d9 d10
          have d0 := HX6.out.cell 0
          have d1 := HX6.out.cell 1
          have d2 := HX6.out.cell 2
          have d3 := HX6.out.cell 3
          have d4 := HX6.out.cell 4
          have d5 := HX6.out.cell 5
          have d6 := HX6.out.cell 6
          have d7 := HX6.out.cell 7
          have d8 := HX6.out.cell 8
          have d9 := HX6.out.cell 9
          have d10 := HX6.out.cell 10
          simp only [List.getElem?_cons_succ, List.getElem?_cons_zero] at d0 d1 d2 d3 d4 d5 d6 d7 d8 d9 d10
          go_wp2_with fail
          refine (came_any B b 1 mb S lv 12 n mr (some ⟨gx, 0, none⟩) 2 lc [x] w6 HA6.out (by decide) (by decide) HM.out HC1.out (by simp) (by simp; omega) (fun W hW => named_one 12 n mr x gx lc W (by decide) hx0 hx1 (BoxAt.cells2 (hW.box HG6.out (by decide) (by decide))).1 (BoxAt.cells2 (hW.box HG6.out (by decide) (by decide))).2) HZ6.out).mono ?_
          rintro e w9 ⟨rfl, ha9, hk9⟩
          have HA9 := Lib.hid ha9
          have HK9 := Lib.hid hk9
          clear ha9 hk9
          clear d0 d1 d2 d3 d4 d5 d6 d7 d8 d9 d10
          go_wp2_with fail
          go_roundw
          case rel => exact ⟨j + 1, by go_num, by omega, by rw [HPP.out]; exact AddRel.of HKW.out (HK6.out.trans HK9.out) HA9.out (by rw [AudS.er_put, er_came, AudS.er_e]) (HG.out.came _ _ _ _)⟩
          case measure => simp [intOf]; omega
      | refd n mr x sk sc rk gx cx hb =>
        as_aux_lemma =>
        rcases (show i = 0 ∨ i = 1 by omega) with rfl | rfl
        · have hbg : (S.e 0).begun = true := by rw [AudS.er_e] at hb; exact hb
          have HBG := Lib.hid hbg
          obtain ⟨mb, hmb⟩ := HG.out.has hbg
          have HM := Lib.hid hmb
          clear hbg hmb hb
          rw [show beginsB 2 sk rk = false by simp [beginsB]]
          have d0 := HX4.out.cell 0
          have d1 := HX4.out.cell 1
          have d2 := HX4.out.cell 2
          have d3 := HX4.out.cell 3
          have d4 := HX4.out.cell 4
          have d5 := HX4.out.cell 5
          have d6 := HX4.out.cell 6
          have d7 := HX4.out.cell 7
          have d8 := HX4.out.cell 8
          have d9 := HX4.out.cell 9
          have d10 := HX4.out.cell 10
          simp only [List.getElem?_cons_succ, List.getElem?_cons_zero] at d0 d1 d2 d3 d4 d5 d6 d7 d8 d9 d10
          go_upto_region 8 with fail
          go_big_quiet (fail)
          generalize hWq : w4.drewN _ = wq
          have hwq : Below w4.heap.size w4 wq := hWq ▸ below_drewN (Below.refl _ _) _
          have HXq := Lib.hid (HX4.out.below hwq HX4.out.lt)
          have HAq := Lib.hid (HA4.out.below hwq)
          have HKq := Lib.hid (HK4.out.trans (KeepA.of_below hwq))
          have HRq := Lib.hid (HR4.out.keep (KeepA.of_below (B := B) hwq))
          have HZq : Hid (B ≤ wq.heap.size) := Lib.hid (by have := hwq.size; have := HZ4.out; omega)
          have HSq := Lib.hid (fun g cs (h : BoxAt w4 g 24 cs) => h.below hwq h.lt)
          clear hWq hwq HX4 HA4 HK4 HR4 HZ4
          clear d0 d1 d2 d3 d4 d5 d6 d7 d8 d9 d10
          have d0 := HXq.out.cell 0
          have d1 := HXq.out.cell 1
          have d2 := HXq.out.cell 2
          have d3 := HXq.out.cell 3
          have d4 := HXq.out.cell 4
          have d5 := HXq.out.cell 5
          have d6 := HXq.out.cell 6
          have d7 := HXq.out.cell 7
          have d8 := HXq.out.cell 8
          have d9 := HXq.out.cell 9
          have d10 := HXq.out.cell 10
          simp only [List.getElem?_cons_succ, List.getElem?_cons_zero] at d0 d1 d2 d3 d4 d5 d6 d7 d8 d9 d10
          obtain ⟨e0, -⟩ := HAq.out.ecells (i := 0) (o := 2) (by decide) rfl
          rw [HBG.out] at e0
          go_wp2_with (first | (go_at_call 19; refine (grants_any 12 _).mono ?_; rintro e w' ⟨rfl, rfl⟩; (try rw [show grantsB 12 = false by rfl])) | fail)
          refine (HREF.out _ HRq.out).mono ?_
          rintro e w6 ⟨rfl, hb6⟩
          have HX6 := Lib.hid (HXq.out.below hb6 HXq.out.lt)
          have HA6 := Lib.hid (HAq.out.below hb6)
          have HK6 := Lib.hid (HKq.out.trans (KeepA.of_below hb6))
          have HZ6 : Hid (B ≤ w6.heap.size) := Lib.hid (by have := hb6.size; have := HZq.out; omega)
          clear hb6 e0
          clear d0 d1 d2 d3 d4 d5 d6 d7 d8 d9 d10
          have d0 := HX6.out.cell 0
          have d1 := HX6.out.cell 1
          have d2 := HX6.out.cell 2
          have d3 := HX6.out.cell 3
          have d4 := HX6.out.cell 4
          have d5 := HX6.out.cell 5
          have d6 := HX6.out.cell 6
          have d7 := HX6.out.cell 7
          have d8 := HX6.out.cell 8
          have d9 := HX6.out.cell 9
          have d10 := HX6.out.cell 10
          simp only [List.getElem?_cons_succ, List.getElem?_cons_zero] at d0 d1 d2 d3 d4 d5 d6 d7 d8 d9 d10
          go_wp2_with fail
          go_roundw
          case rel => exact ⟨j + 1, by go_num, by omega, by rw [HPP.out]; exact AddRel.of HKW.out HK6.out HA6.out rfl HG.out⟩
          case measure => simp [intOf]; omega
        · have hbg : (S.e 1).begun = true := by rw [AudS.er_e] at hb; exact hb
          have HBG := Lib.hid hbg
          obtain ⟨mb, hmb⟩ := HG.out.has hbg
          have HM := Lib.hid hmb
          clear hbg hmb hb
          rw [show beginsB 2 sk rk = false by simp [beginsB]]
          have d0 := HX4.out.cell 0
          have d1 := HX4.out.cell 1
          have d2 := HX4.out.cell 2
          have d3 := HX4.out.cell 3
          have d4 := HX4.out.cell 4
          have d5 := HX4.out.cell 5
          have d6 := HX4.out.cell 6
          have d7 := HX4.out.cell 7
          have d8 := HX4.out.cell 8
          have d9 := HX4.out.cell 9
          have d10 := HX4.out.cell 10
          simp only [List.getElem?_cons_succ, List.getElem?_cons_zero] at d0 d1 d2 d3 d4 d5 d6 d7 d8 d9 d10
          go_upto_region 8 with fail
          go_big_quiet (fail)
          generalize hWq : w4.drewN _ = wq
          have hwq : Below w4.heap.size w4 wq := hWq ▸ below_drewN (Below.refl _ _) _
          have HXq := Lib.hid (HX4.out.below hwq HX4.out.lt)
          have HAq := Lib.hid (HA4.out.below hwq)
          have HKq := Lib.hid (HK4.out.trans (KeepA.of_below hwq))
          have HRq := Lib.hid (HR4.out.keep (KeepA.of_below (B := B) hwq))
          have HZq : Hid (B ≤ wq.heap.size) := Lib.hid (by have := hwq.size; have := HZ4.out; omega)
          have HSq := Lib.hid (fun g cs (h : BoxAt w4 g 24 cs) => h.below hwq h.lt)
          clear hWq hwq HX4 HA4 HK4 HR4 HZ4
          clear d0 d1 d2 d3 d4 d5 d6 d7 d8 d9 d10
          have d0 := HXq.out.cell 0
          have d1 := HXq.out.cell 1
          have d2 := HXq.out.cell 2
          have d3 := HXq.out.cell 3
          have d4 := HXq.out.cell 4
          have d5 := HXq.out.cell 5
          have d6 := HXq.out.cell 6
          have d7 := HXq.out.cell 7
          have d8 := HXq.out.cell 8
          have d9 := HXq.out.cell 9
          have d10 := HXq.out.cell 10
          simp only [List.getElem?_cons_succ, List.getElem?_cons_zero] at d0 d1 d2 d3 d4 d5 d6 d7 d8 d9 d10
          obtain ⟨e0, -⟩ := HAq.out.ecells (i := 1) (o := 8) (by decide) rfl
          rw [HBG.out] at e0
          go_wp2_with (first | (go_at_call 19; refine (grants_any 12 _).mono ?_; rintro e w' ⟨rfl, rfl⟩; (try rw [show grantsB 12 = false by rfl])) | fail)
          refine (HREF.out _ HRq.out).mono ?_
          rintro e w6 ⟨rfl, hb6⟩
          have HX6 := Lib.hid (HXq.out.below hb6 HXq.out.lt)
          have HA6 := Lib.hid (HAq.out.below hb6)
          have HK6 := Lib.hid (HKq.out.trans (KeepA.of_below hb6))
          have HZ6 : Hid (B ≤ w6.heap.size) := Lib.hid (by have := hb6.size; have := HZq.out; omega)
          clear hb6 e0
          clear d0 d1 d2 d3 d4 d5 d6 d7 d8 d9 d10
          have d0 := HX6.out.cell 0
          have d1 := HX6.out.cell 1
          have d2 := HX6.out.cell 2
          have d3 := HX6.out.cell 3
          have d4 := HX6.out.cell 4
          have d5 := HX6.out.cell 5
          have d6 := HX6.out.cell 6
          have d7 := HX6.out.cell 7
          have d8 := HX6.out.cell 8
          have d9 := HX6.out.cell 9
          have d10 := HX6.out.cell 10
          simp only [List.getElem?_cons_succ, List.getElem?_cons_zero] at d0 d1 d2 d3 d4 d5 d6 d7 d8 d9 d10
          go_wp2_with fail
          go_roundw
          case rel => exact ⟨j + 1, by go_num, by omega, by rw [HPP.out]; exact AddRel.of HKW.out HK6.out HA6.out rfl HG.out⟩
          case measure => simp [intOf]; omega
    · have hje : j = rs.length := by omega
      rw [hje] at hrl
      have hjn1 : ¬ (j : Int) < (rs.length : Int) := by omega
      have HRL := Lib.hid hrl
      clear hrl hje
      go_wp2_with fail
      go_end0
      exact ⟨rfl, HRL.out⟩
end Go.Proofs.YtbppgicdmkkmnaaDoor
