/-
  Contract of (*audit.Audit).data: an SD that went out.
-/
import Derived.Test.YtbppgicdmkkmnaaDoorAuEnd
set_option linter.unusedVariables false
set_option linter.unusedSimpArgs false
namespace Go.Proofs.YtbppgicdmkkmnaaDoor
open Go.RowKit

def betB (a x b : Int) : Bool := decide ((x - a) % 16777216 < (b - a) % 16777216)
def creditW : List UInt8 := [99, 114, 101, 100, 105, 116]
def againW : List UInt8 := [97, 103, 97, 105, 110]
def numberW : List UInt8 := [110, 117, 109, 98, 101, 114]
/-- What an SD that went out makes of an audit. -/
def dataA (S : AudS) (i j : Nat) (n : Int) : AudS :=
  if n = (S.e i).s then
    (if betB (S.e i).a n (S.e i).ms = true then S.put i { S.e i with s := (n + 1) % 16777216 } else (S.tell j creditW).put i { S.e i with s := (n + 1) % 16777216 })
  else if betB (S.e i).a n (S.e i).s = true then
    (if (S.e i).f n = 0 then (S.tell j againW).put i { S.e i with f := updF (S.e i).f n 0, cnt := (S.e i).cnt + 1 } else S.put i { S.e i with f := updF (S.e i).f n 0, cnt := (S.e i).cnt + 1 })
  else S.tell j numberW
theorem law_num : Maps.Keyed Tryd.prog 24 := Maps.int_keyed Tryd.underlying24
theorem zero_int (w : World) : (zeroValue 3).run Tryd.prog w = .ok (.int .i64 0) w := by kernel_rfl
theorem key_num {n : Int} (h0 : 0 ≤ n) (h1 : n < 4294967296) : keyOf Tryd.prog 24 (.int .u32 n) = some (.int .u32 n) := Maps.keyOf_int_mk Tryd.underlying24 (by have e1 : IntKind.u32.min = 0 := rfl; have e2 : IntKind.u32.max = 4294967295 := rfl; simp [Lit.wf, e1, e2]; omega)
theorem data_end {B b : Nat} {S S' : AudS} {w w1 w2 : World} {lv : Value} {e : Ending} (h : S' = S) (hk : KeepA B w w1) (ha : AudAt w2 B b S lv) (hk2 : KeepA B w1 w2) (he : e = .returned (.tuple #[])) : ProbEnd B b S' w e w2 := by
  subst h; exact ⟨he, lv, ha, hk.trans hk2⟩
theorem lit_same {a b : Int} (h : (DataW.lit (.int .i64 a) : DataW Unit) = .lit (.int .i64 b)) : a = b := by cases h; rfl
set_option maxRecDepth 100000 in
set_option maxHeartbeats 2000000 in
theorem data_any (B b i j mb : Nat) (S : AudS) (lv : Value) (n : Int) (w : World) (h : AudAt w B b S lv) (hi : i < 2) (hj : j < 10) (hm : (S.e i).m = some mb) (hn0 : 0 ≤ n) (hn1 : n < 16777216) (hl : S.l.length ≤ 100000) (hc : (S.e i).cnt ≤ 1000000) (hB : B ≤ w.heap.size) :
    Calls Tryd.prog 25 #[.pointer (some ⟨b, 0, none⟩), .int .i64 (j : Int), .pointer (some ⟨b, 2 + 6 * i, none⟩), .int .u32 n] w (ProbEnd B b (dataA S i j n) w) := by
  obtain ⟨o, ho⟩ : ∃ o, o = 2 + 6 * i := ⟨_, rfl⟩
  rw [← ho]
  have HO := Lib.hid ho
  clear ho
  obtain ⟨c0, c1, c2, c3, c4, c5⟩ := h.ecells hi HO.out
  have g1 := h.efroz (o + 1)
  have HA := Lib.hid h
  rw [hm] at c5
  have HM := Lib.hid hm
  clear h hm c0 c4
  generalize hE : S.e i = E at *
  have HE := Lib.hid hE
  clear hE
  have HM2 : Hid ((S.e i).m = some mb) := Lib.hid (by rw [HE.out]; exact HM.out)
  have HC2 : Hid ((S.e i).cnt ≤ 1000000) := Lib.hid (by rw [HE.out]; exact hc)
  have hkey := key_num hn0 (by omega : n < 4294967296)
  by_cases hs : n = E.s
  · have hs1 : (n == E.s) = true := by simpa using hs
    by_cases hb : betB E.a n E.ms = true
    · have HR : Hid (dataA S i j n = S.put i { S.e i with s := (n + 1) % 16777216 }) := Lib.hid (by unfold dataA; rw [HE.out, if_pos hs, if_pos hb])
      have hb2 : decide ((n - E.a) % 16777216 < (E.ms - E.a) % 16777216) = true := hb
      generalize dataA S i j n = S' at *
      clear hb hs
      go_enter Tryd.func25, Tryd.ntmps25
      go_wp2_with fail
      go_quiet ((go_at_call 35; exact Calls.quiet_of_same ((between_num _ _ _ _).mono fun _ _ ⟨h1, h2⟩ => ⟨h1, h2.symm⟩)))
      generalize hWq : w.drewN _ = wq
      have hwq : Below w.heap.size w wq := hWq ▸ below_drewN (Below.refl _ _) _
      have HAq := Lib.hid (HA.out.below hwq)
      obtain ⟨-, c1, -⟩ := HAq.out.ecells hi HO.out
      have g1 := HAq.out.efroz (o + 1)
      clear hWq
      go_wp2_with fail
      refine (add_num _ _ _).mono ?_
      rintro e w1 ⟨rfl, rfl⟩
      go_wp2_with fail
      go_end0
      exact data_end HR.out (KeepA.of_below hwq) (HAq.out.set_s hi HO.out _) HAq.out.keep_set rfl
    · have HR : Hid (dataA S i j n = (S.tell j creditW).put i { S.e i with s := (n + 1) % 16777216 }) := Lib.hid (by unfold dataA; rw [HE.out, if_pos hs, if_neg hb])
      have hb2 : decide ((n - E.a) % 16777216 < (E.ms - E.a) % 16777216) = false := by simpa [betB] using hb
      generalize dataA S i j n = S' at *
      clear hb hs
      go_enter Tryd.func25, Tryd.ntmps25
      go_wp2_with fail
      go_quiet ((go_at_call 35; exact Calls.quiet_of_same ((between_num _ _ _ _).mono fun _ _ ⟨h1, h2⟩ => ⟨h1, h2.symm⟩)))
      generalize hWq : w.drewN _ = wq
      have hwq : Below w.heap.size w wq := hWq ▸ below_drewN (Below.refl _ _) _
      have HAq := Lib.hid (HA.out.below hwq)
      clear hWq
      go_wp2_with fail
      refine (prob_tell B b S lv j ⟨#[99, 114, 101, 100, 105, 116]⟩ wq HAq.out hj (by decide) hl (by have := hwq.size; omega)).mono ?_
      rintro e w1 ⟨rfl, lv1, ha1, hk1⟩
      have HA1 := Lib.hid ha1
      have HK1 := Lib.hid ((KeepA.of_below hwq).trans hk1)
      obtain ⟨-, d1, -⟩ := ha1.ecells hi HO.out
      have g1 := ha1.efroz (o + 1)
      clear ha1 hk1 HA HAq c1 c2 c3 c5
      go_wp2_with fail
      refine (add_num _ _ _).mono ?_
      rintro e w2 ⟨rfl, rfl⟩
      go_wp2_with fail
      go_end0
      refine data_end (lv := lv1) HR.out HK1.out ?_ HA1.out.keep_set rfl
      have := HA1.out.set_s hi HO.out ((n + 1) % 16777216)
      rw [AudS.tell_e] at this
      exact this
  · have hs1 : (n == E.s) = false := by simpa using hs
    by_cases hb : betB E.a n E.s = true
    · have hb2 : (n - E.a) % 16777216 < (E.s - E.a) % 16777216 := by simpa [betB] using hb
      by_cases hf : E.f n = 0
      · have HR : Hid (dataA S i j n = (S.tell j againW).put i { S.e i with f := updF (S.e i).f n 0, cnt := (S.e i).cnt + 1 }) := Lib.hid (by unfold dataA; rw [HE.out, if_neg hs, if_pos hb, if_pos hf])
        generalize dataA S i j n = S' at *
        have hf0 : (E.f n == 0) = true := by simpa using hf
        clear hb hs
        go_enter Tryd.func25, Tryd.ntmps25
        go_wp2_with fail
        go_quiet ((go_at_call 35; exact Calls.quiet_of_same ((between_num _ _ _ _).mono fun _ _ ⟨h1, h2⟩ => ⟨h1, h2.symm⟩)))
        generalize hWq : w.drewN _ = wq
        have hwq : Below w.heap.size w wq := hWq ▸ below_drewN (Below.refl _ _) _
        have HAq := Lib.hid (HA.out.below hwq)
        obtain ⟨D, hown, hat3⟩ := HAq.out.named hi HM2.out
        obtain ⟨-, -, -, -, -, d5⟩ := HAq.out.ecells hi HO.out
        rw [HM2.out] at d5
        have HAT := Lib.hid (hat3 n hn0 (by omega))
        rw [HE.out] at HAT
        have HT3 := Lib.hid hat3
        clear hWq hat3
        go_wp2_with (first | (at_lookup; refine wpList_lookup_own_int _ rfl _ _ 50 rfl 24 3 .i64 law_num Tryd.underlying50 Tryd.underlying3 (zero_int _) mb _ D rfl hown _ _ rfl hkey ?_; intro c hat hwc; have hce : c = E.f n := lit_same (hat.symm.trans HAT.out); subst hce; clear hat hwc) | fail)
        refine (prob_tell B b S lv j ⟨#[97, 103, 97, 105, 110]⟩ wq HAq.out hj (by decide) hl (by have := hwq.size; omega)).mono ?_
        rintro e w1 ⟨rfl, lv1, (ha1 : AudAt w1 B b (S.tell j againW) lv1), hk1⟩
        have HA1 := Lib.hid ha1
        have HK1 := Lib.hid ((KeepA.of_below hwq).trans hk1)
        have HM3 : Hid (((S.tell j againW).e i).m = some mb) := Lib.hid (by rw [AudS.tell_e]; exact HM2.out)
        have HC3 : Hid (((S.tell j againW).e i).cnt ≤ 1000000) := Lib.hid (by rw [AudS.tell_e]; exact HC2.out)
        obtain ⟨D1, hown1, hat1⟩ := HA1.out.named hi HM3.out
        obtain ⟨-, -, -, -, -, k5⟩ := ha1.ecells hi HO.out
        rw [HM3.out] at k5
        have HT1 := Lib.hid hat1
        clear ha1 hk1 HA HAq hown d5 HT3 HAT c1 c2 c3 c5 hat1
        go_wp2_with (first | (at_mapUpdate; refine wpList_mapUpdate_own _ rfl _ _ _ 50 rfl 24 3 law_num Tryd.underlying50 _ mb _ D1 rfl hown1 (by have := HC3.out; unfold maxLen; omega) _ _ _ rfl rfl hkey _ [] (plainElem_int Tryd.underlying3 (by decide)) ?_; intro w2 hown2 hgrow2) | fail)
        go_end0
        have h9 := HA1.out.upd hi HM3.out hown1 HT1.out hown2 hgrow2
        rw [AudS.tell_e] at h9
        exact data_end (lv := lv1) HR.out HK1.out h9.1 h9.2 rfl
      · have HR : Hid (dataA S i j n = S.put i { S.e i with f := updF (S.e i).f n 0, cnt := (S.e i).cnt + 1 }) := Lib.hid (by unfold dataA; rw [HE.out, if_neg hs, if_pos hb, if_neg hf])
        generalize dataA S i j n = S' at *
        have hf0 : (E.f n == 0) = false := by simpa using hf
        clear hb hs
        go_enter Tryd.func25, Tryd.ntmps25
        go_wp2_with fail
        go_quiet ((go_at_call 35; exact Calls.quiet_of_same ((between_num _ _ _ _).mono fun _ _ ⟨h1, h2⟩ => ⟨h1, h2.symm⟩)))
        generalize hWq : w.drewN _ = wq
        have hwq : Below w.heap.size w wq := hWq ▸ below_drewN (Below.refl _ _) _
        have HAq := Lib.hid (HA.out.below hwq)
        obtain ⟨D, hown, hat3⟩ := HAq.out.named hi HM2.out
        obtain ⟨-, -, -, -, -, d5⟩ := HAq.out.ecells hi HO.out
        rw [HM2.out] at d5
        have HAT := Lib.hid (hat3 n hn0 (by omega))
        rw [HE.out] at HAT
        have HT3 := Lib.hid hat3
        clear hWq hat3
        go_wp2_with (first | (at_lookup; refine wpList_lookup_own_int _ rfl _ _ 50 rfl 24 3 .i64 law_num Tryd.underlying50 Tryd.underlying3 (zero_int _) mb _ D rfl hown _ _ rfl hkey ?_; intro c hat hwc; have hce : c = E.f n := lit_same (hat.symm.trans HAT.out); subst hce; clear hat hwc) | (at_mapUpdate; refine wpList_mapUpdate_own _ rfl _ _ _ 50 rfl 24 3 law_num Tryd.underlying50 _ mb _ D rfl hown (by have := HC2.out; unfold maxLen; omega) _ _ _ rfl rfl hkey _ [] (plainElem_int Tryd.underlying3 (by decide)) ?_; intro w2 hown2 hgrow2) | fail)
        go_end0
        have h9 := HAq.out.upd hi HM2.out hown HT3.out hown2 hgrow2
        exact data_end (lv := lv) HR.out (KeepA.of_below hwq) h9.1 h9.2 rfl
    · have HR : Hid (dataA S i j n = S.tell j numberW) := Lib.hid (by unfold dataA; rw [HE.out, if_neg hs, if_neg hb])
      have hb2 : ¬ (n - E.a) % 16777216 < (E.s - E.a) % 16777216 := by simpa [betB] using hb
      generalize dataA S i j n = S' at *
      clear hb hs
      go_enter Tryd.func25, Tryd.ntmps25
      go_wp2_with fail
      go_quiet ((go_at_call 35; exact Calls.quiet_of_same ((between_num _ _ _ _).mono fun _ _ ⟨h1, h2⟩ => ⟨h1, h2.symm⟩)))
      generalize hWq : w.drewN _ = wq
      have hwq : Below w.heap.size w wq := hWq ▸ below_drewN (Below.refl _ _) _
      have HAq := Lib.hid (HA.out.below hwq)
      clear hWq
      go_wp2_with fail
      refine (prob_tell B b S lv j ⟨#[110, 117, 109, 98, 101, 114]⟩ wq HAq.out hj (by decide) hl (by have := hwq.size; omega)).mono ?_
      rintro e w1 ⟨rfl, lv1, ha1, hk1⟩
      have HA1 := Lib.hid ha1
      have HK1 := Lib.hid ((KeepA.of_below hwq).trans hk1)
      clear ha1 hk1 HA HAq
      go_wp2_with fail
      go_end0
      exact data_end (lv := lv1) HR.out HK1.out HA1.out (KeepA.refl _ _) rfl
end Go.Proofs.YtbppgicdmkkmnaaDoor
