/-
  AuditEpochs answers true, at every input.
-/
import Derived.Test.YtbppgicdmkkmnaaDoorAuEpochs
set_option linter.unusedVariables false
set_option linter.unusedSimpArgs false
namespace Go.Proofs.YtbppgicdmkkmnaaDoor
open Go.RowKit

theorem begin_any (w0 : World) (B b ba bh : Nat) (how : Int) (e : EndS) (w : World) (h : EpRel w0 B b ba bh how (epQ e) w) (hc : e.credit ≤ 43) (hP : small (epQ e) 900) :
    Calls Tryd.prog 12 #[.pointer (some ⟨ba, 0, none⟩), .pointer (some ⟨bh, 0, none⟩)] w (EpEnd w0 B b ba bh how (epQ (epG 0))) := by
  rcases kinds_rem how with h1 | h1 | h1
  · exact begin_0 w0 B b ba bh how e w h hc hP h1
  · exact begin_1 w0 B b ba bh how e w h hc hP h1
  · exact begin_2 w0 B b ba bh how e w h hc hP h1
theorem ep_came_recs (w : World) : BoxAt ((w.alloc (.cells #[.int .u32 7, .int .u32 8] 24)).alloc (.cells #[.int .i64 0, .int .i64 2, .int .i64 12, .int .i64 0, .int .u32 7, .int .u32 0, .int .u32 60, .slice (some ⟨w.heap.size, 0, none⟩) 2 2, .bool false, .string ⟨#[]⟩, .int .i64 0, .string ⟨#[]⟩, .bool false, .int .u8 0, .int .i64 0, .int .i64 0, .string ⟨#[]⟩, .int .i64 0] 36)) w.heap.size 24 [.int .u32 7, .int .u32 8] ∧ RecsAt ((w.alloc (.cells #[.int .u32 7, .int .u32 8] 24)).alloc (.cells #[.int .i64 0, .int .i64 2, .int .i64 12, .int .i64 0, .int .u32 7, .int .u32 0, .int .u32 60, .slice (some ⟨w.heap.size, 0, none⟩) 2 2, .bool false, .string ⟨#[]⟩, .int .i64 0, .string ⟨#[]⟩, .bool false, .int .u8 0, .int .i64 0, .int .i64 0, .string ⟨#[]⟩, .int .i64 0] 36)) (w.heap.size + 1) [⟨0, 2, 12, 7, 60, some ⟨w.heap.size, 0, none⟩, 2, 2, 0, 0, 0⟩] := by
  refine ⟨(BoxAt.new w _ [.int .u32 7, .int .u32 8]).alloc, ?_⟩
  unfold RecsAt
  exact BoxAt.newAt (w := w.alloc (.cells #[.int .u32 7, .int .u32 8] 24)) (b := w.heap.size + 1) (by show (w.heap.push _).size = _; exact Array.size_push _) 36 [.int .i64 0, .int .i64 2, .int .i64 12, .int .i64 0, .int .u32 7, .int .u32 0, .int .u32 60, .slice (some ⟨w.heap.size, 0, none⟩) 2 2, .bool false, .string ⟨#[]⟩, .int .i64 0, .string ⟨#[]⟩, .bool false, .int .u8 0, .int .i64 0, .int .i64 0, .string ⟨#[]⟩, .int .i64 0]
theorem epR_zero (w w1 w2 : World) (B b ba bh : Nat) (how : Int) (ha : AudP w2 B b (newP 7 7)) (hb : BoxAt w2 ba 25 [.pointer (some ⟨b, 0, none⟩)]) (hh : BoxAt w2 bh 3 [.int .i64 how]) (hB : Below w.heap.size w w2) (h1 : w.heap.size ≤ B) (h2 : B ≤ w2.heap.size) : EpRel w B b ba bh how (epQ zeroE) w2 := ⟨ha, hb, hh, hB, h1, h2⟩
set_option maxRecDepth 100000 in
set_option maxHeartbeats 2000000 in
theorem epochs_any (n how : Int) (w : World) (hn0 : -9223372036854775808 ≤ n) (hn1 : n ≤ 9223372036854775807) :
    Calls Tryd.prog 4 #[.int .i64 n, .int .i64 how] w fun e w' => e = .returned (.bool true) ∧ Below w.heap.size w w' := by
  obtain ⟨m, hm⟩ : ∃ m : Nat, 1 + n % 16 = (m : Int) := ⟨(1 + n % 16).toNat, by omega⟩
  have hm0 : 1 ≤ m := by omega
  have hm1 : m ≤ 16 := by omega
  have HM := Lib.hid hm
  clear hm
  go_enter Tryd.func4, Tryd.ntmps4
  go_wp2_with fail
  have hbh := BoxAt.new w 3 [.int .i64 how]
  have hb0 := (Below.refl w.heap.size w).alloc (Nat.le_refl _) (.cells #[.int .i64 how] 3)
  have HH0 := Lib.hid hbh
  have HB0 := Lib.hid hb0
  clear hbh hb0
  generalize w.alloc _ = w1 at *
  refine (awake21 w1).mono ?_
  rintro e w2 ⟨rfl, hb2⟩
  have HH2 := Lib.hid (HH0.out.below hb2 HH0.out.lt)
  have HB2 := Lib.hid (HB0.out.trans (hb2.mono HB0.out.size))
  clear hb2 HH0 HB0
  go_wp2_with fail
  rw [HM.out]
  refine (new_any 7 7 w2 ⟨by decide, by decide⟩ ⟨by decide, by decide⟩).mono ?_
  rintro e w3 ⟨b, rfl, ha3, hb3⟩
  have HZ2 : Hid (w.heap.size ≤ w2.heap.size) := Lib.hid HB2.out.size
  have HR4 : Hid (EpRel w w2.heap.size b w3.heap.size w.heap.size how (epQ zeroE) (w3.alloc (.cells #[.pointer (some ⟨b, 0, none⟩)] 25))) := Lib.hid ⟨ha3.below ((Below.refl _ w3).alloc (Nat.le_refl _) _), BoxAt.new w3 _ [.pointer (some ⟨b, 0, none⟩)], ((HH2.out.below hb3 HH2.out.lt)).alloc, (HB2.out.trans (hb3.mono HZ2.out)).alloc (Nat.le_trans HZ2.out hb3.size) _, HZ2.out, Nat.le_trans hb3.size ((Below.refl w3.heap.size w3).alloc (Nat.le_refl _) _).size⟩
  clear ha3 hb3 HH2 HB2 HZ2
  generalize w2.heap.size = B at *
  go_wp2_with fail
  generalize w3.alloc _ = w4 at *
  generalize w3.heap.size = ba at *
  generalize w.heap.size = bh at *
  refine (begin_any w B b ba bh how zeroE w4 HR4.out (by decide) (small_ep _ (by decide))).mono ?_
  rintro e w5 ⟨rfl, hr5⟩
  have HR5 := Lib.hid hr5
  clear hr5 HR4
  go_wp2_with fail
  go_loopw [23] (fun ix wx => ∃ k : Nat, ix = .int .i64 (k : Int) ∧ k ≤ m ∧ EpRel w B b ba bh how (epQ (epG k)) wx) (fun ix _ => m - (intOf ix).toNat)
  case atStart => exact ⟨0, rfl, by omega, HR5.out⟩
  case round =>
    obtain ⟨k, rfl, hk, hrl⟩ := hrel
    by_cases hkm : k < m
    · have hkm1 : (k : Int) < (m : Int) := by omega
      have HRL := Lib.hid hrl
      clear hrl
      go_wp2_with fail
      refine (sd_clo w B b ba bh k how (epQ (epG k)) (epQ (epG (k + 1))) _ HRL.out (by omega) (fun W => ep_sd k W (by omega)) (small_ep _ (Nat.zero_le _))).mono ?_
      rintro e w6 ⟨rfl, hr6⟩
      have HR6 := Lib.hid hr6
      clear hr6 HRL
      go_wp2_with fail
      go_roundw
      case rel => exact ⟨k + 1, by go_num, by omega, HR6.out⟩
      case measure => simp [intOf]; omega
    · have hkm1 : ¬ (k : Int) < (m : Int) := by omega
      have hke : k = m := by omega
      rw [hke] at hrl
      have HR7 := Lib.hid hrl
      have c0 := hrl.box.cells1
      clear hrl hke
      go_wp2_with fail
      generalize wr = w7 at *
      clear c0
      have HBX := Lib.hid (ep_came_recs w7)
      have hbx := ((Below.refl w7.heap.size w7).alloc (Nat.le_refl _) (.cells #[.int .u32 7, .int .u32 8] 24)).alloc (by simp) (.cells #[.int .i64 0, .int .i64 2, .int .i64 12, .int .i64 0, .int .u32 7, .int .u32 0, .int .u32 60, .slice (some ⟨w7.heap.size, 0, none⟩) 2 2, .bool false, .string ⟨#[]⟩, .int .i64 0, .string ⟨#[]⟩, .bool false, .int .u8 0, .int .i64 0, .int .i64 0, .string ⟨#[]⟩, .int .i64 0] 36)
      have HR8 := Lib.hid (HR7.out.keepB hbx)
      clear hbx HR7
      generalize hw8 : (w7.alloc _).alloc _ = w8 at *
      refine (add_one B b (w7.heap.size + 1) _ 0 _ _ _ w8 HR8.out.aud HBX.out.2 (by decide) (ep_came m w8 w7.heap.size 2 HBX.out.1) (small_ep _ (Nat.zero_le _)) HR8.out.size).mono ?_
      rintro e w9 ⟨rfl, hr9⟩
      have HR9 := Lib.hid (HR8.out.step hr9)
      clear hr9 HBX HR8 hw8
      go_wp2_with fail
      refine (begin_any w B b ba bh how _ w9 HR9.out (by rw [came_credit]; exact Int.le_refl 43) (small_ep _ (by rw [came_cnt]; exact (by decide : 0 + 1 ≤ 10)))).mono ?_
      rintro e w10 ⟨rfl, hr10⟩
      have HR10 := Lib.hid hr10
      clear hr10 HR9
      go_wp2_with fail
      go_loopw [39] (fun ix wx => ∃ k : Nat, ix = .int .i64 (k : Int) ∧ k ≤ m ∧ EpRel w B b ba bh how (epQ (epG k)) wx) (fun ix _ => m - (intOf ix).toNat)
      case atStart => exact ⟨0, rfl, by omega, HR10.out⟩
      case round =>
        obtain ⟨k, rfl, hk, hrl⟩ := hrel
        by_cases hkm : k < m
        · have hkm1 : (k : Int) < (m : Int) := by omega
          have HRL := Lib.hid hrl
          clear hrl
          go_wp2_with fail
          refine (sd_clo w B b ba bh k how (epQ (epG k)) (epQ (epG (k + 1))) _ HRL.out (by omega) (fun W => ep_sd k W (by omega)) (small_ep _ (Nat.zero_le _))).mono ?_
          rintro e w6 ⟨rfl, hr6⟩
          have HR6 := Lib.hid hr6
          clear hr6 HRL
          go_wp2_with fail
          go_roundw
          case rel => exact ⟨k + 1, by go_num, by omega, HR6.out⟩
          case measure => simp [intOf]; omega
        · have hkm1 : ¬ (k : Int) < (m : Int) := by omega
          have hke : k = m := by omega
          rw [hke] at hrl
          have HR11 := Lib.hid hrl
          have c0 := hrl.box.cells1
          clear hrl hke
          go_wp2_with fail
          generalize wr = w11 at *
          refine (probs_none B b _ _ HR11.out.aud rfl).mono ?_
          rintro e w12 ⟨⟨a12, c12, rfl⟩, hb12⟩
          have HR12 := Lib.hid (HR11.out.keepB hb12)
          clear hb12 HR11 c0
          go_wp2_with fail
          refine (sd_clo w B b ba bh 0 how (epQ (epG m)) _ _ HR12.out (by decide) (fun W => ep_last m W hm0 hm1) (small_ep _ (Nat.zero_le _))).mono ?_
          rintro e w13 ⟨rfl, hr13⟩
          have HR13 := Lib.hid hr13
          clear hr13 HR12
          have c0 := HR13.out.box.cells1
          go_wp2_with fail
          refine (probs_one B b _ (probL 0 againW) _ HR13.out.aud (by rw [AudS.put_l]; rfl)).mono ?_
          rintro e w14 ⟨g14, c14, rfl, hc14, hb14⟩
          have HB14 := Lib.hid (HR13.out.keepB hb14).below
          rw [prob_lit 0 (by decide), show strV (UInt8.ofNat (48 + 0) :: 32 :: againW) = .string ⟨#[48, 32, 97, 103, 97, 105, 110]⟩ from rfl] at hc14
          clear hb14 HR13 c0
          go_wp2_with fail
          go_ret
          exact ⟨rfl, HB14.out⟩
end Go.Proofs.YtbppgicdmkkmnaaDoor
