/-
  AuditFinds answers true: ways 3 to 5.
-/
import Derived.Test.YtbppgicdmkkmnaaDoorAuFindsA
set_option linter.unusedVariables false
set_option linter.unusedSimpArgs false
namespace Go.Proofs.YtbppgicdmkkmnaaDoor
open Go.RowKit

set_option maxRecDepth 100000 in
set_option maxHeartbeats 2000000 in
theorem finds_3 (a how n : Int) (w : World) (hk : how % 8 = 3) :
    Calls Tryd.prog 3 #[.int .i64 a, .int .i64 how, .int .i64 n] w fun e w' => e = .returned (.bool true) ∧ Below w.heap.size w w' := by
  obtain ⟨m, hm⟩ : ∃ m : Nat, 1 + n % 16 = (m : Int) := ⟨(1 + n % 16).toNat, by omega⟩
  have hm0 : 1 ≤ m := by omega
  have hm1 : m ≤ 16 := by omega
  obtain ⟨i, hi⟩ : ∃ i : Nat, a % 2 = (i : Int) := ⟨(a % 2).toNat, by omega⟩
  have hi1 : i < 2 := by omega
  have hlt : i < 2 := hi1
  have hlt' : 1 - i < 2 := by omega
  have HM := Lib.hid hm
  have HI := Lib.hid hi
  clear hm hi
  go_enter Tryd.func3, Tryd.ntmps3
  go_wp2_with fail
  have hbh := BoxAt.new w 3 [.int .i64 a]
  have hb0 := (Below.refl w.heap.size w).alloc (Nat.le_refl _) (.cells #[.int .i64 a] 3)
  have HH0 := Lib.hid hbh
  have HB0 := Lib.hid hb0
  clear hbh hb0
  generalize w.alloc _ = w1 at *
  refine (awake21 w1).mono ?_
  rintro e w2 ⟨rfl, hb2⟩
  have HH2 := Lib.hid (HH0.out.below hb2 HH0.out.lt)
  have HB2 := Lib.hid (HB0.out.trans (hb2.mono HB0.out.size))
  clear hb2 HH0 HB0
  have k0 := HH2.out.cells1
  have f0 := HH2.out.frozs1
  have HHE := Lib.hid (HH2.out.set 0 (.int .i64 (i : Int)))
  have hb3 := HB2.out.setCell (show w.heap.size ≤ (⟨w.heap.size, 0, none⟩ : Addr).block from Nat.le_refl _) (.int .i64 (i : Int))
  have HB3 := Lib.hid hb3
  clear hb3
  go_wp2_with fail
  rw [HM.out, HI.out]
  clear k0 f0 HH2 HB2
  have hz3 : (w2.setCell ⟨w.heap.size, 0, none⟩ (.int .i64 (i : Int))).heap.size = w2.heap.size := by simp
  rw [← hz3]
  clear hz3
  generalize w2.setCell ⟨w.heap.size, 0, none⟩ (.int .i64 (i : Int)) = w3 at *
  have HE4 := Lib.hid (HHE.out.alloc (o := .cells #[.int .u32 16777213] 24))
  have HS4 := Lib.hid (BoxAt.new w3 24 [.int .u32 16777213])
  have HB4 := Lib.hid (HB3.out.alloc HB3.out.size (.cells #[.int .u32 16777213] 24))
  have HLT : Hid (w.heap.size < (w3.alloc (.cells #[.int .u32 16777213] 24)).heap.size) := Lib.hid HE4.out.lt
  have HNE : Hid (w.heap.size ≠ w3.heap.size) := Lib.hid (Nat.ne_of_lt HHE.out.lt)
  clear HHE HB3
  generalize w3.alloc _ = w4 at *
  generalize w3.heap.size = bS at *
  refine (new_any 16777213 16777213 w4 ⟨by decide, by decide⟩ ⟨by decide, by decide⟩).mono ?_
  rintro e w5 ⟨b, rfl, ha5, hb5⟩
  have HR5 : Hid (FiRel w w4.heap.size b w.heap.size bS (i : Int) (newP 16777213 16777213) w5) := Lib.hid ⟨ha5, HE4.out.below hb5 HE4.out.lt, HS4.out.below hb5 HS4.out.lt, HB4.out.trans (hb5.mono HB4.out.size), HB4.out.size, hb5.size, HLT.out, HNE.out⟩
  clear ha5 hb5 HE4 HS4 HB4
  generalize w4.heap.size = B at *
  obtain ⟨bE, hbE⟩ : ∃ bE, bE = w.heap.size := ⟨_, rfl⟩
  rw [← hbE] at HR5 ⊢
  have HBE := Lib.hid (Nat.le_of_eq hbE.symm)
  clear hbE
  go_wp2_with fail
  have HRC := Lib.hid (HR5.out.keepB (Below.refl _ _).drew)
  clear HR5
  go_region_held3 (fun w' => w'.cell? ⟨bE, 0, none⟩ = some (.int .i64 (i : Int)) ∧ w'.cell? ⟨bS, 0, none⟩ = some (.int .u32 16777213)) (first | (with_reducible exact ⟨HRC.out.e.cells1, HRC.out.s.cells1⟩) | (with_reducible exact ⟨(HRC.out.al _).e.cells1, (HRC.out.al _).s.cells1⟩)) (first | (go_at_call 8; refine (add_num _ _ _).mono ?_; rintro e w' ⟨rfl, rfl⟩) | (go_at_call 9; refine (came_rec (i : Int) 6 ((16777213 + (m : Int)) % 16777216) 0 none 0 0 bE _ HRC.out.e).mono ?_; rintro e w' ⟨rfl, hb⟩; have HRC := Lib.hid (HRC.out.keepB hb); clear hb) | (go_at_call 10; refine (add_two B b _ _ i i ⟨(i : Int), 2, 6, ((16777213 + (m : Int)) % 16777216), 0, none, 0, 0, 0, 0, 0⟩ ⟨(i : Int), 5, 0, 0, 0, none, 0, 0, 6, 0, 0⟩ _ _ _ _ (HRC.out.al _).aud (by unfold RecsAt; exact BoxAt.new _ 36 [.int .i64 (i : Int), .int .i64 2, .int .i64 6, .int .i64 0, .int .u32 ((16777213 + (m : Int)) % 16777216), .int .u32 0, .int .u32 0, .slice none 0 0, .bool false, .string ⟨#[]⟩, .int .i64 0, .string ⟨#[]⟩, .bool false, .int .u8 0, .int .i64 0, .int .i64 0, .string ⟨#[]⟩, .int .i64 0, .int .i64 (i : Int), .int .i64 5, .int .i64 0, .int .i64 0, .int .u32 0, .int .u32 0, .int .u32 0, .slice none 0 0, .bool false, .string ⟨#[]⟩, .int .i64 6, .string ⟨#[]⟩, .bool false, .int .u8 0, .int .i64 0, .int .i64 0, .string ⟨#[]⟩, .int .i64 0]) hlt hlt (fi_grant i (m : Int) (by omega) (by omega) _ _) (fi_conf i (m : Int) _ _) (small_new _ _) (HRC.out.al _).size).mono ?_; rintro e w' ⟨rfl, hr⟩; have HRC := Lib.hid ((HRC.out.al _).step hr); clear hr))
  have HR7 := HRC
  clear HRC
  go_wp2_with fail
  go_loopw [45] (fun ix wx => ∃ k : Nat, ix = .int .i64 (k : Int) ∧ k ≤ m ∧ FiRel w B b bE bS (i : Int) (fiQ i (fiG (m : Int) k)) wx) (fun ix _ => m - (intOf ix).toNat)
  case atStart => exact ⟨0, rfl, by omega, HR7.out⟩
  case round =>
    obtain ⟨k, rfl, hk, hrl⟩ := hrel
    by_cases hkm : k < m
    · have hkm1 : (k : Int) < (m : Int) := by omega
      have HRL := Lib.hid hrl
      clear hrl
      go_wp2_with fail
      refine (sd_rec (i : Int) (k : Int) bE bS _ HRL.out.e HRL.out.s).mono ?_
      rintro e w9 ⟨rfl, hb9⟩
      have HR9 := Lib.hid (HRL.out.keepB hb9)
      clear hb9 HRL
      go_wp2_with fail
      have HRX : Hid (RecsAt (w9.alloc (.cells #[.int .i64 (i : Int), .int .i64 1, .int .i64 8, .int .i64 0, .int .u32 ((16777213 + (k : Int)) % 16777216), .int .u32 0, .int .u32 0, .slice none 0 0, .bool false, .string ⟨#[]⟩, .int .i64 0, .string ⟨#[]⟩, .bool false, .int .u8 0, .int .i64 0, .int .i64 0, .string ⟨#[]⟩, .int .i64 0] 36)) w9.heap.size [⟨(i : Int), 1, 8, ((16777213 + (k : Int)) % 16777216), 0, none, 0, 0, 0, 0, 0⟩]) := Lib.hid (by unfold RecsAt; exact BoxAt.new w9 36 [.int .i64 (i : Int), .int .i64 1, .int .i64 8, .int .i64 0, .int .u32 ((16777213 + (k : Int)) % 16777216), .int .u32 0, .int .u32 0, .slice none 0 0, .bool false, .string ⟨#[]⟩, .int .i64 0, .string ⟨#[]⟩, .bool false, .int .u8 0, .int .i64 0, .int .i64 0, .string ⟨#[]⟩, .int .i64 0])
      have HRA := Lib.hid (HR9.out.al (.cells #[.int .i64 (i : Int), .int .i64 1, .int .i64 8, .int .i64 0, .int .u32 ((16777213 + (k : Int)) % 16777216), .int .u32 0, .int .u32 0, .slice none 0 0, .bool false, .string ⟨#[]⟩, .int .i64 0, .string ⟨#[]⟩, .bool false, .int .u8 0, .int .i64 0, .int .i64 0, .string ⟨#[]⟩, .int .i64 0] 36))
      clear HR9
      generalize w9.alloc _ = w21 at *
      generalize w9.heap.size = g21 at *
      refine (add_one B b g21 _ i _ _ _ w21 HRA.out.aud HRX.out hlt (fi_sd i (m : Int) k (by omega) (by omega) w21 false) (fi_small i _ (Nat.zero_le _)) HRA.out.size).mono ?_
      rintro e w21b ⟨rfl, hr⟩
      have HR10 := Lib.hid (HRA.out.step hr)
      clear hr HRX HRA
      go_wp2_with fail
      go_roundw
      case rel => exact ⟨k + 1, by go_num, by omega, HR10.out⟩
      case measure => simp [intOf]; omega
    · have hkm1 : ¬ (k : Int) < (m : Int) := by omega
      have hke : k = m := by omega
      rw [hke] at hrl
      have HR11 := Lib.hid hrl
      clear hrl hke
      go_wp2_with fail
      refine (probs_none B b _ _ HR11.out.aud (fiQ_l i _)).mono ?_
      rintro e w12 ⟨⟨a12, c12, rfl⟩, hb12⟩
      have HR12 := Lib.hid (HR11.out.keepB hb12)
      clear hb12 HR11 hkm hkm1
      generalize wr = w11 at *
      have c0 := HR12.out.e.cells1
      have c1 := HR12.out.s.cells1
      go_wp2_with fail
      have HRC := Lib.hid (HR12.out.keepB (Below.refl _ _).drew)
      go_region_held3 (fun w' => w'.cell? ⟨bE, 0, none⟩ = some (.int .i64 (i : Int)) ∧ w'.cell? ⟨bS, 0, none⟩ = some (.int .u32 16777213)) (first | (with_reducible exact ⟨HRC.out.e.cells1, HRC.out.s.cells1⟩) | (with_reducible exact ⟨(HRC.out.al _).e.cells1, (HRC.out.al _).s.cells1⟩)) (first | (go_at_call 8; refine (add_num _ _ _).mono ?_; rintro e w' ⟨rfl, rfl⟩) | (go_at_call 9; refine (came_rec (i : Int) 11 16777213 ((16777213 + (m : Int)) % 16777216) none 0 0 bE _ HRC.out.e).mono ?_; rintro e w' ⟨rfl, hb⟩; have HRC := Lib.hid (HRC.out.keepB hb); clear hb) | (go_at_call 7; refine (sd_rec (i : Int) (m : Int) bE bS _ HRC.out.e HRC.out.s).mono ?_; rintro e w' ⟨rfl, hb⟩; have HRC := Lib.hid (HRC.out.keepB hb); clear hb) | (go_at_call 10; refine (add_two B b _ _ i i ⟨(i : Int), 2, 11, 16777213, ((16777213 + (m : Int)) % 16777216), none, 0, 0, 0, 0, 0⟩ ⟨(i : Int), 1, 8, ((16777213 + (m : Int)) % 16777216), 0, none, 0, 0, 0, 0, 0⟩ _ _ _ _ (HRC.out.al _).aud (by unfold RecsAt; exact BoxAt.new _ 36 [.int .i64 (i : Int), .int .i64 2, .int .i64 11, .int .i64 0, .int .u32 16777213, .int .u32 0, .int .u32 ((16777213 + (m : Int)) % 16777216), .slice none 0 0, .bool false, .string ⟨#[]⟩, .int .i64 0, .string ⟨#[]⟩, .bool false, .int .u8 0, .int .i64 0, .int .i64 0, .string ⟨#[]⟩, .int .i64 0, .int .i64 (i : Int), .int .i64 1, .int .i64 8, .int .i64 0, .int .u32 ((16777213 + (m : Int)) % 16777216), .int .u32 0, .int .u32 0, .slice none 0 0, .bool false, .string ⟨#[]⟩, .int .i64 0, .string ⟨#[]⟩, .bool false, .int .u8 0, .int .i64 0, .int .i64 0, .string ⟨#[]⟩, .int .i64 0]) hlt hlt (by rw [fi_refs _ _ (show (1 : Int) ≠ 5 by decide)]; exact fi_stat3 i m _) (fi_data i (fiC3 m) (m : Int) (fiC3_begun m) _ _) (fi_small i _ (Nat.zero_le _)) (HRC.out.al _).size).mono ?_; rintro e w' ⟨rfl, hr⟩; have HRC := Lib.hid ((HRC.out.al _).step hr); clear hr))
      all_goals
        have HR15 := HRC
        clear HRC
        try clear HR12
        go_wp2_with fail
        have hf := HR15.out
        refine (probs_one B b _ (probL i creditW) _ HR15.out.aud (c3_l i m hm0 hm1)).mono ?_
        rintro e w14 ⟨g14, c14, rfl, hc14, hb14⟩
        have HR14 := Lib.hid (HR15.out.keepB hb14)
        have c0 := HR14.out.e.cells1
        clear hb14 hf HR15
        go_wp2_with fail
        rcases (by omega : i = 0 ∨ i = 1) with rfl | rfl
        · rw [prob_lit 0 (by decide), show strV (UInt8.ofNat (48 + 0) :: 32 :: creditW) = .string ⟨#[48, 32, 99, 114, 101, 100, 105, 116]⟩ from rfl] at hc14
          have kw1 : IntKind.i64.wrap 48 = 48 := by decide
          have kw2 : IntKind.u8.wrap 48 = 48 := by decide
          have kq1 : (⟨#[48]⟩ : ByteArray) ++ ⟨#[32]⟩ = ⟨#[48, 32]⟩ := by decide
          have kq2 : (⟨#[48, 32]⟩ : ByteArray) ++ ⟨#[99, 114, 101, 100, 105, 116]⟩ = ⟨#[48, 32, 99, 114, 101, 100, 105, 116]⟩ := by decide
          have kcv := conv1
          have kcd := conv1d
          have hbA := HR14.out.below.drew.alloc (Nat.le_trans HR14.out.ge HR14.out.size) (.cells #[.int .u8 48] 5)
          have HBA := Lib.hid hbA
          have c0A : Hid (((w14.drew).alloc (.cells #[.int .u8 48] 5)).cell? ⟨bE, 0, none⟩ = some (.int .i64 0)) := Lib.hid (HR14.out.e.drew.alloc (o := .cells #[.int .u8 48] 5)).cells1
          have c14A : Hid (((w14.drew).alloc (.cells #[.int .u8 48] 5)).cell? ⟨g14, 0, none⟩ = some (.string ⟨#[48, 32, 99, 114, 101, 100, 105, 116]⟩)) := Lib.hid (cell_al _ (show w14.drew.cell? _ = _ from hc14))
          clear hbA
          refine wp_region_noPanic ?_
          refine wp_region_held_drew (S := (fun w' => w'.cell? ⟨g14, 0, none⟩ = some (.string ⟨#[48, 32, 99, 114, 101, 100, 105, 116]⟩) ∧ w'.cell? ⟨bE, 0, none⟩ = some (.int .i64 0))) (by kernel_rfl) ⟨hc14, c0⟩ (fun hHeld => ?_)
          refine wpAnyH_take (i := 0) (oi := ⟨some 178, _, _, _, _, _⟩) (v := ?_) rfl (by kernel_rfl) (by kernel_rfl) (by kernel_rfl) (fun _ _ _ h => h) (Or.inl ⟨by kernel_rfl, ?_⟩) (by assumption) ?_
          rotate_left 1
          · intro w hSw; (try dsimp only at hSw); go_simp; try (with_reducible rfl)
          try simp only [Act.put, List.setIfInBounds_toArray, List.set_cons_zero, List.set_cons_succ]
          refine wpAnyH_take (i := 1) (oi := ⟨some 179, _, _, _, _, _⟩) (v := ?_) rfl (by kernel_rfl) (by kernel_rfl) (by kernel_rfl) (fun _ _ _ h => h) (Or.inl ⟨by kernel_rfl, ?_⟩) (by assumption) ?_
          rotate_left 1
          · intro w hSw; (try dsimp only at hSw); go_simp; try (with_reducible rfl)
          try simp only [Act.put, List.setIfInBounds_toArray, List.set_cons_zero, List.set_cons_succ]
          refine wpAnyH_take (i := 2) (oi := ⟨some 180, _, _, _, _, _⟩) (v := ?_) rfl (by kernel_rfl) (by kernel_rfl) (by kernel_rfl) (fun _ _ _ h => h) (Or.inl ⟨by kernel_rfl, ?_⟩) (by assumption) ?_
          rotate_left 1
          · intro w hSw; (try dsimp only at hSw); go_simp; try (with_reducible rfl)
          try simp only [Act.put, List.setIfInBounds_toArray, List.set_cons_zero, List.set_cons_succ]
          refine wpAnyH_take (i := 3) (oi := ⟨some 181, _, _, _, _, _⟩) (v := ?_) rfl (by kernel_rfl) (by kernel_rfl) (by kernel_rfl) (fun _ _ _ h => h) (Or.inl ⟨by kernel_rfl, ?_⟩) (by assumption) ?_
          rotate_left 1
          · intro w hSw; (try dsimp only at hSw); go_simp; try (with_reducible rfl)
          try simp only [Act.put, List.setIfInBounds_toArray, List.set_cons_zero, List.set_cons_succ]
          refine wpAnyH_take (i := 4) (oi := ⟨some 182, _, _, _, _, _⟩) (v := ?_) rfl (by kernel_rfl) (by kernel_rfl) (by kernel_rfl) (fun _ _ _ h => h) (Or.inl ⟨by kernel_rfl, ?_⟩) (by assumption) ?_
          rotate_left 1
          · intro w hSw; (try dsimp only at hSw); go_simp; try (with_reducible rfl)
          try simp only [Act.put, List.setIfInBounds_toArray, List.set_cons_zero, List.set_cons_succ]
          refine wpAnyH_take (i := 5) (oi := ⟨some 183, _, _, _, _, _⟩) (v := ?_) rfl (by kernel_rfl) (by kernel_rfl) (by kernel_rfl) (fun _ _ _ h => h) (Or.inl ⟨by kernel_rfl, ?_⟩) (by assumption) ?_
          rotate_left 1
          · intro w hSw; (try dsimp only at hSw); go_simp; try (with_reducible rfl)
          try simp only [Act.put, List.setIfInBounds_toArray, List.set_cons_zero, List.set_cons_succ]
          refine wpAnyH_take (i := 6) (oi := ⟨some 184, _, _, _, _, _⟩) (v := ?_) rfl (by kernel_rfl) (by kernel_rfl) (by kernel_rfl) (fun _ _ _ h => h) (Or.inl ⟨by kernel_rfl, ?_⟩) (by assumption) ?_
          rotate_left 1
          · intro w hSw; (try dsimp only at hSw); go_simp; try (with_reducible rfl)
          try simp only [Act.put, List.setIfInBounds_toArray, List.set_cons_zero, List.set_cons_succ]
          refine wpAnyH_take (i := 7) (oi := ⟨some 185, _, _, _, _, _⟩) (v := ?_) rfl (by kernel_rfl) (by kernel_rfl) (by kernel_rfl) (fun _ _ _ h => h) (Or.inl ⟨by kernel_rfl, ?_⟩) (by assumption) ?_
          rotate_left 1
          · intro w hSw; (try dsimp only at hSw); go_simp; try (with_reducible rfl)
          try simp only [Act.put, List.setIfInBounds_toArray, List.set_cons_zero, List.set_cons_succ]
          refine wpAnyH_take (i := 8) (oi := ⟨some 186, _, _, _, _, _⟩) (v := ?_) rfl (by kernel_rfl) (by kernel_rfl) (by kernel_rfl) (fun _ _ _ h => h) (Or.inl ⟨by kernel_rfl, ?_⟩) (by assumption) ?_
          rotate_left 1
          · intro w hSw; (try dsimp only at hSw); go_simp; try (with_reducible rfl)
          try simp only [Act.put, List.setIfInBounds_toArray, List.set_cons_zero, List.set_cons_succ]
          refine wpAnyH_take (i := 9) (oi := ⟨some 187, _, _, _, _, _⟩) (v := ?_) rfl (by kernel_rfl) (by kernel_rfl) (by kernel_rfl) (fun _ _ _ h => h) (Or.inl ⟨by kernel_rfl, ?_⟩) (by assumption) ?_
          rotate_left 1
          · intro w hSw; (try dsimp only at hSw); go_simp; try (with_reducible rfl)
          try simp only [Act.put, List.setIfInBounds_toArray, List.set_cons_zero, List.set_cons_succ]
          refine wpAnyH_take (i := 13) (oi := ⟨some 191, _, _, _, _, _⟩) (v := ?_) rfl (by kernel_rfl) (by kernel_rfl) (by kernel_rfl) (fun _ _ _ h => h) (Or.inl ⟨by kernel_rfl, ?_⟩) (by assumption) ?_
          rotate_left 1
          · intro w hSw; (try dsimp only at hSw); go_simp; try (with_reducible rfl)
          try simp only [Act.put, List.setIfInBounds_toArray, List.set_cons_zero, List.set_cons_succ]
          refine wpAnyH_ready (rs := [10]) (by kernel_rfl) (by simp) ?_
          refine AllReadyH.cons (o := ⟨some 188, _, _, _, _, _⟩) rfl (fun K hK => ?_) AllReadyH.nil
          go_simp
          refine hK.out _ _ (by exact ⟨c14A.out, c0A.out⟩) (fun hHeld => ?_)
          clear hK K
          try simp only [Act.put, List.setIfInBounds_toArray, List.set_cons_zero, List.set_cons_succ]
          refine wpAnyH_ready (rs := [11]) (by kernel_rfl) (by simp) ?_
          refine AllReadyH.cons (o := ⟨some 189, _, _, _, _, _⟩) rfl (fun K hK => ?_) AllReadyH.nil
          go_simp
          refine hK.out _ _ (by exact ⟨c14A.out, c0A.out⟩) (fun hHeld => ?_)
          clear hK K
          try simp only [Act.put, List.setIfInBounds_toArray, List.set_cons_zero, List.set_cons_succ]
          refine wpAnyH_take (i := 12) (oi := ⟨some 190, _, _, _, _, _⟩) (v := ?_) rfl (by kernel_rfl) (by kernel_rfl) (by kernel_rfl) (fun _ _ _ h => h) (Or.inl ⟨by kernel_rfl, ?_⟩) (by assumption) ?_
          rotate_left 1
          · intro w hSw; (try dsimp only at hSw); go_simp; try (with_reducible rfl)
          try simp only [Act.put, List.setIfInBounds_toArray, List.set_cons_zero, List.set_cons_succ]
          refine wpAnyH_take (i := 14) (oi := ⟨some 192, _, _, _, _, _⟩) (v := ?_) rfl (by kernel_rfl) (by kernel_rfl) (by kernel_rfl) (fun _ _ _ h => h) (Or.inl ⟨by kernel_rfl, ?_⟩) (by assumption) ?_
          rotate_left 1
          · intro w hSw; (try dsimp only at hSw); go_simp; try (with_reducible rfl)
          try simp only [Act.put, List.setIfInBounds_toArray, List.set_cons_zero, List.set_cons_succ]
          refine wpAnyH_take (i := 15) (oi := ⟨some 193, _, _, _, _, _⟩) (v := ?_) rfl (by kernel_rfl) (by kernel_rfl) (by kernel_rfl) (fun _ _ _ h => h) (Or.inl ⟨by kernel_rfl, ?_⟩) (by assumption) ?_
          rotate_left 1
          · intro w hSw; (try dsimp only at hSw); go_simp; try (with_reducible rfl)
          try simp only [Act.put, List.setIfInBounds_toArray, List.set_cons_zero, List.set_cons_succ]
          refine wpAnyH_take (i := 16) (oi := ⟨some 194, _, _, _, _, _⟩) (v := ?_) rfl (by kernel_rfl) (by kernel_rfl) (by kernel_rfl) (fun _ _ _ h => h) (Or.inl ⟨by kernel_rfl, ?_⟩) (by assumption) ?_
          rotate_left 1
          · intro w hSw; (try dsimp only at hSw); go_simp; try (with_reducible rfl)
          try simp only [Act.put, List.setIfInBounds_toArray, List.set_cons_zero, List.set_cons_succ]
          refine wpAnyH_take (i := 17) (oi := ⟨some 6, _, _, _, _, _⟩) (v := ?_) rfl (by kernel_rfl) (by kernel_rfl) (by kernel_rfl) (fun _ _ _ h => h) (Or.inl ⟨by kernel_rfl, ?_⟩) (by assumption) ?_
          rotate_left 1
          · intro w hSw; (try dsimp only at hSw); go_simp; try (with_reducible rfl)
          try simp only [Act.put, List.setIfInBounds_toArray, List.set_cons_zero, List.set_cons_succ]
          refine wpAnyH_done (by kernel_rfl) ?_ _
          refine NoPanic.normal ?_
          go_wp2_with fail
          go_ret
          exact ⟨rfl, HBA.out⟩
        · rw [prob_lit 1 (by decide), show strV (UInt8.ofNat (48 + 1) :: 32 :: creditW) = .string ⟨#[49, 32, 99, 114, 101, 100, 105, 116]⟩ from rfl] at hc14
          have kw1 : IntKind.i64.wrap 49 = 49 := by decide
          have kw2 : IntKind.u8.wrap 49 = 49 := by decide
          have kq1 : (⟨#[49]⟩ : ByteArray) ++ ⟨#[32]⟩ = ⟨#[49, 32]⟩ := by decide
          have kq2 : (⟨#[49, 32]⟩ : ByteArray) ++ ⟨#[99, 114, 101, 100, 105, 116]⟩ = ⟨#[49, 32, 99, 114, 101, 100, 105, 116]⟩ := by decide
          have kcv := conv1
          have kcd := conv1d
          have hbA := HR14.out.below.drew.alloc (Nat.le_trans HR14.out.ge HR14.out.size) (.cells #[.int .u8 49] 5)
          have HBA := Lib.hid hbA
          have c0A : Hid (((w14.drew).alloc (.cells #[.int .u8 49] 5)).cell? ⟨bE, 0, none⟩ = some (.int .i64 1)) := Lib.hid (HR14.out.e.drew.alloc (o := .cells #[.int .u8 49] 5)).cells1
          have c14A : Hid (((w14.drew).alloc (.cells #[.int .u8 49] 5)).cell? ⟨g14, 0, none⟩ = some (.string ⟨#[49, 32, 99, 114, 101, 100, 105, 116]⟩)) := Lib.hid (cell_al _ (show w14.drew.cell? _ = _ from hc14))
          clear hbA
          refine wp_region_noPanic ?_
          refine wp_region_held_drew (S := (fun w' => w'.cell? ⟨g14, 0, none⟩ = some (.string ⟨#[49, 32, 99, 114, 101, 100, 105, 116]⟩) ∧ w'.cell? ⟨bE, 0, none⟩ = some (.int .i64 1))) (by kernel_rfl) ⟨hc14, c0⟩ (fun hHeld => ?_)
          refine wpAnyH_take (i := 0) (oi := ⟨some 178, _, _, _, _, _⟩) (v := ?_) rfl (by kernel_rfl) (by kernel_rfl) (by kernel_rfl) (fun _ _ _ h => h) (Or.inl ⟨by kernel_rfl, ?_⟩) (by assumption) ?_
          rotate_left 1
          · intro w hSw; (try dsimp only at hSw); go_simp; try (with_reducible rfl)
          try simp only [Act.put, List.setIfInBounds_toArray, List.set_cons_zero, List.set_cons_succ]
          refine wpAnyH_take (i := 1) (oi := ⟨some 179, _, _, _, _, _⟩) (v := ?_) rfl (by kernel_rfl) (by kernel_rfl) (by kernel_rfl) (fun _ _ _ h => h) (Or.inl ⟨by kernel_rfl, ?_⟩) (by assumption) ?_
          rotate_left 1
          · intro w hSw; (try dsimp only at hSw); go_simp; try (with_reducible rfl)
          try simp only [Act.put, List.setIfInBounds_toArray, List.set_cons_zero, List.set_cons_succ]
          refine wpAnyH_take (i := 2) (oi := ⟨some 180, _, _, _, _, _⟩) (v := ?_) rfl (by kernel_rfl) (by kernel_rfl) (by kernel_rfl) (fun _ _ _ h => h) (Or.inl ⟨by kernel_rfl, ?_⟩) (by assumption) ?_
          rotate_left 1
          · intro w hSw; (try dsimp only at hSw); go_simp; try (with_reducible rfl)
          try simp only [Act.put, List.setIfInBounds_toArray, List.set_cons_zero, List.set_cons_succ]
          refine wpAnyH_take (i := 3) (oi := ⟨some 181, _, _, _, _, _⟩) (v := ?_) rfl (by kernel_rfl) (by kernel_rfl) (by kernel_rfl) (fun _ _ _ h => h) (Or.inl ⟨by kernel_rfl, ?_⟩) (by assumption) ?_
          rotate_left 1
          · intro w hSw; (try dsimp only at hSw); go_simp; try (with_reducible rfl)
          try simp only [Act.put, List.setIfInBounds_toArray, List.set_cons_zero, List.set_cons_succ]
          refine wpAnyH_take (i := 4) (oi := ⟨some 182, _, _, _, _, _⟩) (v := ?_) rfl (by kernel_rfl) (by kernel_rfl) (by kernel_rfl) (fun _ _ _ h => h) (Or.inl ⟨by kernel_rfl, ?_⟩) (by assumption) ?_
          rotate_left 1
          · intro w hSw; (try dsimp only at hSw); go_simp; try (with_reducible rfl)
          try simp only [Act.put, List.setIfInBounds_toArray, List.set_cons_zero, List.set_cons_succ]
          refine wpAnyH_take (i := 5) (oi := ⟨some 183, _, _, _, _, _⟩) (v := ?_) rfl (by kernel_rfl) (by kernel_rfl) (by kernel_rfl) (fun _ _ _ h => h) (Or.inl ⟨by kernel_rfl, ?_⟩) (by assumption) ?_
          rotate_left 1
          · intro w hSw; (try dsimp only at hSw); go_simp; try (with_reducible rfl)
          try simp only [Act.put, List.setIfInBounds_toArray, List.set_cons_zero, List.set_cons_succ]
          refine wpAnyH_take (i := 6) (oi := ⟨some 184, _, _, _, _, _⟩) (v := ?_) rfl (by kernel_rfl) (by kernel_rfl) (by kernel_rfl) (fun _ _ _ h => h) (Or.inl ⟨by kernel_rfl, ?_⟩) (by assumption) ?_
          rotate_left 1
          · intro w hSw; (try dsimp only at hSw); go_simp; try (with_reducible rfl)
          try simp only [Act.put, List.setIfInBounds_toArray, List.set_cons_zero, List.set_cons_succ]
          refine wpAnyH_take (i := 7) (oi := ⟨some 185, _, _, _, _, _⟩) (v := ?_) rfl (by kernel_rfl) (by kernel_rfl) (by kernel_rfl) (fun _ _ _ h => h) (Or.inl ⟨by kernel_rfl, ?_⟩) (by assumption) ?_
          rotate_left 1
          · intro w hSw; (try dsimp only at hSw); go_simp; try (with_reducible rfl)
          try simp only [Act.put, List.setIfInBounds_toArray, List.set_cons_zero, List.set_cons_succ]
          refine wpAnyH_take (i := 8) (oi := ⟨some 186, _, _, _, _, _⟩) (v := ?_) rfl (by kernel_rfl) (by kernel_rfl) (by kernel_rfl) (fun _ _ _ h => h) (Or.inl ⟨by kernel_rfl, ?_⟩) (by assumption) ?_
          rotate_left 1
          · intro w hSw; (try dsimp only at hSw); go_simp; try (with_reducible rfl)
          try simp only [Act.put, List.setIfInBounds_toArray, List.set_cons_zero, List.set_cons_succ]
          refine wpAnyH_take (i := 9) (oi := ⟨some 187, _, _, _, _, _⟩) (v := ?_) rfl (by kernel_rfl) (by kernel_rfl) (by kernel_rfl) (fun _ _ _ h => h) (Or.inl ⟨by kernel_rfl, ?_⟩) (by assumption) ?_
          rotate_left 1
          · intro w hSw; (try dsimp only at hSw); go_simp; try (with_reducible rfl)
          try simp only [Act.put, List.setIfInBounds_toArray, List.set_cons_zero, List.set_cons_succ]
          refine wpAnyH_take (i := 13) (oi := ⟨some 191, _, _, _, _, _⟩) (v := ?_) rfl (by kernel_rfl) (by kernel_rfl) (by kernel_rfl) (fun _ _ _ h => h) (Or.inl ⟨by kernel_rfl, ?_⟩) (by assumption) ?_
          rotate_left 1
          · intro w hSw; (try dsimp only at hSw); go_simp; try (with_reducible rfl)
          try simp only [Act.put, List.setIfInBounds_toArray, List.set_cons_zero, List.set_cons_succ]
          refine wpAnyH_ready (rs := [10]) (by kernel_rfl) (by simp) ?_
          refine AllReadyH.cons (o := ⟨some 188, _, _, _, _, _⟩) rfl (fun K hK => ?_) AllReadyH.nil
          go_simp
          refine hK.out _ _ (by exact ⟨c14A.out, c0A.out⟩) (fun hHeld => ?_)
          clear hK K
          try simp only [Act.put, List.setIfInBounds_toArray, List.set_cons_zero, List.set_cons_succ]
          refine wpAnyH_ready (rs := [11]) (by kernel_rfl) (by simp) ?_
          refine AllReadyH.cons (o := ⟨some 189, _, _, _, _, _⟩) rfl (fun K hK => ?_) AllReadyH.nil
          go_simp
          refine hK.out _ _ (by exact ⟨c14A.out, c0A.out⟩) (fun hHeld => ?_)
          clear hK K
          try simp only [Act.put, List.setIfInBounds_toArray, List.set_cons_zero, List.set_cons_succ]
          refine wpAnyH_take (i := 12) (oi := ⟨some 190, _, _, _, _, _⟩) (v := ?_) rfl (by kernel_rfl) (by kernel_rfl) (by kernel_rfl) (fun _ _ _ h => h) (Or.inl ⟨by kernel_rfl, ?_⟩) (by assumption) ?_
          rotate_left 1
          · intro w hSw; (try dsimp only at hSw); go_simp; try (with_reducible rfl)
          try simp only [Act.put, List.setIfInBounds_toArray, List.set_cons_zero, List.set_cons_succ]
          refine wpAnyH_take (i := 14) (oi := ⟨some 192, _, _, _, _, _⟩) (v := ?_) rfl (by kernel_rfl) (by kernel_rfl) (by kernel_rfl) (fun _ _ _ h => h) (Or.inl ⟨by kernel_rfl, ?_⟩) (by assumption) ?_
          rotate_left 1
          · intro w hSw; (try dsimp only at hSw); go_simp; try (with_reducible rfl)
          try simp only [Act.put, List.setIfInBounds_toArray, List.set_cons_zero, List.set_cons_succ]
          refine wpAnyH_take (i := 15) (oi := ⟨some 193, _, _, _, _, _⟩) (v := ?_) rfl (by kernel_rfl) (by kernel_rfl) (by kernel_rfl) (fun _ _ _ h => h) (Or.inl ⟨by kernel_rfl, ?_⟩) (by assumption) ?_
          rotate_left 1
          · intro w hSw; (try dsimp only at hSw); go_simp; try (with_reducible rfl)
          try simp only [Act.put, List.setIfInBounds_toArray, List.set_cons_zero, List.set_cons_succ]
          refine wpAnyH_take (i := 16) (oi := ⟨some 194, _, _, _, _, _⟩) (v := ?_) rfl (by kernel_rfl) (by kernel_rfl) (by kernel_rfl) (fun _ _ _ h => h) (Or.inl ⟨by kernel_rfl, ?_⟩) (by assumption) ?_
          rotate_left 1
          · intro w hSw; (try dsimp only at hSw); go_simp; try (with_reducible rfl)
          try simp only [Act.put, List.setIfInBounds_toArray, List.set_cons_zero, List.set_cons_succ]
          refine wpAnyH_take (i := 17) (oi := ⟨some 6, _, _, _, _, _⟩) (v := ?_) rfl (by kernel_rfl) (by kernel_rfl) (by kernel_rfl) (fun _ _ _ h => h) (Or.inl ⟨by kernel_rfl, ?_⟩) (by assumption) ?_
          rotate_left 1
          · intro w hSw; (try dsimp only at hSw); go_simp; try (with_reducible rfl)
          try simp only [Act.put, List.setIfInBounds_toArray, List.set_cons_zero, List.set_cons_succ]
          refine wpAnyH_done (by kernel_rfl) ?_ _
          refine NoPanic.normal ?_
          go_wp2_with fail
          go_ret
          exact ⟨rfl, HBA.out⟩
set_option maxRecDepth 100000 in
set_option maxHeartbeats 2000000 in
theorem finds_4 (a how n : Int) (w : World) (hk : how % 8 = 4) :
    Calls Tryd.prog 3 #[.int .i64 a, .int .i64 how, .int .i64 n] w fun e w' => e = .returned (.bool true) ∧ Below w.heap.size w w' := by
  obtain ⟨m, hm⟩ : ∃ m : Nat, 1 + n % 16 = (m : Int) := ⟨(1 + n % 16).toNat, by omega⟩
  have hm0 : 1 ≤ m := by omega
  have hm1 : m ≤ 16 := by omega
  obtain ⟨i, hi⟩ : ∃ i : Nat, a % 2 = (i : Int) := ⟨(a % 2).toNat, by omega⟩
  have hi1 : i < 2 := by omega
  have hlt : i < 2 := hi1
  have hlt' : 1 - i < 2 := by omega
  have HM := Lib.hid hm
  have HI := Lib.hid hi
  clear hm hi
  go_enter Tryd.func3, Tryd.ntmps3
  go_wp2_with fail
  have hbh := BoxAt.new w 3 [.int .i64 a]
  have hb0 := (Below.refl w.heap.size w).alloc (Nat.le_refl _) (.cells #[.int .i64 a] 3)
  have HH0 := Lib.hid hbh
  have HB0 := Lib.hid hb0
  clear hbh hb0
  generalize w.alloc _ = w1 at *
  refine (awake21 w1).mono ?_
  rintro e w2 ⟨rfl, hb2⟩
  have HH2 := Lib.hid (HH0.out.below hb2 HH0.out.lt)
  have HB2 := Lib.hid (HB0.out.trans (hb2.mono HB0.out.size))
  clear hb2 HH0 HB0
  have k0 := HH2.out.cells1
  have f0 := HH2.out.frozs1
  have HHE := Lib.hid (HH2.out.set 0 (.int .i64 (i : Int)))
  have hb3 := HB2.out.setCell (show w.heap.size ≤ (⟨w.heap.size, 0, none⟩ : Addr).block from Nat.le_refl _) (.int .i64 (i : Int))
  have HB3 := Lib.hid hb3
  clear hb3
  go_wp2_with fail
  rw [HM.out, HI.out]
  clear k0 f0 HH2 HB2
  have hz3 : (w2.setCell ⟨w.heap.size, 0, none⟩ (.int .i64 (i : Int))).heap.size = w2.heap.size := by simp
  rw [← hz3]
  clear hz3
  generalize w2.setCell ⟨w.heap.size, 0, none⟩ (.int .i64 (i : Int)) = w3 at *
  have HE4 := Lib.hid (HHE.out.alloc (o := .cells #[.int .u32 16777213] 24))
  have HS4 := Lib.hid (BoxAt.new w3 24 [.int .u32 16777213])
  have HB4 := Lib.hid (HB3.out.alloc HB3.out.size (.cells #[.int .u32 16777213] 24))
  have HLT : Hid (w.heap.size < (w3.alloc (.cells #[.int .u32 16777213] 24)).heap.size) := Lib.hid HE4.out.lt
  have HNE : Hid (w.heap.size ≠ w3.heap.size) := Lib.hid (Nat.ne_of_lt HHE.out.lt)
  clear HHE HB3
  generalize w3.alloc _ = w4 at *
  generalize w3.heap.size = bS at *
  refine (new_any 16777213 16777213 w4 ⟨by decide, by decide⟩ ⟨by decide, by decide⟩).mono ?_
  rintro e w5 ⟨b, rfl, ha5, hb5⟩
  have HR5 : Hid (FiRel w w4.heap.size b w.heap.size bS (i : Int) (newP 16777213 16777213) w5) := Lib.hid ⟨ha5, HE4.out.below hb5 HE4.out.lt, HS4.out.below hb5 HS4.out.lt, HB4.out.trans (hb5.mono HB4.out.size), HB4.out.size, hb5.size, HLT.out, HNE.out⟩
  clear ha5 hb5 HE4 HS4 HB4
  generalize w4.heap.size = B at *
  obtain ⟨bE, hbE⟩ : ∃ bE, bE = w.heap.size := ⟨_, rfl⟩
  rw [← hbE] at HR5 ⊢
  have HBE := Lib.hid (Nat.le_of_eq hbE.symm)
  clear hbE
  go_wp2_with fail
  have HRC := Lib.hid (HR5.out.keepB (Below.refl _ _).drew)
  clear HR5
  go_region_held3 (fun w' => w'.cell? ⟨bE, 0, none⟩ = some (.int .i64 (i : Int)) ∧ w'.cell? ⟨bS, 0, none⟩ = some (.int .u32 16777213)) (first | (with_reducible exact ⟨HRC.out.e.cells1, HRC.out.s.cells1⟩) | (with_reducible exact ⟨(HRC.out.al _).e.cells1, (HRC.out.al _).s.cells1⟩)) (first | (go_at_call 8; refine (add_num _ _ _).mono ?_; rintro e w' ⟨rfl, rfl⟩) | (go_at_call 9; refine (came_rec (i : Int) 6 37 0 none 0 0 bE _ HRC.out.e).mono ?_; rintro e w' ⟨rfl, hb⟩; have HRC := Lib.hid (HRC.out.keepB hb); clear hb) | (go_at_call 10; refine (add_two B b _ _ i i ⟨(i : Int), 2, 6, 37, 0, none, 0, 0, 0, 0, 0⟩ ⟨(i : Int), 5, 0, 0, 0, none, 0, 0, 6, 0, 0⟩ _ _ _ _ (HRC.out.al _).aud (by unfold RecsAt; exact BoxAt.new _ 36 [.int .i64 (i : Int), .int .i64 2, .int .i64 6, .int .i64 0, .int .u32 37, .int .u32 0, .int .u32 0, .slice none 0 0, .bool false, .string ⟨#[]⟩, .int .i64 0, .string ⟨#[]⟩, .bool false, .int .u8 0, .int .i64 0, .int .i64 0, .string ⟨#[]⟩, .int .i64 0, .int .i64 (i : Int), .int .i64 5, .int .i64 0, .int .i64 0, .int .u32 0, .int .u32 0, .int .u32 0, .slice none 0 0, .bool false, .string ⟨#[]⟩, .int .i64 6, .string ⟨#[]⟩, .bool false, .int .u8 0, .int .i64 0, .int .i64 0, .string ⟨#[]⟩, .int .i64 0]) hlt hlt (fi_grant i 40 (by omega) (by omega) _ _) (fi_conf i 40 _ _) (small_new _ _) (HRC.out.al _).size).mono ?_; rintro e w' ⟨rfl, hr⟩; have HRC := Lib.hid ((HRC.out.al _).step hr); clear hr))
  have HR7 := HRC
  clear HRC
  go_wp2_with fail
  go_loopw [45] (fun ix wx => ∃ k : Nat, ix = .int .i64 (k : Int) ∧ k ≤ m ∧ FiRel w B b bE bS (i : Int) (fiQ i (fiG 40 k)) wx) (fun ix _ => m - (intOf ix).toNat)
  case atStart => exact ⟨0, rfl, by omega, HR7.out⟩
  case round =>
    obtain ⟨k, rfl, hk, hrl⟩ := hrel
    by_cases hkm : k < m
    · have hkm1 : (k : Int) < (m : Int) := by omega
      have HRL := Lib.hid hrl
      clear hrl
      go_wp2_with fail
      refine (sd_rec (i : Int) (k : Int) bE bS _ HRL.out.e HRL.out.s).mono ?_
      rintro e w9 ⟨rfl, hb9⟩
      have HR9 := Lib.hid (HRL.out.keepB hb9)
      clear hb9 HRL
      go_wp2_with fail
      have HRX : Hid (RecsAt (w9.alloc (.cells #[.int .i64 (i : Int), .int .i64 1, .int .i64 8, .int .i64 0, .int .u32 ((16777213 + (k : Int)) % 16777216), .int .u32 0, .int .u32 0, .slice none 0 0, .bool false, .string ⟨#[]⟩, .int .i64 0, .string ⟨#[]⟩, .bool false, .int .u8 0, .int .i64 0, .int .i64 0, .string ⟨#[]⟩, .int .i64 0] 36)) w9.heap.size [⟨(i : Int), 1, 8, ((16777213 + (k : Int)) % 16777216), 0, none, 0, 0, 0, 0, 0⟩]) := Lib.hid (by unfold RecsAt; exact BoxAt.new w9 36 [.int .i64 (i : Int), .int .i64 1, .int .i64 8, .int .i64 0, .int .u32 ((16777213 + (k : Int)) % 16777216), .int .u32 0, .int .u32 0, .slice none 0 0, .bool false, .string ⟨#[]⟩, .int .i64 0, .string ⟨#[]⟩, .bool false, .int .u8 0, .int .i64 0, .int .i64 0, .string ⟨#[]⟩, .int .i64 0])
      have HRA := Lib.hid (HR9.out.al (.cells #[.int .i64 (i : Int), .int .i64 1, .int .i64 8, .int .i64 0, .int .u32 ((16777213 + (k : Int)) % 16777216), .int .u32 0, .int .u32 0, .slice none 0 0, .bool false, .string ⟨#[]⟩, .int .i64 0, .string ⟨#[]⟩, .bool false, .int .u8 0, .int .i64 0, .int .i64 0, .string ⟨#[]⟩, .int .i64 0] 36))
      clear HR9
      generalize w9.alloc _ = w21 at *
      generalize w9.heap.size = g21 at *
      refine (add_one B b g21 _ i _ _ _ w21 HRA.out.aud HRX.out hlt (fi_sd i 40 k (by omega) (by omega) w21 false) (fi_small i _ (Nat.zero_le _)) HRA.out.size).mono ?_
      rintro e w21b ⟨rfl, hr⟩
      have HR10 := Lib.hid (HRA.out.step hr)
      clear hr HRX HRA
      go_wp2_with fail
      go_roundw
      case rel => exact ⟨k + 1, by go_num, by omega, HR10.out⟩
      case measure => simp [intOf]; omega
    · have hkm1 : ¬ (k : Int) < (m : Int) := by omega
      have hke : k = m := by omega
      rw [hke] at hrl
      have HR11 := Lib.hid hrl
      clear hrl hke
      go_wp2_with fail
      refine (probs_none B b _ _ HR11.out.aud (fiQ_l i _)).mono ?_
      rintro e w12 ⟨⟨a12, c12, rfl⟩, hb12⟩
      have HR12 := Lib.hid (HR11.out.keepB hb12)
      clear hb12 HR11 hkm hkm1
      generalize wr = w11 at *
      have c0 := HR12.out.e.cells1
      have c1 := HR12.out.s.cells1
      go_wp2_with fail
      have HRX : Hid (RecsAt (w12.alloc (.cells #[.int .i64 (i : Int), .int .i64 1, .int .i64 10, .int .i64 0, .int .u32 16777213, .int .u32 0, .int .u32 0, .slice none 0 0, .bool false, .string ⟨#[]⟩, .int .i64 0, .string ⟨#[]⟩, .bool false, .int .u8 0, .int .i64 0, .int .i64 0, .string ⟨#[]⟩, .int .i64 0] 36)) w12.heap.size [⟨(i : Int), 1, 10, 16777213, 0, none, 0, 0, 0, 0, 0⟩]) := Lib.hid (by unfold RecsAt; exact BoxAt.new w12 36 [.int .i64 (i : Int), .int .i64 1, .int .i64 10, .int .i64 0, .int .u32 16777213, .int .u32 0, .int .u32 0, .slice none 0 0, .bool false, .string ⟨#[]⟩, .int .i64 0, .string ⟨#[]⟩, .bool false, .int .u8 0, .int .i64 0, .int .i64 0, .string ⟨#[]⟩, .int .i64 0])
      have HRA := Lib.hid (HR12.out.al (.cells #[.int .i64 (i : Int), .int .i64 1, .int .i64 10, .int .i64 0, .int .u32 16777213, .int .u32 0, .int .u32 0, .slice none 0 0, .bool false, .string ⟨#[]⟩, .int .i64 0, .string ⟨#[]⟩, .bool false, .int .u8 0, .int .i64 0, .int .i64 0, .string ⟨#[]⟩, .int .i64 0] 36))
      clear HR12 c0 c1
      generalize w12.alloc _ = w22 at *
      generalize w12.heap.size = g22 at *
      refine (add_one B b g22 _ i _ _ _ w22 HRA.out.aud HRX.out hlt (fi_poll i m hm0 hm1 w22) (fi_small i _ (Nat.zero_le _)) HRA.out.size).mono ?_
      rintro e w22b ⟨rfl, hr⟩
      have HR15 := Lib.hid (HRA.out.step hr)
      clear hr HRX HRA
      go_wp2_with fail
      have hf := HR15.out
      refine (probs_one B b _ (probL i pollW) _ HR15.out.aud (tell_l i i _ pollW)).mono ?_
      rintro e w14 ⟨g14, c14, rfl, hc14, hb14⟩
      have HR14 := Lib.hid (HR15.out.keepB hb14)
      have c0 := HR14.out.e.cells1
      clear hb14 hf HR15
      go_wp2_with fail
      rcases (by omega : i = 0 ∨ i = 1) with rfl | rfl
      · rw [prob_lit 0 (by decide), show strV (UInt8.ofNat (48 + 0) :: 32 :: pollW) = .string ⟨#[48, 32, 112, 111, 108, 108]⟩ from rfl] at hc14
        have kw1 : IntKind.i64.wrap 48 = 48 := by decide
        have kw2 : IntKind.u8.wrap 48 = 48 := by decide
        have kq1 : (⟨#[48]⟩ : ByteArray) ++ ⟨#[32]⟩ = ⟨#[48, 32]⟩ := by decide
        have kq2 : (⟨#[48, 32]⟩ : ByteArray) ++ ⟨#[112, 111, 108, 108]⟩ = ⟨#[48, 32, 112, 111, 108, 108]⟩ := by decide
        have kcv := conv1
        have kcd := conv1d
        have hbA := HR14.out.below.drew.alloc (Nat.le_trans HR14.out.ge HR14.out.size) (.cells #[.int .u8 48] 5)
        have HBA := Lib.hid hbA
        have c0A : Hid (((w14.drew).alloc (.cells #[.int .u8 48] 5)).cell? ⟨bE, 0, none⟩ = some (.int .i64 0)) := Lib.hid (HR14.out.e.drew.alloc (o := .cells #[.int .u8 48] 5)).cells1
        have c14A : Hid (((w14.drew).alloc (.cells #[.int .u8 48] 5)).cell? ⟨g14, 0, none⟩ = some (.string ⟨#[48, 32, 112, 111, 108, 108]⟩)) := Lib.hid (cell_al _ (show w14.drew.cell? _ = _ from hc14))
        clear hbA
        refine wp_region_noPanic ?_
        refine wp_region_held_drew (S := (fun w' => w'.cell? ⟨g14, 0, none⟩ = some (.string ⟨#[48, 32, 112, 111, 108, 108]⟩) ∧ w'.cell? ⟨bE, 0, none⟩ = some (.int .i64 0))) (by kernel_rfl) ⟨hc14, c0⟩ (fun hHeld => ?_)
        refine wpAnyH_take (i := 0) (oi := ⟨some 178, _, _, _, _, _⟩) (v := ?_) rfl (by kernel_rfl) (by kernel_rfl) (by kernel_rfl) (fun _ _ _ h => h) (Or.inl ⟨by kernel_rfl, ?_⟩) (by assumption) ?_
        rotate_left 1
        · intro w hSw; (try dsimp only at hSw); go_simp; try (with_reducible rfl)
        try simp only [Act.put, List.setIfInBounds_toArray, List.set_cons_zero, List.set_cons_succ]
        refine wpAnyH_take (i := 1) (oi := ⟨some 179, _, _, _, _, _⟩) (v := ?_) rfl (by kernel_rfl) (by kernel_rfl) (by kernel_rfl) (fun _ _ _ h => h) (Or.inl ⟨by kernel_rfl, ?_⟩) (by assumption) ?_
        rotate_left 1
        · intro w hSw; (try dsimp only at hSw); go_simp; try (with_reducible rfl)
        try simp only [Act.put, List.setIfInBounds_toArray, List.set_cons_zero, List.set_cons_succ]
        refine wpAnyH_take (i := 2) (oi := ⟨some 180, _, _, _, _, _⟩) (v := ?_) rfl (by kernel_rfl) (by kernel_rfl) (by kernel_rfl) (fun _ _ _ h => h) (Or.inl ⟨by kernel_rfl, ?_⟩) (by assumption) ?_
        rotate_left 1
        · intro w hSw; (try dsimp only at hSw); go_simp; try (with_reducible rfl)
        try simp only [Act.put, List.setIfInBounds_toArray, List.set_cons_zero, List.set_cons_succ]
        refine wpAnyH_take (i := 3) (oi := ⟨some 181, _, _, _, _, _⟩) (v := ?_) rfl (by kernel_rfl) (by kernel_rfl) (by kernel_rfl) (fun _ _ _ h => h) (Or.inl ⟨by kernel_rfl, ?_⟩) (by assumption) ?_
        rotate_left 1
        · intro w hSw; (try dsimp only at hSw); go_simp; try (with_reducible rfl)
        try simp only [Act.put, List.setIfInBounds_toArray, List.set_cons_zero, List.set_cons_succ]
        refine wpAnyH_take (i := 4) (oi := ⟨some 182, _, _, _, _, _⟩) (v := ?_) rfl (by kernel_rfl) (by kernel_rfl) (by kernel_rfl) (fun _ _ _ h => h) (Or.inl ⟨by kernel_rfl, ?_⟩) (by assumption) ?_
        rotate_left 1
        · intro w hSw; (try dsimp only at hSw); go_simp; try (with_reducible rfl)
        try simp only [Act.put, List.setIfInBounds_toArray, List.set_cons_zero, List.set_cons_succ]
        refine wpAnyH_take (i := 5) (oi := ⟨some 183, _, _, _, _, _⟩) (v := ?_) rfl (by kernel_rfl) (by kernel_rfl) (by kernel_rfl) (fun _ _ _ h => h) (Or.inl ⟨by kernel_rfl, ?_⟩) (by assumption) ?_
        rotate_left 1
        · intro w hSw; (try dsimp only at hSw); go_simp; try (with_reducible rfl)
        try simp only [Act.put, List.setIfInBounds_toArray, List.set_cons_zero, List.set_cons_succ]
        refine wpAnyH_take (i := 6) (oi := ⟨some 184, _, _, _, _, _⟩) (v := ?_) rfl (by kernel_rfl) (by kernel_rfl) (by kernel_rfl) (fun _ _ _ h => h) (Or.inl ⟨by kernel_rfl, ?_⟩) (by assumption) ?_
        rotate_left 1
        · intro w hSw; (try dsimp only at hSw); go_simp; try (with_reducible rfl)
        try simp only [Act.put, List.setIfInBounds_toArray, List.set_cons_zero, List.set_cons_succ]
        refine wpAnyH_take (i := 7) (oi := ⟨some 185, _, _, _, _, _⟩) (v := ?_) rfl (by kernel_rfl) (by kernel_rfl) (by kernel_rfl) (fun _ _ _ h => h) (Or.inl ⟨by kernel_rfl, ?_⟩) (by assumption) ?_
        rotate_left 1
        · intro w hSw; (try dsimp only at hSw); go_simp; try (with_reducible rfl)
        try simp only [Act.put, List.setIfInBounds_toArray, List.set_cons_zero, List.set_cons_succ]
        refine wpAnyH_take (i := 8) (oi := ⟨some 186, _, _, _, _, _⟩) (v := ?_) rfl (by kernel_rfl) (by kernel_rfl) (by kernel_rfl) (fun _ _ _ h => h) (Or.inl ⟨by kernel_rfl, ?_⟩) (by assumption) ?_
        rotate_left 1
        · intro w hSw; (try dsimp only at hSw); go_simp; try (with_reducible rfl)
        try simp only [Act.put, List.setIfInBounds_toArray, List.set_cons_zero, List.set_cons_succ]
        refine wpAnyH_take (i := 9) (oi := ⟨some 187, _, _, _, _, _⟩) (v := ?_) rfl (by kernel_rfl) (by kernel_rfl) (by kernel_rfl) (fun _ _ _ h => h) (Or.inl ⟨by kernel_rfl, ?_⟩) (by assumption) ?_
        rotate_left 1
        · intro w hSw; (try dsimp only at hSw); go_simp; try (with_reducible rfl)
        try simp only [Act.put, List.setIfInBounds_toArray, List.set_cons_zero, List.set_cons_succ]
        refine wpAnyH_take (i := 13) (oi := ⟨some 191, _, _, _, _, _⟩) (v := ?_) rfl (by kernel_rfl) (by kernel_rfl) (by kernel_rfl) (fun _ _ _ h => h) (Or.inl ⟨by kernel_rfl, ?_⟩) (by assumption) ?_
        rotate_left 1
        · intro w hSw; (try dsimp only at hSw); go_simp; try (with_reducible rfl)
        try simp only [Act.put, List.setIfInBounds_toArray, List.set_cons_zero, List.set_cons_succ]
        refine wpAnyH_ready (rs := [10]) (by kernel_rfl) (by simp) ?_
        refine AllReadyH.cons (o := ⟨some 188, _, _, _, _, _⟩) rfl (fun K hK => ?_) AllReadyH.nil
        go_simp
        refine hK.out _ _ (by exact ⟨c14A.out, c0A.out⟩) (fun hHeld => ?_)
        clear hK K
        try simp only [Act.put, List.setIfInBounds_toArray, List.set_cons_zero, List.set_cons_succ]
        refine wpAnyH_ready (rs := [11]) (by kernel_rfl) (by simp) ?_
        refine AllReadyH.cons (o := ⟨some 189, _, _, _, _, _⟩) rfl (fun K hK => ?_) AllReadyH.nil
        go_simp
        refine hK.out _ _ (by exact ⟨c14A.out, c0A.out⟩) (fun hHeld => ?_)
        clear hK K
        try simp only [Act.put, List.setIfInBounds_toArray, List.set_cons_zero, List.set_cons_succ]
        refine wpAnyH_take (i := 12) (oi := ⟨some 190, _, _, _, _, _⟩) (v := ?_) rfl (by kernel_rfl) (by kernel_rfl) (by kernel_rfl) (fun _ _ _ h => h) (Or.inl ⟨by kernel_rfl, ?_⟩) (by assumption) ?_
        rotate_left 1
        · intro w hSw; (try dsimp only at hSw); go_simp; try (with_reducible rfl)
        try simp only [Act.put, List.setIfInBounds_toArray, List.set_cons_zero, List.set_cons_succ]
        refine wpAnyH_take (i := 14) (oi := ⟨some 192, _, _, _, _, _⟩) (v := ?_) rfl (by kernel_rfl) (by kernel_rfl) (by kernel_rfl) (fun _ _ _ h => h) (Or.inl ⟨by kernel_rfl, ?_⟩) (by assumption) ?_
        rotate_left 1
        · intro w hSw; (try dsimp only at hSw); go_simp; try (with_reducible rfl)
        try simp only [Act.put, List.setIfInBounds_toArray, List.set_cons_zero, List.set_cons_succ]
        refine wpAnyH_take (i := 15) (oi := ⟨some 193, _, _, _, _, _⟩) (v := ?_) rfl (by kernel_rfl) (by kernel_rfl) (by kernel_rfl) (fun _ _ _ h => h) (Or.inl ⟨by kernel_rfl, ?_⟩) (by assumption) ?_
        rotate_left 1
        · intro w hSw; (try dsimp only at hSw); go_simp; try (with_reducible rfl)
        try simp only [Act.put, List.setIfInBounds_toArray, List.set_cons_zero, List.set_cons_succ]
        refine wpAnyH_take (i := 16) (oi := ⟨some 194, _, _, _, _, _⟩) (v := ?_) rfl (by kernel_rfl) (by kernel_rfl) (by kernel_rfl) (fun _ _ _ h => h) (Or.inl ⟨by kernel_rfl, ?_⟩) (by assumption) ?_
        rotate_left 1
        · intro w hSw; (try dsimp only at hSw); go_simp; try (with_reducible rfl)
        try simp only [Act.put, List.setIfInBounds_toArray, List.set_cons_zero, List.set_cons_succ]
        refine wpAnyH_take (i := 17) (oi := ⟨some 6, _, _, _, _, _⟩) (v := ?_) rfl (by kernel_rfl) (by kernel_rfl) (by kernel_rfl) (fun _ _ _ h => h) (Or.inl ⟨by kernel_rfl, ?_⟩) (by assumption) ?_
        rotate_left 1
        · intro w hSw; (try dsimp only at hSw); go_simp; try (with_reducible rfl)
        try simp only [Act.put, List.setIfInBounds_toArray, List.set_cons_zero, List.set_cons_succ]
        refine wpAnyH_done (by kernel_rfl) ?_ _
        refine NoPanic.normal ?_
        go_wp2_with fail
        go_ret
        exact ⟨rfl, HBA.out⟩
      · rw [prob_lit 1 (by decide), show strV (UInt8.ofNat (48 + 1) :: 32 :: pollW) = .string ⟨#[49, 32, 112, 111, 108, 108]⟩ from rfl] at hc14
        have kw1 : IntKind.i64.wrap 49 = 49 := by decide
        have kw2 : IntKind.u8.wrap 49 = 49 := by decide
        have kq1 : (⟨#[49]⟩ : ByteArray) ++ ⟨#[32]⟩ = ⟨#[49, 32]⟩ := by decide
        have kq2 : (⟨#[49, 32]⟩ : ByteArray) ++ ⟨#[112, 111, 108, 108]⟩ = ⟨#[49, 32, 112, 111, 108, 108]⟩ := by decide
        have kcv := conv1
        have kcd := conv1d
        have hbA := HR14.out.below.drew.alloc (Nat.le_trans HR14.out.ge HR14.out.size) (.cells #[.int .u8 49] 5)
        have HBA := Lib.hid hbA
        have c0A : Hid (((w14.drew).alloc (.cells #[.int .u8 49] 5)).cell? ⟨bE, 0, none⟩ = some (.int .i64 1)) := Lib.hid (HR14.out.e.drew.alloc (o := .cells #[.int .u8 49] 5)).cells1
        have c14A : Hid (((w14.drew).alloc (.cells #[.int .u8 49] 5)).cell? ⟨g14, 0, none⟩ = some (.string ⟨#[49, 32, 112, 111, 108, 108]⟩)) := Lib.hid (cell_al _ (show w14.drew.cell? _ = _ from hc14))
        clear hbA
        refine wp_region_noPanic ?_
        refine wp_region_held_drew (S := (fun w' => w'.cell? ⟨g14, 0, none⟩ = some (.string ⟨#[49, 32, 112, 111, 108, 108]⟩) ∧ w'.cell? ⟨bE, 0, none⟩ = some (.int .i64 1))) (by kernel_rfl) ⟨hc14, c0⟩ (fun hHeld => ?_)
        refine wpAnyH_take (i := 0) (oi := ⟨some 178, _, _, _, _, _⟩) (v := ?_) rfl (by kernel_rfl) (by kernel_rfl) (by kernel_rfl) (fun _ _ _ h => h) (Or.inl ⟨by kernel_rfl, ?_⟩) (by assumption) ?_
        rotate_left 1
        · intro w hSw; (try dsimp only at hSw); go_simp; try (with_reducible rfl)
        try simp only [Act.put, List.setIfInBounds_toArray, List.set_cons_zero, List.set_cons_succ]
        refine wpAnyH_take (i := 1) (oi := ⟨some 179, _, _, _, _, _⟩) (v := ?_) rfl (by kernel_rfl) (by kernel_rfl) (by kernel_rfl) (fun _ _ _ h => h) (Or.inl ⟨by kernel_rfl, ?_⟩) (by assumption) ?_
        rotate_left 1
        · intro w hSw; (try dsimp only at hSw); go_simp; try (with_reducible rfl)
        try simp only [Act.put, List.setIfInBounds_toArray, List.set_cons_zero, List.set_cons_succ]
        refine wpAnyH_take (i := 2) (oi := ⟨some 180, _, _, _, _, _⟩) (v := ?_) rfl (by kernel_rfl) (by kernel_rfl) (by kernel_rfl) (fun _ _ _ h => h) (Or.inl ⟨by kernel_rfl, ?_⟩) (by assumption) ?_
        rotate_left 1
        · intro w hSw; (try dsimp only at hSw); go_simp; try (with_reducible rfl)
        try simp only [Act.put, List.setIfInBounds_toArray, List.set_cons_zero, List.set_cons_succ]
        refine wpAnyH_take (i := 3) (oi := ⟨some 181, _, _, _, _, _⟩) (v := ?_) rfl (by kernel_rfl) (by kernel_rfl) (by kernel_rfl) (fun _ _ _ h => h) (Or.inl ⟨by kernel_rfl, ?_⟩) (by assumption) ?_
        rotate_left 1
        · intro w hSw; (try dsimp only at hSw); go_simp; try (with_reducible rfl)
        try simp only [Act.put, List.setIfInBounds_toArray, List.set_cons_zero, List.set_cons_succ]
        refine wpAnyH_take (i := 4) (oi := ⟨some 182, _, _, _, _, _⟩) (v := ?_) rfl (by kernel_rfl) (by kernel_rfl) (by kernel_rfl) (fun _ _ _ h => h) (Or.inl ⟨by kernel_rfl, ?_⟩) (by assumption) ?_
        rotate_left 1
        · intro w hSw; (try dsimp only at hSw); go_simp; try (with_reducible rfl)
        try simp only [Act.put, List.setIfInBounds_toArray, List.set_cons_zero, List.set_cons_succ]
        refine wpAnyH_take (i := 5) (oi := ⟨some 183, _, _, _, _, _⟩) (v := ?_) rfl (by kernel_rfl) (by kernel_rfl) (by kernel_rfl) (fun _ _ _ h => h) (Or.inl ⟨by kernel_rfl, ?_⟩) (by assumption) ?_
        rotate_left 1
        · intro w hSw; (try dsimp only at hSw); go_simp; try (with_reducible rfl)
        try simp only [Act.put, List.setIfInBounds_toArray, List.set_cons_zero, List.set_cons_succ]
        refine wpAnyH_take (i := 6) (oi := ⟨some 184, _, _, _, _, _⟩) (v := ?_) rfl (by kernel_rfl) (by kernel_rfl) (by kernel_rfl) (fun _ _ _ h => h) (Or.inl ⟨by kernel_rfl, ?_⟩) (by assumption) ?_
        rotate_left 1
        · intro w hSw; (try dsimp only at hSw); go_simp; try (with_reducible rfl)
        try simp only [Act.put, List.setIfInBounds_toArray, List.set_cons_zero, List.set_cons_succ]
        refine wpAnyH_take (i := 7) (oi := ⟨some 185, _, _, _, _, _⟩) (v := ?_) rfl (by kernel_rfl) (by kernel_rfl) (by kernel_rfl) (fun _ _ _ h => h) (Or.inl ⟨by kernel_rfl, ?_⟩) (by assumption) ?_
        rotate_left 1
        · intro w hSw; (try dsimp only at hSw); go_simp; try (with_reducible rfl)
        try simp only [Act.put, List.setIfInBounds_toArray, List.set_cons_zero, List.set_cons_succ]
        refine wpAnyH_take (i := 8) (oi := ⟨some 186, _, _, _, _, _⟩) (v := ?_) rfl (by kernel_rfl) (by kernel_rfl) (by kernel_rfl) (fun _ _ _ h => h) (Or.inl ⟨by kernel_rfl, ?_⟩) (by assumption) ?_
        rotate_left 1
        · intro w hSw; (try dsimp only at hSw); go_simp; try (with_reducible rfl)
        try simp only [Act.put, List.setIfInBounds_toArray, List.set_cons_zero, List.set_cons_succ]
        refine wpAnyH_take (i := 9) (oi := ⟨some 187, _, _, _, _, _⟩) (v := ?_) rfl (by kernel_rfl) (by kernel_rfl) (by kernel_rfl) (fun _ _ _ h => h) (Or.inl ⟨by kernel_rfl, ?_⟩) (by assumption) ?_
        rotate_left 1
        · intro w hSw; (try dsimp only at hSw); go_simp; try (with_reducible rfl)
        try simp only [Act.put, List.setIfInBounds_toArray, List.set_cons_zero, List.set_cons_succ]
        refine wpAnyH_take (i := 13) (oi := ⟨some 191, _, _, _, _, _⟩) (v := ?_) rfl (by kernel_rfl) (by kernel_rfl) (by kernel_rfl) (fun _ _ _ h => h) (Or.inl ⟨by kernel_rfl, ?_⟩) (by assumption) ?_
        rotate_left 1
        · intro w hSw; (try dsimp only at hSw); go_simp; try (with_reducible rfl)
        try simp only [Act.put, List.setIfInBounds_toArray, List.set_cons_zero, List.set_cons_succ]
        refine wpAnyH_ready (rs := [10]) (by kernel_rfl) (by simp) ?_
        refine AllReadyH.cons (o := ⟨some 188, _, _, _, _, _⟩) rfl (fun K hK => ?_) AllReadyH.nil
        go_simp
        refine hK.out _ _ (by exact ⟨c14A.out, c0A.out⟩) (fun hHeld => ?_)
        clear hK K
        try simp only [Act.put, List.setIfInBounds_toArray, List.set_cons_zero, List.set_cons_succ]
        refine wpAnyH_ready (rs := [11]) (by kernel_rfl) (by simp) ?_
        refine AllReadyH.cons (o := ⟨some 189, _, _, _, _, _⟩) rfl (fun K hK => ?_) AllReadyH.nil
        go_simp
        refine hK.out _ _ (by exact ⟨c14A.out, c0A.out⟩) (fun hHeld => ?_)
        clear hK K
        try simp only [Act.put, List.setIfInBounds_toArray, List.set_cons_zero, List.set_cons_succ]
        refine wpAnyH_take (i := 12) (oi := ⟨some 190, _, _, _, _, _⟩) (v := ?_) rfl (by kernel_rfl) (by kernel_rfl) (by kernel_rfl) (fun _ _ _ h => h) (Or.inl ⟨by kernel_rfl, ?_⟩) (by assumption) ?_
        rotate_left 1
        · intro w hSw; (try dsimp only at hSw); go_simp; try (with_reducible rfl)
        try simp only [Act.put, List.setIfInBounds_toArray, List.set_cons_zero, List.set_cons_succ]
        refine wpAnyH_take (i := 14) (oi := ⟨some 192, _, _, _, _, _⟩) (v := ?_) rfl (by kernel_rfl) (by kernel_rfl) (by kernel_rfl) (fun _ _ _ h => h) (Or.inl ⟨by kernel_rfl, ?_⟩) (by assumption) ?_
        rotate_left 1
        · intro w hSw; (try dsimp only at hSw); go_simp; try (with_reducible rfl)
        try simp only [Act.put, List.setIfInBounds_toArray, List.set_cons_zero, List.set_cons_succ]
        refine wpAnyH_take (i := 15) (oi := ⟨some 193, _, _, _, _, _⟩) (v := ?_) rfl (by kernel_rfl) (by kernel_rfl) (by kernel_rfl) (fun _ _ _ h => h) (Or.inl ⟨by kernel_rfl, ?_⟩) (by assumption) ?_
        rotate_left 1
        · intro w hSw; (try dsimp only at hSw); go_simp; try (with_reducible rfl)
        try simp only [Act.put, List.setIfInBounds_toArray, List.set_cons_zero, List.set_cons_succ]
        refine wpAnyH_take (i := 16) (oi := ⟨some 194, _, _, _, _, _⟩) (v := ?_) rfl (by kernel_rfl) (by kernel_rfl) (by kernel_rfl) (fun _ _ _ h => h) (Or.inl ⟨by kernel_rfl, ?_⟩) (by assumption) ?_
        rotate_left 1
        · intro w hSw; (try dsimp only at hSw); go_simp; try (with_reducible rfl)
        try simp only [Act.put, List.setIfInBounds_toArray, List.set_cons_zero, List.set_cons_succ]
        refine wpAnyH_take (i := 17) (oi := ⟨some 6, _, _, _, _, _⟩) (v := ?_) rfl (by kernel_rfl) (by kernel_rfl) (by kernel_rfl) (fun _ _ _ h => h) (Or.inl ⟨by kernel_rfl, ?_⟩) (by assumption) ?_
        rotate_left 1
        · intro w hSw; (try dsimp only at hSw); go_simp; try (with_reducible rfl)
        try simp only [Act.put, List.setIfInBounds_toArray, List.set_cons_zero, List.set_cons_succ]
        refine wpAnyH_done (by kernel_rfl) ?_ _
        refine NoPanic.normal ?_
        go_wp2_with fail
        go_ret
        exact ⟨rfl, HBA.out⟩
set_option maxRecDepth 100000 in
set_option maxHeartbeats 2000000 in
theorem finds_5 (a how n : Int) (w : World) (hk : how % 8 = 5) :
    Calls Tryd.prog 3 #[.int .i64 a, .int .i64 how, .int .i64 n] w fun e w' => e = .returned (.bool true) ∧ Below w.heap.size w w' := by
  obtain ⟨m, hm⟩ : ∃ m : Nat, 1 + n % 16 = (m : Int) := ⟨(1 + n % 16).toNat, by omega⟩
  have hm0 : 1 ≤ m := by omega
  have hm1 : m ≤ 16 := by omega
  obtain ⟨i, hi⟩ : ∃ i : Nat, a % 2 = (i : Int) := ⟨(a % 2).toNat, by omega⟩
  have hi1 : i < 2 := by omega
  have hlt : i < 2 := hi1
  have hlt' : 1 - i < 2 := by omega
  have HM := Lib.hid hm
  have HI := Lib.hid hi
  clear hm hi
  go_enter Tryd.func3, Tryd.ntmps3
  go_wp2_with fail
  have hbh := BoxAt.new w 3 [.int .i64 a]
  have hb0 := (Below.refl w.heap.size w).alloc (Nat.le_refl _) (.cells #[.int .i64 a] 3)
  have HH0 := Lib.hid hbh
  have HB0 := Lib.hid hb0
  clear hbh hb0
  generalize w.alloc _ = w1 at *
  refine (awake21 w1).mono ?_
  rintro e w2 ⟨rfl, hb2⟩
  have HH2 := Lib.hid (HH0.out.below hb2 HH0.out.lt)
  have HB2 := Lib.hid (HB0.out.trans (hb2.mono HB0.out.size))
  clear hb2 HH0 HB0
  have k0 := HH2.out.cells1
  have f0 := HH2.out.frozs1
  have HHE := Lib.hid (HH2.out.set 0 (.int .i64 (i : Int)))
  have hb3 := HB2.out.setCell (show w.heap.size ≤ (⟨w.heap.size, 0, none⟩ : Addr).block from Nat.le_refl _) (.int .i64 (i : Int))
  have HB3 := Lib.hid hb3
  clear hb3
  go_wp2_with fail
  rw [HM.out, HI.out]
  clear k0 f0 HH2 HB2
  have hz3 : (w2.setCell ⟨w.heap.size, 0, none⟩ (.int .i64 (i : Int))).heap.size = w2.heap.size := by simp
  rw [← hz3]
  clear hz3
  generalize w2.setCell ⟨w.heap.size, 0, none⟩ (.int .i64 (i : Int)) = w3 at *
  have HE4 := Lib.hid (HHE.out.alloc (o := .cells #[.int .u32 16777213] 24))
  have HS4 := Lib.hid (BoxAt.new w3 24 [.int .u32 16777213])
  have HB4 := Lib.hid (HB3.out.alloc HB3.out.size (.cells #[.int .u32 16777213] 24))
  have HLT : Hid (w.heap.size < (w3.alloc (.cells #[.int .u32 16777213] 24)).heap.size) := Lib.hid HE4.out.lt
  have HNE : Hid (w.heap.size ≠ w3.heap.size) := Lib.hid (Nat.ne_of_lt HHE.out.lt)
  clear HHE HB3
  generalize w3.alloc _ = w4 at *
  generalize w3.heap.size = bS at *
  refine (new_any 16777213 16777213 w4 ⟨by decide, by decide⟩ ⟨by decide, by decide⟩).mono ?_
  rintro e w5 ⟨b, rfl, ha5, hb5⟩
  have HR5 : Hid (FiRel w w4.heap.size b w.heap.size bS (i : Int) (newP 16777213 16777213) w5) := Lib.hid ⟨ha5, HE4.out.below hb5 HE4.out.lt, HS4.out.below hb5 HS4.out.lt, HB4.out.trans (hb5.mono HB4.out.size), HB4.out.size, hb5.size, HLT.out, HNE.out⟩
  clear ha5 hb5 HE4 HS4 HB4
  generalize w4.heap.size = B at *
  obtain ⟨bE, hbE⟩ : ∃ bE, bE = w.heap.size := ⟨_, rfl⟩
  rw [← hbE] at HR5 ⊢
  have HBE := Lib.hid (Nat.le_of_eq hbE.symm)
  clear hbE
  go_wp2_with fail
  have HRC := Lib.hid (HR5.out.keepB (Below.refl _ _).drew)
  clear HR5
  go_region_held3 (fun w' => w'.cell? ⟨bE, 0, none⟩ = some (.int .i64 (i : Int)) ∧ w'.cell? ⟨bS, 0, none⟩ = some (.int .u32 16777213)) (first | (with_reducible exact ⟨HRC.out.e.cells1, HRC.out.s.cells1⟩) | (with_reducible exact ⟨(HRC.out.al _).e.cells1, (HRC.out.al _).s.cells1⟩)) (first | (go_at_call 8; refine (add_num _ _ _).mono ?_; rintro e w' ⟨rfl, rfl⟩) | (go_at_call 9; refine (came_rec (i : Int) 6 37 0 none 0 0 bE _ HRC.out.e).mono ?_; rintro e w' ⟨rfl, hb⟩; have HRC := Lib.hid (HRC.out.keepB hb); clear hb) | (go_at_call 10; refine (add_two B b _ _ i i ⟨(i : Int), 2, 6, 37, 0, none, 0, 0, 0, 0, 0⟩ ⟨(i : Int), 5, 0, 0, 0, none, 0, 0, 6, 0, 0⟩ _ _ _ _ (HRC.out.al _).aud (by unfold RecsAt; exact BoxAt.new _ 36 [.int .i64 (i : Int), .int .i64 2, .int .i64 6, .int .i64 0, .int .u32 37, .int .u32 0, .int .u32 0, .slice none 0 0, .bool false, .string ⟨#[]⟩, .int .i64 0, .string ⟨#[]⟩, .bool false, .int .u8 0, .int .i64 0, .int .i64 0, .string ⟨#[]⟩, .int .i64 0, .int .i64 (i : Int), .int .i64 5, .int .i64 0, .int .i64 0, .int .u32 0, .int .u32 0, .int .u32 0, .slice none 0 0, .bool false, .string ⟨#[]⟩, .int .i64 6, .string ⟨#[]⟩, .bool false, .int .u8 0, .int .i64 0, .int .i64 0, .string ⟨#[]⟩, .int .i64 0]) hlt hlt (fi_grant i 40 (by omega) (by omega) _ _) (fi_conf i 40 _ _) (small_new _ _) (HRC.out.al _).size).mono ?_; rintro e w' ⟨rfl, hr⟩; have HRC := Lib.hid ((HRC.out.al _).step hr); clear hr))
  have HR7 := HRC
  clear HRC
  go_wp2_with fail
  go_loopw [45] (fun ix wx => ∃ k : Nat, ix = .int .i64 (k : Int) ∧ k ≤ m ∧ FiRel w B b bE bS (i : Int) (fiQ i (fiG 40 k)) wx) (fun ix _ => m - (intOf ix).toNat)
  case atStart => exact ⟨0, rfl, by omega, HR7.out⟩
  case round =>
    obtain ⟨k, rfl, hk, hrl⟩ := hrel
    by_cases hkm : k < m
    · have hkm1 : (k : Int) < (m : Int) := by omega
      have HRL := Lib.hid hrl
      clear hrl
      go_wp2_with fail
      refine (sd_rec (i : Int) (k : Int) bE bS _ HRL.out.e HRL.out.s).mono ?_
      rintro e w9 ⟨rfl, hb9⟩
      have HR9 := Lib.hid (HRL.out.keepB hb9)
      clear hb9 HRL
      go_wp2_with fail
      have HRX : Hid (RecsAt (w9.alloc (.cells #[.int .i64 (i : Int), .int .i64 1, .int .i64 8, .int .i64 0, .int .u32 ((16777213 + (k : Int)) % 16777216), .int .u32 0, .int .u32 0, .slice none 0 0, .bool false, .string ⟨#[]⟩, .int .i64 0, .string ⟨#[]⟩, .bool false, .int .u8 0, .int .i64 0, .int .i64 0, .string ⟨#[]⟩, .int .i64 0] 36)) w9.heap.size [⟨(i : Int), 1, 8, ((16777213 + (k : Int)) % 16777216), 0, none, 0, 0, 0, 0, 0⟩]) := Lib.hid (by unfold RecsAt; exact BoxAt.new w9 36 [.int .i64 (i : Int), .int .i64 1, .int .i64 8, .int .i64 0, .int .u32 ((16777213 + (k : Int)) % 16777216), .int .u32 0, .int .u32 0, .slice none 0 0, .bool false, .string ⟨#[]⟩, .int .i64 0, .string ⟨#[]⟩, .bool false, .int .u8 0, .int .i64 0, .int .i64 0, .string ⟨#[]⟩, .int .i64 0])
      have HRA := Lib.hid (HR9.out.al (.cells #[.int .i64 (i : Int), .int .i64 1, .int .i64 8, .int .i64 0, .int .u32 ((16777213 + (k : Int)) % 16777216), .int .u32 0, .int .u32 0, .slice none 0 0, .bool false, .string ⟨#[]⟩, .int .i64 0, .string ⟨#[]⟩, .bool false, .int .u8 0, .int .i64 0, .int .i64 0, .string ⟨#[]⟩, .int .i64 0] 36))
      clear HR9
      generalize w9.alloc _ = w21 at *
      generalize w9.heap.size = g21 at *
      refine (add_one B b g21 _ i _ _ _ w21 HRA.out.aud HRX.out hlt (fi_sd i 40 k (by omega) (by omega) w21 false) (fi_small i _ (Nat.zero_le _)) HRA.out.size).mono ?_
      rintro e w21b ⟨rfl, hr⟩
      have HR10 := Lib.hid (HRA.out.step hr)
      clear hr HRX HRA
      go_wp2_with fail
      go_roundw
      case rel => exact ⟨k + 1, by go_num, by omega, HR10.out⟩
      case measure => simp [intOf]; omega
    · have hkm1 : ¬ (k : Int) < (m : Int) := by omega
      have hke : k = m := by omega
      rw [hke] at hrl
      have HR11 := Lib.hid hrl
      clear hrl hke
      go_wp2_with fail
      refine (probs_none B b _ _ HR11.out.aud (fiQ_l i _)).mono ?_
      rintro e w12 ⟨⟨a12, c12, rfl⟩, hb12⟩
      have HR12 := Lib.hid (HR11.out.keepB hb12)
      clear hb12 HR11 hkm hkm1
      generalize wr = w11 at *
      have c0 := HR12.out.e.cells1
      have c1 := HR12.out.s.cells1
      go_wp2_with fail
      have HRC := Lib.hid (HR12.out.keepB (Below.refl _ _).drew)
      go_region_held3 (fun w' => w'.cell? ⟨bE, 0, none⟩ = some (.int .i64 (i : Int)) ∧ w'.cell? ⟨bS, 0, none⟩ = some (.int .u32 16777213)) (first | (with_reducible exact ⟨HRC.out.e.cells1, HRC.out.s.cells1⟩) | (with_reducible exact ⟨(HRC.out.al _).e.cells1, (HRC.out.al _).s.cells1⟩) | (with_reducible exact ⟨(HR12.out.al _).dr.e.cells1, (HR12.out.al _).dr.s.cells1⟩) | (with_reducible exact ⟨((HR12.out.al _).al _).dr.e.cells1, ((HR12.out.al _).al _).dr.s.cells1⟩)) (first | (go_at_call 8; refine (add_num _ _ _).mono ?_; rintro e w' ⟨rfl, rfl⟩) | (go_at_call 10; refine (add_one B b _ _ i ⟨(i : Int), 1, 11, 16777213, 0, (some ⟨w12.heap.size, 0, none⟩), 2, 2, 0, 0, 0⟩ _ _ _ ((HR12.out.al _).al _).dr.aud (by unfold RecsAt; exact (BoxAt.newAt (w := w12.alloc (.cells #[.int .u32 16777215, .int .u32 16777214] 24)) (b := w12.heap.size + 1) (by show (w12.heap.push _).size = _; exact Array.size_push _) 36 [.int .i64 (i : Int), .int .i64 1, .int .i64 11, .int .i64 0, .int .u32 16777213, .int .u32 0, .int .u32 0, .slice (some ⟨w12.heap.size, 0, none⟩) 2 2, .bool false, .string ⟨#[]⟩, .int .i64 0, .string ⟨#[]⟩, .bool false, .int .u8 0, .int .i64 0, .int .i64 0, .string ⟨#[]⟩, .int .i64 0]).drew) hlt (fi_list i m _ _ (by decide) _ (BoxAt.new w12 24 [.int .u32 16777215, .int .u32 16777214]).alloc.drew) (fi_small i _ (Nat.zero_le _)) ((HR12.out.al _).al _).dr.size).mono ?_; rintro e w' ⟨rfl, hr⟩; have HRC := Lib.hid (((HR12.out.al _).al _).dr.step hr); clear hr))
      all_goals
        have HR15 := HRC
        clear HRC
        try clear HR12
        go_wp2_with fail
        have hf := HR15.out
        refine (probs_one B b _ (probL i listW) _ HR15.out.aud (tell_l i i _ listW)).mono ?_
        rintro e w14 ⟨g14, c14, rfl, hc14, hb14⟩
        have HR14 := Lib.hid (HR15.out.keepB hb14)
        have c0 := HR14.out.e.cells1
        clear hb14 hf HR15
        go_wp2_with fail
        rcases (by omega : i = 0 ∨ i = 1) with rfl | rfl
        · rw [prob_lit 0 (by decide), show strV (UInt8.ofNat (48 + 0) :: 32 :: listW) = .string ⟨#[48, 32, 108, 105, 115, 116]⟩ from rfl] at hc14
          have kw1 : IntKind.i64.wrap 48 = 48 := by decide
          have kw2 : IntKind.u8.wrap 48 = 48 := by decide
          have kq1 : (⟨#[48]⟩ : ByteArray) ++ ⟨#[32]⟩ = ⟨#[48, 32]⟩ := by decide
          have kq2 : (⟨#[48, 32]⟩ : ByteArray) ++ ⟨#[108, 105, 115, 116]⟩ = ⟨#[48, 32, 108, 105, 115, 116]⟩ := by decide
          have kcv := conv1
          have kcd := conv1d
          have hbA := HR14.out.below.drew.alloc (Nat.le_trans HR14.out.ge HR14.out.size) (.cells #[.int .u8 48] 5)
          have HBA := Lib.hid hbA
          have c0A : Hid (((w14.drew).alloc (.cells #[.int .u8 48] 5)).cell? ⟨bE, 0, none⟩ = some (.int .i64 0)) := Lib.hid (HR14.out.e.drew.alloc (o := .cells #[.int .u8 48] 5)).cells1
          have c14A : Hid (((w14.drew).alloc (.cells #[.int .u8 48] 5)).cell? ⟨g14, 0, none⟩ = some (.string ⟨#[48, 32, 108, 105, 115, 116]⟩)) := Lib.hid (cell_al _ (show w14.drew.cell? _ = _ from hc14))
          clear hbA
          refine wp_region_noPanic ?_
          refine wp_region_held_drew (S := (fun w' => w'.cell? ⟨g14, 0, none⟩ = some (.string ⟨#[48, 32, 108, 105, 115, 116]⟩) ∧ w'.cell? ⟨bE, 0, none⟩ = some (.int .i64 0))) (by kernel_rfl) ⟨hc14, c0⟩ (fun hHeld => ?_)
          refine wpAnyH_take (i := 0) (oi := ⟨some 178, _, _, _, _, _⟩) (v := ?_) rfl (by kernel_rfl) (by kernel_rfl) (by kernel_rfl) (fun _ _ _ h => h) (Or.inl ⟨by kernel_rfl, ?_⟩) (by assumption) ?_
          rotate_left 1
          · intro w hSw; (try dsimp only at hSw); go_simp; try (with_reducible rfl)
          try simp only [Act.put, List.setIfInBounds_toArray, List.set_cons_zero, List.set_cons_succ]
          refine wpAnyH_take (i := 1) (oi := ⟨some 179, _, _, _, _, _⟩) (v := ?_) rfl (by kernel_rfl) (by kernel_rfl) (by kernel_rfl) (fun _ _ _ h => h) (Or.inl ⟨by kernel_rfl, ?_⟩) (by assumption) ?_
          rotate_left 1
          · intro w hSw; (try dsimp only at hSw); go_simp; try (with_reducible rfl)
          try simp only [Act.put, List.setIfInBounds_toArray, List.set_cons_zero, List.set_cons_succ]
          refine wpAnyH_take (i := 2) (oi := ⟨some 180, _, _, _, _, _⟩) (v := ?_) rfl (by kernel_rfl) (by kernel_rfl) (by kernel_rfl) (fun _ _ _ h => h) (Or.inl ⟨by kernel_rfl, ?_⟩) (by assumption) ?_
          rotate_left 1
          · intro w hSw; (try dsimp only at hSw); go_simp; try (with_reducible rfl)
          try simp only [Act.put, List.setIfInBounds_toArray, List.set_cons_zero, List.set_cons_succ]
          refine wpAnyH_take (i := 3) (oi := ⟨some 181, _, _, _, _, _⟩) (v := ?_) rfl (by kernel_rfl) (by kernel_rfl) (by kernel_rfl) (fun _ _ _ h => h) (Or.inl ⟨by kernel_rfl, ?_⟩) (by assumption) ?_
          rotate_left 1
          · intro w hSw; (try dsimp only at hSw); go_simp; try (with_reducible rfl)
          try simp only [Act.put, List.setIfInBounds_toArray, List.set_cons_zero, List.set_cons_succ]
          refine wpAnyH_take (i := 4) (oi := ⟨some 182, _, _, _, _, _⟩) (v := ?_) rfl (by kernel_rfl) (by kernel_rfl) (by kernel_rfl) (fun _ _ _ h => h) (Or.inl ⟨by kernel_rfl, ?_⟩) (by assumption) ?_
          rotate_left 1
          · intro w hSw; (try dsimp only at hSw); go_simp; try (with_reducible rfl)
          try simp only [Act.put, List.setIfInBounds_toArray, List.set_cons_zero, List.set_cons_succ]
          refine wpAnyH_take (i := 5) (oi := ⟨some 183, _, _, _, _, _⟩) (v := ?_) rfl (by kernel_rfl) (by kernel_rfl) (by kernel_rfl) (fun _ _ _ h => h) (Or.inl ⟨by kernel_rfl, ?_⟩) (by assumption) ?_
          rotate_left 1
          · intro w hSw; (try dsimp only at hSw); go_simp; try (with_reducible rfl)
          try simp only [Act.put, List.setIfInBounds_toArray, List.set_cons_zero, List.set_cons_succ]
          refine wpAnyH_take (i := 6) (oi := ⟨some 184, _, _, _, _, _⟩) (v := ?_) rfl (by kernel_rfl) (by kernel_rfl) (by kernel_rfl) (fun _ _ _ h => h) (Or.inl ⟨by kernel_rfl, ?_⟩) (by assumption) ?_
          rotate_left 1
          · intro w hSw; (try dsimp only at hSw); go_simp; try (with_reducible rfl)
          try simp only [Act.put, List.setIfInBounds_toArray, List.set_cons_zero, List.set_cons_succ]
          refine wpAnyH_take (i := 7) (oi := ⟨some 185, _, _, _, _, _⟩) (v := ?_) rfl (by kernel_rfl) (by kernel_rfl) (by kernel_rfl) (fun _ _ _ h => h) (Or.inl ⟨by kernel_rfl, ?_⟩) (by assumption) ?_
          rotate_left 1
          · intro w hSw; (try dsimp only at hSw); go_simp; try (with_reducible rfl)
          try simp only [Act.put, List.setIfInBounds_toArray, List.set_cons_zero, List.set_cons_succ]
          refine wpAnyH_take (i := 8) (oi := ⟨some 186, _, _, _, _, _⟩) (v := ?_) rfl (by kernel_rfl) (by kernel_rfl) (by kernel_rfl) (fun _ _ _ h => h) (Or.inl ⟨by kernel_rfl, ?_⟩) (by assumption) ?_
          rotate_left 1
          · intro w hSw; (try dsimp only at hSw); go_simp; try (with_reducible rfl)
          try simp only [Act.put, List.setIfInBounds_toArray, List.set_cons_zero, List.set_cons_succ]
          refine wpAnyH_take (i := 9) (oi := ⟨some 187, _, _, _, _, _⟩) (v := ?_) rfl (by kernel_rfl) (by kernel_rfl) (by kernel_rfl) (fun _ _ _ h => h) (Or.inl ⟨by kernel_rfl, ?_⟩) (by assumption) ?_
          rotate_left 1
          · intro w hSw; (try dsimp only at hSw); go_simp; try (with_reducible rfl)
          try simp only [Act.put, List.setIfInBounds_toArray, List.set_cons_zero, List.set_cons_succ]
          refine wpAnyH_take (i := 13) (oi := ⟨some 191, _, _, _, _, _⟩) (v := ?_) rfl (by kernel_rfl) (by kernel_rfl) (by kernel_rfl) (fun _ _ _ h => h) (Or.inl ⟨by kernel_rfl, ?_⟩) (by assumption) ?_
          rotate_left 1
          · intro w hSw; (try dsimp only at hSw); go_simp; try (with_reducible rfl)
          try simp only [Act.put, List.setIfInBounds_toArray, List.set_cons_zero, List.set_cons_succ]
          refine wpAnyH_ready (rs := [10]) (by kernel_rfl) (by simp) ?_
          refine AllReadyH.cons (o := ⟨some 188, _, _, _, _, _⟩) rfl (fun K hK => ?_) AllReadyH.nil
          go_simp
          refine hK.out _ _ (by exact ⟨c14A.out, c0A.out⟩) (fun hHeld => ?_)
          clear hK K
          try simp only [Act.put, List.setIfInBounds_toArray, List.set_cons_zero, List.set_cons_succ]
          refine wpAnyH_ready (rs := [11]) (by kernel_rfl) (by simp) ?_
          refine AllReadyH.cons (o := ⟨some 189, _, _, _, _, _⟩) rfl (fun K hK => ?_) AllReadyH.nil
          go_simp
          refine hK.out _ _ (by exact ⟨c14A.out, c0A.out⟩) (fun hHeld => ?_)
          clear hK K
          try simp only [Act.put, List.setIfInBounds_toArray, List.set_cons_zero, List.set_cons_succ]
          refine wpAnyH_take (i := 12) (oi := ⟨some 190, _, _, _, _, _⟩) (v := ?_) rfl (by kernel_rfl) (by kernel_rfl) (by kernel_rfl) (fun _ _ _ h => h) (Or.inl ⟨by kernel_rfl, ?_⟩) (by assumption) ?_
          rotate_left 1
          · intro w hSw; (try dsimp only at hSw); go_simp; try (with_reducible rfl)
          try simp only [Act.put, List.setIfInBounds_toArray, List.set_cons_zero, List.set_cons_succ]
          refine wpAnyH_take (i := 14) (oi := ⟨some 192, _, _, _, _, _⟩) (v := ?_) rfl (by kernel_rfl) (by kernel_rfl) (by kernel_rfl) (fun _ _ _ h => h) (Or.inl ⟨by kernel_rfl, ?_⟩) (by assumption) ?_
          rotate_left 1
          · intro w hSw; (try dsimp only at hSw); go_simp; try (with_reducible rfl)
          try simp only [Act.put, List.setIfInBounds_toArray, List.set_cons_zero, List.set_cons_succ]
          refine wpAnyH_take (i := 15) (oi := ⟨some 193, _, _, _, _, _⟩) (v := ?_) rfl (by kernel_rfl) (by kernel_rfl) (by kernel_rfl) (fun _ _ _ h => h) (Or.inl ⟨by kernel_rfl, ?_⟩) (by assumption) ?_
          rotate_left 1
          · intro w hSw; (try dsimp only at hSw); go_simp; try (with_reducible rfl)
          try simp only [Act.put, List.setIfInBounds_toArray, List.set_cons_zero, List.set_cons_succ]
          refine wpAnyH_take (i := 16) (oi := ⟨some 194, _, _, _, _, _⟩) (v := ?_) rfl (by kernel_rfl) (by kernel_rfl) (by kernel_rfl) (fun _ _ _ h => h) (Or.inl ⟨by kernel_rfl, ?_⟩) (by assumption) ?_
          rotate_left 1
          · intro w hSw; (try dsimp only at hSw); go_simp; try (with_reducible rfl)
          try simp only [Act.put, List.setIfInBounds_toArray, List.set_cons_zero, List.set_cons_succ]
          refine wpAnyH_take (i := 17) (oi := ⟨some 6, _, _, _, _, _⟩) (v := ?_) rfl (by kernel_rfl) (by kernel_rfl) (by kernel_rfl) (fun _ _ _ h => h) (Or.inl ⟨by kernel_rfl, ?_⟩) (by assumption) ?_
          rotate_left 1
          · intro w hSw; (try dsimp only at hSw); go_simp; try (with_reducible rfl)
          try simp only [Act.put, List.setIfInBounds_toArray, List.set_cons_zero, List.set_cons_succ]
          refine wpAnyH_done (by kernel_rfl) ?_ _
          refine NoPanic.normal ?_
          go_wp2_with fail
          go_ret
          exact ⟨rfl, HBA.out⟩
        · rw [prob_lit 1 (by decide), show strV (UInt8.ofNat (48 + 1) :: 32 :: listW) = .string ⟨#[49, 32, 108, 105, 115, 116]⟩ from rfl] at hc14
          have kw1 : IntKind.i64.wrap 49 = 49 := by decide
          have kw2 : IntKind.u8.wrap 49 = 49 := by decide
          have kq1 : (⟨#[49]⟩ : ByteArray) ++ ⟨#[32]⟩ = ⟨#[49, 32]⟩ := by decide
          have kq2 : (⟨#[49, 32]⟩ : ByteArray) ++ ⟨#[108, 105, 115, 116]⟩ = ⟨#[49, 32, 108, 105, 115, 116]⟩ := by decide
          have kcv := conv1
          have kcd := conv1d
          have hbA := HR14.out.below.drew.alloc (Nat.le_trans HR14.out.ge HR14.out.size) (.cells #[.int .u8 49] 5)
          have HBA := Lib.hid hbA
          have c0A : Hid (((w14.drew).alloc (.cells #[.int .u8 49] 5)).cell? ⟨bE, 0, none⟩ = some (.int .i64 1)) := Lib.hid (HR14.out.e.drew.alloc (o := .cells #[.int .u8 49] 5)).cells1
          have c14A : Hid (((w14.drew).alloc (.cells #[.int .u8 49] 5)).cell? ⟨g14, 0, none⟩ = some (.string ⟨#[49, 32, 108, 105, 115, 116]⟩)) := Lib.hid (cell_al _ (show w14.drew.cell? _ = _ from hc14))
          clear hbA
          refine wp_region_noPanic ?_
          refine wp_region_held_drew (S := (fun w' => w'.cell? ⟨g14, 0, none⟩ = some (.string ⟨#[49, 32, 108, 105, 115, 116]⟩) ∧ w'.cell? ⟨bE, 0, none⟩ = some (.int .i64 1))) (by kernel_rfl) ⟨hc14, c0⟩ (fun hHeld => ?_)
          refine wpAnyH_take (i := 0) (oi := ⟨some 178, _, _, _, _, _⟩) (v := ?_) rfl (by kernel_rfl) (by kernel_rfl) (by kernel_rfl) (fun _ _ _ h => h) (Or.inl ⟨by kernel_rfl, ?_⟩) (by assumption) ?_
          rotate_left 1
          · intro w hSw; (try dsimp only at hSw); go_simp; try (with_reducible rfl)
          try simp only [Act.put, List.setIfInBounds_toArray, List.set_cons_zero, List.set_cons_succ]
          refine wpAnyH_take (i := 1) (oi := ⟨some 179, _, _, _, _, _⟩) (v := ?_) rfl (by kernel_rfl) (by kernel_rfl) (by kernel_rfl) (fun _ _ _ h => h) (Or.inl ⟨by kernel_rfl, ?_⟩) (by assumption) ?_
          rotate_left 1
          · intro w hSw; (try dsimp only at hSw); go_simp; try (with_reducible rfl)
          try simp only [Act.put, List.setIfInBounds_toArray, List.set_cons_zero, List.set_cons_succ]
          refine wpAnyH_take (i := 2) (oi := ⟨some 180, _, _, _, _, _⟩) (v := ?_) rfl (by kernel_rfl) (by kernel_rfl) (by kernel_rfl) (fun _ _ _ h => h) (Or.inl ⟨by kernel_rfl, ?_⟩) (by assumption) ?_
          rotate_left 1
          · intro w hSw; (try dsimp only at hSw); go_simp; try (with_reducible rfl)
          try simp only [Act.put, List.setIfInBounds_toArray, List.set_cons_zero, List.set_cons_succ]
          refine wpAnyH_take (i := 3) (oi := ⟨some 181, _, _, _, _, _⟩) (v := ?_) rfl (by kernel_rfl) (by kernel_rfl) (by kernel_rfl) (fun _ _ _ h => h) (Or.inl ⟨by kernel_rfl, ?_⟩) (by assumption) ?_
          rotate_left 1
          · intro w hSw; (try dsimp only at hSw); go_simp; try (with_reducible rfl)
          try simp only [Act.put, List.setIfInBounds_toArray, List.set_cons_zero, List.set_cons_succ]
          refine wpAnyH_take (i := 4) (oi := ⟨some 182, _, _, _, _, _⟩) (v := ?_) rfl (by kernel_rfl) (by kernel_rfl) (by kernel_rfl) (fun _ _ _ h => h) (Or.inl ⟨by kernel_rfl, ?_⟩) (by assumption) ?_
          rotate_left 1
          · intro w hSw; (try dsimp only at hSw); go_simp; try (with_reducible rfl)
          try simp only [Act.put, List.setIfInBounds_toArray, List.set_cons_zero, List.set_cons_succ]
          refine wpAnyH_take (i := 5) (oi := ⟨some 183, _, _, _, _, _⟩) (v := ?_) rfl (by kernel_rfl) (by kernel_rfl) (by kernel_rfl) (fun _ _ _ h => h) (Or.inl ⟨by kernel_rfl, ?_⟩) (by assumption) ?_
          rotate_left 1
          · intro w hSw; (try dsimp only at hSw); go_simp; try (with_reducible rfl)
          try simp only [Act.put, List.setIfInBounds_toArray, List.set_cons_zero, List.set_cons_succ]
          refine wpAnyH_take (i := 6) (oi := ⟨some 184, _, _, _, _, _⟩) (v := ?_) rfl (by kernel_rfl) (by kernel_rfl) (by kernel_rfl) (fun _ _ _ h => h) (Or.inl ⟨by kernel_rfl, ?_⟩) (by assumption) ?_
          rotate_left 1
          · intro w hSw; (try dsimp only at hSw); go_simp; try (with_reducible rfl)
          try simp only [Act.put, List.setIfInBounds_toArray, List.set_cons_zero, List.set_cons_succ]
          refine wpAnyH_take (i := 7) (oi := ⟨some 185, _, _, _, _, _⟩) (v := ?_) rfl (by kernel_rfl) (by kernel_rfl) (by kernel_rfl) (fun _ _ _ h => h) (Or.inl ⟨by kernel_rfl, ?_⟩) (by assumption) ?_
          rotate_left 1
          · intro w hSw; (try dsimp only at hSw); go_simp; try (with_reducible rfl)
          try simp only [Act.put, List.setIfInBounds_toArray, List.set_cons_zero, List.set_cons_succ]
          refine wpAnyH_take (i := 8) (oi := ⟨some 186, _, _, _, _, _⟩) (v := ?_) rfl (by kernel_rfl) (by kernel_rfl) (by kernel_rfl) (fun _ _ _ h => h) (Or.inl ⟨by kernel_rfl, ?_⟩) (by assumption) ?_
          rotate_left 1
          · intro w hSw; (try dsimp only at hSw); go_simp; try (with_reducible rfl)
          try simp only [Act.put, List.setIfInBounds_toArray, List.set_cons_zero, List.set_cons_succ]
          refine wpAnyH_take (i := 9) (oi := ⟨some 187, _, _, _, _, _⟩) (v := ?_) rfl (by kernel_rfl) (by kernel_rfl) (by kernel_rfl) (fun _ _ _ h => h) (Or.inl ⟨by kernel_rfl, ?_⟩) (by assumption) ?_
          rotate_left 1
          · intro w hSw; (try dsimp only at hSw); go_simp; try (with_reducible rfl)
          try simp only [Act.put, List.setIfInBounds_toArray, List.set_cons_zero, List.set_cons_succ]
          refine wpAnyH_take (i := 13) (oi := ⟨some 191, _, _, _, _, _⟩) (v := ?_) rfl (by kernel_rfl) (by kernel_rfl) (by kernel_rfl) (fun _ _ _ h => h) (Or.inl ⟨by kernel_rfl, ?_⟩) (by assumption) ?_
          rotate_left 1
          · intro w hSw; (try dsimp only at hSw); go_simp; try (with_reducible rfl)
          try simp only [Act.put, List.setIfInBounds_toArray, List.set_cons_zero, List.set_cons_succ]
          refine wpAnyH_ready (rs := [10]) (by kernel_rfl) (by simp) ?_
          refine AllReadyH.cons (o := ⟨some 188, _, _, _, _, _⟩) rfl (fun K hK => ?_) AllReadyH.nil
          go_simp
          refine hK.out _ _ (by exact ⟨c14A.out, c0A.out⟩) (fun hHeld => ?_)
          clear hK K
          try simp only [Act.put, List.setIfInBounds_toArray, List.set_cons_zero, List.set_cons_succ]
          refine wpAnyH_ready (rs := [11]) (by kernel_rfl) (by simp) ?_
          refine AllReadyH.cons (o := ⟨some 189, _, _, _, _, _⟩) rfl (fun K hK => ?_) AllReadyH.nil
          go_simp
          refine hK.out _ _ (by exact ⟨c14A.out, c0A.out⟩) (fun hHeld => ?_)
          clear hK K
          try simp only [Act.put, List.setIfInBounds_toArray, List.set_cons_zero, List.set_cons_succ]
          refine wpAnyH_take (i := 12) (oi := ⟨some 190, _, _, _, _, _⟩) (v := ?_) rfl (by kernel_rfl) (by kernel_rfl) (by kernel_rfl) (fun _ _ _ h => h) (Or.inl ⟨by kernel_rfl, ?_⟩) (by assumption) ?_
          rotate_left 1
          · intro w hSw; (try dsimp only at hSw); go_simp; try (with_reducible rfl)
          try simp only [Act.put, List.setIfInBounds_toArray, List.set_cons_zero, List.set_cons_succ]
          refine wpAnyH_take (i := 14) (oi := ⟨some 192, _, _, _, _, _⟩) (v := ?_) rfl (by kernel_rfl) (by kernel_rfl) (by kernel_rfl) (fun _ _ _ h => h) (Or.inl ⟨by kernel_rfl, ?_⟩) (by assumption) ?_
          rotate_left 1
          · intro w hSw; (try dsimp only at hSw); go_simp; try (with_reducible rfl)
          try simp only [Act.put, List.setIfInBounds_toArray, List.set_cons_zero, List.set_cons_succ]
          refine wpAnyH_take (i := 15) (oi := ⟨some 193, _, _, _, _, _⟩) (v := ?_) rfl (by kernel_rfl) (by kernel_rfl) (by kernel_rfl) (fun _ _ _ h => h) (Or.inl ⟨by kernel_rfl, ?_⟩) (by assumption) ?_
          rotate_left 1
          · intro w hSw; (try dsimp only at hSw); go_simp; try (with_reducible rfl)
          try simp only [Act.put, List.setIfInBounds_toArray, List.set_cons_zero, List.set_cons_succ]
          refine wpAnyH_take (i := 16) (oi := ⟨some 194, _, _, _, _, _⟩) (v := ?_) rfl (by kernel_rfl) (by kernel_rfl) (by kernel_rfl) (fun _ _ _ h => h) (Or.inl ⟨by kernel_rfl, ?_⟩) (by assumption) ?_
          rotate_left 1
          · intro w hSw; (try dsimp only at hSw); go_simp; try (with_reducible rfl)
          try simp only [Act.put, List.setIfInBounds_toArray, List.set_cons_zero, List.set_cons_succ]
          refine wpAnyH_take (i := 17) (oi := ⟨some 6, _, _, _, _, _⟩) (v := ?_) rfl (by kernel_rfl) (by kernel_rfl) (by kernel_rfl) (fun _ _ _ h => h) (Or.inl ⟨by kernel_rfl, ?_⟩) (by assumption) ?_
          rotate_left 1
          · intro w hSw; (try dsimp only at hSw); go_simp; try (with_reducible rfl)
          try simp only [Act.put, List.setIfInBounds_toArray, List.set_cons_zero, List.set_cons_succ]
          refine wpAnyH_done (by kernel_rfl) ?_ _
          refine NoPanic.normal ?_
          go_wp2_with fail
          go_ret
          exact ⟨rfl, HBA.out⟩
end Go.Proofs.YtbppgicdmkkmnaaDoor
