/-
  Contract of the reference's Check (layer 6).
-/
import Derived.Test.YtohenohgceaibaaGreatDoorRefV
import Derived.Test.YtohenohgceaibaaGreatDoorRefPdu
import Derived.Test.YtohenohgceaibaaGreatDoorPlainRefCheck
import Derived.Deep.DeepCutAuto
set_option linter.unusedVariables false
set_option linter.unusedSimpArgs false
namespace Go.Proofs.YtohenohgceaibaaGreatDoor
open Go.RowKit

theorem rlow_dec (x : Int) (h : 0 ≤ x) (w : World) :
    Calls Tryz.prog 34 #[.int .i64 x] w fun e w' => e = .returned (.bool (decide (x < 16777216))) ∧ w = w' :=
  (rlow_any x w).mono fun e w' ⟨h1, h2⟩ => ⟨h1.trans (ret_bool (by unfold rlowB; simp [h])), h2⟩
theorem bne_dec (x y : Int) : (x != y) = decide (x ≠ y) := by rw [Bool.eq_iff_iff]; simp
set_option maxHeartbeats 4000000 in
set_option maxRecDepth 100000 in
theorem rcheck_raw (k sq n ps mr : Int) (lv : Value) (l : List Int) (self : Bool) (d : ByteArray) (w : World)
    (hn : 0 ≤ n) (hps : 0 ≤ ps) (hmr : 0 ≤ mr) (hl : IntsR .i64 w lv l) (hll : ∀ x ∈ l, 0 ≤ x) (hd : d.size ≤ 1000000) (hlen : l.length ≤ 1000000) :
    Calls Tryz.prog 11 #[refV k sq n ps mr lv self d] w fun e w' => e = .returned (.int .i64 (rcheckOf k sq n ps mr l self d.size)) ∧ Below w.heap.size w w' := by
  have HL := Lib.hid hl
  have HLL := Lib.hid hll
  obtain ⟨a, c, rfl, hc1, hm1, ha⟩ := hl.len
  clear hll hl
  have HF : Hid (rcheckOf k sq n ps mr l self d.size = if k < 1 ∨ 15 < k then 10 else if bigB (sData k) d.size l.length = true then 6
    else if rc6 (sData k) d.size n ps mr sq = true then 1 else if rc8 (sSq k) (sN k) k sq n self = true then 1 else if rc10 (sPs k) (sMr k) ps mr = true then 1
    else if rc12 k l.length = true then 1 else if rcAll l = true then 0 else 1) := Lib.hid rfl
  generalize rcheckOf k sq n ps mr l self d.size = R at *
  unfold refV
  by_cases hk0 : k < 1
  · go_enter Tryz.func11, Tryz.ntmps11
    go_wp2_with fail
    go_ret
    exact ⟨ret_int (by rw [HF.out, if_pos (Or.inl hk0)]), (Below.refl _ _).alloc (Nat.le_refl _) _⟩
  by_cases hk1 : 15 < k
  · go_enter Tryz.func11, Tryz.ntmps11
    go_wp2_with fail
    go_ret
    exact ⟨ret_int (by rw [HF.out, if_pos (Or.inr hk1)]), (Below.refl _ _).alloc (Nat.le_refl _) _⟩
  have HM := Lib.hid (Most_any k)
  have HQ := Lib.hid (HasSQ_any k)
  have HNN := Lib.hid (HasN_any k)
  have hsp : sPs k = decide (k ∈ ([10, 11] : List Int)) := by unfold sPs; rw [decide_eq_decide]; simp
  have hsm : sMr k = decide (k ∈ ([11, 12] : List Int)) := by unfold sMr; rw [decide_eq_decide]; simp
  have HP := Lib.hid (fun v w h => in_any k v [10, 11] w h)
  have HR := Lib.hid (fun v w h => in_any k v [11, 12] w h)
  rw [← hsp] at HP
  rw [← hsm] at HR
  clear hsp hsm
  have HF1 : Hid (R = if bigB (sData k) d.size l.length = true then 6
    else if rc6 (sData k) d.size n ps mr sq = true then 1 else if rc8 (sSq k) (sN k) k sq n self = true then 1 else if rc10 (sPs k) (sMr k) ps mr = true then 1
    else if rc12 k l.length = true then 1 else if rcAll l = true then 0 else 1) := Lib.hid (by rw [HF.out, if_neg (by omega)])
  clear HF
  generalize sData k = sd at *
  generalize sSq k = bq at *
  generalize sN k = bn at *
  generalize sPs k = bp at *
  generalize sMr k = bm at *
  go_enter Tryz.func11, Tryz.ntmps11
  have HBX0 := Lib.hid (BoxAt.new w 24 [.int .i64 k, .int .i64 sq, .int .i64 n, .int .i64 ps, .int .i64 mr, .slice a l.length c, .bool self, .string d])
  go_wp2_with fail
  refine (HM.out _).mono ?_
  rintro e w1 ⟨rfl, hb⟩
  have HBX := Lib.hid (HBX0.out.below hb (by simp))
  have HB := Lib.hid (belAlloc hb (by simp))
  have HL1 := Lib.hid (HL.out.alloc.below hb (by simp))
  have hp0 : w.heap.size < w1.heap.size := HBX.out.lt
  clear hb HM HBX0 HL
  obtain ⟨q0, q1, q2, q3, q4, q5, q6, q7⟩ := HBX.out.cells8
  go_upto_region 4 with fail
  go_cut [31] (fun v wx => v = .bool (bigB sd d.size l.length) ∧ wx = w1)
  case first => as_aux_lemma =>
    go_wp2
    all_goals (go_meet; refine ⟨congrArg Value.bool ?_, rfl⟩; unfold bigB; rw [Bool.eq_iff_iff]; simp; omega)
  case rest =>
    obtain ⟨rfl, rfl⟩ := hcut
    cases hbig : bigB sd d.size l.length with
    | true =>
      have HG := Lib.hid hbig
      clear hbig
      go_wp2_with fail
      go_ret
      exact ⟨ret_int (by rw [HF1.out, HG.out]; rfl), HB.out⟩
    | false =>
      have HF2 : Hid (R = if rc6 sd d.size n ps mr sq = true then 1 else if rc8 bq bn k sq n self = true then 1 else if rc10 bp bm ps mr = true then 1
        else if rc12 k l.length = true then 1 else if rcAll l = true then 0 else 1) := Lib.hid (by rw [HF1.out, hbig]; rfl)
      clear hbig HF1
      go_upto_region 6 with fail
      go_cut [66] (fun v wx => v = .bool (rc6 sd d.size n ps mr sq) ∧ wx = wc)
      case first =>
        clear HF2 HB HL1 HLL HQ HNN HP HR HBX
        by_cases hs0 : sd = 0
        · subst hs0
          by_cases hd0 : d.size = 0
          · obtain rfl : d = ⟨#[]⟩ := str_eq (by have h := List.eq_nil_of_length_eq_zero ((size_len d).trans hd0); rw [h])
            as_aux_lemma =>
              go_wp2_with (go_at_call 34; refine (rlow_dec _ (by omega) _).mono ?_; rintro e w2 ⟨rfl, rfl⟩)
              all_goals (go_meet; refine ⟨congrArg Value.bool ?_, rfl⟩; rw [show (⟨#[]⟩ : ByteArray).size = 0 from rfl]; unfold rc6; rw [Bool.eq_iff_iff]; simp; omega)
          · have he1 := full_bool hd0
            as_aux_lemma =>
              go_wp2_with (go_at_call 34; refine (rlow_dec _ (by omega) _).mono ?_; rintro e w2 ⟨rfl, rfl⟩)
              all_goals (go_meet; refine ⟨congrArg Value.bool ?_, rfl⟩; clear he1; generalize d.size = dl at *; unfold rc6; rw [Bool.eq_iff_iff]; simp; omega)
        · have hs1 : (sd == 0) = false := by simpa using hs0
          as_aux_lemma =>
            go_wp2_with (go_at_call 34; refine (rlow_dec _ (by omega) _).mono ?_; rintro e w2 ⟨rfl, rfl⟩)
            all_goals (go_meet; refine ⟨congrArg Value.bool ?_, rfl⟩; generalize d.size = dl at *; unfold rc6; rw [Bool.eq_iff_iff]; simp; omega)
      case rest =>
        obtain ⟨rfl, rfl⟩ := hcut
        cases h6 : rc6 sd d.size n ps mr sq with
        | true =>
          have HG := Lib.hid h6
          clear h6
          go_wp2_with fail
          go_ret
          exact ⟨ret_int (by rw [HF2.out, HG.out]; rfl), HB.out⟩
        | false =>
          have HF3 : Hid (R = if rc8 bq bn k sq n self = true then 1 else if rc10 bp bm ps mr = true then 1
            else if rc12 k l.length = true then 1 else if rcAll l = true then 0 else 1) := Lib.hid (by rw [HF2.out, h6]; rfl)
          clear h6 HF2
          go_upto_region 8 with fail
          go_cut [95] (fun v wx => v = .bool (rc8 bq bn k sq n self) ∧ Below wc.heap.size wc wx)
          case first =>
            have HBA := Lib.hid (Below.refl wc.heap.size wc)
            obtain ⟨z3, hz3⟩ : ∃ b : Bool, (k != 3) = b := ⟨_, rfl⟩
            obtain ⟨zs, hzs⟩ : ∃ b : Bool, (sq != 0) = b := ⟨_, rfl⟩
            obtain ⟨zn, hzn⟩ : ∃ b : Bool, (n != 0) = b := ⟨_, rfl⟩
            have H8 : Hid (rc8 bq bn k sq n self = ((!bq && zs) || (!bn && zn) || (z3 && self))) := Lib.hid (by unfold rc8; rw [← hz3, ← hzs, ← hzn, bne_dec, bne_dec, bne_dec])
            generalize rc8 bq bn k sq n self = r8 at *
            clear HF3 HB HL1 HLL HP HR
            as_aux_lemma =>
              go_wp2_with (first | (go_at_call 28; refine (HQ.out _).mono ?_; rintro e w2 ⟨rfl, hb⟩; have HBA : Hid (Below wc.heap.size wc w2) := Lib.hid (belSeq HBA.out hb); obtain ⟨q0, q1, q2, q3, q4, q5, q6, q7⟩ := (HBX.out.below HBA.out hp0).cells8; clear hb) | (go_at_call 29; refine (HNN.out _).mono ?_; rintro e w2 ⟨rfl, hb⟩; have HBA : Hid (Below wc.heap.size wc w2) := Lib.hid (belSeq HBA.out hb); obtain ⟨q0, q1, q2, q3, q4, q5, q6, q7⟩ := (HBX.out.below HBA.out hp0).cells8; clear hb))
              all_goals (go_meet; refine ⟨congrArg Value.bool ?_, HBA.out⟩; rw [H8.out]; simp_all)
          case rest =>
            obtain ⟨rfl, hbc⟩ := hcut
            have HBX8 := Lib.hid (HBX.out.below hbc hp0)
            have HB8 := Lib.hid (belSeq HB.out hbc)
            have HL8 := Lib.hid (HL1.out.below hbc (Nat.le_refl _))
            have hp8 : w.heap.size < wc.heap.size := HBX8.out.lt
            clear hbc HBX HB HL1 q0 q1 q2 q3 q4 q5 q6 q7 HQ HNN
            obtain ⟨q0, q1, q2, q3, q4, q5, q6, q7⟩ := HBX8.out.cells8
            cases h8 : rc8 bq bn k sq n self with
            | true =>
              have HG := Lib.hid h8
              clear h8
              go_wp2_with fail
              go_ret
              exact ⟨ret_int (by rw [HF3.out, HG.out]; rfl), HB8.out⟩
            | false =>
              have HF4 : Hid (R = if rc10 bp bm ps mr = true then 1
                else if rc12 k l.length = true then 1 else if rcAll l = true then 0 else 1) := Lib.hid (by rw [HF3.out, h8]; rfl)
              clear h8 HF3
              go_upto_region 10 with fail
              go_cut [117] (fun v wx => v = .bool (rc10 bp bm ps mr) ∧ Below wc.heap.size wc wx)
              case first =>
                obtain ⟨zp, hzp⟩ : ∃ b : Bool, (ps != 0) = b := ⟨_, rfl⟩
                obtain ⟨zm, hzm⟩ : ∃ b : Bool, (mr != 0) = b := ⟨_, rfl⟩
                have H10 : Hid (rc10 bp bm ps mr = ((!bp && zp) || (!bm && zm))) := Lib.hid (by unfold rc10; rw [← hzp, ← hzm, bne_dec, bne_dec])
                generalize rc10 bp bm ps mr = r10 at *
                clear HF4 HB8 HL8 HLL
                as_aux_lemma =>
                go_wp2_with fail
                refine (HP.out _ _ (by exact IntsR.lit .i64 _ _ (by simp) _ [10, 11] (by decide))).mono ?_
                rintro e w2 ⟨rfl, rfl⟩
                cases bp
                · cases zp
                  · go_wp2_with fail
                    refine (HR.out _ _ (by exact IntsR.lit .i64 _ _ (by simp) _ [11, 12] (by decide))).mono ?_
                    rintro e w2 ⟨rfl, rfl⟩
                    cases bm
                    · go_wp2_with fail
                      go_meet
                      exact ⟨congrArg Value.bool (by rw [H10.out]; simp), ((Below.refl _ _).alloc (Nat.le_refl _) _).alloc (by simp) _⟩
                    · go_wp2_with fail
                      go_meet
                      exact ⟨congrArg Value.bool (by rw [H10.out]; simp), ((Below.refl _ _).alloc (Nat.le_refl _) _).alloc (by simp) _⟩
                  · go_wp2_with fail
                    go_meet
                    exact ⟨congrArg Value.bool (by rw [H10.out]; simp), (Below.refl _ _).alloc (Nat.le_refl _) _⟩
                · go_wp2_with fail
                  refine (HR.out _ _ (by exact IntsR.lit .i64 _ _ (by simp) _ [11, 12] (by decide))).mono ?_
                  rintro e w2 ⟨rfl, rfl⟩
                  cases bm
                  · go_wp2_with fail
                    go_meet
                    exact ⟨congrArg Value.bool (by rw [H10.out]; simp), ((Below.refl _ _).alloc (Nat.le_refl _) _).alloc (by simp) _⟩
                  · go_wp2_with fail
                    go_meet
                    exact ⟨congrArg Value.bool (by rw [H10.out]; simp), ((Below.refl _ _).alloc (Nat.le_refl _) _).alloc (by simp) _⟩
              case rest =>
                obtain ⟨rfl, hbc⟩ := hcut
                have HBX10 := Lib.hid (HBX8.out.below hbc hp8)
                have HB10 := Lib.hid (belSeq HB8.out hbc)
                have HL10 := Lib.hid (HL8.out.below hbc (Nat.le_refl _))
                clear hbc HBX8 HB8 HL8 q0 q1 q2 q3 q4 q5 q6 q7 HP HR
                obtain ⟨q0, q1, q2, q3, q4, q5, q6, q7⟩ := HBX10.out.cells8
                cases h10 : rc10 bp bm ps mr with
                | true =>
                  have HG := Lib.hid h10
                  clear h10
                  go_wp2_with fail
                  go_ret
                  exact ⟨ret_int (by rw [HF4.out, HG.out]; rfl), HB10.out⟩
                | false =>
                  have HF5 : Hid (R = if rc12 k l.length = true then 1 else if rcAll l = true then 0 else 1) := Lib.hid (by rw [HF4.out, h10]; rfl)
                  clear h10 HF4
                  go_upto_region 12 with fail
                  go_cut [154] (fun v wx => v = .bool (rc12 k l.length) ∧ wx = wc)
                  case first =>
                    clear HF5 HB10 HL10 HLL HBX10
                    have hlx : l.length % 2 < 2 := Nat.mod_lt _ (by decide)
                    as_aux_lemma =>
                    by_cases h11 : k = 11
                    · subst h11
                      go_wp2
                      all_goals (go_meet; refine ⟨congrArg Value.bool ?_, rfl⟩; unfold rc12; rw [Bool.eq_iff_iff]; simp; omega)
                    by_cases h12 : k = 12
                    · subst h12
                      go_wp2
                      all_goals (go_meet; refine ⟨congrArg Value.bool ?_, rfl⟩; unfold rc12; rw [Bool.eq_iff_iff]; simp; omega)
                    · have e1 : (k == 11) = false := by simpa using h11
                      have e2 : (k == 12) = false := by simpa using h12
                      have e3 : (k != 11) = true := by simpa using h11
                      have e4 : (k != 12) = true := by simpa using h12
                      go_wp2
                      all_goals (go_meet; refine ⟨congrArg Value.bool ?_, rfl⟩; unfold rc12; rw [Bool.eq_iff_iff]; simp; omega)
                  case rest =>
                    obtain ⟨rfl, rfl⟩ := hcut
                    cases h12 : rc12 k l.length with
                    | true =>
                      have HG := Lib.hid h12
                      clear h12
                      go_wp2_with fail
                      go_ret
                      exact ⟨ret_int (by rw [HF5.out, HG.out]; rfl), HB10.out⟩
                    | false =>
                      have HF6 : Hid (R = if rcAll l = true then 0 else 1) := Lib.hid (by rw [HF5.out, h12]; rfl)
                      clear h12 HF5
                      go_wp2_with fail
                      clear q0 q1 q2 q3 q4 q5 q6 q7
                      go_loop [158, 5] (fun i _ => ∃ j : Nat, j ≤ l.length ∧ i = .int .i64 j ∧ Hid (∀ m (h : m < l.length), m < j → l[m] < 16777216)) (fun i _ => l.length - (intOf i).toNat)
                      case atStart => exact ⟨0, Nat.zero_le _, rfl, Lib.hid (fun m h hj => absurd hj (Nat.not_lt_zero _))⟩
                      case round =>
                        obtain ⟨j, hj, rfl, hno⟩ := hrel
                        by_cases hlt : j < l.length
                        · obtain ⟨b, o, rfl⟩ := ha (by omega)
                          have z1 := HL10.out.at j hlt
                          have hx0 := HLL.out l[j] (List.getElem_mem hlt)
                          by_cases hx : l[j] < 16777216
                          · have HN : Hid (∀ m (h : m < l.length), m < j + 1 → l[m] < 16777216) := Lib.hid (fun m h hm => by
                              by_cases e : m = j
                              · subst e; exact hx
                              · exact hno.out m h (by omega))
                            clear hno
                            generalize l[j] = x at *
                            go_wp2_with fail
                            refine (rlow_dec x hx0 _).mono ?_
                            rintro e w2 ⟨rfl, rfl⟩
                            rw [decide_eq_true hx]
                            go_wp2_with fail
                            go_round
                            case rel => exact ⟨j + 1, by omega, by go_num, HN⟩
                            case measure => simp [intOf]; omega
                          · have HG : Hid (rcAll l = false) := Lib.hid (by
                              rw [← Bool.not_eq_true, rcAll, List.all_eq_true]
                              intro h
                              have := h l[j] (List.getElem_mem hlt)
                              simp only [decide_eq_true_eq] at this
                              omega)
                            clear hno
                            generalize l[j] = x at *
                            go_wp2_with fail
                            refine (rlow_dec x hx0 _).mono ?_
                            rintro e w2 ⟨rfl, rfl⟩
                            rw [decide_eq_false (show ¬ x < 16777216 by omega)]
                            go_wp2_with fail
                            go_ret
                            exact ⟨ret_int (by rw [HF6.out, HG.out]; rfl), HB10.out⟩
                        · have HG : Hid (rcAll l = true) := Lib.hid (by
                            rw [rcAll, List.all_eq_true]
                            intro x hx
                            obtain ⟨m, hm, rfl⟩ := List.mem_iff_getElem.1 hx
                            exact decide_eq_true (hno.out m hm (by omega)))
                          clear hno
                          go_wp2_with fail
                          go_ret
                          exact ⟨ret_int (by rw [HF6.out, HG.out]; rfl), HB10.out⟩
theorem rcheck_any (k sq n ps mr : Int) (lv : Value) (l : List Int) (self : Bool) (d : ByteArray) (w : World)
    (hn : 0 ≤ n) (hps : 0 ≤ ps) (hmr : 0 ≤ mr) (hl : IntsR .i64 w lv l) (hll : ∀ x ∈ l, 0 ≤ x) (hd : d.size ≤ 1000000) (hlen : l.length ≤ 1000000) :
    Calls Tryz.prog 11 #[refV k sq n ps mr lv self d] w fun e w' => e = .returned (.int .i64 (checkOf k sq n ps mr l self d.size)) ∧ Below w.heap.size w w' := by
  rw [← rcheckOf_eq k sq n ps mr l self d.size hn hps hmr]
  exact rcheck_raw k sq n ps mr lv l self d w hn hps hmr hl hll hd hlen
end Go.Proofs.YtohenohgceaibaaGreatDoor
