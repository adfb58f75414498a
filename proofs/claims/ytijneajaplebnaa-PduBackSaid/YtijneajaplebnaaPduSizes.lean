/-
  The walk of the statement PduSizes.
-/
import Derived.Test.YtijneajaplebnaaAwake06
import Derived.Test.YtijneajaplebnaaPduOwn
import Derived.Test.YtijneajaplebnaaRefCheck
set_option linter.unusedVariables false
set_option linter.unusedSimpArgs false
namespace Go.Proofs.Ytijneajaplebnaa
open Go.RowKit
attribute [local go_sem ↓] Go.wp_at_zero Go.wp_at_succ

theorem wordsOf_length (k sq ps mr : Int) (l : List Int) : (wordsOf k sq ps mr l).length = (if sSq k then 1 else 0) + l.length + (if sPs k then 1 else 0) + (if sMr k then 1 else 0) := by
  unfold wordsOf
  simp only [List.length_append]
  cases sSq k <;> cases sPs k <;> cases sMr k <;> simp
theorem bytesOf_length (k sq n ps mr : Int) (l : List Int) (self : Bool) (d : List UInt8) : (bytesOf k sq n ps mr l self d).length = (d.length + 3) / 4 * 4 + 4 * (1 + (wordsOf k sq ps mr l).length) := by
  unfold bytesOf
  simp only [List.length_append, wordBytes_length, be4_length, Lib.repeatL_length]
  unfold padOf
  simp only [List.length_cons, List.length_nil]
  omega
theorem size_test (X D WD : Nat) (wd : Int) (hwd : wd = (WD : Int)) (hD : D ≤ 1000) (hW : WD ≤ 1000) (hX : X = (D + 3) / 4 * 4 + 4 * WD) :
    ((X : Int) == IntKind.i64.wrap (IntKind.i64.wrap (IntKind.i64.wrap (((D : Int) + 3).tdiv 4) * 4) + IntKind.i64.wrap (4 * wd))) = true := by
  subst hwd
  have h1 : ((D : Int) + 3).tdiv 4 = ((D : Int) + 3) / 4 := Int.tdiv_eq_ediv_of_nonneg (by omega)
  rw [h1, IntWalk.i64_in (((D : Int) + 3) / 4) (by omega), IntWalk.i64_in (((D : Int) + 3) / 4 * 4) (by omega), IntWalk.i64_in (4 * (WD : Int)) (by omega), IntWalk.i64_in _ (by omega), beq_iff_eq, hX]
  omega
theorem cl_all (l : List Int) : ∀ x ∈ (l.take 140).map cl, 0 ≤ x ∧ x < 4294967296 := by
  intro x hx
  obtain ⟨y, _, rfl⟩ := List.mem_map.1 hx
  exact cl_in y
theorem cl_ids (l : List Int) (h : ∀ x ∈ l, 0 ≤ x ∧ x < 4294967296) : l.map cl = l := by
  induction l with
  | nil => rfl
  | cons a t ih => rw [List.map_cons, cl_id (h a (by simp)).1 (h a (by simp)).2, ih (fun x hx => h x (by simp [hx]))]
theorem cutB_size (m : Nat) (d : ByteArray) : (cutB m d).size ≤ m := by
  unfold cutB; rw [size_arr]; exact List.length_take_le _ _
theorem belSeq2 {w w1 w2 : World} (h : Below w.heap.size w w1) (k : Below w1.heap.size w1 w2) : Below w.heap.size w w2 := belSeq h k
/-- Own at what Few leaves. -/
theorem own_few (k sq n ps mr : Int) (lv : Value) (l : List Int) (self : Bool) (d : ByteArray) (w : World) (hn : 0 ≤ n ∧ n < 4294967296) (hps : 0 ≤ ps ∧ ps < 4294967296) (hmr : 0 ≤ mr ∧ mr < 4294967296)
    (hl : IntsR .i64 w lv l) (hlen : l.length ≤ 1000000) (hll : ∀ x ∈ l, 0 ≤ x ∧ x < 4294967296) :
    Calls Try.prog 9 #[refV k sq n ps mr lv self d] w (fun e w' => ∃ lv', e = .returned (pduV k sq n ps mr lv' self d) ∧ IntsR .u32 w' lv' l ∧ Below w.heap.size w w') := by
  refine (own_any k sq n ps mr lv l self d w hl hlen).mono ?_
  rintro e w' ⟨lv', rfl, hI, hb⟩
  rw [cl_id hn.1 hn.2, cl_id hps.1 hps.2, cl_id hmr.1 hmr.2]
  rw [cl_ids l hll] at hI
  exact ⟨lv', rfl, hI, hb⟩

set_option maxRecDepth 100000 in
set_option maxHeartbeats 2000000 in
theorem pduSizes_any (k sq n ps mr : Int) (lv : Value) (l : List Int) (self : Bool) (d : ByteArray) (w : World) (hl : IntsR .i64 w lv l) (hd : d.size ≤ maxLen) :
    Calls Try.prog 5 #[refV k sq n ps mr lv self d] w fun e w' => e = .returned (.bool true) ∧ Below w.heap.size w w' := by
  have HL := Lib.hid hl
  clear hl
  have HAW := Lib.hid awake_any
  unfold refV
  go_enter Try.func5, Try.ntmps5
  have HBX0 := Lib.hid (BoxAt.new w 24 [.int .i64 k, .int .i64 sq, .int .i64 n, .int .i64 ps, .int .i64 mr, lv, .bool self, .string d])
  go_wp2_with fail
  refine (HAW.out _).mono ?_
  rintro e w1 ⟨rfl, hb⟩
  have HBX1 := Lib.hid (HBX0.out.below hb (by simp))
  have HB1 := Lib.hid (belAlloc hb (by simp))
  have HL1 := Lib.hid (HL.out.alloc.below hb (by simp))
  have hp1 := HBX1.out.lt
  clear hb HAW HBX0 HL
  obtain ⟨q0, q1, q2, q3, q4, q5, q6, q7⟩ := HBX1.out.cells8
  go_wp2_with fail
  refine (few_any k sq n ps mr lv l self d _ HL1.out hd).mono ?_
  rintro e w2 ⟨lv2, rfl, hown2, hb2⟩
  have HBX2 := Lib.hid (HBX1.out.below hb2 hp1)
  have HB2 := Lib.hid (belSeq HB1.out hb2)
  have HO2 := Lib.hid hown2
  have hll2 : ((l.take 140).map cl).length ≤ 140 := by simp; omega
  have HLL := Lib.hid (cl_all l)
  have hds := cutB_size 210 d
  have hN := cl_in n
  have hPS := cl_in ps
  have hMR := cl_in mr
  clear hb2 hown2 HBX1 HB1 HL1 q0 q1 q2 q3 q4 q5 q6 q7 hd
  generalize (l.take 140).map cl = L at *
  generalize cutB 210 d = D at *
  generalize cl n = N at *
  generalize cl ps = PS at *
  generalize cl mr = MR at *
  obtain ⟨a2, c2, rfl, hc2, hm2, ha2⟩ := (IntsR.of_owns HO2.out (by omega)).len
  unfold refV
  obtain ⟨q0, q1, q2, q3, q4, q5, q6, q7⟩ := HBX2.out.cells8
  obtain ⟨f0, f1, f2, f3, f4, f5, f6, f7⟩ := HBX2.out.frozs8
  have HBX3 : Hid (BoxAt ((((((((w2.setCell ⟨w.heap.size, 0, none⟩ (.int .i64 k)).setCell ⟨w.heap.size, 1, none⟩ (.int .i64 sq)).setCell ⟨w.heap.size, 2, none⟩ (.int .i64 N)).setCell ⟨w.heap.size, 3, none⟩ (.int .i64 PS)).setCell ⟨w.heap.size, 4, none⟩ (.int .i64 MR)).setCell ⟨w.heap.size, 5, none⟩ (.slice a2 L.length c2)).setCell ⟨w.heap.size, 6, none⟩ (.bool self)).setCell ⟨w.heap.size, 7, none⟩ (.string D)) w.heap.size 24 [.int .i64 k, .int .i64 sq, .int .i64 N, .int .i64 PS, .int .i64 MR, .slice a2 L.length c2, .bool self, .string D]) := Lib.hid ((((((((HBX2.out.set 0 _).set 1 _).set 2 _).set 3 _).set 4 _).set 5 _).set 6 _).set 7 _)
  have HB3 : Hid (Below w.heap.size w ((((((((w2.setCell ⟨w.heap.size, 0, none⟩ (.int .i64 k)).setCell ⟨w.heap.size, 1, none⟩ (.int .i64 sq)).setCell ⟨w.heap.size, 2, none⟩ (.int .i64 N)).setCell ⟨w.heap.size, 3, none⟩ (.int .i64 PS)).setCell ⟨w.heap.size, 4, none⟩ (.int .i64 MR)).setCell ⟨w.heap.size, 5, none⟩ (.slice a2 L.length c2)).setCell ⟨w.heap.size, 6, none⟩ (.bool self)).setCell ⟨w.heap.size, 7, none⟩ (.string D))) := Lib.hid ((((((((HB2.out.setCell (Nat.le_refl _) _).setCell (Nat.le_refl _) _).setCell (Nat.le_refl _) _).setCell (Nat.le_refl _) _).setCell (Nat.le_refl _) _).setCell (Nat.le_refl _) _).setCell (Nat.le_refl _) _).setCell (Nat.le_refl _) _)
  have HL3 : Hid (IntsR .i64 ((((((((w2.setCell ⟨w.heap.size, 0, none⟩ (.int .i64 k)).setCell ⟨w.heap.size, 1, none⟩ (.int .i64 sq)).setCell ⟨w.heap.size, 2, none⟩ (.int .i64 N)).setCell ⟨w.heap.size, 3, none⟩ (.int .i64 PS)).setCell ⟨w.heap.size, 4, none⟩ (.int .i64 MR)).setCell ⟨w.heap.size, 5, none⟩ (.slice a2 L.length c2)).setCell ⟨w.heap.size, 6, none⟩ (.bool self)).setCell ⟨w.heap.size, 7, none⟩ (.string D)) (.slice a2 L.length c2) L) := Lib.hid (by
    refine IntsR.of_owns (base := w1.heap.size) (E := 3) ?_ (by omega)
    repeat refine ownsRow_setCell_below ?_ (by simp; omega) _
    exact HO2.out)
  go_upto_region 4 with fail
  clear q0 q1 q2 q3 q4 q5 q6 q7 f0 f1 f2 f3 f4 f5 f6 f7 HBX2 HB2 HO2
  generalize ((((((((w2.setCell ⟨w.heap.size, 0, none⟩ (.int .i64 k)).setCell ⟨w.heap.size, 1, none⟩ (.int .i64 sq)).setCell ⟨w.heap.size, 2, none⟩ (.int .i64 N)).setCell ⟨w.heap.size, 3, none⟩ (.int .i64 PS)).setCell ⟨w.heap.size, 4, none⟩ (.int .i64 MR)).setCell ⟨w.heap.size, 5, none⟩ (.slice a2 L.length c2)).setCell ⟨w.heap.size, 6, none⟩ (.bool self)).setCell ⟨w.heap.size, 7, none⟩ (.string D)) = W at *
  have hpW := HBX3.out.lt
  obtain ⟨q0, q1, q2, q3, q4, q5, q6, q7⟩ := HBX3.out.cells8
  go_wp2_with fail
  refine (rcheck_any k sq N PS MR (.slice a2 L.length c2) L self D _ hN.1 hPS.1 hMR.1 HL3.out (fun x hx => (HLL.out x hx).1) (by omega) (by omega)).mono ?_
  rintro e w4 ⟨rfl, hb4⟩
  have HBX4 := Lib.hid (HBX3.out.below hb4 hpW)
  have HB4 := Lib.hid (belSeq HB3.out hb4)
  have HL4 := Lib.hid (HL3.out.below hb4 (Nat.le_refl _))
  have hp4 := HBX4.out.lt
  clear hb4 HBX3 HB3 HL3 q0 q1 q2 q3 q4 q5 q6 q7
  obtain ⟨q0, q1, q2, q3, q4, q5, q6, q7⟩ := HBX4.out.cells8
  by_cases hck : checkOf k sq N PS MR L self D.size = 0
  · have HCK := Lib.hid hck
    rw [hck]
    clear hck
    have HQ0 := Lib.hid (HasSQ_any k)
    by_cases h10 : k = 10
    · subst h10
      have HQ : Hid (∀ w : World, Calls Try.prog 16 #[.int .i64 10] w fun e w' => e = .returned (.bool false) ∧ Below w.heap.size w w') := HQ0
      clear HQ0
      as_aux_lemma =>
      go_wp2_with fail
      refine (HQ.out _).mono ?_
      rintro e w5 ⟨rfl, hb5⟩
      have HBX5 := Lib.hid (HBX4.out.below hb5 hp4)
      have HB5 := Lib.hid (belSeq HB4.out hb5)
      have HL5 := Lib.hid (HL4.out.below hb5 (Nat.le_refl _))
      have hp5 := HBX5.out.lt
      clear hb5 HBX4 HB4 HL4 q0 q1 q2 q3 q4 q5 q6 q7
      obtain ⟨q0, q1, q2, q3, q4, q5, q6, q7⟩ := HBX5.out.cells8
      go_wp2_with fail
      have HBA := Lib.hid (Below.refl w5.heap.size w5).drew
      have t1 : IntKind.i64.wrap ((D.size : Int) + 3) = (D.size : Int) + 3 := IntWalk.i64_in _ (by omega)
      go_region_held3 (fun w' => w'.cell? ⟨w.heap.size, 0, none⟩ = some (.int .i64 10) ∧ w'.cell? ⟨w.heap.size, 1, none⟩ = some (.int .i64 sq) ∧ w'.cell? ⟨w.heap.size, 2, none⟩ = some (.int .i64 N) ∧ w'.cell? ⟨w.heap.size, 3, none⟩ = some (.int .i64 PS) ∧ w'.cell? ⟨w.heap.size, 4, none⟩ = some (.int .i64 MR) ∧ w'.cell? ⟨w.heap.size, 5, none⟩ = some (.slice a2 L.length c2) ∧ w'.cell? ⟨w.heap.size, 6, none⟩ = some (.bool self) ∧ w'.cell? ⟨w.heap.size, 7, none⟩ = some (.string D)) (exact (HBX5.out.below HBA.out hp5).cells8) (first | ((go_at_call 9; refine (own_few 10 sq N PS MR (.slice a2 L.length c2) L self D _ hN hPS hMR (HL5.out.below HBA.out (Nat.le_refl _)) (by omega) HLL.out).mono ?_; rintro e w' ⟨lv6, rfl, hI6, hb6⟩; have HBA : Hid (Below w5.heap.size w5 w') := Lib.hid (belSeq2 HBA.out hb6); have HI := Lib.hid hI6; clear hI6 hb6)) | ((go_at_call 12; refine (bytes_ok 10 sq N PS MR _ L self D _ hN.1 hPS.1 hMR.1 HI.out (fun x hx => (HLL.out x hx).1) HCK.out).mono ?_; rintro e w' ⟨rfl, hb7⟩; have HBA : Hid (Below w5.heap.size w5 w') := Lib.hid (belSeq2 HBA.out hb7); clear hb7)))
      all_goals
        go_wp2_with fail
        go_ret
        refine ⟨ret_bool (size_test _ D.size (1 + L.length + 1) _ (by simp) (by omega) (by omega) ?_), belSeq HB5.out HBA.out⟩
        rw [bytesOf_length, wordsOf_length, size_len]
        rw [show sSq 10 = false from rfl, show sPs 10 = true from rfl, show sMr 10 = false from rfl]; simp only [if_true, if_false, Bool.false_eq_true]; omega
    by_cases h11 : k = 11
    · subst h11
      have HQ : Hid (∀ w : World, Calls Try.prog 16 #[.int .i64 11] w fun e w' => e = .returned (.bool false) ∧ Below w.heap.size w w') := HQ0
      clear HQ0
      as_aux_lemma =>
      go_wp2_with fail
      refine (HQ.out _).mono ?_
      rintro e w5 ⟨rfl, hb5⟩
      have HBX5 := Lib.hid (HBX4.out.below hb5 hp4)
      have HB5 := Lib.hid (belSeq HB4.out hb5)
      have HL5 := Lib.hid (HL4.out.below hb5 (Nat.le_refl _))
      have hp5 := HBX5.out.lt
      clear hb5 HBX4 HB4 HL4 q0 q1 q2 q3 q4 q5 q6 q7
      obtain ⟨q0, q1, q2, q3, q4, q5, q6, q7⟩ := HBX5.out.cells8
      go_wp2_with fail
      have HBA := Lib.hid (Below.refl w5.heap.size w5).drew
      have t1 : IntKind.i64.wrap ((D.size : Int) + 3) = (D.size : Int) + 3 := IntWalk.i64_in _ (by omega)
      go_region_held3 (fun w' => w'.cell? ⟨w.heap.size, 0, none⟩ = some (.int .i64 11) ∧ w'.cell? ⟨w.heap.size, 1, none⟩ = some (.int .i64 sq) ∧ w'.cell? ⟨w.heap.size, 2, none⟩ = some (.int .i64 N) ∧ w'.cell? ⟨w.heap.size, 3, none⟩ = some (.int .i64 PS) ∧ w'.cell? ⟨w.heap.size, 4, none⟩ = some (.int .i64 MR) ∧ w'.cell? ⟨w.heap.size, 5, none⟩ = some (.slice a2 L.length c2) ∧ w'.cell? ⟨w.heap.size, 6, none⟩ = some (.bool self) ∧ w'.cell? ⟨w.heap.size, 7, none⟩ = some (.string D)) (exact (HBX5.out.below HBA.out hp5).cells8) (first | ((go_at_call 9; refine (own_few 11 sq N PS MR (.slice a2 L.length c2) L self D _ hN hPS hMR (HL5.out.below HBA.out (Nat.le_refl _)) (by omega) HLL.out).mono ?_; rintro e w' ⟨lv6, rfl, hI6, hb6⟩; have HBA : Hid (Below w5.heap.size w5 w') := Lib.hid (belSeq2 HBA.out hb6); have HI := Lib.hid hI6; clear hI6 hb6)) | ((go_at_call 12; refine (bytes_ok 11 sq N PS MR _ L self D _ hN.1 hPS.1 hMR.1 HI.out (fun x hx => (HLL.out x hx).1) HCK.out).mono ?_; rintro e w' ⟨rfl, hb7⟩; have HBA : Hid (Below w5.heap.size w5 w') := Lib.hid (belSeq2 HBA.out hb7); clear hb7)))
      all_goals
        go_wp2_with fail
        go_ret
        refine ⟨ret_bool (size_test _ D.size (1 + L.length + 1 + 1) _ (by simp) (by omega) (by omega) ?_), belSeq HB5.out HBA.out⟩
        rw [bytesOf_length, wordsOf_length, size_len]
        rw [show sSq 11 = false from rfl, show sPs 11 = true from rfl, show sMr 11 = true from rfl]; simp only [if_true, if_false, Bool.false_eq_true]; omega
    by_cases h12 : k = 12
    · subst h12
      have HQ : Hid (∀ w : World, Calls Try.prog 16 #[.int .i64 12] w fun e w' => e = .returned (.bool false) ∧ Below w.heap.size w w') := HQ0
      clear HQ0
      as_aux_lemma =>
      go_wp2_with fail
      refine (HQ.out _).mono ?_
      rintro e w5 ⟨rfl, hb5⟩
      have HBX5 := Lib.hid (HBX4.out.below hb5 hp4)
      have HB5 := Lib.hid (belSeq HB4.out hb5)
      have HL5 := Lib.hid (HL4.out.below hb5 (Nat.le_refl _))
      have hp5 := HBX5.out.lt
      clear hb5 HBX4 HB4 HL4 q0 q1 q2 q3 q4 q5 q6 q7
      obtain ⟨q0, q1, q2, q3, q4, q5, q6, q7⟩ := HBX5.out.cells8
      go_wp2_with fail
      have HBA := Lib.hid (Below.refl w5.heap.size w5).drew
      have t1 : IntKind.i64.wrap ((D.size : Int) + 3) = (D.size : Int) + 3 := IntWalk.i64_in _ (by omega)
      go_region_held3 (fun w' => w'.cell? ⟨w.heap.size, 0, none⟩ = some (.int .i64 12) ∧ w'.cell? ⟨w.heap.size, 1, none⟩ = some (.int .i64 sq) ∧ w'.cell? ⟨w.heap.size, 2, none⟩ = some (.int .i64 N) ∧ w'.cell? ⟨w.heap.size, 3, none⟩ = some (.int .i64 PS) ∧ w'.cell? ⟨w.heap.size, 4, none⟩ = some (.int .i64 MR) ∧ w'.cell? ⟨w.heap.size, 5, none⟩ = some (.slice a2 L.length c2) ∧ w'.cell? ⟨w.heap.size, 6, none⟩ = some (.bool self) ∧ w'.cell? ⟨w.heap.size, 7, none⟩ = some (.string D)) (exact (HBX5.out.below HBA.out hp5).cells8) (first | ((go_at_call 9; refine (own_few 12 sq N PS MR (.slice a2 L.length c2) L self D _ hN hPS hMR (HL5.out.below HBA.out (Nat.le_refl _)) (by omega) HLL.out).mono ?_; rintro e w' ⟨lv6, rfl, hI6, hb6⟩; have HBA : Hid (Below w5.heap.size w5 w') := Lib.hid (belSeq2 HBA.out hb6); have HI := Lib.hid hI6; clear hI6 hb6)) | ((go_at_call 12; refine (bytes_ok 12 sq N PS MR _ L self D _ hN.1 hPS.1 hMR.1 HI.out (fun x hx => (HLL.out x hx).1) HCK.out).mono ?_; rintro e w' ⟨rfl, hb7⟩; have HBA : Hid (Below w5.heap.size w5 w') := Lib.hid (belSeq2 HBA.out hb7); clear hb7)))
      all_goals
        go_wp2_with fail
        go_ret
        refine ⟨ret_bool (size_test _ D.size (1 + L.length + 1) _ (by simp) (by omega) (by omega) ?_), belSeq HB5.out HBA.out⟩
        rw [bytesOf_length, wordsOf_length, size_len]
        rw [show sSq 12 = false from rfl, show sPs 12 = false from rfl, show sMr 12 = true from rfl]; simp only [if_true, if_false, Bool.false_eq_true]; omega
    have e10 : (k == 10) = false := by simpa using h10
    have e11 : (k == 11) = false := by simpa using h11
    have e12 : (k == 12) = false := by simpa using h12
    have HP : Hid (sPs k = false) := Lib.hid (by unfold sPs; exact decide_eq_false (by omega))
    have HM : Hid (sMr k = false) := Lib.hid (by unfold sMr; exact decide_eq_false (by omega))
    clear h10 h11 h12
    cases hsq : sSq k with
    | true =>
      have HQ : Hid (∀ w : World, Calls Try.prog 16 #[.int .i64 k] w fun e w' => e = .returned (.bool true) ∧ Below w.heap.size w w') := Lib.hid (by rw [← hsq]; exact HQ0.out)
      have HSQ := Lib.hid hsq
      clear HQ0 hsq
      as_aux_lemma =>
      go_wp2_with fail
      refine (HQ.out _).mono ?_
      rintro e w5 ⟨rfl, hb5⟩
      have HBX5 := Lib.hid (HBX4.out.below hb5 hp4)
      have HB5 := Lib.hid (belSeq HB4.out hb5)
      have HL5 := Lib.hid (HL4.out.below hb5 (Nat.le_refl _))
      have hp5 := HBX5.out.lt
      clear hb5 HBX4 HB4 HL4 q0 q1 q2 q3 q4 q5 q6 q7
      obtain ⟨q0, q1, q2, q3, q4, q5, q6, q7⟩ := HBX5.out.cells8
      go_wp2_with fail
      have HBA := Lib.hid (Below.refl w5.heap.size w5).drew
      have t1 : IntKind.i64.wrap ((D.size : Int) + 3) = (D.size : Int) + 3 := IntWalk.i64_in _ (by omega)
      go_region_held3 (fun w' => w'.cell? ⟨w.heap.size, 0, none⟩ = some (.int .i64 k) ∧ w'.cell? ⟨w.heap.size, 1, none⟩ = some (.int .i64 sq) ∧ w'.cell? ⟨w.heap.size, 2, none⟩ = some (.int .i64 N) ∧ w'.cell? ⟨w.heap.size, 3, none⟩ = some (.int .i64 PS) ∧ w'.cell? ⟨w.heap.size, 4, none⟩ = some (.int .i64 MR) ∧ w'.cell? ⟨w.heap.size, 5, none⟩ = some (.slice a2 L.length c2) ∧ w'.cell? ⟨w.heap.size, 6, none⟩ = some (.bool self) ∧ w'.cell? ⟨w.heap.size, 7, none⟩ = some (.string D)) (exact (HBX5.out.below HBA.out hp5).cells8) (first | ((go_at_call 9; refine (own_few k sq N PS MR (.slice a2 L.length c2) L self D _ hN hPS hMR (HL5.out.below HBA.out (Nat.le_refl _)) (by omega) HLL.out).mono ?_; rintro e w' ⟨lv6, rfl, hI6, hb6⟩; have HBA : Hid (Below w5.heap.size w5 w') := Lib.hid (belSeq2 HBA.out hb6); have HI := Lib.hid hI6; clear hI6 hb6)) | ((go_at_call 12; refine (bytes_ok k sq N PS MR _ L self D _ hN.1 hPS.1 hMR.1 HI.out (fun x hx => (HLL.out x hx).1) HCK.out).mono ?_; rintro e w' ⟨rfl, hb7⟩; have HBA : Hid (Below w5.heap.size w5 w') := Lib.hid (belSeq2 HBA.out hb7); clear hb7)))
      all_goals
        go_wp2_with fail
        go_ret
        refine ⟨ret_bool (size_test _ D.size (1 + L.length + 1) _ (by simp) (by omega) (by omega) ?_), belSeq HB5.out HBA.out⟩
        rw [bytesOf_length, wordsOf_length, size_len]
        rw [HSQ.out, HP.out, HM.out]; simp only [if_true, if_false, Bool.false_eq_true]; omega
    | false =>
      have HQ : Hid (∀ w : World, Calls Try.prog 16 #[.int .i64 k] w fun e w' => e = .returned (.bool false) ∧ Below w.heap.size w w') := Lib.hid (by rw [← hsq]; exact HQ0.out)
      have HSQ := Lib.hid hsq
      clear HQ0 hsq
      as_aux_lemma =>
      go_wp2_with fail
      refine (HQ.out _).mono ?_
      rintro e w5 ⟨rfl, hb5⟩
      have HBX5 := Lib.hid (HBX4.out.below hb5 hp4)
      have HB5 := Lib.hid (belSeq HB4.out hb5)
      have HL5 := Lib.hid (HL4.out.below hb5 (Nat.le_refl _))
      have hp5 := HBX5.out.lt
      clear hb5 HBX4 HB4 HL4 q0 q1 q2 q3 q4 q5 q6 q7
      obtain ⟨q0, q1, q2, q3, q4, q5, q6, q7⟩ := HBX5.out.cells8
      go_wp2_with fail
      have HBA := Lib.hid (Below.refl w5.heap.size w5).drew
      have t1 : IntKind.i64.wrap ((D.size : Int) + 3) = (D.size : Int) + 3 := IntWalk.i64_in _ (by omega)
      go_region_held3 (fun w' => w'.cell? ⟨w.heap.size, 0, none⟩ = some (.int .i64 k) ∧ w'.cell? ⟨w.heap.size, 1, none⟩ = some (.int .i64 sq) ∧ w'.cell? ⟨w.heap.size, 2, none⟩ = some (.int .i64 N) ∧ w'.cell? ⟨w.heap.size, 3, none⟩ = some (.int .i64 PS) ∧ w'.cell? ⟨w.heap.size, 4, none⟩ = some (.int .i64 MR) ∧ w'.cell? ⟨w.heap.size, 5, none⟩ = some (.slice a2 L.length c2) ∧ w'.cell? ⟨w.heap.size, 6, none⟩ = some (.bool self) ∧ w'.cell? ⟨w.heap.size, 7, none⟩ = some (.string D)) (exact (HBX5.out.below HBA.out hp5).cells8) (first | ((go_at_call 9; refine (own_few k sq N PS MR (.slice a2 L.length c2) L self D _ hN hPS hMR (HL5.out.below HBA.out (Nat.le_refl _)) (by omega) HLL.out).mono ?_; rintro e w' ⟨lv6, rfl, hI6, hb6⟩; have HBA : Hid (Below w5.heap.size w5 w') := Lib.hid (belSeq2 HBA.out hb6); have HI := Lib.hid hI6; clear hI6 hb6)) | ((go_at_call 12; refine (bytes_ok k sq N PS MR _ L self D _ hN.1 hPS.1 hMR.1 HI.out (fun x hx => (HLL.out x hx).1) HCK.out).mono ?_; rintro e w' ⟨rfl, hb7⟩; have HBA : Hid (Below w5.heap.size w5 w') := Lib.hid (belSeq2 HBA.out hb7); clear hb7)))
      all_goals
        go_wp2_with fail
        go_ret
        refine ⟨ret_bool (size_test _ D.size (1 + L.length) _ (by simp) (by omega) (by omega) ?_), belSeq HB5.out HBA.out⟩
        rw [bytesOf_length, wordsOf_length, size_len]
        rw [HSQ.out, HP.out, HM.out]; simp only [if_true, if_false, Bool.false_eq_true]; omega
  · have HCK := Lib.hid hck
    have hck2 : (checkOf k sq N PS MR L self D.size != 0) = true := by simpa using hck
    clear hck
    obtain ⟨C, hC⟩ : ∃ C, checkOf k sq N PS MR L self D.size = C := ⟨_, rfl⟩
    rw [hC] at hck2 ⊢
    clear hC
    go_wp2_with fail
    refine (own_few k sq N PS MR (.slice a2 L.length c2) L self D _ hN hPS hMR HL4.out (by omega) HLL.out).mono ?_
    rintro e w5 ⟨lv5, rfl, hI5, hb5⟩
    go_wp2_with fail
    refine (bytes_bad k sq N PS MR lv5 L self D _ hN hPS hMR hI5 HLL.out (by omega) (by omega) HCK.out).mono ?_
    rintro e w6 ⟨rfl, hb6⟩
    go_wp2_with fail
    go_ret
    exact ⟨rfl, belSeq (belSeq HB4.out hb5) hb6⟩
end Go.Proofs.Ytijneajaplebnaa
