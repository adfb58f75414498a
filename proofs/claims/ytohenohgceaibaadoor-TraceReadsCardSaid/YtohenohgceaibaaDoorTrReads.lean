/-
  The walk of the statement TraceReads.
-/
import Derived.Test.YtohenohgceaibaaDoorTrAwake
import Derived.Test.YtohenohgceaibaaDoorPduFewLaw
set_option linter.unusedVariables false
set_option linter.unusedSimpArgs false
namespace Go.Proofs.YtohenohgceaibaaDoor
open Go.RowKit

theorem fields_rng {M : Nat} : ∀ (t : List UInt8) (ws : List (List UInt8)) (p q : Pd), (∀ x ∈ t, x ∈ letters) → (∀ w ∈ ws, w.length ≤ M) → Rng M p → fieldsOf t ws p = some q → Rng M q
  | [], ws, p, q, _, _, hp, h => by cases ws <;> (simp only [fieldsOf] at h; cases h; exact hp)
  | c :: t, [], p, q, _, _, hp, h => by simp [fieldsOf] at h
  | c :: t, w :: ws, p, q, ht, hw, hp, h => by
    simp only [fieldsOf] at h
    cases hq : takeF c w p with
    | none => rw [hq] at h; cases h
    | some r =>
      rw [hq] at h
      exact fields_rng t ws r q (fun x hx => ht x (by simp [hx])) (fun x hx => hw x (by simp [hx])) (takeF_rng (ht c (by simp)) (hw w (by simp)) hp hq) h
theorem parse_rng (s : List UInt8) (p : Pd) (h : parseT s = some p) : Rng s.length p := by
  unfold parseT at h
  rw [parse_res] at h
  split at h
  · cases h
  · obtain ⟨q, hq, h2⟩ := Option.bind_eq_some_iff.1 h
    split at h2
    · cases h2
      exact fields_rng _ _ _ _ (has_letters _) (fun w hw => rest_mem (fun x hx => splitBy_le 32 s x hx) w (List.mem_of_mem_tail hw)) ⟨by simp, by simp, by simp, by simp, by simp, by simp, by simp⟩ hq
    · cases h2
set_option maxRecDepth 100000 in
set_option maxHeartbeats 2000000 in
theorem traceReads_any (a : ByteArray) (ha : a.size ≤ maxLen) (w : World) (he : Env w) :
    Calls Tryd.prog 3 #[.string a] w fun e w' => e = .returned (.bool true) ∧ Below w.heap.size w w' := by
  have HE := Lib.hid he
  have HAW := Lib.hid awake19
  have HCA : Hid (∀ W : World, Calls Tryd.prog 7 #[.string a, .int .i64 600] W fun e w' => e = .returned (.string (cutB 600 a)) ∧ W = w') := Lib.hid (fun W => cut_any a 600 W ha (by omega))
  have hsa := cutB_size 600 a
  generalize cutB 600 a = A at *
  have HPT := Lib.hid (fun W h => parse_txt A W (by omega) h)
  clear he
  go_enter Tryd.func3, Tryd.ntmps3
  go_wp2_with fail
  refine (HAW.out _ HE.out).mono ?_
  rintro e w1 ⟨rfl, hb1⟩
  have HB1 := Lib.hid hb1
  clear hb1
  go_wp2_with fail
  refine (HCA.out _).mono ?_
  rintro e w1' ⟨rfl, rfl⟩
  go_wp2_with fail
  refine (HPT.out _ (HE.out.below HB1.out)).mono ?_
  rintro e w2 ⟨hb2, hpost⟩
  have HB2 := Lib.hid (belSeq HB1.out hb2)
  have HE2 := Lib.hid (HE.out.below HB2.out)
  clear hb2 HB1 HE
  cases hp : parseT A.data.toList with
  | none =>
    rw [hp] at hpost
    simp only at hpost
    subst hpost
    unfold pduP cellsP
    clear hp
    go_wp2_with fail
    go_ret
    exact ⟨rfl, HB2.out.alloc HB2.out.size _⟩
  | some p =>
    rw [hp] at hpost
    obtain ⟨lv, rfl, ho⟩ := hpost
    obtain ⟨hu, hc⟩ := unit_parse _ _ hp
    have hr := parse_rng _ _ hp
    clear hp
    obtain ⟨k, sq, n, ps, mr, l, self, d⟩ := p
    obtain ⟨_, hn, hps, hmr, hl, hll, hd⟩ := hr
    rw [size_len] at hll hd
    simp only at hn hps hmr hl hll hd ho
    have HI := Lib.hid (IntsR.of_owns ho (by omega))
    clear ho
    obtain ⟨al, cl', rfl, _, _, _⟩ := HI.out.len
    unfold ckOf at hc
    simp only at hc
    unfold pduP cellsP
    simp only
    have HUN : Hid (∀ W, Env W → IntsR .u32 W (.slice al l.length cl') l → Calls Tryd.prog 9 #[.agg #[.int .i64 k, .int .i64 sq, .int .u32 n, .int .u32 ps, .int .u32 mr, .slice al l.length cl', .bool self, .string ⟨d.toArray⟩]] W fun e w' => e = .returned (.string A) ∧ Below W.heap.size W w') := Lib.hid (fun W h hI => by
      have := unit_ok k sq n ps mr (.slice al l.length cl') l self ⟨d.toArray⟩ W hn.1 hps.1 hmr.1 hI (fun x hx => (hl x hx).1) (by rw [size_arr]; exact hc) h
      rwa [show (⟨(unitText ⟨k, sq, n, ps, mr, l, self, (⟨d.toArray⟩ : ByteArray).data.toList⟩).toArray⟩ : ByteArray) = A from str_eq (by simpa using hu)] at this)
    have HCK : Hid (∀ W, IntsR .u32 W (.slice al l.length cl') l → Calls Tryd.prog 10 #[.agg #[.int .i64 k, .int .i64 sq, .int .u32 n, .int .u32 ps, .int .u32 mr, .slice al l.length cl', .bool self, .string ⟨d.toArray⟩]] W fun e w' => e = .returned (.int .i64 0) ∧ Below W.heap.size W w') := Lib.hid (fun W hI => by
      have := check_any k sq n ps mr (.slice al l.length cl') l self ⟨d.toArray⟩ W (by omega) (by omega) (by omega) hI (fun x hx => by have := hl x hx; omega) (by rw [size_arr]; omega) (by omega)
      rwa [show checkOf k sq n ps mr l self (⟨d.toArray⟩ : ByteArray).size = 0 by rw [size_arr]; exact hc] at this)
    clear hu hc hl
    have HX := Lib.hid (BoxAt.new w2 28 [.int .i64 k, .int .i64 sq, .int .u32 n, .int .u32 ps, .int .u32 mr, .slice al l.length cl', .bool self, .string ⟨d.toArray⟩])
    generalize (⟨d.toArray⟩ : ByteArray) = D at *
    go_wp2_with fail
    refine (HUN.out _ HE2.out.alloc HI.out.alloc).mono ?_
    rintro e w3 ⟨rfl, hb3⟩
    have HB3 := Lib.hid (belSeq HB2.out (belAlloc hb3 (by simp)))
    have HI3 := Lib.hid (HI.out.alloc.below hb3 (Nat.le_refl _))
    obtain ⟨q0, q1, q2, q3, q4, q5, q6, q7⟩ := (HX.out.below hb3 (by simp)).cells8
    clear hb3 HX HI HB2
    go_wp2_with fail
    refine (HCK.out _ HI3.out).mono ?_
    rintro e w4 ⟨rfl, hb4⟩
    have HB4 := Lib.hid (belSeq HB3.out hb4)
    clear hb4
    go_wp2_with fail
    go_ret
    exact ⟨rfl, HB4.out⟩
end Go.Proofs.YtohenohgceaibaaDoor
