/-
  Contract of PDU.Check.
-/
import Derived.Test.YtlkceignfhnpoaaGreatDoorPduNum
import Derived.Test.YtlkceignfhnpoaaGreatDoorPduV
import Derived.Deep.DeepCutAuto
set_option linter.unusedVariables false
set_option linter.unusedSimpArgs false
namespace Go.Proofs.YtlkceignfhnpoaaGreatDoor
open Go.RowKit


set_option maxHeartbeats 4000000 in
set_option maxRecDepth 100000 in
theorem check_any (k sq n ps mr : Int) (lv : Value) (l : List Int) (self : Bool) (d : ByteArray) (w : World)
    (hn : 0 ≤ n ∧ n < 4294967296) (hps : 0 ≤ ps ∧ ps < 4294967296) (hmr : 0 ≤ mr ∧ mr < 4294967296) (hl : IntsR .u32 w lv l) (hll : ∀ x ∈ l, 0 ≤ x ∧ x < 4294967296)
    (hd : d.size ≤ 1000000) (hlen : l.length ≤ 1000000) :
    Calls Tryz.prog 184 #[pduV k sq n ps mr lv self d] w fun e w' => e = .returned (.int .i64 (checkOf k sq n ps mr l self d.size)) ∧ Below w.heap.size w w' := by
  have HL := Lib.hid hl
  have HLL := Lib.hid hll
  obtain ⟨a, c, rfl, hc1, hm1, ha⟩ := hl.len
  have hlx : l.length % 2 < 2 := Nat.mod_lt _ (by decide)
  clear hll hl
  have HF : Hid (checkOf k sq n ps mr l self d.size = if sIs k = false then 10 else if bigB (sData k) d.size l.length = true then 6
    else if (listB (sList k) l.length && allB n ps mr l && someB (sData k) (sN k) (sPs k) (sMr k) (sSelf k) d.size n ps mr self && sqB (sSq k) sq) = true then 0 else 1) := Lib.hid rfl
  have HS : Hid (∀ w : World, Calls Tryz.prog 217 #[.int .i64 k] w fun e w' => e = .returned (.agg #[.int .i64 (sData k), .bool (sSq k), .bool (sN k), .int .i64 (sList k), .bool (sPs k), .bool (sMr k), .bool (sSelf k), .bool (sIs k)]) ∧ Below w.heap.size w w') := Lib.hid (fun w => shapeOf_any k w)
  generalize checkOf k sq n ps mr l self d.size = R at *
  generalize sData k = sd at *
  generalize sList k = sl at *
  generalize sSq k = bq at *
  generalize sN k = bn at *
  generalize sPs k = bp at *
  generalize sMr k = bm at *
  generalize sSelf k = bs at *
  generalize sIs k = bi at *
  unfold pduV
  go_enter Tryz.func184, Tryz.ntmps184
  go_wp2_with fail
  refine (HS.out _).mono ?_
  rintro e w1 ⟨rfl, hb⟩
  clear HS
  have hz : w.heap.size < w1.heap.size := by have := hb.size; simp at this; omega
  have hcl := fun b o h => bcell hb b o h
  have HB := Lib.hid (belAlloc hb (by simp))
  have HL1 := Lib.hid (HL.out.alloc.below hb (by simp))
  clear hb HL
  cases bi
  · go_wp2_with fail
    go_ret
    exact ⟨ret_int (by rw [HF.out]; rfl), HB.out.alloc (by omega) _⟩
  · go_upto_region 4 with fail
    go_cut [29] (fun v wx => v = .bool (bigB sd d.size l.length) ∧ wx = w1.alloc (.cells #[.int .i64 sd, .bool bq, .bool bn, .int .i64 sl, .bool bp, .bool bm, .bool bs, .bool true] 313))
    case first => as_aux_lemma =>
      go_wp2
      all_goals (go_meet; refine ⟨congrArg Value.bool ?_, rfl⟩; unfold bigB; rw [Bool.eq_iff_iff]; simp; omega)
    case rest =>
      obtain ⟨rfl, rfl⟩ := hcut
      cases hbig : bigB sd d.size l.length with
      | true =>
        have HG := Lib.hid hbig
        clear hbig
        go_wp2_with fail
        go_ret
        exact ⟨ret_int (by rw [HF.out, HG.out]; rfl), HB.out.alloc (by omega) _⟩
      | false =>
        have HG := Lib.hid hbig
        clear hbig
        go_upto_region 6 with fail
        go_cut [4] (fun v wx => v = .bool (listB sl l.length) ∧ wx = w1.alloc (.cells #[.int .i64 sd, .bool bq, .bool bn, .int .i64 sl, .bool bp, .bool bm, .bool bs, .bool true] 313))
        case first => as_aux_lemma =>
          go_wp2
          all_goals (go_meet; refine ⟨congrArg Value.bool ?_, rfl⟩; unfold listB; rw [Bool.eq_iff_iff]; simp; omega)
        case rest =>
          obtain ⟨rfl, rfl⟩ := hcut
          generalize hlb : listB sl l.length = lb at *
          clear hlb
          go_upto_region 7 with fail
          go_cut [5] (fun v wx => v = .bool (allB n ps mr l) ∧ wx = w1.alloc (.cells #[.int .i64 sd, .bool bq, .bool bn, .int .i64 sl, .bool bp, .bool bm, .bool bs, .bool true] 313))
          case first => as_aux_lemma =>
            have hall : allB n ps mr l = (lowB n && lowB ps && lowB mr && l.all lowB) := rfl
            have HA := Lib.hid hall
            clear hall
            generalize allB n ps mr l = ab at *
            go_wp2_with fail
            refine (low_any _ hn.1 hn.2 _).mono ?_
            rintro e w2 ⟨rfl, rfl⟩
            cases hx1 : lowB n with
            | false =>
              go_wp2_with fail
              go_meet
              exact ⟨congrArg Value.bool (by rw [HA.out, hx1]; rfl), rfl⟩
            | true =>
              have H1 := Lib.hid hx1
              clear hx1
              go_wp2_with fail
              refine (low_any _ hps.1 hps.2 _).mono ?_
              rintro e w2 ⟨rfl, rfl⟩
              cases hx2 : lowB ps with
              | false =>
                go_wp2_with fail
                go_meet
                exact ⟨congrArg Value.bool (by rw [HA.out, H1.out, hx2]; rfl), rfl⟩
              | true =>
                have H2 := Lib.hid hx2
                clear hx2
                go_wp2_with fail
                refine (low_any _ hmr.1 hmr.2 _).mono ?_
                rintro e w2 ⟨rfl, rfl⟩
                cases hx3 : lowB mr with
                | false =>
                  go_wp2_with fail
                  go_meet
                  exact ⟨congrArg Value.bool (by rw [HA.out, H1.out, H2.out, hx3]; rfl), rfl⟩
                | true =>
                  have H3 := Lib.hid hx3
                  clear hx3
                  go_wp2_with fail
                  refine (highs_any _ l _ HL1.out.alloc HLL.out).mono ?_
                  rintro e w2 ⟨rfl, rfl⟩
                  go_wp2_with fail
                  go_meet
                  exact ⟨congrArg Value.bool (by rw [HA.out, H1.out, H2.out, H3.out]; simp), rfl⟩
          case rest =>
            obtain ⟨rfl, rfl⟩ := hcut
            generalize hab : allB n ps mr l = ab at *
            clear hab
            go_upto_region 8 with fail
            go_cut [6] (fun v wx => v = .bool (someB sd bn bp bm bs d.size n ps mr self) ∧ wx = w1.alloc (.cells #[.int .i64 sd, .bool bq, .bool bn, .int .i64 sl, .bool bp, .bool bm, .bool bs, .bool true] 313))
            case first =>
              have he : d.toList.isEmpty = decide (d.size = 0) := by
                by_cases h : d.size = 0
                · rw [decide_eq_true h]; exact empty_bool h
                · rw [decide_eq_false h]; exact full_bool h
              obtain ⟨zn, hzn⟩ : ∃ b : Bool, (n == 0) = b := ⟨_, rfl⟩
              obtain ⟨zp, hzp⟩ : ∃ b : Bool, (ps == 0) = b := ⟨_, rfl⟩
              obtain ⟨zm, hzm⟩ : ∃ b : Bool, (mr == 0) = b := ⟨_, rfl⟩
              have HS : Hid (someB sd bn bp bm bs d.size n ps mr self = ((decide (0 < sd) || decide (d.size = 0)) && (bn || zn) && (bp || zp) && (bm || zm) && (bs || !self))) := Lib.hid (by
                rw [← hzn, ← hzp, ← hzm]; rfl)
              generalize decide (d.size = 0) = de at *
              generalize someB sd bn bp bm bs d.size n ps mr self = sb at *
              clear HF HG HB HL1 HLL hn hps hmr
              cases bn <;> cases bp
              all_goals (as_aux_lemma =>
                go_wp2
                all_goals (go_meet; exact ⟨congrArg Value.bool (by rw [HS.out]; first | (simp_all; done) | (simp_all; omega)), by simp only [*]⟩))
            case rest =>
              obtain ⟨rfl, rfl⟩ := hcut
              generalize hsb : someB sd bn bp bm bs d.size n ps mr self = sb at *
              clear hsb
              as_aux_lemma =>
              cases lb
              · go_wp2_with fail
                go_ret
                exact ⟨ret_int (by rw [HF.out, HG.out]; rfl), HB.out.alloc (by omega) _⟩
              cases ab
              · go_wp2_with fail
                go_ret
                exact ⟨ret_int (by rw [HF.out, HG.out]; rfl), HB.out.alloc (by omega) _⟩
              cases sb
              · go_wp2_with fail
                go_ret
                exact ⟨ret_int (by rw [HF.out, HG.out]; rfl), HB.out.alloc (by omega) _⟩
              have HF2 : Hid (R = if sqB bq sq = true then 0 else 1) := Lib.hid (by rw [HF.out, HG.out]; simp)
              clear HF
              by_cases hs0 : sq < 0
              · have hq : sqB bq sq = false := by unfold sqB; rw [decide_eq_false (by omega)]; rfl
                have HQ := Lib.hid hq
                clear hq
                go_wp2_with fail
                go_ret
                exact ⟨ret_int (by rw [HF2.out, HQ.out]; rfl), HB.out.alloc (by omega) _⟩
              by_cases hs1 : 255 < sq
              · have hq : sqB bq sq = false := by unfold sqB; rw [decide_eq_false (p := sq ≤ 255) (by omega)]; simp
                have HQ := Lib.hid hq
                clear hq
                go_wp2_with fail
                go_ret
                exact ⟨ret_int (by rw [HF2.out, HQ.out]; rfl), HB.out.alloc (by omega) _⟩
              cases bq
              · by_cases hs2 : sq = 0
                · subst hs2
                  go_wp2_with fail
                  go_ret
                  exact ⟨ret_int (by rw [HF2.out]; rfl), HB.out.alloc (by omega) _⟩
                · have hs3 : (sq != 0) = true := by simpa using hs2
                  have hq : sqB false sq = false := by unfold sqB; rw [decide_eq_false hs2]; simp
                  have HQ := Lib.hid hq
                  clear hq hs2
                  go_wp2_with fail
                  go_ret
                  exact ⟨ret_int (by rw [HF2.out, HQ.out]; rfl), HB.out.alloc (by omega) _⟩
              · have hq : sqB true sq = true := by unfold sqB; rw [decide_eq_true (p := 0 ≤ sq) (by omega), decide_eq_true (p := sq ≤ 255) (by omega)]; rfl
                have HQ := Lib.hid hq
                clear hq
                go_wp2_with fail
                go_ret
                exact ⟨ret_int (by rw [HF2.out, HQ.out]; rfl), HB.out.alloc (by omega) _⟩
end Go.Proofs.YtlkceignfhnpoaaGreatDoor
