/-
  Contract of PDU.words.
-/
import Derived.Test.YtlkceignfhnpoaaGreatDoorOwnInts
import Derived.Deep.DeepCutAuto
set_option linter.unusedVariables false
set_option linter.unusedSimpArgs false
namespace Go.Proofs.YtlkceignfhnpoaaGreatDoor
open Go.RowKit

def wordsOf (k sq ps mr : Int) (l : List Int) : List Int := (if sSq k then [sq] else []) ++ l ++ (if sPs k then [ps] else []) ++ (if sMr k then [mr] else [])
/-- What has been collected so far. -/
def AppR (W0 : World) (B : Nat) (v : Value) (ns : List Int) (wx : World) : Prop := wx.ownsRow B 35 1 v ns.length (ns.map (Value.int .u32)) ∧ Below B W0 wx
def WordsPost (w : World) (ns : List Int) (e : Ending) (w' : World) : Prop := ∃ v, e = .returned v ∧ w'.ownsRow w.heap.size 35 1 v ns.length (ns.map (Value.int .u32)) ∧ Below w.heap.size w w'

set_option maxHeartbeats 2000000 in
theorem words_any (k sq n ps mr : Int) (lv : Value) (l : List Int) (self : Bool) (d : ByteArray) (w : World)
    (hsq : 0 ≤ sq ∧ sq < 4294967296) (hl : IntsR .u32 w lv l) (hlen : l.length ≤ 1000000) :
    Calls Tryz.prog 262 #[pduV k sq n ps mr lv self d] w (WordsPost w (wordsOf k sq ps mr l)) := by
  have HL := Lib.hid hl
  obtain ⟨a, c, rfl, hc1, hm1, ha⟩ := hl.len
  clear hl
  have HF : Hid (wordsOf k sq ps mr l = (if sSq k then [sq] else []) ++ l ++ (if sPs k then [ps] else []) ++ (if sMr k then [mr] else [])) := Lib.hid rfl
  have HS : Hid (∀ w : World, Calls Tryz.prog 217 #[.int .i64 k] w fun e w' => e = .returned (.agg #[.int .i64 (sData k), .bool (sSq k), .bool (sN k), .int .i64 (sList k), .bool (sPs k), .bool (sMr k), .bool (sSelf k), .bool (sIs k)]) ∧ Below w.heap.size w w') := Lib.hid (fun w => shapeOf_any k w)
  generalize wordsOf k sq ps mr l = R at *
  generalize sSq k = bq at *
  generalize sPs k = bp at *
  generalize sMr k = bm at *
  obtain ⟨i0, hi, hz0, hz1, hz2⟩ := info_parts info_u32
  unfold pduV
  go_enter Tryz.func262, Tryz.ntmps262
  go_wp2_with fail
  refine (HS.out _).mono ?_
  rintro e w1 ⟨rfl, hb⟩
  clear HS
  generalize sData k = sd at *
  generalize sList k = sl at *
  generalize sN k = bn at *
  generalize sSelf k = bs at *
  generalize sIs k = bi at *
  have hz : w.heap.size < w1.heap.size := by have := hb.size; simp at this; omega
  have hcl := fun b o h => bcell hb b o h
  have HB := Lib.hid (belAlloc hb (by simp))
  have HL1 := Lib.hid (HL.out.alloc.below hb (by simp))
  clear hb HL
  have hcs : ∀ o, (w1.alloc (.cells #[.int .i64 sd, .bool bq, .bool bn, .int .i64 sl, .bool bp, .bool bm, .bool bs, .bool bi] 313)).cell? ⟨w1.heap.size, o, none⟩ = #[Value.int .i64 sd, .bool bq, .bool bn, .int .i64 sl, .bool bp, .bool bm, .bool bs, .bool bi][o]? := fun o => World.cell?_alloc_new _ _ _ o
  have p1 : (w1.alloc (.cells #[.int .i64 sd, .bool bq, .bool bn, .int .i64 sl, .bool bp, .bool bm, .bool bs, .bool bi] 313)).cell? ⟨w.heap.size, 1, none⟩ = some (.int .i64 sq) := by rw [Below.cell ((Below.refl _ _).alloc (Nat.le_refl _) _) hz]; rw [hcl _ _ (by simp)]; simp
  have p3 : (w1.alloc (.cells #[.int .i64 sd, .bool bq, .bool bn, .int .i64 sl, .bool bp, .bool bm, .bool bs, .bool bi] 313)).cell? ⟨w.heap.size, 3, none⟩ = some (.int .u32 ps) := by rw [Below.cell ((Below.refl _ _).alloc (Nat.le_refl _) _) hz]; rw [hcl _ _ (by simp)]; simp
  have p4 : (w1.alloc (.cells #[.int .i64 sd, .bool bq, .bool bn, .int .i64 sl, .bool bp, .bool bm, .bool bs, .bool bi] 313)).cell? ⟨w.heap.size, 4, none⟩ = some (.int .u32 mr) := by rw [Below.cell ((Below.refl _ _).alloc (Nat.le_refl _) _) hz]; rw [hcl _ _ (by simp)]; simp
  have p5 : (w1.alloc (.cells #[.int .i64 sd, .bool bq, .bool bn, .int .i64 sl, .bool bp, .bool bm, .bool bs, .bool bi] 313)).cell? ⟨w.heap.size, 5, none⟩ = some (.slice a l.length c) := by rw [Below.cell ((Below.refl _ _).alloc (Nat.le_refl _) _) hz]; rw [hcl _ _ (by simp)]; simp
  have s1 := hcs 1
  have s4 := hcs 4
  have s5 := hcs 5
  simp only [List.getElem?_toArray, List.getElem?_cons_succ, List.getElem?_cons_zero] at s1 s4 s5
  have hszE : (w1.alloc (.cells #[.int .i64 sd, .bool bq, .bool bn, .int .i64 sl, .bool bp, .bool bm, .bool bs, .bool bi] 313)).heap.size = w1.heap.size + 1 := by simp
  have hsz := Nat.le_of_eq hszE.symm
  have hszU := Nat.le_of_eq hszE
  clear hszE
  have HB0 := Lib.hid (HB.out.alloc (by omega) (.cells #[.int .i64 sd, .bool bq, .bool bn, .int .i64 sl, .bool bp, .bool bm, .bool bs, .bool bi] 313))
  have HL2 := Lib.hid (HL1.out.alloc (o := (.cells #[.int .i64 sd, .bool bq, .bool bn, .int .i64 sl, .bool bp, .bool bm, .bool bs, .bool bi] 313)))
  clear hcs HB HL1 hcl
  go_upto_if 11 with fail
  generalize (w1.alloc (.cells #[.int .i64 sd, .bool bq, .bool bn, .int .i64 sl, .bool bp, .bool bm, .bool bs, .bool bi] 313)) = W0 at *
  generalize hB0 : w1.heap.size = S0 at *
  clear hB0
  go_cut [4] (fun v wx => AppR W0 (S0 + 1) v (if bq then [sq] else []) wx)
  case first =>
    cases bq
    · go_wp2_with fail
      go_meet
      exact ⟨World.ownsRow_nil _ _ _ _, Below.refl _ _⟩
    · have HO := Lib.hid (World.ownsRow_nil W0 (S0 + 1) 35 1)
      have HW := Lib.hid (Below.refl (S0 + 1) W0)
      go_wp2_with (at_builtin; (refine wpList_append_own _ rfl _ _ 346 rfl (S0 + 1) 35 i0 (.int .u32 0) 1 4 Tryz.underlying346 hi hz0 hz1 hz2 rfl (by decide) _ _ _ rfl (HO.out.alloc _) ⟨W0.heap.size, 0, none⟩ 1 1 [.int .u32 sq] rfl rfl ?b1 ?b2 ?b3 ?b4 ?b5 ?_))
      any_goals (first | exact cell_one_new _ _ _ | (unfold maxLen; omega) | (simp [Value.oneCell']; done) | omega | (simp; omega))
      intro v' w2 hown2 hgrow hnil
      have hap := app_step (ns := []) HW.out (by omega) HO.out hown2 hgrow
      clear hown2 hgrow hnil
      go_wp2_with fail
      go_meet
      exact hap
  case rest =>
    obtain ⟨pre, hpre⟩ : ∃ p : List Int, p = (if bq then [sq] else []) := ⟨_, rfl⟩
    rw [← hpre] at hcut
    have hprel : pre.length ≤ 1 := by rw [hpre]; cases bq <;> simp
    have HP := Lib.hid hpre
    clear hpre s1 p1
    have HC := Lib.hid hcut
    have r5 := (bcell hcut.2 w.heap.size 5 (by omega)).trans p5
    clear hcut p5
    go_wp2_with fail
    clear r5
    go_loopw [21, 4, 6] (fun i v _ wx => ∃ k : Nat, k ≤ l.length ∧ i = .int .i64 k ∧ AppR W0 (S0 + 1) v (pre ++ l.take k) wx) (fun i _ _ _ => l.length - (intOf i).toNat)
    case atStart => exact ⟨0, Nat.zero_le _, rfl, by simpa using HC.out⟩
    case round =>
      obtain ⟨k, hk, rfl, happ⟩ := hrel
      clear HC
      by_cases hlt : k < l.length
      · obtain ⟨b, o, rfl⟩ := ha (by omega)
        have q1 := (HL2.out.below happ.2 (by omega)).at k hlt
        have hsz2 := happ.2.size
        have HA := Lib.hid happ
        have HN : Hid (pre ++ l.take (k + 1) = (pre ++ l.take k) ++ [l[k]]) := Lib.hid (by rw [List.take_succ_eq_append_getElem hlt, List.append_assoc])
        have hln : (pre ++ l.take k).length ≤ 2000000 := by simp; omega
        clear happ
        generalize l[k] = x at *
        generalize pre ++ l.take k = ns at *
        go_wp2_with (at_builtin; (refine wpList_append_own _ rfl _ _ 346 rfl (S0 + 1) 35 i0 (.int .u32 0) 1 4 Tryz.underlying346 hi hz0 hz1 hz2 rfl (by decide) _ _ _ rfl (HA.out.1.alloc _) ⟨wr.heap.size, 0, none⟩ 1 1 [.int .u32 x] rfl rfl ?c1 ?c2 ?c3 ?c4 ?c5 ?_))
        any_goals (first | exact cell_one_new _ _ _ | (unfold maxLen; omega) | (simp [Value.oneCell']; done) | omega | (simp; omega))
        intro v' w2 hown2 hgrow hnil
        have hap := app_step HA.out.2 (by omega) HA.out.1 hown2 hgrow
        clear hown2 hgrow hnil HA q1
        have HA := Lib.hid hap
        clear hap
        go_wp2_with fail
        go_roundw
        case rel => exact ⟨k + 1, by omega, by go_num, by rw [HN.out]; exact HA.out⟩
        case measure => simp [intOf]; omega
      · have hfull : l.take k = l := List.take_of_length_le (by omega)
        rw [hfull] at happ
        clear hfull
        have r3 := (bcell happ.2 w.heap.size 3 (by omega)).trans p3
        have r4 := (bcell happ.2 w.heap.size 4 (by omega)).trans p4
        have t4 := (bcell happ.2 S0 4 (by omega)).trans s4
        have t5 := (bcell happ.2 S0 5 (by omega)).trans s5
        have hsz2 := happ.2.size
        have HA := Lib.hid happ
        have hln : (pre ++ l).length ≤ 2000000 := by simp; omega
        clear happ
        go_upto_if 31 with fail
        go_cut [4] (fun v wx => AppR W0 (S0 + 1) v (pre ++ l ++ (if bp then [ps] else [])) wx)
        case first =>
          cases bp
          · go_wp2_with fail
            go_meet
            simpa using HA.out
          · generalize pre ++ l = ns at *
            go_wp2_with (at_builtin; (refine wpList_append_own _ rfl _ _ 346 rfl (S0 + 1) 35 i0 (.int .u32 0) 1 4 Tryz.underlying346 hi hz0 hz1 hz2 rfl (by decide) _ _ _ rfl (HA.out.1.alloc _) ⟨wr.heap.size, 0, none⟩ 1 1 [.int .u32 ps] rfl rfl ?d1 ?d2 ?d3 ?d4 ?d5 ?_))
            any_goals (first | exact cell_one_new _ _ _ | (unfold maxLen; omega) | (simp [Value.oneCell']; done) | omega | (simp; omega))
            intro v' w2 hown2 hgrow hnil
            have hap := app_step HA.out.2 (by omega) HA.out.1 hown2 hgrow
            clear hown2 hgrow hnil
            go_wp2_with fail
            go_meet
            exact hap
        case rest =>
          clear HA r3 r4 t4 t5
          have hln2 : (pre ++ l ++ (if bp then [ps] else [])).length ≤ 3000000 := by simp only [List.length_append]; have : (if bp then [ps] else []).length ≤ 1 := by { cases bp <;> simp }; have := hln; simp only [List.length_append] at this; omega
          have r4 := (bcell hcut.2 w.heap.size 4 (by omega)).trans p4
          have t5 := (bcell hcut.2 S0 5 (by omega)).trans s5
          have hsz3 := hcut.2.size
          have HR : Hid (R = pre ++ l ++ (if bp then [ps] else []) ++ (if bm then [mr] else [])) := Lib.hid (by rw [HF.out, HP.out])
          clear HF HP hln hsz2
          have HA := Lib.hid hcut
          clear hcut
          generalize pre ++ l ++ (if bp then [ps] else []) = ns at *
          cases bm
          · go_wp2_with fail
            go_ret
            exact ⟨_, rfl, by rw [HR.out]; simpa using ownsRow_mono HA.out.1 (by omega), HB0.out.trans (HA.out.2.mono (by omega))⟩
          · go_wp2_with (at_builtin; (refine wpList_append_own _ rfl _ _ 346 rfl (S0 + 1) 35 i0 (.int .u32 0) 1 4 Tryz.underlying346 hi hz0 hz1 hz2 rfl (by decide) _ _ _ rfl (HA.out.1.alloc _) ⟨wc.heap.size, 0, none⟩ 1 1 [.int .u32 mr] rfl rfl ?e1 ?e2 ?e3 ?e4 ?e5 ?_))
            any_goals (first | exact cell_one_new _ _ _ | (unfold maxLen; omega) | (simp [Value.oneCell']; done) | omega | (simp; omega))
            intro v' w2 hown2 hgrow hnil
            have hap := app_step HA.out.2 (by omega) HA.out.1 hown2 hgrow
            clear hown2 hgrow hnil
            have HA2 := Lib.hid hap
            clear hap HA
            go_wp2_with fail
            go_ret
            exact ⟨_, rfl, by rw [HR.out]; exact ownsRow_mono HA2.out.1 (by omega), HB0.out.trans (HA2.out.2.mono (by omega))⟩
end Go.Proofs.YtlkceignfhnpoaaGreatDoor
