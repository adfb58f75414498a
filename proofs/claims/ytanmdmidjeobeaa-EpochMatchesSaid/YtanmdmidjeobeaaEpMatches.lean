/-
  The walk of the statement EpochMatches.
-/
import Derived.Test.YtanmdmidjeobeaaEpAwake
import Derived.Test.YtanmdmidjeobeaaOpenEps
import Derived.Test.YtanmdmidjeobeaaBox
import Derived.Deep.QuietTactic
import Derived.BigQuiet
import Derived.WalkSmall
import Derived.Deep.DeepCutAuto
import Derived.Deep.AppendLies
set_option linter.unusedVariables false
set_option linter.unusedSimpArgs false
namespace Go.Proofs.Ytanmdmidjeobeaa
open Go.RowKit

theorem lg_skip (S : List (List ByteArray × List ByteArray)) (n : Nat) (g : List ByteArray × List ByteArray) (t : List (List ByteArray × List ByteArray)) (h : g.2 = []) : matchGo S n (g :: t) = matchGo S n t := by
  rw [matchGo, if_pos h]
theorem lg_found (S : List (List ByteArray × List ByteArray)) (n m : Nat) (g : List ByteArray × List ByteArray) (t : List (List ByteArray × List ByteArray)) (h : g.2 ≠ []) (hm : m < S.length) (hn : n ≤ m) (hno : ∀ j (hj : j < S.length), n ≤ j → j < m → isPre S[j].1 g.2 = false)
    (hyes : isPre S[m].1 g.2 = true) : matchGo S n (g :: t) = (matchGo S (m + 1) t).map (m :: ·) := by
  rw [matchGo, if_neg h]
  have hf : (S.drop n).findIdx? (fun e => isPre e.1 g.2) = some (m - n) := by
    rw [List.findIdx?_eq_some_iff_getElem]
    refine ⟨by simp; omega, ?_, fun j hj => ?_⟩
    · simp only [List.getElem_drop, show n + (m - n) = m by omega]; exact hyes
    · have := hno (n + j) (by omega) (by omega) (by omega)
      simpa using this
  rw [hf]
  simp only [show n + (m - n) = m by omega]
theorem lg_none (S : List (List ByteArray × List ByteArray)) (n : Nat) (g : List ByteArray × List ByteArray) (t : List (List ByteArray × List ByteArray)) (h : g.2 ≠ []) (hno : ∀ j (hj : j < S.length), n ≤ j → isPre S[j].1 g.2 = false) : matchGo S n (g :: t) = none := by
  rw [matchGo, if_neg h]
  have hf : (S.drop n).findIdx? (fun e => isPre e.1 g.2) = none := by
    rw [List.findIdx?_eq_none_iff]
    intro x hx
    obtain ⟨j, hj, rfl⟩ := List.mem_iff_getElem.1 hx
    have := hno (n + j) (by simp at hj; omega) (by omega)
    simpa using this
  rw [hf]

theorem EpsB.take8 {w : World} {a : Option Addr} {n c : Nat} {es : List (List ByteArray × List ByteArray)} (h : EpsB w (.slice a n c) es) : EpsR w (.slice a (es.take 8).length c) (es.take 8) := by
  obtain ⟨a', c', hv, hc, hm, ha, hr⟩ := h
  cases hv
  refine ⟨a, c, rfl, by simp; omega, by simp; omega, ha, fun b o hb j hj => ?_⟩
  have hj2 : j < es.length := by simp at hj; omega
  obtain ⟨sv, gv, h1, h2, h3, h4⟩ := hr b o hb j hj2
  exact ⟨sv, gv, h1, h2, by simpa using h3, by simpa using h4⟩

theorem StrsR.take {w : World} {a : Option Addr} {n c l : Nat} {ss : List ByteArray} (h : StrsR w (.slice a n c) ss) (hl : l ≤ ss.length) : StrsR w (.slice a l c) (ss.take l) := by
  obtain ⟨a', c', hv, hc, hm, ha, hr⟩ := h
  cases hv
  have e : (ss.take l).length = l := by simp; omega
  refine ⟨a, c, by rw [e], by omega, by omega, ha, fun b o hb j hj => ?_⟩
  rw [e] at hj
  rw [hr b o hb j (by omega)]
  simp [List.getD_eq_getElem?_getD, hj]
abbrev Eps := List (List ByteArray × List ByteArray)
def MatRel (S G : Eps) (w2 : World) (nx gd wt i : Value) (wr : World) : Prop :=
  ∃ (k next : Nat) (good : Bool) (want : List Nat), k ≤ G.length ∧ i = .int .i64 k ∧ next ≤ S.length ∧ nx = .int .i64 next ∧ gd = .bool good ∧ want.length ≤ k ∧
    Hid (wr.ownsRow w2.heap.size 3 1 wt want.length (want.map fun i => Value.int .i64 (i : Nat))) ∧ Hid ((good = true → matchGo S 0 G = (matchGo S next (G.drop k)).map (want ++ ·)) ∧ (good = false → matchGo S 0 G = none)) ∧ Hid (Below w2.heap.size w2 wr)
def InRel (S : Eps) (g : List ByteArray) (next : Nat) (wb : World) (v : Value) (wr : World) : Prop :=
  ∃ m : Nat, next ≤ m ∧ m ≤ S.length ∧ v = .int .i64 m ∧ Hid (∀ j (h : j < S.length), next ≤ j → j < m → isPre S[j].1 g = false) ∧ Hid (Below wb.heap.size wb wr)

set_option maxHeartbeats 4000000 in
set_option maxRecDepth 100000 in
theorem epochMatches_any (v1 v2 : Value) (sent got : List (List ByteArray × List ByteArray)) (w : World) (h1 : EpsB w v1 sent) (h2 : EpsB w v2 got) :
    Calls Try.prog 4 #[v1, v2] w fun e w' => e = .returned (.bool true) ∧ Below w.heap.size w w' := by
  have HE1 := Lib.hid h1
  have HE2 := Lib.hid h2
  obtain ⟨a1, c1, rfl, hc1, hm1, ha1, hr1⟩ := h1
  obtain ⟨a2, c2, rfl, hc2, hm2, ha2, hr2⟩ := h2
  replace HE1 := Lib.hid HE1.out.take8
  replace HE2 := Lib.hid HE2.out.take8
  have HAW := Lib.hid (awake20 w)
  have HL1 : Hid ((sent.take 8).length = min sent.length 8) := Lib.hid (by simp; omega)
  have HL2 : Hid ((got.take 8).length = min got.length 8) := Lib.hid (by simp; omega)
  clear hr1 hr2
  go_enter Try.func4, Try.ntmps4
  go_wp2_with fail
  refine HAW.out.mono ?_
  rintro e w1 ⟨rfl, hb1⟩
  have HB1 := Lib.hid hb1
  clear hb1 HAW
  go_upto_region 3 with fail
  go_cut [0, 1] (fun v0 v1 wx => v0 = .slice a1 (sent.take 8).length c1 ∧ v1 = .slice a2 (got.take 8).length c2 ∧ Hid (Below w.heap.size w wx))
  case first =>
    have hl1 : (sent.take 8).length = min sent.length 8 := HL1.out
    have hl2 : (got.take 8).length = min got.length 8 := HL2.out
    have hz1 : (0 : Int) ≤ (sent.length : Int) := Int.natCast_nonneg _
    have hz2 : (0 : Int) ≤ (got.length : Int) := Int.natCast_nonneg _
    clear hl1 hl2
    go_quiet (fail)
    go_wp2_with fail
    go_meet
    exact ⟨by rw [show (min (sent.length : Int) 8).toNat = (sent.take 8).length by rw [HL1.out]; omega], by rw [show (min (got.length : Int) 8).toNat = (got.take 8).length by rw [HL2.out]; omega], Lib.hid (below_drewN HB1.out _)⟩
  case rest =>
    obtain ⟨rfl, rfl, HBC⟩ := hcut
    have hS8 : (sent.take 8).length ≤ 8 := by rw [HL1.out]; omega
    have hG8 : (got.take 8).length ≤ 8 := by rw [HL2.out]; omega
    clear HL1 HL2 ha1 ha2 hm1 hm2 hc1 hc2
    generalize sent.take 8 = S at *
    generalize got.take 8 = G at *
    have HS0 := Lib.hid (HE1.out.below HBC.out)
    have HG0 := Lib.hid (HE2.out.below HBC.out)
    clear HE1 HE2
    have HM := Lib.hid (match_any _ _ S G wc HS0.out HG0.out)
    go_wp2_with fail
    refine HM.out.mono ?_
    rintro e w2 hpost
    have HBM : Hid (Below wc.heap.size wc w2) := Lib.hid hpost.1
    have HS := Lib.hid (HS0.out.below HBM.out)
    have HG := Lib.hid (HG0.out.below HBM.out)
    have HB2 := Lib.hid (belSeq HBC.out HBM.out)
    obtain ⟨pv, okb, hev, HP⟩ : ∃ (pv : Value) (okb : Bool), e = .returned (.tuple #[pv, .bool okb]) ∧ Hid ((okb = false ∧ matchGo S 0 G = none ∧ pv = .slice none 0 0) ∨ ∃ l, okb = true ∧ matchGo S 0 G = some l ∧ w2.ownsRow wc.heap.size 3 1 pv l.length (l.map fun i => Value.int .i64 (i : Nat))) := by
      have hp := hpost.2
      cases hm : matchGo S 0 G with
      | none => rw [hm] at hp; exact ⟨_, false, hp, Lib.hid (Or.inl ⟨rfl, rfl, rfl⟩)⟩
      | some l => rw [hm] at hp; obtain ⟨v, he, ho⟩ := hp; exact ⟨v, true, he, Lib.hid (Or.inr ⟨l, rfl, rfl, ho⟩)⟩
    subst hev
    clear hpost HM HS0 HG0 HBC HBM
    go_wp2_with fail
    obtain ⟨i0, hi, hz0, hz1, hz2⟩ := info_parts info_int
    go_loopw [7, 8, 9, 33] (MatRel S G w2) (fun _ _ _ i _ => G.length - (intOf i).toNat)
    case atStart => exact ⟨0, 0, true, [], Nat.zero_le _, rfl, Nat.zero_le _, rfl, rfl, Nat.le_refl _, Lib.hid (World.ownsRow_nil _ _ _ _), Lib.hid ⟨fun _ => (by rw [List.drop_zero]; cases matchGo S 0 G <;> simp), fun h => by cases h⟩, Lib.hid (Below.refl _ _)⟩
    case round =>
      obtain ⟨k, next, good, want, hk, rfl, hnx, rfl, rfl, hwl, HOW, HMT, HBL⟩ := hrel
      by_cases hlt : k < G.length
      · obtain ⟨aG, cG, hvG, hcG, -, haG, hrG⟩ := HG.out
        cases hvG
        obtain ⟨b2, o2, rfl⟩ := haG (by omega)
        obtain ⟨sv, gv, q1, q2, q3, q4⟩ := hrG b2 o2 rfl k hlt
        obtain ⟨a4, c4, rfl, -, hm4, -, -⟩ := q3
        generalize G[k].1.length = n4 at *
        have g1 := (bcell HBL.out _ _ (block_lt_of_cell q1)).trans q1
        have g2 := (bcell HBL.out _ _ (block_lt_of_cell q2)).trans q2
        have HGV := Lib.hid (q4.below HBL.out)
        have hd : G.drop k = G[k] :: G.drop (k + 1) := List.drop_eq_getElem_cons hlt
        have HD := Lib.hid hd
        clear q1 q2 q4 hrG haG hd
        generalize G[k] = gk at *
        obtain ⟨a3, c3, rfl, hc3, hm3, ha3, hr3⟩ := HGV.out
        clear hr3
        by_cases hskip : gk.2.length = 0 ∨ good = false
        · have HCL : Hid (MatRel S G w2 (.int .i64 next) (.bool good) u9 (.int .i64 ((k : Int) + 1)) (wr.alloc (.cells #[.slice a4 n4 c4, .slice a3 gk.2.length c3] 49))) := Lib.hid
            ⟨k + 1, next, good, want, hlt, by simp, hnx, rfl, rfl, by omega, Lib.hid (HOW.out.alloc _), Lib.hid ⟨fun hg => (by
                rcases hskip with h | h
                · rw [HMT.out.1 hg, HD.out, lg_skip _ _ _ _ (List.eq_nil_of_length_eq_zero h)]
                · rw [hg] at h; cases h), HMT.out.2⟩, Lib.hid (HBL.out.alloc HBL.out.size _)⟩
          by_cases hg0 : gk.2.length = 0
          · have hg0b : ((gk.2.length : Int) == 0) = true := beq_iff_eq.2 (by omega)
            clear hskip hg0
            go_wp2_with fail
            exact ⟨HCL.out, by simp [intOf]; omega⟩
          · have hg0b : ((gk.2.length : Int) == 0) = false := beq_eq_false_iff_ne.2 (by omega)
            have hgf : good = false := by
              rcases hskip with h | h
              · exact absurd h hg0
              · exact h
            subst hgf
            clear hskip hg0
            go_wp2_with fail
            exact ⟨HCL.out, by simp [intOf]; omega⟩
        · have hg0 : gk.2.length ≠ 0 := fun h => hskip (Or.inl h)
          have hgt : good = true := by
            cases good
            · exact absurd (Or.inr rfl) hskip
            · rfl
          subst hgt
          have hg0b : ((gk.2.length : Int) == 0) = false := beq_eq_false_iff_ne.2 (by omega)
          have HGN : Hid (gk.2 ≠ []) := Lib.hid (fun h => hg0 (by rw [h]; rfl))
          obtain ⟨b3, o3, rfl⟩ := ha3 (by omega)
          clear hskip ha3
          go_wp2_with fail
          generalize hWB : wr.alloc _ = wb
          have HBB : Hid (Below wr.heap.size wr wb) := Lib.hid (hWB ▸ (Below.refl _ _).alloc (Nat.le_refl _) _)
          have HBX : Hid (BoxAt wb wr.heap.size 49 [.slice a4 n4 c4, .slice (some ⟨b3, o3, none⟩) gk.2.length c3]) := Lib.hid (hWB ▸ BoxAt.new wr _ _)
          have hxlt := HBX.out.lt
          clear hWB g1 g2
          go_loopw [7] (InRel S gk.2 next wb) (fun i _ => S.length - (intOf i).toNat)
          case atStart => exact ⟨next, Nat.le_refl _, hnx, rfl, Lib.hid (fun j h h1 h2 => absurd h1 (by omega)), Lib.hid (Below.refl _ _)⟩
          case round =>
            obtain ⟨m, hm1, hm2, rfl, HNO, HBI⟩ := hrel
            have HBT : Hid (Below w2.heap.size w2 wr) := Lib.hid (belSeq HBL.out (belSeq HBB.out HBI.out))
            obtain ⟨x0, x1⟩ := (HBX.out.below HBI.out hxlt).cells2
            have hm0 : (0 : Int) ≤ (m : Int) := Int.natCast_nonneg _
            by_cases hml : m < S.length
            · obtain ⟨aS, cS, hvS, hcS, -, haS, hrS⟩ := HS.out
              cases hvS
              obtain ⟨b1, o1, rfl⟩ := haS (by omega)
              obtain ⟨sv, gv2, p1, p2, p3, p4⟩ := hrS b1 o1 rfl m hml
              have s1 := (bcell HBT.out _ _ (block_lt_of_cell p1)).trans p1
              have HSV := Lib.hid (p3.below HBT.out)
              obtain ⟨ss, hss⟩ : ∃ ss, S[m].1 = ss := ⟨_, rfl⟩
              rw [hss] at HSV
              have HSS := Lib.hid hss
              obtain ⟨a5, c5, rfl, hc5, hm5, ha5, hr5⟩ := HSV.out
              have HNO2 : Hid (isPre ss gk.2 = false → ∀ j (h : j < S.length), next ≤ j → j < m + 1 → isPre S[j].1 gk.2 = false) := Lib.hid (fun hp j h h1 h2 => by
                by_cases e : j = m
                · subst e; rw [HSS.out]; exact hp
                · exact HNO.out j h h1 (by omega))
              have hml1 : (m : Int) < (S.length : Int) := by omega
              have HGW := Lib.hid (HGV.out.below (belSeq HBB.out HBI.out))
              clear p1 p2 p3 p4 hrS haS hr5 hss
              by_cases hfit : gk.2.length ≤ ss.length
              · obtain ⟨b5, o5, rfl⟩ := ha5 (by omega)
                have hfit1 : (gk.2.length : Int) ≤ (ss.length : Int) := by omega
                have hfit2 : (gk.2.length : Int) ≤ (c5 : Int) := by omega
                have hfit0 : (0 : Int) ≤ (gk.2.length : Int) := Int.natCast_nonneg _
                cases hdec : decide (ss.take gk.2.length = gk.2) with
                | true =>
                  have HSM : Hid (∀ n, Calls Try.prog 11 #[.slice (some ⟨b5, o5, none⟩) gk.2.length c5, .slice (some ⟨b3, o3, none⟩) gk.2.length c3] (wr.drewN n) fun e w' => e = .returned (.bool true) ∧ ∃ m, w' = (wr.drewN n).drewN m) := Lib.hid (fun n => by
                    have := same_any _ _ (ss.take gk.2.length) gk.2 (wr.drewN n) ((HSV.out.below (below_drewN (Below.refl _ _) n)).take hfit) (HGW.out.below (below_drewN (Below.refl _ _) n))
                    rw [hdec] at this
                    exact this)
                  have HYES : Hid (isPre ss gk.2 = true) := Lib.hid (by unfold isPre; rw [hdec]; simp [hfit])
                  clear hdec
                  go_wp2_with fail
                  go_quiet ((go_at_call 11; exact Calls.quiet_of (HSM.out _)))
                  generalize hWq : wr.drewN _ = wq
                  have HWq : Hid (Below wr.heap.size wr wq) := Lib.hid (hWq ▸ below_drewN (Below.refl _ _) _)
                  clear hWq x0 x1 s1
                  have HBQ : Hid (Below w2.heap.size w2 wq) := Lib.hid (belSeq HBT.out HWq.out)
                  have HOQ := Lib.hid (own_below HOW.out (belSeq HBB.out (belSeq HBI.out HWq.out)))
                  obtain ⟨aw, cw, rfl⟩ := own_slice HOW.out
                  have hzq := HBQ.out.size
                  go_wp2_with (at_builtin; refine wpList_append_lies _ rfl _ _ _ rfl w2.heap.size 3 i0 _ 1 8 Try.underlying51 hi hz0 hz1 hz2 rfl (by omega) (.slice aw want.length cw) want.length (want.map fun i => Value.int .i64 (i : Nat)) rfl (HOQ.out.alloc _) ⟨wq.heap.size, 0, none⟩ 1 1 [.int .i64 (m : Int)] rfl rfl (World.news_of_block (cs := #[.int .i64 (m : Int)]) (t := 3) (fr := (0, 0)) (heap_alloc_new wq _)) (by simp [Value.oneCell']) (by omega) (by unfold maxLen; omega) (by omega) (by simp; omega) (wq.heap.size + 1) (by simp) ?_; intro gg cap w7 hown7 hgrow hat hlt7)
                  have HFIN : Hid (MatRel S G w2 (.int .i64 ((m : Int) + 1)) (.bool true) (.slice (some ⟨gg, 0, none⟩) (want.length + 1) cap) (.int .i64 ((k : Int) + 1)) w7) := Lib.hid
                    ⟨k + 1, m + 1, true, want ++ [m], hlt, by simp, by omega, by simp, rfl, by simp; omega, Lib.hid (by simpa using hown7), Lib.hid ⟨fun _ => (by
                      rw [HMT.out.1 (by simp), HD.out, lg_found S next m gk _ HGN.out hml hm1 (fun j h h1 h2 => HNO.out j h h1 h2) (by rw [HSS.out]; exact HYES.out)]
                      cases matchGo S (m + 1) (G.drop (k + 1)) <;> simp), fun h => by cases h⟩, Lib.hid ((HBQ.out.alloc HBQ.out.size _).grown hgrow (by simp; omega) (fun q hq => (HOQ.out.lt q hq).1))⟩
                  clear hown7 hgrow hat
                  go_wp2_with fail
                  exact ⟨HFIN.out, by simp [intOf]; omega⟩
                | false =>
                  have HSM : Hid (∀ n, Calls Try.prog 11 #[.slice (some ⟨b5, o5, none⟩) gk.2.length c5, .slice (some ⟨b3, o3, none⟩) gk.2.length c3] (wr.drewN n) fun e w' => e = .returned (.bool false) ∧ ∃ m, w' = (wr.drewN n).drewN m) := Lib.hid (fun n => by
                    have := same_any _ _ (ss.take gk.2.length) gk.2 (wr.drewN n) ((HSV.out.below (below_drewN (Below.refl _ _) n)).take hfit) (HGW.out.below (below_drewN (Below.refl _ _) n))
                    rw [hdec] at this
                    exact this)
                  have HNF : Hid (isPre ss gk.2 = false) := Lib.hid (by unfold isPre; rw [hdec]; simp)
                  clear hdec
                  go_wp2_with fail
                  go_quiet ((go_at_call 11; exact Calls.quiet_of (HSM.out _)))
                  go_wp2_with fail
                  exact ⟨⟨m + 1, by omega, hml, by simp, Lib.hid (HNO2.out HNF.out), Lib.hid (below_drewN HBI.out _)⟩, by simp [intOf]; omega⟩
              · have hfit1 : decide (gk.2.length ≤ ss.length) = false := decide_eq_false hfit
                have HNF : Hid (isPre ss gk.2 = false) := Lib.hid (by unfold isPre; rw [hfit1]; simp)
                clear hfit
                go_wp2_with fail
                go_quiet (fail)
                go_wp2_with fail
                exact ⟨⟨m + 1, by omega, hml, by simp, Lib.hid (HNO2.out HNF.out), Lib.hid (below_drewN HBI.out _)⟩, by simp [intOf]; omega⟩
            · have hml1 : decide (m < S.length) = false := decide_eq_false hml
              have HFIN : Hid (∀ q, MatRel S G w2 (.int .i64 (m : Int)) (.bool false) u9 (.int .i64 ((k : Int) + 1)) (wr.drewN q)) := Lib.hid (fun q =>
                ⟨k + 1, m, false, want, hlt, by simp, hm2, rfl, rfl, by omega, Lib.hid (own_below HOW.out (belSeq HBB.out (below_drewN HBI.out q))), Lib.hid ⟨fun h => (by cases h), fun _ => (by
                  rw [HMT.out.1 (by simp), HD.out, lg_none S next gk _ HGN.out (fun j h h1 => HNO.out j h h1 (by omega))]; rfl)⟩, Lib.hid (below_drewN HBT.out q)⟩)
              clear hml
              go_wp2_with fail
              go_quiet (fail)
              go_wp2_with fail
              exact ⟨HFIN.out _, by simp [intOf]; omega⟩
      · have hkG : G.drop k = [] := List.drop_eq_nil_of_le (by omega)
        have HBF : Hid (Below w.heap.size w wr) := Lib.hid (belSeq HB2.out HBL.out)
        rcases HP.out with ⟨rfl, hmn, rfl⟩ | ⟨l, rfl, hml, hpo⟩
        · have hgf : good = false := by
            cases good
            · rfl
            · have := HMT.out.1 rfl
              rw [hkG, hmn] at this
              simp [matchGo] at this
          subst hgf
          clear hkG hmn
          go_wp2_with fail
          go_loopw [104] (fun i wr2 => i = .int .i64 0 ∧ wr2 = wr) (fun i _ => 0)
          case atStart => exact ⟨rfl, rfl⟩
          case round =>
            obtain ⟨rfl, rfl⟩ := hrel
            go_wp2_with fail
            go_ret
            exact ⟨rfl, HBF.out⟩
        · have hgt : good = true := by
            cases good
            · have := HMT.out.2 rfl
              rw [hml] at this
              cases this
            · rfl
          subst hgt
          have hwl2 : want = l := by
            have := HMT.out.1 rfl
            rw [hkG, hml] at this
            simpa [matchGo] using this.symm
          subst hwl2
          have HPO := Lib.hid (own_below hpo HBL.out)
          obtain ⟨ap, cp, rfl⟩ := own_slice hpo
          obtain ⟨aw, cw, rfl⟩ := own_slice HOW.out
          have hwn : want.length ≤ 8 := by omega
          clear hkG hml hpo
          go_wp2_with fail
          go_loopw [104] (fun i wr2 => ∃ j : Nat, j ≤ want.length ∧ i = .int .i64 j ∧ ∃ q, wr2 = wr.drewN q) (fun i _ => want.length - (intOf i).toNat)
          case atStart => exact ⟨0, Nat.zero_le _, rfl, 0, rfl⟩
          case round =>
            obtain ⟨j, hj, rfl, q, rfl⟩ := hrel
            by_cases hjl : j < want.length
            · obtain ⟨gp, capp, hvp, _⟩ := HPO.out.form (by omega)
              obtain ⟨gw, capw, hvw, _⟩ := HOW.out.form (by omega)
              have cp0 := HPO.out.cells (g := gp) (by rw [hvp]; rfl) j (.int .i64 (want[j] : Nat)) (by simp [hjl])
              have cw0 := HOW.out.cells (g := gw) (by rw [hvw]; rfl) j (.int .i64 (want[j] : Nat)) (by simp [hjl])
              rw [Addr.add_lit, Nat.zero_add] at cp0 cw0
              cases hvp
              cases hvw
              generalize want[j] = x at *
              have hj1 : (j : Int) < (want.length : Int) := by omega
              have hj2 : decide (want.length ≤ j) = false := decide_eq_false (by omega)
              have hj0 : (0 : Int) ≤ (j : Int) := Int.natCast_nonneg _
              go_wp2_with fail
              go_quiet (fail)
              go_wp2_with fail
              refine ⟨⟨j + 1, by omega, by simp, _, rfl⟩, by simp [intOf]; omega⟩
            · go_wp2_with fail
              go_ret
              exact ⟨rfl, below_drewN HBF.out q⟩
end Go.Proofs.Ytanmdmidjeobeaa
