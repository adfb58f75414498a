/-
  Contracts of the statement's 'same' and of epoch.Match.
-/
import Derived.Test.YtanmdmidjeobeaaEpRead
set_option linter.unusedVariables false
set_option linter.unusedSimpArgs false
namespace Go.Proofs.Ytanmdmidjeobeaa
open Go.RowKit

theorem own_below {w w' : World} {base : Nat} {e : TypeId} {size : Nat} {v : Value} {n : Nat} {xs : List Value} (h : w.ownsRow base e size v n xs) (hb : Below w.heap.size w w') : w'.ownsRow base e size v n xs :=
  h.kept (row := none) ⟨hb.os, hb.tape, hb.output, hb.size, fun k hk _ => hb.block k hk⟩ (by cases hv : v.ownBlock <;> simp)
theorem bytes_beq (a b : ByteArray) : (a.toList == b.toList) = decide (a = b) := by
  rw [Lib.toList_data, Lib.toList_data, Bool.eq_iff_iff]
  simp only [beq_iff_eq, decide_eq_true_eq]
  exact ⟨fun h => str_eq h, fun h => by rw [h]⟩

theorem getD_get {α : Type} (l : List α) (k : Nat) (d : α) (h : k < l.length) : l.getD k d = l[k] := by simp [List.getD, h]

set_option maxHeartbeats 1000000 in
theorem same_any (v1 v2 : Value) (s g : List ByteArray) (w : World) (h1 : StrsR w v1 s) (h2 : StrsR w v2 g) :
    Calls Try.prog 11 #[v1, v2] w fun e w' => e = .returned (.bool (decide (s = g))) ∧ ∃ q, w' = w.drewN q := by
  obtain ⟨a1, c1, rfl, hc1, hm1, ha1, hr1⟩ := h1
  obtain ⟨a2, c2, rfl, hc2, hm2, ha2, hr2⟩ := h2
  by_cases hle : s.length = g.length
  · have hne : ((s.length : Int) != (g.length : Int)) = false := by simp; omega
    have HL := Lib.hid hle
    have hle2 : g.length ≤ s.length := by omega
    have hle3 : s.length ≤ g.length := by omega
    have HR1 := Lib.hid hr1
    have HR2 := Lib.hid hr2
    clear hr1 hr2 hle
    go_enter Try.func11, Try.ntmps11
    go_wp2_with fail
    go_loopw [13] (fun i wr => ∃ k : Nat, k ≤ s.length ∧ i = .int .i64 k ∧ Hid (s.take k = g.take k) ∧ ∃ q, wr = w.drewN q) (fun i _ => s.length - (intOf i).toNat)
    case atStart => exact ⟨0, Nat.zero_le _, rfl, Lib.hid rfl, 0, rfl⟩
    case round =>
      obtain ⟨k, hk, rfl, hpre, q, rfl⟩ := hrel
      by_cases hlt : k < s.length
      · obtain ⟨b1, o1, rfl⟩ := ha1 (by omega)
        obtain ⟨b2, o2, rfl⟩ := ha2 (by omega)
        have x1 := HR1.out b1 o1 rfl k hlt
        have x2 := HR2.out b2 o2 rfl k (by omega)
        have hlt2 : (k : Int) < (g.length : Int) := by omega
        have hlt1 : (k : Int) < (s.length : Int) := by omega
        generalize hu : s.getD k ByteArray.empty = u at *
        generalize hv : g.getD k ByteArray.empty = v at *
        have HU := Lib.hid hu
        have HV := Lib.hid hv
        clear hu hv
        by_cases heq : u = v
        · subst heq
          go_wp2_with fail
          go_quiet (fail)
          go_wp2_with fail
          refine ⟨⟨k + 1, by omega, by go_num, Lib.hid ?_, _, rfl⟩, by simp [intOf]; omega⟩
          rw [List.take_succ_eq_append_getElem (by omega), List.take_succ_eq_append_getElem (by omega), hpre.out]
          have e1 := HU.out
          have e2 := HV.out
          rw [getD_get s k _ (by omega)] at e1
          rw [getD_get g k _ (by omega)] at e2
          rw [e1, e2]
        · have hne2 : (u.toList == v.toList) = false := by rw [bytes_beq]; simpa using heq
          go_wp2_with fail
          go_quiet (fail)
          go_wp2_with fail
          go_ret
          refine ⟨ret_bool ?_, _, World.drewN_drewN _ _ _⟩
          symm
          rw [decide_eq_false_iff_not]
          intro h
          apply heq
          rw [← HU.out, ← HV.out, h]
      · have hfin : s = g := by
          have := hpre.out
          rwa [List.take_of_length_le (by omega), List.take_of_length_le (by omega)] at this
        have HF := Lib.hid hfin
        clear hfin
        go_wp2_with fail
        go_ret
        exact ⟨ret_bool (by rw [HF.out]; simp), q, rfl⟩
  · have hne : ((s.length : Int) != (g.length : Int)) = true := by simp; omega
    have hfin : decide (s = g) = false := by simp; intro h; exact hle (by rw [h])
    rw [hfin]
    clear hfin hle hr1 hr2
    go_enter Try.func11, Try.ntmps11
    go_wp2_with fail
    go_ret
    exact ⟨rfl, 0, rfl⟩

/-- To each that got something the first one that fits, behind those that were taken ahead. -/
def matchGo (sent : List (List ByteArray × List ByteArray)) : Nat → List (List ByteArray × List ByteArray) → Option (List Nat)
  | _, [] => some []
  | next, g :: t => if g.2 = [] then matchGo sent next t else match (sent.drop next).findIdx? (fun e => isPre e.1 g.2) with
    | none => none
    | some k => (matchGo sent (next + k + 1) t).map ((next + k) :: ·)

def MatchPost (sent got : List (List ByteArray × List ByteArray)) (w : World) (e : Ending) (w' : World) : Prop :=
  Below w.heap.size w w' ∧ match matchGo sent 0 got with
    | none => e = .returned (.tuple #[.slice none 0 0, .bool false])
    | some l => ∃ v, e = .returned (.tuple #[v, .bool true]) ∧ w'.ownsRow w.heap.size 3 1 v l.length (l.map fun i => Value.int .i64 (i : Nat))

theorem EpsR.drop {w : World} {a : Option Addr} {n c : Nat} {es : List (List ByteArray × List ByteArray)} (h : EpsR w (.slice a n c) es) (k : Nat) (hk : k ≤ es.length) (hkc : k < c) :
    ∃ b o, a = some ⟨b, o, none⟩ ∧ EpsR w (.slice (some ⟨b, o + k * 2, none⟩) (es.length - k) (c - k)) (es.drop k) := by
  obtain ⟨a', c', hv, hc, hm, ha, hr⟩ := h
  cases hv
  obtain ⟨b, o, rfl⟩ := ha (by omega)
  refine ⟨b, o, rfl, some ⟨b, o + k * 2, none⟩, c - k, by simp, by simp; omega, by simp; omega, fun _ => ⟨_, _, rfl⟩, ?_⟩
  intro b' o' hbo j hj
  cases hbo
  have hj2 : k + j < es.length := by simp at hj; omega
  obtain ⟨sv, gv, h1, h2, h3, h4⟩ := hr b o rfl (k + j) hj2
  refine ⟨sv, gv, ?_, ?_, ?_, ?_⟩
  · rw [← h1]; congr 2; omega
  · rw [← h2]; congr 2; omega
  · simpa using h3
  · simpa using h4
theorem EpsR.nil (w : World) (a : Option Addr) : EpsR w (.slice a 0 0) [] := ⟨a, 0, rfl, by simp, by simp, by simp, by simp⟩

theorem info_int : (Try.prog.info? 3).map (fun i => (i.zero, i.size, i.bytes)) = some (some (.int .i64 0), 1, 8) := by kernel_rfl

set_option maxHeartbeats 1000000 in
theorem match_any (v1 v2 : Value) (sent got : List (List ByteArray × List ByteArray)) (w : World) (h1 : EpsR w v1 sent) (h2 : EpsR w v2 got) :
    Calls Try.prog 12 #[v1, v2] w (MatchPost sent got w) := by
  obtain ⟨i0, hi, hz0, hz1, hz2⟩ := info_parts info_int
  have HS := Lib.hid h1
  obtain ⟨a1, c1, rfl, hc1, hm1, ha1, hr1⟩ := h1
  obtain ⟨a2, c2, rfl, hc2, hm2, ha2, hr2⟩ := h2
  have HR2 := Lib.hid hr2
  clear hr1 hr2
  go_enter Try.func12, Try.ntmps12
  go_wp2_with fail
  go_loopw [6, 7, 13] (fun o nx i wr => ∃ (k next : Nat) (acc : List Nat), k ≤ got.length ∧ i = .int .i64 k ∧ next ≤ sent.length ∧ nx = .int .i64 next ∧ acc.length ≤ k ∧
      wr.ownsRow w.heap.size 3 1 o acc.length (acc.map fun i => Value.int .i64 (i : Nat)) ∧ Hid (matchGo sent 0 got = (matchGo sent next (got.drop k)).map (acc ++ ·)) ∧ Below w.heap.size w wr) (fun _ _ i _ => got.length - (intOf i).toNat)
  case atStart => exact ⟨0, 0, [], Nat.zero_le _, rfl, Nat.zero_le _, rfl, by simp, World.ownsRow_nil _ _ _ _, Lib.hid (by rw [List.drop_zero]; cases matchGo sent 0 got <;> simp), Below.refl _ _⟩
  case round =>
    obtain ⟨k, next, acc, hk, rfl, hnx, rfl, hal, hown, hmt, hbel⟩ := hrel
    by_cases hlt : k < got.length
    · obtain ⟨b2, o2, rfl⟩ := ha2 (by omega)
      obtain ⟨sv, gv, q1, q2, q3, q4⟩ := HR2.out b2 o2 rfl k hlt
      obtain ⟨a4, c4, rfl, -, hm4, -, -⟩ := q3
      generalize got[k].1.length = n4 at *
      have g1 := (hbel.cell (block_lt_of_cell q1)).trans q1
      have g2 := (hbel.cell (block_lt_of_cell q2)).trans q2
      have hg := q4.below hbel
      clear q4
      have hS := HS.out.below hbel
      have hd : got.drop k = got[k] :: got.drop (k + 1) := List.drop_eq_getElem_cons hlt
      rw [hd] at hmt
      clear q1 q2 HR2 hd
      generalize got[k] = gk at *
      obtain ⟨a3, c3, rfl, hc3, hm3, ha3, hr3⟩ := hg
      by_cases hg0 : gk.2.length = 0
      · have hg0b : ((gk.2.length : Int) == 0) = true := beq_iff_eq.2 (by omega)
        have HM : Hid (matchGo sent 0 got = (matchGo sent next (got.drop (k + 1))).map (acc ++ ·)) := Lib.hid (by
          rw [hmt.out, matchGo, if_pos (List.eq_nil_of_length_eq_zero hg0)])
        clear hmt hg0
        have hown2 := hown.alloc (.cells #[.slice a4 n4 c4, .slice a3 gk.2.length c3] 49)
        have hbel2 := hbel.alloc hbel.size (.cells #[.slice a4 n4 c4, .slice a3 gk.2.length c3] 49)
        go_wp2_with fail
        go_roundw
        case rel => exact ⟨k + 1, next, acc, by omega, by go_num, hnx, rfl, by omega, hown2, HM, hbel2⟩
        case measure => simp [intOf]; omega
      · have hg0b : ((gk.2.length : Int) == 0) = false := beq_eq_false_iff_ne.2 (by omega)
        have HG : Hid (gk.2 ≠ []) := Lib.hid (fun h => hg0 (by rw [h]; rfl))
        clear hg0
        by_cases hcap : next < c1
        · obtain ⟨b1, o1, rfl, hdr⟩ := EpsR.drop hS next hnx hcap
          have hbx := (Below.refl wr.heap.size wr).alloc (Nat.le_refl _) (.cells #[.slice a4 n4 c4, .slice a3 gk.2.length c3] 49)
          have hdr2 := hdr.below hbx
          have hg2 : StrsR (wr.alloc (.cells #[.slice a4 n4 c4, .slice a3 gk.2.length c3] 49)) (.slice a3 gk.2.length c3) gk.2 := StrsR.below ⟨a3, c3, rfl, hc3, hm3, ha3, hr3⟩ hbx
          have HD2 := Lib.hid hdr2
          have HG2 := Lib.hid hg2
          clear hdr hdr2 hg2 hbx hr3
          go_wp2_with fail
          refine (indexFunc_any _ _ _ (sent.drop next) gk.2 _ HD2.out HG2.out (by simp)).mono ?_
          rintro e w1 ⟨rfl, hb1⟩
          have hown1 := own_below (hown.alloc (.cells #[.slice a4 n4 c4, .slice a3 gk.2.length c3] 49)) hb1
          have hbel1 : Below w.heap.size w w1 := belSeq hbel (belAlloc hb1 (by simp))
          clear hown hbel hb1 hS
          unfold firstFit
          cases hf : (sent.drop next).findIdx? (fun e => isPre e.1 gk.2) with
          | none =>
            have HN : Hid (matchGo sent 0 got = none) := Lib.hid (by rw [hmt.out, matchGo, if_neg HG.out, hf]; rfl)
            clear hf hmt
            simp only
            go_wp2_with fail
            go_ret2
            exact ⟨hbel1, by rw [HN.out]; rfl⟩
          | some m =>
            have hml : next + m < sent.length := by
              have := (List.findIdx?_eq_some_iff_getElem.1 hf).1; simp at this; omega
            have HM : Hid (matchGo sent 0 got = (matchGo sent (next + m + 1) (got.drop (k + 1))).map ((acc ++ [next + m]) ++ ·)) := Lib.hid (by
              rw [hmt.out, matchGo, if_neg HG.out, hf]
              simp only [Option.map_map]
              cases matchGo sent (next + m + 1) (got.drop (k + 1)) <;> simp)
            clear hf hmt
            simp only
            go_wp2_with (at_builtin; refine wpList_append_own _ rfl _ _ 51 rfl w.heap.size 3 i0 (.int .i64 0) 1 8 Try.underlying51 hi hz0 hz1 hz2 rfl (by decide) _ _ _ rfl (hown1.alloc _) ⟨w1.heap.size, 0, none⟩ 1 1 [.int .i64 ((next : Int) + (m : Int))] rfl rfl ?c1 ?c2 ?c3 ?c4 ?c5 ?_)
            case c1 => exact (cell_one_new _ _ _)
            case c2 => simp [Value.oneCell']
            case c3 => unfold maxLen; omega
            case c4 => omega
            case c5 => have := hbel1.size; simp; omega
            intro v' w2 hown2 hgrow hnil
            have hown3 : w2.ownsRow w.heap.size 3 1 v' (acc ++ [next + m]).length ((acc ++ [next + m]).map fun i => Value.int .i64 (i : Nat)) := by simpa using hown2
            have hbel2 : Below w.heap.size w w2 := (hbel1.alloc hbel1.size _).grown hgrow (by simp; have := hbel1.size; omega) (fun q hq => (hown1.lt q hq).1)
            clear hown1 hown2 hbel1 hgrow hnil
            go_wp2_with fail
            go_roundw
            case rel => exact ⟨k + 1, next + m + 1, acc ++ [next + m], by omega, by go_num, by omega, by go_num, by simp; omega, hown3, HM, hbel2⟩
            case measure => simp [intOf]; omega
        · have hnc : next = c1 := by omega
          have hsl : sent.length = c1 := by omega
          have HNC : Hid (next = c1) := Lib.hid hnc
          have hdz : sent.drop next = [] := List.drop_eq_nil_of_le (by omega)
          have HN : Hid (matchGo sent 0 got = none) := Lib.hid (by rw [hmt.out, matchGo, if_neg HG.out, hdz]; rfl)
          have hbx := (Below.refl wr.heap.size wr).alloc (Nat.le_refl _) (.cells #[.slice a4 n4 c4, .slice a3 gk.2.length c3] 49)
          have hg2 : StrsR (wr.alloc (.cells #[.slice a4 n4 c4, .slice a3 gk.2.length c3] 49)) (.slice a3 gk.2.length c3) gk.2 := StrsR.below ⟨a3, c3, rfl, hc3, hm3, ha3, hr3⟩ hbx
          have HG2 := Lib.hid hg2
          have HSL := Lib.hid hsl
          clear hdz hg2 hbx hr3 hmt hnc hsl
          go_wp2_with fail
          rw [show sent.length - next = 0 by omega, show c1 - next = 0 by omega]
          refine (indexFunc_any _ _ _ [] gk.2 _ (EpsR.nil _ _) HG2.out (by simp)).mono ?_
          rintro e w1 ⟨rfl, hb1⟩
          have hbel1 : Below w.heap.size w w1 := belSeq hbel (belAlloc hb1 (by simp))
          rw [show firstFit [] gk.2 = -1 from rfl]
          go_wp2_with fail
          go_ret2
          exact ⟨hbel1, by rw [HN.out]; rfl⟩
    · have HF : Hid (matchGo sent 0 got = some acc) := Lib.hid (by
        rw [hmt.out, List.drop_eq_nil_of_le (by omega), matchGo]; simp)
      clear hmt
      go_wp2_with fail
      go_ret2
      refine ⟨hbel, ?_⟩
      rw [HF.out]
      exact ⟨_, rfl, hown⟩
end Go.Proofs.Ytanmdmidjeobeaa
