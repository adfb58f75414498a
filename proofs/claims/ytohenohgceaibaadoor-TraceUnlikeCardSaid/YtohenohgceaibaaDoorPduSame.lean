/-
  Contract of the statements' Same (layer 6).
-/
import Derived.Test.YtohenohgceaibaaDoorRefV
set_option linter.unusedVariables false
set_option linter.unusedSimpArgs false
namespace Go.Proofs.YtohenohgceaibaaDoor
open Go.RowKit

def sameB (k sq n ps mr : Int) (l : List Int) (self : Bool) (d : ByteArray) (k' sq' n' ps' mr' : Int) (l' : List Int) (self' : Bool) (d' : ByteArray) : Bool :=
  decide (k = k' ∧ sq = sq' ∧ n = n' ∧ ps = ps' ∧ mr = mr' ∧ self = self' ∧ d = d' ∧ l = l')

set_option maxRecDepth 100000 in
set_option maxHeartbeats 2000000 in
theorem same_list (k sq n ps mr : Int) (lv : Value) (l : List Int) (self : Bool) (d : ByteArray) (lv' : Value) (l' : List Int) (w : World) (hn : 0 ≤ n ∧ n < 4294967296) (hps : 0 ≤ ps ∧ ps < 4294967296) (hmr : 0 ≤ mr ∧ mr < 4294967296)
    (hl : IntsR .u32 w lv l) (hl' : IntsR .i64 w lv' l') (hlen : l.length ≤ 1000000) (hll : ∀ x ∈ l, 0 ≤ x ∧ x < 4294967296) (hle : l.length = l'.length) :
    Calls Tryd.prog 14 #[pduV k sq n ps mr lv self d, refV k sq n ps mr lv' self d] w fun e w' => e = .returned (.bool (decide (l = l'))) ∧ Below w.heap.size w w' := by
  have HL := Lib.hid hl
  have HL' := Lib.hid hl'
  have HLL := Lib.hid hll
  obtain ⟨a, c, rfl, hc1, hm1, ha⟩ := hl.len
  obtain ⟨a', c', rfl, hc1', hm1', ha'⟩ := hl'.len
  have HLE := Lib.hid hle
  have hle1 : l'.length ≤ l.length := by omega
  have hle2 : l.length ≤ l'.length := by omega
  have hle3 : ((l.length : Int) != (l'.length : Int)) = false := by simp [hle]
  clear hl hl' hll hle
  obtain ⟨RR, hRR⟩ : ∃ R, R = decide (l = l') := ⟨_, rfl⟩
  rw [← hRR]
  have HRR := Lib.hid hRR
  clear hRR
  unfold pduV refV
  go_enter Tryd.func14, Tryd.ntmps14
  have HB0 := Lib.hid (((Below.refl w.heap.size w).alloc (Nat.le_refl _) (.cells #[.int .i64 k, .int .i64 sq, .int .u32 n, .int .u32 ps, .int .u32 mr, .slice a l.length c, .bool self, .string d] 28)).alloc (by simp) (.cells #[.int .i64 k, .int .i64 sq, .int .i64 n, .int .i64 ps, .int .i64 mr, .slice a' l'.length c', .bool self, .string d] 37))
  go_wp2
  go_loop [69, 5, 6] (fun i _ _ => ∃ j : Nat, j ≤ l'.length ∧ i = .int .i64 j ∧ Hid (∀ m (h : m < l.length) (h' : m < l'.length), m < j → l[m] = l'[m])) (fun i _ _ => l'.length - (intOf i).toNat)
  case atStart => exact ⟨0, Nat.zero_le _, rfl, Lib.hid (fun m h h' hj => absurd hj (Nat.not_lt_zero _))⟩
  case round =>
    obtain ⟨j, hj, rfl, hno⟩ := hrel
    by_cases hlt : j < l'.length
    · have hlt1 : j < l.length := by omega
      obtain ⟨b, o, rfl⟩ := ha (by omega)
      obtain ⟨b', o', rfl⟩ := ha' (by omega)
      have z1 := (HL.out.alloc (o := .cells #[.int .i64 k, .int .i64 sq, .int .u32 n, .int .u32 ps, .int .u32 mr, .slice (some ⟨b, o, none⟩) l.length c, .bool self, .string d] 28)).alloc (o := .cells #[.int .i64 k, .int .i64 sq, .int .i64 n, .int .i64 ps, .int .i64 mr, .slice (some ⟨b', o', none⟩) l'.length c', .bool self, .string d] 37) |>.at j hlt1
      have z2 := (HL'.out.alloc (o := .cells #[.int .i64 k, .int .i64 sq, .int .u32 n, .int .u32 ps, .int .u32 mr, .slice (some ⟨b, o, none⟩) l.length c, .bool self, .string d] 28)).alloc (o := .cells #[.int .i64 k, .int .i64 sq, .int .i64 n, .int .i64 ps, .int .i64 mr, .slice (some ⟨b', o', none⟩) l'.length c', .bool self, .string d] 37) |>.at j hlt
      have hx := HLL.out l[j] (List.getElem_mem hlt1)
      have hj1 : (j : Int) < (l.length : Int) := by omega
      by_cases he : l[j] = l'[j]
      · have HN : Hid (∀ m (h : m < l.length) (h' : m < l'.length), m < j + 1 → l[m] = l'[m]) := Lib.hid (fun m h h' hm => by
          by_cases e : m = j
          · subst e; exact he
          · exact hno.out m h h' (by omega))
        rw [← he] at z2
        clear hno he
        generalize l[j] = x at *
        go_wp2_with fail
        go_round
        case rel => exact ⟨j + 1, by omega, by go_num, HN⟩
        case measure => simp [intOf]; omega
      · have HF : Hid (decide (l = l') = false) := Lib.hid (decide_eq_false (fun h => he (by subst h; rfl)))
        have hne : (l[j] != l'[j]) = true := by simpa using he
        clear hno he
        generalize l[j] = x at *
        generalize l'[j] = y at *
        go_wp2_with fail
        go_ret
        exact ⟨ret_bool (by rw [HRR.out, HF.out]), HB0.out⟩
    · have HF : Hid (decide (l = l') = true) := Lib.hid (decide_eq_true (List.ext_getElem HLE.out (fun m h h' => hno.out m h h' (by omega))))
      clear hno
      go_wp2_with fail
      go_ret
      exact ⟨ret_bool (by rw [HRR.out, HF.out]), HB0.out⟩

set_option maxRecDepth 100000 in
set_option maxHeartbeats 4000000 in
theorem same_any (k sq n ps mr : Int) (lv : Value) (l : List Int) (self : Bool) (d : ByteArray) (k' sq' n' ps' mr' : Int) (lv' : Value) (l' : List Int) (self' : Bool) (d' : ByteArray) (w : World) (hn : 0 ≤ n ∧ n < 4294967296) (hps : 0 ≤ ps ∧ ps < 4294967296) (hmr : 0 ≤ mr ∧ mr < 4294967296)
    (hl : IntsR .u32 w lv l) (hl' : IntsR .i64 w lv' l') (hlen : l.length ≤ 1000000) (hll : ∀ x ∈ l, 0 ≤ x ∧ x < 4294967296) :
    Calls Tryd.prog 14 #[pduV k sq n ps mr lv self d, refV k' sq' n' ps' mr' lv' self' d'] w fun e w' => e = .returned (.bool (sameB k sq n ps mr l self d k' sq' n' ps' mr' l' self' d')) ∧ Below w.heap.size w w' := by
  by_cases hk : k = k'
  case neg =>
    rw [show sameB k sq n ps mr l self d k' sq' n' ps' mr' l' self' d' = false from decide_eq_false (fun h => hk (by first | exact h.1 | exact h.2.1 | exact h.2.2.1 | exact h.2.2.2.1 | exact h.2.2.2.2.1 | exact h.2.2.2.2.2.1 | exact h.2.2.2.2.2.2.1))]
    have hne : (k != k') = true := by simpa using hk
    clear hk
    as_aux_lemma =>
    unfold pduV refV
    go_enter Tryd.func14, Tryd.ntmps14
    go_wp2
    go_ret
    exact ⟨rfl, ((Below.refl _ _).alloc (Nat.le_refl _) _).alloc (by simp) _⟩
  subst hk
  by_cases hsq : sq = sq'
  case neg =>
    rw [show sameB k sq n ps mr l self d k sq' n' ps' mr' l' self' d' = false from decide_eq_false (fun h => hsq (by first | exact h.1 | exact h.2.1 | exact h.2.2.1 | exact h.2.2.2.1 | exact h.2.2.2.2.1 | exact h.2.2.2.2.2.1 | exact h.2.2.2.2.2.2.1))]
    have hne : (sq != sq') = true := by simpa using hsq
    clear hsq
    as_aux_lemma =>
    unfold pduV refV
    go_enter Tryd.func14, Tryd.ntmps14
    go_wp2
    go_ret
    exact ⟨rfl, ((Below.refl _ _).alloc (Nat.le_refl _) _).alloc (by simp) _⟩
  subst hsq
  by_cases hn : n = n'
  case neg =>
    rw [show sameB k sq n ps mr l self d k sq n' ps' mr' l' self' d' = false from decide_eq_false (fun h => hn (by first | exact h.1 | exact h.2.1 | exact h.2.2.1 | exact h.2.2.2.1 | exact h.2.2.2.2.1 | exact h.2.2.2.2.2.1 | exact h.2.2.2.2.2.2.1))]
    have hne : (n != n') = true := by simpa using hn
    clear hn
    as_aux_lemma =>
    unfold pduV refV
    go_enter Tryd.func14, Tryd.ntmps14
    go_wp2
    go_ret
    exact ⟨rfl, ((Below.refl _ _).alloc (Nat.le_refl _) _).alloc (by simp) _⟩
  subst hn
  by_cases hps : ps = ps'
  case neg =>
    rw [show sameB k sq n ps mr l self d k sq n ps' mr' l' self' d' = false from decide_eq_false (fun h => hps (by first | exact h.1 | exact h.2.1 | exact h.2.2.1 | exact h.2.2.2.1 | exact h.2.2.2.2.1 | exact h.2.2.2.2.2.1 | exact h.2.2.2.2.2.2.1))]
    have hne : (ps != ps') = true := by simpa using hps
    clear hps
    as_aux_lemma =>
    unfold pduV refV
    go_enter Tryd.func14, Tryd.ntmps14
    go_wp2
    go_ret
    exact ⟨rfl, ((Below.refl _ _).alloc (Nat.le_refl _) _).alloc (by simp) _⟩
  subst hps
  by_cases hmr : mr = mr'
  case neg =>
    rw [show sameB k sq n ps mr l self d k sq n ps mr' l' self' d' = false from decide_eq_false (fun h => hmr (by first | exact h.1 | exact h.2.1 | exact h.2.2.1 | exact h.2.2.2.1 | exact h.2.2.2.2.1 | exact h.2.2.2.2.2.1 | exact h.2.2.2.2.2.2.1))]
    have hne : (mr != mr') = true := by simpa using hmr
    clear hmr
    as_aux_lemma =>
    unfold pduV refV
    go_enter Tryd.func14, Tryd.ntmps14
    go_wp2
    go_ret
    exact ⟨rfl, ((Below.refl _ _).alloc (Nat.le_refl _) _).alloc (by simp) _⟩
  subst hmr
  by_cases hself : self = self'
  case neg =>
    rw [show sameB k sq n ps mr l self d k sq n ps mr l' self' d' = false from decide_eq_false (fun h => hself (by first | exact h.1 | exact h.2.1 | exact h.2.2.1 | exact h.2.2.2.1 | exact h.2.2.2.2.1 | exact h.2.2.2.2.2.1 | exact h.2.2.2.2.2.2.1))]
    as_aux_lemma =>
    unfold pduV refV
    cases self <;> cases self'
    · exact absurd rfl hself
    · clear hself
      go_enter Tryd.func14, Tryd.ntmps14
      go_wp2
      go_ret
      exact ⟨rfl, ((Below.refl _ _).alloc (Nat.le_refl _) _).alloc (by simp) _⟩
    · clear hself
      go_enter Tryd.func14, Tryd.ntmps14
      go_wp2
      go_ret
      exact ⟨rfl, ((Below.refl _ _).alloc (Nat.le_refl _) _).alloc (by simp) _⟩
    · exact absurd rfl hself
  subst hself
  by_cases hd : d = d'
  case neg =>
    rw [show sameB k sq n ps mr l self d k sq n ps mr l' self d' = false from decide_eq_false (fun h => hd (by first | exact h.1 | exact h.2.1 | exact h.2.2.1 | exact h.2.2.2.1 | exact h.2.2.2.2.1 | exact h.2.2.2.2.2.1 | exact h.2.2.2.2.2.2.1))]
    have hd2 : ¬ d.toList = d'.toList := fun h => hd (str_eq (by rw [Lib.toList_data, Lib.toList_data] at h; exact h))
    clear hd
    as_aux_lemma =>
    unfold pduV refV
    go_enter Tryd.func14, Tryd.ntmps14
    go_wp2
    go_ret
    exact ⟨rfl, ((Below.refl _ _).alloc (Nat.le_refl _) _).alloc (by simp) _⟩
  subst hd
  by_cases hle : l.length = l'.length
  case neg =>
    rw [show sameB k sq n ps mr l self d k sq n ps mr l' self d = false from decide_eq_false (fun h => hle (by rw [h.2.2.2.2.2.2.2]))]
    obtain ⟨a, c, rfl, hc1, hm1, ha⟩ := hl.len
    obtain ⟨a', c', rfl, hc1', hm1', ha'⟩ := hl'.len
    have hne : ((l.length : Int) != (l'.length : Int)) = true := by simp; omega
    clear hl hl' ha ha' hll
    as_aux_lemma =>
    unfold pduV refV
    go_enter Tryd.func14, Tryd.ntmps14
    go_wp2
    go_ret
    exact ⟨rfl, ((Below.refl _ _).alloc (Nat.le_refl _) _).alloc (by simp) _⟩
  have hb : sameB k sq n ps mr l self d k sq n ps mr l' self d = decide (l = l') := by unfold sameB; simp
  rw [hb]
  exact same_list k sq n ps mr lv l self d lv' l' w hn hps hmr hl hl' hlen hll hle
end Go.Proofs.YtohenohgceaibaaDoor
