/-
  Slices of texts and of epochs, as they are read; contracts of Prefix, of the statement's 'same', of the function inside Match, of slices.IndexFunc at it.
-/
import Derived.Test.YtanmdmidjeobeaaRows
import Derived.Test.YtanmdmidjeobeaaShelf
import Derived.Test.YtanmdmidjeobeaaCommon
import Derived.WalkSpells
import Derived.WalkLawsBesides
import Derived.Lib.Hide
import Derived.WalkSmall
set_option linter.unusedVariables false
set_option linter.unusedSimpArgs false
namespace Go.Proofs.Ytanmdmidjeobeaa
open Go.RowKit

/-- A slice value that reads as these texts. -/
def StrsR (w : World) (v : Value) (ss : List ByteArray) : Prop :=
  ∃ a c, v = .slice a ss.length c ∧ ss.length ≤ c ∧ ss.length ≤ 9223372036854775807 ∧ (0 < c → ∃ b o, a = some ⟨b, o, none⟩) ∧ (∀ b o, a = some ⟨b, o, none⟩ → ∀ j, j < ss.length → w.cell? ⟨b, o + j, none⟩ = some (.string (ss.getD j ByteArray.empty)))

theorem StrsR.below {w w' : World} {v : Value} {ss : List ByteArray} (h : StrsR w v ss) (hb : Below w.heap.size w w') : StrsR w' v ss := by
  obtain ⟨a, c, hv, hc, hm, ha, hr⟩ := h
  refine ⟨a, c, hv, hc, hm, ha, fun b o hbo j hj => ?_⟩
  have h1 := hr b o hbo j hj
  rw [hb.cell (block_lt_of_cell h1)]
  exact h1

def isPre (s g : List ByteArray) : Bool := decide (g.length ≤ s.length) && decide (s.take g.length = g)

set_option maxHeartbeats 1000000 in
theorem prefix_any (v1 v2 : Value) (s g : List ByteArray) (w : World) (h1 : StrsR w v1 s) (h2 : StrsR w v2 g) :
    Calls Try.prog 14 #[v1, v2] w fun e w' => e = .returned (.bool (isPre s g)) ∧ ∃ q, w' = w.drewN q := by
  obtain ⟨a1, c1, rfl, hc1, hm1, ha1, hr1⟩ := h1
  obtain ⟨a2, c2, rfl, hc2, hm2, ha2, hr2⟩ := h2
  by_cases hle : g.length ≤ s.length
  · by_cases hg0 : g.length = 0
    · obtain rfl : g = [] := List.eq_nil_of_length_eq_zero hg0
      have hfin : isPre s [] = true := by unfold isPre; simp
      rw [hfin]
      clear hr1 hr2 ha1 ha2 hfin hg0 hle
      simp only [List.length_nil] at *
      go_enter Try.func14, Try.ntmps14
      go_wp2_with fail
      refine (Try.slices_Equal_string_empty _ _ _ _ _ _ (by omega)).mono ?_
      rintro e w1 ⟨rfl, rfl⟩
      go_wp2_with fail
      go_ret
      exact ⟨rfl, 0, rfl⟩
    · obtain ⟨b1, o1, rfl⟩ := ha1 (by omega)
      obtain ⟨b2, o2, rfl⟩ := ha2 (by omega)
      have hx := hr1 b1 o1 rfl
      have hy := hr2 b2 o2 rfl
      have HX := Lib.hid hx
      have HY := Lib.hid hy
      clear hr1 hr2 ha1 ha2 hx hy
      go_enter Try.func14, Try.ntmps14
      go_wp2_with fail
      refine (Try.slices_Equal_string b1 o1 g.length c1 b2 o2 g.length c2 s g w hle (Nat.le_refl _) hm2 hm2 HX.out HY.out).mono ?_
      rintro e w1 ⟨rfl, q, rfl⟩
      rw [List.take_length]
      have hfin : isPre s g = decide (s.take g.length = g) := by unfold isPre; simp [hle]
      have HF := Lib.hid hfin
      clear hfin
      go_wp2_with fail
      go_ret
      exact ⟨ret_bool (by rw [HF.out]), q, rfl⟩
  · have hfin : isPre s g = false := by unfold isPre; simp [hle]
    rw [hfin]
    clear hr1 hr2 ha1 ha2 hfin
    go_enter Try.func14, Try.ntmps14
    go_wp2_with fail
    go_ret
    exact ⟨rfl, 0, rfl⟩

/-- A slice value that reads as these epochs: what each sent, what each got. -/
def EpsR (w : World) (v : Value) (es : List (List ByteArray × List ByteArray)) : Prop :=
  ∃ a c, v = .slice a es.length c ∧ es.length ≤ c ∧ es.length ≤ 1000000000000 ∧ (0 < c → ∃ b o, a = some ⟨b, o, none⟩) ∧
    (∀ b o, a = some ⟨b, o, none⟩ → ∀ j (h : j < es.length), ∃ sv gv, w.cell? ⟨b, o + j * 2, none⟩ = some sv ∧ w.cell? ⟨b, o + j * 2 + 1, none⟩ = some gv ∧ StrsR w sv es[j].1 ∧ StrsR w gv es[j].2)

theorem EpsR.below {w w' : World} {v : Value} {es : List (List ByteArray × List ByteArray)} (h : EpsR w v es) (hb : Below w.heap.size w w') : EpsR w' v es := by
  obtain ⟨a, c, hv, hc, hm, ha, hr⟩ := h
  refine ⟨a, c, hv, hc, hm, ha, fun b o hbo j hj => ?_⟩
  obtain ⟨sv, gv, h1, h2, h3, h4⟩ := hr b o hbo j hj
  exact ⟨sv, gv, (hb.cell (block_lt_of_cell h1)).trans h1, (hb.cell (block_lt_of_cell h2)).trans h2, h3.below hb, h4.below hb⟩

set_option maxHeartbeats 1000000 in
theorem match1_any (sv gv gv2 : Value) (gb : Nat) (s g : List ByteArray) (w : World) (h1 : StrsR w sv s) (h2 : StrsR w gv2 g) (hc : w.cell? ⟨gb, 1, none⟩ = some gv2) :
    Calls Try.prog 19 #[.agg #[sv, gv], .pointer (some ⟨gb, 0, none⟩)] w fun e w' => e = .returned (.bool (isPre s g)) ∧ Below w.heap.size w w' := by
  have hlt := block_lt_of_cell hc
  have hlt2 : gb < w.heap.size := hlt
  go_enter Try.func19, Try.ntmps19
  go_wp2_with fail
  refine (prefix_any _ _ s g _ (h1.below ((Below.refl _ _).alloc (Nat.le_refl _) _)) (h2.below ((Below.refl _ _).alloc (Nat.le_refl _) _))).mono ?_
  rintro e w1 ⟨rfl, q, rfl⟩
  go_wp2_with fail
  go_ret
  exact ⟨rfl, below_drewN ((Below.refl _ _).alloc (Nat.le_refl _) _) q⟩

def firstFit (es : List (List ByteArray × List ByteArray)) (g : List ByteArray) : Int := match es.findIdx? (fun e => isPre e.1 g) with
  | some i => (i : Int)
  | none => -1

theorem firstFit_found {es : List (List ByteArray × List ByteArray)} {g : List ByteArray} (k : Nat) (h : k < es.length) (hn : ∀ j (h : j < es.length), j < k → isPre es[j].1 g = false) (hk : isPre es[k].1 g = true) : firstFit es g = k := by
  unfold firstFit
  have : es.findIdx? (fun e => isPre e.1 g) = some k := by
    rw [List.findIdx?_eq_some_iff_getElem]
    exact ⟨h, hk, fun j hj => by simp [hn j (by omega) hj]⟩
  rw [this]
theorem firstFit_none {es : List (List ByteArray × List ByteArray)} {g : List ByteArray} (hn : ∀ j (h : j < es.length), isPre es[j].1 g = false) : firstFit es g = -1 := by
  unfold firstFit
  have : es.findIdx? (fun e => isPre e.1 g) = none := by
    rw [List.findIdx?_eq_none_iff]
    intro x hx
    obtain ⟨j, hj, rfl⟩ := List.mem_iff_getElem.1 hx
    exact hn j hj
  rw [this]

set_option maxHeartbeats 1000000 in
theorem indexFunc_any (v : Value) (gv2 : Value) (gb : Nat) (es : List (List ByteArray × List ByteArray)) (g : List ByteArray) (w : World) (h1 : EpsR w v es) (h2 : StrsR w gv2 g) (hc : w.cell? ⟨gb, 1, none⟩ = some gv2) :
    Calls Try.prog 18 #[v, .func (.func 19) #[] #[.pointer (some ⟨gb, 0, none⟩)]] w fun e w' => e = .returned (.int .i64 (firstFit es g)) ∧ Below w.heap.size w w' := by
  have HE := Lib.hid h1
  obtain ⟨a, c, rfl, hc1, hm1, ha, hr⟩ := h1
  have HR := Lib.hid hr
  clear hr
  go_enter Try.func18, Try.ntmps18
  go_wp2_with fail
  go_loopw [8] (fun i wr => ∃ k : Nat, k ≤ es.length ∧ i = .int .i64 k ∧ Hid (∀ j (h : j < es.length), j < k → isPre es[j].1 g = false) ∧ Below w.heap.size w wr) (fun i _ => es.length - (intOf i).toNat)
  case atStart => exact ⟨0, Nat.zero_le _, rfl, Lib.hid (fun j h hj => absurd hj (Nat.not_lt_zero _)), Below.refl _ _⟩
  case round =>
    obtain ⟨k, hk, rfl, hno, hbel⟩ := hrel
    by_cases hlt : k < es.length
    · obtain ⟨b, o, rfl⟩ := ha (by omega)
      obtain ⟨sv, gv, q1, q2, q3, q4⟩ := HR.out b o rfl k hlt
      have g1 := (hbel.cell (block_lt_of_cell q1)).trans q1
      have g2 := (hbel.cell (block_lt_of_cell q2)).trans q2
      have g3 := (hbel.cell (block_lt_of_cell hc)).trans hc
      have hs := q3.below hbel
      have hg := h2.below hbel
      clear q1 q2 q3 q4 hc h2 HR HE
      cases hp : isPre es[k].1 g with
      | true =>
        have hfin := firstFit_found k hlt hno.out hp
        have HF := Lib.hid hfin
        clear hfin
        go_wp2_with fail
        refine (match1_any _ _ _ _ _ g _ hs hg g3).mono ?_
        rintro e w1 ⟨rfl, hb1⟩
        rw [hp]
        go_wp2_with fail
        go_ret
        exact ⟨ret_int (by rw [HF.out]), belSeq hbel hb1⟩
      | false =>
        have HN : Hid (∀ j (h : j < es.length), j < k + 1 → isPre es[j].1 g = false) := Lib.hid (fun j h hj => by
          by_cases e : j = k
          · subst e; exact hp
          · exact hno.out j h (by omega))
        go_wp2_with fail
        refine (match1_any _ _ _ _ _ g _ hs hg g3).mono ?_
        rintro e w1 ⟨rfl, hb1⟩
        rw [hp]
        clear hp
        have hbel2 := belSeq hbel hb1
        clear hbel hb1
        go_wp2_with fail
        go_roundw
        case rel => exact ⟨k + 1, by omega, by go_num, HN, hbel2⟩
        case measure => simp [intOf]; omega
    · have hfin := firstFit_none (es := es) (g := g) (fun j h => hno.out j h (by omega))
      have HF := Lib.hid hfin
      clear hfin
      go_wp2_with fail
      go_ret
      exact ⟨ret_int (by rw [HF.out]), hbel⟩
end Go.Proofs.Ytanmdmidjeobeaa
