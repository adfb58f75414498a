/-
  AuditFinds: what the records make of an audit, step for step (no walk).
-/
import Derived.Test.YtbppgicdmkkmnaaDoorAuSmall
set_option linter.unusedVariables false
set_option linter.unusedSimpArgs false
namespace Go.Proofs.YtbppgicdmkkmnaaDoor
open Go.RowKit

def fiQ (i : Nat) (e : EndS) : AudS := (newP 16777213 16777213).put i e
theorem fiQ_e (i : Nat) (e : EndS) : (fiQ i e).e i = e := AudS.put_e _ _ _
theorem fiQ_put (i : Nat) (e e' : EndS) : (fiQ i e).put i e' = fiQ i e' := AudS.put_put _ _ _ _
theorem fiQ_st (i j : Nat) (e : EndS) : (fiQ i e).st j = 16777213 := by unfold AudS.st fiQ AudS.put newP; split <;> split <;> rfl
theorem fiQ_l (i : Nat) (e : EndS) : (fiQ i e).l = [] := AudS.put_l _ _ _
theorem new_e (x y : Int) (i : Nat) : (newP x y).e i = zeroE := by unfold AudS.e newP; split <;> rfl
theorem new_st (x : Int) (i : Nat) : (newP x x).st i = x := by unfold AudS.st newP; split <;> rfl
theorem fiQ_other (i : Nat) (e : EndS) (hi : i < 2) : (fiQ i e).e (1 - i) = zeroE := by
  rcases (by omega : i = 0 ∨ i = 1) with rfl | rfl <;> rfl
def fiG (c : Int) (k : Nat) : EndS := { freshE 16777213 c none with s := (16777213 + (k : Int)) % 16777216 }
theorem fiG_zero (c : Int) : freshE 16777213 c none = fiG c 0 := rfl
theorem fi_small (i : Nat) (e : EndS) (h : e.cnt ≤ 10) : small (fiQ i e) 900 := (small_mk i e h)
where small_mk (i : Nat) (e : EndS) (h : e.cnt ≤ 10) : small ((newP 16777213 16777213).put i e) 900 :=
  small.put ⟨Nat.zero_le _, fun j => by rw [new_e]; exact Nat.zero_le _⟩ (Nat.le_trans h (by decide))
theorem fi_grant (i : Nat) (c : Int) (h0 : 1 ≤ c) (h1 : c ≤ 40) (w : World) (rf : Bool) :
    StepR w (newP 16777213 16777213) i ⟨i, 2, 6, (16777213 + c) % 16777216, 0, none, 0, 0, 0, 0, 0⟩ rf (fiQ i { zeroE with credit := c }) := by
  have := StepR.grant (w := w) (P := newP 16777213 16777213) (i := i) 6 ((16777213 + c) % 16777216) 0 0 0 0 rf (.inr rfl)
  have h2 : (newP 16777213 16777213).put i (grantE ((newP 16777213 16777213).e i) (((16777213 + c) % 16777216 - (newP 16777213 16777213).st i) % 16777216)) = fiQ i { zeroE with credit := c } := by
    rw [new_e, new_st, show ((16777213 + c) % 16777216 - 16777213) % 16777216 = c by omega]
    unfold grantE
    rw [if_pos (by omega), show max zeroE.credit c = c by show max 0 c = c; omega]
    rfl
  rw [h2] at this; exact this
theorem fi_conf (i : Nat) (c : Int) (w : World) (rf : Bool) :
    StepR w (fiQ i { zeroE with credit := c }) i ⟨i, 5, 0, 0, 0, none, 0, 0, 6, 0, 0⟩ rf (fiQ i (fiG c 0)) := by
  have := StepR.conf (w := w) (P := fiQ i { zeroE with credit := c }) (i := i) 0 0 0 0 0 rf
  rw [fiQ_put, fiQ_st, fiQ_e] at this
  exact this
theorem fi_data (i : Nat) (e : EndS) (k : Int) (hb : e.begun = true) (w : World) (rf : Bool) :
    StepR w (fiQ i e) i ⟨i, 1, 8, (16777213 + k) % 16777216, 0, none, 0, 0, 0, 0, 0⟩ rf (dataA (fiQ i e) i i ((16777213 + k) % 16777216)) :=
  .sd _ 0 0 0 rf (by rw [fiQ_e]; exact hb) (Int.emod_nonneg _ (by decide)) (Int.emod_lt_of_pos _ (by decide))
theorem fi_go (i : Nat) (e : EndS) (n : Int) (hs : n = e.s) (hb : betB e.a n e.ms = true) : dataA (fiQ i e) i i n = fiQ i { e with s := (n + 1) % 16777216 } := by
  unfold dataA; rw [fiQ_e, if_pos hs, if_pos hb, fiQ_put]
theorem fi_credit (i : Nat) (e : EndS) (n : Int) (hs : n = e.s) (hb : betB e.a n e.ms = false) : (dataA (fiQ i e) i i n).l = [probL i creditW] := by
  unfold dataA; rw [fiQ_e, if_pos hs, if_neg (by rw [hb]; decide), AudS.put_l]; show (fiQ i e).l ++ _ = _; rw [fiQ_l]; rfl
theorem fi_again (i : Nat) (e : EndS) (n : Int) (hs : n ≠ e.s) (hb : betB e.a n e.s = true) (hf : e.f n = 0) : (dataA (fiQ i e) i i n).l = [probL i againW] := by
  unfold dataA; rw [fiQ_e, if_neg hs, if_pos hb, if_pos hf, AudS.put_l]; show (fiQ i e).l ++ _ = _; rw [fiQ_l]; rfl
theorem fi_named (i : Nat) (e : EndS) (n : Int) (hs : n ≠ e.s) (hb : betB e.a n e.s = true) (hf : e.f n ≠ 0) : dataA (fiQ i e) i i n = fiQ i { e with f := updF e.f n 0, cnt := e.cnt + 1 } := by
  unfold dataA; rw [fiQ_e, if_neg hs, if_pos hb, if_neg hf, fiQ_put]
theorem fi_number (i : Nat) (e : EndS) (n : Int) (hs : n ≠ e.s) (hb : betB e.a n e.s = false) : (dataA (fiQ i e) i i n).l = [probL i numberW] := by
  unfold dataA; rw [fiQ_e, if_neg hs, if_neg (by rw [hb]; decide)]; show (fiQ i e).l ++ _ = _; rw [fiQ_l]; rfl
theorem fi_sd (i : Nat) (c : Int) (k : Nat) (hk : (k : Int) < c) (hc : c ≤ 40) (w : World) (rf : Bool) :
    StepR w (fiQ i (fiG c k)) i ⟨i, 1, 8, (16777213 + (k : Int)) % 16777216, 0, none, 0, 0, 0, 0, 0⟩ rf (fiQ i (fiG c (k + 1))) := by
  have := fi_data i (fiG c k) k rfl w rf
  rw [fi_go i (fiG c k) ((16777213 + (k : Int)) % 16777216) rfl (by
    show decide (((16777213 + (k : Int)) % 16777216 - 16777213) % 16777216 < ((16777213 + c) % 16777216 - 16777213) % 16777216) = true
    exact decide_eq_true (by omega))] at this
  have e1 : ({ fiG c k with s := ((16777213 + (k : Int)) % 16777216 + 1) % 16777216 } : EndS) = fiG c (k + 1) := by
    unfold fiG
    rw [show ((16777213 + (k : Int)) % 16777216 + 1) % 16777216 = (16777213 + ((k + 1 : Nat) : Int)) % 16777216 by omega]
  rw [e1] at this; exact this
/- What a report makes of an end. -/
theorem came_s (e : EndS) (n mr : Int) (ns : List Int) : (cameE e n mr ns).s = e.s ∧ (cameE e n mr ns).a = (came1 e n).a ∧ (cameE e n mr ns).ms = (came2 (came1 e n) mr).ms := by
  unfold cameE
  have h : ∀ (ns : List Int) (e : EndS), (ns.foldl nameE e).s = e.s ∧ (ns.foldl nameE e).a = e.a ∧ (ns.foldl nameE e).ms = e.ms := by
    intro ns
    induction ns with
    | nil => intro e; exact ⟨rfl, rfl, rfl⟩
    | cons x t ih => intro e; exact ih (nameE e x)
  obtain ⟨h1, h2, h3⟩ := h ns (came2 (came1 e n) mr)
  refine ⟨h1.trans ?_, h2.trans ?_, h3⟩
  · unfold came2; split <;> unfold came1 <;> split <;> rfl
  · unfold came2; split <;> rfl
theorem came_f (e : EndS) (n mr x : Int) : (cameE e n mr [x]).f = updF e.f x 1 := by
  show updF (came2 (came1 e n) mr).f x 1 = _
  unfold came2; split <;> unfold came1 <;> split <;> rfl
theorem came_a0 (c : Int) (n : Nat) (hn : n ≤ 16) : (came1 (fiG c n) 16777213).a = 16777213 := by
  unfold came1; split
  · show maxN 16777213 16777213 16777213 = _; decide
  · rfl
theorem came_a1 (c : Int) (n : Nat) (h0 : 1 ≤ n) (hn : n ≤ 16) : (came1 (fiG c n) 16777214).a = 16777214 := by
  unfold came1
  have hw : withB (fiG c n).a 16777214 (fiG c n).s = true := by
    show decide ((16777214 - 16777213 : Int) % 16777216 ≤ ((16777213 + (n : Int)) % 16777216 - 16777213) % 16777216) = true
    exact decide_eq_true (by omega)
  rw [if_pos hw]
  show maxN 16777213 16777213 16777214 = _; decide
theorem came_ms (n : Nat) (h0 : 1 ≤ n) (hn : n ≤ 16) : (came2 (came1 (fiG (n : Int) n) 16777213) ((16777213 + (n : Int)) % 16777216)).ms = (16777213 + (n : Int)) % 16777216 := by
  have ha := came_a0 (n : Int) n hn
  have hm : (came1 (fiG (n : Int) n) 16777213).ms = (16777213 + (n : Int)) % 16777216 := by unfold came1; split <;> rfl
  unfold came2; split
  · show ((16777213 + (n : Int)) % 16777216) % 16777216 = _; omega
  · exact hm
def fiC1 (n : Nat) : EndS := cameE (fiG 40 n) 16777213 ((16777213 + 40) % 16777216) [16777213]
def fiC2 (n : Nat) : EndS := cameE (fiG 40 n) ((16777213 + 1) % 16777216) ((16777213 + 40) % 16777216) []
def fiC3 (n : Nat) : EndS := cameE (fiG (n : Int) n) 16777213 ((16777213 + (n : Int)) % 16777216) []
theorem fiC1_s (n : Nat) : (fiC1 n).s = (16777213 + (n : Int)) % 16777216 := (came_s _ _ _ _).1
theorem fiC1_a (n : Nat) (hn : n ≤ 16) : (fiC1 n).a = 16777213 := (came_s _ _ _ _).2.1.trans (came_a0 _ _ hn)
theorem fiC1_begun (n : Nat) : (fiC1 n).begun = true := (came_begun _ _ _ _).1
theorem fiC1_cnt (n : Nat) : (fiC1 n).cnt = 1 := came_cnt _ _ _ _
theorem fiC2_begun (n : Nat) : (fiC2 n).begun = true := (came_begun _ _ _ _).1
theorem fiC2_cnt (n : Nat) : (fiC2 n).cnt = 0 := came_cnt _ _ _ _
theorem fiC3_begun (n : Nat) : (fiC3 n).begun = true := (came_begun _ _ _ _).1
theorem fiC3_cnt (n : Nat) : (fiC3 n).cnt = 0 := came_cnt _ _ _ _
theorem bet_start (e : EndS) (n : Nat) (h0 : 1 ≤ n) (hn : n ≤ 16) (hs : e.s = (16777213 + (n : Int)) % 16777216) (ha : e.a = 16777213) (k : Int) (hk : 0 ≤ k ∧ k < n) :
    (16777213 + k) % 16777216 ≠ e.s ∧ betB e.a ((16777213 + k) % 16777216) e.s = true := by
  rw [hs, ha]
  refine ⟨by omega, ?_⟩
  unfold betB
  exact decide_eq_true (by omega)
def fiD1 (n : Nat) : EndS := { fiC1 n with f := updF (fiC1 n).f ((16777213 + 0) % 16777216) 0, cnt := (fiC1 n).cnt + 1 }
theorem c0_l (i n : Nat) (h0 : 1 ≤ n) (hn : n ≤ 16) : (dataA (fiQ i (fiG 40 n)) i i ((16777213 + ((n : Int) - 1)) % 16777216)).l = [probL i againW] := by
  obtain ⟨h1, h2⟩ := bet_start (fiG 40 n) n h0 hn rfl rfl ((n : Int) - 1) (by omega)
  exact fi_again i _ _ h1 h2 rfl
theorem c1_a (i n : Nat) (h0 : 1 ≤ n) (hn : n ≤ 16) : dataA (fiQ i (fiC1 n)) i i ((16777213 + 0) % 16777216) = fiQ i (fiD1 n) := by
  obtain ⟨h1, h2⟩ := bet_start (fiC1 n) n h0 hn (fiC1_s n) (fiC1_a n hn) 0 (by omega)
  refine fi_named i _ _ h1 h2 ?_
  unfold fiC1; rw [came_f]; unfold updF; rw [if_pos (by decide)]; decide
theorem c1_l (i n : Nat) (h0 : 1 ≤ n) (hn : n ≤ 16) : (dataA (fiQ i (fiD1 n)) i i ((16777213 + 0) % 16777216)).l = [probL i againW] := by
  obtain ⟨h1, h2⟩ := bet_start (fiD1 n) n h0 hn (fiC1_s n) (fiC1_a n hn) 0 (by omega)
  exact fi_again i _ _ h1 h2 (by show updF (fiC1 n).f ((16777213 + 0) % 16777216) 0 ((16777213 + 0) % 16777216) = 0; unfold updF; exact if_pos rfl)
theorem c2_l (i n : Nat) (h0 : 1 ≤ n) (hn : n ≤ 16) : (dataA (fiQ i (fiC2 n)) i i ((16777213 + 0) % 16777216)).l = [probL i numberW] := by
  have hs : (fiC2 n).s = (16777213 + (n : Int)) % 16777216 := (came_s _ _ _ _).1
  have ha : (fiC2 n).a = 16777214 := (came_s _ _ _ _).2.1.trans (came_a1 40 n h0 hn)
  refine fi_number i _ _ (by rw [hs]; omega) ?_
  rw [hs, ha]; unfold betB
  exact decide_eq_false (by omega)
theorem c3_l (i n : Nat) (h0 : 1 ≤ n) (hn : n ≤ 16) : (dataA (fiQ i (fiC3 n)) i i ((16777213 + (n : Int)) % 16777216)).l = [probL i creditW] := by
  have hs : (fiC3 n).s = (16777213 + (n : Int)) % 16777216 := (came_s _ _ _ _).1
  have ha : (fiC3 n).a = 16777213 := (came_s _ _ _ _).2.1.trans (came_a0 _ n hn)
  have hm : (fiC3 n).ms = (16777213 + (n : Int)) % 16777216 := (came_s _ _ _ _).2.2.trans (came_ms n h0 hn)
  refine fi_credit i _ _ hs.symm ?_
  rw [ha, hm]; unfold betB
  exact decide_eq_false (by omega)
theorem c7_l (i n : Nat) (h0 : 1 ≤ n) (hn : n ≤ 16) : (dataA (fiQ i (fiG 40 n)) i i ((16777213 + 0) % 16777216)).l = [probL i againW] := by
  obtain ⟨h1, h2⟩ := bet_start (fiG 40 n) n h0 hn rfl rfl 0 (by omega)
  exact fi_again i _ _ h1 h2 rfl
theorem tell_l (i j : Nat) (e : EndS) (x : List UInt8) : ((fiQ i e).tell j x).l = [probL j x] := by show (fiQ i e).l ++ _ = _; rw [fiQ_l]; rfl
theorem fi_ustat (i n g c : Nat) (w : World) (hg : BoxAt w g 24 [.int .u32 16777213, .int .u32 ((16777213 + 1) % 16777216)]) :
    StepR w (fiQ i (fiG 40 n)) i ⟨i, 2, 12, 16777213, (16777213 + 40) % 16777216, some ⟨g, 0, none⟩, 2, c, 0, 0, 0⟩ false (fiQ i (fiC1 n)) := by
  have := StepR.ustat (w := w) (P := fiQ i (fiG 40 n)) (i := i) 16777213 ((16777213 + 40) % 16777216) 16777213 0 0 0 g c (by rw [fiQ_e]; rfl) (by decide) (by decide) hg
  rw [fiQ_put, fiQ_e] at this; exact this
theorem fi_stat2 (i n : Nat) (w : World) : StepR w (fiQ i (fiG 40 n)) i ⟨i, 2, 11, (16777213 + 1) % 16777216, (16777213 + 40) % 16777216, none, 0, 0, 0, 0, 0⟩ false (fiQ i (fiC2 n)) := by
  have := StepR.stat (w := w) (P := fiQ i (fiG 40 n)) (i := i) ((16777213 + 1) % 16777216) ((16777213 + 40) % 16777216) 0 0 0 (by rw [fiQ_e]; rfl)
  rw [fiQ_put, fiQ_e] at this; exact this
theorem fi_stat3 (i n : Nat) (w : World) : StepR w (fiQ i (fiG (n : Int) n)) i ⟨i, 2, 11, 16777213, (16777213 + (n : Int)) % 16777216, none, 0, 0, 0, 0, 0⟩ false (fiQ i (fiC3 n)) := by
  have := StepR.stat (w := w) (P := fiQ i (fiG (n : Int) n)) (i := i) 16777213 ((16777213 + (n : Int)) % 16777216) 0 0 0 (by rw [fiQ_e]; rfl)
  rw [fiQ_put, fiQ_e] at this; exact this
theorem fi_poll (i n : Nat) (h0 : 1 ≤ n) (hn : n ≤ 16) (w : World) : StepR w (fiQ i (fiG 40 n)) i ⟨i, 1, 10, 16777213, 0, none, 0, 0, 0, 0, 0⟩ false ((fiQ i (fiG 40 n)).tell i pollW) :=
  .poll 16777213 0 0 0 false (by rw [fiQ_e]; rfl) (by rw [fiQ_e]; show (16777213 + (n : Int)) % 16777216 ≠ 16777213; omega) (by decide) (by decide)
theorem fi_list (i n g c : Nat) (hc : 2 ≤ c) (w : World) (hg : BoxAt w g 24 [.int .u32 ((16777213 + 2) % 16777216), .int .u32 ((16777213 + 1) % 16777216)]) :
    StepR w (fiQ i (fiG 40 n)) i ⟨i, 1, 11, 16777213, 0, some ⟨g, 0, none⟩, 2, c, 0, 0, 0⟩ false ((fiQ i (fiG 40 n)).tell i listW) :=
  .list 16777213 ((16777213 + 2) % 16777216) ((16777213 + 1) % 16777216) 0 0 0 g c false (by rw [fiQ_e]; rfl) (by decide) (by decide) (by decide) (by decide) (by decide) (by decide) hc hg
theorem fi_early (i n : Nat) (hi : i < 2) (w : World) : StepR w (fiQ i (fiG 40 n)) (1 - i) ⟨((1 - i : Nat) : Int), 5, 0, 0, 0, none, 0, 0, 8, 0, 0⟩ false ((fiQ i (fiG 40 n)).tell (1 - i) earlyW) :=
  .early 0 0 0 0 0 false (by rw [fiQ_other i _ hi]; rfl)
theorem fi_refd (i n g c : Nat) (w : World) : StepR w (fiQ i (fiG 40 n)) i ⟨i, 2, 12, 16777213, (16777213 + 40) % 16777216, some ⟨g, 0, none⟩, 2, c, 0, 0, 0⟩ true (fiQ i (fiG 40 n)) :=
  .refd 16777213 ((16777213 + 40) % 16777216) 0 0 0 0 g c (by rw [fiQ_e]; rfl)
theorem fi_told (i n : Nat) (w : World) : StepR w (fiQ i (fiG 40 n)) i ⟨i, 5, 0, 0, 0, none, 0, 0, 12, 84, 0⟩ false (fiQ i (fiG 40 n)) := .told 0 0 0 84 0 false
theorem fi_ref0 (i : Int) (c : Int) (x : Int) (g cc : Nat) : refusedB [⟨i, 2, 6, x, 0, none, 0, 0, 0, 0, 0⟩, ⟨i, 5, 0, 0, 0, none, 0, 0, 6, 0, 0⟩] 0 = false := by unfold refusedB; simp
theorem fi_ref7 (i : Int) (x y : Int) (g cc : Nat) : refusedB [⟨i, 2, 12, x, y, some ⟨g, 0, none⟩, 2, cc, 0, 0, 0⟩, ⟨i, 5, 0, 0, 0, none, 0, 0, 12, 84, 0⟩] 0 = true := by unfold refusedB; simp
theorem fi_refs (r r' : RecS) (h : r'.kd ≠ 5) : refusedB [r, r'] 0 = false := by unfold refusedB; simp [h]
end Go.Proofs.YtbppgicdmkkmnaaDoor
