/-
  Few problems, few names.
-/
import Derived.Test.YtbppgicdmkkmnaaDoorAuNew
set_option linter.unusedVariables false
set_option linter.unusedSimpArgs false
namespace Go.Proofs.YtbppgicdmkkmnaaDoor
open Go.RowKit

/-- Few problems, few names. -/
def small (P : AudS) (N : Nat) : Prop := P.l.length ≤ N ∧ ∀ i, (P.e i).cnt ≤ N
theorem small.mono {P : AudS} {N M : Nat} (h : small P N) (hNM : N ≤ M) : small P M := ⟨Nat.le_trans h.1 hNM, fun i => Nat.le_trans (h.2 i) hNM⟩
theorem small.put {P : AudS} {N : Nat} (h : small P N) {i : Nat} {x : EndS} (hx : x.cnt ≤ N) : small (P.put i x) N := by
  refine ⟨by rw [AudS.put_l]; exact h.1, fun j => ?_⟩
  have h0 := h.2 0
  have h1 := h.2 1
  unfold AudS.put
  by_cases e : i = 0
  · rw [if_pos e]; unfold AudS.e; split
    · exact hx
    · exact h1
  · rw [if_neg e]; unfold AudS.e; split
    · exact h0
    · exact hx
theorem small.tell {P : AudS} {N : Nat} (h : small P N) (i : Nat) (x : List UInt8) : small (P.tell i x) (N + 1) := by
  refine ⟨?_, fun j => Nat.le_trans (h.2 j) (by omega)⟩
  unfold AudS.tell; rw [List.length_append]; have := h.1; show _ + 1 ≤ _; omega
theorem came_cnt (e : EndS) (n mr : Int) (ns : List Int) : (cameE e n mr ns).cnt = e.cnt + ns.length := by
  unfold cameE; rw [(name_m _ _).2, (came2_m _ _).2, (came1_m _ _).2]
theorem StepR.small {w : World} {P P' : AudS} {i : Nat} {r : RecS} {rf : Bool} {N : Nat} (h : StepR w P i r rf P') (hs : small P N) : small P' (N + 1) := by
  have h1 := hs.2 i
  have hm := hs.mono (Nat.le_succ N)
  cases h with
  | grant k n mr sk sc rk rf hk => exact hm.put (by unfold grantE; split <;> exact hm.2 _)
  | conf => exact hm.put (Nat.zero_le _)
  | ask k n mr sk sc rk rf hr => exact hm.put (Nat.zero_le _)
  | sd n sk sc rk rf hb h0 h1 =>
    unfold dataA
    split
    · split
      · exact hm.put (hm.2 i)
      · exact (hs.tell _ _).put (hm.2 i)
    · split
      · split
        · exact (hs.tell _ _).put (Nat.succ_le_succ (hs.2 i))
        · exact hm.put (Nat.succ_le_succ (hs.2 i))
      · exact hs.tell _ _
  | stat n mr sk sc rk hb => exact hm.put (by rw [came_cnt]; exact hm.2 i)
  | ustat n mr x sk sc rk g c hb h0 h1 hg => exact hm.put (by rw [came_cnt]; show _ + 1 ≤ _; omega)
  | refd n mr x sk sc rk g c hb => exact hm
  | poll n sk sc rk rf hb hs' h0 h1 => exact hs.tell _ _
  | list n x y sk sc rk g c rf hb h0 h1 hx hy hx0 hy0 hc hg => exact hs.tell _ _
  | early k n mr sc rk rf hb => exact hs.tell _ _
  | told => exact hm
theorem AudP.below {w w' : World} {B b : Nat} {P : AudS} (h : AudP w B b P) (hb : Below w.heap.size w w') : AudP w' B b P := by
  obtain ⟨S, lv, ha, hs, hg⟩ := h; exact ⟨S, lv, ha.below hb, hs, hg⟩
theorem AudP.ge {w : World} {B b : Nat} {P : AudS} (h : AudP w B b P) : B ≤ b ∧ b < w.heap.size := by
  obtain ⟨S, lv, ha, hs, hg⟩ := h; exact ⟨ha.ge, ha.lt⟩
end Go.Proofs.YtbppgicdmkkmnaaDoor
