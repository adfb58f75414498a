/-
  Add at one, two and three records.
-/
import Derived.Test.YtbppgicdmkkmnaaDoorAuAdd
import Derived.Test.YtbppgicdmkkmnaaDoorAuSmall
set_option linter.unusedVariables false
set_option linter.unusedSimpArgs false
namespace Go.Proofs.YtbppgicdmkkmnaaDoor
open Go.RowKit

theorem add_one (B b g c i : Nat) (r : RecS) (P P' : AudS) (w : World) (h : AudP w B b P) (hr : RecsAt w g [r]) (hi : i < 2) (hs : StepR w P i r false P') (hP : small P 900) (hB : B ≤ w.heap.size) :
    Calls Tryd.prog 10 #[.pointer (some ⟨b, 0, none⟩), .slice (some ⟨g, 0, none⟩) 1 c] w (AddEnd w B b P') := by
  have h2 := hs.small hP
  exact add_any B b g c [r] (fun j => if j = 0 then P else P') (fun _ => i) w h hr (by simp) (fun _ => hi)
    (fun j hj => by
      have : j = 0 := by simpa using hj
      subst this; exact hs)
    (fun j => by
      show (if j = 0 then P else P').l.length ≤ 1000
      split
      · exact Nat.le_trans hP.1 (by decide)
      · exact Nat.le_trans h2.1 (by decide))
    (fun j i => by
      show ((if j = 0 then P else P').e i).cnt ≤ 1000
      split
      · exact Nat.le_trans (hP.2 i) (by decide)
      · exact Nat.le_trans (h2.2 i) (by decide)) hB
theorem add_two (B b g c i i' : Nat) (r r' : RecS) (P P' P'' : AudS) (w : World) (h : AudP w B b P) (hr : RecsAt w g [r, r']) (hi : i < 2) (hi' : i' < 2) (hs : StepR w P i r (refusedB [r, r'] 0) P') (hs' : StepR w P' i' r' false P'') (hP : small P 900) (hB : B ≤ w.heap.size) :
    Calls Tryd.prog 10 #[.pointer (some ⟨b, 0, none⟩), .slice (some ⟨g, 0, none⟩) 2 c] w (AddEnd w B b P'') := by
  have h2 := hs.small hP
  have h3 := hs'.small h2
  exact add_any B b g c [r, r'] (fun j => if j = 0 then P else if j = 1 then P' else P'') (fun j => if j = 0 then i else i') w h hr (by simp) (fun j => by show (if j = 0 then i else i') < 2; split <;> assumption)
    (fun j hj => by
      have : j = 0 ∨ j = 1 := by simp at hj; omega
      rcases this with rfl | rfl
      · exact hs
      · exact hs')
    (fun j => by
      show (if j = 0 then P else if j = 1 then P' else P'').l.length ≤ 1000
      split
      · exact Nat.le_trans hP.1 (by decide)
      · split
        · exact Nat.le_trans h2.1 (by decide)
        · exact Nat.le_trans h3.1 (by decide))
    (fun j i => by
      show ((if j = 0 then P else if j = 1 then P' else P'').e i).cnt ≤ 1000
      split
      · exact Nat.le_trans (hP.2 i) (by decide)
      · split
        · exact Nat.le_trans (h2.2 i) (by decide)
        · exact Nat.le_trans (h3.2 i) (by decide)) hB
theorem add_three (B b g c i i' i'' : Nat) (r r' r'' : RecS) (P P' P'' P3 : AudS) (w : World) (h : AudP w B b P) (hr : RecsAt w g [r, r', r'']) (hi : i < 2) (hi' : i' < 2) (hi'' : i'' < 2) (hs : StepR w P i r (refusedB [r, r', r''] 0) P') (hs' : StepR w P' i' r' (refusedB [r, r', r''] 1) P'') (hs'' : StepR w P'' i'' r'' false P3) (hP : small P 900) (hB : B ≤ w.heap.size) :
    Calls Tryd.prog 10 #[.pointer (some ⟨b, 0, none⟩), .slice (some ⟨g, 0, none⟩) 3 c] w (AddEnd w B b P3) := by
  have h2 := hs.small hP
  have h3 := hs'.small h2
  have h4 := hs''.small h3
  exact add_any B b g c [r, r', r''] (fun j => if j = 0 then P else if j = 1 then P' else if j = 2 then P'' else P3) (fun j => if j = 0 then i else if j = 1 then i' else i'') w h hr (by simp) (fun j => by show (if j = 0 then i else if j = 1 then i' else i'') < 2; split; assumption; split <;> assumption)
    (fun j hj => by
      have : j = 0 ∨ j = 1 ∨ j = 2 := by simp at hj; omega
      rcases this with rfl | rfl | rfl
      · exact hs
      · exact hs'
      · exact hs'')
    (fun j => by
      show (if j = 0 then P else if j = 1 then P' else if j = 2 then P'' else P3).l.length ≤ 1000
      split
      · exact Nat.le_trans hP.1 (by decide)
      · split
        · exact Nat.le_trans h2.1 (by decide)
        · split
          · exact Nat.le_trans h3.1 (by decide)
          · exact Nat.le_trans h4.1 (by decide))
    (fun j i => by
      show ((if j = 0 then P else if j = 1 then P' else if j = 2 then P'' else P3).e i).cnt ≤ 1000
      split
      · exact Nat.le_trans (hP.2 i) (by decide)
      · split
        · exact Nat.le_trans (h2.2 i) (by decide)
        · split
          · exact Nat.le_trans (h3.2 i) (by decide)
          · exact Nat.le_trans (h4.2 i) (by decide)) hB
end Go.Proofs.YtbppgicdmkkmnaaDoor
