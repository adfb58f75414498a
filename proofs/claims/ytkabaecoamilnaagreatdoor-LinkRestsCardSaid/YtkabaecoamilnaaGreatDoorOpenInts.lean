/-
  A slice of ints that came in, opened as IntsR.
-/
import Derived.Test.YtkabaecoamilnaaGreatDoorIntsR
import Derived.Test.YtkabaecoamilnaaGreatDoorLaw
import Derived.ChangeSlices
import Derived.DataReads
set_option linter.unusedVariables false
set_option linter.unusedSimpArgs false
namespace Go.Proofs.YtkabaecoamilnaaGreatDoor
open Go.ChangeShapes Go.WideShapes Go.ChangeAt Go.RowKit

theorem ints_of_trod {H : Type} {enc : TypeId × Value → H} {P : Program} {w : World} {t e : TypeId} {k : IntKind} {fuel : Nat} {cs : List Value} {x : DataW H × List MemPlace} (ht : P.underlying t = some (.slice e)) (he : P.underlying e = some (.int k)) (hc : P.cellsOf e = 1)
    (h : DataW.trod enc P w 0 (fun _ => true) true fuel t cs = some x) :
    ∃ v l, cs = [v] ∧ IntsR k w v l ∧ ∀ n ∈ l, (Lit.int k n).wf = true := by
  rcases open_ints ht he hc h with ⟨hcs, hx⟩ | ⟨a, len, cap, zs, hcs, _, hl, hm, hz, hx, hcell, hwz⟩
  · exact ⟨_, [], hcs, IntsR.nil k w, fun n h => by cases h⟩
  · simp only [if_true] at hz
    have hll : (zs.take len).length = len := by simp; omega
    refine ⟨_, zs.take len, hcs, ?_, fun n hn => hwz n (List.mem_of_mem_take hn)⟩
    refine ⟨some a, cap, by rw [hll], by omega, by unfold maxLen at hm; omega, fun hc0 => ?_, ?_⟩
    · have h0 := hcell 0 (by omega)
      have hs : a.spot = none := World.cell?_spot (by simpa [Addr.add] using h0)
      exact ⟨a.block, a.off, by cases a; simp_all⟩
    · rintro b o hbo j hj
      cases hbo
      have hjl : j < zs.length := by omega
      have h0 := hcell j hjl
      have e1 : (zs.take len).getD j 0 = zs.getD j 0 := by
        rw [hll] at hj
        simp [List.getD_eq_getElem?_getD, hj]
      rw [e1]
      by_cases hj0 : j = 0
      · subst hj0; simpa [Addr.add] using h0
      · simpa [Addr.add, hj0] using h0
end Go.Proofs.YtkabaecoamilnaaGreatDoor
