/-
  A slice of texts that came in.
-/
import Derived.Test.YtgilbdhoddmpbaaDoorCommon
import Derived.Test.YtgilbdhoddmpbaaDoorLaw
import Derived.SliceStrings
import Derived.ChangeSlices
import Derived.DataReads
set_option linter.unusedVariables false
set_option linter.unusedSimpArgs false
namespace Go.Proofs.YtgilbdhoddmpbaaDoor
open Go.ChangeShapes Go.WideShapes Go.ChangeAt Go.RowKit

/-- A slice value that reads as these texts. -/
def StrsR (w : World) (v : Value) (ss : List ByteArray) : Prop :=
  ∃ a c, v = .slice a ss.length c ∧ ss.length ≤ c ∧ ss.length ≤ 9223372036854775807 ∧ (0 < c → ∃ b o, a = some ⟨b, o, none⟩) ∧ (∀ b o, a = some ⟨b, o, none⟩ → ∀ j, j < ss.length → w.cell? ⟨b, o + j, none⟩ = some (.string (ss.getD j ByteArray.empty)))
theorem StrsR.below {w w' : World} {v : Value} {ss : List ByteArray} (h : StrsR w v ss) (hb : Below w.heap.size w w') : StrsR w' v ss := by
  obtain ⟨a, c, hv, hc, hm, ha, hr⟩ := h
  refine ⟨a, c, hv, hc, hm, ha, fun b o hbo j hj => ?_⟩
  have h1 := hr b o hbo j hj
  rw [hb.cell (block_lt_of_cell h1)]
  exact h1
theorem add_at_none {a : Addr} (hs : a.spot = none) (k : Nat) : a.add k = ⟨a.block, a.off + k, none⟩ := by
  cases a; simp_all [Addr.add]
theorem strs_of_trod {H : Type} {enc : TypeId × Value → H} {P : Program} {w : World} {t e : TypeId} {fuel : Nat} {cs : List Value} {x : DataW H × List MemPlace} (ht : P.underlying t = some (.slice e)) (he : P.underlying e = some .string) (hc : P.cellsOf e = 1)
    (h : DataW.trod enc P w 0 (fun _ => true) true fuel t cs = some x) : ∃ v ss, cs = [v] ∧ StrsR w v ss ∧ ∀ s ∈ ss, s.size ≤ maxLen := by
  rcases open_strings ht he hc h with ⟨hcs, hx⟩ | ⟨a, len, cap, zs, hcs, _, hl, hm, hz, hx, hcell, hwz⟩
  · exact ⟨_, [], hcs, ⟨none, 0, rfl, by simp, by simp, by simp, by simp⟩, fun s hs => by cases hs⟩
  · simp only [if_true] at hz
    have hll : (zs.take len).length = len := by simp; omega
    refine ⟨_, zs.take len, hcs, ⟨some a, cap, by rw [hll], by omega, by unfold maxLen at hm; omega, fun hc0 => ?_, ?_⟩, fun s hs => hwz s (List.mem_of_mem_take hs)⟩
    · have h0 := hcell 0 (by omega)
      have hs : a.spot = none := World.cell?_spot (by simpa [Addr.add] using h0)
      exact ⟨a.block, a.off, by cases a; simp_all⟩
    · rintro b o hbo j hj
      cases hbo
      rw [hll] at hj
      have h0 := hcell j (by omega)
      rw [add_at_none rfl] at h0
      rw [h0]
      simp [List.getD_eq_getElem?_getD, hj]
end Go.Proofs.YtgilbdhoddmpbaaDoor
