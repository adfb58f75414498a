/-
  Rows of numbers that a call appends to.
-/
import Derived.Test.YtlkceignfhnpoaaGreatDoorPduV
import Derived.Deep.DeepCutAuto
set_option linter.unusedVariables false
set_option linter.unusedSimpArgs false
namespace Go.Proofs.YtlkceignfhnpoaaGreatDoor
open Go.RowKit

theorem info_u32 : (Tryz.prog.info? 35).map (fun i => (i.zero, i.size, i.bytes)) = some (some (.int .u32 0), 1, 4) := by kernel_rfl
theorem ownsRow_mono {w : World} {B C e size : Nat} {v : Value} {n : Nat} {xs : List Value} (h : w.ownsRow B e size v n xs) (hBC : C ≤ B) : w.ownsRow C e size v n xs := by
  obtain ⟨h1, h2 | ⟨g, cap, cur, h2, h3, h4⟩⟩ := h
  · exact ⟨h1, .inl h2⟩
  · exact ⟨h1, .inr ⟨g, cap, cur, h2, by omega, h4⟩⟩
theorem IntsR.at {kd : IntKind} {w : World} {b o n c : Nat} {ns : List Int} (h : IntsR kd w (.slice (some ⟨b, o, none⟩) n c) ns) (j : Nat) (hj : j < ns.length) : w.cell? ⟨b, o + j, none⟩ = some (.int kd ns[j]) := by
  obtain ⟨a, c', hv, _, _, _, hr⟩ := h
  cases hv
  have := hr b o rfl j hj
  rwa [show ns.getD j 0 = ns[j] by simp [hj]] at this
/-- What one append of a new number makes. -/
theorem app_step {kd : IntKind} {W0 wr w' : World} {B e : Nat} {v v' : Value} {ns : List Int} {x : Int} {o : Obj} (hb : Below B W0 wr) (hB : B ≤ W0.heap.size) (hown : wr.ownsRow B e 1 v ns.length (ns.map (Value.int kd)))
    (hown' : w'.ownsRow B e 1 v' (ns.length + 1) (ns.map (Value.int kd) ++ [.int kd x])) (hg : (wr.alloc o).grownBy w' v.ownBlock) :
    w'.ownsRow B e 1 v' (ns ++ [x]).length ((ns ++ [x]).map (Value.int kd)) ∧ Below B W0 w' := by
  refine ⟨by simpa using hown', ?_⟩
  exact (hb.alloc (Nat.le_trans hB hb.size) _).grown hg (by simp; have := hb.size; omega) (fun q hq => (hown.lt q hq).1)

end Go.Proofs.YtlkceignfhnpoaaGreatDoor
