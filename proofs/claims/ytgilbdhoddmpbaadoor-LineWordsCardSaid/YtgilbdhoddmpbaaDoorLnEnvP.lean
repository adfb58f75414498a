/-
  The package-level variables that a step's line reads: MaxLen, and the library's powers of ten. strconv.Itoa; strings.Join at one byte.
-/
import Derived.Test.YtgilbdhoddmpbaaDoorLnEnv
import Derived.Test.YtgilbdhoddmpbaaDoorBox
import Derived.Lib.LaidTab
import Derived.Lib.ItoaLen
import Derived.Lib.Hide
import Derived.Lib.Join
import Derived.WalkSmall
set_option linter.unusedVariables false
set_option linter.unusedSimpArgs false
namespace Go.Proofs.YtgilbdhoddmpbaaDoor
open Go.RowKit

structure EnvP (w : World) : Prop where
  most : EnvM w
  pow : Lib.TabIs Tryd.prog w "internal/strconv.uint64pow10" .u64 Lib.pow10Tab
  powLt : 3 < w.heap.size
theorem EnvP.below {w w' : World} (h : EnvP w) (hb : Below w.heap.size w w') : EnvP w' :=
  ⟨h.most.below hb, var?_below hb (by kernel_rfl) h.powLt h.pow, Nat.lt_of_lt_of_le h.powLt hb.size⟩
theorem itoaL (n : Int) (w : World) (h0 : -9223372036854775808 ≤ n) (h1 : n ≤ 9223372036854775807) (he : EnvP w) :
    Calls Tryd.prog 26 #[.int .i64 n] w fun e w' => e = .returned (.string ⟨(Lib.itoa n).toArray⟩) ∧ Below w.heap.size w w' :=
  (Tryd.strconv_Itoa n h0 h1 w he.pow).mono fun e w' ⟨h, k, os, hw⟩ => ⟨h, by rw [hw]; exact belGrow⟩
theorem join_libL (c : UInt8) : ∀ ws : List (List UInt8), Lib.join ws [c] = joinBy c ws
  | [] => rfl
  | [w] => Lib.join_one w [c]
  | w :: v :: ws => by
    have ih := join_libL c (v :: ws)
    rw [join_cons c w (by simp), ← ih]
    simp [Lib.join, List.intercalate]
/-- strings.Join, of a row of words. -/
theorem joinL (g cap B : Nat) (ws : List (List UInt8)) (c : UInt8) (w : World) (hw : w.ownsRow B 9 1 (.slice (some ⟨g, 0, none⟩) ws.length cap) ws.length (ws.map strV)) (hn : ws.length ≤ 100000) (hl : (joinBy c ws).length ≤ 10000000) :
    Calls Tryd.prog 27 #[.slice (some ⟨g, 0, none⟩) ws.length cap, .string ⟨#[c]⟩] w fun e w' => e = .returned (.string ⟨(joinBy c ws).toArray⟩) ∧ Below w.heap.size w w' := by
  have hcl := @World.ownsRow.cells _ _ _ _ _ _ _ hw
  have hlt2 := hw.lt
  have hcap : ws.length ≤ cap := by
    rcases hw.2 with ⟨hv, _⟩ | ⟨g', cap', cur, hv, _, _, h1, _⟩
    · cases hv
    · cases hv; exact h1
  have hmm : ((ws.map fun x => (⟨x.toArray⟩ : ByteArray)).map (·.data.toList)) = ws := by
    rw [List.map_map]; exact List.map_id _
  have := Tryd.strings_Join g 0 cap (ws.map fun x => ⟨x.toArray⟩) ⟨#[c]⟩ w (fun j x hx => by
    have h2 := hcl (g := g) rfl j (.string x) (by
      simp only [List.getElem?_map, Option.map_eq_some_iff] at hx ⊢
      obtain ⟨y, hy, rfl⟩ := hx
      exact ⟨y, hy, rfl⟩)
    by_cases hj0 : j = 0
    · subst hj0; simpa [Addr.add] using h2
    · simpa [Addr.add, hj0] using h2) (hlt2 g rfl).2 (by simp; omega) (by simpa using hcap) (by
    rw [hmm]
    show (Lib.join _ [c]).length ≤ _
    rw [join_libL]; omega)
  rw [hmm] at this
  rw [show (⟨#[c]⟩ : ByteArray).data.toList = [c] from rfl, join_libL] at this
  simpa using this
end Go.Proofs.YtgilbdhoddmpbaaDoor
