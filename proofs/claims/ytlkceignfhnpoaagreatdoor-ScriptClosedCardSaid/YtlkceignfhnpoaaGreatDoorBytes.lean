/-
  string([]byte{..}) of new bytes.
-/
import Derived.Test.YtlkceignfhnpoaaGreatDoorRows
import Derived.WalkKit
import Derived.Laws.BytesArg
import Derived.Laws.IdiomStrings
set_option linter.unusedVariables false
set_option linter.unusedSimpArgs false
namespace Go.Proofs.YtlkceignfhnpoaaGreatDoor
open Go.RowKit

theorem conv1 (w : World) (b : Nat) (c : Int) (hb : w.heap.size = b) :
    (convert 66 9 (.slice (some ⟨b, 0, none⟩) 1 1)).run Tryz.prog (w.alloc (.cells #[.int .u8 c] 5)) = .ok (.string ⟨#[UInt8.ofNat c.toNat]⟩) (w.alloc (.cells #[.int .u8 c] 5)) := by
  subst hb
  refine (run_convert_bytes_arg _ 66 5 Tryz.underlying66 Tryz.underlying5 w.heap.size 0 1 1 [c] rfl ?_) 9 Tryz.underlying9
  intro i hi
  obtain rfl : i = 0 := by omega
  simp [World.cell?_alloc_mark]
theorem conv1d (w : World) (b : Nat) (c : Int) (hb : w.heap.size = b) :
    (convert 66 9 (.slice (some ⟨b, 0, none⟩) 1 1)).run Tryz.prog (w.alloc (.cells #[.int .u8 c] 5)).drew = .ok (.string ⟨#[UInt8.ofNat c.toNat]⟩) (w.alloc (.cells #[.int .u8 c] 5)).drew := by
  subst hb
  refine (run_convert_bytes_arg _ 66 5 Tryz.underlying66 Tryz.underlying5 w.heap.size 0 1 1 [c] rfl ?_) 9 Tryz.underlying9
  intro i hi
  obtain rfl : i = 0 := by omega
  show (w.alloc (.cells #[.int .u8 c] 5)).cell? _ = _
  simp [World.cell?_alloc_mark]
theorem conv4 (w : World) (b : Nat) (c d e f : Int) (hb : w.heap.size = b) :
    (convert 66 9 (.slice (some ⟨b, 0, none⟩) 4 4)).run Tryz.prog (w.alloc (.cells #[.int .u8 c, .int .u8 d, .int .u8 e, .int .u8 f] 5)) = .ok (.string ⟨#[UInt8.ofNat c.toNat, UInt8.ofNat d.toNat, UInt8.ofNat e.toNat, UInt8.ofNat f.toNat]⟩) (w.alloc (.cells #[.int .u8 c, .int .u8 d, .int .u8 e, .int .u8 f] 5)) := by
  subst hb
  refine (run_convert_bytes_arg _ 66 5 Tryz.underlying66 Tryz.underlying5 w.heap.size 0 4 4 [c, d, e, f] rfl ?_) 9 Tryz.underlying9
  intro i hi
  have : i = 0 ∨ i = 1 ∨ i = 2 ∨ i = 3 := by omega
  rcases this with rfl | rfl | rfl | rfl <;> simp [World.cell?_alloc_mark]
end Go.Proofs.YtlkceignfhnpoaaGreatDoor
