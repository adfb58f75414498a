/-
  A link's config of the law that came in, opened (as XMOpen, upon MTicks).
-/
import Derived.Test.YtkabaecoamilnaaGreatDoorCMTicks
import Derived.Test.YtkabaecoamilnaaGreatDoorLaw
import Derived.Test.YtkabaecoamilnaaGreatDoorOpenInts
set_option linter.unusedVariables false
set_option linter.unusedSimpArgs false
namespace Go.Proofs.YtkabaecoamilnaaGreatDoor
open Go.ChangeShapes Go.WideShapes Go.ChangeAt Go.RowKit
section
variable {H : Type} {enc : TypeId × Value → H} {w : World}
theorem tick_of_trod {fuel : Nat} {c : Value} {x : DataW H × List MemPlace} (h : DataW.trod enc Tryz.prog w 0 (fun _ => true) true fuel 22 [c] = some x) : Tick w c := by
  rcases open_ints Tryz.underlying22 Tryz.underlying3 (by kernel_rfl) h with ⟨hcs, hx⟩ | ⟨a, len, cap, zs, hcs, _, hl, hm, hz, hx, hcell, hwz⟩
  · simp at hcs; exact .inl hcs
  · simp at hcs
    subst hcs
    simp only [if_true] at hz
    by_cases hc : cap = 0
    · subst hc
      obtain rfl : len = 0 := by omega
      exact .inr (.inl ⟨a, rfl⟩)
    · have h0 := hcell 0 (by omega)
      have hs : a.spot = none := World.cell?_spot (by simpa [Addr.add] using h0)
      obtain ⟨ab, ao, asp⟩ := a
      dsimp only at hs
      subst hs
      refine .inr (.inr ⟨ab, ao, len, cap, zs, rfl, hl, by omega, hm, hz, fun i hi => ?_⟩)
      have := hcell i (by omega)
      by_cases hi0 : i = 0
      · subst hi0
        simpa [Addr.add] using this
      · simpa [Addr.add, hi0] using this
set_option maxRecDepth 100000 in
theorem open_cfg16 {fuel : Nat} {cs : List Value} {x : DataW H × List MemPlace} (h : DataW.trod enc Tryz.prog w 0 (fun _ => true) true fuel 24 cs = some x) :
    ∃ (a0 a1 a2 a3 a4 a5 : Int) (xa : Value), cs = [.int .i64 a0, .int .i64 a1, .int .i64 a2, .int .i64 a3, .int .i64 a4, .int .i64 a5, xa] ∧ Tick w xa := by
  obtain ⟨xs, n, _, _, hl, hlen, hg⟩ := DataW.trod_struct Tryz.underlying24 h
  have hC : Tryz.prog.cellsOf 24 = 7 := by kernel_rfl
  have hI : Tryz.prog.cellsOf 3 = 1 := by kernel_rfl
  have hS : Tryz.prog.cellsOf 22 = 1 := by kernel_rfl
  rw [hC] at hl
  match cs, hl with
  | [c0, c1, c2, c3, c4, c5, c6], _ =>
    match xs, hlen with
    | [y0, y1, y2, y3, y4, y5, y6], _ =>
      have g0 := hg 0 _ rfl
      have g1 := hg 1 _ rfl
      have g2 := hg 2 _ rfl
      have g3 := hg 3 _ rfl
      have g4 := hg 4 _ rfl
      have g5 := hg 5 _ rfl
      have g6 := hg 6 _ rfl
      simp [hI, hS] at g0 g1 g2 g3 g4 g5 g6
      obtain ⟨k0, e0, -, -⟩ := DataW.trod_int Tryz.underlying3 g0
      obtain ⟨k1, e1, -, -⟩ := DataW.trod_int Tryz.underlying3 g1
      obtain ⟨k2, e2, -, -⟩ := DataW.trod_int Tryz.underlying3 g2
      obtain ⟨k3, e3, -, -⟩ := DataW.trod_int Tryz.underlying3 g3
      obtain ⟨k4, e4, -, -⟩ := DataW.trod_int Tryz.underlying3 g4
      obtain ⟨k5, e5, -, -⟩ := DataW.trod_int Tryz.underlying3 g5
      simp at e0 e1 e2 e3 e4 e5
      subst e0 e1 e2 e3 e4 e5
      exact ⟨k0, k1, k2, k3, k4, k5, c6, rfl, tick_of_trod g6⟩
set_option maxRecDepth 100000 in
theorem open_cfg18 {r : Reach} {b0 : Nat} {v : Value} {d : DataW H} {p : List MemPlace} (hv : Value.okWide Tryz.prog w r b0 26 v) (h : DataW.Trod enc Tryz.prog w 0 (fun _ => true) true 26 v d p) :
    ∃ (a0 a1 a2 a3 a4 a5 b0 b1 b2 b3 b4 b5 room : Int) (xa xb : Value), v = .agg #[.int .i64 a0, .int .i64 a1, .int .i64 a2, .int .i64 a3, .int .i64 a4, .int .i64 a5, xa, .int .i64 b0, .int .i64 b1, .int .i64 b2, .int .i64 b3, .int .i64 b4, .int .i64 b5, xb, .int .i64 room] ∧ Tick w xa ∧ Tick w xb := by
  obtain ⟨cs, rfl, hsz⟩ := okWide_struct Tryz.underlying26 hv
  have hC : Tryz.prog.cellsOf 26 = 15 := by kernel_rfl
  have hR : Tryz.prog.cellsOf 24 = 7 := by kernel_rfl
  have hI : Tryz.prog.cellsOf 3 = 1 := by kernel_rfl
  obtain ⟨l⟩ := cs
  have hsz' : l.length = 15 := hsz.trans hC
  obtain ⟨fuel, hf⟩ := h
  obtain ⟨xs, n, _, _, _, hlen, hg⟩ := DataW.trod_struct Tryz.underlying26 hf
  match xs, hlen with
  | [y0, y1, y2], _ =>
    have g0 := hg 0 _ rfl
    have g1 := hg 1 _ rfl
    have g2 := hg 2 _ rfl
    simp [hI, hR, Value.cells] at g0 g1 g2
    obtain ⟨a0, a1, a2, a3, a4, a5, xa, e0, t0⟩ := open_cfg16 g0
    obtain ⟨b0, b1, b2, b3, b4, b5, xb, e1, t1⟩ := open_cfg16 g1
    obtain ⟨k, e2, -, -⟩ := DataW.trod_int Tryz.underlying3 g2
    refine ⟨a0, a1, a2, a3, a4, a5, b0, b1, b2, b3, b4, b5, k, xa, xb, ?_, t0, t1⟩
    have el : l = l.take 7 ++ ((l.drop 7).take 7 ++ (l.drop 14).take 1) := by
      have h1 : l.drop 14 = (l.drop 14).take 1 := (List.take_of_length_le (by simp; omega)).symm
      have h2 : l.drop 7 = (l.drop 7).take 7 ++ (l.drop 7).drop 7 := (List.take_append_drop 7 _).symm
      rw [List.drop_drop] at h2
      rw [← h1, ← h2, List.take_append_drop]
    rw [el, e0, e1, e2]
    rfl
end
end Go.Proofs.YtkabaecoamilnaaGreatDoor
