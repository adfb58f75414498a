/-
  Contracts of audit.New and (*audit.Audit).Problems; Add at one, two and three records.
-/
import Derived.Test.YtbppgicdmkkmnaaDoorAuStep
set_option linter.unusedVariables false
set_option linter.unusedSimpArgs false
namespace Go.Proofs.YtbppgicdmkkmnaaDoor
open Go.RowKit

def zeroE : EndS := { begun := false, s := 0, a := 0, ms := 0, credit := 0, m := none, f := fun _ => 0, cnt := 0 }
def newP (x y : Int) : AudS := { st0 := x, st1 := y, e0 := zeroE, e1 := zeroE, l := [] }
theorem newP_good (x y : Int) : (newP x y).good := ⟨rfl, rfl⟩
def NewEnd (x y : Int) (w : World) (e : Ending) (w' : World) : Prop := ∃ b, e = .returned (.pointer (some ⟨b, 0, none⟩)) ∧ AudP w' w.heap.size b (newP x y) ∧ Below w.heap.size w w'
theorem new_at {w : World} {B b : Nat} {x y : Int} (hB : B ≤ b) (h : BoxAt w b 55 (audC (newP x y) (.slice none 0 0))) : AudP w B b (newP x y) :=
  ⟨newP x y, .slice none 0 0, ⟨h, ⟨rfl, .inl ⟨rfl, rfl⟩⟩, fun _ => rfl, fun _ => rfl, (fun m e => by cases e), hB⟩, rfl, newP_good x y⟩
set_option maxRecDepth 100000 in
set_option maxHeartbeats 2000000 in
theorem new_any (x y : Int) (w : World) (hx : 0 ≤ x ∧ x < 16777216) (hy : 0 ≤ y ∧ y < 16777216) :
    Calls Tryd.prog 6 #[.agg #[.int .u32 x, .int .u32 y]] w (NewEnd x y w) := by
  have hx2 : x % 16777216 = x := by omega
  have hy2 : y % 16777216 = y := by omega
  have HX := Lib.hid hx2
  have HY := Lib.hid hy2
  clear hx2 hy2
  go_enter Tryd.func6, Tryd.ntmps6
  go_wp2_with fail
  refine wp_loop_rounds 3 ?_
  rw [rounds_succ]
  go_wp2_with fail
  refine (low_num _ _).mono ?_
  rintro e w' ⟨rfl, rfl⟩
  rw [HX.out]
  go_wp2_with fail
  rw [rounds_succ]
  go_wp2_with fail
  refine (low_num _ _).mono ?_
  rintro e w' ⟨rfl, rfl⟩
  rw [HY.out]
  go_wp2_with fail
  rw [rounds_succ]
  go_wp2_with fail
  go_ret
  exact ⟨w.heap.size + 1, rfl, new_at (by omega) (BoxAt.newAt (w := w.alloc _) (by simp) _ (audC (newP x y) (.slice none 0 0))), ((Below.refl _ _).alloc (Nat.le_refl _) _).alloc (by simp) _⟩
set_option maxRecDepth 100000 in
set_option maxHeartbeats 2000000 in
theorem probs_none (B b : Nat) (P : AudS) (w : World) (h : AudP w B b P) (hl : P.l = []) :
    Calls Tryd.prog 11 #[.pointer (some ⟨b, 0, none⟩)] w fun e w' => (∃ a c, e = .returned (.slice a 0 c)) ∧ Below w.heap.size w w' := by
  obtain ⟨S, lv, ha, hs, hg⟩ := h
  have c14 := ha.box.cell 14
  simp only [audC, List.getElem?_cons_succ, List.getElem?_cons_zero] at c14
  have hlt := ha.lt
  have hl2 : S.l = [] := by rw [← hs] at hl; exact hl
  have ho := ha.own.2
  rw [hl2] at ho
  clear hg hs ha
  rcases ho with ⟨rfl, -⟩ | ⟨g, cap, cur, rfl, h1, h2, h3, h4, h5, h6⟩
  · go_enter Tryd.func11, Tryd.ntmps11
    go_wp2_with fail
    go_ret
    exact ⟨⟨_, _, rfl⟩, (Below.refl _ _).alloc (Nat.le_refl _) _⟩
  · go_enter Tryd.func11, Tryd.ntmps11
    go_wp2_with fail
    go_ret
    exact ⟨⟨_, _, rfl⟩, (Below.refl _ _).alloc (Nat.le_refl _) _⟩
def OneEnd (x : List UInt8) (w : World) (e : Ending) (w' : World) : Prop := ∃ g c, e = .returned (.slice (some ⟨g, 0, none⟩) 1 c) ∧ w'.cell? ⟨g, 0, none⟩ = some (strV x) ∧ Below w.heap.size w w'
theorem one_end {w w5 : World} {x : List UInt8} {gg cap : Nat} {T : TypeId} {h : World} (hb : Below w.heap.size w h) (hz : w.heap.size ≤ h.heap.size) (hg : h.grownBy w5 (some w.heap.size)) (ho : w5.ownsRow w.heap.size T 1 (.slice (some ⟨gg, 0, none⟩) 1 cap) 1 [strV x]) :
    OneEnd x w (.returned (.slice (some ⟨gg, 0, none⟩) 1 cap)) w5 := by
  refine ⟨gg, cap, rfl, ?_, hb.grown hg hz (fun k e => by cases e; exact Nat.le_refl _)⟩
  have := World.ownsRow.cells ho (g := gg) rfl 0 (strV x) rfl
  simpa [Addr.add] using this
set_option maxRecDepth 100000 in
set_option maxHeartbeats 2000000 in
theorem probs_one (B b : Nat) (P : AudS) (x : List UInt8) (w : World) (h : AudP w B b P) (hl : P.l = [x]) :
    Calls Tryd.prog 11 #[.pointer (some ⟨b, 0, none⟩)] w (OneEnd x w) := by
  obtain ⟨i0, hi0, hz0, hz1, hz2⟩ := info_parts info_s1
  obtain ⟨S, lv, ha, hs, hg⟩ := h
  have c14 := ha.box.cell 14
  simp only [audC, List.getElem?_cons_succ, List.getElem?_cons_zero] at c14
  have hlt := ha.lt
  have hl2 : S.l = [x] := by rw [← hs] at hl; exact hl
  have ho := ha.own
  rw [hl2] at ho
  have hcl := @World.ownsRow.cells _ _ _ _ _ _ _ ho
  have ho2 := ho.2
  clear hg hs ha hl hl2
  rcases ho2 with ⟨rfl, h0⟩ | ⟨g, cap, cur, rfl, h1, h2, h3, h4, h5, h6⟩
  · exact absurd h0 (by simp)
  · have hc0 : w.cell? ⟨g, 0, none⟩ = some (strV x) := by have := hcl (g := g) rfl 0 (strV x) rfl; simpa [Addr.add] using this
    have HC0 := Lib.hid hc0
    have hne : g < w.heap.size := block_lt_of_cell hc0
    have hn : (w.alloc (.cells #[] 9)).cell? ⟨g, 0, none⟩ = some (strV x) := (((Below.refl w.heap.size w).alloc (Nat.le_refl _) _).cell hne).trans hc0
    have HNW : Hid (∀ j u, [strV x][j]? = some u → (w.alloc (.cells #[] 9)).cell? ((⟨g, 0, none⟩ : Addr).add j) = some u) := Lib.hid (fun j u hj => by
      cases j with
      | zero => simp only [List.getElem?_cons_zero] at hj; cases hj; exact hn
      | succ j => simp at hj)
    have HOW : Hid ((w.alloc (.cells #[] 9)).ownsRow w.heap.size 9 1 (.slice (some ⟨w.heap.size, 0, none⟩) 0 0) 0 []) := Lib.hid ⟨rfl, .inr ⟨w.heap.size, 0, #[], rfl, Nat.le_refl _, heap_alloc_new w _, Nat.le_refl _, by unfold maxLen; omega, rfl, rfl⟩⟩
    clear ho hcl h1 h2 h3 h4 h5 h6 hc0 hn
    go_enter Tryd.func11, Tryd.ntmps11
    go_wp2_with (first | (at_builtin; refine wpList_append_lies _ rfl _ _ _ rfl w.heap.size 9 i0 _ 1 16 Tryd.underlying42 hi0 hz0 hz1 hz2 rfl (by omega) (.slice (some ⟨w.heap.size, 0, none⟩) 0 0) 0 [] rfl HOW.out ⟨g, 0, none⟩ 1 cap [strV x] rfl rfl HNW.out (by simp [strV, Value.oneCell']) (by omega) (by unfold maxLen; omega) (by omega) (by simp) (w.heap.size + 1) (by simp) ?_; intro gg cap w5 hown5 hgrow5 hat5 hlt5) | fail)
    go_ret
    exact one_end ((Below.refl _ _).alloc (Nat.le_refl _) _) (by simp) hgrow5 hown5
end Go.Proofs.YtbppgicdmkkmnaaDoor
