/-
  The fixed fact of the statements on epochs.
-/
import Derived.Test.YtanmdmidjeobeaaEpHold
import Derived.Test.YtanmdmidjeobeaaBox
set_option linter.unusedVariables false
set_option linter.unusedSimpArgs false
namespace Go.Proofs.Ytanmdmidjeobeaa
open Go.RowKit

def sA : ByteArray := ⟨#[97]⟩
def sB : ByteArray := ⟨#[98]⟩
def rA1 : Rc := ⟨0, 6, 0, ⟨#[]⟩, 2, ⟨#[]⟩⟩
def rA2 : Rc := ⟨0, 6, 0, ⟨#[]⟩, 7, sA⟩
def hA : Held := [rA1, rA2].foldl stepRec (fun _ => [])
theorem hA0 : hA 0 = [([sA], [])] := rfl
theorem hA1 : hA 1 = [] := rfl
theorem hA_sound : soundB hA = true := rfl
theorem pre_A : isPre [sA, sB] [sA] = true := by unfold isPre; simp
theorem strs_of_box {w : World} {b : Nat} {T : TypeId} (ss : List ByteArray) (c : Nat) (h : BoxAt w b T (ss.map Value.string)) (hc : ss.length ≤ c) (hm : ss.length ≤ 1000000) : StrsR w (.slice (some ⟨b, 0, none⟩) ss.length c) ss :=
  ⟨_, _, rfl, hc, by omega, fun _ => ⟨_, _, rfl⟩, fun b' o hb j hj => by
    cases hb
    rw [Nat.zero_add, h.cell, List.getElem?_map, getD_get ss j _ hj]
    simp [hj]⟩

set_option maxHeartbeats 2000000 in
set_option maxRecDepth 100000 in
theorem awake20 (w : World) : Calls Try.prog 7 #[] w fun e w' => e = .returned (.bool true) ∧ Below w.heap.size w w' := by
  have HWL : Hid (Below w.heap.size w (w.alloc (.cells #[.slice none 0 0, .slice none 0 0] 27))) := Lib.hid ((Below.refl _ w).alloc (Nat.le_refl _) _)
  go_enter Try.func7, Try.ntmps7
  go_wp2_with fail
  refine (add_at (rs := [rA1, rA2]) (book_new w) small_new (by simp) rfl (by simp) rfl).mono ?_
  rintro e w2 ⟨rfl, hbk, hfr⟩
  have HB2 : Hid (Below w.heap.size w w2) := Lib.hid (HWL.out.trans (hfr.below (fun k hk => by omega) (by simp)))
  have HBK := Lib.hid hbk
  have hz2 := HB2.out.size
  have hbl := HBK.out.lt.2
  clear hbk hfr HWL
  go_wp2_with fail
  refine (epochs_book 0 _ _ hA _ w2 HBK.out ((small_new.steps [rA1, rA2]).mono (by simp)) (by omega) (by omega)).mono ?_
  rintro e w3 ⟨v, rfl, hv, hb3⟩
  obtain ⟨Xe, ⟨R', ho, hs⟩, hl⟩ := hv
  have e1 : hA (Int.toNat 0) = [([sA], [])] := rfl
  rw [e1] at ho hs hl
  have x0 : Xe 0 false = [sA] := by
    have := congrArg (fun l => (l.map Prod.fst)) hl
    simpa [epsList] using this
  obtain ⟨g, cap, rfl, hg1, hg2⟩ := ho.form (by simp)
  have c0 := ho.cells (g := g) rfl 0 (R' 0 false) rfl
  have hs0 := hs 0 (by simp) false
  rw [x0] at hs0
  obtain ⟨g1, cap1, hr1, hg3, hg4⟩ := hs0.form (by simp)
  rw [hr1] at c0 hs0
  have c1 : w3.cell? ⟨g1, 0, none⟩ = some (.string ⟨#[97]⟩) := hs0.cells (g := g1) rfl 0 (.string sA) rfl
  have c0' : w3.cell? ⟨g, 0, none⟩ = some (.slice (some ⟨g1, 0, none⟩) 1 cap1) := c0
  have HSO := Lib.hid (sound_book _ _ hA _ w3 (HBK.out.keep hb3) ((small_new.steps [rA1, rA2]).mono (by simp)))
  rw [hA_sound] at HSO
  have HB3 := Lib.hid (belSeq HB2.out hb3)
  clear ho hs hl x0 hr1 hs0 c0 hb3 HBK HB2
  go_wp2_with (first | (go_at_call 13; (with_reducible refine HSO.out.mono ?_); rintro e w4 ⟨rfl, hb4⟩) | (go_at_call 14; refine (prefix_any _ _ [sA, sB] [sA] _ (strs_of_box [sA, sB] 2 (BoxAt.alloc (BoxAt.new _ _ _)) (by simp) (by simp)) (strs_of_box [sA] 1 (BoxAt.newAt (by simp) _ _) (by simp) (by simp))).mono ?_; rintro e w5 ⟨rfl, q, rfl⟩; rw [pre_A]))
  have h4 := belSeq HB3.out hb4
  have hz4 := h4.size
  go_ret
  exact ⟨rfl, below_drewN ((h4.alloc hz4 _).alloc (by simp; omega) _) q⟩
end Go.Proofs.Ytanmdmidjeobeaa
