/-
  Contract of (*audit.Audit).problem: one more problem.
-/
import Derived.Test.YtbppgicdmkkmnaaDoorAuAt
import Derived.Deep.AppendLies
import Derived.Lib.ItoaLen
import Derived.Deep.DeepCutAuto
set_option linter.unusedVariables false
set_option linter.unusedSimpArgs false
namespace Go.Proofs.YtbppgicdmkkmnaaDoor
open Go.RowKit

/-- A problem's text. -/
def probL (i : Nat) (x : List UInt8) : List UInt8 := Lib.decDigits i ++ 32 :: x
theorem prob_text (i : Nat) (x : ByteArray) : (⟨(Lib.decDigits i).toArray⟩ : ByteArray) ++ ⟨#[32]⟩ ++ x = ⟨(probL i x.data.toList).toArray⟩ := by apply str_eq; simp [ByteArray.data_append, probL]
def ProbEnd (B b : Nat) (S : AudS) (w : World) (e : Ending) (w' : World) : Prop := e = .returned (.tuple #[]) ∧ ∃ lv, AudAt w' B b S lv ∧ KeepA B w w'
theorem prob_done {B b i gg cap : Nat} {S : AudS} {lv : Value} {w w5 : World} {o : Obj} {t x : ByteArray} (h : AudAt w B b S lv) (hg : (w.drew.alloc o).grownBy w5 lv.ownBlock)
    (ho : w5.ownsRow B 9 1 (.slice (some ⟨gg, 0, none⟩) (S.l.length + 1) cap) (S.l.length + 1) (S.l.map strV ++ [.string t])) (ht : t = ⟨(probL i x.data.toList).toArray⟩) :
    ProbEnd B b { S with l := S.l ++ [probL i x.data.toList] } w (.returned (.tuple #[])) (w5.setCell ⟨b, 14, none⟩ (.slice (some ⟨gg, 0, none⟩) (S.l.length + 1) cap)) := by
  subst ht
  have hb : Below w.heap.size w (w.drew.alloc o) := ((Below.refl _ w).drew).alloc (Nat.le_refl _) o
  have h2 := (h.below hb).tell hg ho
  exact ⟨rfl, _, h2.1, (KeepA.of_below hb).trans h2.2⟩
set_option maxRecDepth 100000 in
set_option maxHeartbeats 2000000 in
theorem prob_any (B b : Nat) (S : AudS) (lv : Value) (i : Nat) (x : ByteArray) (w : World) (h : AudAt w B b S lv) (hi : i < 10) (hx : x.size ≤ 1000) (hl : S.l.length ≤ 100000) (hB : B ≤ w.heap.size) :
    Calls Tryd.prog 18 #[.pointer (some ⟨b, 0, none⟩), .int .i64 (i : Int), .string x] w (ProbEnd B b { S with l := S.l ++ [probL i x.data.toList] } w) := by
  obtain ⟨i0, hi0, hz0, hz1, hz2⟩ := info_parts info_s1
  have HA := Lib.hid h
  have HIT := Lib.hid (fun W => Tryd.strconv_Itoa_small i (by omega) W)
  have hdl : (⟨(Lib.decDigits i).toArray⟩ : ByteArray).size ≤ 21 := by
    have := Lib.itoa_length_le (i : Int) (by omega) (by omega)
    rw [size_arr]
    unfold Lib.itoa at this
    rw [if_neg (by omega)] at this
    simpa using this
  have HTX := Lib.hid (prob_text i x)
  have c14 := h.box.cell 14
  have f14 := h.box.froz 14
  simp only [audC, List.getElem?_cons_succ, List.getElem?_cons_zero] at c14
  have hlt := h.lt
  have hne : some b ≠ lv.ownBlock := fun e => by
    obtain ⟨_, cur, h1⟩ := own_block h.own _ e.symm
    have h2 := h.box
    unfold BoxAt at h2
    rw [h2] at h1; simp at h1
  clear h
  generalize (⟨(Lib.decDigits i).toArray⟩ : ByteArray) = D at *
  have hzz : (D ++ ⟨#[32]⟩ : ByteArray).size ≤ 30 := by rw [ByteArray.size_append]; show _ + 1 ≤ _; omega
  have hzy : (D ++ ⟨#[32]⟩ ++ x : ByteArray).size ≤ 1100 := by rw [ByteArray.size_append]; omega
  have hq1 : ¬ 9223372036854775807 < D.size + 1 := by omega
  have hq2 : ¬ 9223372036854775807 < D.size + 1 + x.size := by omega
  have hq3 : ¬ 9223372036854775807 < (D ++ ⟨#[32]⟩ : ByteArray).size + x.size := by omega
  go_enter Tryd.func18, Tryd.ntmps18
  go_wp2_with fail
  go_region_law (first | (go_simp; go_at_call 26; refine (HIT.out _).mono ?_; rintro e w' ⟨rfl, rfl⟩) | (refine step_append_lies _ (by rfl) _ _ _ (by rfl) B 9 i0 _ 1 16 Tryd.underlying42 hi0 hz0 hz1 hz2 rfl (by omega) lv S.l.length (S.l.map strV) (by rfl) ((HA.out.own.drew.alloc _).drew) ⟨w.heap.size, 0, none⟩ 1 1 [.string (D ++ ⟨#[32]⟩ ++ x)] (by rfl) (by rfl) (World.news_of_block (cs := #[.string (D ++ ⟨#[32]⟩ ++ x)]) (t := 9) (fr := (0, 0)) (heap_alloc_new w.drew _)) (by simp [Value.oneCell']) (by omega) (by unfold maxLen; omega) (by omega) (by simp; omega) (w.heap.size + 1) (by simp) ?_; intro gg cap w5 hown5 hgrow hat hlt5; have hb5 := (HA.out.box.drew.alloc).grown hgrow hne; have k1 := hb5.cell 14; have k2 := hb5.froz 14; simp only [audC, List.getElem?_cons_succ, List.getElem?_cons_zero] at k1; clear hb5))
  all_goals
    go_wp2_with fail
    go_end0
    exact prob_done HA.out hgrow hown5 HTX.out
end Go.Proofs.YtbppgicdmkkmnaaDoor
