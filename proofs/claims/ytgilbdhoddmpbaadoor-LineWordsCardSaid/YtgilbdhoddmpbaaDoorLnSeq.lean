/-
  strings.SplitSeq at a line's end: what its closure hands on, and where it keeps what is left.
-/
import Derived.Test.YtgilbdhoddmpbaaDoorSeqCell
import Derived.Test.YtgilbdhoddmpbaaDoorLnEnv
import Derived.Test.YtgilbdhoddmpbaaDoorBox
import Derived.RangeFuncNested
import Derived.RangeFuncBound
import Derived.RangeFuncCalls
import Derived.RangeFuncLeaves
import Derived.RangeFuncBox
import Derived.Shelf.Abstract
import Derived.Shelf.RegionOpen
import Derived.WalkKit
import Derived.OwnWalkIn
import Derived.TacticsInMore
import Derived.LoopNIn
import Derived.LoopIn
import Derived.Lib.IndexLaws
set_option linter.unusedVariables false
set_option linter.unusedSimpArgs false
namespace Go.Proofs.YtgilbdhoddmpbaaDoor
open Go.RowKit Go.Shelf
attribute [local go_sem] Oper.semAt_some

/-- The closure's own cells: what is left, the separator, how much of it is kept. -/
structure SeqAt (W : World) (B : Nat) (rest : List UInt8) : Prop where
  s : BoxAt W B 9 [strV rest]
  sep : BoxAt W (B + 1) 9 [.string ⟨#[10]⟩]
  save : BoxAt W (B + 2) 3 [.int .i64 0]
theorem SeqAt.keep {W W' : World} {B : Nat} {rest : List UInt8} (h : SeqAt W B rest) (hk : KeepB B (B + 3) W W') : SeqAt W' B rest :=
  ⟨(hk.same _ (by omega) (by omega)).trans h.s, (hk.same _ (by omega) (by omega)).trans h.sep, (hk.same _ (by omega) (by omega)).trans h.save⟩
theorem SeqAt.set {W : World} {B : Nat} {rest : List UInt8} (h : SeqAt W B rest) (r : List UInt8) : SeqAt (W.setCell ⟨B, 0, none⟩ (strV r)) B r :=
  ⟨h.s.set 0 _, (Below.heap_setCell _ _ _ _ (by simp)).trans h.sep, (Below.heap_setCell _ _ _ _ (by simp)).trans h.save⟩
theorem SeqAt.below {W W' : World} {B : Nat} {rest : List UInt8} (h : SeqAt W B rest) (hb : Below W.heap.size W W') : SeqAt W' B rest :=
  ⟨h.s.below hb h.s.lt, h.sep.below hb h.sep.lt, h.save.below hb h.save.lt⟩
def leftAt (B : Nat) (W : World) : Nat := match W.cell? ⟨B, 0, none⟩ with | some (.string s) => s.size | _ => 0
theorem left_at {W : World} {B : Nat} {rest : List UInt8} (h : SeqAt W B rest) : leftAt B W = rest.length := by
  unfold leftAt
  have h1 := h.s.cell 0
  simp only [List.getElem?_cons_zero] at h1
  rw [h1]; unfold strV; simp only; rw [size_arr]
theorem index_no {r : List UInt8} (h : Lib.indexByte r 10 = -1) : splitBy 10 r = [r] :=
  splitBy_self 10 r (fun hm => by
    obtain ⟨k, hk⟩ := List.getElem?_of_mem hm
    exact Lib.indexByte_none h k hk)
theorem index_yes {r : List UInt8} {o : Nat} (h : Lib.indexByte r 10 = o) : o < r.length ∧ splitBy 10 r = r.take o :: splitBy 10 (r.drop (o + 1)) := by
  obtain ⟨h1, h2⟩ := Lib.indexByte_some h
  obtain ⟨hlt, hq⟩ := List.getElem?_eq_some_iff.1 h1
  refine ⟨hlt, ?_⟩
  have e : r = r.take o ++ 10 :: r.drop (o + 1) := by
    rw [← hq, ← List.drop_eq_getElem_cons hlt, List.take_append_drop]
  have hn : (10 : UInt8) ∉ r.take o := fun hm => by
    obtain ⟨k, hk⟩ := List.getElem?_of_mem hm
    rw [List.getElem?_take] at hk
    split at hk
    · exact h2 k (by omega) hk
    · cases hk
  have := splitBy_app 10 (r.take o) (r.drop (o + 1)) hn
  rw [← e] at this
  exact this
theorem part_of {l pre : List (List UInt8)} {x : List UInt8} {t : List (List UInt8)} (h : l = pre ++ x :: t) : pre ++ [x] <+: l := ⟨t, by rw [h]; simp⟩

set_option maxRecDepth 100000 in
set_option maxHeartbeats 2000000 in
theorem seq_any (s : List UInt8) (hs : s.length ≤ 1000000) (l B : Nat) (J Jx : List (List UInt8) → World → Prop) (hT : Turns B J)
    (hY : ∀ pre x W1, J pre W1 → pre ++ [x] <+: splitBy 10 s → YieldAt Fence.wide (3 - 1) Tryd.prog l #[strV x] W1 fun e W' =>
      (e = .returned (.bool true) ∧ J (pre ++ [x]) W' ∧ KeepB B (B + 3) W1 W') ∨ (e = .returned (.bool false) ∧ Jx (pre ++ [x]) W'))
    (W : World) (hq : SeqAt W B s) (h0 : J [] W) :
    CallsIn Fence.wide 3 Tryd.prog 38 #[.func (.yield l) #[] #[], .pointer (some ⟨B + 1, 0, none⟩), .pointer (some ⟨B, 0, none⟩), .pointer (some ⟨B + 2, 0, none⟩)] W fun e W' => (∃ v, e = .returned v) ∧
      ((∃ xs, xs = splitBy 10 s ∧ J xs W') ∨ (∃ pre, pre <+: splitBy 10 s ∧ Jx pre W')) := by
  have HQ := Lib.hid hq
  have HTT := Lib.hid hT
  have HYY := Lib.hid hY
  clear hT hY hq
  have c0 := HQ.out.s.cell 0
  have c1 := HQ.out.sep.cell 0
  have c2 := HQ.out.save.cell 0
  simp only [List.getElem?_cons_zero] at c0 c1 c2
  refine callsIn_of_wp Tryd.func38 rfl trivial ?_ rfl
  simp only [Tryd.ntmps38, List.size_toArray, List.length_cons, List.length_nil, Nat.reduceAdd, Nat.reduceSub, Array.replicate_succ, Array.replicate_zero, List.push_toArray, List.append_toArray, List.nil_append, List.cons_append]
  gi_wp2
  gi_loopw [] (fun wr => ∃ (pre : List (List UInt8)) (rest : List UInt8), splitBy 10 s = pre ++ splitBy 10 rest ∧ rest.length ≤ s.length ∧ SeqAt wr B rest ∧ J pre wr)
    (fun wr => leftAt B wr)
  case atStart => exact ⟨[], s, by simp, Nat.le_refl _, HQ.out, h0⟩
  case round =>
    obtain ⟨pre, rest, hsp, hrl, hqs, hJ⟩ := hrel
    have HQ2 := Lib.hid hqs
    have HL2 := Lib.hid (left_at hqs)
    clear hqs HQ c0 c1 c2
    have c0 := HQ2.out.s.cell 0
    have c1 := HQ2.out.sep.cell 0
    have c2 := HQ2.out.save.cell 0
    have f0 := HQ2.out.s.froz 0
    simp only [List.getElem?_cons_zero] at c0 c1 c2
    unfold strV at c0
    have HIX := Lib.hid (fun W => Tryd.strings_Index_one ⟨rest.toArray⟩ 10 W)
    rw [show (⟨rest.toArray⟩ : ByteArray).data.toList = rest from rfl] at HIX
    by_cases hi : Lib.indexByte rest 10 = -1
    · rw [index_no hi] at hsp
      obtain ⟨fn, tmps, assign, body, hy, hR⟩ := HYY.out pre rest wr hJ (part_of hsp)
      have HSP := Lib.hid hsp
      rw [hi] at HIX
      unfold strV at hy
      clear hsp hi HYY HTT hJ
      gi_wp2
      refine ⟨trivial, ?_⟩
      refine (callsIn_wide.2 (HIX.out _)).mono ?_
      rintro e w' ⟨rfl, rfl⟩
      gi_wp2
      refine hR.mono ?_
      rintro e W3 (⟨rfl, hJ3, hk3⟩ | ⟨rfl, hJx3⟩)
      · gi_wp2
        go_end0
        exact ⟨⟨_, rfl⟩, .inl ⟨_, HSP.out.symm, hJ3⟩⟩
      · gi_wp2
        go_end0
        exact ⟨⟨_, rfl⟩, .inr ⟨_, ⟨[], by rw [List.append_nil]; exact HSP.out.symm⟩, hJx3⟩⟩
    · obtain ⟨o, ho⟩ : ∃ o : Nat, Lib.indexByte rest 10 = o := ⟨(Lib.indexByte rest 10).toNat, by have := Lib.indexByte_ge rest 10; omega⟩
      obtain ⟨hol, hsr⟩ := index_yes ho
      rw [hsr] at hsp
      obtain ⟨fn, tmps, assign, body, hy, hR⟩ := HYY.out pre (rest.take o) wr hJ (part_of hsp)
      have HSP := Lib.hid hsp
      rw [ho] at HIX
      have hno : ¬ ((o : Int) < 0) := by omega
      have hsz : (⟨rest.toArray⟩ : ByteArray).size = rest.length := size_arr rest
      have hfr : (⟨rest.toArray⟩ : ByteArray).extract 0 o = ⟨(rest.take o).toArray⟩ := by
        apply str_eq; rw [Lib.extract_data]; simp
      have hbk : (⟨rest.toArray⟩ : ByteArray).extract (o + 1) rest.length = ⟨(rest.drop (o + 1)).toArray⟩ := by
        apply str_eq; rw [Lib.extract_data]; simp; rw [List.take_of_length_le (by simp)]
      unfold strV at hy
      clear hsp hi ho hsr HYY hJ
      gi_wp2
      refine ⟨trivial, ?_⟩
      refine (callsIn_wide.2 (HIX.out _)).mono ?_
      rintro e w' ⟨rfl, rfl⟩
      gi_wp2
      refine hR.mono ?_
      rintro e W3 (⟨rfl, hJ3, hk3⟩ | ⟨rfl, hJx3⟩)
      · have HQ3 := Lib.hid (HQ2.out.keep hk3)
        have HS3 := Lib.hid (HQ3.out.set (rest.drop (o + 1)))
        have HJ3 := Lib.hid (HTT.out _ _ (strV (rest.drop (o + 1))) hJ3)
        unfold strV at HS3 HJ3
        clear c0 c1 c2 f0 hJ3 hk3 HQ2
        have c0 := HQ3.out.s.cell 0
        have c1 := HQ3.out.sep.cell 0
        have f0 := HQ3.out.s.froz 0
        simp only [List.getElem?_cons_zero] at c0 c1
        unfold strV at c0
        gi_wp2
        go_roundw
        case rel => exact ⟨pre ++ [rest.take o], rest.drop (o + 1), by rw [HSP.out]; simp, by simp; omega, HS3.out, HJ3.out⟩
        case measure => rw [left_at HS3.out, HL2.out]; simp; omega
      · gi_wp2
        refine bodyPost_ret (results_none rfl _ _ _) rfl ?_
        exact ⟨⟨_, rfl⟩, .inr ⟨pre ++ [rest.take o], part_of HSP.out, hJx3⟩⟩
/-- What strings.SplitSeq hands back, as a range over it wants it. -/
theorem seq_cell (s : List UInt8) (hs : s.length ≤ 1000000) (B : Nat) (w : World) (hq : SeqAt w B s) :
    SeqCell Fence.wide 3 Tryd.prog 38 #[.pointer (some ⟨B + 1, 0, none⟩), .pointer (some ⟨B, 0, none⟩), .pointer (some ⟨B + 2, 0, none⟩)] strV B (B + 3) (fun xs => xs = splitBy 10 s) (fun pre => pre <+: splitBy 10 s) w :=
  fun l J Jx W hW hT _ hY h0 => seq_any s hs l B J Jx hT (fun pre x W1 h hp => hY pre x W1 h hp) W (hq.below hW) h0
end Go.Proofs.YtgilbdhoddmpbaaDoor
