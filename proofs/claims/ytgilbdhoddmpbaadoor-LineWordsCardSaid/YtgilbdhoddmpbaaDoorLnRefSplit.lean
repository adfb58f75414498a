/-
  The document's Split (layer 23): what stands between bytes of a kind.
-/
import Derived.Test.YtgilbdhoddmpbaaDoorLnAwake
set_option linter.unusedVariables false
set_option linter.unusedSimpArgs false
namespace Go.Proofs.YtgilbdhoddmpbaaDoor
open Go.RowKit

def glueL (cur : List UInt8) : List (List UInt8) → List (List UInt8)
  | [] => [cur]
  | h :: t => (cur ++ h) :: t
theorem glue_nil (l : List (List UInt8)) (h : l ≠ []) : glueL [] l = l := by cases l with | nil => exact absurd rfl h | cons a t => rfl
/-- What has been cut, and what stands open, behind k bytes. -/
def CutAt (c : UInt8) (l : List UInt8) (k : Nat) (pre : List (List UInt8)) (cur : List UInt8) : Prop := splitBy c l = pre ++ glueL cur (splitBy c (l.drop k)) ∧ cur.length ≤ k ∧ pre.length ≤ k
theorem CutAt.zero (c : UInt8) (l : List UInt8) : CutAt c l 0 [] [] := ⟨by rw [List.drop_zero, glue_nil _ (splitBy_ne c l)]; rfl, by simp, by simp⟩
theorem CutAt.hit {c : UInt8} {l : List UInt8} {k : Nat} {pre : List (List UInt8)} {cur : List UInt8} (h : CutAt c l k pre cur) (hk : k < l.length) (hc : l[k] = c) : CutAt c l (k + 1) (pre ++ [cur]) [] := by
  obtain ⟨h1, h2, h3⟩ := h
  rw [List.drop_eq_getElem_cons hk, hc, splitBy_hit] at h1
  exact ⟨by rw [h1, glue_nil _ (splitBy_ne c _)]; simp [glueL], by simp, by simp; omega⟩
theorem CutAt.miss {c : UInt8} {l : List UInt8} {k : Nat} {pre : List (List UInt8)} {cur : List UInt8} (h : CutAt c l k pre cur) (hk : k < l.length) (hc : l[k] ≠ c) : CutAt c l (k + 1) pre (cur ++ [l[k]]) := by
  obtain ⟨h1, h2, h3⟩ := h
  rw [List.drop_eq_getElem_cons hk] at h1
  cases hs : splitBy c (l.drop (k + 1)) with
  | nil => exact absurd hs (splitBy_ne c _)
  | cons w ws =>
    rw [splitBy_miss hc _ w ws hs] at h1
    exact ⟨by rw [h1, hs]; simp [glueL], by simp; omega, by omega⟩
theorem CutAt.done {c : UInt8} {l : List UInt8} {pre : List (List UInt8)} {cur : List UInt8} (h : CutAt c l l.length pre cur) : splitBy c l = pre ++ [cur] := by
  have h1 := h.1
  rw [List.drop_length] at h1
  simpa [splitBy, glueL] using h1
theorem info_str : (Tryd.prog.info? 9).map (fun i => (i.zero, i.size, i.bytes)) = some (some (.string ⟨#[]⟩), 1, 16) := by kernel_rfl
def RsplitEnd (ws : List (List UInt8)) (w : World) (e : Ending) (w' : World) : Prop :=
  Below w.heap.size w w' ∧ ∃ g c, e = .returned (.slice (some ⟨g, 0, none⟩) ws.length c) ∧ w'.ownsRow w.heap.size 9 1 (.slice (some ⟨g, 0, none⟩) ws.length c) ws.length (ws.map strV)
set_option maxRecDepth 100000 in
set_option maxHeartbeats 2000000 in
theorem rsplit_any (s : ByteArray) (c : UInt8) (w : World) (hs : s.size ≤ 1000000) :
    Calls Tryd.prog 14 #[.string s, .int .u8 (c.toNat : Int)] w (RsplitEnd (splitBy c s.data.toList) w) := by
  obtain ⟨i0, hi, hz0, hz1, hz2⟩ := info_parts info_str
  have HSL := Lib.hid (size_len s)
  go_enter Tryd.func14, Tryd.ntmps14
  go_wp2_with fail
  go_loopw [5, 6, 7] (fun v x i wr => ∃ (k : Nat) (pre : List (List UInt8)) (cur : List UInt8), k ≤ s.size ∧ i = .int .i64 (k : Int) ∧ x = .string ⟨cur.toArray⟩ ∧ Hid (CutAt c s.data.toList k pre cur) ∧ wr.ownsRow w.heap.size 9 1 v pre.length (pre.map strV) ∧ Below w.heap.size w wr) (fun _ _ i _ => s.size - (intOf i).toNat)
  case atStart => exact ⟨0, [], [], by omega, rfl, rfl, Lib.hid (CutAt.zero _ _), World.ownsRow_made w #[] 0 (Nat.le_refl _) (by decide) rfl, (Below.refl _ _).alloc (Nat.le_refl _) _⟩
  case round =>
    obtain ⟨k, pre, cur, hk, rfl, rfl, HC, hown, hbel⟩ := hrel
    have hcl := HC.out.2.1
    have hpl := HC.out.2.2
    have hcs : (⟨cur.toArray⟩ : ByteArray).size ≤ 1000000 := by rw [size_arr]; omega
    by_cases hlt : k < s.size
    · have hkl : k < s.data.toList.length := by rw [HSL.out]; exact hlt
      have hgk : s[k]'hlt = s.data.toList[k]'hkl := rfl
      by_cases he : s.data.toList[k]'hkl = c
      · have e1 : (((s[k]'hlt).toNat : Int) == (c.toNat : Int)) = true := by rw [hgk, he]; simp
        have HC2 := Lib.hid (HC.out.hit hkl he)
        clear HC he hgk
        have hsz := hbel.size
        go_wp2_with (at_builtin; refine wpList_append_own _ rfl _ _ 41 rfl w.heap.size 9 i0 (.string ⟨#[]⟩) 1 16 Tryd.underlying41 hi hz0 hz1 hz2 rfl (by decide) _ _ _ rfl (hown.alloc _) ⟨wr.heap.size, 0, none⟩ 1 1 [.string ⟨cur.toArray⟩] rfl rfl ?c1 ?c2 ?c3 ?c4 ?c5 ?_)
        case c1 => exact (cell_one_new _ _ _)
        case c2 => simp [Value.oneCell']
        case c3 => unfold maxLen; omega
        case c4 => omega
        case c5 => simp; omega
        intro v' w1 hown1 hgrow _
        have HO1 := Lib.hid hown1
        have HB1 : Hid (Below w.heap.size w w1) := Lib.hid ((hbel.alloc hsz _).grown hgrow (by simp; omega) (fun r e => (hown.lt r e).1))
        clear hown1 hgrow hown hbel
        go_wp2_with fail
        go_roundw
        case rel => exact ⟨k + 1, pre ++ [cur], [], by omega, by go_num, rfl, HC2, by rw [List.length_append, List.map_append]; exact HO1.out, HB1.out⟩
        case measure => simp [intOf]; omega
      · have e1 : (((s[k]'hlt).toNat : Int) == (c.toNat : Int)) = false := beq_eq_false_iff_ne.2 (fun e => he (by rw [← hgk]; exact UInt8.toNat_inj.1 (by omega)))
        have HC2 := Lib.hid (HC.out.miss hkl he)
        have HT : Hid ((⟨cur.toArray⟩ : ByteArray) ++ s.extract k (k + 1) = ⟨(cur ++ [s.data.toList[k]'hkl]).toArray⟩) := Lib.hid (by
          apply str_eq
          rw [ByteArray.data_append]
          simp only [Array.toList_append]
          rw [Lib.extract_data]
          congr 1
          rw [show k + 1 - k = 1 by omega, List.drop_eq_getElem_cons hkl]; rfl)
        have hx1 : (s.extract k (k + 1)).size = 1 := by rw [ByteArray.size_extract]; omega
        clear HC he hgk
        go_wp2_with fail
        go_roundw
        case rel => exact ⟨k + 1, pre, cur ++ [s.data.toList[k]'hkl], by omega, by go_num, by rw [HT.out], HC2, hown, hbel⟩
        case measure => simp [intOf]; omega
    · have hkz : k = s.data.toList.length := by rw [HSL.out]; omega
      have HD : Hid (splitBy c s.data.toList = pre ++ [cur]) := Lib.hid (by have := HC.out; rw [hkz] at this; exact this.done)
      clear HC hkz
      have hsz := hbel.size
      go_wp2_with (at_builtin; refine wpList_append_own _ rfl _ _ 41 rfl w.heap.size 9 i0 (.string ⟨#[]⟩) 1 16 Tryd.underlying41 hi hz0 hz1 hz2 rfl (by decide) _ _ _ rfl (hown.alloc _) ⟨wr.heap.size, 0, none⟩ 1 1 [.string ⟨cur.toArray⟩] rfl rfl (cell_one_new _ _ _) (by simp [Value.oneCell']) (by unfold maxLen; omega) (by omega) (by simp; omega) ?_)
      intro v' w1 hown1 hgrow _
      obtain ⟨g', cap', rfl⟩ := ownsRow_succ hown1
      have HO1 := Lib.hid hown1
      have HB1 : Hid (Below w.heap.size w w1) := Lib.hid ((hbel.alloc hsz _).grown hgrow (by simp; omega) (fun r e => (hown.lt r e).1))
      clear hown1 hgrow hown hbel
      go_wp2_with fail
      go_ret
      exact ⟨HB1.out, g', cap', by rw [HD.out, List.length_append]; rfl, by rw [HD.out, List.length_append, List.map_append]; exact HO1.out⟩
end Go.Proofs.YtgilbdhoddmpbaaDoor
