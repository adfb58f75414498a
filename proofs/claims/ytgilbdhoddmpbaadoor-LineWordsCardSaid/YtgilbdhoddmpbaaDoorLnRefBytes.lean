/-
  The document's Bytes (layer 23): bytes read back.
-/
import Derived.Test.YtgilbdhoddmpbaaDoorLnAwake
import Derived.Test.YtgilbdhoddmpbaaDoorPlainUnhex
import Derived.Laws.OwnMore
import Derived.Laws.BytesArg
import Derived.IntWalk
set_option linter.unusedVariables false
set_option linter.unusedSimpArgs false
namespace Go.Proofs.YtgilbdhoddmpbaaDoor
open Go.RowKit

/-- Pairs of digits, as bytes. -/
def pairB : List UInt8 → List UInt8
  | a :: b :: t => UInt8.ofNat ((digVal a).toNat * 16 + (digVal b).toNat) :: pairB t
  | _ => []
def AllDig (l : List UInt8) : Prop := ∀ c ∈ l, 0 ≤ digVal c
theorem pair_snoc : ∀ (l : List UInt8) (a b : UInt8), l.length % 2 = 0 → pairB (l ++ [a, b]) = pairB l ++ [UInt8.ofNat ((digVal a).toNat * 16 + (digVal b).toNat)]
  | [], a, b, _ => rfl
  | [_], a, b, h => by simp at h
  | x :: y :: t, a, b, h => by
    have ih := pair_snoc t a b (by simp at h; omega)
    show _ :: pairB (t ++ [a, b]) = _ :: (pairB t ++ _)
    rw [ih]
theorem pair_len : ∀ (l : List UInt8), (pairB l).length = l.length / 2
  | [] => rfl
  | [_] => by simp [pairB]
  | x :: y :: t => by
    show (pairB t).length + 1 = (t.length + 2) / 2
    rw [pair_len t]; omega
theorem un_all : ∀ (l : List UInt8), l.length % 2 = 0 → AllDig l → unBody l = some (pairB l)
  | [], _, _ => rfl
  | [_], h, _ => by simp at h
  | a :: b :: t, h, hd => by
    have ih := un_all t (by simp at h; omega) (fun c hc => hd c (by simp [hc]))
    unfold unBody
    rw [if_neg (by have := hd a (by simp); have := hd b (by simp); omega), ih]; rfl
theorem un_bad : ∀ (l : List UInt8) (c : UInt8), c ∈ l → digVal c < 0 → unBody l = none
  | [], c, h, _ => by cases h
  | [_], c, _, _ => rfl
  | a :: b :: t, c, h, hd => by
    unfold unBody
    by_cases hab : digVal a < 0 ∨ digVal b < 0
    · rw [if_pos hab]
    · rw [if_neg hab]
      have : c ∈ t := by
        rcases List.mem_cons.1 h with e | h
        · subst e; exact absurd (.inl hd) hab
        · rcases List.mem_cons.1 h with e | h
          · subst e; exact absurd (.inr hd) hab
          · exact h
      rw [un_bad t c this hd]; rfl
theorem unhex_len {l : List UInt8} (h : l ≠ [45]) (h0 : l ≠ []) (h2 : l.length % 2 = 0) : unhexOf l = unBody l := by
  unfold unhexOf; rw [if_neg h, if_neg (by simp [h0]; omega)]
theorem unhex_odd {l : List UInt8} (h : l ≠ [45]) (h2 : l = [] ∨ l.length % 2 ≠ 0) : unhexOf l = none := by
  unfold unhexOf; rw [if_neg h, if_pos h2]
theorem info_u8 : (Tryd.prog.info? 5).map (fun i => (i.zero, i.size, i.bytes)) = some (some (.int .u8 0), 1, 1) := by kernel_rfl
def u8V (l : List UInt8) : List Value := l.map fun c => .int .u8 (c.toNat : Int)
/-- The bytes behind i digits: all of the pairs, and half of the next one. -/
def HalfAt (l : List UInt8) (i : Nat) (b : List UInt8) : Prop := AllDig (l.take i) ∧ ((i % 2 = 0 ∧ b = pairB (l.take i)) ∨ (i % 2 = 1 ∧ ∃ a, l[i - 1]? = some a ∧ b = pairB (l.take (i - 1)) ++ [UInt8.ofNat (16 * (digVal a).toNat)]))
theorem HalfAt.zero (l : List UInt8) : HalfAt l 0 [] := ⟨fun c h => by simp at h, .inl ⟨rfl, by simp [pairB]⟩⟩
theorem HalfAt.len {l : List UInt8} {i : Nat} {b : List UInt8} (h : HalfAt l i b) (hi : i ≤ l.length) : b.length ≤ l.length ∧ (i % 2 = 1 → 0 < b.length) := by
  rcases h.2 with ⟨_, rfl⟩ | ⟨h1, a, _, rfl⟩
  · rw [pair_len, List.length_take]; exact ⟨by omega, fun _ => by omega⟩
  · rw [List.length_append, pair_len, List.length_take]; simp; omega
theorem HalfAt.even {l : List UInt8} {i : Nat} {b : List UInt8} (h : HalfAt l i b) (hi : i < l.length) (h2 : i % 2 = 0) (hd : 0 ≤ digVal l[i]) : HalfAt l (i + 1) (b ++ [UInt8.ofNat (16 * (digVal l[i]).toNat)]) := by
  rcases h.2 with ⟨_, rfl⟩ | ⟨h1, _⟩
  · refine ⟨fun c hc => ?_, .inr ⟨by omega, l[i], by simp [hi], by simp⟩⟩
    rw [List.take_succ_eq_append_getElem hi] at hc
    rcases List.mem_append.1 hc with hc | hc
    · exact h.1 c hc
    · rw [List.mem_singleton.1 hc]; exact hd
  · omega
theorem HalfAt.odd {l : List UInt8} {i : Nat} {b : List UInt8} (h : HalfAt l i b) (hi : i < l.length) (h2 : i % 2 = 1) (hd : 0 ≤ digVal l[i]) :
    ∃ r x, b = r ++ [x] ∧ x.toNat + (digVal l[i]).toNat < 256 ∧ HalfAt l (i + 1) (r ++ [UInt8.ofNat (x.toNat + (digVal l[i]).toNat)]) := by
  rcases h.2 with ⟨h1, _⟩ | ⟨_, a, ha, rfl⟩
  · omega
  · have ha0 : 0 ≤ digVal a := h.1 a (by
      rw [List.mem_iff_getElem?]
      exact ⟨i - 1, by rw [List.getElem?_take, if_pos (by omega)]; exact ha⟩)
    have h16 := digVal_lt a
    have h17 := digVal_lt l[i]
    have hx : (UInt8.ofNat (16 * (digVal a).toNat)).toNat = 16 * (digVal a).toNat := by rw [UInt8.toNat_ofNat']; omega
    refine ⟨_, _, rfl, by rw [hx]; omega, fun c hc => ?_, .inl ⟨by omega, ?_⟩⟩
    · rw [List.take_succ_eq_append_getElem hi] at hc
      rcases List.mem_append.1 hc with hc | hc
      · exact h.1 c hc
      · rw [List.mem_singleton.1 hc]; exact hd
    · obtain ⟨h3, h4⟩ := List.getElem?_eq_some_iff.1 ha
      have e : l.take (i + 1) = l.take (i - 1) ++ [a, l[i]] := by
        rw [List.take_succ_eq_append_getElem hi]
        have : l.take i = l.take (i - 1) ++ [a] := by
          have := List.take_succ_eq_append_getElem h3
          rw [show i - 1 + 1 = i by omega] at this
          rw [this, h4]
        rw [this]; simp
      rw [e, pair_snoc _ _ _ (by rw [List.length_take]; omega), hx, Nat.mul_comm]
theorem HalfAt.done {l : List UInt8} {b : List UInt8} (h : HalfAt l l.length b) (h45 : l ≠ [45]) (h0 : l ≠ []) (h2 : l.length % 2 = 0) : unhexOf l = some b := by
  rw [unhex_len h45 h0 h2]
  rcases h.2 with ⟨_, rfl⟩ | ⟨h1, _⟩
  · have := h.1
    rw [List.take_length] at this ⊢
    exact un_all l h2 this
  · omega
theorem conv_row {w : World} {B g c : Nat} {l : List UInt8} (h : w.ownsRow B 5 1 (.slice (some ⟨g, 0, none⟩) l.length c) l.length (u8V l)) :
    (convert 37 9 (.slice (some ⟨g, 0, none⟩) l.length c)).run Tryd.prog w = .ok (.string ⟨l.toArray⟩) w := by
  have := (run_convert_bytes_arg w 37 5 Tryd.underlying37 Tryd.underlying5 g 0 l.length c (l.map fun c => (c.toNat : Int)) (by simp) ?_) 9 Tryd.underlying9
  · have e : strOfNums (l.map fun c => (c.toNat : Int)) = ⟨l.toArray⟩ := by
      apply str_eq
      rw [strOfNums_data, List.map_map]
      exact (List.map_congr_left (fun c _ => by simp)).trans (List.map_id l)
    rw [this, e]
  · intro i hi
    rw [Nat.zero_add, h.cellAt i (by omega)]
    simp [u8V, hi]
theorem dig_two (c : UInt8) (h : 0 ≤ digVal c) : (48 ≤ c.toNat ∧ c.toNat ≤ 57 ∧ digVal c = (c.toNat : Int) - 48) ∨ (97 ≤ c.toNat ∧ c.toNat ≤ 102 ∧ digVal c = (c.toNat : Int) - 87) := by
  unfold digVal at h ⊢
  split
  · rename_i hc; exact .inl ⟨hc.1, hc.2, rfl⟩
  · rename_i hc
    rw [if_neg hc] at h
    split
    · rename_i hd; exact .inr ⟨hd.1, hd.2, rfl⟩
    · rename_i hd; rw [if_neg hd] at h; omega
def RbytesEnd (R : Option (List UInt8)) (w : World) (e : Ending) (w' : World) : Prop :=
  Below w.heap.size w w' ∧ e = .returned (.tuple #[.string ⟨(R.getD []).toArray⟩, .bool R.isSome])
set_option maxRecDepth 100000 in
set_option maxHeartbeats 4000000 in
theorem rbytes_any (s : ByteArray) (w : World) (hs : s.size ≤ 1000000) :
    Calls Tryd.prog 22 #[.string s] w (RbytesEnd (unhexOf s.data.toList) w) := by
  obtain ⟨i0, hi, hz0, hz1, hz2⟩ := info_parts info_u8
  have HSL := Lib.hid (size_len s)
  by_cases h45 : s.data.toList = [45]
  · have hq : (s.toList == [45]) = true := by rw [Lib.toList_data, h45]; rfl
    have HR : Hid (unhexOf s.data.toList = some []) := Lib.hid (by rw [h45]; rfl)
    clear h45
    go_enter Tryd.func22, Tryd.ntmps22
    go_wp2_with fail
    go_ret2
    exact ⟨Below.refl _ _, by rw [HR.out]; rfl⟩
  · have hq : (s.toList == [45]) = false := by rw [Lib.toList_data]; exact beq_eq_false_iff_ne.2 h45
    by_cases h0 : s.data.toList = []
    · have hq0 : s.toList.isEmpty = true := by rw [Lib.toList_data, h0]; rfl
      have HR : Hid (unhexOf s.data.toList = none) := Lib.hid (unhex_odd h45 (.inl h0))
      clear h45 h0
      go_enter Tryd.func22, Tryd.ntmps22
      go_wp2_with fail
      go_ret2
      exact ⟨Below.refl _ _, by rw [HR.out]; rfl⟩
    · have hq0 : s.toList.isEmpty = false := by rw [Lib.toList_data]; simpa using h0
      by_cases h2 : s.size % 2 = 1
      · have hm : (((s.size : Int) % 2) == 1) = true := by simp; omega
        have HR : Hid (unhexOf s.data.toList = none) := Lib.hid (unhex_odd h45 (.inr (by rw [HSL.out]; omega)))
        clear h45 h0 h2
        go_enter Tryd.func22, Tryd.ntmps22
        go_wp2_with fail
        go_ret2
        exact ⟨Below.refl _ _, by rw [HR.out]; rfl⟩
      · have hm : (((s.size : Int) % 2) == 1) = false := beq_eq_false_iff_ne.2 (by omega)
        have H45 := Lib.hid h45
        have H0 := Lib.hid h0
        have HEV : Hid (s.data.toList.length % 2 = 0) := Lib.hid (by rw [HSL.out]; omega)
        clear h45 h0 h2
        go_enter Tryd.func22, Tryd.ntmps22
        go_wp2_with fail
        go_loopw [4, 5] (fun v i wr => ∃ (k : Nat) (b : List UInt8), k ≤ s.size ∧ i = .int .i64 (k : Int) ∧ Hid (HalfAt s.data.toList k b) ∧ wr.ownsRow w.heap.size 5 1 v b.length (u8V b) ∧ Below w.heap.size w wr) (fun _ i _ => s.size - (intOf i).toNat)
        case atStart => exact ⟨0, [], by omega, rfl, Lib.hid (HalfAt.zero _), World.ownsRow_made w #[] 0 (Nat.le_refl _) (by decide) rfl, (Below.refl _ _).alloc (Nat.le_refl _) _⟩
        case round =>
          obtain ⟨k, b, hk, rfl, HH, hown, hbel⟩ := hrel
          have hbl := (HH.out.len (by rw [HSL.out]; exact hk)).1
          rw [HSL.out] at hbl
          by_cases hlt : k < s.size
          · have hkl : k < s.data.toList.length := by rw [HSL.out]; exact hlt
            have hgk : s[k]'hlt = s.data.toList[k]'hkl := rfl
            by_cases hd : 0 ≤ digVal (s.data.toList[k]'hkl)
            · rcases dig_two _ hd with ⟨hlo, hhi, hdv⟩ | ⟨hlo, hhi, hdv⟩
              all_goals rw [← hgk] at hlo hhi hdv
              · have q2 : (48 : Int) ≤ ((s[k]'hlt).toNat : Int) := by omega
                have q4 : ((s[k]'hlt).toNat : Int) ≤ 57 := by omega
                have q3 : ¬ (97 : Int) ≤ ((s[k]'hlt).toNat : Int) := by omega
                by_cases he : k % 2 = 0
                · have e1 : (((k : Int) % 2) == 0) = true := by simp; omega
                  have HH2 := Lib.hid (HH.out.even hkl he hd)
                  have HV : Hid ((16 * (((s[k]'hlt).toNat : Int) - 48)) = ((UInt8.ofNat (16 * (digVal (s.data.toList[k]'hkl)).toNat)).toNat : Int)) := Lib.hid (by
                    rw [← hgk, hdv, UInt8.toNat_ofNat']; omega)
                  have hsz := hbel.size
                  clear HH hd hgk hdv he
                  go_wp2_with (at_builtin; refine wpList_append_own _ rfl _ _ 37 rfl w.heap.size 5 i0 (.int .u8 0) 1 1 Tryd.underlying37 hi hz0 hz1 hz2 rfl (by decide) _ _ _ rfl (hown.alloc _) ⟨wr.heap.size, 0, none⟩ 1 1 [.int .u8 (16 * (((s[k]'hlt).toNat : Int) - 48))] rfl rfl (cell_one_new _ _ _) (by simp [Value.oneCell']) (by unfold maxLen; omega) (by omega) (by simp; omega) ?_)
                  intro v' w1 hown1 hgrow _
                  have HO1 : Hid (w1.ownsRow w.heap.size 5 1 v' (b ++ [UInt8.ofNat (16 * (digVal (s.data.toList[k]'hkl)).toNat)]).length (u8V (b ++ [UInt8.ofNat (16 * (digVal (s.data.toList[k]'hkl)).toNat)]))) := Lib.hid (by
                    rw [HV.out] at hown1
                    rw [List.length_append]; unfold u8V at hown1 ⊢; rw [List.map_append]; exact hown1)
                  have HB1 : Hid (Below w.heap.size w w1) := Lib.hid ((hbel.alloc hsz _).grown hgrow (by simp; omega) (fun r e => (hown.lt r e).1))
                  clear hown1 hgrow hown hbel HV
                  go_wp2_with fail
                  go_roundw
                  case rel => exact ⟨k + 1, _, by omega, by go_num, HH2, HO1.out, HB1.out⟩
                  case measure => simp [intOf]; omega
                · have e1 : (((k : Int) % 2) == 0) = false := beq_eq_false_iff_ne.2 (by omega)
                  obtain ⟨r, x, rfl, hx, hh2⟩ := HH.out.odd hkl (by omega) hd
                  have HH2 := Lib.hid hh2
                  obtain ⟨g, cap, rfl⟩ := ownsRow_succ (k := r.length) (by rw [List.length_append] at hown; exact hown)
                  rw [List.length_append, List.length_singleton] at hown
                  have hc0 : wr.cell? ⟨g, r.length, none⟩ = some (.int .u8 (x.toNat : Int)) := by
                    rw [hown.cellAt r.length (by omega)]; simp [u8V]
                  have hf0 := hown.frozenAt r.length
                  have hst := hown.stored r.length (.int .u8 ((x.toNat : Int) + (((s[k]'hlt).toNat : Int) - 48)))
                  have hsum : (x.toNat : Int) + (((s[k]'hlt).toNat : Int) - 48) = ((UInt8.ofNat (x.toNat + (digVal (s.data.toList[k]'hkl)).toNat)).toNat : Int) := by
                    have h1 : (digVal (s.data.toList[k]'hkl)).toNat = (s[k]'hlt).toNat - 48 := by rw [← hgk, hdv]; omega
                    rw [UInt8.toNat_ofNat', h1]
                    rw [h1] at hx
                    omega
                  have HO1 : Hid ((wr.setCell ⟨g, r.length, none⟩ (.int .u8 ((x.toNat : Int) + (((s[k]'hlt).toNat : Int) - 48)))).ownsRow w.heap.size 5 1 (.slice (some ⟨g, 0, none⟩) (r.length + 1) cap) (r ++ [UInt8.ofNat (x.toNat + (digVal (s.data.toList[k]'hkl)).toNat)]).length (u8V (r ++ [UInt8.ofNat (x.toNat + (digVal (s.data.toList[k]'hkl)).toNat)]))) := Lib.hid (by
                    have := hst.1
                    rw [hsum] at this ⊢
                    simpa [u8V, List.set_append] using this)
                  have HB1 : Hid (Below w.heap.size w (wr.setCell ⟨g, r.length, none⟩ (.int .u8 ((x.toNat : Int) + (((s[k]'hlt).toNat : Int) - 48))))) := Lib.hid (hbel.setCell (p := ⟨g, r.length, none⟩) (hown.lt g rfl).1 _)
                  have hb1 : (x.toNat : Int) + (((s[k]'hlt).toNat : Int) - 48) ≤ 255 := by rw [hsum]; have := (UInt8.ofNat (x.toNat + (digVal (s.data.toList[k]'hkl)).toNat)).toNat_lt; omega
                  have hx0 : (x.toNat : Int) ≤ 255 := by have := x.toNat_lt; omega
                  have hrl : r.length + 1 ≤ 1000000 := by simp at hbl; omega
                  clear HH hd hgk hdv he hst hown hbel hsum hx hh2
                  go_wp2_with fail
                  go_roundw
                  case rel => exact ⟨k + 1, _, by omega, by go_num, HH2, HO1.out, HB1.out⟩
                  case measure => simp [intOf]; omega
              · have q2 : (48 : Int) ≤ ((s[k]'hlt).toNat : Int) := by omega
                have q4 : ¬ ((s[k]'hlt).toNat : Int) ≤ 57 := by omega
                have q3 : (97 : Int) ≤ ((s[k]'hlt).toNat : Int) := by omega
                have q6 : ((s[k]'hlt).toNat : Int) ≤ 102 := by omega
                by_cases he : k % 2 = 0
                · have e1 : (((k : Int) % 2) == 0) = true := by simp; omega
                  have HH2 := Lib.hid (HH.out.even hkl he hd)
                  have HV : Hid ((16 * (((s[k]'hlt).toNat : Int) - 87)) = ((UInt8.ofNat (16 * (digVal (s.data.toList[k]'hkl)).toNat)).toNat : Int)) := Lib.hid (by
                    rw [← hgk, hdv, UInt8.toNat_ofNat']; omega)
                  have hsz := hbel.size
                  clear HH hd hgk hdv he
                  go_wp2_with (at_builtin; refine wpList_append_own _ rfl _ _ 37 rfl w.heap.size 5 i0 (.int .u8 0) 1 1 Tryd.underlying37 hi hz0 hz1 hz2 rfl (by decide) _ _ _ rfl (hown.alloc _) ⟨wr.heap.size, 0, none⟩ 1 1 [.int .u8 (16 * (((s[k]'hlt).toNat : Int) - 87))] rfl rfl (cell_one_new _ _ _) (by simp [Value.oneCell']) (by unfold maxLen; omega) (by omega) (by simp; omega) ?_)
                  intro v' w1 hown1 hgrow _
                  have HO1 : Hid (w1.ownsRow w.heap.size 5 1 v' (b ++ [UInt8.ofNat (16 * (digVal (s.data.toList[k]'hkl)).toNat)]).length (u8V (b ++ [UInt8.ofNat (16 * (digVal (s.data.toList[k]'hkl)).toNat)]))) := Lib.hid (by
                    rw [HV.out] at hown1
                    rw [List.length_append]; unfold u8V at hown1 ⊢; rw [List.map_append]; exact hown1)
                  have HB1 : Hid (Below w.heap.size w w1) := Lib.hid ((hbel.alloc hsz _).grown hgrow (by simp; omega) (fun r e => (hown.lt r e).1))
                  clear hown1 hgrow hown hbel HV
                  go_wp2_with fail
                  go_roundw
                  case rel => exact ⟨k + 1, _, by omega, by go_num, HH2, HO1.out, HB1.out⟩
                  case measure => simp [intOf]; omega
                · have e1 : (((k : Int) % 2) == 0) = false := beq_eq_false_iff_ne.2 (by omega)
                  obtain ⟨r, x, rfl, hx, hh2⟩ := HH.out.odd hkl (by omega) hd
                  have HH2 := Lib.hid hh2
                  obtain ⟨g, cap, rfl⟩ := ownsRow_succ (k := r.length) (by rw [List.length_append] at hown; exact hown)
                  rw [List.length_append, List.length_singleton] at hown
                  have hc0 : wr.cell? ⟨g, r.length, none⟩ = some (.int .u8 (x.toNat : Int)) := by
                    rw [hown.cellAt r.length (by omega)]; simp [u8V]
                  have hf0 := hown.frozenAt r.length
                  have hst := hown.stored r.length (.int .u8 ((x.toNat : Int) + (((s[k]'hlt).toNat : Int) - 87)))
                  have hsum : (x.toNat : Int) + (((s[k]'hlt).toNat : Int) - 87) = ((UInt8.ofNat (x.toNat + (digVal (s.data.toList[k]'hkl)).toNat)).toNat : Int) := by
                    have h1 : (digVal (s.data.toList[k]'hkl)).toNat = (s[k]'hlt).toNat - 87 := by rw [← hgk, hdv]; omega
                    rw [UInt8.toNat_ofNat', h1]
                    rw [h1] at hx
                    omega
                  have HO1 : Hid ((wr.setCell ⟨g, r.length, none⟩ (.int .u8 ((x.toNat : Int) + (((s[k]'hlt).toNat : Int) - 87)))).ownsRow w.heap.size 5 1 (.slice (some ⟨g, 0, none⟩) (r.length + 1) cap) (r ++ [UInt8.ofNat (x.toNat + (digVal (s.data.toList[k]'hkl)).toNat)]).length (u8V (r ++ [UInt8.ofNat (x.toNat + (digVal (s.data.toList[k]'hkl)).toNat)]))) := Lib.hid (by
                    have := hst.1
                    rw [hsum] at this ⊢
                    simpa [u8V, List.set_append] using this)
                  have HB1 : Hid (Below w.heap.size w (wr.setCell ⟨g, r.length, none⟩ (.int .u8 ((x.toNat : Int) + (((s[k]'hlt).toNat : Int) - 87))))) := Lib.hid (hbel.setCell (p := ⟨g, r.length, none⟩) (hown.lt g rfl).1 _)
                  have hb1 : (x.toNat : Int) + (((s[k]'hlt).toNat : Int) - 87) ≤ 255 := by rw [hsum]; have := (UInt8.ofNat (x.toNat + (digVal (s.data.toList[k]'hkl)).toNat)).toNat_lt; omega
                  have hx0 : (x.toNat : Int) ≤ 255 := by have := x.toNat_lt; omega
                  have hrl : r.length + 1 ≤ 1000000 := by simp at hbl; omega
                  clear HH hd hgk hdv he hst hown hbel hsum hx hh2
                  go_wp2_with fail
                  go_roundw
                  case rel => exact ⟨k + 1, _, by omega, by go_num, HH2, HO1.out, HB1.out⟩
                  case measure => simp [intOf]; omega
            · have HR : Hid (unhexOf s.data.toList = none) := Lib.hid (by
                rw [unhex_len H45.out H0.out HEV.out]
                exact un_bad _ _ (List.getElem_mem hkl) (by omega))
              have hc : ((s[k]'hlt).toNat < 48 ∨ 57 < (s[k]'hlt).toNat) ∧ ((s[k]'hlt).toNat < 97 ∨ 102 < (s[k]'hlt).toNat) := by
                rw [hgk]
                unfold digVal at hd
                split at hd
                · omega
                · split at hd <;> omega
              clear hd hgk HH
              have HB := Lib.hid hbel
              obtain ⟨hc1, hc2⟩ := hc
              by_cases q1 : ((s[k]'hlt).toNat : Int) < 48
              · have q2 : ¬ (48 : Int) ≤ ((s[k]'hlt).toNat : Int) := by omega
                have q3 : ¬ (97 : Int) ≤ ((s[k]'hlt).toNat : Int) := by omega
                go_wp2_with fail
                go_ret2
                exact ⟨HB.out, by rw [HR.out]; rfl⟩
              · have q2 : (48 : Int) ≤ ((s[k]'hlt).toNat : Int) := by omega
                have q4 : ¬ ((s[k]'hlt).toNat : Int) ≤ 57 := by omega
                by_cases q5 : ((s[k]'hlt).toNat : Int) < 97
                · have q3 : ¬ (97 : Int) ≤ ((s[k]'hlt).toNat : Int) := by omega
                  go_wp2_with fail
                  go_ret2
                  exact ⟨HB.out, by rw [HR.out]; rfl⟩
                · have q3 : (97 : Int) ≤ ((s[k]'hlt).toNat : Int) := by omega
                  have q6 : ¬ ((s[k]'hlt).toNat : Int) ≤ 102 := by omega
                  go_wp2_with fail
                  go_ret2
                  exact ⟨HB.out, by rw [HR.out]; rfl⟩
          · have hkz : k = s.data.toList.length := by rw [HSL.out]; omega
            have HD : Hid (unhexOf s.data.toList = some b) := Lib.hid (by have := HH.out; rw [hkz] at this; exact this.done H45.out H0.out HEV.out)
            have hbl0 : 0 < b.length := by
              have h1 := HH.out.2
              have h2 := HEV.out
              have h3 : 0 < s.data.toList.length := List.length_pos_iff.2 H0.out
              rcases h1 with ⟨_, rfl⟩ | ⟨h4, _⟩
              · rw [pair_len, List.length_take, hkz]; omega
              · rw [hkz] at h4; omega
            obtain ⟨n, hn⟩ : ∃ n, b.length = n + 1 := ⟨b.length - 1, by omega⟩
            obtain ⟨g, cap, rfl⟩ := ownsRow_succ (k := n) (by rw [← hn]; exact hown)
            rw [← hn] at hown ⊢
            have hcv := conv_row hown
            have HB := Lib.hid hbel
            have hb1 : b.length ≤ 1000000 := by omega
            clear HH hkz hn hown hbel
            go_wp2_with fail
            go_ret2
            exact ⟨HB.out, by rw [HD.out]; rfl⟩
end Go.Proofs.YtgilbdhoddmpbaaDoor
