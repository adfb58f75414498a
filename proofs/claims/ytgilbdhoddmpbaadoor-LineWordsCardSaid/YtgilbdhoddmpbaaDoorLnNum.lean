/-
  Contract of line.number, of any text.
-/
import Derived.Test.YtgilbdhoddmpbaaDoorPlainNum
import Derived.Test.YtgilbdhoddmpbaaDoorShelf
import Derived.Test.YtgilbdhoddmpbaaDoorCommon
import Derived.Test.YtgilbdhoddmpbaaDoorBytes
import Derived.WalkSpells
import Derived.WalkLawsBesides
import Derived.IntWalk
import Derived.Lib.Hide
import Derived.Lib.OthersKept
import Derived.Laws.RangeAny
set_option linter.unusedVariables false
set_option linter.unusedSimpArgs false
namespace Go.Proofs.YtgilbdhoddmpbaaDoor
open Go.RowKit

def LnumEnd (R : Option Nat) (w : World) (e : Ending) (w' : World) : Prop :=
  Below w.heap.size w w' ∧ match R with
    | some n => e = .returned (.tuple #[.int .i64 (n : Int), .bool true]) ∧ n ≤ 1099511627776
    | none => ∃ x, e = .returned (.tuple #[.int .i64 x, .bool false])
theorem lnum_ok {R : Option Nat} {w w' : World} {e : Ending} {n : Nat} (h : R = some n) (hn : n ≤ 1099511627776) (hb : Below w.heap.size w w') (he : e = .returned (.tuple #[.int .i64 (n : Int), .bool true])) : LnumEnd R w e w' := by
  subst h; exact ⟨hb, he, hn⟩
theorem lnum_no {R : Option Nat} {w w' : World} {e : Ending} {x : Int} (h : R = none) (hb : Below w.heap.size w w') (he : e = .returned (.tuple #[.int .i64 x, .bool false])) : LnumEnd R w e w' := by
  subst h; exact ⟨hb, x, he⟩
theorem iter_pos {w : World} {k : Nat} {s : ByteArray} {p : Nat} (h : w.heap[k]? = some (.stringIter s p)) : w.iterPos k = p := by unfold World.iterPos; rw [h]

set_option maxRecDepth 100000 in
set_option maxHeartbeats 2000000 in
theorem lnum_any (s : ByteArray) (w : World) (hs : s.size ≤ 1000000) :
    Calls Tryd.prog 43 #[.string s] w (LnumEnd (numL s.data.toList) w) := by
  have hsl := size_len s
  go_enter Tryd.func43, Tryd.ntmps43
  go_wp2_with fail
  go_loopw [4] (fun v wr => ∃ (j x : Nat), v = .int .i64 (x : Int) ∧ j ≤ s.size ∧ x ≤ 10995116277769 ∧ wr.heap[w.heap.size]? = some (.stringIter s j) ∧ Below w.heap.size w wr ∧ Hid (NumAt s.data.toList j x)) (fun _ wr => s.size - wr.iterPos w.heap.size)
  case atStart => exact ⟨0, 0, rfl, by omega, by omega, World.iter_heap w s 0, (Below.refl _ _).alloc (Nat.le_refl _) _, Lib.hid (NumAt.zero _)⟩
  case round =>
    obtain ⟨j, x, rfl, hj, hx, hit, hbel, HN⟩ := hrel
    have hpos := iter_pos hit
    by_cases hlt : j < s.size
    · have hjl : j < s.data.toList.length := by omega
      have hcj : (s.data.toList[j]'hjl) = s[j]'hlt := rfl
      obtain ⟨R, wd, hnx, hR, hR2⟩ : ∃ R wd : Nat, (∀ ty, (Instr.next (.pointer (some ⟨w.heap.size, 0, none⟩)) true ty).run Tryd.prog wr = .ok (.tuple #[.bool true, .int .i64 (j : Int), .int .i32 (R : Int)]) (wr.iterAt w.heap.size s (j + wd))) ∧
          ((48 ≤ R ∧ R ≤ 57) → R = (s.data.toList[j]'hjl).toNat ∧ wd = 1) ∧ (¬ (48 ≤ R ∧ R ≤ 57) → (s.data.toList[j]'hjl).toNat < 48 ∨ 57 < (s.data.toList[j]'hjl).toNat) := by
        refine ⟨(Utf8.decode s j).1, (Utf8.decode s j).2, fun ty => Lib.run_next_any_at wr w.heap.size s j ty hit hlt, ?_, ?_⟩
        · intro h
          by_cases ha : (s[j]'hlt).toNat < 128
          · rw [decode_ascii s j hlt ha, hcj]; exact ⟨rfl, rfl⟩
          · have := (decode_high s j hlt (by omega)).1; omega
        · intro h
          rw [hcj]
          by_cases ha : (s[j]'hlt).toNat < 128
          · rw [decode_ascii s j hlt ha] at h; simp only at h; omega
          · omega
      have hit2 := Lib.iterAt_heap wr w.heap.size s j (j + wd) hit
      have HB2 := Lib.hid (Lib.below_iterAt hbel (k := w.heap.size) (Nat.le_refl _) s (j + wd))
      generalize wr.iterAt w.heap.size s (j + wd) = W1 at *
      clear hbel hit
      by_cases hc : 48 ≤ R ∧ R ≤ 57
      · obtain ⟨hRc, rfl⟩ := hR hc
        have hc' := hc
        rw [hRc] at hc'
        have h48 : ¬ ((R : Int) < 48) := by omega
        have h57 : ¬ ((57 : Int) < (R : Int)) := by omega
        by_cases hbig : 1099511627776 < x
        · have HK := Lib.hid (HN.out.big hbig)
          have hb1 : (1099511627776 : Int) < (x : Int) := by omega
          clear hR hR2 hRc hc' hcj HN hbig
          go_wp2_with fail
          go_ret2
          exact lnum_no HK.out HB2.out rfl
        · have hb1 : ¬ ((1099511627776 : Int) < (x : Int)) := by omega
          by_cases hz : 0 < j ∧ x = 0
          · obtain ⟨hz1, rfl⟩ := hz
            have HK := Lib.hid (HN.out.lead hz1 hjl)
            have hz2 : (0 : Int) < (j : Int) := by omega
            clear hR hR2 hRc hc' hcj HN hbig
            go_wp2_with fail
            go_ret2
            exact lnum_no HK.out HB2.out rfl
          · have HN2 := Lib.hid (HN.out.next hjl hc' (by omega))
            rw [← hRc] at HN2
            have hz2 : ¬ ((0 : Int) < (j : Int)) ∨ ((0 : Int) < (j : Int) ∧ ((x : Int) == 0) = false) := by
              by_cases h0 : 0 < j
              · exact .inr ⟨by omega, beq_eq_false_iff_ne.2 (by omega)⟩
              · exact .inl (by omega)
            clear hR hR2 hRc hc' hcj HN hz
            have hw1 : (10 * (x : Int) + ((R : Int) - 48)) = ((10 * x + (R - 48) : Nat) : Int) := by omega
            rcases hz2 with hz2 | ⟨hz2, hz3⟩
            all_goals
              go_wp2_with fail
              go_roundw
              case rel => exact ⟨j + 1, 10 * x + (R - 48), by go_num, by omega, by omega, hit2, HB2.out, HN2⟩
              case measure => rw [iter_pos hit2, hpos]; omega
      · have HK := Lib.hid (HN.out.other hjl (hR2 hc))
        have hor : (R : Int) < 48 ∨ (57 : Int) < (R : Int) := by omega
        clear hR hR2 hcj HN
        by_cases h48 : (R : Int) < 48
        · go_wp2_with fail
          go_ret2
          exact lnum_no HK.out HB2.out rfl
        · have h57 : (57 : Int) < (R : Int) := by omega
          go_wp2_with fail
          go_ret2
          exact lnum_no HK.out HB2.out rfl
    · obtain rfl : j = s.size := by omega
      have hnx := fun ty => Lib.run_next_end_at (P := Tryd.prog) wr w.heap.size s s.size ty hit (by omega)
      have hD := HN.out
      rw [← hsl] at hD
      have HK := Lib.hid hD.done
      clear hD HN
      by_cases h0 : s.data.toList = []
      · have e0 : s = ⟨#[]⟩ := str_eq (by rw [h0])
        subst e0
        go_wp2_with fail
        go_ret2
        exact lnum_no (by rw [HK.out]; simp) hbel rfl
      · have hq : (s.toList == []) = false := by rw [Lib.toList_data]; exact beq_eq_false_iff_ne.2 h0
        by_cases hb : x ≤ 1099511627776
        · have hb1 : (x : Int) ≤ 1099511627776 := by omega
          go_wp2_with fail
          go_ret2
          exact lnum_ok (by rw [HK.out, if_pos ⟨h0, hb⟩]) hb hbel rfl
        · have hb1 : ¬ ((x : Int) ≤ 1099511627776) := by omega
          go_wp2_with fail
          go_ret2
          exact lnum_no (by rw [HK.out, if_neg (fun k => hb k.2)]) hbel rfl
end Go.Proofs.YtgilbdhoddmpbaaDoor
