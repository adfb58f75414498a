/-
  Contracts of trace.has and trace.list.
-/
import Derived.Test.YtohenohgceaibaaGreatDoorTrEnv
import Derived.Test.YtohenohgceaibaaGreatDoorPlainUnit
import Derived.Test.YtohenohgceaibaaGreatDoorOwnInts
set_option linter.unusedVariables false
set_option linter.unusedSimpArgs false
namespace Go.Proofs.YtohenohgceaibaaGreatDoor
open Go.RowKit

set_option maxHeartbeats 1000000 in
theorem has_any (k : Int) (w : World) :
    Calls Tryz.prog 23 #[.int .i64 k] w fun e w' => e = .returned (.string ⟨(hasL k).toArray⟩) ∧ w = w' := by
  by_cases hk : k < 1 ∨ 15 < k
  · have hv : hasL k = [] := by unfold hasL; repeat rw [if_neg (by omega)]
    rw [hv]
    have e1 : (k == 1) = false := beq_eq_false_iff_ne.2 (by omega)
    have e2 : (k == 2) = false := beq_eq_false_iff_ne.2 (by omega)
    have e3 : (k == 3) = false := beq_eq_false_iff_ne.2 (by omega)
    have e4 : (k == 4) = false := beq_eq_false_iff_ne.2 (by omega)
    have e5 : (k == 5) = false := beq_eq_false_iff_ne.2 (by omega)
    have e6 : (k == 6) = false := beq_eq_false_iff_ne.2 (by omega)
    have e7 : (k == 7) = false := beq_eq_false_iff_ne.2 (by omega)
    have e8 : (k == 8) = false := beq_eq_false_iff_ne.2 (by omega)
    have e9 : (k == 9) = false := beq_eq_false_iff_ne.2 (by omega)
    have e10 : (k == 10) = false := beq_eq_false_iff_ne.2 (by omega)
    have e11 : (k == 11) = false := beq_eq_false_iff_ne.2 (by omega)
    have e12 : (k == 12) = false := beq_eq_false_iff_ne.2 (by omega)
    have e13 : (k == 13) = false := beq_eq_false_iff_ne.2 (by omega)
    have e14 : (k == 14) = false := beq_eq_false_iff_ne.2 (by omega)
    have e15 : (k == 15) = false := beq_eq_false_iff_ne.2 (by omega)
    clear hv hk
    go_enter Tryz.func23, Tryz.ntmps23
    go_wp2
    go_ret
    exact ⟨rfl, rfl⟩
  · have h : k = 1 ∨ k = 2 ∨ k = 3 ∨ k = 4 ∨ k = 5 ∨ k = 6 ∨ k = 7 ∨ k = 8 ∨ k = 9 ∨ k = 10 ∨ k = 11 ∨ k = 12 ∨ k = 13 ∨ k = 14 ∨ k = 15 := by omega
    clear hk
    rcases h with rfl | rfl | rfl | rfl | rfl | rfl | rfl | rfl | rfl | rfl | rfl | rfl | rfl | rfl | rfl
    all_goals
      go_enter Tryz.func23, Tryz.ntmps23
      go_wp2
      go_ret
      exact ⟨rfl, rfl⟩

theorem info_str : (Tryz.prog.info? 9).map (fun i => (i.zero, i.size, i.bytes)) = some (some (.string ⟨#[]⟩), 1, 16) := by kernel_rfl
def strV (l : List UInt8) : Value := .string ⟨l.toArray⟩
theorem own_below {w w' : World} {base : Nat} {e : TypeId} {size : Nat} {v : Value} {n : Nat} {xs : List Value} (h : w.ownsRow base e size v n xs) (hb : Below w.heap.size w w') : w'.ownsRow base e size v n xs :=
  h.kept (row := none) ⟨hb.os, hb.tape, hb.output, hb.size, fun k hk _ => hb.block k hk⟩ (by cases hv : v.ownBlock <;> simp)
def ListRel (w : World) (l : List Int) (j : Nat) (v : Value) (wx : World) : Prop :=
  wx.ownsRow w.heap.size 9 1 v j ((l.take j).map fun x => strV (Lib.itoa x)) ∧ Below w.heap.size w wx
theorem join_lib (c : UInt8) : ∀ ws : List (List UInt8), Lib.join ws [c] = joinBy c ws
  | [] => rfl
  | [w] => Lib.join_one w [c]
  | w :: v :: ws => by
    have ih := join_lib c (v :: ws)
    rw [join_cons c w (by simp), ← ih]
    simp [Lib.join, List.intercalate]
set_option maxHeartbeats 2000000 in
theorem list_any (lv : Value) (l : List Int) (w : World) (hl : IntsR .u32 w lv l) (hx : ∀ x ∈ l, 0 ≤ x ∧ x < 16777216) (hlen : l.length ≤ 128) (he : Env w) :
    Calls Tryz.prog 25 #[lv] w fun e w' => e = .returned (.string ⟨(listW l).toArray⟩) ∧ Below w.heap.size w w' := by
  obtain ⟨i0, hi, hz0, hz1, hz2⟩ := info_parts info_str
  have HL := Lib.hid hl
  have HE := Lib.hid he
  have HX := Lib.hid hx
  obtain ⟨a, c, rfl, hc, hm, ha⟩ := hl.len
  clear hl he hx
  by_cases h0 : l = []
  · subst h0
    simp only [List.length_nil] at *
    go_enter Tryz.func25, Tryz.ntmps25
    go_wp2_with fail
    go_ret
    exact ⟨rfl, Below.refl _ _⟩
  have hp : 0 < l.length := List.length_pos_iff.2 h0
  have hb0 : ((l.length : Int) == 0) = false := beq_eq_false_iff_ne.2 (by omega)
  obtain ⟨b, o, rfl⟩ := ha (by omega)
  have HW : Hid (listW l = joinBy 44 (l.map Lib.itoa)) := Lib.hid (by unfold listW; rw [if_neg h0])
  have hwl : Hid ((listW l).length ≤ 2816) := Lib.hid (listW_le l HX.out hlen)
  generalize listW l = LW at *
  clear h0 ha
  go_enter Tryz.func25, Tryz.ntmps25
  go_wp2_with fail
  go_loopw [3, 11] (fun v i wx => ∃ j : Nat, j ≤ l.length ∧ i = .int .i64 j ∧ ListRel w l j v wx) (fun _ i _ => l.length - (intOf i).toNat)
  case atStart => exact ⟨0, by omega, rfl, World.ownsRow_nil _ _ _ _, Below.refl _ _⟩
  case round =>
    obtain ⟨j, hj, rfl, hown, hbel⟩ := hrel
    by_cases hlt : j < l.length
    · have hcell : wr.cell? ⟨b, o + j, none⟩ = some (.int .u32 l[j]) := by
        have h1 := HL.out.at j hlt
        rw [hbel.cell (block_lt_of_cell h1)]; exact h1
      have hxj := HX.out l[j] (List.getElem_mem hlt)
      have HS : Hid ((l.take (j + 1)).map (fun x => strV (Lib.itoa x)) = (l.take j).map (fun x => strV (Lib.itoa x)) ++ [strV (Lib.itoa l[j])]) := Lib.hid (by
        rw [List.take_succ_eq_append_getElem hlt, List.map_append]; rfl)
      generalize l[j] = x at *
      have HIT := Lib.hid (fun W (h : Env W) => itoa_any x W (by omega) (by omega) h)
      have HB := Lib.hid hbel
      have HO := Lib.hid hown
      clear hbel hown
      go_wp2_with fail
      refine (HIT.out _ (HE.out.below HB.out)).mono ?_
      rintro e w1 ⟨rfl, hb1⟩
      have hown1 := own_below HO.out hb1
      have hbel1 : Below w.heap.size w w1 := belSeq HB.out hb1
      clear hb1 HB HO
      have hjl : (List.take j l).length = j := by rw [List.length_take]; omega
      go_wp2_with (at_builtin; refine wpList_append_own _ rfl _ _ 61 rfl w.heap.size 9 i0 (.string ⟨#[]⟩) 1 16 Tryz.underlying61 hi hz0 hz1 hz2 rfl (by decide) _ _ _ rfl (hown1.alloc _) ⟨w1.heap.size, 0, none⟩ 1 1 [strV (Lib.itoa x)] rfl rfl ?c1 ?c2 ?c3 ?c4 ?c5 ?_)
      case c1 => exact (cell_one_new _ _ _)
      case c2 => simp [Value.oneCell', strV]
      case c3 => unfold maxLen; omega
      case c4 => omega
      case c5 => have := hbel1.size; simp; omega
      intro v' w2 hown2 hgrow hnil
      have HO2 : Hid (w2.ownsRow w.heap.size 9 1 v' (j + 1) ((l.take (j + 1)).map fun x => strV (Lib.itoa x))) := Lib.hid (by rw [HS.out, List.map_take]; exact hown2)
      have HB2 : Hid (Below w.heap.size w w2) := Lib.hid ((hbel1.alloc hbel1.size _).grown hgrow (by simp; have := hbel1.size; omega) (fun q hq => (hown1.lt q hq).1))
      clear hown1 hown2 hbel1 hgrow hnil
      go_wp2_with fail
      go_roundw
      case rel => exact ⟨j + 1, by omega, by go_num, HO2.out, HB2.out⟩
      case measure => simp [intOf]; omega
    · obtain rfl : j = l.length := by omega
      have hcl := @World.ownsRow.cells _ _ _ _ _ _ _ hown
      have hlt2 := hown.lt
      obtain ⟨hl1, ⟨rfl, h1⟩ | ⟨g, cap, cur, rfl, hg, hcur, hn, hcap, hs, ht⟩⟩ := hown
      · omega
      have HJ : Hid (Calls Tryz.prog 44 #[.slice (some ⟨g, 0, none⟩) l.length cap, .string ⟨#[44]⟩] wr fun e w' => e = .returned (.string ⟨LW.toArray⟩) ∧ Below wr.heap.size wr w') := Lib.hid (by
        have hmm : ((l.map fun x => (⟨(Lib.itoa x).toArray⟩ : ByteArray)).map (·.data.toList)) = l.map Lib.itoa := by simp
        have := Tryz.strings_Join g 0 cap (l.map fun x => ⟨(Lib.itoa x).toArray⟩) ⟨#[44]⟩ wr (fun j x hx => by
          have h2 := hcl (g := g) rfl j (.string x) (by
            rw [List.take_of_length_le (Nat.le_refl _)]
            simp only [List.getElem?_map, Option.map_eq_some_iff] at hx ⊢
            obtain ⟨y, hy, rfl⟩ := hx
            exact ⟨y, hy, rfl⟩)
          by_cases hj0 : j = 0
          · subst hj0; simpa [Addr.add] using h2
          · simpa [Addr.add, hj0] using h2) (hlt2 g rfl).2 (by simp; omega) (by simpa using hn) (by
          rw [hmm]
          show (Lib.join _ [44]).length ≤ _
          rw [join_lib, ← HW.out]; have := hwl.out; omega)
        rw [hmm] at this
        rw [show (⟨#[44]⟩ : ByteArray).data.toList = [44] from rfl, join_lib, ← HW.out] at this
        simpa using this)
      clear hcl hlt2 hl1 hcur hs ht
      have HB := Lib.hid hbel
      clear hbel
      go_wp2_with fail
      refine HJ.out.mono ?_
      rintro e w2 ⟨rfl, hb2⟩
      have HB2 := Lib.hid (belSeq HB.out hb2)
      clear hb2
      go_wp2_with fail
      go_ret
      exact ⟨rfl, HB2.out⟩
end Go.Proofs.YtohenohgceaibaaGreatDoor
