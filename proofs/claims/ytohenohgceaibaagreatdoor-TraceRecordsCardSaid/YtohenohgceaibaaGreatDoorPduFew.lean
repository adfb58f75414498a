/-
  Contracts of the statements' helpers (layer 6): num, Few$1, Cut.
-/
import Derived.Test.YtohenohgceaibaaGreatDoorPduV
import Derived.Test.YtohenohgceaibaaGreatDoorOwnInts
import Derived.Test.YtohenohgceaibaaGreatDoorCut
import Derived.Test.YtohenohgceaibaaGreatDoorQTail
import Derived.Test.YtohenohgceaibaaGreatDoorRefV
set_option linter.unusedVariables false
set_option linter.unusedSimpArgs false
namespace Go.Proofs.YtohenohgceaibaaGreatDoor
open Go.RowKit

/-- A number pushed into 0 .. 2^32 - 1. -/
def cl (x : Int) : Int := if x < 0 then 0 else if 4294967295 < x then 4294967295 else x
theorem cl_in (x : Int) : 0 ≤ cl x ∧ cl x < 4294967296 := by
  unfold cl; split
  · omega
  · split <;> omega
theorem cl_id {x : Int} (h0 : 0 ≤ x) (h1 : x < 4294967296) : cl x = x := by unfold cl; rw [if_neg (by omega), if_neg (by omega)]
theorem num_any (x : Int) (w : World) :
    Calls Tryz.prog 20 #[.int .i64 x] w fun e w' => e = .returned (.int .u32 (cl x)) ∧ w = w' := by
  by_cases h0 : x < 0
  · have HF : Hid (cl x = 0) := Lib.hid (by unfold cl; rw [if_pos h0])
    rw [HF.out]
    have h1 : x ≤ 4294967295 := by omega
    go_enter Tryz.func20, Tryz.ntmps20
    go_wp2
    all_goals (go_ret; exact ⟨ret_int (by omega), rfl⟩)
  by_cases h1 : 4294967295 < x
  · have HF : Hid (cl x = 4294967295) := Lib.hid (by unfold cl; rw [if_neg h0, if_pos h1])
    rw [HF.out]
    go_enter Tryz.func20, Tryz.ntmps20
    go_wp2
    all_goals (go_ret; exact ⟨ret_int (by omega), rfl⟩)
  · have HF : Hid (cl x = x) := Lib.hid (by unfold cl; rw [if_neg h0, if_neg h1])
    rw [HF.out]
    go_enter Tryz.func20, Tryz.ntmps20
    go_wp2
    all_goals (go_ret; exact ⟨ret_int (by omega), rfl⟩)
theorem clamp_any (x : Int) (w : World) :
    Calls Tryz.prog 19 #[.int .i64 x] w fun e w' => e = .returned (.int .i64 (cl x)) ∧ w = w' := by
  by_cases h0 : x < 0
  · have HF : Hid (cl x = 0) := Lib.hid (by unfold cl; rw [if_pos h0])
    rw [HF.out]
    have h1 : x ≤ 4294967295 := by omega
    go_enter Tryz.func19, Tryz.ntmps19
    go_wp2
    all_goals (go_ret; exact ⟨ret_int (by omega), rfl⟩)
  by_cases h1 : 4294967295 < x
  · have HF : Hid (cl x = 4294967295) := Lib.hid (by unfold cl; rw [if_neg h0, if_pos h1])
    rw [HF.out]
    go_enter Tryz.func19, Tryz.ntmps19
    go_wp2
    all_goals (go_ret; exact ⟨ret_int (by omega), rfl⟩)
  · have HF : Hid (cl x = x) := Lib.hid (by unfold cl; rw [if_neg h0, if_neg h1])
    rw [HF.out]
    go_enter Tryz.func19, Tryz.ntmps19
    go_wp2
    all_goals (go_ret; exact ⟨ret_int (by omega), rfl⟩)

/-- Numbers that were collected, in a row of the call's own. -/
def AppI (W0 : World) (B : Nat) (v : Value) (ns : List Int) (wx : World) : Prop := wx.ownsRow B 3 1 v ns.length (ns.map (Value.int .i64)) ∧ Below B W0 wx
def FewPost (w : World) (k sq n ps mr : Int) (l : List Int) (self : Bool) (d : ByteArray) (e : Ending) (w' : World) : Prop :=
  ∃ lv', e = .returned (refV k sq (cl n) (cl ps) (cl mr) lv' self (cutB 210 d)) ∧ w'.ownsRow w.heap.size 3 1 lv' ((l.take 140).map cl).length (((l.take 140).map cl).map (Value.int .i64)) ∧ Below w.heap.size w w'
theorem info_int : (Tryz.prog.info? 3).map (fun i => (i.zero, i.size, i.bytes)) = some (some (.int .i64 0), 1, 8) := by kernel_rfl

set_option maxRecDepth 100000 in
set_option maxHeartbeats 2000000 in
theorem few_any (k sq n ps mr : Int) (lv : Value) (l : List Int) (self : Bool) (d : ByteArray) (w : World) (hl : IntsR .i64 w lv l) (hd : d.size ≤ maxLen) :
    Calls Tryz.prog 6 #[refV k sq n ps mr lv self d] w (FewPost w k sq n ps mr l self d) := by
  have HL := Lib.hid hl
  obtain ⟨a, c, rfl, hc1, hm1, ha⟩ := hl.len
  clear hl
  obtain ⟨i0, hi, hz0, hz1, hz2⟩ := info_parts info_int
  unfold refV
  go_enter Tryz.func6, Tryz.ntmps6
  go_wp2_with fail
  refine region_gen (fun W => BoxAt W w.heap.size 24 [.int .i64 k, .int .i64 sq, .int .i64 n, .int .i64 ps, .int .i64 mr, .slice a l.length c, .bool self, .string d] ∧ BoxAt W (w.heap.size + 1) 24 [.int .i64 0, .int .i64 0, .int .i64 0, .int .i64 0, .int .i64 0, .slice none 0 0, .bool false, .string ⟨#[]⟩] ∧ Below w.heap.size w W) ⟨(BoxAt.new w _ _).alloc, BoxAt.newAt (by simp) _ _, ((Below.refl _ _).alloc (Nat.le_refl _) _).alloc (by simp) _⟩ ?_
  rintro W ⟨hbox, hres, hB⟩
  have HBX := Lib.hid hbox
  have HRS := Lib.hid hres
  have HB := Lib.hid hB
  obtain ⟨q0, q1, q2, q3, q4, q5, q6, q7⟩ := hbox.cells8
  clear hbox hres hB
  have k2 := cell_regrown q2
  have k3 := cell_regrown q3
  have k4 := cell_regrown q4
  have k7 := cell_regrown q7
  have cA := fun x dd os => Calls.regrown_of (Calls.same_below (clamp_any x (Sort.grow (redrawn W dd) os)))
  have hcut : ∀ W : World, Calls Tryz.prog 13 #[.string d, .int .i64 210] W fun e w' => e = .returned (.string (cutB 210 d)) ∧ W = w' := fun W => cut_any d 210 W hd (by omega)
  have cB := fun dd os => Calls.regrown_of (Calls.same_below (hcut (Sort.grow (redrawn W dd) os)))
  clear hcut
  refine wp_region_tail_below 16 (by kernel_rfl) (by kernel_rfl) ?_
  simp only [List.take_succ_cons, List.take_zero, List.drop_succ_cons, List.drop_zero]
  repeat (quiet_step (first | (with_reducible exact cA _ _ _) | (with_reducible exact cB _ _)))
  refine wpQuiet_nil ?_
  intro _ hw'
  obtain ⟨⟨dq, osq⟩, hw''⟩ := hw'
  subst hw''
  have hW2 := below_regrown W dq osq
  generalize Sort.grow (redrawn W dq) osq = w2 at *
  clear k2 k3 k4 k7 cA cB q0 q1 q2 q3 q4 q5 q6 q7
  have HBX2 := Lib.hid (HBX.out.below hW2 HBX.out.lt)
  have HRS2 := Lib.hid (HRS.out.below hW2 HRS.out.lt)
  have HB2 := Lib.hid (belSeq HB.out hW2)
  have hwz := HB.out.size
  clear HBX HRS HB hW2
  obtain ⟨q0, q1, q2, q3, q4, q5, q6, q7⟩ := HBX2.out.cells8
  obtain ⟨f0, f1, f2, f3, f4, f5, f6, f7⟩ := HBX2.out.frozs8
  go_wp2_with fail
  have HBX3 : Hid (BoxAt ((((w2.setCell ⟨w.heap.size, 2, none⟩ (.int .i64 (cl n))).setCell ⟨w.heap.size, 3, none⟩ (.int .i64 (cl ps))).setCell ⟨w.heap.size, 4, none⟩ (.int .i64 (cl mr))).setCell ⟨w.heap.size, 7, none⟩ (.string (cutB 210 d))) w.heap.size 24 [.int .i64 k, .int .i64 sq, .int .i64 (cl n), .int .i64 (cl ps), .int .i64 (cl mr), .slice a l.length c, .bool self, .string (cutB 210 d)]) := Lib.hid ((((HBX2.out.set 2 _).set 3 _).set 4 _).set 7 _)
  have HRS3 : Hid (BoxAt ((((w2.setCell ⟨w.heap.size, 2, none⟩ (.int .i64 (cl n))).setCell ⟨w.heap.size, 3, none⟩ (.int .i64 (cl ps))).setCell ⟨w.heap.size, 4, none⟩ (.int .i64 (cl mr))).setCell ⟨w.heap.size, 7, none⟩ (.string (cutB 210 d))) (w.heap.size + 1) 24 [.int .i64 0, .int .i64 0, .int .i64 0, .int .i64 0, .int .i64 0, .slice none 0 0, .bool false, .string ⟨#[]⟩]) := Lib.hid ((((HRS2.out.other (by simp) _).other (by simp) _).other (by simp) _).other (by simp) _)
  have HB3 : Hid (Below w.heap.size w ((((w2.setCell ⟨w.heap.size, 2, none⟩ (.int .i64 (cl n))).setCell ⟨w.heap.size, 3, none⟩ (.int .i64 (cl ps))).setCell ⟨w.heap.size, 4, none⟩ (.int .i64 (cl mr))).setCell ⟨w.heap.size, 7, none⟩ (.string (cutB 210 d)))) := Lib.hid ((((HB2.out.setCell (Nat.le_refl _) _).setCell (Nat.le_refl _) _).setCell (Nat.le_refl _) _).setCell (Nat.le_refl _) _)
  clear HBX2 HRS2 HB2 q0 q1 q2 q3 q4 q5 q6 q7 f0 f1 f2 f3 f4 f5 f6 f7
  generalize ((((w2.setCell ⟨w.heap.size, 2, none⟩ (.int .i64 (cl n))).setCell ⟨w.heap.size, 3, none⟩ (.int .i64 (cl ps))).setCell ⟨w.heap.size, 4, none⟩ (.int .i64 (cl mr))).setCell ⟨w.heap.size, 7, none⟩ (.string (cutB 210 d))) = W0 at *
  have hs0 := HRS3.out.lt
  go_loopw [5, 4] (fun i v wx => ∃ j : Nat, j ≤ l.length ∧ j ≤ 140 ∧ i = .int .i64 j ∧ AppI W0 (w.heap.size + 2) v ((l.take j).map cl) wx) (fun i _ _ => l.length - (intOf i).toNat)
  case atStart => exact ⟨0, Nat.zero_le _, by omega, rfl, World.ownsRow_nil _ _ _ _, Below.refl _ _⟩
  case round =>
    obtain ⟨j, hj, hj2, rfl, happ⟩ := hrel
    have HBX4 := Lib.hid (HBX3.out.below happ.2 (by omega))
    obtain ⟨q0, q1, q2, q3, q4, q5, q6, q7⟩ := HBX4.out.cells8
    have hsz2 := happ.2.size
    by_cases hlt : j < l.length
    · by_cases hlt2 : j < 140
      · obtain ⟨b, o, rfl⟩ := ha (by omega)
        have z1 := (HL.out.below (HB3.out.trans (happ.2.mono (by omega))) (Nat.le_refl _)).at j hlt
        have HA := Lib.hid happ
        have HN : Hid ((l.take (j + 1)).map cl = (l.take j).map cl ++ [cl l[j]]) := Lib.hid (by rw [List.take_succ_eq_append_getElem hlt, List.map_append]; rfl)
        have hln : ((l.take j).map cl).length ≤ 140 := by simp; omega
        clear happ q0 q1 q2 q3 q4 q6 q7
        generalize l[j] = x at *
        generalize (l.take j).map cl = ns at *
        go_wp2_with fail
        refine (clamp_any x _).mono ?_
        rintro e w3 ⟨rfl, rfl⟩
        go_wp2_with (at_builtin; (refine wpList_append_own _ rfl _ _ 22 rfl (w.heap.size + 2) 3 i0 (.int .i64 0) 1 8 Tryz.underlying22 hi hz0 hz1 hz2 rfl (by decide) _ _ _ rfl (HA.out.1.alloc _) ⟨wr.heap.size, 0, none⟩ 1 1 [.int .i64 (cl x)] rfl rfl ?c1 ?c2 ?c3 ?c4 ?c5 ?_))
        any_goals (first | exact cell_one_new _ _ _ | (unfold maxLen; omega) | (simp [Value.oneCell']; done) | omega | (simp; omega))
        intro v' w4 hown2 hgrow hnil
        have hap := app_step HA.out.2 (by omega) HA.out.1 hown2 hgrow
        clear hown2 hgrow hnil HA q5 z1
        have HA := Lib.hid hap
        clear hap
        go_wp2_with fail
        go_roundw
        case rel => exact ⟨j + 1, by omega, by omega, by go_num, by rw [HN.out]; exact HA.out⟩
        case measure => simp [intOf]; omega
      · have HN : Hid ((l.take j).map cl = (l.take 140).map cl) := Lib.hid (by obtain rfl : j = 140 := by omega
                                                                               rfl)
        rw [HN.out] at happ
        have hfin : j = 140 := by omega
        clear hlt2 hj hj2
        subst hfin
        have hll : ((l.take 140).map cl).length ≤ 140 := by simp; omega
        obtain ⟨ns, hns⟩ : ∃ ns, ns = (l.take 140).map cl := ⟨_, rfl⟩
        rw [← hns] at happ hll
        have HNS := Lib.hid hns
        clear hns HN
        have HA := Lib.hid happ
        obtain ⟨av, cv, rfl, hcv, hmv, hav⟩ := (IntsR.of_owns happ.1 (by omega)).len
        have HRS4 := Lib.hid (HRS3.out.below happ.2 (by omega))
        obtain ⟨f0, f1, f2, f3, f4, f5, f6, f7⟩ := HBX4.out.frozs8
        obtain ⟨r0, r1, r2, r3, r4, r5, r6, r7⟩ := HRS4.out.cells8
        obtain ⟨g0, g1, g2, g3, g4, g5, g6, g7⟩ := HRS4.out.frozs8
        clear happ
        go_wp2_with fail
        refine bodyPost_ret (v := refV k sq (cl n) (cl ps) (cl mr) (.slice av ns.length cv) self (cutB 210 d)) (by unfold refV; simp [results, Tryz.results6, go_sem, r0, r1, r2, r3, r4, r5, r6, r7]) rfl ⟨_, rfl, ?_, ?_⟩
        · rw [← HNS.out]
          refine ownsRow_mono (B := w.heap.size + 2) ?_ (by omega)
          repeat refine ownsRow_setCell_below ?_ (by first | (simp; done) | (simp; omega)) _
          exact HA.out.1
        · exact (((((((((HB3.out.trans (HA.out.2.mono (by omega))).setCell (by simp) _).setCell (by simp) _).setCell (by simp) _).setCell (by simp) _).setCell (by simp) _).setCell (by simp) _).setCell (by simp) _).setCell (by simp) _).setCell (by simp) _
    · have HN : Hid ((l.take j).map cl = (l.take 140).map cl) := Lib.hid (by rw [List.take_of_length_le (show l.length ≤ j by omega), List.take_of_length_le (show l.length ≤ 140 by omega)])
      rw [HN.out] at happ
      have hll : ((l.take 140).map cl).length ≤ 140 := by simp; omega
      obtain ⟨ns, hns⟩ : ∃ ns, ns = (l.take 140).map cl := ⟨_, rfl⟩
      rw [← hns] at happ hll
      have HNS := Lib.hid hns
      clear hns HN
      have HA := Lib.hid happ
      obtain ⟨av, cv, rfl, hcv, hmv, hav⟩ := (IntsR.of_owns happ.1 (by omega)).len
      have HRS4 := Lib.hid (HRS3.out.below happ.2 (by omega))
      obtain ⟨f0, f1, f2, f3, f4, f5, f6, f7⟩ := HBX4.out.frozs8
      obtain ⟨r0, r1, r2, r3, r4, r5, r6, r7⟩ := HRS4.out.cells8
      obtain ⟨g0, g1, g2, g3, g4, g5, g6, g7⟩ := HRS4.out.frozs8
      clear happ
      go_wp2_with fail
      refine bodyPost_ret (v := refV k sq (cl n) (cl ps) (cl mr) (.slice av ns.length cv) self (cutB 210 d)) (by unfold refV; simp [results, Tryz.results6, go_sem, r0, r1, r2, r3, r4, r5, r6, r7]) rfl ⟨_, rfl, ?_, ?_⟩
      · rw [← HNS.out]
        refine ownsRow_mono (B := w.heap.size + 2) ?_ (by omega)
        repeat refine ownsRow_setCell_below ?_ (by first | (simp; done) | (simp; omega)) _
        exact HA.out.1
      · exact (((((((((HB3.out.trans (HA.out.2.mono (by omega))).setCell (by simp) _).setCell (by simp) _).setCell (by simp) _).setCell (by simp) _).setCell (by simp) _).setCell (by simp) _).setCell (by simp) _).setCell (by simp) _).setCell (by simp) _
end Go.Proofs.YtohenohgceaibaaGreatDoor
