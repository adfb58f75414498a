/-
  Contract of the statements' Own (layer 6).
-/
import Derived.Test.YtohenohgceaibaaGreatDoorPduFew
import Derived.Deep.AppendLies
import Derived.Deep.RegionLaw
import Derived.Deep.DrawnRows
import Derived.Deep.RegionHeld3
import Derived.Deep.DeepCutAuto
set_option linter.unusedVariables false
set_option linter.unusedSimpArgs false
namespace Go.Proofs.YtohenohgceaibaaGreatDoor
open Go.RowKit
attribute [local go_sem ↓] Go.wp_at_zero Go.wp_at_succ

def OwnPost (w : World) (k sq n ps mr : Int) (l : List Int) (self : Bool) (d : ByteArray) (e : Ending) (w' : World) : Prop :=
  ∃ lv', e = .returned (pduV k sq (cl n) (cl ps) (cl mr) lv' self d) ∧ IntsR .u32 w' lv' (l.map cl) ∧ Below w.heap.size w w' ∧ w'.ownsRow w.heap.size 28 1 lv' (l.map cl).length ((l.map cl).map (Value.int .u32))
theorem own_tail {w w' : World} {O : Nat} {lv : Value} {ns : List Int} (h : w'.ownsRow (O + 1) 28 1 lv ns.length (ns.map (Value.int .u32))) (hO : w.heap.size ≤ O) (hm : ns.length ≤ 1000000) (hb : Below w.heap.size w w') :
    IntsR .u32 w' lv ns ∧ Below w.heap.size w w' ∧ w'.ownsRow w.heap.size 28 1 lv ns.length (ns.map (Value.int .u32)) := by
  refine ⟨IntsR.of_owns h (by omega), hb, h.1, ?_⟩
  rcases h.2 with h0 | ⟨g, cap, cur, hv, hbb, rest⟩
  · exact .inl h0
  · exact .inr ⟨g, cap, cur, hv, by omega, rest⟩
theorem info_num : (Tryz.prog.info? 28).map (fun i => (i.zero, i.size, i.bytes)) = some (some (.int .u32 0), 1, 4) := by kernel_rfl

/-- The unit that is being made, in block O; its list in a row of the call's own. -/
def OwnRel (W0 : World) (O : Nat) (wx : World) (cs : Value → List Value) (ns : List Int) : Prop :=
  ∃ v, BoxAt wx O 31 (cs v) ∧ wx.ownsRow (O + 1) 28 1 v ns.length (ns.map (Value.int .u32)) ∧ Below O W0 wx
theorem OwnRel.step {W0 wr w2 : World} {O : Nat} {cs : Value → List Value} {v v' : Value} {ns : List Int} {x : Int} {ob : Obj} (hcs : ∀ v v', (cs v).set 5 v' = cs v') (HO : BoxAt wr O 31 (cs v))
    (HW : wr.ownsRow (O + 1) 28 1 v ns.length (ns.map (Value.int .u32))) (HE : Below O W0 wr) (hg : (wr.alloc ob).drew.grownBy w2 v.ownBlock) (hne : some O ≠ v.ownBlock)
    (h2 : w2.ownsRow (O + 1) 28 1 v' (ns.length + 1) (ns.map (Value.int .u32) ++ [.int .u32 x])) : OwnRel W0 O (w2.setCell ⟨O, 5, none⟩ v') cs (ns ++ [x]) := by
  have hlt := HO.lt
  refine ⟨v', ?_, ?_, ?_⟩
  · have := ((HO.alloc (o := ob)).drew.grown hg hne).set 5 v'
    rwa [hcs] at this
  · refine ownsRow_setCell_below ?_ (by simp) _
    simpa using h2
  · exact (((HE.alloc (by omega) ob).drew).grown hg (by simp; omega) (fun q hq => by have := (HW.lt q hq).1; omega)).setCell (Nat.le_refl _) _
set_option maxRecDepth 100000 in
set_option maxHeartbeats 2000000 in
theorem own_any (k sq n ps mr : Int) (lv : Value) (l : List Int) (self : Bool) (d : ByteArray) (w : World) (hl : IntsR .i64 w lv l) (hlen : l.length ≤ 1000000) :
    Calls Tryz.prog 7 #[refV k sq n ps mr lv self d] w (OwnPost w k sq n ps mr l self d) := by
  have HL := Lib.hid hl
  obtain ⟨a, c, rfl, hc1, hm1, ha⟩ := hl.len
  clear hl
  obtain ⟨i0, hi, hz0, hz1, hz2⟩ := info_parts info_num
  unfold refV
  go_enter Tryz.func7, Tryz.ntmps7
  go_wp2_with fail
  refine region_gen (fun W => BoxAt W w.heap.size 24 [.int .i64 k, .int .i64 sq, .int .i64 n, .int .i64 ps, .int .i64 mr, .slice a l.length c, .bool self, .string d] ∧ BoxAt W (w.heap.size + 1) 31 [.int .i64 0, .int .i64 0, .int .u32 0, .int .u32 0, .int .u32 0, .slice none 0 0, .bool false, .string ⟨#[]⟩] ∧ Below w.heap.size w W) ⟨(BoxAt.new w _ _).alloc, BoxAt.newAt (by simp) _ _, ((Below.refl _ _).alloc (Nat.le_refl _) _).alloc (by simp) _⟩ ?_
  rintro W ⟨hbox, hres, hB⟩
  have HBX := Lib.hid hbox
  have HRS := Lib.hid hres
  have HB := Lib.hid hB
  obtain ⟨q0, q1, q2, q3, q4, q5, q6, q7⟩ := hbox.cells8
  have hwz := hB.size
  have hs1 := hres.lt
  clear hbox hres hB
  have hlt1 : w.heap.size < W.heap.size := by omega
  have hnb : ∀ o, (⟨w.heap.size, o, none⟩ : Addr).block ≠ W.heap.size := fun o => by simp; omega
  go_cut [3] (fun v wx => v = .pointer (some ⟨W.heap.size, 0, none⟩) ∧ wx = W.drew.alloc (.cells #[.int .i64 k, .int .i64 sq, .int .u32 (cl n), .int .u32 (cl ps), .int .u32 (cl mr), .slice none 0 0, .bool self, .string d] 31))
  case first =>
    go_region_held3 (fun w' => w'.cell? ⟨w.heap.size, 0, none⟩ = some (.int .i64 k) ∧ w'.cell? ⟨w.heap.size, 1, none⟩ = some (.int .i64 sq) ∧ w'.cell? ⟨w.heap.size, 2, none⟩ = some (.int .i64 n) ∧ w'.cell? ⟨w.heap.size, 3, none⟩ = some (.int .i64 ps) ∧ w'.cell? ⟨w.heap.size, 4, none⟩ = some (.int .i64 mr) ∧ w'.cell? ⟨w.heap.size, 6, none⟩ = some (.bool self) ∧ w'.cell? ⟨w.heap.size, 7, none⟩ = some (.string d)) (go_keep) ((go_at_call 20; refine (num_any _ _).mono ?_; rintro e w' ⟨rfl, rfl⟩))
    all_goals
      go_wp2_with fail
      go_meet
      exact ⟨rfl, rfl⟩
  case rest =>
    obtain ⟨rfl, rfl⟩ := hcut
    have HBX1 := Lib.hid (HBX.out.drew.alloc (o := .cells #[.int .i64 k, .int .i64 sq, .int .u32 (cl n), .int .u32 (cl ps), .int .u32 (cl mr), .slice none 0 0, .bool self, .string d] 31))
    have HRS1 := Lib.hid (HRS.out.drew.alloc (o := .cells #[.int .i64 k, .int .i64 sq, .int .u32 (cl n), .int .u32 (cl ps), .int .u32 (cl mr), .slice none 0 0, .bool self, .string d] 31))
    have HOB1 := Lib.hid (BoxAt.new W.drew 31 [.int .i64 k, .int .i64 sq, .int .u32 (cl n), .int .u32 (cl ps), .int .u32 (cl mr), .slice none 0 0, .bool self, .string d])
    have HB1 := Lib.hid (HB.out.drew.alloc (o := .cells #[.int .i64 k, .int .i64 sq, .int .u32 (cl n), .int .u32 (cl ps), .int .u32 (cl mr), .slice none 0 0, .bool self, .string d] 31) (by simpa using hwz))
    have hsW : (W.drew.alloc (.cells #[.int .i64 k, .int .i64 sq, .int .u32 (cl n), .int .u32 (cl ps), .int .u32 (cl mr), .slice none 0 0, .bool self, .string d] 31)).heap.size = W.heap.size + 1 := by simp
    clear HBX HRS HB q0 q1 q2 q3 q4 q5 q6 q7 hnb
    have hOb : BoxAt (W.drew.alloc (.cells #[.int .i64 k, .int .i64 sq, .int .u32 (cl n), .int .u32 (cl ps), .int .u32 (cl mr), .slice none 0 0, .bool self, .string d] 31)) W.heap.size 31 [.int .i64 k, .int .i64 sq, .int .u32 (cl n), .int .u32 (cl ps), .int .u32 (cl mr), .slice none 0 0, .bool self, .string d] := HOB1.out
    clear HOB1
    have HOB1 := Lib.hid hOb
    clear hOb
    generalize (W.drew.alloc (.cells #[.int .i64 k, .int .i64 sq, .int .u32 (cl n), .int .u32 (cl ps), .int .u32 (cl mr), .slice none 0 0, .bool self, .string d] 31)) = W0 at *
    generalize W.heap.size = O at *
    obtain ⟨q0, q1, q2, q3, q4, q5, q6, q7⟩ := HBX1.out.cells8
    go_wp2_with fail
    clear q0 q1 q2 q3 q4 q5 q6 q7
    go_loopw [27, 5] (fun i _ wx => ∃ j : Nat, j ≤ l.length ∧ i = .int .i64 j ∧ OwnRel W0 O wx (fun v => [.int .i64 k, .int .i64 sq, .int .u32 (cl n), .int .u32 (cl ps), .int .u32 (cl mr), v, .bool self, .string d]) ((l.take j).map cl)) (fun i _ _ => l.length - (intOf i).toNat)
    case atStart => exact ⟨0, Nat.zero_le _, rfl, _, HOB1.out, World.ownsRow_nil _ _ _ _, Below.refl _ _⟩
    case round =>
      obtain ⟨j, hj, rfl, v, hob, hown, hbel⟩ := hrel
      have hsz2 := hob.lt
      by_cases hlt : j < l.length
      · obtain ⟨b, o, rfl⟩ := ha (by omega)
        have z1 := (HL.out.below (HB1.out.trans (hbel.mono (by omega))) (Nat.le_refl _)).at j hlt
        have HN : Hid ((l.take (j + 1)).map cl = (l.take j).map cl ++ [cl l[j]]) := Lib.hid (by rw [List.take_succ_eq_append_getElem hlt, List.map_append]; rfl)
        have hln : ((l.take j).map cl).length ≤ 1000000 := by simp; omega
        have h5 := hob.cell 5
        have f5 := hob.froz 5
        simp only [List.getElem?_cons_succ, List.getElem?_cons_zero] at h5
        have hne : some O ≠ v.ownBlock := fun h => by have := (hown.lt O h.symm).1; omega
        have HO := Lib.hid hob
        have HW := Lib.hid hown
        have HE := Lib.hid hbel
        clear hob hown hbel
        generalize l[j] = x at *
        generalize (l.take j).map cl = ns at *
        go_wp2_with fail
        clear z1
        go_region_law (first | ((refine step_append_lies _ (by rfl) _ _ _ (by rfl) (O + 1) 28 i0 _ 1 4 Tryz.underlying29 hi hz0 hz1 hz2 rfl (by omega) v ns.length (ns.map (Value.int .u32)) (by rfl) ((HW.out.alloc _).drew) ⟨wr.heap.size, 0, none⟩ 1 1 [.int .u32 (cl x)] (by rfl) (by rfl) (World.news_of_block (cs := #[.int .u32 (cl x)]) (t := 28) (fr := (0, 0)) (heap_alloc_new wr _)) (by simp [Value.oneCell']) (by omega) (by unfold maxLen; omega) (by omega) (by simp; omega) (wr.heap.size + 1) (by simp) ?_; intro gg cap w2 hown2 hgrow hat hlt2; have hw2c : w2.cell? ⟨O, 5, none⟩ = some v := (hgrow.cell_far ⟨O, 5, none⟩ (by simp; omega) hne).trans ((bcell ((Below.refl _ wr).alloc (Nat.le_refl _) _) O 5 hsz2).trans h5); have hw2f : w2.frozen? ⟨O, 5, none⟩ = false := (hgrow.frozen_far ⟨O, 5, none⟩ (by simp; omega) hne).trans ((bfroz ((Below.refl _ wr).alloc (Nat.le_refl _) _) O 5 hsz2).trans f5))) | (go_simp; go_at_call 20; refine (num_any _ _).mono ?_; rintro e w' ⟨rfl, rfl⟩))
        all_goals
          go_wp2_with fail
          go_roundw
          case rel => exact ⟨j + 1, by omega, by go_num, by rw [HN.out]; exact OwnRel.step (fun _ _ => rfl) HO.out HW.out HE.out hgrow hne hown2⟩
          case measure => simp [intOf]; omega
      · have HN : Hid ((l.take j).map cl = l.map cl) := Lib.hid (by rw [List.take_of_length_le (show l.length ≤ j by omega)])
        rw [HN.out] at hown
        have hll : (l.map cl).length ≤ 1000000 := by simp; omega
        obtain ⟨ns, hns⟩ : ∃ ns, ns = l.map cl := ⟨_, rfl⟩
        rw [← hns] at hown hll
        have HNS := Lib.hid hns
        clear hns HN
        have HW := Lib.hid hown
        obtain ⟨av, cv, rfl, hcv, hmv, hav⟩ := (IntsR.of_owns hown (by omega)).len
        have HRS4 := Lib.hid (HRS1.out.below hbel (by omega))
        obtain ⟨q0, q1, q2, q3, q4, q5, q6, q7⟩ := hob.cells8
        obtain ⟨r0, r1, r2, r3, r4, r5, r6, r7⟩ := HRS4.out.cells8
        obtain ⟨g0, g1, g2, g3, g4, g5, g6, g7⟩ := HRS4.out.frozs8
        have HE := Lib.hid hbel
        clear hown hbel hob
        go_wp2_with fail
        refine bodyPost_ret (v := pduV k sq (cl n) (cl ps) (cl mr) (.slice av ns.length cv) self d) (by unfold pduV; simp [results, Tryz.results7, go_sem, r0, r1, r2, r3, r4, r5, r6, r7]) rfl ⟨_, rfl, ?_⟩
        rw [← HNS.out]
        refine own_tail (O := O) ?_ (by omega) hll ?_
        · repeat refine ownsRow_setCell_below ?_ (by first | (simp; done) | (simp; omega)) _
          exact HW.out
        · exact (((((((((HB1.out.trans (HE.out.mono (by omega))).setCell (by simp) _).setCell (by simp) _).setCell (by simp) _).setCell (by simp) _).setCell (by simp) _).setCell (by simp) _).setCell (by simp) _).setCell (by simp) _)
end Go.Proofs.YtohenohgceaibaaGreatDoor
