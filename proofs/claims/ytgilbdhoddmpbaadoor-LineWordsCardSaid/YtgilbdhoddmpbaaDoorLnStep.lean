/-
  Contract of line.step, of any text.
-/
import Derived.Test.YtgilbdhoddmpbaaDoorLnTake
import Derived.Test.YtgilbdhoddmpbaaDoorLnEnv
import Derived.Test.YtgilbdhoddmpbaaDoorIntsR
import Derived.Deep.DeepCutAuto
set_option linter.unusedVariables false
set_option linter.unusedSimpArgs false
namespace Go.Proofs.YtgilbdhoddmpbaaDoor
open Go.RowKit

def stpV (x : Stp) (nv : Value) : Value := .agg #[.string ⟨x.word.toArray⟩, nv, .string ⟨x.ask.toArray⟩, .string ⟨x.data.toArray⟩]
def StepEnd (R : Option Stp) (w : World) (e : Ending) (w' : World) : Prop :=
  Below w.heap.size w w' ∧ match R with
    | some x => ∃ nv, e = .returned (.tuple #[stpV x nv, .bool true]) ∧ w'.ownsRow w.heap.size 3 1 nv x.nums.length (numV x.nums)
    | none => e = .returned (.tuple #[stpV ⟨[], [], [], []⟩ (.slice none 0 0), .bool false])
theorem step_ok {R : Option Stp} {w w' : World} {e : Ending} {x : Stp} {nv : Value} (h : R = some x) (hb : Below w.heap.size w w') (ho : w'.ownsRow w.heap.size 3 1 nv x.nums.length (numV x.nums)) (he : e = .returned (.tuple #[stpV x nv, .bool true])) : StepEnd R w e w' := by
  subst h; exact ⟨hb, nv, he, ho⟩
theorem step_no {R : Option Stp} {w w' : World} {e : Ending} (h : R = none) (hb : Below w.heap.size w w') (he : e = .returned (.tuple #[stpV ⟨[], [], [], []⟩ (.slice none 0 0), .bool false])) : StepEnd R w e w' := by
  subst h; exact ⟨hb, he⟩
theorem bel_set4 {B : Nat} {w wx : World} (h : Below B w wx) (v0 v1 v2 v3 : Value) :
    Below B w ((((wx.setCell ⟨B, 0, none⟩ v0).setCell ⟨B, 1, none⟩ v1).setCell ⟨B, 2, none⟩ v2).setCell ⟨B, 3, none⟩ v3) :=
  (((h.setCell (p := ⟨B, 0, none⟩) (Nat.le_refl _) v0).setCell (p := ⟨B, 1, none⟩) (Nat.le_refl _) v1).setCell (p := ⟨B, 2, none⟩) (Nat.le_refl _) v2).setCell (p := ⟨B, 3, none⟩) (Nat.le_refl _) v3
/-- What holds behind j letters. -/
structure LnP (w wx : World) (need : List UInt8) (ws : List (List UInt8)) (FR : Option Stp) (j : Nat) : Prop where
  it : wx.heap[w.heap.size + 3]? = some (.stringIter ⟨need.toArray⟩ j)
  words : BoxAt wx (w.heap.size + 1) 9 (ws.map strV)
  res : BoxAt wx w.heap.size 34 [.string ⟨#[]⟩, .slice none 0 0, .string ⟨#[]⟩, .string ⟨#[]⟩]
  bel : Below w.heap.size w wx
  st : ∃ x nv, StpAt wx (w.heap.size + 4) (w.heap.size + 2) x nv ∧ fieldsL (need.drop j) (ws.tail.drop j) x = FR ∧ x.nums.length ≤ j
/-- Behind 'next': the iterator at j + 1, the step as it was. -/
structure LnM (w wx : World) (need : List UInt8) (ws : List (List UInt8)) (j : Nat) (x : Stp) (nv : Value) : Prop where
  it : wx.heap[w.heap.size + 3]? = some (.stringIter ⟨need.toArray⟩ (j + 1))
  words : BoxAt wx (w.heap.size + 1) 9 (ws.map strV)
  res : BoxAt wx w.heap.size 34 [.string ⟨#[]⟩, .slice none 0 0, .string ⟨#[]⟩, .string ⟨#[]⟩]
  bel : Below w.heap.size w wx
  st : StpAt wx (w.heap.size + 4) (w.heap.size + 2) x nv
theorem LnP.mid {w wx : World} {need : List UInt8} {ws : List (List UInt8)} {FR : Option Stp} {j : Nat} (h : LnP w wx need ws FR j) :
    ∃ x nv, LnM w (wx.iterAt (w.heap.size + 3) ⟨need.toArray⟩ (j + 1)) need ws j x nv ∧ fieldsL (need.drop j) (ws.tail.drop j) x = FR ∧ x.nums.length ≤ j := by
  obtain ⟨x, nv, hs, hf, hn⟩ := h.st
  have hsz : wx.heap.size ≤ (wx.iterAt (w.heap.size + 3) ⟨need.toArray⟩ (j + 1)).heap.size := by
    have h1 := Lib.iterAt_heap wx (w.heap.size + 3) ⟨need.toArray⟩ j (j + 1) h.it
    unfold World.iterAt; simp
  refine ⟨x, nv, ⟨Lib.iterAt_heap _ _ _ _ _ h.it, (Lib.iterAt_other _ _ _ _ _ (by omega)).trans h.words, (Lib.iterAt_other _ _ _ _ _ (by omega)).trans h.res, Lib.below_iterAt h.bel (by omega) _ _,
    ⟨(Lib.iterAt_other _ _ _ _ _ (by omega)).trans hs.box, ?_, hs.lt, Nat.le_trans hs.le hsz⟩⟩, hf, hn⟩
  obtain ⟨h1, h2 | ⟨q, cap, cur, hv, hB, hq, rest⟩⟩ := hs.own
  · exact ⟨h1, .inl h2⟩
  · refine ⟨h1, .inr ⟨q, cap, cur, hv, hB, ?_, rest⟩⟩
    rw [Lib.iterAt_other _ _ _ _ _ (by omega)]
    exact hq
theorem LnM.next {w wx w2 : World} {need : List UInt8} {ws : List (List UInt8)} {FR : Option Stp} {j : Nat} {x y : Stp} {nv nv' : Value} (h : LnM w wx need ws j x nv) (hg : But (w.heap.size + 4) (w.heap.size + 2) wx w2)
    (hs : StpAt w2 (w.heap.size + 4) (w.heap.size + 2) y nv') (hf : fieldsL (need.drop (j + 1)) (ws.tail.drop (j + 1)) y = FR) (hn : y.nums.length ≤ j + 1) : LnP w w2 need ws FR (j + 1) :=
  ⟨(hg.block _ (by omega) (by omega)).trans h.it, (hg.block _ (by omega) (by omega)).trans h.words, (hg.block _ (by omega) (by omega)).trans h.res,
    ⟨hg.os.trans h.bel.os, hg.tape.trans h.bel.tape, hg.output.trans h.bel.output, Nat.le_trans h.bel.size hg.size, fun k hk => (hg.block k (by omega) (by omega)).trans (h.bel.block k hk)⟩, y, nv', hs, hf, hn⟩
theorem But.bel {w wx w2 : World} {B b : Nat} (hg : But B b wx w2) (hb : Below w.heap.size w wx) (h1 : w.heap.size ≤ B) (h2 : w.heap.size ≤ b) : Below w.heap.size w w2 :=
  ⟨hg.os.trans hb.os, hg.tape.trans hb.tape, hg.output.trans hb.output, Nat.le_trans hb.size hg.size, fun k hk => (hg.block k (by omega) (by omega)).trans (hb.block k hk)⟩
theorem own_low {w : World} {B C : Nat} {nv : Value} {n : Nat} {xs : List Value} (h : w.ownsRow B 3 1 nv n xs) (hb : C ≤ B) : w.ownsRow C 3 1 nv n xs := by
  obtain ⟨h1, h2 | ⟨q, cap, cur, hv, hB, hq, rest⟩⟩ := h
  · exact ⟨h1, .inl h2⟩
  · exact ⟨h1, .inr ⟨q, cap, cur, hv, by omega, hq, rest⟩⟩
theorem own_set4 {w : World} {B b : Nat} {nv : Value} {n : Nat} {xs : List Value} (h : w.ownsRow B 3 1 nv n xs) (hb : b < B) (v0 v1 v2 v3 : Value) :
    ((((w.setCell ⟨b, 0, none⟩ v0).setCell ⟨b, 1, none⟩ v1).setCell ⟨b, 2, none⟩ v2).setCell ⟨b, 3, none⟩ v3).ownsRow b 3 1 nv n xs :=
  own_low (own_set (own_set (own_set (own_set h hb) hb) hb) hb) (Nat.le_of_lt hb)
set_option maxRecDepth 100000 in
set_option maxHeartbeats 4000000 in
theorem step_txt (s : ByteArray) (w : World) (hs : s.size ≤ 100000) (he : EnvM w) :
    Calls Tryd.prog 20 #[.string s] w (StepEnd (stepL s.data.toList) w) := by
  have HRES : Hid (stepL s.data.toList = stepW (splitBy 32 s.data.toList)) := Lib.hid rfl
  have HE := Lib.hid he
  have HSP := Lib.hid (fun W h => split_anyM s 32 W (by omega) h)
  have hwp : 1 ≤ (splitBy 32 s.data.toList).length := by rw [splitBy_length]; omega
  have hwl : (splitBy 32 s.data.toList).length ≤ 100001 := by
    rw [splitBy_length]
    have := List.count_le_length (a := (32 : UInt8)) (l := s.data.toList)
    rw [size_len] at this; omega
  have HPL : Hid (∀ x ∈ splitBy 32 s.data.toList, x.length ≤ 100000) := Lib.hid (fun x hx => by
    have := splitBy_le 32 s.data.toList x hx
    rw [size_len] at this; omega)
  generalize stepL s.data.toList = RN at *
  generalize splitBy 32 s.data.toList = ws at *
  clear he
  go_enter Tryd.func20, Tryd.ntmps20
  have HBR0 := Lib.hid (BoxAt.new w 34 [.string ⟨#[]⟩, .slice none 0 0, .string ⟨#[]⟩, .string ⟨#[]⟩])
  go_wp2_with fail
  refine (HSP.out _ HE.out.alloc).mono ?_
  rintro e w1 ⟨rfl, hw1⟩
  have hw1s : w1.heap.size = w.heap.size + 1 + 1 := by rw [hw1]; simp
  have HBR1 := Lib.hid (show BoxAt w1 w.heap.size 34 [.string ⟨#[]⟩, .slice none 0 0, .string ⟨#[]⟩, .string ⟨#[]⟩] from by rw [hw1]; exact HBR0.out.alloc)
  have HWB1 := Lib.hid (show BoxAt w1 (w.heap.size + 1) 9 (ws.map strV) from by
    rw [hw1]
    exact BoxAt.newAt (by simp) 9 (ws.map strV))
  have HB1 := Lib.hid (show Below w.heap.size w w1 from by rw [hw1]; exact ((Below.refl _ _).alloc (Nat.le_refl _) _).alloc (by simp) _)
  have hc0 : w1.cell? ⟨w.heap.size + 1, 0, none⟩ = some (.string ⟨(ws.getD 0 []).toArray⟩) := by
    rw [HWB1.out.cell]
    cases ws with
    | nil => simp at hwp
    | cons a t => rfl
  have HND := Lib.hid (fun W => lneeds_any ⟨(ws.getD 0 []).toArray⟩ W)
  rw [show (⟨(ws.getD 0 []).toArray⟩ : ByteArray).data.toList = ws.getD 0 [] from rfl] at HND
  clear hw1 HSP HBR0
  go_wp2_with fail
  refine (HND.out _).mono ?_
  rintro e w2 ⟨rfl, rfl⟩
  obtain ⟨g0, g1, g2, g3⟩ := HBR1.out.frozs4
  obtain ⟨r0, r1, r2, r3⟩ := HBR1.out.cells4
  cases hne : needOf (ws.getD 0 []) with
  | none =>
    have HR : Hid (RN = none) := Lib.hid (by rw [HRES.out]; unfold stepW; rw [hne])
    simp only [Option.getD_none, Option.isSome_none]
    clear hne HRES HND
    go_wp2_with fail
    refine bodyPost_ret (v := .tuple #[stpV ⟨[], [], [], []⟩ (.slice none 0 0), .bool false]) (by unfold stpV; simp [results, Tryd.results20, go_sem, r0, r1, r2, r3]) rfl (step_no HR.out ?_ rfl)
    exact bel_set4 HB1.out _ _ _ _
  | some need =>
    have hgd := need_good _ (need_mem hne)
    have hnl6 : need.length ≤ 6 := hgd.2.2.1
    have HLT := Lib.hid hgd.2.2.2
    simp only [Option.getD_some, Option.isSome_some]
    clear hgd HND
    by_cases hl : ws.length = 1 + need.length
    · have e1 : ((ws.length : Int) != 1 + (need.length : Int)) = false := by simp; omega
      have HR : Hid (RN = fieldsL need ws.tail ⟨ws.getD 0 [], [], [], []⟩) := Lib.hid (by rw [HRES.out]; unfold stepW; rw [hne]; exact if_pos hl)
      clear hne HRES
      have HNL := Lib.hid hl
      clear hl
      have hp0 : ∀ FR, FR = fieldsL need ws.tail ⟨ws.getD 0 [], [], [], []⟩ → LnP w ((w1.alloc (.cells #[.string ⟨(ws.getD 0 []).toArray⟩, .slice none 0 0, .string ⟨#[]⟩, .string ⟨#[]⟩] 34)).iter ⟨need.toArray⟩ 0) need ws FR 0 := fun FR hF => by
        have h1 := World.iter_heap (w1.alloc (.cells #[.string ⟨(ws.getD 0 []).toArray⟩, .slice none 0 0, .string ⟨#[]⟩, .string ⟨#[]⟩] 34)) ⟨need.toArray⟩ 0
        have h2 : Below w1.heap.size w1 ((w1.alloc (.cells #[.string ⟨(ws.getD 0 []).toArray⟩, .slice none 0 0, .string ⟨#[]⟩, .string ⟨#[]⟩] 34)).iter ⟨need.toArray⟩ 0) := ((Below.refl _ _).alloc (Nat.le_refl _) _).alloc (by simp) _
        have h3 := BoxAt.newAt hw1s 34 [.string ⟨(ws.getD 0 []).toArray⟩, .slice none 0 0, .string ⟨#[]⟩, .string ⟨#[]⟩]
        have hz : (w1.alloc (.cells #[.string ⟨(ws.getD 0 []).toArray⟩, .slice none 0 0, .string ⟨#[]⟩, .string ⟨#[]⟩] 34)).heap.size = w.heap.size + 3 := by simp [hw1s]
        rw [hz] at h1
        exact ⟨h1, HWB1.out.below h2 HWB1.out.lt, HBR1.out.below h2 HBR1.out.lt, belSeq HB1.out h2, ⟨ws.getD 0 [], [], [], []⟩, .slice none 0 0, ⟨h3.alloc, World.ownsRow_nil _ _ _ _, by omega, by have := World.iter_heap (w1.alloc (.cells #[.string ⟨(ws.getD 0 []).toArray⟩, .slice none 0 0, .string ⟨#[]⟩, .string ⟨#[]⟩] 34)) ⟨need.toArray⟩ 0; have := (Array.getElem?_eq_some_iff.1 this).1; omega⟩, hF.symm, by simp⟩
      have HP0 := Lib.hid (hp0 _ rfl)
      generalize fieldsL need ws.tail ⟨ws.getD 0 [], [], [], []⟩ = FR at *
      clear hp0 HBR1 HWB1 HB1 g0 g1 g2 g3 r0 r1 r2 r3
      generalize ws.getD 0 [] = wd at *
      go_wp2_with fail
      generalize (w1.alloc (.cells #[.string ⟨wd.toArray⟩, .slice none 0 0, .string ⟨#[]⟩, .string ⟨#[]⟩] 34)).iter ⟨need.toArray⟩ 0 = W0 at *
      go_loopw [] (fun wx => ∃ j : Nat, j ≤ need.length ∧ LnP w wx need ws FR j) (fun wx => need.length - wx.iterPos (w.heap.size + 3))
      case atStart => exact ⟨0, by omega, HP0.out⟩
      case round =>
        obtain ⟨j, hj, hpl⟩ := hrel
        have HP := Lib.hid hpl
        clear hpl
        by_cases hlt : j < need.length
        · have hlt' : j < (⟨need.toArray⟩ : ByteArray).size := by rw [size_arr]; exact hlt
          have hgb : (⟨need.toArray⟩ : ByteArray)[j] = need[j] := rfl
          have hmem := HLT.out _ (List.getElem_mem hlt)
          have hc7 : (need[j]'hlt).toNat < 128 := by
            rcases hmem with h | h | h | h <;> rw [h] <;> decide
          have hnx : ∀ ty, (Instr.next (.pointer (some ⟨w.heap.size + 3, 0, none⟩)) true ty).run Tryd.prog wr = .ok (.tuple #[.bool true, .int .i64 (j : Int), .int .i32 (((need[j]'hlt).toNat : Nat) : Int)]) (wr.iterAt (w.heap.size + 3) ⟨need.toArray⟩ (j + 1)) := fun ty => Lib.run_next_ascii_at (P := Tryd.prog) wr (w.heap.size + 3) ⟨need.toArray⟩ j ty HP.out.it hlt' (by rw [hgb]; exact hc7)
          obtain ⟨x, nv, hM, hR, hnl⟩ := HP.out.mid
          have hl1 : 1 + j < ws.length := by have := HNL.out; omega
          have hcell : (wr.iterAt (w.heap.size + 3) ⟨need.toArray⟩ (j + 1)).cell? ⟨w.heap.size + 1, 1 + j, none⟩ = some (.string ⟨(ws[1 + j]).toArray⟩) := by
            rw [hM.words.cell]; simp [hl1, strV]
          have hxl := HPL.out _ (List.getElem_mem hl1)
          have hdn : need.drop j = need[j] :: need.drop (j + 1) := List.drop_eq_getElem_cons hlt
          have hdr : ws.tail.drop j = ws[1 + j] :: ws.tail.drop (j + 1) := by
            rw [List.drop_eq_getElem_cons (by rw [List.length_tail]; omega)]
            congr 1
            rw [List.getElem_tail]
            congr 1; omega
          rw [hdn, hdr] at hR
          simp only [fieldsL] at hR
          have HR2 := Lib.hid hR
          have HTK := Lib.hid (ltake_any need[j] hmem x nv (w.heap.size + 2) (w.heap.size + 4) ⟨(ws[1 + j]).toArray⟩ _ (by rw [size_arr]; omega) (by omega) hM.st)
          have HM := Lib.hid hM
          rw [show (⟨(ws[1 + j]).toArray⟩ : ByteArray).data.toList = ws[1 + j] from rfl] at HTK
          clear hgb hc7 hM hR hdn hdr hmem
          generalize need[j] = c at *
          generalize ws[1 + j] = y at *
          generalize wr.iterAt (w.heap.size + 3) ⟨need.toArray⟩ (j + 1) = W1 at *
          have hl1' : (1 : Int) + (j : Int) < (ws.length : Int) := by omega
          unfold LtakeEnd at HTK
          go_wp2_with fail
          refine HTK.out.mono ?_
          rintro e w2 ⟨hg2, hpost⟩
          have HG2 := Lib.hid hg2
          clear hg2 hcell HTK
          cases htf : takeL c y x with
          | none =>
            rw [htf] at hpost HR2
            simp only at hpost
            subst hpost
            have HRN2 : Hid (RN = none) := Lib.hid (by rw [HR.out, ← HR2.out])
            have HX2 : Hid (BoxAt w2 w.heap.size 34 [.string ⟨#[]⟩, .slice none 0 0, .string ⟨#[]⟩, .string ⟨#[]⟩]) := Lib.hid ((HG2.out.block _ (by omega) (by omega)).trans HM.out.res)
            have HB2 : Hid (Below w.heap.size w w2) := Lib.hid (HG2.out.bel HM.out.bel (by omega) (by omega))
            obtain ⟨r0, r1, r2, r3⟩ := HX2.out.cells4
            obtain ⟨g0, g1, g2, g3⟩ := HX2.out.frozs4
            clear htf HR2 HR HG2 HM HP
            go_wp2_with fail
            refine bodyPost_ret (v := .tuple #[stpV ⟨[], [], [], []⟩ (.slice none 0 0), .bool false]) (by unfold stpV; simp [results, Tryd.results20, go_sem, r0, r1, r2, r3]) rfl (step_no HRN2.out ?_ rfl)
            exact bel_set4 HB2.out _ _ _ _
          | some q =>
            rw [htf] at hpost HR2
            obtain ⟨rfl, lv2, hst2⟩ := hpost
            have hql := take_len htf
            have HN2 := Lib.hid (HM.out.next HG2.out hst2 HR2.out (by omega))
            have HIT := Lib.hid HP.out.it
            clear htf hst2 HR2 HG2 HM HP
            go_wp2_with fail
            go_roundw
            case rel => exact ⟨j + 1, by omega, HN2.out⟩
            case measure => rw [iter_pos HN2.out.it, iter_pos HIT.out]; omega
        · have hnx := fun ty => Lib.run_next_end_at (P := Tryd.prog) wr (w.heap.size + 3) ⟨need.toArray⟩ j ty HP.out.it (by rw [size_arr]; exact hlt)
          obtain ⟨x, nv, hst, hR, hnl⟩ := HP.out.st
          rw [List.drop_of_length_le (by omega)] at hR
          have HRN2 : Hid (RN = some x) := Lib.hid (by rw [HR.out, ← hR]; simp [fieldsL])
          obtain ⟨al, cl, rfl, -, -, -⟩ := (IntsR.of_owns hst.own (by omega)).len
          have HST := Lib.hid hst
          have HX := Lib.hid HP.out.res
          have HB := Lib.hid HP.out.bel
          clear hR hst HR HP
          obtain ⟨p0, p1, p2, p3⟩ := HST.out.box.cells4
          obtain ⟨r0, r1, r2, r3⟩ := HX.out.cells4
          obtain ⟨g0, g1, g2, g3⟩ := HX.out.frozs4
          go_wp2_with fail
          refine bodyPost_ret (v := .tuple #[stpV x (.slice al x.nums.length cl), .bool true]) (by unfold stpV; simp [results, Tryd.results20, go_sem, r0, r1, r2, r3]) rfl (step_ok HRN2.out (bel_set4 HB.out _ _ _ _) ?_ rfl)
          exact own_set4 HST.out.own (by omega) _ _ _ _
    · have e1 : ((ws.length : Int) != 1 + (need.length : Int)) = true := by simp; omega
      have HR : Hid (RN = none) := Lib.hid (by rw [HRES.out]; unfold stepW; rw [hne]; exact if_neg hl)
      clear hne HRES hl
      go_wp2_with fail
      refine bodyPost_ret (v := .tuple #[stpV ⟨[], [], [], []⟩ (.slice none 0 0), .bool false]) (by unfold stpV; simp [results, Tryd.results20, go_sem, r0, r1, r2, r3]) rfl (step_no HR.out ?_ rfl)
      exact bel_set4 HB1.out _ _ _ _
end Go.Proofs.YtgilbdhoddmpbaaDoor
