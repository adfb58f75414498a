/-
  The document's One (layer 23): the step of a line.
-/
import Derived.Test.YtgilbdhoddmpbaaDoorLnRefTab
import Derived.Test.YtgilbdhoddmpbaaDoorLnRefSplit
import Derived.Test.YtgilbdhoddmpbaaDoorLnRefNum
import Derived.Test.YtgilbdhoddmpbaaDoorLnRefBytes
set_option linter.unusedVariables false
set_option linter.unusedSimpArgs false
namespace Go.Proofs.YtgilbdhoddmpbaaDoor
open Go.RowKit

def WordsAt (w : World) (g : Nat) (ws : List (List UInt8)) : Prop := ∀ j (h : j < ws.length), w.cell? ⟨g, j, none⟩ = some (strV ws[j])
theorem WordsAt.below {w w' : World} {g : Nat} {ws : List (List UInt8)} (h : WordsAt w g ws) (hb : Below w.heap.size w w') : WordsAt w' g ws := fun j hj => (hb.cell (block_lt_of_cell (h j hj))).trans (h j hj)
theorem WordsAt.other {w : World} {g b o : Nat} {v : Value} {ws : List (List UInt8)} (h : WordsAt w g ws) (hb : g ≠ b) : WordsAt (w.setCell ⟨b, o, none⟩ v) g ws := fun j hj => (World.cell?_of_block (Below.heap_setCell _ _ _ _ hb)).trans (h j hj)
theorem WordsAt.grown {w w' : World} {g : Nat} {row : Option Nat} {ws : List (List UInt8)} (h : WordsAt w g ws) (hg : w.grownBy w' row) (hr : some g ≠ row) : WordsAt w' g ws := fun j hj => (World.cell?_of_block (hg.block g (block_lt_of_cell (h j hj)) hr)).trans (h j hj)
/-- How One stands at its loop. -/
structure RnP (w wx : World) (g b B : Nat) (ws : List (List UInt8)) (x : Stp) (nv : Value) : Prop where
  words : WordsAt wx g ws
  res : BoxAt wx w.heap.size 32 [.string ⟨#[]⟩, .slice none 0 0, .string ⟨#[]⟩, .string ⟨#[]⟩]
  bel : Below w.heap.size w wx
  box : BoxAt wx b 32 [.string ⟨x.word.toArray⟩, nv, .string ⟨x.ask.toArray⟩, .string ⟨x.data.toArray⟩]
  own : wx.ownsRow B 3 1 nv x.nums.length (numV x.nums)
  lt : b < B
  le : B ≤ wx.heap.size
  gb : g < b
  rg : w.heap.size < g
theorem RnP.below {w wx wy : World} {g b B : Nat} {ws : List (List UInt8)} {x : Stp} {nv : Value} (h : RnP w wx g b B ws x nv) (hb : Below wx.heap.size wx wy) : RnP w wy g b B ws x nv :=
  ⟨h.words.below hb, h.res.below hb h.res.lt, belSeq h.bel hb, h.box.below hb h.box.lt, row_kept h.own (grown_of_below hb) (fun r e => by cases e), h.lt, Nat.le_trans h.le hb.size, h.gb, h.rg⟩
theorem RnP.ask {w wx : World} {g b B : Nat} {ws : List (List UInt8)} {x : Stp} {nv : Value} (h : RnP w wx g b B ws x nv) (a : ByteArray) : RnP w (wx.setCell ⟨b, 2, none⟩ (.string a)) g b B ws { x with ask := a.data.toList } nv :=
  ⟨h.words.other (by have := h.gb; omega), h.res.other (by have := h.gb; have := h.rg; simp; omega) _, h.bel.setCell (p := ⟨b, 2, none⟩) (by have := h.gb; have := h.rg; simp; omega) _, h.box.set 2 _, own_set h.own h.lt, h.lt, by simpa using h.le, h.gb, h.rg⟩
theorem RnP.data {w wx : World} {g b B : Nat} {ws : List (List UInt8)} {x : Stp} {nv : Value} (h : RnP w wx g b B ws x nv) (a : ByteArray) : RnP w (wx.setCell ⟨b, 3, none⟩ (.string a)) g b B ws { x with data := a.data.toList } nv :=
  ⟨h.words.other (by have := h.gb; omega), h.res.other (by have := h.gb; have := h.rg; simp; omega) _, h.bel.setCell (p := ⟨b, 3, none⟩) (by have := h.gb; have := h.rg; simp; omega) _, h.box.set 3 _, own_set h.own h.lt, h.lt, by simpa using h.le, h.gb, h.rg⟩
theorem RnP.more {w wx wy : World} {g b B : Nat} {ws : List (List UInt8)} {x : Stp} {nv v' : Value} {o : Obj} {n : Int} (h : RnP w wx g b B ws x nv) (hg : (wx.alloc o).grownBy wy nv.ownBlock) (hr : wy.ownsRow B 3 1 v' (x.nums.length + 1) (numV x.nums ++ [.int .i64 n])) :
    RnP w (wy.setCell ⟨b, 1, none⟩ v') g b B ws { x with nums := x.nums ++ [n] } v' := by
  have hlt := h.own.lt
  have hbB := h.lt
  have hgb := h.gb
  have hrg := h.rg
  have ha := h.below ((Below.refl _ wx).alloc (Nat.le_refl _) o)
  have hne : ∀ q, q < B → some q ≠ nv.ownBlock := fun q hq e => by have := (hlt q e.symm).1; omega
  refine ⟨(ha.words.grown hg (hne g (by omega))).other (by omega), (ha.res.grown hg (hne _ (by omega))).other (by simp; omega) _, (ha.bel.grown hg (Nat.le_of_lt ha.res.lt) (fun r e => by have := (hlt r e).1; omega)).setCell (p := ⟨b, 1, none⟩) (by simp; omega) _,
    (ha.box.grown hg (hne b hbB)).set 1 _, ?_, hbB, by have := hg.size; have := ha.le; simp; omega, hgb, hrg⟩
  rw [numV_snoc] at hr
  rw [List.length_append]
  exact own_set hr hbB
set_option maxRecDepth 100000 in
set_option maxHeartbeats 4000000 in
theorem rone_any (s : ByteArray) (w : World) (hs : s.size ≤ 100000) :
    Calls Tryd.prog 13 #[.string s] w (StepEnd (stepL s.data.toList) w) := by
  have HRES : Hid (stepL s.data.toList = stepW (splitBy 32 s.data.toList)) := Lib.hid rfl
  have HSP := Lib.hid (fun W => rsplit_any s 32 W (by omega))
  have hwp : 1 ≤ (splitBy 32 s.data.toList).length := by rw [splitBy_length]; omega
  have hwl : (splitBy 32 s.data.toList).length ≤ 100001 := by
    rw [splitBy_length]
    have := List.count_le_length (a := (32 : UInt8)) (l := s.data.toList)
    rw [size_len] at this; omega
  have HPL : Hid (∀ x ∈ splitBy 32 s.data.toList, x.length ≤ 100000) := Lib.hid (fun x hx => by
    have := splitBy_le 32 s.data.toList x hx
    rw [size_len] at this; omega)
  generalize stepL s.data.toList = RN at *
  generalize splitBy 32 s.data.toList = ws at *
  unfold RsplitEnd at HSP
  rw [show (((32 : UInt8).toNat : Nat) : Int) = 32 from rfl] at HSP
  go_enter Tryd.func13, Tryd.ntmps13
  have HBR0 := Lib.hid (BoxAt.new w 32 [.string ⟨#[]⟩, .slice none 0 0, .string ⟨#[]⟩, .string ⟨#[]⟩])
  have HB0 := Lib.hid ((Below.refl w.heap.size w).alloc (Nat.le_refl _) (.cells #[.string ⟨#[]⟩, .slice none 0 0, .string ⟨#[]⟩, .string ⟨#[]⟩] 32))
  go_wp2_with fail
  refine (HSP.out _).mono ?_
  rintro e w1 ⟨hb1, g, wc, rfl, ho1⟩
  have hgl := ho1.lt g rfl
  have hrg : w.heap.size < g := by have := hgl.1; simp at this; omega
  have hgs : g < w1.heap.size := hgl.2
  have hwcap : ws.length ≤ wc := by
    rcases ho1.2 with ⟨h, _⟩ | ⟨_, _, _, h, _, _, h2, _⟩
    · cases h
    · cases h; exact h2
  have HWB1 : Hid (WordsAt w1 g ws) := Lib.hid (fun j hj => by rw [ho1.cellAt j (by omega)]; simp [hj])
  have HBR1 := Lib.hid (HBR0.out.below hb1 HBR0.out.lt)
  have HB1 := Lib.hid (belSeq HB0.out hb1)
  have hc0 : w1.cell? ⟨g, 0, none⟩ = some (.string ⟨(ws.getD 0 []).toArray⟩) := by
    rw [HWB1.out 0 (by omega)]
    cases ws with
    | nil => simp at hwp
    | cons a t => rfl
  have HND := Lib.hid (fun W => rneeds_any ⟨(ws.getD 0 []).toArray⟩ W)
  rw [show (⟨(ws.getD 0 []).toArray⟩ : ByteArray).data.toList = ws.getD 0 [] from rfl] at HND
  have hwp0 : (0 : Int) < (ws.length : Int) := by omega
  clear hgl hb1 ho1 HSP HBR0 HB0
  go_wp2_with fail
  refine (HND.out _).mono ?_
  rintro e w2 ⟨rfl, hb2⟩
  have HWB2 := Lib.hid (HWB1.out.below hb2)
  have HBR2 := Lib.hid (HBR1.out.below hb2 HBR1.out.lt)
  have HB2 := Lib.hid (belSeq HB1.out hb2)
  have hgs2 : g < w2.heap.size := by have := hb2.size; omega
  have hc2 : w2.cell? ⟨g, 0, none⟩ = some (.string ⟨(ws.getD 0 []).toArray⟩) := (hb2.cell (block_lt_of_cell hc0)).trans hc0
  clear hb2 HND HWB1 HBR1 HB1 hc0
  obtain ⟨g0, g1, g2, g3⟩ := HBR2.out.frozs4
  obtain ⟨r0, r1, r2, r3⟩ := HBR2.out.cells4
  cases hne : needOf (ws.getD 0 []) with
  | none =>
    have HR : Hid (RN = none) := Lib.hid (by rw [HRES.out]; unfold stepW; rw [hne])
    simp only [Option.getD_none, Option.isSome_none]
    clear hne HRES
    go_wp2_with fail
    refine bodyPost_ret (v := .tuple #[stpV ⟨[], [], [], []⟩ (.slice none 0 0), .bool false]) (by unfold stpV; simp [results, Tryd.results13, go_sem, r0, r1, r2, r3]) rfl (step_no HR.out ?_ rfl)
    exact bel_set4 HB2.out _ _ _ _
  | some need =>
    have hgd := need_good _ (need_mem hne)
    have hnl6 : need.length ≤ 6 := hgd.2.2.1
    have HLT := Lib.hid hgd.2.2.2
    simp only [Option.getD_some, Option.isSome_some]
    clear hgd
    by_cases hl : ws.length = 1 + need.length
    · have e1 : ((ws.length : Int) != 1 + (need.length : Int)) = false := by simp; omega
      have HR : Hid (RN = fieldsL need ws.tail ⟨ws.getD 0 [], [], [], []⟩) := Lib.hid (by rw [HRES.out]; unfold stepW; rw [hne]; exact if_pos hl)
      clear hne HRES
      have HNL := Lib.hid hl
      clear hl
      have HP0 : Hid (RnP w (w2.alloc (.cells #[.string ⟨(ws.getD 0 []).toArray⟩, .slice none 0 0, .string ⟨#[]⟩, .string ⟨#[]⟩] 32)) g w2.heap.size (w2.heap.size + 1) ws ⟨ws.getD 0 [], [], [], []⟩ (.slice none 0 0)) := Lib.hid (by
        have h2 := (Below.refl w2.heap.size w2).alloc (Nat.le_refl _) (.cells #[.string ⟨(ws.getD 0 []).toArray⟩, .slice none 0 0, .string ⟨#[]⟩, .string ⟨#[]⟩] 32)
        exact ⟨HWB2.out.below h2, HBR2.out.below h2 HBR2.out.lt, belSeq HB2.out h2, BoxAt.new w2 32 [.string ⟨(ws.getD 0 []).toArray⟩, .slice none 0 0, .string ⟨#[]⟩, .string ⟨#[]⟩], World.ownsRow_nil _ _ _ _, by omega, by simp, hgs2, hrg⟩)
      have HR0 : Hid (fieldsL (need.drop 0) (ws.tail.drop 0) ⟨ws.getD 0 [], [], [], []⟩ = fieldsL need ws.tail ⟨ws.getD 0 [], [], [], []⟩) := Lib.hid rfl
      generalize hFR : fieldsL need ws.tail ⟨ws.getD 0 [], [], [], []⟩ = FR at *
      clear hFR
      clear HBR2 HWB2 HB2 g0 g1 g2 g3 r0 r1 r2 r3
      generalize ws.getD 0 [] = wd at *
      go_wp2_with fail
      generalize w2.alloc (.cells #[.string ⟨wd.toArray⟩, .slice none 0 0, .string ⟨#[]⟩, .string ⟨#[]⟩] 32) = W0 at *
      have HBN : Hid (∃ B, B = w2.heap.size + 1) := Lib.hid ⟨_, rfl⟩
      obtain ⟨B, hB⟩ := HBN.out
      rw [← hB] at HP0
      clear HBN hB
      generalize w2.heap.size = b at *
      go_loopw [8] (fun i wx => ∃ (j : Nat) (x : Stp) (nv : Value), i = .int .i64 (j : Int) ∧ j ≤ need.length ∧ RnP w wx g b B ws x nv ∧ Hid (fieldsL (need.drop j) (ws.tail.drop j) x = FR) ∧ x.nums.length ≤ j) (fun i _ => need.length - (intOf i).toNat)
      case atStart => exact ⟨0, _, _, rfl, by omega, HP0.out, Lib.hid HR0.out, by simp⟩
      case round =>
        clear HP0
        obtain ⟨j, x, nv, rfl, hj, hpl, HF, hnl⟩ := hrel
        obtain ⟨na, nc, rfl⟩ := own_form hpl.own
        have HP := Lib.hid hpl
        clear hpl
        by_cases hlt : j < need.length
        · have hmem := HLT.out _ (List.getElem_mem hlt)
          have hl1 : 1 + j < ws.length := by have := HNL.out; omega
          have hcell : wr.cell? ⟨g, 1 + j, none⟩ = some (.string ⟨(ws[1 + j]).toArray⟩) := HP.out.words (1 + j) hl1
          have hxl := HPL.out _ (List.getElem_mem hl1)
          have hdn : need.drop j = need[j] :: need.drop (j + 1) := List.drop_eq_getElem_cons hlt
          have hdr : ws.tail.drop j = ws[1 + j] :: ws.tail.drop (j + 1) := by
            rw [List.drop_eq_getElem_cons (by rw [List.length_tail]; omega)]
            congr 1
            rw [List.getElem_tail]
            congr 1; omega
          have hR := HF.out
          rw [hdn, hdr] at hR
          simp only [fieldsL] at hR
          have HR2 := Lib.hid hR
          have hl1' : (1 : Int) + (j : Int) < (ws.length : Int) := by omega
          have hto : ((1 : Int) + (j : Int)).toNat = 1 + j := by omega
          have hge : (0 : Int) ≤ 1 + (j : Int) := by omega
          have hgb : (⟨need.toArray⟩ : ByteArray)[j]'(by rw [size_arr]; exact hlt) = need[j] := rfl
          have hlt' : j < (⟨need.toArray⟩ : ByteArray).size := by rw [size_arr]; exact hlt
          have HS : Hid ((⟨(ws[1 + j]).toArray⟩ : ByteArray).data.toList = ws[1 + j]) := Lib.hid rfl
          have HSZ : Hid ((⟨(ws[1 + j]).toArray⟩ : ByteArray).size = (ws[1 + j]).length) := Lib.hid (size_arr _)
          clear hR hdn hdr HF
          generalize (⟨(ws[1 + j]).toArray⟩ : ByteArray) = Y at *
          generalize ws[1 + j] = y at *
          rcases hmem with hc | hc | hc | hc
          · rw [hc] at HR2 hgb
            have HKD := Lib.hid (rkind_any Y wr)
            rw [HS.out] at HKD
            have htk : takeL 87 y x = if askOf y = 0 then none else some { x with ask := y } := rfl
            rw [htk] at HR2
            clear htk
            go_wp2_with fail
            refine HKD.out.mono ?_
            rintro e w4 ⟨rfl, hb4⟩
            have HP4 := Lib.hid (HP.out.below hb4)
            clear hb4 HKD hcell
            by_cases hk : askOf y = 0
            · rw [if_pos hk] at HR2
              simp only at HR2
              rw [hk]
              clear hk
              have HRN2 : Hid (RN = none) := Lib.hid (by rw [HR.out, ← HR2.out])
              obtain ⟨r0, r1, r2, r3⟩ := HP4.out.res.cells4
              obtain ⟨g0, g1, g2, g3⟩ := HP4.out.res.frozs4
              have HBF := Lib.hid HP4.out.bel
              clear HR2 HR HP HP4
              go_wp2_with fail
              refine bodyPost_ret (v := .tuple #[stpV ⟨[], [], [], []⟩ (.slice none 0 0), .bool false]) (by unfold stpV; simp [results, Tryd.results13, go_sem, r0, r1, r2, r3]) rfl (step_no HRN2.out ?_ rfl)
              exact bel_set4 HBF.out _ _ _ _
            · rw [if_neg hk] at HR2
              simp only at HR2
              have hk1 : (askOf y == 0) = false := beq_eq_false_iff_ne.2 hk
              have c2 := HP4.out.box.cell 2
              have f2 := HP4.out.box.froz 2
              simp only [List.getElem?_cons_succ, List.getElem?_cons_zero] at c2 f2
              have HP5 := Lib.hid (HP4.out.ask Y)
              rw [HS.out] at HP5
              clear hk HP4 HP
              go_wp2_with fail
              go_roundw
              case rel => exact ⟨j + 1, _, _, by go_num, by omega, HP5.out, HR2, by simp; omega⟩
              case measure => simp [intOf]; omega
          · rw [hc] at HR2 hgb
            have HBY := Lib.hid (rbytes_any Y wr (by rw [HSZ.out]; omega))
            rw [HS.out] at HBY
            unfold RbytesEnd at HBY
            have htk : takeL 72 y x = (unhexOf y).map fun d => { x with data := d } := rfl
            rw [htk] at HR2
            clear htk
            go_wp2_with fail
            refine HBY.out.mono ?_
            rintro e w4 ⟨hb4, rfl⟩
            have HP4 := Lib.hid (HP.out.below hb4)
            clear hb4 HBY hcell
            cases hu : unhexOf y with
            | none =>
              rw [hu] at HR2
              simp only [Option.map_none] at HR2
              simp only [Option.getD_none, Option.isSome_none]
              clear hu
              have HRN2 : Hid (RN = none) := Lib.hid (by rw [HR.out, ← HR2.out])
              obtain ⟨r0, r1, r2, r3⟩ := HP4.out.res.cells4
              obtain ⟨g0, g1, g2, g3⟩ := HP4.out.res.frozs4
              have HBF := Lib.hid HP4.out.bel
              clear HR2 HR HP HP4
              go_wp2_with fail
              refine bodyPost_ret (v := .tuple #[stpV ⟨[], [], [], []⟩ (.slice none 0 0), .bool false]) (by unfold stpV; simp [results, Tryd.results13, go_sem, r0, r1, r2, r3]) rfl (step_no HRN2.out ?_ rfl)
              exact bel_set4 HBF.out _ _ _ _
            | some d =>
              rw [hu] at HR2
              simp only [Option.map_some] at HR2
              simp only [Option.getD_some, Option.isSome_some]
              have c3 := HP4.out.box.cell 3
              have f3 := HP4.out.box.froz 3
              simp only [List.getElem?_cons_succ, List.getElem?_cons_zero] at c3 f3
              have HP5 := Lib.hid (HP4.out.data ⟨d.toArray⟩)
              clear hu HP4 HP
              go_wp2_with fail
              go_roundw
              case rel => exact ⟨j + 1, _, _, by go_num, by omega, HP5.out, HR2, by simp; omega⟩
              case measure => simp [intOf]; omega
          · rw [hc] at HR2 hgb
            have HNU := Lib.hid (rnum_any Y wr (by rw [HSZ.out]; omega))
            rw [HS.out] at HNU
            go_wp2_with fail
            refine HNU.out.mono ?_
            rintro e w4 ⟨rfl, hb4⟩
            have HP4 := Lib.hid (HP.out.below hb4)
            have hx4 := HP4.out.box.cell 1
            have hf4 := HP4.out.box.froz 1
            have hown4 := HP4.out.own
            have hle4 := HP4.out.le
            simp only [List.getElem?_cons_succ, List.getElem?_cons_zero] at hx4 hf4
            clear hb4 HNU hcell
            have hnum : takeL 69 y x = match numL y with
                | some n => if (69 : UInt8) = 69 ∧ 1 < n then none else some { x with nums := x.nums ++ [(n : Int)] }
                | none => none := by unfold takeL; rw [if_neg (by decide), if_neg (by decide)]; cases numL y <;> simp
            rw [hnum] at HR2
            clear hnum
            cases hn : numL y with
            | none =>
              have hni : numI y = -1 := by unfold numI; rw [hn]
              rw [hn] at HR2
              simp only at HR2
              rw [hni]
              clear hn hni hown4 hle4
              have HRN2 : Hid (RN = none) := Lib.hid (by rw [HR.out, ← HR2.out])
              obtain ⟨r0, r1, r2, r3⟩ := HP4.out.res.cells4
              obtain ⟨g0, g1, g2, g3⟩ := HP4.out.res.frozs4
              have HBF := Lib.hid HP4.out.bel
              clear HR2 HR HP HP4 hx4 hf4
              go_wp2_with fail
              refine bodyPost_ret (v := .tuple #[stpV ⟨[], [], [], []⟩ (.slice none 0 0), .bool false]) (by unfold stpV; simp [results, Tryd.results13, go_sem, r0, r1, r2, r3]) rfl (step_no HRN2.out ?_ rfl)
              exact bel_set4 HBF.out _ _ _ _
            | some n =>
              have hni : numI y = (n : Int) := by unfold numI; rw [hn]
              have hnb : n ≤ 1099511627776 := (numL_itoa hn).2
              rw [hn] at HR2
              simp only at HR2
              rw [hni]
              have hn0 : ¬ ((n : Int) < 0) := by omega
              clear hn hni
              by_cases h1 : 1 < n
              · rw [if_pos ⟨by trivial, h1⟩] at HR2
                have hn1 : (1 : Int) < (n : Int) := by omega
                clear hown4 hle4
                have HRN2 : Hid (RN = none) := Lib.hid (by rw [HR.out, ← HR2.out])
                obtain ⟨r0, r1, r2, r3⟩ := HP4.out.res.cells4
                obtain ⟨g0, g1, g2, g3⟩ := HP4.out.res.frozs4
                have HBF := Lib.hid HP4.out.bel
                clear HR2 HR HP HP4 hx4 hf4
                go_wp2_with fail
                refine bodyPost_ret (v := .tuple #[stpV ⟨[], [], [], []⟩ (.slice none 0 0), .bool false]) (by unfold stpV; simp [results, Tryd.results13, go_sem, r0, r1, r2, r3]) rfl (step_no HRN2.out ?_ rfl)
                exact bel_set4 HBF.out _ _ _ _
              · rw [if_neg (fun k => h1 k.2)] at HR2
                have hn1 : ¬ (1 : Int) < (n : Int) := by omega
                have HX2 := Lib.hid HR2.out
                obtain ⟨i0, hi, hz0, hz1, hz2⟩ := info_parts info_int
                go_wp2_with (at_builtin; refine wpList_append_own _ rfl _ _ 30 rfl B 3 i0 (.int .i64 0) 1 8 Tryd.underlying30 hi hz0 hz1 hz2 rfl (by decide) _ _ _ rfl (hown4.alloc _) ⟨w4.heap.size, 0, none⟩ 1 1 [.int .i64 (n : Int)] rfl rfl (cell_one_new _ _ _) (by simp [Value.oneCell']) (by unfold maxLen; omega) (by omega) (by simp; omega) ?_)
                intro v5 w5 hown5 hgrow hnil
                obtain ⟨g', cap', rfl⟩ := ownsRow_succ hown5
                have HP6 := Lib.hid (HP4.out.more hgrow hown5)
                have k1 := ((HP4.out.box.alloc).grown hgrow (fun e => by have := (hown4.lt b e.symm).1; have := HP4.out.lt; omega)).cell 1
                have k2 := ((HP4.out.box.alloc).grown hgrow (fun e => by have := (hown4.lt b e.symm).1; have := HP4.out.lt; omega)).froz 1
                simp only [List.getElem?_cons_succ, List.getElem?_cons_zero] at k1 k2
                clear hown4 hown5 hgrow hnil hx4 hf4 HP4 HP hle4
                go_wp2_with fail
                go_roundw
                case rel => exact ⟨j + 1, _, _, by go_num, by omega, HP6.out, Lib.hid HX2.out, by simp; omega⟩
                case measure => simp [intOf]; omega
          · rw [hc] at HR2 hgb
            have HNU := Lib.hid (rnum_any Y wr (by rw [HSZ.out]; omega))
            rw [HS.out] at HNU
            go_wp2_with fail
            refine HNU.out.mono ?_
            rintro e w4 ⟨rfl, hb4⟩
            have HP4 := Lib.hid (HP.out.below hb4)
            have hx4 := HP4.out.box.cell 1
            have hf4 := HP4.out.box.froz 1
            have hown4 := HP4.out.own
            have hle4 := HP4.out.le
            simp only [List.getElem?_cons_succ, List.getElem?_cons_zero] at hx4 hf4
            clear hb4 HNU hcell
            have hnum : takeL 78 y x = match numL y with
                | some n => if (78 : UInt8) = 69 ∧ 1 < n then none else some { x with nums := x.nums ++ [(n : Int)] }
                | none => none := by unfold takeL; rw [if_neg (by decide), if_neg (by decide)]; cases numL y <;> simp
            rw [hnum] at HR2
            clear hnum
            cases hn : numL y with
            | none =>
              have hni : numI y = -1 := by unfold numI; rw [hn]
              rw [hn] at HR2
              simp only at HR2
              rw [hni]
              clear hn hni hown4 hle4
              have HRN2 : Hid (RN = none) := Lib.hid (by rw [HR.out, ← HR2.out])
              obtain ⟨r0, r1, r2, r3⟩ := HP4.out.res.cells4
              obtain ⟨g0, g1, g2, g3⟩ := HP4.out.res.frozs4
              have HBF := Lib.hid HP4.out.bel
              clear HR2 HR HP HP4 hx4 hf4
              go_wp2_with fail
              refine bodyPost_ret (v := .tuple #[stpV ⟨[], [], [], []⟩ (.slice none 0 0), .bool false]) (by unfold stpV; simp [results, Tryd.results13, go_sem, r0, r1, r2, r3]) rfl (step_no HRN2.out ?_ rfl)
              exact bel_set4 HBF.out _ _ _ _
            | some n =>
              have hni : numI y = (n : Int) := by unfold numI; rw [hn]
              have hnb : n ≤ 1099511627776 := (numL_itoa hn).2
              rw [hn] at HR2
              simp only at HR2
              rw [hni]
              have hn0 : ¬ ((n : Int) < 0) := by omega
              clear hn hni
              rw [if_neg (fun k => by cases k.1)] at HR2
              have HX2 := Lib.hid HR2.out
              obtain ⟨i0, hi, hz0, hz1, hz2⟩ := info_parts info_int
              go_wp2_with (at_builtin; refine wpList_append_own _ rfl _ _ 30 rfl B 3 i0 (.int .i64 0) 1 8 Tryd.underlying30 hi hz0 hz1 hz2 rfl (by decide) _ _ _ rfl (hown4.alloc _) ⟨w4.heap.size, 0, none⟩ 1 1 [.int .i64 (n : Int)] rfl rfl (cell_one_new _ _ _) (by simp [Value.oneCell']) (by unfold maxLen; omega) (by omega) (by simp; omega) ?_)
              intro v5 w5 hown5 hgrow hnil
              obtain ⟨g', cap', rfl⟩ := ownsRow_succ hown5
              have HP6 := Lib.hid (HP4.out.more hgrow hown5)
              have k1 := ((HP4.out.box.alloc).grown hgrow (fun e => by have := (hown4.lt b e.symm).1; have := HP4.out.lt; omega)).cell 1
              have k2 := ((HP4.out.box.alloc).grown hgrow (fun e => by have := (hown4.lt b e.symm).1; have := HP4.out.lt; omega)).froz 1
              simp only [List.getElem?_cons_succ, List.getElem?_cons_zero] at k1 k2
              clear hown4 hown5 hgrow hnil hx4 hf4 HP4 HP hle4
              go_wp2_with fail
              go_roundw
              case rel => exact ⟨j + 1, _, _, by go_num, by omega, HP6.out, Lib.hid HX2.out, by simp; omega⟩
              case measure => simp [intOf]; omega
        · have hR := HF.out
          rw [List.drop_of_length_le (by omega)] at hR
          have HRN2 : Hid (RN = some x) := Lib.hid (by rw [HR.out, ← hR]; simp [fieldsL])
          obtain ⟨p0, p1, p2, p3⟩ := HP.out.box.cells4
          obtain ⟨r0, r1, r2, r3⟩ := HP.out.res.cells4
          obtain ⟨g0, g1, g2, g3⟩ := HP.out.res.frozs4
          have hrb : w.heap.size < B := by have := HP.out.rg; have := HP.out.gb; have := HP.out.lt; omega
          clear hR HR HF
          go_wp2_with fail
          refine bodyPost_ret (v := .tuple #[stpV x (.slice na x.nums.length nc), .bool true]) (by unfold stpV; simp [results, Tryd.results13, go_sem, r0, r1, r2, r3]) rfl (step_ok HRN2.out (bel_set4 HP.out.bel _ _ _ _) ?_ rfl)
          exact own_set4 HP.out.own hrb _ _ _ _
    · have e1 : ((ws.length : Int) != 1 + (need.length : Int)) = true := by simp; omega
      have HR : Hid (RN = none) := Lib.hid (by rw [HRES.out]; unfold stepW; rw [hne]; exact if_neg hl)
      clear hne HRES hl
      go_wp2_with fail
      refine bodyPost_ret (v := .tuple #[stpV ⟨[], [], [], []⟩ (.slice none 0 0), .bool false]) (by unfold stpV; simp [results, Tryd.results13, go_sem, r0, r1, r2, r3]) rfl (step_no HR.out ?_ rfl)
      exact bel_set4 HB2.out _ _ _ _
end Go.Proofs.YtgilbdhoddmpbaaDoor
