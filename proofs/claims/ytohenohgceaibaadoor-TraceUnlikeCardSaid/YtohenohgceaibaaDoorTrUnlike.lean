/-
  The walk of the statement TraceUnlike.
-/
import Derived.Test.YtohenohgceaibaaDoorTrAwake
import Derived.Test.YtohenohgceaibaaDoorPduFewLaw
import Derived.Test.YtohenohgceaibaaDoorPduSame
import Derived.Test.YtohenohgceaibaaDoorRefCheck
import Derived.Deep.RegionWith
import Derived.Deep.RegionHeld3
import Derived.Test.YtohenohgceaibaaDoorOrdersMid
set_option linter.unusedVariables false
set_option linter.unusedSimpArgs false
namespace Go.Proofs.YtohenohgceaibaaDoor
open Go.RowKit
attribute [local go_sem ↓] Go.wp_at_zero Go.wp_at_succ

def UnlRel (w : World) (B : Nat) (kx sqx nx psx mrx : Int) (Lx : List Int) (selfx : Bool) (dx : ByteArray) (ky sqy ny psy mry : Int) (Ly : List Int) (selfy : Bool) (dy : ByteArray) (wx : World) : Prop :=
  ∃ ex fx ey fy, BoxAt wx B 37 [.int .i64 kx, .int .i64 sqx, .int .i64 (cl nx), .int .i64 (cl psx), .int .i64 (cl mrx), .slice ex Lx.length fx, .bool selfx, .string (cutB 210 dx)] ∧ BoxAt wx (B + 1) 37 [.int .i64 ky, .int .i64 sqy, .int .i64 (cl ny), .int .i64 (cl psy), .int .i64 (cl mry), .slice ey Ly.length fy, .bool selfy, .string (cutB 210 dy)] ∧ IntsR .i64 wx (.slice ex Lx.length fx) Lx ∧ IntsR .i64 wx (.slice ey Ly.length fy) Ly ∧ Below w.heap.size w wx

/-- Both units are made, each in a block of its own. -/
def UnlOwn (w W1 : World) (kx sqx nx psx mrx : Int) (Lx : List Int) (selfx : Bool) (dx : ByteArray) (ky sqy ny psy mry : Int) (Ly : List Int) (selfy : Bool) (dy : ByteArray) (v5 v6 : Value) (wx : World) : Prop :=
  ∃ b5 b6 lx ly, v5 = .pointer (some ⟨b5, 0, none⟩) ∧ v6 = .pointer (some ⟨b6, 0, none⟩) ∧ BoxAt wx b5 28 [.int .i64 kx, .int .i64 sqx, .int .u32 nx, .int .u32 psx, .int .u32 mrx, lx, .bool selfx, .string dx] ∧
    BoxAt wx b6 28 [.int .i64 ky, .int .i64 sqy, .int .u32 ny, .int .u32 psy, .int .u32 mry, ly, .bool selfy, .string dy] ∧ IntsR .u32 wx lx Lx ∧ IntsR .u32 wx ly Ly ∧ Below W1.heap.size W1 wx
theorem own_sl {w : World} {B : Nat} {e : TypeId} {s : Nat} {v : Value} {n : Nat} {xs : List Value} (h : w.ownsRow B e s v n xs) : ∃ a c, v = .slice a n c := by
  rcases h.2 with ⟨rfl, rfl⟩ | ⟨g, cap, cur, rfl, _⟩
  · exact ⟨_, _, rfl⟩
  · exact ⟨_, _, rfl⟩
theorem pdu_ne_num : 28 ≠ 25 := by decide
/-- All that region 6 turns and keeps. -/
structure UAt (w W1 : World) (kx sqx nx psx mrx : Int) (ex : Option Addr) (fx : Nat) (Lx : List Int) (selfx : Bool) (dx : ByteArray) (ky sqy ny psy mry : Int) (ey : Option Addr) (fy : Nat) (Ly : List Int) (selfy : Bool) (dy : ByteArray) (lvx lvy : Value) (b5 b6 : Nat) (c5 c6 : List Value) (Y : World) : Prop where
  bel : Below W1.heap.size W1 Y
  bx : BoxAt Y w.heap.size 37 [.int .i64 kx, .int .i64 sqx, .int .i64 nx, .int .i64 psx, .int .i64 mrx, .slice ex Lx.length fx, .bool selfx, .string dx]
  by_ : BoxAt Y (w.heap.size + 1) 37 [.int .i64 ky, .int .i64 sqy, .int .i64 ny, .int .i64 psy, .int .i64 mry, .slice ey Ly.length fy, .bool selfy, .string dy]
  ox : Y.ownsRow W1.heap.size 25 1 lvx Lx.length (Lx.map (Value.int .u32))
  oy : Y.ownsRow W1.heap.size 25 1 lvy Ly.length (Ly.map (Value.int .u32))
  h5 : BoxAt Y b5 28 c5
  h6 : BoxAt Y b6 28 c6
  l5 : W1.heap.size ≤ b5
  l6 : W1.heap.size ≤ b6
  ne : b5 ≠ b6
  lx : w.heap.size < W1.heap.size
  ly : w.heap.size + 1 < W1.heap.size
section
variable {w W1 Y : World} {kx sqx nx psx mrx : Int} {ex : Option Addr} {fx : Nat} {Lx : List Int} {selfx : Bool} {dx : ByteArray} {ky sqy ny psy mry : Int} {ey : Option Addr} {fy : Nat} {Ly : List Int} {selfy : Bool} {dy : ByteArray} {lvx lvy : Value} {b5 b6 : Nat} {c5 c6 : List Value}
theorem UAt.set5 {cs : Array Value} (h : UAt w W1 kx sqx nx psx mrx ex fx Lx selfx dx ky sqy ny psy mry ey fy Ly selfy dy lvx lvy b5 b6 c5 c6 Y) (hl : c5.length = cs.toList.length) :
    UAt w W1 kx sqx nx psx mrx ex fx Lx selfx dx ky sqy ny psy mry ey fy Ly selfy dy lvx lvy b5 b6 cs.toList c6 (Y.setCells b5 0 cs.toList) :=
  ⟨bel_setCells _ _ h.l5 _ _ _ _ h.bel, BoxAt.setApart (by have := h.lx; have := h.l5; omega) _ _ _ h.bx, BoxAt.setApart (by have := h.ly; have := h.l5; omega) _ _ _ h.by_, own_setCells (own_apart h.ox h.h5 pdu_ne_num) _ _ _ h.ox, own_setCells (own_apart h.oy h.h5 pdu_ne_num) _ _ _ h.oy,
    h.h5.setWhole hl, BoxAt.setApart (Ne.symm h.ne) _ _ _ h.h6, h.l5, h.l6, h.ne, h.lx, h.ly⟩
theorem UAt.set6 {cs : Array Value} (h : UAt w W1 kx sqx nx psx mrx ex fx Lx selfx dx ky sqy ny psy mry ey fy Ly selfy dy lvx lvy b5 b6 c5 c6 Y) (hl : c6.length = cs.toList.length) :
    UAt w W1 kx sqx nx psx mrx ex fx Lx selfx dx ky sqy ny psy mry ey fy Ly selfy dy lvx lvy b5 b6 c5 cs.toList (Y.setCells b6 0 cs.toList) :=
  ⟨bel_setCells _ _ h.l6 _ _ _ _ h.bel, BoxAt.setApart (by have := h.lx; have := h.l6; omega) _ _ _ h.bx, BoxAt.setApart (by have := h.ly; have := h.l6; omega) _ _ _ h.by_, own_setCells (own_apart h.ox h.h6 pdu_ne_num) _ _ _ h.ox, own_setCells (own_apart h.oy h.h6 pdu_ne_num) _ _ _ h.oy,
    BoxAt.setApart h.ne _ _ _ h.h5, h.h6.setWhole hl, h.l5, h.l6, h.ne, h.lx, h.ly⟩
end
set_option maxRecDepth 100000 in
set_option maxHeartbeats 40000000 in
theorem traceUnlike_any (kx sqx nx psx mrx : Int) (lvx : Value) (lx : List Int) (selfx : Bool) (dx : ByteArray) (ky sqy ny psy mry : Int) (lvy : Value) (ly : List Int) (selfy : Bool) (dy : ByteArray) (w : World) (hlx : IntsR .i64 w lvx lx) (hdx : dx.size ≤ maxLen) (hly : IntsR .i64 w lvy ly) (hdy : dy.size ≤ maxLen) (he : Env w) :
    Calls Tryd.prog 4 #[refV kx sqx nx psx mrx lvx selfx dx, refV ky sqy ny psy mry lvy selfy dy] w fun e w' => e = .returned (.bool true) ∧ Below w.heap.size w w' := by
  have HLX := Lib.hid hlx
  have HLY := Lib.hid hly
  obtain ⟨ax, cx, rfl, _, _, _⟩ := hlx.len
  obtain ⟨ay, cy, rfl, _, _, _⟩ := hly.len
  clear hlx hly
  have hfx := few_out kx sqx nx psx mrx (.slice ax lx.length cx) lx selfx dx hdx
  have hfy := few_out ky sqy ny psy mry (.slice ay ly.length cy) ly selfy dy hdy
  have HLLx := Lib.hid (cl_all lx)
  have HLLy := Lib.hid (cl_all ly)
  have hlxl : ((lx.take 140).map cl).length ≤ 140 := by simp; omega
  have hlyl : ((ly.take 140).map cl).length ≤ 140 := by simp; omega
  generalize (lx.take 140).map cl = Lx at *
  generalize (ly.take 140).map cl = Ly at *
  have HFX := Lib.hid hfx
  have HFY := Lib.hid hfy
  clear hfx hfy
  have HAW := Lib.hid awake19
  have HEV := Lib.hid he
  clear he
  unfold refV
  go_enter Tryd.func4, Tryd.ntmps4
  have HBX0 := Lib.hid ((BoxAt.new w 37 [.int .i64 kx, .int .i64 sqx, .int .i64 nx, .int .i64 psx, .int .i64 mrx, .slice ax lx.length cx, .bool selfx, .string dx]).alloc (o := .cells #[.int .i64 ky, .int .i64 sqy, .int .i64 ny, .int .i64 psy, .int .i64 mry, .slice ay ly.length cy, .bool selfy, .string dy] 37))
  have HBY0 := Lib.hid (BoxAt.newAt (w := w.alloc (.cells #[.int .i64 kx, .int .i64 sqx, .int .i64 nx, .int .i64 psx, .int .i64 mrx, .slice ax lx.length cx, .bool selfx, .string dx] 37)) (b := w.heap.size + 1) (by simp) 37 [.int .i64 ky, .int .i64 sqy, .int .i64 ny, .int .i64 psy, .int .i64 mry, .slice ay ly.length cy, .bool selfy, .string dy])
  go_wp2_with fail
  refine (HAW.out _ HEV.out.alloc.alloc).mono ?_
  rintro e W ⟨rfl, hb⟩
  have HBX := Lib.hid (HBX0.out.below hb (by simp; omega))
  have HBY := Lib.hid (HBY0.out.below hb (by simp))
  have HB := Lib.hid (((Below.refl w.heap.size w).alloc (Nat.le_refl _) _).alloc (by simp) _ |>.trans (hb.mono (by simp; omega)))
  have HLx := Lib.hid (HLX.out.alloc.alloc.below hb (Nat.le_refl _))
  have HLy := Lib.hid (HLY.out.alloc.alloc.below hb (Nat.le_refl _))
  have hpx := HBX.out.lt
  have hpy := HBY.out.lt
  have hB0 := HB.out.size
  clear hb HAW HBX0 HBY0 HLX HLY
  obtain ⟨x0, x1, x2, x3, x4, x5, x6, x7⟩ := HBX.out.cells8
  obtain ⟨y0, y1, y2, y3, y4, y5, y6, y7⟩ := HBY.out.cells8
  have HBA := Lib.hid (Below.refl W.heap.size W).drew
  go_upto_region 3 with fail
  go_cut [] (fun wx => UnlRel w w.heap.size kx sqx nx psx mrx Lx selfx dx ky sqy ny psy mry Ly selfy dy wx)
  case first =>
    go_region_with (first | (go_at_call 11; (with_reducible refine (HFX.out _ (HLx.out.below HBA.out (Nat.le_refl _))).mono ?_); rintro e w' ⟨ex, fx, rfl, hown, hb⟩; have HOx := Lib.hid (ownsRow_mono hown HBA.out.size); have HBA : Hid (Below W.heap.size W w') := Lib.hid (belSeq2 HBA.out hb); have HXX := Lib.hid (HBX.out.below HBA.out hpx); have HYY := Lib.hid (HBY.out.below HBA.out hpy); obtain ⟨x0, x1, x2, x3, x4, x5, x6, x7⟩ := HXX.out.cells8; obtain ⟨y0, y1, y2, y3, y4, y5, y6, y7⟩ := HYY.out.cells8; obtain ⟨fx0, fx1, fx2, fx3, fx4, fx5, fx6, fx7⟩ := HXX.out.frozs8; obtain ⟨fy0, fy1, fy2, fy3, fy4, fy5, fy6, fy7⟩ := HYY.out.frozs8; clear hb hown) | (go_at_call 11; (with_reducible refine (HFY.out _ (HLy.out.below HBA.out (Nat.le_refl _))).mono ?_); rintro e w' ⟨ey, fy, rfl, hown, hb⟩; have HOx := Lib.hid (own_below HOx.out hb); have HOy := Lib.hid (ownsRow_mono hown HBA.out.size); have HBA : Hid (Below W.heap.size W w') := Lib.hid (belSeq2 HBA.out hb); have HXX := Lib.hid (HBX.out.below HBA.out hpx); have HYY := Lib.hid (HBY.out.below HBA.out hpy); obtain ⟨x0, x1, x2, x3, x4, x5, x6, x7⟩ := HXX.out.cells8; obtain ⟨y0, y1, y2, y3, y4, y5, y6, y7⟩ := HYY.out.cells8; obtain ⟨fx0, fx1, fx2, fx3, fx4, fx5, fx6, fx7⟩ := HXX.out.frozs8; obtain ⟨fy0, fy1, fy2, fy3, fy4, fy5, fy6, fy7⟩ := HYY.out.frozs8; clear hb hown))
    all_goals
      go_wp2_with fail
      go_meet
      refine ⟨ex, fx, ey, fy, ((((((((((((((((HXX.out.set 0 _).set 1 _).set 2 _).set 3 _).set 4 _).set 5 _).set 6 _).set 7 _).other (a := ⟨w.heap.size + 1, 0, none⟩) (by simp) _).other (a := ⟨w.heap.size + 1, 1, none⟩) (by simp) _).other (a := ⟨w.heap.size + 1, 2, none⟩) (by simp) _).other (a := ⟨w.heap.size + 1, 3, none⟩) (by simp) _).other (a := ⟨w.heap.size + 1, 4, none⟩) (by simp) _).other (a := ⟨w.heap.size + 1, 5, none⟩) (by simp) _).other (a := ⟨w.heap.size + 1, 6, none⟩) (by simp) _).other (a := ⟨w.heap.size + 1, 7, none⟩) (by simp) _), ((((((((((((((((HYY.out.other (a := ⟨w.heap.size, 0, none⟩) (by simp) _).other (a := ⟨w.heap.size, 1, none⟩) (by simp) _).other (a := ⟨w.heap.size, 2, none⟩) (by simp) _).other (a := ⟨w.heap.size, 3, none⟩) (by simp) _).other (a := ⟨w.heap.size, 4, none⟩) (by simp) _).other (a := ⟨w.heap.size, 5, none⟩) (by simp) _).other (a := ⟨w.heap.size, 6, none⟩) (by simp) _).other (a := ⟨w.heap.size, 7, none⟩) (by simp) _).set 0 _).set 1 _).set 2 _).set 3 _).set 4 _).set 5 _).set 6 _).set 7 _), ?_, ?_, ?_⟩
      · refine IntsR.of_owns (base := W.heap.size) (E := 3) ?_ (by omega)
        repeat refine ownsRow_setCell_below ?_ (by first | (simp; omega)) _
        exact HOx.out
      · refine IntsR.of_owns (base := W.heap.size) (E := 3) ?_ (by omega)
        repeat refine ownsRow_setCell_below ?_ (by first | (simp; omega)) _
        exact HOy.out
      · exact (((((((((((((((((HB.out.trans (HBA.out.mono (by omega))).setCell (by simp) _).setCell (by simp) _).setCell (by simp) _).setCell (by simp) _).setCell (by simp) _).setCell (by simp) _).setCell (by simp) _).setCell (by simp) _).setCell (by simp) _).setCell (by simp) _).setCell (by simp) _).setCell (by simp) _).setCell (by simp) _).setCell (by simp) _).setCell (by simp) _).setCell (by simp) _)
  case rest =>
    obtain ⟨ex, fx, ey, fy, hbx, hby, hix, hiy, hbc⟩ := hcut
    have hdsx := cutB_size 210 dx
    have hdsy := cutB_size 210 dy
    have hNx := cl_in nx
    have hPx := cl_in psx
    have hMx := cl_in mrx
    have hNy := cl_in ny
    have hPy := cl_in psy
    have hMy := cl_in mry
    have HBX1 := Lib.hid hbx
    have HBY1 := Lib.hid hby
    have HIx := Lib.hid hix
    have HIy := Lib.hid hiy
    have HB1 := Lib.hid hbc
    clear hbx hby hix hiy hbc HFX HFY HBA HBX HBY HB HLx HLy x0 x1 x2 x3 x4 x5 x6 x7 y0 y1 y2 y3 y4 y5 y6 y7 hdx hdy hpx hpy hB0
    generalize cutB 210 dx = Dx at *
    generalize cutB 210 dy = Dy at *
    generalize cl nx = Nx at *
    generalize cl psx = Px at *
    generalize cl mrx = Mx at *
    generalize cl ny = Ny at *
    generalize cl psy = Py at *
    generalize cl mry = My at *
    have hpx := HBX1.out.lt
    have hpy := HBY1.out.lt
    obtain ⟨x0, x1, x2, x3, x4, x5, x6, x7⟩ := HBX1.out.cells8
    go_wp2_with fail
    refine (rcheck_any kx sqx Nx Px Mx (.slice ex Lx.length fx) Lx selfx Dx _ hNx.1 hPx.1 hMx.1 HIx.out (fun x hx => (HLLx.out x hx).1) (by omega) (by omega)).mono ?_
    rintro e w4 ⟨rfl, hb4⟩
    have HBX2 := Lib.hid (HBX1.out.below hb4 hpx)
    have HBY2 := Lib.hid (HBY1.out.below hb4 hpy)
    have HB2 := Lib.hid (belSeq HB1.out hb4)
    have HIx2 := Lib.hid (HIx.out.below hb4 (Nat.le_refl _))
    have HIy2 := Lib.hid (HIy.out.below hb4 (Nat.le_refl _))
    have hpx2 := HBX2.out.lt
    have hpy2 := HBY2.out.lt
    clear hb4 HBX1 HBY1 HB1 HIx HIy x0 x1 x2 x3 x4 x5 x6 x7
    by_cases hcx : checkOf kx sqx Nx Px Mx Lx selfx Dx.size = 0
    case neg =>
      have hck2 : (checkOf kx sqx Nx Px Mx Lx selfx Dx.size != 0) = true := by simpa using hcx
      clear hcx
      generalize checkOf kx sqx Nx Px Mx Lx selfx Dx.size = C at *
      go_wp2_with fail
      go_ret
      exact ⟨rfl, HB2.out⟩
    have HCX := Lib.hid hcx
    rw [hcx]
    clear hcx
    obtain ⟨y0, y1, y2, y3, y4, y5, y6, y7⟩ := HBY2.out.cells8
    go_wp2_with fail
    refine (rcheck_any ky sqy Ny Py My (.slice ey Ly.length fy) Ly selfy Dy _ hNy.1 hPy.1 hMy.1 HIy2.out (fun x hx => (HLLy.out x hx).1) (by omega) (by omega)).mono ?_
    rintro e W1 ⟨rfl, hb4⟩
    have HBX3 := Lib.hid (HBX2.out.below hb4 hpx2)
    have HBY3 := Lib.hid (HBY2.out.below hb4 hpy2)
    have HB3 := Lib.hid (belSeq HB2.out hb4)
    have HIx := Lib.hid (HIx2.out.below hb4 (Nat.le_refl _))
    have HIy := Lib.hid (HIy2.out.below hb4 (Nat.le_refl _))
    have hpx := HBX3.out.lt
    have hpy := HBY3.out.lt
    clear hb4 HBX2 HBY2 HB2 HIx2 HIy2 y0 y1 y2 y3 y4 y5 y6 y7 hpx2 hpy2
    by_cases hcy : checkOf ky sqy Ny Py My Ly selfy Dy.size = 0
    case neg =>
      have hck2 : (checkOf ky sqy Ny Py My Ly selfy Dy.size != 0) = true := by simpa using hcy
      clear hcy
      generalize checkOf ky sqy Ny Py My Ly selfy Dy.size = C at *
      go_wp2_with fail
      go_ret
      exact ⟨rfl, HB3.out⟩
    have HCY := Lib.hid hcy
    rw [hcy]
    clear hcy
    have HOWx : Hid (∀ w : World, IntsR .i64 w (.slice ex Lx.length fx) Lx → Calls Tryd.prog 13 #[.agg #[.int .i64 kx, .int .i64 sqx, .int .i64 Nx, .int .i64 Px, .int .i64 Mx, .slice ex Lx.length fx, .bool selfx, .string Dx]] w (fun e w' => ∃ lv', e = .returned (.agg #[.int .i64 kx, .int .i64 sqx, .int .u32 Nx, .int .u32 Px, .int .u32 Mx, lv', .bool selfx, .string Dx]) ∧ w'.ownsRow w.heap.size 25 1 lv' Lx.length (Lx.map (Value.int .u32)) ∧ Below w.heap.size w w')) := Lib.hid (fun w h => own_few2 kx sqx Nx Px Mx (.slice ex Lx.length fx) Lx selfx Dx w hNx hPx hMx h (by omega) HLLx.out)
    have HOWy : Hid (∀ w : World, IntsR .i64 w (.slice ey Ly.length fy) Ly → Calls Tryd.prog 13 #[.agg #[.int .i64 ky, .int .i64 sqy, .int .i64 Ny, .int .i64 Py, .int .i64 My, .slice ey Ly.length fy, .bool selfy, .string Dy]] w (fun e w' => ∃ lv', e = .returned (.agg #[.int .i64 ky, .int .i64 sqy, .int .u32 Ny, .int .u32 Py, .int .u32 My, lv', .bool selfy, .string Dy]) ∧ w'.ownsRow w.heap.size 25 1 lv' Ly.length (Ly.map (Value.int .u32)) ∧ Below w.heap.size w w')) := Lib.hid (fun w h => own_few2 ky sqy Ny Py My (.slice ey Ly.length fy) Ly selfy Dy w hNy hPy hMy h (by omega) HLLy.out)
    have hcx2 : ckOf ⟨kx, sqx, Nx, Px, Mx, Lx, selfx, Dx.data.toList⟩ = 0 := by unfold ckOf; rw [size_len]; exact HCX.out
    have hcy2 : ckOf ⟨ky, sqy, Ny, Py, My, Ly, selfy, Dy.data.toList⟩ = 0 := by unfold ckOf; rw [size_len]; exact HCY.out
    have hfx := fit_of ⟨kx, sqx, Nx, Px, Mx, Lx, selfx, Dx.data.toList⟩ hNx.1 hPx.1 hMx.1 (fun x hx => (HLLx.out x hx).1) hcx2
    have hfy := fit_of ⟨ky, sqy, Ny, Py, My, Ly, selfy, Dy.data.toList⟩ hNy.1 hPy.1 hMy.1 (fun x hx => (HLLy.out x hx).1) hcy2
    have HBYx : Hid (∀ (w : World) lv, Env w → IntsR .u32 w lv Lx → Calls Tryd.prog 9 #[.agg #[.int .i64 kx, .int .i64 sqx, .int .u32 Nx, .int .u32 Px, .int .u32 Mx, lv, .bool selfx, .string Dx]] w fun e w' => e = .returned (.string ⟨(unitText ⟨kx, sqx, Nx, Px, Mx, Lx, selfx, Dx.data.toList⟩).toArray⟩) ∧ Below w.heap.size w w') := Lib.hid (fun w lv he h => unit_ok kx sqx Nx Px Mx lv Lx selfx Dx w hNx.1 hPx.1 hMx.1 h (fun x hx => (HLLx.out x hx).1) HCX.out he)
    have HBYy : Hid (∀ (w : World) lv, Env w → IntsR .u32 w lv Ly → Calls Tryd.prog 9 #[.agg #[.int .i64 ky, .int .i64 sqy, .int .u32 Ny, .int .u32 Py, .int .u32 My, lv, .bool selfy, .string Dy]] w fun e w' => e = .returned (.string ⟨(unitText ⟨ky, sqy, Ny, Py, My, Ly, selfy, Dy.data.toList⟩).toArray⟩) ∧ Below w.heap.size w w') := Lib.hid (fun w lv he h => unit_ok ky sqy Ny Py My lv Ly selfy Dy w hNy.1 hPy.1 hMy.1 h (fun x hx => (HLLy.out x hx).1) HCY.out he)
    have HSM : Hid (∀ (w : World) lv, IntsR .u32 w lv Lx → IntsR .i64 w (.slice ey Ly.length fy) Ly → Calls Tryd.prog 14 #[.agg #[.int .i64 kx, .int .i64 sqx, .int .u32 Nx, .int .u32 Px, .int .u32 Mx, lv, .bool selfx, .string Dx], .agg #[.int .i64 ky, .int .i64 sqy, .int .i64 Ny, .int .i64 Py, .int .i64 My, .slice ey Ly.length fy, .bool selfy, .string Dy]] w fun e w' => e = .returned (.bool (sameB kx sqx Nx Px Mx Lx selfx Dx ky sqy Ny Py My Ly selfy Dy)) ∧ Below w.heap.size w w') := Lib.hid (fun w lv h h' => same_any kx sqx Nx Px Mx lv Lx selfx Dx ky sqy Ny Py My (.slice ey Ly.length fy) Ly selfy Dy w hNx hPx hMx h h' (by omega) HLLx.out)
    have HEQ : Hid (sameB kx sqx Nx Px Mx Lx selfx Dx ky sqy Ny Py My Ly selfy Dy = decide (unitText ⟨kx, sqx, Nx, Px, Mx, Lx, selfx, Dx.data.toList⟩ = unitText ⟨ky, sqy, Ny, Py, My, Ly, selfy, Dy.data.toList⟩)) := Lib.hid (by
      unfold sameB
      rw [decide_eq_decide]
      constructor
      · rintro ⟨rfl, rfl, rfl, rfl, rfl, rfl, rfl, rfl⟩; rfl
      · intro h
        have h2 := unit_inj hfx hfy hcx2 hcy2 h
        simp only [Pd.mk.injEq] at h2
        obtain ⟨h1, h2, h3, h4, h5, h6, h7, h8⟩ := h2
        exact ⟨h1, h2, h3, h4, h5, h7, str_eq h8, h6⟩)
    clear hcx2 hcy2 hfx hfy
    generalize sameB kx sqx Nx Px Mx Lx selfx Dx ky sqy Ny Py My Ly selfy Dy = SB at *
    generalize unitText ⟨kx, sqx, Nx, Px, Mx, Lx, selfx, Dx.data.toList⟩ = Bx at *
    generalize unitText ⟨ky, sqy, Ny, Py, My, Ly, selfy, Dy.data.toList⟩ = By at *
    have HEV1 := Lib.hid (HEV.out.below HB3.out)
    have hpx1 : w.heap.size < W1.heap.size := hpx
    have hpy1 : w.heap.size + 1 < W1.heap.size := hpy
    go_upto_region 6 with fail
    go_cut [5, 6] (fun v5 v6 wx => UnlOwn w W1 kx sqx Nx Px Mx Lx selfx Dx ky sqy Ny Py My Ly selfy Dy v5 v6 wx)
    case first =>
      refine wp_region_noPanic ?_
      refine wp_region_L (S := SL (fun w' => BoxAt w' w.heap.size 37 [.int .i64 kx, .int .i64 sqx, .int .i64 Nx, .int .i64 Px, .int .i64 Mx, .slice ex Lx.length fx, .bool selfx, .string Dx] ∧ BoxAt w' (w.heap.size + 1) 37 [.int .i64 ky, .int .i64 sqy, .int .i64 Ny, .int .i64 Py, .int .i64 My, .slice ey Ly.length fy, .bool selfy, .string Dy]) 7 (fun _ => True) 7 (fun _ => True)) (by kernel_rfl) ?_
      obtain ⟨Y0, hY0⟩ : ∃ x, W1.drew = x := ⟨_, rfl⟩
      rw [hY0]
      have HBA : Hid (Below W1.heap.size W1 Y0) := Lib.hid (hY0 ▸ (Below.refl W1.heap.size W1).drew)
      clear hY0
      refine LAt.take (i := 0) (oi := ⟨some 21, _, _, _, _, _⟩) (v := ?_) rfl (by kernel_rfl) (by kernel_rfl) (by kernel_rfl) (fun _ _ _ h => h) (by decide) (by decide) (Or.inl ⟨by kernel_rfl, ?_⟩) ⟨⟨HBX3.out.below HBA.out hpx, HBY3.out.below HBA.out hpy⟩, fun _ => trivial, fun _ => trivial⟩ ?_
      rotate_left 1
      · intro w hSw; obtain ⟨hs1, hs2⟩ := hSw; obtain ⟨k0, k1, k2, k3, k4, k5, k6, k7⟩ := BoxAt.cells8 hs1; go_simp; try (with_reducible rfl)
      try simp only [Act.put, List.setIfInBounds_toArray, List.set_cons_zero, List.set_cons_succ]
      refine LAt.take (i := 2) (oi := ⟨some 23, _, _, _, _, _⟩) (v := ?_) rfl (by kernel_rfl) (by kernel_rfl) (by kernel_rfl) (fun _ _ _ h => h) (by decide) (by decide) (Or.inl ⟨by kernel_rfl, ?_⟩) ⟨⟨HBX3.out.below HBA.out hpx, HBY3.out.below HBA.out hpy⟩, fun _ => trivial, fun _ => trivial⟩ ?_
      rotate_left 1
      · intro w hSw; obtain ⟨hs1, hs2⟩ := hSw; obtain ⟨k0, k1, k2, k3, k4, k5, k6, k7⟩ := BoxAt.cells8 hs2; go_simp; try (with_reducible rfl)
      try simp only [Act.put, List.setIfInBounds_toArray, List.set_cons_zero, List.set_cons_succ]
      refine LAt.ready (rs := [1, 4, 5]) (by kernel_rfl) (by simp) ?_
      refine AllL.cons (o := ⟨some 22, _, _, _, _, _⟩) rfl (fun K hK => ?_) (AllL.cons (o := ⟨some 5, _, _, _, _, _⟩) rfl (fun K hK => ?_) (AllL.cons (o := ⟨some 6, _, _, _, _, _⟩) rfl (fun K hK => ?_) AllL.nil))
      ·
        go_simp
        (with_reducible refine (HOWx.out _ (HIx.out.below HBA.out (Nat.le_refl _))).mono ?_)
        rintro e Y1 ⟨lvx, rfl, hown, hb⟩
        have HSY1 := Lib.hid hb
        obtain ⟨ax, cx', rfl⟩ := own_sl hown
        have HOX0 := Lib.hid (ownsRow_mono hown HBA.out.size)
        clear hb hown
        try go_wp2_with fail
        have HOX := HOX0
        have HBA : Hid (Below W1.heap.size W1 Y1) := Lib.hid (belSeq2 HBA.out HSY1.out)
        refine hK.out _ _ ⟨⟨HBX3.out.below HBA.out hpx, HBY3.out.below HBA.out hpy⟩, fun _ => trivial, fun _ => trivial⟩ ?_
        clear hK K
        try simp only [Act.put, List.setIfInBounds_toArray, List.set_cons_zero, List.set_cons_succ]
        refine LAt.ready (rs := [3, 4, 5]) (by kernel_rfl) (by simp) ?_
        refine AllL.cons (o := ⟨some 24, _, _, _, _, _⟩) rfl (fun K hK => ?_) (AllL.cons (o := ⟨some 5, _, _, _, _, _⟩) rfl (fun K hK => ?_) (AllL.cons (o := ⟨some 6, _, _, _, _, _⟩) rfl (fun K hK => ?_) AllL.nil))
        ·
          go_simp
          (with_reducible refine (HOWy.out _ (HIy.out.below HBA.out (Nat.le_refl _))).mono ?_)
          rintro e Y2 ⟨lvy, rfl, hown, hb⟩
          have HSY2 := Lib.hid hb
          obtain ⟨ay, cy', rfl⟩ := own_sl hown
          have HOY0 := Lib.hid (ownsRow_mono hown HBA.out.size)
          clear hb hown
          try go_wp2_with fail
          have HOX := Lib.hid (own_below HOX.out HSY2.out)
          have HOY := HOY0
          have HBA : Hid (Below W1.heap.size W1 Y2) := Lib.hid (belSeq2 HBA.out HSY2.out)
          refine hK.out _ _ ⟨⟨HBX3.out.below HBA.out hpx, HBY3.out.below HBA.out hpy⟩, fun _ => trivial, fun _ => trivial⟩ ?_
          clear hK K
          try simp only [Act.put, List.setIfInBounds_toArray, List.set_cons_zero, List.set_cons_succ]
          refine LAt.ready (rs := [4, 5]) (by kernel_rfl) (by simp) ?_
          refine AllL.cons (o := ⟨some 5, _, _, _, _, _⟩) rfl (fun K hK => ?_) (AllL.cons (o := ⟨some 6, _, _, _, _, _⟩) rfl (fun K hK => ?_) AllL.nil)
          ·
            go_simp
            obtain ⟨Y3, hY3⟩ : ∃ x, Y2.alloc (.cells #[.int .i64 0, .int .i64 0, .int .u32 0, .int .u32 0, .int .u32 0, .slice none 0 0, .bool false, .string ⟨#[]⟩] 28) = x := ⟨_, rfl⟩
            rw [hY3]
            have HSY3 : Hid (Below Y2.heap.size Y2 Y3) := Lib.hid (hY3 ▸ (Below.refl _ _).alloc (Nat.le_refl _) _)
            have H50 : Hid (BoxAt Y3 Y2.heap.size 28 [.int .i64 0, .int .i64 0, .int .u32 0, .int .u32 0, .int .u32 0, .slice none 0 0, .bool false, .string ⟨#[]⟩]) := Lib.hid (hY3 ▸ BoxAt.new Y2 _ _)
            have hq5 : W1.heap.size ≤ Y2.heap.size := HBA.out.size
            clear hY3
            have HOX := Lib.hid (own_below HOX.out HSY3.out)
            have HOY := Lib.hid (own_below HOY.out HSY3.out)
            have H5 := H50
            have HBA : Hid (Below W1.heap.size W1 Y3) := Lib.hid (belSeq2 HBA.out HSY3.out)
            refine hK.out _ _ ⟨⟨HBX3.out.below HBA.out hpx, HBY3.out.below HBA.out hpy⟩, fun _ => trivial, fun _ => trivial⟩ ?_
            clear hK K
            try simp only [Act.put, List.setIfInBounds_toArray, List.set_cons_zero, List.set_cons_succ]
            refine LAt.ready (rs := [5]) (by kernel_rfl) (by simp) ?_
            refine AllL.cons (o := ⟨some 6, _, _, _, _, _⟩) rfl (fun K hK => ?_) AllL.nil
            go_simp
            obtain ⟨Y4, hY4⟩ : ∃ x, Y3.alloc (.cells #[.int .i64 0, .int .i64 0, .int .u32 0, .int .u32 0, .int .u32 0, .slice none 0 0, .bool false, .string ⟨#[]⟩] 28) = x := ⟨_, rfl⟩
            rw [hY4]
            have HSY4 : Hid (Below Y3.heap.size Y3 Y4) := Lib.hid (hY4 ▸ (Below.refl _ _).alloc (Nat.le_refl _) _)
            have H60 : Hid (BoxAt Y4 Y3.heap.size 28 [.int .i64 0, .int .i64 0, .int .u32 0, .int .u32 0, .int .u32 0, .slice none 0 0, .bool false, .string ⟨#[]⟩]) := Lib.hid (hY4 ▸ BoxAt.new Y3 _ _)
            have hq6 : W1.heap.size ≤ Y3.heap.size := HBA.out.size
            have hne : Y2.heap.size ≠ Y3.heap.size := by have := H5.out.lt; omega
            clear hY4
            have HOX := Lib.hid (own_below HOX.out HSY4.out)
            have HOY := Lib.hid (own_below HOY.out HSY4.out)
            have H5 := Lib.hid (H5.out.below HSY4.out H5.out.lt)
            have H6 := H60
            have HBA : Hid (Below W1.heap.size W1 Y4) := Lib.hid (belSeq2 HBA.out HSY4.out)
            refine hK.out _ _ ⟨⟨HBX3.out.below HBA.out hpx, HBY3.out.below HBA.out hpy⟩, fun _ => trivial, fun _ => trivial⟩ ?_
            clear hK K
            try simp only [Act.put, List.setIfInBounds_toArray, List.set_cons_zero, List.set_cons_succ]
            have HU : Hid (UAt w W1 kx sqx Nx Px Mx ex fx Lx selfx Dx ky sqy Ny Py My ey fy Ly selfy Dy (.slice ax Lx.length cx') (.slice ay Ly.length cy') Y2.heap.size Y3.heap.size [.int .i64 0, .int .i64 0, .int .u32 0, .int .u32 0, .int .u32 0, .slice none 0 0, .bool false, .string ⟨#[]⟩] [.int .i64 0, .int .i64 0, .int .u32 0, .int .u32 0, .int .u32 0, .slice none 0 0, .bool false, .string ⟨#[]⟩] Y4) := Lib.hid ⟨HBA.out, HBX3.out.below HBA.out hpx, HBY3.out.below HBA.out hpy, HOX.out, HOY.out, H5.out, H6.out, by omega, by omega, hne, hpx1, hpy1⟩
            clear HOX HOY H5 H6 HBA
            refine LAt.ready (rs := [6]) (by kernel_rfl) (by simp) ?_
            refine AllL.cons (o := ⟨none, _, _, _, _, _⟩) rfl (fun K hK => ?_) AllL.nil
            refine step_store_mid rfl 28 (.tmp 5) (.tmp 22) rfl Y2.heap.size 0 #[.int .i64 kx, .int .i64 sqx, .int .u32 Nx, .int .u32 Px, .int .u32 Mx, .slice ax Lx.length cx', .bool selfx, .string Dx] (by rfl) (by rfl) (HU.out.h5.there (by simp)) (by kernel_rfl) (by simp [Value.oneCell']) ?_
            have HU := Lib.hid (HU.out.set5 (cs := #[.int .i64 kx, .int .i64 sqx, .int .u32 Nx, .int .u32 Px, .int .u32 Mx, .slice ax Lx.length cx', .bool selfx, .string Dx]) rfl)
            obtain ⟨Z1, hZ1⟩ : ∃ x, Y4.setCells Y2.heap.size 0 (#[.int .i64 kx, .int .i64 sqx, .int .u32 Nx, .int .u32 Px, .int .u32 Mx, .slice ax Lx.length cx', .bool selfx, .string Dx] : Array Value).toList = x := ⟨_, rfl⟩
            rw [hZ1] at HU ⊢
            clear hZ1
            refine hK.out _ _ ⟨⟨HU.out.bx, HU.out.by_⟩, fun _ => trivial, fun _ => trivial⟩ ?_
            clear hK K
            try simp only [Act.put, List.setIfInBounds_toArray, List.set_cons_zero, List.set_cons_succ]
            refine LAt.ready (rs := [7]) (by kernel_rfl) (by simp) ?_
            refine AllL.cons (o := ⟨none, _, _, _, _, _⟩) rfl (fun K hK => ?_) AllL.nil
            refine step_store_mid rfl 28 (.tmp 6) (.tmp 24) rfl Y3.heap.size 0 #[.int .i64 ky, .int .i64 sqy, .int .u32 Ny, .int .u32 Py, .int .u32 My, .slice ay Ly.length cy', .bool selfy, .string Dy] (by rfl) (by rfl) (HU.out.h6.there (by simp)) (by kernel_rfl) (by simp [Value.oneCell']) ?_
            have HU := Lib.hid (HU.out.set6 (cs := #[.int .i64 ky, .int .i64 sqy, .int .u32 Ny, .int .u32 Py, .int .u32 My, .slice ay Ly.length cy', .bool selfy, .string Dy]) rfl)
            obtain ⟨Z2, hZ2⟩ : ∃ x, Z1.setCells Y3.heap.size 0 (#[.int .i64 ky, .int .i64 sqy, .int .u32 Ny, .int .u32 Py, .int .u32 My, .slice ay Ly.length cy', .bool selfy, .string Dy] : Array Value).toList = x := ⟨_, rfl⟩
            rw [hZ2] at HU ⊢
            clear hZ2
            refine hK.out _ _ ⟨⟨HU.out.bx, HU.out.by_⟩, fun _ => trivial, fun _ => trivial⟩ ?_
            clear hK K
            try simp only [Act.put, List.setIfInBounds_toArray, List.set_cons_zero, List.set_cons_succ]
            refine LAt.done (by kernel_rfl) ?_
            refine NoPanic.normal ?_
            go_wp2_with fail
            go_meet
            exact ⟨Y2.heap.size, Y3.heap.size, _, _, rfl, rfl, HU.out.h5, HU.out.h6, IntsR.of_owns HU.out.ox (by omega), IntsR.of_owns HU.out.oy (by omega), HU.out.bel⟩
          ·
            go_simp
            obtain ⟨Y5, hY5⟩ : ∃ x, Y2.alloc (.cells #[.int .i64 0, .int .i64 0, .int .u32 0, .int .u32 0, .int .u32 0, .slice none 0 0, .bool false, .string ⟨#[]⟩] 28) = x := ⟨_, rfl⟩
            rw [hY5]
            have HSY5 : Hid (Below Y2.heap.size Y2 Y5) := Lib.hid (hY5 ▸ (Below.refl _ _).alloc (Nat.le_refl _) _)
            have H60 : Hid (BoxAt Y5 Y2.heap.size 28 [.int .i64 0, .int .i64 0, .int .u32 0, .int .u32 0, .int .u32 0, .slice none 0 0, .bool false, .string ⟨#[]⟩]) := Lib.hid (hY5 ▸ BoxAt.new Y2 _ _)
            have hq6 : W1.heap.size ≤ Y2.heap.size := HBA.out.size
            clear hY5
            have HOX := Lib.hid (own_below HOX.out HSY5.out)
            have HOY := Lib.hid (own_below HOY.out HSY5.out)
            have H6 := H60
            have HBA : Hid (Below W1.heap.size W1 Y5) := Lib.hid (belSeq2 HBA.out HSY5.out)
            refine hK.out _ _ ⟨⟨HBX3.out.below HBA.out hpx, HBY3.out.below HBA.out hpy⟩, fun _ => trivial, fun _ => trivial⟩ ?_
            clear hK K
            try simp only [Act.put, List.setIfInBounds_toArray, List.set_cons_zero, List.set_cons_succ]
            refine LAt.ready (rs := [4]) (by kernel_rfl) (by simp) ?_
            refine AllL.cons (o := ⟨some 5, _, _, _, _, _⟩) rfl (fun K hK => ?_) AllL.nil
            go_simp
            obtain ⟨Y6, hY6⟩ : ∃ x, Y5.alloc (.cells #[.int .i64 0, .int .i64 0, .int .u32 0, .int .u32 0, .int .u32 0, .slice none 0 0, .bool false, .string ⟨#[]⟩] 28) = x := ⟨_, rfl⟩
            rw [hY6]
            have HSY6 : Hid (Below Y5.heap.size Y5 Y6) := Lib.hid (hY6 ▸ (Below.refl _ _).alloc (Nat.le_refl _) _)
            have H50 : Hid (BoxAt Y6 Y5.heap.size 28 [.int .i64 0, .int .i64 0, .int .u32 0, .int .u32 0, .int .u32 0, .slice none 0 0, .bool false, .string ⟨#[]⟩]) := Lib.hid (hY6 ▸ BoxAt.new Y5 _ _)
            have hq5 : W1.heap.size ≤ Y5.heap.size := HBA.out.size
            have hne : Y5.heap.size ≠ Y2.heap.size := by have := H6.out.lt; omega
            clear hY6
            have HOX := Lib.hid (own_below HOX.out HSY6.out)
            have HOY := Lib.hid (own_below HOY.out HSY6.out)
            have H6 := Lib.hid (H6.out.below HSY6.out H6.out.lt)
            have H5 := H50
            have HBA : Hid (Below W1.heap.size W1 Y6) := Lib.hid (belSeq2 HBA.out HSY6.out)
            refine hK.out _ _ ⟨⟨HBX3.out.below HBA.out hpx, HBY3.out.below HBA.out hpy⟩, fun _ => trivial, fun _ => trivial⟩ ?_
            clear hK K
            try simp only [Act.put, List.setIfInBounds_toArray, List.set_cons_zero, List.set_cons_succ]
            have HU : Hid (UAt w W1 kx sqx Nx Px Mx ex fx Lx selfx Dx ky sqy Ny Py My ey fy Ly selfy Dy (.slice ax Lx.length cx') (.slice ay Ly.length cy') Y5.heap.size Y2.heap.size [.int .i64 0, .int .i64 0, .int .u32 0, .int .u32 0, .int .u32 0, .slice none 0 0, .bool false, .string ⟨#[]⟩] [.int .i64 0, .int .i64 0, .int .u32 0, .int .u32 0, .int .u32 0, .slice none 0 0, .bool false, .string ⟨#[]⟩] Y6) := Lib.hid ⟨HBA.out, HBX3.out.below HBA.out hpx, HBY3.out.below HBA.out hpy, HOX.out, HOY.out, H5.out, H6.out, by omega, by omega, hne, hpx1, hpy1⟩
            clear HOX HOY H5 H6 HBA
            refine LAt.ready (rs := [6]) (by kernel_rfl) (by simp) ?_
            refine AllL.cons (o := ⟨none, _, _, _, _, _⟩) rfl (fun K hK => ?_) AllL.nil
            refine step_store_mid rfl 28 (.tmp 5) (.tmp 22) rfl Y5.heap.size 0 #[.int .i64 kx, .int .i64 sqx, .int .u32 Nx, .int .u32 Px, .int .u32 Mx, .slice ax Lx.length cx', .bool selfx, .string Dx] (by rfl) (by rfl) (HU.out.h5.there (by simp)) (by kernel_rfl) (by simp [Value.oneCell']) ?_
            have HU := Lib.hid (HU.out.set5 (cs := #[.int .i64 kx, .int .i64 sqx, .int .u32 Nx, .int .u32 Px, .int .u32 Mx, .slice ax Lx.length cx', .bool selfx, .string Dx]) rfl)
            obtain ⟨Z1, hZ1⟩ : ∃ x, Y6.setCells Y5.heap.size 0 (#[.int .i64 kx, .int .i64 sqx, .int .u32 Nx, .int .u32 Px, .int .u32 Mx, .slice ax Lx.length cx', .bool selfx, .string Dx] : Array Value).toList = x := ⟨_, rfl⟩
            rw [hZ1] at HU ⊢
            clear hZ1
            refine hK.out _ _ ⟨⟨HU.out.bx, HU.out.by_⟩, fun _ => trivial, fun _ => trivial⟩ ?_
            clear hK K
            try simp only [Act.put, List.setIfInBounds_toArray, List.set_cons_zero, List.set_cons_succ]
            refine LAt.ready (rs := [7]) (by kernel_rfl) (by simp) ?_
            refine AllL.cons (o := ⟨none, _, _, _, _, _⟩) rfl (fun K hK => ?_) AllL.nil
            refine step_store_mid rfl 28 (.tmp 6) (.tmp 24) rfl Y2.heap.size 0 #[.int .i64 ky, .int .i64 sqy, .int .u32 Ny, .int .u32 Py, .int .u32 My, .slice ay Ly.length cy', .bool selfy, .string Dy] (by rfl) (by rfl) (HU.out.h6.there (by simp)) (by kernel_rfl) (by simp [Value.oneCell']) ?_
            have HU := Lib.hid (HU.out.set6 (cs := #[.int .i64 ky, .int .i64 sqy, .int .u32 Ny, .int .u32 Py, .int .u32 My, .slice ay Ly.length cy', .bool selfy, .string Dy]) rfl)
            obtain ⟨Z2, hZ2⟩ : ∃ x, Z1.setCells Y2.heap.size 0 (#[.int .i64 ky, .int .i64 sqy, .int .u32 Ny, .int .u32 Py, .int .u32 My, .slice ay Ly.length cy', .bool selfy, .string Dy] : Array Value).toList = x := ⟨_, rfl⟩
            rw [hZ2] at HU ⊢
            clear hZ2
            refine hK.out _ _ ⟨⟨HU.out.bx, HU.out.by_⟩, fun _ => trivial, fun _ => trivial⟩ ?_
            clear hK K
            try simp only [Act.put, List.setIfInBounds_toArray, List.set_cons_zero, List.set_cons_succ]
            refine LAt.done (by kernel_rfl) ?_
            refine NoPanic.normal ?_
            go_wp2_with fail
            go_meet
            exact ⟨Y5.heap.size, Y2.heap.size, _, _, rfl, rfl, HU.out.h5, HU.out.h6, IntsR.of_owns HU.out.ox (by omega), IntsR.of_owns HU.out.oy (by omega), HU.out.bel⟩
        ·
          go_simp
          obtain ⟨Y7, hY7⟩ : ∃ x, Y1.alloc (.cells #[.int .i64 0, .int .i64 0, .int .u32 0, .int .u32 0, .int .u32 0, .slice none 0 0, .bool false, .string ⟨#[]⟩] 28) = x := ⟨_, rfl⟩
          rw [hY7]
          have HSY7 : Hid (Below Y1.heap.size Y1 Y7) := Lib.hid (hY7 ▸ (Below.refl _ _).alloc (Nat.le_refl _) _)
          have H50 : Hid (BoxAt Y7 Y1.heap.size 28 [.int .i64 0, .int .i64 0, .int .u32 0, .int .u32 0, .int .u32 0, .slice none 0 0, .bool false, .string ⟨#[]⟩]) := Lib.hid (hY7 ▸ BoxAt.new Y1 _ _)
          have hq5 : W1.heap.size ≤ Y1.heap.size := HBA.out.size
          clear hY7
          have HOX := Lib.hid (own_below HOX.out HSY7.out)
          have H5 := H50
          have HBA : Hid (Below W1.heap.size W1 Y7) := Lib.hid (belSeq2 HBA.out HSY7.out)
          refine hK.out _ _ ⟨⟨HBX3.out.below HBA.out hpx, HBY3.out.below HBA.out hpy⟩, fun _ => trivial, fun _ => trivial⟩ ?_
          clear hK K
          try simp only [Act.put, List.setIfInBounds_toArray, List.set_cons_zero, List.set_cons_succ]
          refine LAt.ready (rs := [3, 5]) (by kernel_rfl) (by simp) ?_
          refine AllL.cons (o := ⟨some 24, _, _, _, _, _⟩) rfl (fun K hK => ?_) (AllL.cons (o := ⟨some 6, _, _, _, _, _⟩) rfl (fun K hK => ?_) AllL.nil)
          ·
            go_simp
            (with_reducible refine (HOWy.out _ (HIy.out.below HBA.out (Nat.le_refl _))).mono ?_)
            rintro e Y8 ⟨lvy, rfl, hown, hb⟩
            have HSY8 := Lib.hid hb
            obtain ⟨ay, cy', rfl⟩ := own_sl hown
            have HOY0 := Lib.hid (ownsRow_mono hown HBA.out.size)
            clear hb hown
            try go_wp2_with fail
            have HOX := Lib.hid (own_below HOX.out HSY8.out)
            have H5 := Lib.hid (H5.out.below HSY8.out H5.out.lt)
            have HOY := HOY0
            have HBA : Hid (Below W1.heap.size W1 Y8) := Lib.hid (belSeq2 HBA.out HSY8.out)
            refine hK.out _ _ ⟨⟨HBX3.out.below HBA.out hpx, HBY3.out.below HBA.out hpy⟩, fun _ => trivial, fun _ => trivial⟩ ?_
            clear hK K
            try simp only [Act.put, List.setIfInBounds_toArray, List.set_cons_zero, List.set_cons_succ]
            refine LAt.ready (rs := [5]) (by kernel_rfl) (by simp) ?_
            refine AllL.cons (o := ⟨some 6, _, _, _, _, _⟩) rfl (fun K hK => ?_) AllL.nil
            go_simp
            obtain ⟨Y9, hY9⟩ : ∃ x, Y8.alloc (.cells #[.int .i64 0, .int .i64 0, .int .u32 0, .int .u32 0, .int .u32 0, .slice none 0 0, .bool false, .string ⟨#[]⟩] 28) = x := ⟨_, rfl⟩
            rw [hY9]
            have HSY9 : Hid (Below Y8.heap.size Y8 Y9) := Lib.hid (hY9 ▸ (Below.refl _ _).alloc (Nat.le_refl _) _)
            have H60 : Hid (BoxAt Y9 Y8.heap.size 28 [.int .i64 0, .int .i64 0, .int .u32 0, .int .u32 0, .int .u32 0, .slice none 0 0, .bool false, .string ⟨#[]⟩]) := Lib.hid (hY9 ▸ BoxAt.new Y8 _ _)
            have hq6 : W1.heap.size ≤ Y8.heap.size := HBA.out.size
            have hne : Y1.heap.size ≠ Y8.heap.size := by have := H5.out.lt; omega
            clear hY9
            have HOX := Lib.hid (own_below HOX.out HSY9.out)
            have HOY := Lib.hid (own_below HOY.out HSY9.out)
            have H5 := Lib.hid (H5.out.below HSY9.out H5.out.lt)
            have H6 := H60
            have HBA : Hid (Below W1.heap.size W1 Y9) := Lib.hid (belSeq2 HBA.out HSY9.out)
            refine hK.out _ _ ⟨⟨HBX3.out.below HBA.out hpx, HBY3.out.below HBA.out hpy⟩, fun _ => trivial, fun _ => trivial⟩ ?_
            clear hK K
            try simp only [Act.put, List.setIfInBounds_toArray, List.set_cons_zero, List.set_cons_succ]
            have HU : Hid (UAt w W1 kx sqx Nx Px Mx ex fx Lx selfx Dx ky sqy Ny Py My ey fy Ly selfy Dy (.slice ax Lx.length cx') (.slice ay Ly.length cy') Y1.heap.size Y8.heap.size [.int .i64 0, .int .i64 0, .int .u32 0, .int .u32 0, .int .u32 0, .slice none 0 0, .bool false, .string ⟨#[]⟩] [.int .i64 0, .int .i64 0, .int .u32 0, .int .u32 0, .int .u32 0, .slice none 0 0, .bool false, .string ⟨#[]⟩] Y9) := Lib.hid ⟨HBA.out, HBX3.out.below HBA.out hpx, HBY3.out.below HBA.out hpy, HOX.out, HOY.out, H5.out, H6.out, by omega, by omega, hne, hpx1, hpy1⟩
            clear HOX HOY H5 H6 HBA
            refine LAt.ready (rs := [6]) (by kernel_rfl) (by simp) ?_
            refine AllL.cons (o := ⟨none, _, _, _, _, _⟩) rfl (fun K hK => ?_) AllL.nil
            refine step_store_mid rfl 28 (.tmp 5) (.tmp 22) rfl Y1.heap.size 0 #[.int .i64 kx, .int .i64 sqx, .int .u32 Nx, .int .u32 Px, .int .u32 Mx, .slice ax Lx.length cx', .bool selfx, .string Dx] (by rfl) (by rfl) (HU.out.h5.there (by simp)) (by kernel_rfl) (by simp [Value.oneCell']) ?_
            have HU := Lib.hid (HU.out.set5 (cs := #[.int .i64 kx, .int .i64 sqx, .int .u32 Nx, .int .u32 Px, .int .u32 Mx, .slice ax Lx.length cx', .bool selfx, .string Dx]) rfl)
            obtain ⟨Z1, hZ1⟩ : ∃ x, Y9.setCells Y1.heap.size 0 (#[.int .i64 kx, .int .i64 sqx, .int .u32 Nx, .int .u32 Px, .int .u32 Mx, .slice ax Lx.length cx', .bool selfx, .string Dx] : Array Value).toList = x := ⟨_, rfl⟩
            rw [hZ1] at HU ⊢
            clear hZ1
            refine hK.out _ _ ⟨⟨HU.out.bx, HU.out.by_⟩, fun _ => trivial, fun _ => trivial⟩ ?_
            clear hK K
            try simp only [Act.put, List.setIfInBounds_toArray, List.set_cons_zero, List.set_cons_succ]
            refine LAt.ready (rs := [7]) (by kernel_rfl) (by simp) ?_
            refine AllL.cons (o := ⟨none, _, _, _, _, _⟩) rfl (fun K hK => ?_) AllL.nil
            refine step_store_mid rfl 28 (.tmp 6) (.tmp 24) rfl Y8.heap.size 0 #[.int .i64 ky, .int .i64 sqy, .int .u32 Ny, .int .u32 Py, .int .u32 My, .slice ay Ly.length cy', .bool selfy, .string Dy] (by rfl) (by rfl) (HU.out.h6.there (by simp)) (by kernel_rfl) (by simp [Value.oneCell']) ?_
            have HU := Lib.hid (HU.out.set6 (cs := #[.int .i64 ky, .int .i64 sqy, .int .u32 Ny, .int .u32 Py, .int .u32 My, .slice ay Ly.length cy', .bool selfy, .string Dy]) rfl)
            obtain ⟨Z2, hZ2⟩ : ∃ x, Z1.setCells Y8.heap.size 0 (#[.int .i64 ky, .int .i64 sqy, .int .u32 Ny, .int .u32 Py, .int .u32 My, .slice ay Ly.length cy', .bool selfy, .string Dy] : Array Value).toList = x := ⟨_, rfl⟩
            rw [hZ2] at HU ⊢
            clear hZ2
            refine hK.out _ _ ⟨⟨HU.out.bx, HU.out.by_⟩, fun _ => trivial, fun _ => trivial⟩ ?_
            clear hK K
            try simp only [Act.put, List.setIfInBounds_toArray, List.set_cons_zero, List.set_cons_succ]
            refine LAt.done (by kernel_rfl) ?_
            refine NoPanic.normal ?_
            go_wp2_with fail
            go_meet
            exact ⟨Y1.heap.size, Y8.heap.size, _, _, rfl, rfl, HU.out.h5, HU.out.h6, IntsR.of_owns HU.out.ox (by omega), IntsR.of_owns HU.out.oy (by omega), HU.out.bel⟩
          ·
            go_simp
            obtain ⟨Y10, hY10⟩ : ∃ x, Y7.alloc (.cells #[.int .i64 0, .int .i64 0, .int .u32 0, .int .u32 0, .int .u32 0, .slice none 0 0, .bool false, .string ⟨#[]⟩] 28) = x := ⟨_, rfl⟩
            rw [hY10]
            have HSY10 : Hid (Below Y7.heap.size Y7 Y10) := Lib.hid (hY10 ▸ (Below.refl _ _).alloc (Nat.le_refl _) _)
            have H60 : Hid (BoxAt Y10 Y7.heap.size 28 [.int .i64 0, .int .i64 0, .int .u32 0, .int .u32 0, .int .u32 0, .slice none 0 0, .bool false, .string ⟨#[]⟩]) := Lib.hid (hY10 ▸ BoxAt.new Y7 _ _)
            have hq6 : W1.heap.size ≤ Y7.heap.size := HBA.out.size
            have hne : Y1.heap.size ≠ Y7.heap.size := by have := H5.out.lt; omega
            clear hY10
            have HOX := Lib.hid (own_below HOX.out HSY10.out)
            have H5 := Lib.hid (H5.out.below HSY10.out H5.out.lt)
            have H6 := H60
            have HBA : Hid (Below W1.heap.size W1 Y10) := Lib.hid (belSeq2 HBA.out HSY10.out)
            refine hK.out _ _ ⟨⟨HBX3.out.below HBA.out hpx, HBY3.out.below HBA.out hpy⟩, fun _ => trivial, fun _ => trivial⟩ ?_
            clear hK K
            try simp only [Act.put, List.setIfInBounds_toArray, List.set_cons_zero, List.set_cons_succ]
            refine LAt.ready (rs := [3]) (by kernel_rfl) (by simp) ?_
            refine AllL.cons (o := ⟨some 24, _, _, _, _, _⟩) rfl (fun K hK => ?_) AllL.nil
            go_simp
            (with_reducible refine (HOWy.out _ (HIy.out.below HBA.out (Nat.le_refl _))).mono ?_)
            rintro e Y11 ⟨lvy, rfl, hown, hb⟩
            have HSY11 := Lib.hid hb
            obtain ⟨ay, cy', rfl⟩ := own_sl hown
            have HOY0 := Lib.hid (ownsRow_mono hown HBA.out.size)
            clear hb hown
            try go_wp2_with fail
            have HOX := Lib.hid (own_below HOX.out HSY11.out)
            have H5 := Lib.hid (H5.out.below HSY11.out H5.out.lt)
            have H6 := Lib.hid (H6.out.below HSY11.out H6.out.lt)
            have HOY := HOY0
            have HBA : Hid (Below W1.heap.size W1 Y11) := Lib.hid (belSeq2 HBA.out HSY11.out)
            refine hK.out _ _ ⟨⟨HBX3.out.below HBA.out hpx, HBY3.out.below HBA.out hpy⟩, fun _ => trivial, fun _ => trivial⟩ ?_
            clear hK K
            try simp only [Act.put, List.setIfInBounds_toArray, List.set_cons_zero, List.set_cons_succ]
            have HU : Hid (UAt w W1 kx sqx Nx Px Mx ex fx Lx selfx Dx ky sqy Ny Py My ey fy Ly selfy Dy (.slice ax Lx.length cx') (.slice ay Ly.length cy') Y1.heap.size Y7.heap.size [.int .i64 0, .int .i64 0, .int .u32 0, .int .u32 0, .int .u32 0, .slice none 0 0, .bool false, .string ⟨#[]⟩] [.int .i64 0, .int .i64 0, .int .u32 0, .int .u32 0, .int .u32 0, .slice none 0 0, .bool false, .string ⟨#[]⟩] Y11) := Lib.hid ⟨HBA.out, HBX3.out.below HBA.out hpx, HBY3.out.below HBA.out hpy, HOX.out, HOY.out, H5.out, H6.out, by omega, by omega, hne, hpx1, hpy1⟩
            clear HOX HOY H5 H6 HBA
            refine LAt.ready (rs := [6]) (by kernel_rfl) (by simp) ?_
            refine AllL.cons (o := ⟨none, _, _, _, _, _⟩) rfl (fun K hK => ?_) AllL.nil
            refine step_store_mid rfl 28 (.tmp 5) (.tmp 22) rfl Y1.heap.size 0 #[.int .i64 kx, .int .i64 sqx, .int .u32 Nx, .int .u32 Px, .int .u32 Mx, .slice ax Lx.length cx', .bool selfx, .string Dx] (by rfl) (by rfl) (HU.out.h5.there (by simp)) (by kernel_rfl) (by simp [Value.oneCell']) ?_
            have HU := Lib.hid (HU.out.set5 (cs := #[.int .i64 kx, .int .i64 sqx, .int .u32 Nx, .int .u32 Px, .int .u32 Mx, .slice ax Lx.length cx', .bool selfx, .string Dx]) rfl)
            obtain ⟨Z1, hZ1⟩ : ∃ x, Y11.setCells Y1.heap.size 0 (#[.int .i64 kx, .int .i64 sqx, .int .u32 Nx, .int .u32 Px, .int .u32 Mx, .slice ax Lx.length cx', .bool selfx, .string Dx] : Array Value).toList = x := ⟨_, rfl⟩
            rw [hZ1] at HU ⊢
            clear hZ1
            refine hK.out _ _ ⟨⟨HU.out.bx, HU.out.by_⟩, fun _ => trivial, fun _ => trivial⟩ ?_
            clear hK K
            try simp only [Act.put, List.setIfInBounds_toArray, List.set_cons_zero, List.set_cons_succ]
            refine LAt.ready (rs := [7]) (by kernel_rfl) (by simp) ?_
            refine AllL.cons (o := ⟨none, _, _, _, _, _⟩) rfl (fun K hK => ?_) AllL.nil
            refine step_store_mid rfl 28 (.tmp 6) (.tmp 24) rfl Y7.heap.size 0 #[.int .i64 ky, .int .i64 sqy, .int .u32 Ny, .int .u32 Py, .int .u32 My, .slice ay Ly.length cy', .bool selfy, .string Dy] (by rfl) (by rfl) (HU.out.h6.there (by simp)) (by kernel_rfl) (by simp [Value.oneCell']) ?_
            have HU := Lib.hid (HU.out.set6 (cs := #[.int .i64 ky, .int .i64 sqy, .int .u32 Ny, .int .u32 Py, .int .u32 My, .slice ay Ly.length cy', .bool selfy, .string Dy]) rfl)
            obtain ⟨Z2, hZ2⟩ : ∃ x, Z1.setCells Y7.heap.size 0 (#[.int .i64 ky, .int .i64 sqy, .int .u32 Ny, .int .u32 Py, .int .u32 My, .slice ay Ly.length cy', .bool selfy, .string Dy] : Array Value).toList = x := ⟨_, rfl⟩
            rw [hZ2] at HU ⊢
            clear hZ2
            refine hK.out _ _ ⟨⟨HU.out.bx, HU.out.by_⟩, fun _ => trivial, fun _ => trivial⟩ ?_
            clear hK K
            try simp only [Act.put, List.setIfInBounds_toArray, List.set_cons_zero, List.set_cons_succ]
            refine LAt.done (by kernel_rfl) ?_
            refine NoPanic.normal ?_
            go_wp2_with fail
            go_meet
            exact ⟨Y1.heap.size, Y7.heap.size, _, _, rfl, rfl, HU.out.h5, HU.out.h6, IntsR.of_owns HU.out.ox (by omega), IntsR.of_owns HU.out.oy (by omega), HU.out.bel⟩
        ·
          go_simp
          obtain ⟨Y12, hY12⟩ : ∃ x, Y1.alloc (.cells #[.int .i64 0, .int .i64 0, .int .u32 0, .int .u32 0, .int .u32 0, .slice none 0 0, .bool false, .string ⟨#[]⟩] 28) = x := ⟨_, rfl⟩
          rw [hY12]
          have HSY12 : Hid (Below Y1.heap.size Y1 Y12) := Lib.hid (hY12 ▸ (Below.refl _ _).alloc (Nat.le_refl _) _)
          have H60 : Hid (BoxAt Y12 Y1.heap.size 28 [.int .i64 0, .int .i64 0, .int .u32 0, .int .u32 0, .int .u32 0, .slice none 0 0, .bool false, .string ⟨#[]⟩]) := Lib.hid (hY12 ▸ BoxAt.new Y1 _ _)
          have hq6 : W1.heap.size ≤ Y1.heap.size := HBA.out.size
          clear hY12
          have HOX := Lib.hid (own_below HOX.out HSY12.out)
          have H6 := H60
          have HBA : Hid (Below W1.heap.size W1 Y12) := Lib.hid (belSeq2 HBA.out HSY12.out)
          refine hK.out _ _ ⟨⟨HBX3.out.below HBA.out hpx, HBY3.out.below HBA.out hpy⟩, fun _ => trivial, fun _ => trivial⟩ ?_
          clear hK K
          try simp only [Act.put, List.setIfInBounds_toArray, List.set_cons_zero, List.set_cons_succ]
          refine LAt.ready (rs := [3, 4]) (by kernel_rfl) (by simp) ?_
          refine AllL.cons (o := ⟨some 24, _, _, _, _, _⟩) rfl (fun K hK => ?_) (AllL.cons (o := ⟨some 5, _, _, _, _, _⟩) rfl (fun K hK => ?_) AllL.nil)
          ·
            go_simp
            (with_reducible refine (HOWy.out _ (HIy.out.below HBA.out (Nat.le_refl _))).mono ?_)
            rintro e Y13 ⟨lvy, rfl, hown, hb⟩
            have HSY13 := Lib.hid hb
            obtain ⟨ay, cy', rfl⟩ := own_sl hown
            have HOY0 := Lib.hid (ownsRow_mono hown HBA.out.size)
            clear hb hown
            try go_wp2_with fail
            have HOX := Lib.hid (own_below HOX.out HSY13.out)
            have H6 := Lib.hid (H6.out.below HSY13.out H6.out.lt)
            have HOY := HOY0
            have HBA : Hid (Below W1.heap.size W1 Y13) := Lib.hid (belSeq2 HBA.out HSY13.out)
            refine hK.out _ _ ⟨⟨HBX3.out.below HBA.out hpx, HBY3.out.below HBA.out hpy⟩, fun _ => trivial, fun _ => trivial⟩ ?_
            clear hK K
            try simp only [Act.put, List.setIfInBounds_toArray, List.set_cons_zero, List.set_cons_succ]
            refine LAt.ready (rs := [4]) (by kernel_rfl) (by simp) ?_
            refine AllL.cons (o := ⟨some 5, _, _, _, _, _⟩) rfl (fun K hK => ?_) AllL.nil
            go_simp
            obtain ⟨Y14, hY14⟩ : ∃ x, Y13.alloc (.cells #[.int .i64 0, .int .i64 0, .int .u32 0, .int .u32 0, .int .u32 0, .slice none 0 0, .bool false, .string ⟨#[]⟩] 28) = x := ⟨_, rfl⟩
            rw [hY14]
            have HSY14 : Hid (Below Y13.heap.size Y13 Y14) := Lib.hid (hY14 ▸ (Below.refl _ _).alloc (Nat.le_refl _) _)
            have H50 : Hid (BoxAt Y14 Y13.heap.size 28 [.int .i64 0, .int .i64 0, .int .u32 0, .int .u32 0, .int .u32 0, .slice none 0 0, .bool false, .string ⟨#[]⟩]) := Lib.hid (hY14 ▸ BoxAt.new Y13 _ _)
            have hq5 : W1.heap.size ≤ Y13.heap.size := HBA.out.size
            have hne : Y13.heap.size ≠ Y1.heap.size := by have := H6.out.lt; omega
            clear hY14
            have HOX := Lib.hid (own_below HOX.out HSY14.out)
            have HOY := Lib.hid (own_below HOY.out HSY14.out)
            have H6 := Lib.hid (H6.out.below HSY14.out H6.out.lt)
            have H5 := H50
            have HBA : Hid (Below W1.heap.size W1 Y14) := Lib.hid (belSeq2 HBA.out HSY14.out)
            refine hK.out _ _ ⟨⟨HBX3.out.below HBA.out hpx, HBY3.out.below HBA.out hpy⟩, fun _ => trivial, fun _ => trivial⟩ ?_
            clear hK K
            try simp only [Act.put, List.setIfInBounds_toArray, List.set_cons_zero, List.set_cons_succ]
            have HU : Hid (UAt w W1 kx sqx Nx Px Mx ex fx Lx selfx Dx ky sqy Ny Py My ey fy Ly selfy Dy (.slice ax Lx.length cx') (.slice ay Ly.length cy') Y13.heap.size Y1.heap.size [.int .i64 0, .int .i64 0, .int .u32 0, .int .u32 0, .int .u32 0, .slice none 0 0, .bool false, .string ⟨#[]⟩] [.int .i64 0, .int .i64 0, .int .u32 0, .int .u32 0, .int .u32 0, .slice none 0 0, .bool false, .string ⟨#[]⟩] Y14) := Lib.hid ⟨HBA.out, HBX3.out.below HBA.out hpx, HBY3.out.below HBA.out hpy, HOX.out, HOY.out, H5.out, H6.out, by omega, by omega, hne, hpx1, hpy1⟩
            clear HOX HOY H5 H6 HBA
            refine LAt.ready (rs := [6]) (by kernel_rfl) (by simp) ?_
            refine AllL.cons (o := ⟨none, _, _, _, _, _⟩) rfl (fun K hK => ?_) AllL.nil
            refine step_store_mid rfl 28 (.tmp 5) (.tmp 22) rfl Y13.heap.size 0 #[.int .i64 kx, .int .i64 sqx, .int .u32 Nx, .int .u32 Px, .int .u32 Mx, .slice ax Lx.length cx', .bool selfx, .string Dx] (by rfl) (by rfl) (HU.out.h5.there (by simp)) (by kernel_rfl) (by simp [Value.oneCell']) ?_
            have HU := Lib.hid (HU.out.set5 (cs := #[.int .i64 kx, .int .i64 sqx, .int .u32 Nx, .int .u32 Px, .int .u32 Mx, .slice ax Lx.length cx', .bool selfx, .string Dx]) rfl)
            obtain ⟨Z1, hZ1⟩ : ∃ x, Y14.setCells Y13.heap.size 0 (#[.int .i64 kx, .int .i64 sqx, .int .u32 Nx, .int .u32 Px, .int .u32 Mx, .slice ax Lx.length cx', .bool selfx, .string Dx] : Array Value).toList = x := ⟨_, rfl⟩
            rw [hZ1] at HU ⊢
            clear hZ1
            refine hK.out _ _ ⟨⟨HU.out.bx, HU.out.by_⟩, fun _ => trivial, fun _ => trivial⟩ ?_
            clear hK K
            try simp only [Act.put, List.setIfInBounds_toArray, List.set_cons_zero, List.set_cons_succ]
            refine LAt.ready (rs := [7]) (by kernel_rfl) (by simp) ?_
            refine AllL.cons (o := ⟨none, _, _, _, _, _⟩) rfl (fun K hK => ?_) AllL.nil
            refine step_store_mid rfl 28 (.tmp 6) (.tmp 24) rfl Y1.heap.size 0 #[.int .i64 ky, .int .i64 sqy, .int .u32 Ny, .int .u32 Py, .int .u32 My, .slice ay Ly.length cy', .bool selfy, .string Dy] (by rfl) (by rfl) (HU.out.h6.there (by simp)) (by kernel_rfl) (by simp [Value.oneCell']) ?_
            have HU := Lib.hid (HU.out.set6 (cs := #[.int .i64 ky, .int .i64 sqy, .int .u32 Ny, .int .u32 Py, .int .u32 My, .slice ay Ly.length cy', .bool selfy, .string Dy]) rfl)
            obtain ⟨Z2, hZ2⟩ : ∃ x, Z1.setCells Y1.heap.size 0 (#[.int .i64 ky, .int .i64 sqy, .int .u32 Ny, .int .u32 Py, .int .u32 My, .slice ay Ly.length cy', .bool selfy, .string Dy] : Array Value).toList = x := ⟨_, rfl⟩
            rw [hZ2] at HU ⊢
            clear hZ2
            refine hK.out _ _ ⟨⟨HU.out.bx, HU.out.by_⟩, fun _ => trivial, fun _ => trivial⟩ ?_
            clear hK K
            try simp only [Act.put, List.setIfInBounds_toArray, List.set_cons_zero, List.set_cons_succ]
            refine LAt.done (by kernel_rfl) ?_
            refine NoPanic.normal ?_
            go_wp2_with fail
            go_meet
            exact ⟨Y13.heap.size, Y1.heap.size, _, _, rfl, rfl, HU.out.h5, HU.out.h6, IntsR.of_owns HU.out.ox (by omega), IntsR.of_owns HU.out.oy (by omega), HU.out.bel⟩
          ·
            go_simp
            obtain ⟨Y15, hY15⟩ : ∃ x, Y12.alloc (.cells #[.int .i64 0, .int .i64 0, .int .u32 0, .int .u32 0, .int .u32 0, .slice none 0 0, .bool false, .string ⟨#[]⟩] 28) = x := ⟨_, rfl⟩
            rw [hY15]
            have HSY15 : Hid (Below Y12.heap.size Y12 Y15) := Lib.hid (hY15 ▸ (Below.refl _ _).alloc (Nat.le_refl _) _)
            have H50 : Hid (BoxAt Y15 Y12.heap.size 28 [.int .i64 0, .int .i64 0, .int .u32 0, .int .u32 0, .int .u32 0, .slice none 0 0, .bool false, .string ⟨#[]⟩]) := Lib.hid (hY15 ▸ BoxAt.new Y12 _ _)
            have hq5 : W1.heap.size ≤ Y12.heap.size := HBA.out.size
            have hne : Y12.heap.size ≠ Y1.heap.size := by have := H6.out.lt; omega
            clear hY15
            have HOX := Lib.hid (own_below HOX.out HSY15.out)
            have H6 := Lib.hid (H6.out.below HSY15.out H6.out.lt)
            have H5 := H50
            have HBA : Hid (Below W1.heap.size W1 Y15) := Lib.hid (belSeq2 HBA.out HSY15.out)
            refine hK.out _ _ ⟨⟨HBX3.out.below HBA.out hpx, HBY3.out.below HBA.out hpy⟩, fun _ => trivial, fun _ => trivial⟩ ?_
            clear hK K
            try simp only [Act.put, List.setIfInBounds_toArray, List.set_cons_zero, List.set_cons_succ]
            refine LAt.ready (rs := [3]) (by kernel_rfl) (by simp) ?_
            refine AllL.cons (o := ⟨some 24, _, _, _, _, _⟩) rfl (fun K hK => ?_) AllL.nil
            go_simp
            (with_reducible refine (HOWy.out _ (HIy.out.below HBA.out (Nat.le_refl _))).mono ?_)
            rintro e Y16 ⟨lvy, rfl, hown, hb⟩
            have HSY16 := Lib.hid hb
            obtain ⟨ay, cy', rfl⟩ := own_sl hown
            have HOY0 := Lib.hid (ownsRow_mono hown HBA.out.size)
            clear hb hown
            try go_wp2_with fail
            have HOX := Lib.hid (own_below HOX.out HSY16.out)
            have H5 := Lib.hid (H5.out.below HSY16.out H5.out.lt)
            have H6 := Lib.hid (H6.out.below HSY16.out H6.out.lt)
            have HOY := HOY0
            have HBA : Hid (Below W1.heap.size W1 Y16) := Lib.hid (belSeq2 HBA.out HSY16.out)
            refine hK.out _ _ ⟨⟨HBX3.out.below HBA.out hpx, HBY3.out.below HBA.out hpy⟩, fun _ => trivial, fun _ => trivial⟩ ?_
            clear hK K
            try simp only [Act.put, List.setIfInBounds_toArray, List.set_cons_zero, List.set_cons_succ]
            have HU : Hid (UAt w W1 kx sqx Nx Px Mx ex fx Lx selfx Dx ky sqy Ny Py My ey fy Ly selfy Dy (.slice ax Lx.length cx') (.slice ay Ly.length cy') Y12.heap.size Y1.heap.size [.int .i64 0, .int .i64 0, .int .u32 0, .int .u32 0, .int .u32 0, .slice none 0 0, .bool false, .string ⟨#[]⟩] [.int .i64 0, .int .i64 0, .int .u32 0, .int .u32 0, .int .u32 0, .slice none 0 0, .bool false, .string ⟨#[]⟩] Y16) := Lib.hid ⟨HBA.out, HBX3.out.below HBA.out hpx, HBY3.out.below HBA.out hpy, HOX.out, HOY.out, H5.out, H6.out, by omega, by omega, hne, hpx1, hpy1⟩
            clear HOX HOY H5 H6 HBA
            refine LAt.ready (rs := [6]) (by kernel_rfl) (by simp) ?_
            refine AllL.cons (o := ⟨none, _, _, _, _, _⟩) rfl (fun K hK => ?_) AllL.nil
            refine step_store_mid rfl 28 (.tmp 5) (.tmp 22) rfl Y12.heap.size 0 #[.int .i64 kx, .int .i64 sqx, .int .u32 Nx, .int .u32 Px, .int .u32 Mx, .slice ax Lx.length cx', .bool selfx, .string Dx] (by rfl) (by rfl) (HU.out.h5.there (by simp)) (by kernel_rfl) (by simp [Value.oneCell']) ?_
            have HU := Lib.hid (HU.out.set5 (cs := #[.int .i64 kx, .int .i64 sqx, .int .u32 Nx, .int .u32 Px, .int .u32 Mx, .slice ax Lx.length cx', .bool selfx, .string Dx]) rfl)
            obtain ⟨Z1, hZ1⟩ : ∃ x, Y16.setCells Y12.heap.size 0 (#[.int .i64 kx, .int .i64 sqx, .int .u32 Nx, .int .u32 Px, .int .u32 Mx, .slice ax Lx.length cx', .bool selfx, .string Dx] : Array Value).toList = x := ⟨_, rfl⟩
            rw [hZ1] at HU ⊢
            clear hZ1
            refine hK.out _ _ ⟨⟨HU.out.bx, HU.out.by_⟩, fun _ => trivial, fun _ => trivial⟩ ?_
            clear hK K
            try simp only [Act.put, List.setIfInBounds_toArray, List.set_cons_zero, List.set_cons_succ]
            refine LAt.ready (rs := [7]) (by kernel_rfl) (by simp) ?_
            refine AllL.cons (o := ⟨none, _, _, _, _, _⟩) rfl (fun K hK => ?_) AllL.nil
            refine step_store_mid rfl 28 (.tmp 6) (.tmp 24) rfl Y1.heap.size 0 #[.int .i64 ky, .int .i64 sqy, .int .u32 Ny, .int .u32 Py, .int .u32 My, .slice ay Ly.length cy', .bool selfy, .string Dy] (by rfl) (by rfl) (HU.out.h6.there (by simp)) (by kernel_rfl) (by simp [Value.oneCell']) ?_
            have HU := Lib.hid (HU.out.set6 (cs := #[.int .i64 ky, .int .i64 sqy, .int .u32 Ny, .int .u32 Py, .int .u32 My, .slice ay Ly.length cy', .bool selfy, .string Dy]) rfl)
            obtain ⟨Z2, hZ2⟩ : ∃ x, Z1.setCells Y1.heap.size 0 (#[.int .i64 ky, .int .i64 sqy, .int .u32 Ny, .int .u32 Py, .int .u32 My, .slice ay Ly.length cy', .bool selfy, .string Dy] : Array Value).toList = x := ⟨_, rfl⟩
            rw [hZ2] at HU ⊢
            clear hZ2
            refine hK.out _ _ ⟨⟨HU.out.bx, HU.out.by_⟩, fun _ => trivial, fun _ => trivial⟩ ?_
            clear hK K
            try simp only [Act.put, List.setIfInBounds_toArray, List.set_cons_zero, List.set_cons_succ]
            refine LAt.done (by kernel_rfl) ?_
            refine NoPanic.normal ?_
            go_wp2_with fail
            go_meet
            exact ⟨Y12.heap.size, Y1.heap.size, _, _, rfl, rfl, HU.out.h5, HU.out.h6, IntsR.of_owns HU.out.ox (by omega), IntsR.of_owns HU.out.oy (by omega), HU.out.bel⟩
      ·
        go_simp
        obtain ⟨Y17, hY17⟩ : ∃ x, Y0.alloc (.cells #[.int .i64 0, .int .i64 0, .int .u32 0, .int .u32 0, .int .u32 0, .slice none 0 0, .bool false, .string ⟨#[]⟩] 28) = x := ⟨_, rfl⟩
        rw [hY17]
        have HSY17 : Hid (Below Y0.heap.size Y0 Y17) := Lib.hid (hY17 ▸ (Below.refl _ _).alloc (Nat.le_refl _) _)
        have H50 : Hid (BoxAt Y17 Y0.heap.size 28 [.int .i64 0, .int .i64 0, .int .u32 0, .int .u32 0, .int .u32 0, .slice none 0 0, .bool false, .string ⟨#[]⟩]) := Lib.hid (hY17 ▸ BoxAt.new Y0 _ _)
        have hq5 : W1.heap.size ≤ Y0.heap.size := HBA.out.size
        clear hY17
        have H5 := H50
        have HBA : Hid (Below W1.heap.size W1 Y17) := Lib.hid (belSeq2 HBA.out HSY17.out)
        refine hK.out _ _ ⟨⟨HBX3.out.below HBA.out hpx, HBY3.out.below HBA.out hpy⟩, fun _ => trivial, fun _ => trivial⟩ ?_
        clear hK K
        try simp only [Act.put, List.setIfInBounds_toArray, List.set_cons_zero, List.set_cons_succ]
        refine LAt.ready (rs := [1, 5]) (by kernel_rfl) (by simp) ?_
        refine AllL.cons (o := ⟨some 22, _, _, _, _, _⟩) rfl (fun K hK => ?_) (AllL.cons (o := ⟨some 6, _, _, _, _, _⟩) rfl (fun K hK => ?_) AllL.nil)
        ·
          go_simp
          (with_reducible refine (HOWx.out _ (HIx.out.below HBA.out (Nat.le_refl _))).mono ?_)
          rintro e Y18 ⟨lvx, rfl, hown, hb⟩
          have HSY18 := Lib.hid hb
          obtain ⟨ax, cx', rfl⟩ := own_sl hown
          have HOX0 := Lib.hid (ownsRow_mono hown HBA.out.size)
          clear hb hown
          try go_wp2_with fail
          have H5 := Lib.hid (H5.out.below HSY18.out H5.out.lt)
          have HOX := HOX0
          have HBA : Hid (Below W1.heap.size W1 Y18) := Lib.hid (belSeq2 HBA.out HSY18.out)
          refine hK.out _ _ ⟨⟨HBX3.out.below HBA.out hpx, HBY3.out.below HBA.out hpy⟩, fun _ => trivial, fun _ => trivial⟩ ?_
          clear hK K
          try simp only [Act.put, List.setIfInBounds_toArray, List.set_cons_zero, List.set_cons_succ]
          refine LAt.ready (rs := [3, 5]) (by kernel_rfl) (by simp) ?_
          refine AllL.cons (o := ⟨some 24, _, _, _, _, _⟩) rfl (fun K hK => ?_) (AllL.cons (o := ⟨some 6, _, _, _, _, _⟩) rfl (fun K hK => ?_) AllL.nil)
          ·
            go_simp
            (with_reducible refine (HOWy.out _ (HIy.out.below HBA.out (Nat.le_refl _))).mono ?_)
            rintro e Y19 ⟨lvy, rfl, hown, hb⟩
            have HSY19 := Lib.hid hb
            obtain ⟨ay, cy', rfl⟩ := own_sl hown
            have HOY0 := Lib.hid (ownsRow_mono hown HBA.out.size)
            clear hb hown
            try go_wp2_with fail
            have HOX := Lib.hid (own_below HOX.out HSY19.out)
            have H5 := Lib.hid (H5.out.below HSY19.out H5.out.lt)
            have HOY := HOY0
            have HBA : Hid (Below W1.heap.size W1 Y19) := Lib.hid (belSeq2 HBA.out HSY19.out)
            refine hK.out _ _ ⟨⟨HBX3.out.below HBA.out hpx, HBY3.out.below HBA.out hpy⟩, fun _ => trivial, fun _ => trivial⟩ ?_
            clear hK K
            try simp only [Act.put, List.setIfInBounds_toArray, List.set_cons_zero, List.set_cons_succ]
            refine LAt.ready (rs := [5]) (by kernel_rfl) (by simp) ?_
            refine AllL.cons (o := ⟨some 6, _, _, _, _, _⟩) rfl (fun K hK => ?_) AllL.nil
            go_simp
            obtain ⟨Y20, hY20⟩ : ∃ x, Y19.alloc (.cells #[.int .i64 0, .int .i64 0, .int .u32 0, .int .u32 0, .int .u32 0, .slice none 0 0, .bool false, .string ⟨#[]⟩] 28) = x := ⟨_, rfl⟩
            rw [hY20]
            have HSY20 : Hid (Below Y19.heap.size Y19 Y20) := Lib.hid (hY20 ▸ (Below.refl _ _).alloc (Nat.le_refl _) _)
            have H60 : Hid (BoxAt Y20 Y19.heap.size 28 [.int .i64 0, .int .i64 0, .int .u32 0, .int .u32 0, .int .u32 0, .slice none 0 0, .bool false, .string ⟨#[]⟩]) := Lib.hid (hY20 ▸ BoxAt.new Y19 _ _)
            have hq6 : W1.heap.size ≤ Y19.heap.size := HBA.out.size
            have hne : Y0.heap.size ≠ Y19.heap.size := by have := H5.out.lt; omega
            clear hY20
            have HOX := Lib.hid (own_below HOX.out HSY20.out)
            have HOY := Lib.hid (own_below HOY.out HSY20.out)
            have H5 := Lib.hid (H5.out.below HSY20.out H5.out.lt)
            have H6 := H60
            have HBA : Hid (Below W1.heap.size W1 Y20) := Lib.hid (belSeq2 HBA.out HSY20.out)
            refine hK.out _ _ ⟨⟨HBX3.out.below HBA.out hpx, HBY3.out.below HBA.out hpy⟩, fun _ => trivial, fun _ => trivial⟩ ?_
            clear hK K
            try simp only [Act.put, List.setIfInBounds_toArray, List.set_cons_zero, List.set_cons_succ]
            have HU : Hid (UAt w W1 kx sqx Nx Px Mx ex fx Lx selfx Dx ky sqy Ny Py My ey fy Ly selfy Dy (.slice ax Lx.length cx') (.slice ay Ly.length cy') Y0.heap.size Y19.heap.size [.int .i64 0, .int .i64 0, .int .u32 0, .int .u32 0, .int .u32 0, .slice none 0 0, .bool false, .string ⟨#[]⟩] [.int .i64 0, .int .i64 0, .int .u32 0, .int .u32 0, .int .u32 0, .slice none 0 0, .bool false, .string ⟨#[]⟩] Y20) := Lib.hid ⟨HBA.out, HBX3.out.below HBA.out hpx, HBY3.out.below HBA.out hpy, HOX.out, HOY.out, H5.out, H6.out, by omega, by omega, hne, hpx1, hpy1⟩
            clear HOX HOY H5 H6 HBA
            refine LAt.ready (rs := [6]) (by kernel_rfl) (by simp) ?_
            refine AllL.cons (o := ⟨none, _, _, _, _, _⟩) rfl (fun K hK => ?_) AllL.nil
            refine step_store_mid rfl 28 (.tmp 5) (.tmp 22) rfl Y0.heap.size 0 #[.int .i64 kx, .int .i64 sqx, .int .u32 Nx, .int .u32 Px, .int .u32 Mx, .slice ax Lx.length cx', .bool selfx, .string Dx] (by rfl) (by rfl) (HU.out.h5.there (by simp)) (by kernel_rfl) (by simp [Value.oneCell']) ?_
            have HU := Lib.hid (HU.out.set5 (cs := #[.int .i64 kx, .int .i64 sqx, .int .u32 Nx, .int .u32 Px, .int .u32 Mx, .slice ax Lx.length cx', .bool selfx, .string Dx]) rfl)
            obtain ⟨Z1, hZ1⟩ : ∃ x, Y20.setCells Y0.heap.size 0 (#[.int .i64 kx, .int .i64 sqx, .int .u32 Nx, .int .u32 Px, .int .u32 Mx, .slice ax Lx.length cx', .bool selfx, .string Dx] : Array Value).toList = x := ⟨_, rfl⟩
            rw [hZ1] at HU ⊢
            clear hZ1
            refine hK.out _ _ ⟨⟨HU.out.bx, HU.out.by_⟩, fun _ => trivial, fun _ => trivial⟩ ?_
            clear hK K
            try simp only [Act.put, List.setIfInBounds_toArray, List.set_cons_zero, List.set_cons_succ]
            refine LAt.ready (rs := [7]) (by kernel_rfl) (by simp) ?_
            refine AllL.cons (o := ⟨none, _, _, _, _, _⟩) rfl (fun K hK => ?_) AllL.nil
            refine step_store_mid rfl 28 (.tmp 6) (.tmp 24) rfl Y19.heap.size 0 #[.int .i64 ky, .int .i64 sqy, .int .u32 Ny, .int .u32 Py, .int .u32 My, .slice ay Ly.length cy', .bool selfy, .string Dy] (by rfl) (by rfl) (HU.out.h6.there (by simp)) (by kernel_rfl) (by simp [Value.oneCell']) ?_
            have HU := Lib.hid (HU.out.set6 (cs := #[.int .i64 ky, .int .i64 sqy, .int .u32 Ny, .int .u32 Py, .int .u32 My, .slice ay Ly.length cy', .bool selfy, .string Dy]) rfl)
            obtain ⟨Z2, hZ2⟩ : ∃ x, Z1.setCells Y19.heap.size 0 (#[.int .i64 ky, .int .i64 sqy, .int .u32 Ny, .int .u32 Py, .int .u32 My, .slice ay Ly.length cy', .bool selfy, .string Dy] : Array Value).toList = x := ⟨_, rfl⟩
            rw [hZ2] at HU ⊢
            clear hZ2
            refine hK.out _ _ ⟨⟨HU.out.bx, HU.out.by_⟩, fun _ => trivial, fun _ => trivial⟩ ?_
            clear hK K
            try simp only [Act.put, List.setIfInBounds_toArray, List.set_cons_zero, List.set_cons_succ]
            refine LAt.done (by kernel_rfl) ?_
            refine NoPanic.normal ?_
            go_wp2_with fail
            go_meet
            exact ⟨Y0.heap.size, Y19.heap.size, _, _, rfl, rfl, HU.out.h5, HU.out.h6, IntsR.of_owns HU.out.ox (by omega), IntsR.of_owns HU.out.oy (by omega), HU.out.bel⟩
          ·
            go_simp
            obtain ⟨Y21, hY21⟩ : ∃ x, Y18.alloc (.cells #[.int .i64 0, .int .i64 0, .int .u32 0, .int .u32 0, .int .u32 0, .slice none 0 0, .bool false, .string ⟨#[]⟩] 28) = x := ⟨_, rfl⟩
            rw [hY21]
            have HSY21 : Hid (Below Y18.heap.size Y18 Y21) := Lib.hid (hY21 ▸ (Below.refl _ _).alloc (Nat.le_refl _) _)
            have H60 : Hid (BoxAt Y21 Y18.heap.size 28 [.int .i64 0, .int .i64 0, .int .u32 0, .int .u32 0, .int .u32 0, .slice none 0 0, .bool false, .string ⟨#[]⟩]) := Lib.hid (hY21 ▸ BoxAt.new Y18 _ _)
            have hq6 : W1.heap.size ≤ Y18.heap.size := HBA.out.size
            have hne : Y0.heap.size ≠ Y18.heap.size := by have := H5.out.lt; omega
            clear hY21
            have HOX := Lib.hid (own_below HOX.out HSY21.out)
            have H5 := Lib.hid (H5.out.below HSY21.out H5.out.lt)
            have H6 := H60
            have HBA : Hid (Below W1.heap.size W1 Y21) := Lib.hid (belSeq2 HBA.out HSY21.out)
            refine hK.out _ _ ⟨⟨HBX3.out.below HBA.out hpx, HBY3.out.below HBA.out hpy⟩, fun _ => trivial, fun _ => trivial⟩ ?_
            clear hK K
            try simp only [Act.put, List.setIfInBounds_toArray, List.set_cons_zero, List.set_cons_succ]
            refine LAt.ready (rs := [3]) (by kernel_rfl) (by simp) ?_
            refine AllL.cons (o := ⟨some 24, _, _, _, _, _⟩) rfl (fun K hK => ?_) AllL.nil
            go_simp
            (with_reducible refine (HOWy.out _ (HIy.out.below HBA.out (Nat.le_refl _))).mono ?_)
            rintro e Y22 ⟨lvy, rfl, hown, hb⟩
            have HSY22 := Lib.hid hb
            obtain ⟨ay, cy', rfl⟩ := own_sl hown
            have HOY0 := Lib.hid (ownsRow_mono hown HBA.out.size)
            clear hb hown
            try go_wp2_with fail
            have HOX := Lib.hid (own_below HOX.out HSY22.out)
            have H5 := Lib.hid (H5.out.below HSY22.out H5.out.lt)
            have H6 := Lib.hid (H6.out.below HSY22.out H6.out.lt)
            have HOY := HOY0
            have HBA : Hid (Below W1.heap.size W1 Y22) := Lib.hid (belSeq2 HBA.out HSY22.out)
            refine hK.out _ _ ⟨⟨HBX3.out.below HBA.out hpx, HBY3.out.below HBA.out hpy⟩, fun _ => trivial, fun _ => trivial⟩ ?_
            clear hK K
            try simp only [Act.put, List.setIfInBounds_toArray, List.set_cons_zero, List.set_cons_succ]
            have HU : Hid (UAt w W1 kx sqx Nx Px Mx ex fx Lx selfx Dx ky sqy Ny Py My ey fy Ly selfy Dy (.slice ax Lx.length cx') (.slice ay Ly.length cy') Y0.heap.size Y18.heap.size [.int .i64 0, .int .i64 0, .int .u32 0, .int .u32 0, .int .u32 0, .slice none 0 0, .bool false, .string ⟨#[]⟩] [.int .i64 0, .int .i64 0, .int .u32 0, .int .u32 0, .int .u32 0, .slice none 0 0, .bool false, .string ⟨#[]⟩] Y22) := Lib.hid ⟨HBA.out, HBX3.out.below HBA.out hpx, HBY3.out.below HBA.out hpy, HOX.out, HOY.out, H5.out, H6.out, by omega, by omega, hne, hpx1, hpy1⟩
            clear HOX HOY H5 H6 HBA
            refine LAt.ready (rs := [6]) (by kernel_rfl) (by simp) ?_
            refine AllL.cons (o := ⟨none, _, _, _, _, _⟩) rfl (fun K hK => ?_) AllL.nil
            refine step_store_mid rfl 28 (.tmp 5) (.tmp 22) rfl Y0.heap.size 0 #[.int .i64 kx, .int .i64 sqx, .int .u32 Nx, .int .u32 Px, .int .u32 Mx, .slice ax Lx.length cx', .bool selfx, .string Dx] (by rfl) (by rfl) (HU.out.h5.there (by simp)) (by kernel_rfl) (by simp [Value.oneCell']) ?_
            have HU := Lib.hid (HU.out.set5 (cs := #[.int .i64 kx, .int .i64 sqx, .int .u32 Nx, .int .u32 Px, .int .u32 Mx, .slice ax Lx.length cx', .bool selfx, .string Dx]) rfl)
            obtain ⟨Z1, hZ1⟩ : ∃ x, Y22.setCells Y0.heap.size 0 (#[.int .i64 kx, .int .i64 sqx, .int .u32 Nx, .int .u32 Px, .int .u32 Mx, .slice ax Lx.length cx', .bool selfx, .string Dx] : Array Value).toList = x := ⟨_, rfl⟩
            rw [hZ1] at HU ⊢
            clear hZ1
            refine hK.out _ _ ⟨⟨HU.out.bx, HU.out.by_⟩, fun _ => trivial, fun _ => trivial⟩ ?_
            clear hK K
            try simp only [Act.put, List.setIfInBounds_toArray, List.set_cons_zero, List.set_cons_succ]
            refine LAt.ready (rs := [7]) (by kernel_rfl) (by simp) ?_
            refine AllL.cons (o := ⟨none, _, _, _, _, _⟩) rfl (fun K hK => ?_) AllL.nil
            refine step_store_mid rfl 28 (.tmp 6) (.tmp 24) rfl Y18.heap.size 0 #[.int .i64 ky, .int .i64 sqy, .int .u32 Ny, .int .u32 Py, .int .u32 My, .slice ay Ly.length cy', .bool selfy, .string Dy] (by rfl) (by rfl) (HU.out.h6.there (by simp)) (by kernel_rfl) (by simp [Value.oneCell']) ?_
            have HU := Lib.hid (HU.out.set6 (cs := #[.int .i64 ky, .int .i64 sqy, .int .u32 Ny, .int .u32 Py, .int .u32 My, .slice ay Ly.length cy', .bool selfy, .string Dy]) rfl)
            obtain ⟨Z2, hZ2⟩ : ∃ x, Z1.setCells Y18.heap.size 0 (#[.int .i64 ky, .int .i64 sqy, .int .u32 Ny, .int .u32 Py, .int .u32 My, .slice ay Ly.length cy', .bool selfy, .string Dy] : Array Value).toList = x := ⟨_, rfl⟩
            rw [hZ2] at HU ⊢
            clear hZ2
            refine hK.out _ _ ⟨⟨HU.out.bx, HU.out.by_⟩, fun _ => trivial, fun _ => trivial⟩ ?_
            clear hK K
            try simp only [Act.put, List.setIfInBounds_toArray, List.set_cons_zero, List.set_cons_succ]
            refine LAt.done (by kernel_rfl) ?_
            refine NoPanic.normal ?_
            go_wp2_with fail
            go_meet
            exact ⟨Y0.heap.size, Y18.heap.size, _, _, rfl, rfl, HU.out.h5, HU.out.h6, IntsR.of_owns HU.out.ox (by omega), IntsR.of_owns HU.out.oy (by omega), HU.out.bel⟩
        ·
          go_simp
          obtain ⟨Y23, hY23⟩ : ∃ x, Y17.alloc (.cells #[.int .i64 0, .int .i64 0, .int .u32 0, .int .u32 0, .int .u32 0, .slice none 0 0, .bool false, .string ⟨#[]⟩] 28) = x := ⟨_, rfl⟩
          rw [hY23]
          have HSY23 : Hid (Below Y17.heap.size Y17 Y23) := Lib.hid (hY23 ▸ (Below.refl _ _).alloc (Nat.le_refl _) _)
          have H60 : Hid (BoxAt Y23 Y17.heap.size 28 [.int .i64 0, .int .i64 0, .int .u32 0, .int .u32 0, .int .u32 0, .slice none 0 0, .bool false, .string ⟨#[]⟩]) := Lib.hid (hY23 ▸ BoxAt.new Y17 _ _)
          have hq6 : W1.heap.size ≤ Y17.heap.size := HBA.out.size
          have hne : Y0.heap.size ≠ Y17.heap.size := by have := H5.out.lt; omega
          clear hY23
          have H5 := Lib.hid (H5.out.below HSY23.out H5.out.lt)
          have H6 := H60
          have HBA : Hid (Below W1.heap.size W1 Y23) := Lib.hid (belSeq2 HBA.out HSY23.out)
          refine hK.out _ _ ⟨⟨HBX3.out.below HBA.out hpx, HBY3.out.below HBA.out hpy⟩, fun _ => trivial, fun _ => trivial⟩ ?_
          clear hK K
          try simp only [Act.put, List.setIfInBounds_toArray, List.set_cons_zero, List.set_cons_succ]
          refine LAt.ready (rs := [1]) (by kernel_rfl) (by simp) ?_
          refine AllL.cons (o := ⟨some 22, _, _, _, _, _⟩) rfl (fun K hK => ?_) AllL.nil
          go_simp
          (with_reducible refine (HOWx.out _ (HIx.out.below HBA.out (Nat.le_refl _))).mono ?_)
          rintro e Y24 ⟨lvx, rfl, hown, hb⟩
          have HSY24 := Lib.hid hb
          obtain ⟨ax, cx', rfl⟩ := own_sl hown
          have HOX0 := Lib.hid (ownsRow_mono hown HBA.out.size)
          clear hb hown
          try go_wp2_with fail
          have H5 := Lib.hid (H5.out.below HSY24.out H5.out.lt)
          have H6 := Lib.hid (H6.out.below HSY24.out H6.out.lt)
          have HOX := HOX0
          have HBA : Hid (Below W1.heap.size W1 Y24) := Lib.hid (belSeq2 HBA.out HSY24.out)
          refine hK.out _ _ ⟨⟨HBX3.out.below HBA.out hpx, HBY3.out.below HBA.out hpy⟩, fun _ => trivial, fun _ => trivial⟩ ?_
          clear hK K
          try simp only [Act.put, List.setIfInBounds_toArray, List.set_cons_zero, List.set_cons_succ]
          refine LAt.ready (rs := [3]) (by kernel_rfl) (by simp) ?_
          refine AllL.cons (o := ⟨some 24, _, _, _, _, _⟩) rfl (fun K hK => ?_) AllL.nil
          go_simp
          (with_reducible refine (HOWy.out _ (HIy.out.below HBA.out (Nat.le_refl _))).mono ?_)
          rintro e Y25 ⟨lvy, rfl, hown, hb⟩
          have HSY25 := Lib.hid hb
          obtain ⟨ay, cy', rfl⟩ := own_sl hown
          have HOY0 := Lib.hid (ownsRow_mono hown HBA.out.size)
          clear hb hown
          try go_wp2_with fail
          have HOX := Lib.hid (own_below HOX.out HSY25.out)
          have H5 := Lib.hid (H5.out.below HSY25.out H5.out.lt)
          have H6 := Lib.hid (H6.out.below HSY25.out H6.out.lt)
          have HOY := HOY0
          have HBA : Hid (Below W1.heap.size W1 Y25) := Lib.hid (belSeq2 HBA.out HSY25.out)
          refine hK.out _ _ ⟨⟨HBX3.out.below HBA.out hpx, HBY3.out.below HBA.out hpy⟩, fun _ => trivial, fun _ => trivial⟩ ?_
          clear hK K
          try simp only [Act.put, List.setIfInBounds_toArray, List.set_cons_zero, List.set_cons_succ]
          have HU : Hid (UAt w W1 kx sqx Nx Px Mx ex fx Lx selfx Dx ky sqy Ny Py My ey fy Ly selfy Dy (.slice ax Lx.length cx') (.slice ay Ly.length cy') Y0.heap.size Y17.heap.size [.int .i64 0, .int .i64 0, .int .u32 0, .int .u32 0, .int .u32 0, .slice none 0 0, .bool false, .string ⟨#[]⟩] [.int .i64 0, .int .i64 0, .int .u32 0, .int .u32 0, .int .u32 0, .slice none 0 0, .bool false, .string ⟨#[]⟩] Y25) := Lib.hid ⟨HBA.out, HBX3.out.below HBA.out hpx, HBY3.out.below HBA.out hpy, HOX.out, HOY.out, H5.out, H6.out, by omega, by omega, hne, hpx1, hpy1⟩
          clear HOX HOY H5 H6 HBA
          refine LAt.ready (rs := [6]) (by kernel_rfl) (by simp) ?_
          refine AllL.cons (o := ⟨none, _, _, _, _, _⟩) rfl (fun K hK => ?_) AllL.nil
          refine step_store_mid rfl 28 (.tmp 5) (.tmp 22) rfl Y0.heap.size 0 #[.int .i64 kx, .int .i64 sqx, .int .u32 Nx, .int .u32 Px, .int .u32 Mx, .slice ax Lx.length cx', .bool selfx, .string Dx] (by rfl) (by rfl) (HU.out.h5.there (by simp)) (by kernel_rfl) (by simp [Value.oneCell']) ?_
          have HU := Lib.hid (HU.out.set5 (cs := #[.int .i64 kx, .int .i64 sqx, .int .u32 Nx, .int .u32 Px, .int .u32 Mx, .slice ax Lx.length cx', .bool selfx, .string Dx]) rfl)
          obtain ⟨Z1, hZ1⟩ : ∃ x, Y25.setCells Y0.heap.size 0 (#[.int .i64 kx, .int .i64 sqx, .int .u32 Nx, .int .u32 Px, .int .u32 Mx, .slice ax Lx.length cx', .bool selfx, .string Dx] : Array Value).toList = x := ⟨_, rfl⟩
          rw [hZ1] at HU ⊢
          clear hZ1
          refine hK.out _ _ ⟨⟨HU.out.bx, HU.out.by_⟩, fun _ => trivial, fun _ => trivial⟩ ?_
          clear hK K
          try simp only [Act.put, List.setIfInBounds_toArray, List.set_cons_zero, List.set_cons_succ]
          refine LAt.ready (rs := [7]) (by kernel_rfl) (by simp) ?_
          refine AllL.cons (o := ⟨none, _, _, _, _, _⟩) rfl (fun K hK => ?_) AllL.nil
          refine step_store_mid rfl 28 (.tmp 6) (.tmp 24) rfl Y17.heap.size 0 #[.int .i64 ky, .int .i64 sqy, .int .u32 Ny, .int .u32 Py, .int .u32 My, .slice ay Ly.length cy', .bool selfy, .string Dy] (by rfl) (by rfl) (HU.out.h6.there (by simp)) (by kernel_rfl) (by simp [Value.oneCell']) ?_
          have HU := Lib.hid (HU.out.set6 (cs := #[.int .i64 ky, .int .i64 sqy, .int .u32 Ny, .int .u32 Py, .int .u32 My, .slice ay Ly.length cy', .bool selfy, .string Dy]) rfl)
          obtain ⟨Z2, hZ2⟩ : ∃ x, Z1.setCells Y17.heap.size 0 (#[.int .i64 ky, .int .i64 sqy, .int .u32 Ny, .int .u32 Py, .int .u32 My, .slice ay Ly.length cy', .bool selfy, .string Dy] : Array Value).toList = x := ⟨_, rfl⟩
          rw [hZ2] at HU ⊢
          clear hZ2
          refine hK.out _ _ ⟨⟨HU.out.bx, HU.out.by_⟩, fun _ => trivial, fun _ => trivial⟩ ?_
          clear hK K
          try simp only [Act.put, List.setIfInBounds_toArray, List.set_cons_zero, List.set_cons_succ]
          refine LAt.done (by kernel_rfl) ?_
          refine NoPanic.normal ?_
          go_wp2_with fail
          go_meet
          exact ⟨Y0.heap.size, Y17.heap.size, _, _, rfl, rfl, HU.out.h5, HU.out.h6, IntsR.of_owns HU.out.ox (by omega), IntsR.of_owns HU.out.oy (by omega), HU.out.bel⟩
      ·
        go_simp
        obtain ⟨Y26, hY26⟩ : ∃ x, Y0.alloc (.cells #[.int .i64 0, .int .i64 0, .int .u32 0, .int .u32 0, .int .u32 0, .slice none 0 0, .bool false, .string ⟨#[]⟩] 28) = x := ⟨_, rfl⟩
        rw [hY26]
        have HSY26 : Hid (Below Y0.heap.size Y0 Y26) := Lib.hid (hY26 ▸ (Below.refl _ _).alloc (Nat.le_refl _) _)
        have H60 : Hid (BoxAt Y26 Y0.heap.size 28 [.int .i64 0, .int .i64 0, .int .u32 0, .int .u32 0, .int .u32 0, .slice none 0 0, .bool false, .string ⟨#[]⟩]) := Lib.hid (hY26 ▸ BoxAt.new Y0 _ _)
        have hq6 : W1.heap.size ≤ Y0.heap.size := HBA.out.size
        clear hY26
        have H6 := H60
        have HBA : Hid (Below W1.heap.size W1 Y26) := Lib.hid (belSeq2 HBA.out HSY26.out)
        refine hK.out _ _ ⟨⟨HBX3.out.below HBA.out hpx, HBY3.out.below HBA.out hpy⟩, fun _ => trivial, fun _ => trivial⟩ ?_
        clear hK K
        try simp only [Act.put, List.setIfInBounds_toArray, List.set_cons_zero, List.set_cons_succ]
        refine LAt.ready (rs := [1, 4]) (by kernel_rfl) (by simp) ?_
        refine AllL.cons (o := ⟨some 22, _, _, _, _, _⟩) rfl (fun K hK => ?_) (AllL.cons (o := ⟨some 5, _, _, _, _, _⟩) rfl (fun K hK => ?_) AllL.nil)
        ·
          go_simp
          (with_reducible refine (HOWx.out _ (HIx.out.below HBA.out (Nat.le_refl _))).mono ?_)
          rintro e Y27 ⟨lvx, rfl, hown, hb⟩
          have HSY27 := Lib.hid hb
          obtain ⟨ax, cx', rfl⟩ := own_sl hown
          have HOX0 := Lib.hid (ownsRow_mono hown HBA.out.size)
          clear hb hown
          try go_wp2_with fail
          have H6 := Lib.hid (H6.out.below HSY27.out H6.out.lt)
          have HOX := HOX0
          have HBA : Hid (Below W1.heap.size W1 Y27) := Lib.hid (belSeq2 HBA.out HSY27.out)
          refine hK.out _ _ ⟨⟨HBX3.out.below HBA.out hpx, HBY3.out.below HBA.out hpy⟩, fun _ => trivial, fun _ => trivial⟩ ?_
          clear hK K
          try simp only [Act.put, List.setIfInBounds_toArray, List.set_cons_zero, List.set_cons_succ]
          refine LAt.ready (rs := [3, 4]) (by kernel_rfl) (by simp) ?_
          refine AllL.cons (o := ⟨some 24, _, _, _, _, _⟩) rfl (fun K hK => ?_) (AllL.cons (o := ⟨some 5, _, _, _, _, _⟩) rfl (fun K hK => ?_) AllL.nil)
          ·
            go_simp
            (with_reducible refine (HOWy.out _ (HIy.out.below HBA.out (Nat.le_refl _))).mono ?_)
            rintro e Y28 ⟨lvy, rfl, hown, hb⟩
            have HSY28 := Lib.hid hb
            obtain ⟨ay, cy', rfl⟩ := own_sl hown
            have HOY0 := Lib.hid (ownsRow_mono hown HBA.out.size)
            clear hb hown
            try go_wp2_with fail
            have HOX := Lib.hid (own_below HOX.out HSY28.out)
            have H6 := Lib.hid (H6.out.below HSY28.out H6.out.lt)
            have HOY := HOY0
            have HBA : Hid (Below W1.heap.size W1 Y28) := Lib.hid (belSeq2 HBA.out HSY28.out)
            refine hK.out _ _ ⟨⟨HBX3.out.below HBA.out hpx, HBY3.out.below HBA.out hpy⟩, fun _ => trivial, fun _ => trivial⟩ ?_
            clear hK K
            try simp only [Act.put, List.setIfInBounds_toArray, List.set_cons_zero, List.set_cons_succ]
            refine LAt.ready (rs := [4]) (by kernel_rfl) (by simp) ?_
            refine AllL.cons (o := ⟨some 5, _, _, _, _, _⟩) rfl (fun K hK => ?_) AllL.nil
            go_simp
            obtain ⟨Y29, hY29⟩ : ∃ x, Y28.alloc (.cells #[.int .i64 0, .int .i64 0, .int .u32 0, .int .u32 0, .int .u32 0, .slice none 0 0, .bool false, .string ⟨#[]⟩] 28) = x := ⟨_, rfl⟩
            rw [hY29]
            have HSY29 : Hid (Below Y28.heap.size Y28 Y29) := Lib.hid (hY29 ▸ (Below.refl _ _).alloc (Nat.le_refl _) _)
            have H50 : Hid (BoxAt Y29 Y28.heap.size 28 [.int .i64 0, .int .i64 0, .int .u32 0, .int .u32 0, .int .u32 0, .slice none 0 0, .bool false, .string ⟨#[]⟩]) := Lib.hid (hY29 ▸ BoxAt.new Y28 _ _)
            have hq5 : W1.heap.size ≤ Y28.heap.size := HBA.out.size
            have hne : Y28.heap.size ≠ Y0.heap.size := by have := H6.out.lt; omega
            clear hY29
            have HOX := Lib.hid (own_below HOX.out HSY29.out)
            have HOY := Lib.hid (own_below HOY.out HSY29.out)
            have H6 := Lib.hid (H6.out.below HSY29.out H6.out.lt)
            have H5 := H50
            have HBA : Hid (Below W1.heap.size W1 Y29) := Lib.hid (belSeq2 HBA.out HSY29.out)
            refine hK.out _ _ ⟨⟨HBX3.out.below HBA.out hpx, HBY3.out.below HBA.out hpy⟩, fun _ => trivial, fun _ => trivial⟩ ?_
            clear hK K
            try simp only [Act.put, List.setIfInBounds_toArray, List.set_cons_zero, List.set_cons_succ]
            have HU : Hid (UAt w W1 kx sqx Nx Px Mx ex fx Lx selfx Dx ky sqy Ny Py My ey fy Ly selfy Dy (.slice ax Lx.length cx') (.slice ay Ly.length cy') Y28.heap.size Y0.heap.size [.int .i64 0, .int .i64 0, .int .u32 0, .int .u32 0, .int .u32 0, .slice none 0 0, .bool false, .string ⟨#[]⟩] [.int .i64 0, .int .i64 0, .int .u32 0, .int .u32 0, .int .u32 0, .slice none 0 0, .bool false, .string ⟨#[]⟩] Y29) := Lib.hid ⟨HBA.out, HBX3.out.below HBA.out hpx, HBY3.out.below HBA.out hpy, HOX.out, HOY.out, H5.out, H6.out, by omega, by omega, hne, hpx1, hpy1⟩
            clear HOX HOY H5 H6 HBA
            refine LAt.ready (rs := [6]) (by kernel_rfl) (by simp) ?_
            refine AllL.cons (o := ⟨none, _, _, _, _, _⟩) rfl (fun K hK => ?_) AllL.nil
            refine step_store_mid rfl 28 (.tmp 5) (.tmp 22) rfl Y28.heap.size 0 #[.int .i64 kx, .int .i64 sqx, .int .u32 Nx, .int .u32 Px, .int .u32 Mx, .slice ax Lx.length cx', .bool selfx, .string Dx] (by rfl) (by rfl) (HU.out.h5.there (by simp)) (by kernel_rfl) (by simp [Value.oneCell']) ?_
            have HU := Lib.hid (HU.out.set5 (cs := #[.int .i64 kx, .int .i64 sqx, .int .u32 Nx, .int .u32 Px, .int .u32 Mx, .slice ax Lx.length cx', .bool selfx, .string Dx]) rfl)
            obtain ⟨Z1, hZ1⟩ : ∃ x, Y29.setCells Y28.heap.size 0 (#[.int .i64 kx, .int .i64 sqx, .int .u32 Nx, .int .u32 Px, .int .u32 Mx, .slice ax Lx.length cx', .bool selfx, .string Dx] : Array Value).toList = x := ⟨_, rfl⟩
            rw [hZ1] at HU ⊢
            clear hZ1
            refine hK.out _ _ ⟨⟨HU.out.bx, HU.out.by_⟩, fun _ => trivial, fun _ => trivial⟩ ?_
            clear hK K
            try simp only [Act.put, List.setIfInBounds_toArray, List.set_cons_zero, List.set_cons_succ]
            refine LAt.ready (rs := [7]) (by kernel_rfl) (by simp) ?_
            refine AllL.cons (o := ⟨none, _, _, _, _, _⟩) rfl (fun K hK => ?_) AllL.nil
            refine step_store_mid rfl 28 (.tmp 6) (.tmp 24) rfl Y0.heap.size 0 #[.int .i64 ky, .int .i64 sqy, .int .u32 Ny, .int .u32 Py, .int .u32 My, .slice ay Ly.length cy', .bool selfy, .string Dy] (by rfl) (by rfl) (HU.out.h6.there (by simp)) (by kernel_rfl) (by simp [Value.oneCell']) ?_
            have HU := Lib.hid (HU.out.set6 (cs := #[.int .i64 ky, .int .i64 sqy, .int .u32 Ny, .int .u32 Py, .int .u32 My, .slice ay Ly.length cy', .bool selfy, .string Dy]) rfl)
            obtain ⟨Z2, hZ2⟩ : ∃ x, Z1.setCells Y0.heap.size 0 (#[.int .i64 ky, .int .i64 sqy, .int .u32 Ny, .int .u32 Py, .int .u32 My, .slice ay Ly.length cy', .bool selfy, .string Dy] : Array Value).toList = x := ⟨_, rfl⟩
            rw [hZ2] at HU ⊢
            clear hZ2
            refine hK.out _ _ ⟨⟨HU.out.bx, HU.out.by_⟩, fun _ => trivial, fun _ => trivial⟩ ?_
            clear hK K
            try simp only [Act.put, List.setIfInBounds_toArray, List.set_cons_zero, List.set_cons_succ]
            refine LAt.done (by kernel_rfl) ?_
            refine NoPanic.normal ?_
            go_wp2_with fail
            go_meet
            exact ⟨Y28.heap.size, Y0.heap.size, _, _, rfl, rfl, HU.out.h5, HU.out.h6, IntsR.of_owns HU.out.ox (by omega), IntsR.of_owns HU.out.oy (by omega), HU.out.bel⟩
          ·
            go_simp
            obtain ⟨Y30, hY30⟩ : ∃ x, Y27.alloc (.cells #[.int .i64 0, .int .i64 0, .int .u32 0, .int .u32 0, .int .u32 0, .slice none 0 0, .bool false, .string ⟨#[]⟩] 28) = x := ⟨_, rfl⟩
            rw [hY30]
            have HSY30 : Hid (Below Y27.heap.size Y27 Y30) := Lib.hid (hY30 ▸ (Below.refl _ _).alloc (Nat.le_refl _) _)
            have H50 : Hid (BoxAt Y30 Y27.heap.size 28 [.int .i64 0, .int .i64 0, .int .u32 0, .int .u32 0, .int .u32 0, .slice none 0 0, .bool false, .string ⟨#[]⟩]) := Lib.hid (hY30 ▸ BoxAt.new Y27 _ _)
            have hq5 : W1.heap.size ≤ Y27.heap.size := HBA.out.size
            have hne : Y27.heap.size ≠ Y0.heap.size := by have := H6.out.lt; omega
            clear hY30
            have HOX := Lib.hid (own_below HOX.out HSY30.out)
            have H6 := Lib.hid (H6.out.below HSY30.out H6.out.lt)
            have H5 := H50
            have HBA : Hid (Below W1.heap.size W1 Y30) := Lib.hid (belSeq2 HBA.out HSY30.out)
            refine hK.out _ _ ⟨⟨HBX3.out.below HBA.out hpx, HBY3.out.below HBA.out hpy⟩, fun _ => trivial, fun _ => trivial⟩ ?_
            clear hK K
            try simp only [Act.put, List.setIfInBounds_toArray, List.set_cons_zero, List.set_cons_succ]
            refine LAt.ready (rs := [3]) (by kernel_rfl) (by simp) ?_
            refine AllL.cons (o := ⟨some 24, _, _, _, _, _⟩) rfl (fun K hK => ?_) AllL.nil
            go_simp
            (with_reducible refine (HOWy.out _ (HIy.out.below HBA.out (Nat.le_refl _))).mono ?_)
            rintro e Y31 ⟨lvy, rfl, hown, hb⟩
            have HSY31 := Lib.hid hb
            obtain ⟨ay, cy', rfl⟩ := own_sl hown
            have HOY0 := Lib.hid (ownsRow_mono hown HBA.out.size)
            clear hb hown
            try go_wp2_with fail
            have HOX := Lib.hid (own_below HOX.out HSY31.out)
            have H5 := Lib.hid (H5.out.below HSY31.out H5.out.lt)
            have H6 := Lib.hid (H6.out.below HSY31.out H6.out.lt)
            have HOY := HOY0
            have HBA : Hid (Below W1.heap.size W1 Y31) := Lib.hid (belSeq2 HBA.out HSY31.out)
            refine hK.out _ _ ⟨⟨HBX3.out.below HBA.out hpx, HBY3.out.below HBA.out hpy⟩, fun _ => trivial, fun _ => trivial⟩ ?_
            clear hK K
            try simp only [Act.put, List.setIfInBounds_toArray, List.set_cons_zero, List.set_cons_succ]
            have HU : Hid (UAt w W1 kx sqx Nx Px Mx ex fx Lx selfx Dx ky sqy Ny Py My ey fy Ly selfy Dy (.slice ax Lx.length cx') (.slice ay Ly.length cy') Y27.heap.size Y0.heap.size [.int .i64 0, .int .i64 0, .int .u32 0, .int .u32 0, .int .u32 0, .slice none 0 0, .bool false, .string ⟨#[]⟩] [.int .i64 0, .int .i64 0, .int .u32 0, .int .u32 0, .int .u32 0, .slice none 0 0, .bool false, .string ⟨#[]⟩] Y31) := Lib.hid ⟨HBA.out, HBX3.out.below HBA.out hpx, HBY3.out.below HBA.out hpy, HOX.out, HOY.out, H5.out, H6.out, by omega, by omega, hne, hpx1, hpy1⟩
            clear HOX HOY H5 H6 HBA
            refine LAt.ready (rs := [6]) (by kernel_rfl) (by simp) ?_
            refine AllL.cons (o := ⟨none, _, _, _, _, _⟩) rfl (fun K hK => ?_) AllL.nil
            refine step_store_mid rfl 28 (.tmp 5) (.tmp 22) rfl Y27.heap.size 0 #[.int .i64 kx, .int .i64 sqx, .int .u32 Nx, .int .u32 Px, .int .u32 Mx, .slice ax Lx.length cx', .bool selfx, .string Dx] (by rfl) (by rfl) (HU.out.h5.there (by simp)) (by kernel_rfl) (by simp [Value.oneCell']) ?_
            have HU := Lib.hid (HU.out.set5 (cs := #[.int .i64 kx, .int .i64 sqx, .int .u32 Nx, .int .u32 Px, .int .u32 Mx, .slice ax Lx.length cx', .bool selfx, .string Dx]) rfl)
            obtain ⟨Z1, hZ1⟩ : ∃ x, Y31.setCells Y27.heap.size 0 (#[.int .i64 kx, .int .i64 sqx, .int .u32 Nx, .int .u32 Px, .int .u32 Mx, .slice ax Lx.length cx', .bool selfx, .string Dx] : Array Value).toList = x := ⟨_, rfl⟩
            rw [hZ1] at HU ⊢
            clear hZ1
            refine hK.out _ _ ⟨⟨HU.out.bx, HU.out.by_⟩, fun _ => trivial, fun _ => trivial⟩ ?_
            clear hK K
            try simp only [Act.put, List.setIfInBounds_toArray, List.set_cons_zero, List.set_cons_succ]
            refine LAt.ready (rs := [7]) (by kernel_rfl) (by simp) ?_
            refine AllL.cons (o := ⟨none, _, _, _, _, _⟩) rfl (fun K hK => ?_) AllL.nil
            refine step_store_mid rfl 28 (.tmp 6) (.tmp 24) rfl Y0.heap.size 0 #[.int .i64 ky, .int .i64 sqy, .int .u32 Ny, .int .u32 Py, .int .u32 My, .slice ay Ly.length cy', .bool selfy, .string Dy] (by rfl) (by rfl) (HU.out.h6.there (by simp)) (by kernel_rfl) (by simp [Value.oneCell']) ?_
            have HU := Lib.hid (HU.out.set6 (cs := #[.int .i64 ky, .int .i64 sqy, .int .u32 Ny, .int .u32 Py, .int .u32 My, .slice ay Ly.length cy', .bool selfy, .string Dy]) rfl)
            obtain ⟨Z2, hZ2⟩ : ∃ x, Z1.setCells Y0.heap.size 0 (#[.int .i64 ky, .int .i64 sqy, .int .u32 Ny, .int .u32 Py, .int .u32 My, .slice ay Ly.length cy', .bool selfy, .string Dy] : Array Value).toList = x := ⟨_, rfl⟩
            rw [hZ2] at HU ⊢
            clear hZ2
            refine hK.out _ _ ⟨⟨HU.out.bx, HU.out.by_⟩, fun _ => trivial, fun _ => trivial⟩ ?_
            clear hK K
            try simp only [Act.put, List.setIfInBounds_toArray, List.set_cons_zero, List.set_cons_succ]
            refine LAt.done (by kernel_rfl) ?_
            refine NoPanic.normal ?_
            go_wp2_with fail
            go_meet
            exact ⟨Y27.heap.size, Y0.heap.size, _, _, rfl, rfl, HU.out.h5, HU.out.h6, IntsR.of_owns HU.out.ox (by omega), IntsR.of_owns HU.out.oy (by omega), HU.out.bel⟩
        ·
          go_simp
          obtain ⟨Y32, hY32⟩ : ∃ x, Y26.alloc (.cells #[.int .i64 0, .int .i64 0, .int .u32 0, .int .u32 0, .int .u32 0, .slice none 0 0, .bool false, .string ⟨#[]⟩] 28) = x := ⟨_, rfl⟩
          rw [hY32]
          have HSY32 : Hid (Below Y26.heap.size Y26 Y32) := Lib.hid (hY32 ▸ (Below.refl _ _).alloc (Nat.le_refl _) _)
          have H50 : Hid (BoxAt Y32 Y26.heap.size 28 [.int .i64 0, .int .i64 0, .int .u32 0, .int .u32 0, .int .u32 0, .slice none 0 0, .bool false, .string ⟨#[]⟩]) := Lib.hid (hY32 ▸ BoxAt.new Y26 _ _)
          have hq5 : W1.heap.size ≤ Y26.heap.size := HBA.out.size
          have hne : Y26.heap.size ≠ Y0.heap.size := by have := H6.out.lt; omega
          clear hY32
          have H6 := Lib.hid (H6.out.below HSY32.out H6.out.lt)
          have H5 := H50
          have HBA : Hid (Below W1.heap.size W1 Y32) := Lib.hid (belSeq2 HBA.out HSY32.out)
          refine hK.out _ _ ⟨⟨HBX3.out.below HBA.out hpx, HBY3.out.below HBA.out hpy⟩, fun _ => trivial, fun _ => trivial⟩ ?_
          clear hK K
          try simp only [Act.put, List.setIfInBounds_toArray, List.set_cons_zero, List.set_cons_succ]
          refine LAt.ready (rs := [1]) (by kernel_rfl) (by simp) ?_
          refine AllL.cons (o := ⟨some 22, _, _, _, _, _⟩) rfl (fun K hK => ?_) AllL.nil
          go_simp
          (with_reducible refine (HOWx.out _ (HIx.out.below HBA.out (Nat.le_refl _))).mono ?_)
          rintro e Y33 ⟨lvx, rfl, hown, hb⟩
          have HSY33 := Lib.hid hb
          obtain ⟨ax, cx', rfl⟩ := own_sl hown
          have HOX0 := Lib.hid (ownsRow_mono hown HBA.out.size)
          clear hb hown
          try go_wp2_with fail
          have H5 := Lib.hid (H5.out.below HSY33.out H5.out.lt)
          have H6 := Lib.hid (H6.out.below HSY33.out H6.out.lt)
          have HOX := HOX0
          have HBA : Hid (Below W1.heap.size W1 Y33) := Lib.hid (belSeq2 HBA.out HSY33.out)
          refine hK.out _ _ ⟨⟨HBX3.out.below HBA.out hpx, HBY3.out.below HBA.out hpy⟩, fun _ => trivial, fun _ => trivial⟩ ?_
          clear hK K
          try simp only [Act.put, List.setIfInBounds_toArray, List.set_cons_zero, List.set_cons_succ]
          refine LAt.ready (rs := [3]) (by kernel_rfl) (by simp) ?_
          refine AllL.cons (o := ⟨some 24, _, _, _, _, _⟩) rfl (fun K hK => ?_) AllL.nil
          go_simp
          (with_reducible refine (HOWy.out _ (HIy.out.below HBA.out (Nat.le_refl _))).mono ?_)
          rintro e Y34 ⟨lvy, rfl, hown, hb⟩
          have HSY34 := Lib.hid hb
          obtain ⟨ay, cy', rfl⟩ := own_sl hown
          have HOY0 := Lib.hid (ownsRow_mono hown HBA.out.size)
          clear hb hown
          try go_wp2_with fail
          have HOX := Lib.hid (own_below HOX.out HSY34.out)
          have H5 := Lib.hid (H5.out.below HSY34.out H5.out.lt)
          have H6 := Lib.hid (H6.out.below HSY34.out H6.out.lt)
          have HOY := HOY0
          have HBA : Hid (Below W1.heap.size W1 Y34) := Lib.hid (belSeq2 HBA.out HSY34.out)
          refine hK.out _ _ ⟨⟨HBX3.out.below HBA.out hpx, HBY3.out.below HBA.out hpy⟩, fun _ => trivial, fun _ => trivial⟩ ?_
          clear hK K
          try simp only [Act.put, List.setIfInBounds_toArray, List.set_cons_zero, List.set_cons_succ]
          have HU : Hid (UAt w W1 kx sqx Nx Px Mx ex fx Lx selfx Dx ky sqy Ny Py My ey fy Ly selfy Dy (.slice ax Lx.length cx') (.slice ay Ly.length cy') Y26.heap.size Y0.heap.size [.int .i64 0, .int .i64 0, .int .u32 0, .int .u32 0, .int .u32 0, .slice none 0 0, .bool false, .string ⟨#[]⟩] [.int .i64 0, .int .i64 0, .int .u32 0, .int .u32 0, .int .u32 0, .slice none 0 0, .bool false, .string ⟨#[]⟩] Y34) := Lib.hid ⟨HBA.out, HBX3.out.below HBA.out hpx, HBY3.out.below HBA.out hpy, HOX.out, HOY.out, H5.out, H6.out, by omega, by omega, hne, hpx1, hpy1⟩
          clear HOX HOY H5 H6 HBA
          refine LAt.ready (rs := [6]) (by kernel_rfl) (by simp) ?_
          refine AllL.cons (o := ⟨none, _, _, _, _, _⟩) rfl (fun K hK => ?_) AllL.nil
          refine step_store_mid rfl 28 (.tmp 5) (.tmp 22) rfl Y26.heap.size 0 #[.int .i64 kx, .int .i64 sqx, .int .u32 Nx, .int .u32 Px, .int .u32 Mx, .slice ax Lx.length cx', .bool selfx, .string Dx] (by rfl) (by rfl) (HU.out.h5.there (by simp)) (by kernel_rfl) (by simp [Value.oneCell']) ?_
          have HU := Lib.hid (HU.out.set5 (cs := #[.int .i64 kx, .int .i64 sqx, .int .u32 Nx, .int .u32 Px, .int .u32 Mx, .slice ax Lx.length cx', .bool selfx, .string Dx]) rfl)
          obtain ⟨Z1, hZ1⟩ : ∃ x, Y34.setCells Y26.heap.size 0 (#[.int .i64 kx, .int .i64 sqx, .int .u32 Nx, .int .u32 Px, .int .u32 Mx, .slice ax Lx.length cx', .bool selfx, .string Dx] : Array Value).toList = x := ⟨_, rfl⟩
          rw [hZ1] at HU ⊢
          clear hZ1
          refine hK.out _ _ ⟨⟨HU.out.bx, HU.out.by_⟩, fun _ => trivial, fun _ => trivial⟩ ?_
          clear hK K
          try simp only [Act.put, List.setIfInBounds_toArray, List.set_cons_zero, List.set_cons_succ]
          refine LAt.ready (rs := [7]) (by kernel_rfl) (by simp) ?_
          refine AllL.cons (o := ⟨none, _, _, _, _, _⟩) rfl (fun K hK => ?_) AllL.nil
          refine step_store_mid rfl 28 (.tmp 6) (.tmp 24) rfl Y0.heap.size 0 #[.int .i64 ky, .int .i64 sqy, .int .u32 Ny, .int .u32 Py, .int .u32 My, .slice ay Ly.length cy', .bool selfy, .string Dy] (by rfl) (by rfl) (HU.out.h6.there (by simp)) (by kernel_rfl) (by simp [Value.oneCell']) ?_
          have HU := Lib.hid (HU.out.set6 (cs := #[.int .i64 ky, .int .i64 sqy, .int .u32 Ny, .int .u32 Py, .int .u32 My, .slice ay Ly.length cy', .bool selfy, .string Dy]) rfl)
          obtain ⟨Z2, hZ2⟩ : ∃ x, Z1.setCells Y0.heap.size 0 (#[.int .i64 ky, .int .i64 sqy, .int .u32 Ny, .int .u32 Py, .int .u32 My, .slice ay Ly.length cy', .bool selfy, .string Dy] : Array Value).toList = x := ⟨_, rfl⟩
          rw [hZ2] at HU ⊢
          clear hZ2
          refine hK.out _ _ ⟨⟨HU.out.bx, HU.out.by_⟩, fun _ => trivial, fun _ => trivial⟩ ?_
          clear hK K
          try simp only [Act.put, List.setIfInBounds_toArray, List.set_cons_zero, List.set_cons_succ]
          refine LAt.done (by kernel_rfl) ?_
          refine NoPanic.normal ?_
          go_wp2_with fail
          go_meet
          exact ⟨Y26.heap.size, Y0.heap.size, _, _, rfl, rfl, HU.out.h5, HU.out.h6, IntsR.of_owns HU.out.ox (by omega), IntsR.of_owns HU.out.oy (by omega), HU.out.bel⟩
    case rest =>
      obtain ⟨b5, b6, lvx, lvy, rfl, rfl, hb5, hb6, hix, hiy, hbc⟩ := hcut
      have H5 := Lib.hid hb5
      have H6 := Lib.hid hb6
      have HIX := Lib.hid hix
      have HIYA := Lib.hid hiy
      have HBC := Lib.hid hbc
      obtain ⟨ax', cx', rfl, _, _, _⟩ := hix.len
      obtain ⟨ay', cy', rfl, _, _, _⟩ := hiy.len
      have HYC := Lib.hid (HBY3.out.below hbc hpy)
      have HIYC := Lib.hid (HIy.out.below hbc (Nat.le_refl _))
      have HEVC := Lib.hid (HEV1.out.below hbc)
      have hp5 := hb5.lt
      have hp6 := hb6.lt
      have hpyc := HYC.out.lt
      have HBA := Lib.hid (Below.refl wc.heap.size wc).drew
      clear hb5 hb6 hix hiy hbc
      go_wp2_with fail
      go_region_held3 (fun w' => (w'.cell? ⟨b5, 0, none⟩ = some (.int .i64 kx) ∧ w'.cell? ⟨b5, 1, none⟩ = some (.int .i64 sqx) ∧ w'.cell? ⟨b5, 2, none⟩ = some (.int .u32 Nx) ∧ w'.cell? ⟨b5, 3, none⟩ = some (.int .u32 Px) ∧ w'.cell? ⟨b5, 4, none⟩ = some (.int .u32 Mx) ∧ w'.cell? ⟨b5, 5, none⟩ = some (.slice ax' Lx.length cx') ∧ w'.cell? ⟨b5, 6, none⟩ = some (.bool selfx) ∧ w'.cell? ⟨b5, 7, none⟩ = some (.string Dx)) ∧ (w'.cell? ⟨b6, 0, none⟩ = some (.int .i64 ky) ∧ w'.cell? ⟨b6, 1, none⟩ = some (.int .i64 sqy) ∧ w'.cell? ⟨b6, 2, none⟩ = some (.int .u32 Ny) ∧ w'.cell? ⟨b6, 3, none⟩ = some (.int .u32 Py) ∧ w'.cell? ⟨b6, 4, none⟩ = some (.int .u32 My) ∧ w'.cell? ⟨b6, 5, none⟩ = some (.slice ay' Ly.length cy') ∧ w'.cell? ⟨b6, 6, none⟩ = some (.bool selfy) ∧ w'.cell? ⟨b6, 7, none⟩ = some (.string Dy)) ∧ w'.cell? ⟨w.heap.size + 1, 0, none⟩ = some (.int .i64 ky) ∧ w'.cell? ⟨w.heap.size + 1, 1, none⟩ = some (.int .i64 sqy) ∧ w'.cell? ⟨w.heap.size + 1, 2, none⟩ = some (.int .i64 Ny) ∧ w'.cell? ⟨w.heap.size + 1, 3, none⟩ = some (.int .i64 Py) ∧ w'.cell? ⟨w.heap.size + 1, 4, none⟩ = some (.int .i64 My) ∧ w'.cell? ⟨w.heap.size + 1, 5, none⟩ = some (.slice ey Ly.length fy) ∧ w'.cell? ⟨w.heap.size + 1, 6, none⟩ = some (.bool selfy) ∧ w'.cell? ⟨w.heap.size + 1, 7, none⟩ = some (.string Dy)) (exact ⟨(H5.out.below HBA.out hp5).cells8, (H6.out.below HBA.out hp6).cells8, (HYC.out.below HBA.out hpyc).cells8⟩) (first | (go_at_call 9; (with_reducible refine (HBYx.out _ _ (HEVC.out.below HBA.out) (HIX.out.below HBA.out (Nat.le_refl _))).mono ?_); rintro e w' ⟨rfl, hb⟩; have HBA : Hid (Below wc.heap.size wc w') := Lib.hid (belSeq2 HBA.out hb); clear hb) | (go_at_call 9; (with_reducible refine (HBYy.out _ _ (HEVC.out.below HBA.out) (HIYA.out.below HBA.out (Nat.le_refl _))).mono ?_); rintro e w' ⟨rfl, hb⟩; have HBA : Hid (Below wc.heap.size wc w') := Lib.hid (belSeq2 HBA.out hb); clear hb) | (go_at_call 14; (with_reducible refine (HSM.out _ _ (HIX.out.below HBA.out (Nat.le_refl _)) (HIYC.out.below HBA.out (Nat.le_refl _))).mono ?_); rintro e w' ⟨rfl, hb⟩; have HBA : Hid (Below wc.heap.size wc w') := Lib.hid (belSeq2 HBA.out hb); clear hb))
      all_goals
        go_wp2_with fail
        go_ret
        exact ⟨ret_bool (by rw [HEQ.out]; by_cases h : Bx = By <;> simp [h]), belSeq HB3.out (belSeq HBC.out HBA.out)⟩
end Go.Proofs.YtohenohgceaibaaDoor
