/-
  The walk of the statement PduUnlike.
-/
import Derived.Test.YtijneajaplebnaaPduSizes
import Derived.Test.YtijneajaplebnaaPduSame
import Derived.Test.YtijneajaplebnaaPlainPduInj
import Derived.Deep.RegionWith
set_option linter.unusedVariables false
set_option linter.unusedSimpArgs false
namespace Go.Proofs.Ytijneajaplebnaa
open Go.RowKit
attribute [local go_sem ↓] Go.wp_at_zero Go.wp_at_succ

/-- Few, its result written out. -/
theorem few_out (k sq n ps mr : Int) (lv : Value) (l : List Int) (self : Bool) (d : ByteArray) (hd : d.size ≤ maxLen) (w : World) (hl : IntsR .i64 w lv l) :
    Calls Try.prog 8 #[.agg #[.int .i64 k, .int .i64 sq, .int .i64 n, .int .i64 ps, .int .i64 mr, lv, .bool self, .string d]] w (fun e w' => ∃ a c, e = .returned (.agg #[.int .i64 k, .int .i64 sq, .int .i64 (cl n), .int .i64 (cl ps), .int .i64 (cl mr), .slice a ((l.take 140).map cl).length c, .bool self, .string (cutB 210 d)]) ∧ w'.ownsRow w.heap.size 3 1 (.slice a ((l.take 140).map cl).length c) ((l.take 140).map cl).length (((l.take 140).map cl).map (Value.int .i64)) ∧ Below w.heap.size w w') := by
  refine (few_any k sq n ps mr lv l self d w hl hd).mono ?_
  rintro e w' ⟨lv', rfl, ho, hb⟩
  obtain ⟨a, c, rfl, _, _, _⟩ := (IntsR.of_owns ho (by simp; omega)).len
  exact ⟨a, c, rfl, ho, hb⟩
def UnlRel (w : World) (B : Nat) (kx sqx nx psx mrx : Int) (Lx : List Int) (selfx : Bool) (dx : ByteArray) (ky sqy ny psy mry : Int) (Ly : List Int) (selfy : Bool) (dy : ByteArray) (wx : World) : Prop :=
  ∃ ex fx ey fy, BoxAt wx B 24 [.int .i64 kx, .int .i64 sqx, .int .i64 (cl nx), .int .i64 (cl psx), .int .i64 (cl mrx), .slice ex Lx.length fx, .bool selfx, .string (cutB 210 dx)] ∧ BoxAt wx (B + 1) 24 [.int .i64 ky, .int .i64 sqy, .int .i64 (cl ny), .int .i64 (cl psy), .int .i64 (cl mry), .slice ey Ly.length fy, .bool selfy, .string (cutB 210 dy)] ∧ IntsR .i64 wx (.slice ex Lx.length fx) Lx ∧ IntsR .i64 wx (.slice ey Ly.length fy) Ly ∧ Below w.heap.size w wx

set_option maxRecDepth 100000 in
set_option maxHeartbeats 4000000 in
theorem pduUnlike_any (kx sqx nx psx mrx : Int) (lvx : Value) (lx : List Int) (selfx : Bool) (dx : ByteArray) (ky sqy ny psy mry : Int) (lvy : Value) (ly : List Int) (selfy : Bool) (dy : ByteArray) (w : World) (hlx : IntsR .i64 w lvx lx) (hdx : dx.size ≤ maxLen) (hly : IntsR .i64 w lvy ly) (hdy : dy.size ≤ maxLen) :
    Calls Try.prog 4 #[refV kx sqx nx psx mrx lvx selfx dx, refV ky sqy ny psy mry lvy selfy dy] w fun e w' => e = .returned (.bool true) ∧ Below w.heap.size w w' := by
  have HLX := Lib.hid hlx
  have HLY := Lib.hid hly
  obtain ⟨ax, cx, rfl, _, _, _⟩ := hlx.len
  obtain ⟨ay, cy, rfl, _, _, _⟩ := hly.len
  clear hlx hly
  have hfx := few_out kx sqx nx psx mrx (.slice ax lx.length cx) lx selfx dx hdx
  have hfy := few_out ky sqy ny psy mry (.slice ay ly.length cy) ly selfy dy hdy
  have HLLx := Lib.hid (cl_all lx)
  have HLLy := Lib.hid (cl_all ly)
  have hlxl : ((lx.take 140).map cl).length ≤ 140 := by simp; omega
  have hlyl : ((ly.take 140).map cl).length ≤ 140 := by simp; omega
  generalize (lx.take 140).map cl = Lx at *
  generalize (ly.take 140).map cl = Ly at *
  have HFX := Lib.hid hfx
  have HFY := Lib.hid hfy
  clear hfx hfy
  have HAW := Lib.hid awake_any
  unfold refV
  go_enter Try.func4, Try.ntmps4
  have HBX0 := Lib.hid ((BoxAt.new w 24 [.int .i64 kx, .int .i64 sqx, .int .i64 nx, .int .i64 psx, .int .i64 mrx, .slice ax lx.length cx, .bool selfx, .string dx]).alloc (o := .cells #[.int .i64 ky, .int .i64 sqy, .int .i64 ny, .int .i64 psy, .int .i64 mry, .slice ay ly.length cy, .bool selfy, .string dy] 24))
  have HBY0 := Lib.hid (BoxAt.newAt (w := w.alloc (.cells #[.int .i64 kx, .int .i64 sqx, .int .i64 nx, .int .i64 psx, .int .i64 mrx, .slice ax lx.length cx, .bool selfx, .string dx] 24)) (b := w.heap.size + 1) (by simp) 24 [.int .i64 ky, .int .i64 sqy, .int .i64 ny, .int .i64 psy, .int .i64 mry, .slice ay ly.length cy, .bool selfy, .string dy])
  go_wp2_with fail
  refine (HAW.out _).mono ?_
  rintro e W ⟨rfl, hb⟩
  have HBX := Lib.hid (HBX0.out.below hb (by simp; omega))
  have HBY := Lib.hid (HBY0.out.below hb (by simp))
  have HB := Lib.hid (((Below.refl w.heap.size w).alloc (Nat.le_refl _) _).alloc (by simp) _ |>.trans (hb.mono (by simp; omega)))
  have HLx := Lib.hid (HLX.out.alloc.alloc.below hb (Nat.le_refl _))
  have HLy := Lib.hid (HLY.out.alloc.alloc.below hb (Nat.le_refl _))
  have hpx := HBX.out.lt
  have hpy := HBY.out.lt
  have hB0 := HB.out.size
  clear hb HAW HBX0 HBY0 HLX HLY
  obtain ⟨x0, x1, x2, x3, x4, x5, x6, x7⟩ := HBX.out.cells8
  obtain ⟨y0, y1, y2, y3, y4, y5, y6, y7⟩ := HBY.out.cells8
  have HBA := Lib.hid (Below.refl W.heap.size W).drew
  go_upto_region 3 with fail
  go_cut [] (fun wx => UnlRel w w.heap.size kx sqx nx psx mrx Lx selfx dx ky sqy ny psy mry Ly selfy dy wx)
  case first =>
    go_region_with (first | (go_at_call 8; (with_reducible refine (HFX.out _ (HLx.out.below HBA.out (Nat.le_refl _))).mono ?_); rintro e w' ⟨ex, fx, rfl, hown, hb⟩; have HOx := Lib.hid (ownsRow_mono hown HBA.out.size); have HBA : Hid (Below W.heap.size W w') := Lib.hid (belSeq2 HBA.out hb); have HXX := Lib.hid (HBX.out.below HBA.out hpx); have HYY := Lib.hid (HBY.out.below HBA.out hpy); obtain ⟨x0, x1, x2, x3, x4, x5, x6, x7⟩ := HXX.out.cells8; obtain ⟨y0, y1, y2, y3, y4, y5, y6, y7⟩ := HYY.out.cells8; obtain ⟨fx0, fx1, fx2, fx3, fx4, fx5, fx6, fx7⟩ := HXX.out.frozs8; obtain ⟨fy0, fy1, fy2, fy3, fy4, fy5, fy6, fy7⟩ := HYY.out.frozs8; clear hb hown) | (go_at_call 8; (with_reducible refine (HFY.out _ (HLy.out.below HBA.out (Nat.le_refl _))).mono ?_); rintro e w' ⟨ey, fy, rfl, hown, hb⟩; have HOx := Lib.hid (ownsRow_below HOx.out hb); have HOy := Lib.hid (ownsRow_mono hown HBA.out.size); have HBA : Hid (Below W.heap.size W w') := Lib.hid (belSeq2 HBA.out hb); have HXX := Lib.hid (HBX.out.below HBA.out hpx); have HYY := Lib.hid (HBY.out.below HBA.out hpy); obtain ⟨x0, x1, x2, x3, x4, x5, x6, x7⟩ := HXX.out.cells8; obtain ⟨y0, y1, y2, y3, y4, y5, y6, y7⟩ := HYY.out.cells8; obtain ⟨fx0, fx1, fx2, fx3, fx4, fx5, fx6, fx7⟩ := HXX.out.frozs8; obtain ⟨fy0, fy1, fy2, fy3, fy4, fy5, fy6, fy7⟩ := HYY.out.frozs8; clear hb hown))
    all_goals
      go_wp2_with fail
      go_meet
      refine ⟨ex, fx, ey, fy, ((((((((((((((((HXX.out.set 0 _).set 1 _).set 2 _).set 3 _).set 4 _).set 5 _).set 6 _).set 7 _).other (a := ⟨w.heap.size + 1, 0, none⟩) (by simp) _).other (a := ⟨w.heap.size + 1, 1, none⟩) (by simp) _).other (a := ⟨w.heap.size + 1, 2, none⟩) (by simp) _).other (a := ⟨w.heap.size + 1, 3, none⟩) (by simp) _).other (a := ⟨w.heap.size + 1, 4, none⟩) (by simp) _).other (a := ⟨w.heap.size + 1, 5, none⟩) (by simp) _).other (a := ⟨w.heap.size + 1, 6, none⟩) (by simp) _).other (a := ⟨w.heap.size + 1, 7, none⟩) (by simp) _), ((((((((((((((((HYY.out.other (a := ⟨w.heap.size, 0, none⟩) (by simp) _).other (a := ⟨w.heap.size, 1, none⟩) (by simp) _).other (a := ⟨w.heap.size, 2, none⟩) (by simp) _).other (a := ⟨w.heap.size, 3, none⟩) (by simp) _).other (a := ⟨w.heap.size, 4, none⟩) (by simp) _).other (a := ⟨w.heap.size, 5, none⟩) (by simp) _).other (a := ⟨w.heap.size, 6, none⟩) (by simp) _).other (a := ⟨w.heap.size, 7, none⟩) (by simp) _).set 0 _).set 1 _).set 2 _).set 3 _).set 4 _).set 5 _).set 6 _).set 7 _), ?_, ?_, ?_⟩
      · refine IntsR.of_owns (base := W.heap.size) (E := 3) ?_ (by omega)
        repeat refine ownsRow_setCell_below ?_ (by first | (simp; omega)) _
        exact HOx.out
      · refine IntsR.of_owns (base := W.heap.size) (E := 3) ?_ (by omega)
        repeat refine ownsRow_setCell_below ?_ (by first | (simp; omega)) _
        exact HOy.out
      · exact (((((((((((((((((HB.out.trans (HBA.out.mono (by omega))).setCell (by simp) _).setCell (by simp) _).setCell (by simp) _).setCell (by simp) _).setCell (by simp) _).setCell (by simp) _).setCell (by simp) _).setCell (by simp) _).setCell (by simp) _).setCell (by simp) _).setCell (by simp) _).setCell (by simp) _).setCell (by simp) _).setCell (by simp) _).setCell (by simp) _).setCell (by simp) _)
  case rest =>
    obtain ⟨ex, fx, ey, fy, hbx, hby, hix, hiy, hbc⟩ := hcut
    have hdsx := cutB_size 210 dx
    have hdsy := cutB_size 210 dy
    have hNx := cl_in nx
    have hPx := cl_in psx
    have hMx := cl_in mrx
    have hNy := cl_in ny
    have hPy := cl_in psy
    have hMy := cl_in mry
    have HBX1 := Lib.hid hbx
    have HBY1 := Lib.hid hby
    have HIx := Lib.hid hix
    have HIy := Lib.hid hiy
    have HB1 := Lib.hid hbc
    clear hbx hby hix hiy hbc HFX HFY HBA HBX HBY HB HLx HLy x0 x1 x2 x3 x4 x5 x6 x7 y0 y1 y2 y3 y4 y5 y6 y7 hdx hdy hpx hpy hB0
    generalize cutB 210 dx = Dx at *
    generalize cutB 210 dy = Dy at *
    generalize cl nx = Nx at *
    generalize cl psx = Px at *
    generalize cl mrx = Mx at *
    generalize cl ny = Ny at *
    generalize cl psy = Py at *
    generalize cl mry = My at *
    have hpx := HBX1.out.lt
    have hpy := HBY1.out.lt
    obtain ⟨x0, x1, x2, x3, x4, x5, x6, x7⟩ := HBX1.out.cells8
    go_wp2_with fail
    refine (rcheck_any kx sqx Nx Px Mx (.slice ex Lx.length fx) Lx selfx Dx _ hNx.1 hPx.1 hMx.1 HIx.out (fun x hx => (HLLx.out x hx).1) (by omega) (by omega)).mono ?_
    rintro e w4 ⟨rfl, hb4⟩
    have HBX2 := Lib.hid (HBX1.out.below hb4 hpx)
    have HBY2 := Lib.hid (HBY1.out.below hb4 hpy)
    have HB2 := Lib.hid (belSeq HB1.out hb4)
    have HIx2 := Lib.hid (HIx.out.below hb4 (Nat.le_refl _))
    have HIy2 := Lib.hid (HIy.out.below hb4 (Nat.le_refl _))
    have hpx2 := HBX2.out.lt
    have hpy2 := HBY2.out.lt
    clear hb4 HBX1 HBY1 HB1 HIx HIy x0 x1 x2 x3 x4 x5 x6 x7
    by_cases hcx : checkOf kx sqx Nx Px Mx Lx selfx Dx.size = 0
    case neg =>
      have hck2 : (checkOf kx sqx Nx Px Mx Lx selfx Dx.size != 0) = true := by simpa using hcx
      clear hcx
      generalize checkOf kx sqx Nx Px Mx Lx selfx Dx.size = C at *
      go_wp2_with fail
      go_ret
      exact ⟨rfl, HB2.out⟩
    have HCX := Lib.hid hcx
    rw [hcx]
    clear hcx
    obtain ⟨y0, y1, y2, y3, y4, y5, y6, y7⟩ := HBY2.out.cells8
    go_wp2_with fail
    refine (rcheck_any ky sqy Ny Py My (.slice ey Ly.length fy) Ly selfy Dy _ hNy.1 hPy.1 hMy.1 HIy2.out (fun x hx => (HLLy.out x hx).1) (by omega) (by omega)).mono ?_
    rintro e W1 ⟨rfl, hb4⟩
    have HBX3 := Lib.hid (HBX2.out.below hb4 hpx2)
    have HBY3 := Lib.hid (HBY2.out.below hb4 hpy2)
    have HB3 := Lib.hid (belSeq HB2.out hb4)
    have HIx := Lib.hid (HIx2.out.below hb4 (Nat.le_refl _))
    have HIy := Lib.hid (HIy2.out.below hb4 (Nat.le_refl _))
    have hpx := HBX3.out.lt
    have hpy := HBY3.out.lt
    clear hb4 HBX2 HBY2 HB2 HIx2 HIy2 y0 y1 y2 y3 y4 y5 y6 y7 hpx2 hpy2
    by_cases hcy : checkOf ky sqy Ny Py My Ly selfy Dy.size = 0
    case neg =>
      have hck2 : (checkOf ky sqy Ny Py My Ly selfy Dy.size != 0) = true := by simpa using hcy
      clear hcy
      generalize checkOf ky sqy Ny Py My Ly selfy Dy.size = C at *
      go_wp2_with fail
      go_ret
      exact ⟨rfl, HB3.out⟩
    have HCY := Lib.hid hcy
    rw [hcy]
    clear hcy
    have HOWx : Hid (∀ w : World, IntsR .i64 w (.slice ex Lx.length fx) Lx → Calls Try.prog 9 #[.agg #[.int .i64 kx, .int .i64 sqx, .int .i64 Nx, .int .i64 Px, .int .i64 Mx, .slice ex Lx.length fx, .bool selfx, .string Dx]] w (fun e w' => ∃ lv', e = .returned (.agg #[.int .i64 kx, .int .i64 sqx, .int .u32 Nx, .int .u32 Px, .int .u32 Mx, lv', .bool selfx, .string Dx]) ∧ IntsR .u32 w' lv' Lx ∧ Below w.heap.size w w')) := Lib.hid (fun w h => own_few kx sqx Nx Px Mx (.slice ex Lx.length fx) Lx selfx Dx w hNx hPx hMx h (by omega) HLLx.out)
    have HOWy : Hid (∀ w : World, IntsR .i64 w (.slice ey Ly.length fy) Ly → Calls Try.prog 9 #[.agg #[.int .i64 ky, .int .i64 sqy, .int .i64 Ny, .int .i64 Py, .int .i64 My, .slice ey Ly.length fy, .bool selfy, .string Dy]] w (fun e w' => ∃ lv', e = .returned (.agg #[.int .i64 ky, .int .i64 sqy, .int .u32 Ny, .int .u32 Py, .int .u32 My, lv', .bool selfy, .string Dy]) ∧ IntsR .u32 w' lv' Ly ∧ Below w.heap.size w w')) := Lib.hid (fun w h => own_few ky sqy Ny Py My (.slice ey Ly.length fy) Ly selfy Dy w hNy hPy hMy h (by omega) HLLy.out)
    have HBYx : Hid (∀ (w : World) lv, IntsR .u32 w lv Lx → Calls Try.prog 12 #[.agg #[.int .i64 kx, .int .i64 sqx, .int .u32 Nx, .int .u32 Px, .int .u32 Mx, lv, .bool selfx, .string Dx]] w fun e w' => e = .returned (.string ⟨(bytesOf kx sqx Nx Px Mx Lx selfx Dx.data.toList).toArray⟩) ∧ Below w.heap.size w w') := Lib.hid (fun w lv h => bytes_ok kx sqx Nx Px Mx lv Lx selfx Dx w hNx.1 hPx.1 hMx.1 h (fun x hx => (HLLx.out x hx).1) HCX.out)
    have HBYy : Hid (∀ (w : World) lv, IntsR .u32 w lv Ly → Calls Try.prog 12 #[.agg #[.int .i64 ky, .int .i64 sqy, .int .u32 Ny, .int .u32 Py, .int .u32 My, lv, .bool selfy, .string Dy]] w fun e w' => e = .returned (.string ⟨(bytesOf ky sqy Ny Py My Ly selfy Dy.data.toList).toArray⟩) ∧ Below w.heap.size w w') := Lib.hid (fun w lv h => bytes_ok ky sqy Ny Py My lv Ly selfy Dy w hNy.1 hPy.1 hMy.1 h (fun x hx => (HLLy.out x hx).1) HCY.out)
    have HSM : Hid (∀ (w : World) lv, IntsR .u32 w lv Lx → IntsR .i64 w (.slice ey Ly.length fy) Ly → Calls Try.prog 15 #[.agg #[.int .i64 kx, .int .i64 sqx, .int .u32 Nx, .int .u32 Px, .int .u32 Mx, lv, .bool selfx, .string Dx], .agg #[.int .i64 ky, .int .i64 sqy, .int .i64 Ny, .int .i64 Py, .int .i64 My, .slice ey Ly.length fy, .bool selfy, .string Dy]] w fun e w' => e = .returned (.bool (sameB kx sqx Nx Px Mx Lx selfx Dx ky sqy Ny Py My Ly selfy Dy)) ∧ Below w.heap.size w w') := Lib.hid (fun w lv h h' => same_any kx sqx Nx Px Mx lv Lx selfx Dx ky sqy Ny Py My (.slice ey Ly.length fy) Ly selfy Dy w hNx hPx hMx h h' (by omega) HLLx.out)
    have HEQ : Hid (sameB kx sqx Nx Px Mx Lx selfx Dx ky sqy Ny Py My Ly selfy Dy = decide (bytesOf kx sqx Nx Px Mx Lx selfx Dx.data.toList = bytesOf ky sqy Ny Py My Ly selfy Dy.data.toList)) := Lib.hid (by
      unfold sameB
      rw [decide_eq_decide]
      constructor
      · rintro ⟨rfl, rfl, rfl, rfl, rfl, rfl, rfl, rfl⟩; rfl
      · intro h
        obtain ⟨h1, h2, h3, h4, h5, h6, h7, h8⟩ := bytesOf_inj hNx.1 hPx.1 hMx.1 (fun x hx => (HLLx.out x hx).1) hNy.1 hPy.1 hMy.1 (fun x hx => (HLLy.out x hx).1) (by rw [size_len]; exact HCX.out) (by rw [size_len]; exact HCY.out) h
        exact ⟨h1, h2, h3, h4, h5, h6, str_eq h7, h8⟩)
    generalize sameB kx sqx Nx Px Mx Lx selfx Dx ky sqy Ny Py My Ly selfy Dy = SB at *
    generalize bytesOf kx sqx Nx Px Mx Lx selfx Dx.data.toList = Bx at *
    generalize bytesOf ky sqy Ny Py My Ly selfy Dy.data.toList = By at *
    have HBA := Lib.hid (Below.refl W1.heap.size W1).drew
    go_wp2_with fail
    go_region_held3 (fun w' => (w'.cell? ⟨w.heap.size, 0, none⟩ = some (.int .i64 kx) ∧ w'.cell? ⟨w.heap.size, 1, none⟩ = some (.int .i64 sqx) ∧ w'.cell? ⟨w.heap.size, 2, none⟩ = some (.int .i64 Nx) ∧ w'.cell? ⟨w.heap.size, 3, none⟩ = some (.int .i64 Px) ∧ w'.cell? ⟨w.heap.size, 4, none⟩ = some (.int .i64 Mx) ∧ w'.cell? ⟨w.heap.size, 5, none⟩ = some (.slice ex Lx.length fx) ∧ w'.cell? ⟨w.heap.size, 6, none⟩ = some (.bool selfx) ∧ w'.cell? ⟨w.heap.size, 7, none⟩ = some (.string Dx)) ∧ w'.cell? ⟨w.heap.size + 1, 0, none⟩ = some (.int .i64 ky) ∧ w'.cell? ⟨w.heap.size + 1, 1, none⟩ = some (.int .i64 sqy) ∧ w'.cell? ⟨w.heap.size + 1, 2, none⟩ = some (.int .i64 Ny) ∧ w'.cell? ⟨w.heap.size + 1, 3, none⟩ = some (.int .i64 Py) ∧ w'.cell? ⟨w.heap.size + 1, 4, none⟩ = some (.int .i64 My) ∧ w'.cell? ⟨w.heap.size + 1, 5, none⟩ = some (.slice ey Ly.length fy) ∧ w'.cell? ⟨w.heap.size + 1, 6, none⟩ = some (.bool selfy) ∧ w'.cell? ⟨w.heap.size + 1, 7, none⟩ = some (.string Dy)) (exact ⟨(HBX3.out.below HBA.out hpx).cells8, (HBY3.out.below HBA.out hpy).cells8⟩) (first | (go_at_call 9; (with_reducible refine (HOWx.out _ (HIx.out.below HBA.out (Nat.le_refl _))).mono ?_); rintro e w' ⟨lv6, rfl, hI, hb⟩; have HI := Lib.hid hI; have HBA : Hid (Below W1.heap.size W1 w') := Lib.hid (belSeq2 HBA.out hb); clear hI hb) | (go_at_call 9; (with_reducible refine (HOWy.out _ (HIy.out.below HBA.out (Nat.le_refl _))).mono ?_); rintro e w' ⟨lv6, rfl, hI, hb⟩; have HI := Lib.hid hI; have HBA : Hid (Below W1.heap.size W1 w') := Lib.hid (belSeq2 HBA.out hb); clear hI hb) | (go_at_call 12; (with_reducible refine (HBYx.out _ _ HI.out).mono ?_); rintro e w' ⟨rfl, hb⟩; have HBA : Hid (Below W1.heap.size W1 w') := Lib.hid (belSeq2 HBA.out hb); clear hb) | (go_at_call 12; (with_reducible refine (HBYy.out _ _ HI.out).mono ?_); rintro e w' ⟨rfl, hb⟩; have HBA : Hid (Below W1.heap.size W1 w') := Lib.hid (belSeq2 HBA.out hb); clear hb) | (go_at_call 15; (with_reducible refine (HSM.out _ _ HI.out (HIy.out.below HBA.out (Nat.le_refl _))).mono ?_); rintro e w' ⟨rfl, hb⟩; have HBA : Hid (Below W1.heap.size W1 w') := Lib.hid (belSeq2 HBA.out hb); clear hb))
    all_goals
      go_wp2_with fail
      go_ret
      exact ⟨ret_bool (by rw [HEQ.out]; by_cases h : Bx = By <;> simp [h]), belSeq HB3.out HBA.out⟩
end Go.Proofs.Ytijneajaplebnaa
