/-
  AuditEpochs answers true, at every input: the walk.
-/
import Derived.Test.YtbppgicdmkkmnaaDoorAuAwake
import Derived.Deep.RegionHeld3
set_option linter.unusedVariables false
set_option linter.unusedSimpArgs false
namespace Go.Proofs.YtbppgicdmkkmnaaDoor
open Go.RowKit

def epQ (e : EndS) : AudS := { st0 := 7, st1 := 7, e0 := e, e1 := zeroE, l := [] }
def epG (k : Nat) : EndS := { freshE 7 43 none with s := 7 + (k : Int) }
theorem epG_zero : freshE 7 43 none = epG 0 := rfl
theorem ep_grant (e : EndS) (w : World) (hc : e.credit ≤ 43) : StepR w (epQ e) 0 ⟨0, 2, 1, 50, 0, none, 0, 0, 0, 0, 0⟩ false (epQ { e with credit := 43 }) := by
  have := StepR.grant (w := w) (P := epQ e) (i := 0) 1 50 0 0 0 0 false (.inl rfl)
  have h1 : (epQ e).put 0 (grantE ((epQ e).e 0) ((50 - (epQ e).st 0) % 16777216)) = epQ { e with credit := 43 } := by
    show epQ (grantE e 43) = _
    unfold grantE
    rw [if_pos (by decide), show max e.credit 43 = 43 by omega]
  rw [h1] at this; exact this
theorem ep_ask (e : EndS) (w : World) (q : Int) (hq : q = 2 ∨ q = 5 ∨ q = 6) (hc : e.credit = 43) : StepR w (epQ e) 0 ⟨0, 6, 0, 0, 0, none, 0, 0, 0, 0, q⟩ false (epQ (epG 0)) := by
  have := StepR.ask (w := w) (P := epQ e) (i := 0) 0 0 0 0 0 q false hq
  have h1 : (epQ e).put 0 (freshE ((epQ e).st 0) ((epQ e).e 0).credit none) = epQ (epG 0) := by
    show epQ (freshE 7 e.credit none) = _
    rw [hc]; rfl
  rw [h1] at this; exact this
theorem ep_sd (k : Nat) (w : World) (hk : k ≤ 20) : StepR w (epQ (epG k)) 0 ⟨0, 1, 8, 7 + (k : Int), 0, none, 0, 0, 0, 0, 0⟩ false (epQ (epG (k + 1))) := by
  have := StepR.sd (w := w) (P := epQ (epG k)) (i := 0) (7 + (k : Int)) 0 0 0 false rfl (by omega) (by omega)
  have h1 : dataA (epQ (epG k)) 0 0 (7 + (k : Int)) = epQ (epG (k + 1)) := by
    unfold dataA
    rw [if_pos (show 7 + (k : Int) = ((epQ (epG k)).e 0).s from rfl)]
    have hb : betB ((epQ (epG k)).e 0).a (7 + (k : Int)) ((epQ (epG k)).e 0).ms = true := by
      show decide ((7 + (k : Int) - 7) % 16777216 < ((50 : Int) - 7) % 16777216) = true
      exact decide_eq_true (by omega)
    rw [if_pos hb]
    show epQ { epG k with s := (7 + (k : Int) + 1) % 16777216 } = _
    rw [show (7 + (k : Int) + 1) % 16777216 = 7 + ((k + 1 : Nat) : Int) by omega]
    rfl
  rw [h1] at this; exact this
theorem ep_came (n : Nat) (w : World) (g c : Nat) (hg : BoxAt w g 24 [.int .u32 7, .int .u32 8]) : StepR w (epQ (epG n)) 0 ⟨0, 2, 12, 7, 60, some ⟨g, 0, none⟩, 2, c, 0, 0, 0⟩ false (epQ (cameE (epG n) 7 60 [7])) :=
  StepR.ustat (w := w) (P := epQ (epG n)) (i := 0) 7 60 7 0 0 0 g c rfl (by decide) (by decide) hg
theorem came_credit (e : EndS) (n mr x : Int) : (cameE e n mr [x]).credit = e.credit := by
  unfold cameE
  show (came2 (came1 e n) mr).credit = _
  unfold came2; split
  · show (came1 e n).credit = _; unfold came1; split <;> rfl
  · unfold came1; split <;> rfl
theorem ep_last (n : Nat) (w : World) (h0 : 1 ≤ n) (hn : n ≤ 16) : StepR w (epQ (epG n)) 0 ⟨0, 1, 8, 7 + ((0 : Nat) : Int), 0, none, 0, 0, 0, 0, 0⟩ false (((epQ (epG n)).tell 0 againW).put 0 { epG n with f := updF (fun _ => 0) 7 0, cnt := 1 }) := by
  have := StepR.sd (w := w) (P := epQ (epG n)) (i := 0) 7 0 0 0 false rfl (by omega) (by omega)
  have h1 : dataA (epQ (epG n)) 0 0 7 = ((epQ (epG n)).tell 0 againW).put 0 { epG n with f := updF (fun _ => 0) 7 0, cnt := 1 } := by
    unfold dataA
    rw [if_neg (show ¬ (7 : Int) = ((epQ (epG n)).e 0).s from fun e => by have e2 : (7 : Int) = 7 + (n : Int) := e; omega)]
    have hb : betB ((epQ (epG n)).e 0).a 7 ((epQ (epG n)).e 0).s = true := by
      show decide (((7 : Int) - 7) % 16777216 < (7 + (n : Int) - 7) % 16777216) = true
      exact decide_eq_true (by omega)
    rw [if_pos hb, if_pos (show ((epQ (epG n)).e 0).f 7 = 0 from rfl)]
    rfl
  rw [h1] at this; exact this
theorem small_ep (e : EndS) (h : e.cnt ≤ 10) : small (epQ e) 900 := ⟨Nat.zero_le _, fun i => by unfold AudS.e; split; exact Nat.le_trans h (by decide); exact Nat.zero_le _⟩
/-- What holds in the statement's world. -/
structure EpRel (w : World) (B b ba bh : Nat) (how : Int) (P : AudS) (wx : World) : Prop where
  aud : AudP wx B b P
  box : BoxAt wx ba 25 [.pointer (some ⟨b, 0, none⟩)]
  hbox : BoxAt wx bh 3 [.int .i64 how]
  below : Below w.heap.size w wx
  ge : w.heap.size ≤ B
  size : B ≤ wx.heap.size
theorem EpRel.keepB {w wx wy : World} {B b ba bh : Nat} {how : Int} {P : AudS} (h : EpRel w B b ba bh how P wx) (hb : Below wx.heap.size wx wy) : EpRel w B b ba bh how P wy :=
  ⟨h.aud.below hb, h.box.below hb h.box.lt, h.hbox.below hb h.hbox.lt, h.below.trans (hb.mono h.below.size), h.ge, Nat.le_trans h.size hb.size⟩
theorem EpRel.step {w wx wy : World} {B b ba bh : Nat} {how : Int} {P P' : AudS} (h : EpRel w B b ba bh how P wx) (hr : AddRel wx B b P' wy) : EpRel w B b ba bh how P' wy :=
  ⟨hr.aud, hr.keep.box h.box (by decide) (by decide), hr.keep.box h.hbox (by decide) (by decide), h.below.trans ((hr.keep.to_below h.size).mono h.ge), h.ge, Nat.le_trans h.size hr.keep.size⟩
def EpEnd (w : World) (B b ba bh : Nat) (how : Int) (P : AudS) (e : Ending) (w' : World) : Prop := e = .returned (.tuple #[]) ∧ EpRel w B b ba bh how P w'
theorem recs_one {w W : World} {g : Nat} {en kd k n mr sk sc rk : Int} {la : Option Addr} {ll lc : Nat} (h : BoxAt W g 36 [.int .i64 en, .int .i64 kd, .int .i64 k, .int .i64 0, .int .u32 n, .int .u32 0, .int .u32 mr, .slice la ll lc, .bool false, .string ⟨#[]⟩, .int .i64 sk, .string ⟨#[]⟩, .bool false, .int .u8 sc, .int .i64 0, .int .i64 rk, .string ⟨#[]⟩, .int .i64 0]) : RecsAt W g [⟨en, kd, k, n, mr, la, ll, lc, sk, sc, rk⟩] := h
set_option maxRecDepth 100000 in
set_option maxHeartbeats 2000000 in
theorem sd_clo (w0 : World) (B b ba bh k : Nat) (how : Int) (P P' : AudS) (w : World) (h : EpRel w0 B b ba bh how P w) (hk : k ≤ 20) (hs : ∀ W, StepR W P 0 ⟨0, 1, 8, 7 + (k : Int), 0, none, 0, 0, 0, 0, 0⟩ false P') (hP : small P 900) :
    Calls Tryd.prog 13 #[.int .i64 (k : Int), .pointer (some ⟨ba, 0, none⟩)] w (EpEnd w0 B b ba bh how P') := by
  have c0 := h.box.cells1
  have hw1 : IntKind.u32.wrap (7 + (k : Int)) = 7 + (k : Int) := by rw [IntKind.wrap_u32]; omega
  have H := Lib.hid h
  have HS := Lib.hid hs
  have HP := Lib.hid hP
  clear h hs hP
  go_enter Tryd.func13, Tryd.ntmps13
  go_wp2_with fail
  generalize hx : 7 + (k : Int) = x at *
  have hb1 := (Below.refl w.heap.size w).alloc (Nat.le_refl _) (.cells #[.int .i64 0, .int .i64 1, .int .i64 8, .int .i64 0, .int .u32 x, .int .u32 0, .int .u32 0, .slice none 0 0, .bool false, .string ⟨#[]⟩, .int .i64 0, .string ⟨#[]⟩, .bool false, .int .u8 0, .int .i64 0, .int .i64 0, .string ⟨#[]⟩, .int .i64 0] 36)
  have HR : Hid (RecsAt (w.alloc (.cells #[.int .i64 0, .int .i64 1, .int .i64 8, .int .i64 0, .int .u32 x, .int .u32 0, .int .u32 0, .slice none 0 0, .bool false, .string ⟨#[]⟩, .int .i64 0, .string ⟨#[]⟩, .bool false, .int .u8 0, .int .i64 0, .int .i64 0, .string ⟨#[]⟩, .int .i64 0] 36)) w.heap.size [⟨0, 1, 8, x, 0, none, 0, 0, 0, 0, 0⟩]) := Lib.hid (recs_one (w := w) (BoxAt.new w _ _))
  have H1 := Lib.hid (H.out.keepB hb1)
  clear hb1 H c0
  generalize w.alloc _ = w1 at *
  generalize w.heap.size = g at *
  refine (add_one B b g _ 0 _ P P' w1 H1.out.aud HR.out (by decide) (HS.out w1) HP.out H1.out.size).mono ?_
  rintro e w2 ⟨rfl, hr2⟩
  have H2 := Lib.hid (H1.out.step hr2)
  clear hr2
  go_wp2_with fail
  go_end0
  exact ⟨rfl, H2.out⟩
theorem kinds_rem (how : Int) : Int.tmod (how % 256) 3 = 0 ∨ Int.tmod (how % 256) 3 = 1 ∨ Int.tmod (how % 256) 3 = 2 := by
  rw [Int.tmod_eq_emod_of_nonneg (by omega)]; omega
def asksL (k : Nat) : Int := if k = 0 then 2 else if k = 1 then 5 else 6
theorem begin_recs (w : World) (q : Int) : RecsAt ((w.drew.alloc (.cells #[.int .i64 2, .int .i64 5, .int .i64 6] 3)).alloc (.cells #[.int .i64 0, .int .i64 2, .int .i64 1, .int .i64 0, .int .u32 50, .int .u32 0, .int .u32 0, .slice none 0 0, .bool false, .string ⟨#[]⟩, .int .i64 0, .string ⟨#[]⟩, .bool false, .int .u8 0, .int .i64 0, .int .i64 0, .string ⟨#[]⟩, .int .i64 0, .int .i64 0, .int .i64 6, .int .i64 0, .int .i64 0, .int .u32 0, .int .u32 0, .int .u32 0, .slice none 0 0, .bool false, .string ⟨#[]⟩, .int .i64 0, .string ⟨#[]⟩, .bool false, .int .u8 0, .int .i64 0, .int .i64 q, .string ⟨#[]⟩, .int .i64 0] 36)) (w.heap.size + 1) [⟨0, 2, 1, 50, 0, none, 0, 0, 0, 0, 0⟩, ⟨0, 6, 0, 0, 0, none, 0, 0, 0, 0, q⟩] := by
  unfold RecsAt
  exact BoxAt.newAt (w := w.drew.alloc (.cells #[.int .i64 2, .int .i64 5, .int .i64 6] 3)) (b := w.heap.size + 1) (by show (w.heap.push _).size = _; exact Array.size_push _) 36 [.int .i64 0, .int .i64 2, .int .i64 1, .int .i64 0, .int .u32 50, .int .u32 0, .int .u32 0, .slice none 0 0, .bool false, .string ⟨#[]⟩, .int .i64 0, .string ⟨#[]⟩, .bool false, .int .u8 0, .int .i64 0, .int .i64 0, .string ⟨#[]⟩, .int .i64 0, .int .i64 0, .int .i64 6, .int .i64 0, .int .i64 0, .int .u32 0, .int .u32 0, .int .u32 0, .slice none 0 0, .bool false, .string ⟨#[]⟩, .int .i64 0, .string ⟨#[]⟩, .bool false, .int .u8 0, .int .i64 0, .int .i64 q, .string ⟨#[]⟩, .int .i64 0]
set_option maxRecDepth 100000 in
set_option maxHeartbeats 2000000 in
theorem begin_0 (w0 : World) (B b ba bh : Nat) (how : Int) (e : EndS) (w : World) (h : EpRel w0 B b ba bh how (epQ e) w) (hc : e.credit ≤ 43) (hP : small (epQ e) 900) (ht : Int.tmod (how % 256) 3 = 0) :
    Calls Tryd.prog 12 #[.pointer (some ⟨ba, 0, none⟩), .pointer (some ⟨bh, 0, none⟩)] w (EpEnd w0 B b ba bh how (epQ (epG 0))) := by
  have c0 := h.box.cells1
  have c1 := h.hbox.cells1
  have H := Lib.hid h
  have HC := Lib.hid hc
  have HP := Lib.hid hP
  have HR := Lib.hid (begin_recs w 2)
  have hb0 := (Below.refl w.heap.size w).drew
  have HB0 := Lib.hid (H.out.keepB hb0)
  have hb2 := hb0.alloc (Nat.le_refl _) (.cells #[.int .i64 2, .int .i64 5, .int .i64 6] 3)
  have HB2 := Lib.hid (H.out.keepB hb2)
  have hb1 := hb2.alloc (by simp) (.cells #[.int .i64 0, .int .i64 2, .int .i64 1, .int .i64 0, .int .u32 50, .int .u32 0, .int .u32 0, .slice none 0 0, .bool false, .string ⟨#[]⟩, .int .i64 0, .string ⟨#[]⟩, .bool false, .int .u8 0, .int .i64 0, .int .i64 0, .string ⟨#[]⟩, .int .i64 0, .int .i64 0, .int .i64 6, .int .i64 0, .int .i64 0, .int .u32 0, .int .u32 0, .int .u32 0, .slice none 0 0, .bool false, .string ⟨#[]⟩, .int .i64 0, .string ⟨#[]⟩, .bool false, .int .u8 0, .int .i64 0, .int .i64 2, .string ⟨#[]⟩, .int .i64 0] 36)
  have H1 := Lib.hid (H.out.keepB hb1)
  clear hb1 hb0 hb2 h hc hP
  go_enter Tryd.func12, Tryd.ntmps12
  go_wp2_with fail
  refine wp_region_noPanic ?_
  refine wp_region_held_drew (S := fun w' => w'.cell? ⟨ba, 0, none⟩ = some (.pointer (some ⟨b, 0, none⟩)) ∧ w'.cell? ⟨bh, 0, none⟩ = some (.int .i64 how)) (by kernel_rfl) ⟨HB0.out.box.cells1, HB0.out.hbox.cells1⟩ (fun hHeld => ?_)
  refine wpAnyH_take (i := 0) (oi := ⟨some 2, _, _, _, _, _⟩) (v := ?_) rfl (by kernel_rfl) (by kernel_rfl) (by kernel_rfl) (fun _ _ _ h => h) (Or.inl ⟨by kernel_rfl, ?_⟩) (by assumption) ?_
  rotate_left 1
  · intro w hSw; (try dsimp only at hSw); go_simp; try (with_reducible rfl)
  try simp only [Act.put, List.setIfInBounds_toArray, List.set_cons_zero, List.set_cons_succ]
  refine wpAnyH_take (i := 1) (oi := ⟨some 3, _, _, _, _, _⟩) (v := ?_) rfl (by kernel_rfl) (by kernel_rfl) (by kernel_rfl) (fun _ _ _ h => h) (Or.inl ⟨by kernel_rfl, ?_⟩) (by assumption) ?_
  rotate_left 1
  · intro w hSw; (try dsimp only at hSw); go_simp; try (with_reducible rfl)
  try simp only [Act.put, List.setIfInBounds_toArray, List.set_cons_zero, List.set_cons_succ]
  refine wpAnyH_take (i := 2) (oi := ⟨some 4, _, _, _, _, _⟩) (v := ?_) rfl (by kernel_rfl) (by kernel_rfl) (by kernel_rfl) (fun _ _ _ h => h) (Or.inl ⟨by kernel_rfl, ?_⟩) (by assumption) ?_
  rotate_left 1
  · intro w hSw; (try dsimp only at hSw); go_simp; try (with_reducible rfl)
  try simp only [Act.put, List.setIfInBounds_toArray, List.set_cons_zero, List.set_cons_succ]
  refine wpAnyH_take (i := 4) (oi := ⟨some 6, _, _, _, _, _⟩) (v := ?_) rfl (by kernel_rfl) (by kernel_rfl) (by kernel_rfl) (fun _ _ _ h => h) (Or.inl ⟨by kernel_rfl, ?_⟩) (by assumption) ?_
  rotate_left 1
  · intro w hSw; (try dsimp only at hSw); go_simp; try (with_reducible rfl)
  try simp only [Act.put, List.setIfInBounds_toArray, List.set_cons_zero, List.set_cons_succ]
  refine wpAnyH_take (i := 5) (oi := ⟨some 7, _, _, _, _, _⟩) (v := ?_) rfl (by kernel_rfl) (by kernel_rfl) (by kernel_rfl) (fun _ _ _ h => h) (Or.inl ⟨by kernel_rfl, ?_⟩) (by assumption) ?_
  rotate_left 1
  · intro w hSw; (try dsimp only at hSw); go_simp; try (with_reducible rfl)
  try simp only [Act.put, List.setIfInBounds_toArray, List.set_cons_zero, List.set_cons_succ]
  refine wpAnyH_take (i := 6) (oi := ⟨some 8, _, _, _, _, _⟩) (v := ?_) rfl (by kernel_rfl) (by kernel_rfl) (by kernel_rfl) (fun _ _ _ h => h) (Or.inl ⟨by kernel_rfl, ?_⟩) (by assumption) ?_
  rotate_left 1
  · intro w hSw; (try dsimp only at hSw); go_simp; try (with_reducible rfl)
  try simp only [Act.put, List.setIfInBounds_toArray, List.set_cons_zero, List.set_cons_succ]
  refine wpAnyH_ready (rs := [3]) (by kernel_rfl) (by simp) ?_
  refine AllReadyH.cons (o := ⟨some 5, _, _, _, _, _⟩) rfl (fun K hK => ?_) AllReadyH.nil
  go_simp
  refine hK.out _ _ (by exact ⟨HB2.out.box.cells1, HB2.out.hbox.cells1⟩) (fun hHeld => ?_)
  clear hK K
  try simp only [Act.put, List.setIfInBounds_toArray, List.set_cons_zero, List.set_cons_succ]
  refine wpAnyH_take (i := 7) (oi := ⟨some 9, _, _, _, _, _⟩) (v := ?_) rfl (by kernel_rfl) (by kernel_rfl) (by kernel_rfl) (fun _ _ _ h => h) (Or.inl ⟨by kernel_rfl, ?_⟩) (by assumption) ?_
  rotate_left 1
  · intro w hSw; (try dsimp only at hSw); go_simp; try (with_reducible rfl)
  try simp only [Act.put, List.setIfInBounds_toArray, List.set_cons_zero, List.set_cons_succ]
  refine wpAnyH_ready (rs := [8]) (by kernel_rfl) (by simp) ?_
  refine AllReadyH.cons (o := ⟨some 10, _, _, _, _, _⟩) rfl (fun K hK => ?_) AllReadyH.nil
  go_simp
  refine hK.out _ _ (by exact ⟨HB2.out.box.cells1, HB2.out.hbox.cells1⟩) (fun hHeld => ?_)
  clear hK K
  try simp only [Act.put, List.setIfInBounds_toArray, List.set_cons_zero, List.set_cons_succ]
  refine wpAnyH_take (i := 9) (oi := ⟨some 11, _, _, _, _, _⟩) (v := ?_) rfl (by kernel_rfl) (by kernel_rfl) (by kernel_rfl) (fun _ _ _ h => h) (Or.inl ⟨by kernel_rfl, ?_⟩) (by assumption) ?_
  rotate_left 1
  · intro w hSw; (try dsimp only at hSw); go_simp; try (with_reducible rfl)
  try simp only [Act.put, List.setIfInBounds_toArray, List.set_cons_zero, List.set_cons_succ]
  refine wpAnyH_take (i := 10) (oi := ⟨some 12, _, _, _, _, _⟩) (v := ?_) rfl (by kernel_rfl) (by kernel_rfl) (by kernel_rfl) (fun _ _ _ h => h) (Or.inl ⟨by kernel_rfl, ?_⟩) (by assumption) ?_
  rotate_left 1
  · intro w hSw; (try dsimp only at hSw); go_simp; try (with_reducible rfl)
  try simp only [Act.put, List.setIfInBounds_toArray, List.set_cons_zero, List.set_cons_succ]
  refine wpAnyH_ready (rs := [11]) (by kernel_rfl) (by simp) ?_
  refine AllReadyH.cons (o := ⟨some 13, _, _, _, _, _⟩) rfl (fun K hK => ?_) AllReadyH.nil
  go_simp
  refine hK.out _ _ (by exact ⟨H1.out.box.cells1, H1.out.hbox.cells1⟩) (fun hHeld => ?_)
  clear hK K
  try simp only [Act.put, List.setIfInBounds_toArray, List.set_cons_zero, List.set_cons_succ]
  refine wpAnyH_ready (rs := [12]) (by kernel_rfl) (by simp) ?_
  refine AllReadyH.cons (o := ⟨some 14, _, _, _, _, _⟩) rfl (fun K hK => ?_) AllReadyH.nil
  go_simp
  refine (add_two B b (w.heap.size + 1) _ 0 0 _ _ _ _ _ _ H1.out.aud HR.out (by decide) (by decide) (ep_grant e _ HC.out) (ep_ask _ _ 2 (.inl rfl) rfl) HP.out H1.out.size).mono ?_
  rintro e w2 ⟨rfl, hr2⟩
  have H2 := Lib.hid (H1.out.step hr2)
  clear hr2
  try go_wp2_with fail
  refine hK.out _ _ (by exact ⟨H2.out.box.cells1, H2.out.hbox.cells1⟩) (fun hHeld => ?_)
  clear hK K
  try simp only [Act.put, List.setIfInBounds_toArray, List.set_cons_zero, List.set_cons_succ]
  refine wpAnyH_done (by kernel_rfl) ?_ _
  refine NoPanic.normal ?_
  go_wp2_with fail
  go_end0
  exact ⟨rfl, H2.out⟩
set_option maxRecDepth 100000 in
set_option maxHeartbeats 2000000 in
theorem begin_1 (w0 : World) (B b ba bh : Nat) (how : Int) (e : EndS) (w : World) (h : EpRel w0 B b ba bh how (epQ e) w) (hc : e.credit ≤ 43) (hP : small (epQ e) 900) (ht : Int.tmod (how % 256) 3 = 1) :
    Calls Tryd.prog 12 #[.pointer (some ⟨ba, 0, none⟩), .pointer (some ⟨bh, 0, none⟩)] w (EpEnd w0 B b ba bh how (epQ (epG 0))) := by
  have c0 := h.box.cells1
  have c1 := h.hbox.cells1
  have H := Lib.hid h
  have HC := Lib.hid hc
  have HP := Lib.hid hP
  have HR := Lib.hid (begin_recs w 5)
  have hb0 := (Below.refl w.heap.size w).drew
  have HB0 := Lib.hid (H.out.keepB hb0)
  have hb2 := hb0.alloc (Nat.le_refl _) (.cells #[.int .i64 2, .int .i64 5, .int .i64 6] 3)
  have HB2 := Lib.hid (H.out.keepB hb2)
  have hb1 := hb2.alloc (by simp) (.cells #[.int .i64 0, .int .i64 2, .int .i64 1, .int .i64 0, .int .u32 50, .int .u32 0, .int .u32 0, .slice none 0 0, .bool false, .string ⟨#[]⟩, .int .i64 0, .string ⟨#[]⟩, .bool false, .int .u8 0, .int .i64 0, .int .i64 0, .string ⟨#[]⟩, .int .i64 0, .int .i64 0, .int .i64 6, .int .i64 0, .int .i64 0, .int .u32 0, .int .u32 0, .int .u32 0, .slice none 0 0, .bool false, .string ⟨#[]⟩, .int .i64 0, .string ⟨#[]⟩, .bool false, .int .u8 0, .int .i64 0, .int .i64 5, .string ⟨#[]⟩, .int .i64 0] 36)
  have H1 := Lib.hid (H.out.keepB hb1)
  clear hb1 hb0 hb2 h hc hP
  go_enter Tryd.func12, Tryd.ntmps12
  go_wp2_with fail
  refine wp_region_noPanic ?_
  refine wp_region_held_drew (S := fun w' => w'.cell? ⟨ba, 0, none⟩ = some (.pointer (some ⟨b, 0, none⟩)) ∧ w'.cell? ⟨bh, 0, none⟩ = some (.int .i64 how)) (by kernel_rfl) ⟨HB0.out.box.cells1, HB0.out.hbox.cells1⟩ (fun hHeld => ?_)
  refine wpAnyH_take (i := 0) (oi := ⟨some 2, _, _, _, _, _⟩) (v := ?_) rfl (by kernel_rfl) (by kernel_rfl) (by kernel_rfl) (fun _ _ _ h => h) (Or.inl ⟨by kernel_rfl, ?_⟩) (by assumption) ?_
  rotate_left 1
  · intro w hSw; (try dsimp only at hSw); go_simp; try (with_reducible rfl)
  try simp only [Act.put, List.setIfInBounds_toArray, List.set_cons_zero, List.set_cons_succ]
  refine wpAnyH_take (i := 1) (oi := ⟨some 3, _, _, _, _, _⟩) (v := ?_) rfl (by kernel_rfl) (by kernel_rfl) (by kernel_rfl) (fun _ _ _ h => h) (Or.inl ⟨by kernel_rfl, ?_⟩) (by assumption) ?_
  rotate_left 1
  · intro w hSw; (try dsimp only at hSw); go_simp; try (with_reducible rfl)
  try simp only [Act.put, List.setIfInBounds_toArray, List.set_cons_zero, List.set_cons_succ]
  refine wpAnyH_take (i := 2) (oi := ⟨some 4, _, _, _, _, _⟩) (v := ?_) rfl (by kernel_rfl) (by kernel_rfl) (by kernel_rfl) (fun _ _ _ h => h) (Or.inl ⟨by kernel_rfl, ?_⟩) (by assumption) ?_
  rotate_left 1
  · intro w hSw; (try dsimp only at hSw); go_simp; try (with_reducible rfl)
  try simp only [Act.put, List.setIfInBounds_toArray, List.set_cons_zero, List.set_cons_succ]
  refine wpAnyH_take (i := 4) (oi := ⟨some 6, _, _, _, _, _⟩) (v := ?_) rfl (by kernel_rfl) (by kernel_rfl) (by kernel_rfl) (fun _ _ _ h => h) (Or.inl ⟨by kernel_rfl, ?_⟩) (by assumption) ?_
  rotate_left 1
  · intro w hSw; (try dsimp only at hSw); go_simp; try (with_reducible rfl)
  try simp only [Act.put, List.setIfInBounds_toArray, List.set_cons_zero, List.set_cons_succ]
  refine wpAnyH_take (i := 5) (oi := ⟨some 7, _, _, _, _, _⟩) (v := ?_) rfl (by kernel_rfl) (by kernel_rfl) (by kernel_rfl) (fun _ _ _ h => h) (Or.inl ⟨by kernel_rfl, ?_⟩) (by assumption) ?_
  rotate_left 1
  · intro w hSw; (try dsimp only at hSw); go_simp; try (with_reducible rfl)
  try simp only [Act.put, List.setIfInBounds_toArray, List.set_cons_zero, List.set_cons_succ]
  refine wpAnyH_take (i := 6) (oi := ⟨some 8, _, _, _, _, _⟩) (v := ?_) rfl (by kernel_rfl) (by kernel_rfl) (by kernel_rfl) (fun _ _ _ h => h) (Or.inl ⟨by kernel_rfl, ?_⟩) (by assumption) ?_
  rotate_left 1
  · intro w hSw; (try dsimp only at hSw); go_simp; try (with_reducible rfl)
  try simp only [Act.put, List.setIfInBounds_toArray, List.set_cons_zero, List.set_cons_succ]
  refine wpAnyH_ready (rs := [3]) (by kernel_rfl) (by simp) ?_
  refine AllReadyH.cons (o := ⟨some 5, _, _, _, _, _⟩) rfl (fun K hK => ?_) AllReadyH.nil
  go_simp
  refine hK.out _ _ (by exact ⟨HB2.out.box.cells1, HB2.out.hbox.cells1⟩) (fun hHeld => ?_)
  clear hK K
  try simp only [Act.put, List.setIfInBounds_toArray, List.set_cons_zero, List.set_cons_succ]
  refine wpAnyH_take (i := 7) (oi := ⟨some 9, _, _, _, _, _⟩) (v := ?_) rfl (by kernel_rfl) (by kernel_rfl) (by kernel_rfl) (fun _ _ _ h => h) (Or.inl ⟨by kernel_rfl, ?_⟩) (by assumption) ?_
  rotate_left 1
  · intro w hSw; (try dsimp only at hSw); go_simp; try (with_reducible rfl)
  try simp only [Act.put, List.setIfInBounds_toArray, List.set_cons_zero, List.set_cons_succ]
  refine wpAnyH_ready (rs := [8]) (by kernel_rfl) (by simp) ?_
  refine AllReadyH.cons (o := ⟨some 10, _, _, _, _, _⟩) rfl (fun K hK => ?_) AllReadyH.nil
  go_simp
  refine hK.out _ _ (by exact ⟨HB2.out.box.cells1, HB2.out.hbox.cells1⟩) (fun hHeld => ?_)
  clear hK K
  try simp only [Act.put, List.setIfInBounds_toArray, List.set_cons_zero, List.set_cons_succ]
  refine wpAnyH_take (i := 9) (oi := ⟨some 11, _, _, _, _, _⟩) (v := ?_) rfl (by kernel_rfl) (by kernel_rfl) (by kernel_rfl) (fun _ _ _ h => h) (Or.inl ⟨by kernel_rfl, ?_⟩) (by assumption) ?_
  rotate_left 1
  · intro w hSw; (try dsimp only at hSw); go_simp; try (with_reducible rfl)
  try simp only [Act.put, List.setIfInBounds_toArray, List.set_cons_zero, List.set_cons_succ]
  refine wpAnyH_take (i := 10) (oi := ⟨some 12, _, _, _, _, _⟩) (v := ?_) rfl (by kernel_rfl) (by kernel_rfl) (by kernel_rfl) (fun _ _ _ h => h) (Or.inl ⟨by kernel_rfl, ?_⟩) (by assumption) ?_
  rotate_left 1
  · intro w hSw; (try dsimp only at hSw); go_simp; try (with_reducible rfl)
  try simp only [Act.put, List.setIfInBounds_toArray, List.set_cons_zero, List.set_cons_succ]
  refine wpAnyH_ready (rs := [11]) (by kernel_rfl) (by simp) ?_
  refine AllReadyH.cons (o := ⟨some 13, _, _, _, _, _⟩) rfl (fun K hK => ?_) AllReadyH.nil
  go_simp
  refine hK.out _ _ (by exact ⟨H1.out.box.cells1, H1.out.hbox.cells1⟩) (fun hHeld => ?_)
  clear hK K
  try simp only [Act.put, List.setIfInBounds_toArray, List.set_cons_zero, List.set_cons_succ]
  refine wpAnyH_ready (rs := [12]) (by kernel_rfl) (by simp) ?_
  refine AllReadyH.cons (o := ⟨some 14, _, _, _, _, _⟩) rfl (fun K hK => ?_) AllReadyH.nil
  go_simp
  refine (add_two B b (w.heap.size + 1) _ 0 0 _ _ _ _ _ _ H1.out.aud HR.out (by decide) (by decide) (ep_grant e _ HC.out) (ep_ask _ _ 5 (.inr (.inl rfl)) rfl) HP.out H1.out.size).mono ?_
  rintro e w2 ⟨rfl, hr2⟩
  have H2 := Lib.hid (H1.out.step hr2)
  clear hr2
  try go_wp2_with fail
  refine hK.out _ _ (by exact ⟨H2.out.box.cells1, H2.out.hbox.cells1⟩) (fun hHeld => ?_)
  clear hK K
  try simp only [Act.put, List.setIfInBounds_toArray, List.set_cons_zero, List.set_cons_succ]
  refine wpAnyH_done (by kernel_rfl) ?_ _
  refine NoPanic.normal ?_
  go_wp2_with fail
  go_end0
  exact ⟨rfl, H2.out⟩
set_option maxRecDepth 100000 in
set_option maxHeartbeats 2000000 in
theorem begin_2 (w0 : World) (B b ba bh : Nat) (how : Int) (e : EndS) (w : World) (h : EpRel w0 B b ba bh how (epQ e) w) (hc : e.credit ≤ 43) (hP : small (epQ e) 900) (ht : Int.tmod (how % 256) 3 = 2) :
    Calls Tryd.prog 12 #[.pointer (some ⟨ba, 0, none⟩), .pointer (some ⟨bh, 0, none⟩)] w (EpEnd w0 B b ba bh how (epQ (epG 0))) := by
  have c0 := h.box.cells1
  have c1 := h.hbox.cells1
  have H := Lib.hid h
  have HC := Lib.hid hc
  have HP := Lib.hid hP
  have HR := Lib.hid (begin_recs w 6)
  have hb0 := (Below.refl w.heap.size w).drew
  have HB0 := Lib.hid (H.out.keepB hb0)
  have hb2 := hb0.alloc (Nat.le_refl _) (.cells #[.int .i64 2, .int .i64 5, .int .i64 6] 3)
  have HB2 := Lib.hid (H.out.keepB hb2)
  have hb1 := hb2.alloc (by simp) (.cells #[.int .i64 0, .int .i64 2, .int .i64 1, .int .i64 0, .int .u32 50, .int .u32 0, .int .u32 0, .slice none 0 0, .bool false, .string ⟨#[]⟩, .int .i64 0, .string ⟨#[]⟩, .bool false, .int .u8 0, .int .i64 0, .int .i64 0, .string ⟨#[]⟩, .int .i64 0, .int .i64 0, .int .i64 6, .int .i64 0, .int .i64 0, .int .u32 0, .int .u32 0, .int .u32 0, .slice none 0 0, .bool false, .string ⟨#[]⟩, .int .i64 0, .string ⟨#[]⟩, .bool false, .int .u8 0, .int .i64 0, .int .i64 6, .string ⟨#[]⟩, .int .i64 0] 36)
  have H1 := Lib.hid (H.out.keepB hb1)
  clear hb1 hb0 hb2 h hc hP
  go_enter Tryd.func12, Tryd.ntmps12
  go_wp2_with fail
  refine wp_region_noPanic ?_
  refine wp_region_held_drew (S := fun w' => w'.cell? ⟨ba, 0, none⟩ = some (.pointer (some ⟨b, 0, none⟩)) ∧ w'.cell? ⟨bh, 0, none⟩ = some (.int .i64 how)) (by kernel_rfl) ⟨HB0.out.box.cells1, HB0.out.hbox.cells1⟩ (fun hHeld => ?_)
  refine wpAnyH_take (i := 0) (oi := ⟨some 2, _, _, _, _, _⟩) (v := ?_) rfl (by kernel_rfl) (by kernel_rfl) (by kernel_rfl) (fun _ _ _ h => h) (Or.inl ⟨by kernel_rfl, ?_⟩) (by assumption) ?_
  rotate_left 1
  · intro w hSw; (try dsimp only at hSw); go_simp; try (with_reducible rfl)
  try simp only [Act.put, List.setIfInBounds_toArray, List.set_cons_zero, List.set_cons_succ]
  refine wpAnyH_take (i := 1) (oi := ⟨some 3, _, _, _, _, _⟩) (v := ?_) rfl (by kernel_rfl) (by kernel_rfl) (by kernel_rfl) (fun _ _ _ h => h) (Or.inl ⟨by kernel_rfl, ?_⟩) (by assumption) ?_
  rotate_left 1
  · intro w hSw; (try dsimp only at hSw); go_simp; try (with_reducible rfl)
  try simp only [Act.put, List.setIfInBounds_toArray, List.set_cons_zero, List.set_cons_succ]
  refine wpAnyH_take (i := 2) (oi := ⟨some 4, _, _, _, _, _⟩) (v := ?_) rfl (by kernel_rfl) (by kernel_rfl) (by kernel_rfl) (fun _ _ _ h => h) (Or.inl ⟨by kernel_rfl, ?_⟩) (by assumption) ?_
  rotate_left 1
  · intro w hSw; (try dsimp only at hSw); go_simp; try (with_reducible rfl)
  try simp only [Act.put, List.setIfInBounds_toArray, List.set_cons_zero, List.set_cons_succ]
  refine wpAnyH_take (i := 4) (oi := ⟨some 6, _, _, _, _, _⟩) (v := ?_) rfl (by kernel_rfl) (by kernel_rfl) (by kernel_rfl) (fun _ _ _ h => h) (Or.inl ⟨by kernel_rfl, ?_⟩) (by assumption) ?_
  rotate_left 1
  · intro w hSw; (try dsimp only at hSw); go_simp; try (with_reducible rfl)
  try simp only [Act.put, List.setIfInBounds_toArray, List.set_cons_zero, List.set_cons_succ]
  refine wpAnyH_take (i := 5) (oi := ⟨some 7, _, _, _, _, _⟩) (v := ?_) rfl (by kernel_rfl) (by kernel_rfl) (by kernel_rfl) (fun _ _ _ h => h) (Or.inl ⟨by kernel_rfl, ?_⟩) (by assumption) ?_
  rotate_left 1
  · intro w hSw; (try dsimp only at hSw); go_simp; try (with_reducible rfl)
  try simp only [Act.put, List.setIfInBounds_toArray, List.set_cons_zero, List.set_cons_succ]
  refine wpAnyH_take (i := 6) (oi := ⟨some 8, _, _, _, _, _⟩) (v := ?_) rfl (by kernel_rfl) (by kernel_rfl) (by kernel_rfl) (fun _ _ _ h => h) (Or.inl ⟨by kernel_rfl, ?_⟩) (by assumption) ?_
  rotate_left 1
  · intro w hSw; (try dsimp only at hSw); go_simp; try (with_reducible rfl)
  try simp only [Act.put, List.setIfInBounds_toArray, List.set_cons_zero, List.set_cons_succ]
  refine wpAnyH_ready (rs := [3]) (by kernel_rfl) (by simp) ?_
  refine AllReadyH.cons (o := ⟨some 5, _, _, _, _, _⟩) rfl (fun K hK => ?_) AllReadyH.nil
  go_simp
  refine hK.out _ _ (by exact ⟨HB2.out.box.cells1, HB2.out.hbox.cells1⟩) (fun hHeld => ?_)
  clear hK K
  try simp only [Act.put, List.setIfInBounds_toArray, List.set_cons_zero, List.set_cons_succ]
  refine wpAnyH_take (i := 7) (oi := ⟨some 9, _, _, _, _, _⟩) (v := ?_) rfl (by kernel_rfl) (by kernel_rfl) (by kernel_rfl) (fun _ _ _ h => h) (Or.inl ⟨by kernel_rfl, ?_⟩) (by assumption) ?_
  rotate_left 1
  · intro w hSw; (try dsimp only at hSw); go_simp; try (with_reducible rfl)
  try simp only [Act.put, List.setIfInBounds_toArray, List.set_cons_zero, List.set_cons_succ]
  refine wpAnyH_ready (rs := [8]) (by kernel_rfl) (by simp) ?_
  refine AllReadyH.cons (o := ⟨some 10, _, _, _, _, _⟩) rfl (fun K hK => ?_) AllReadyH.nil
  go_simp
  refine hK.out _ _ (by exact ⟨HB2.out.box.cells1, HB2.out.hbox.cells1⟩) (fun hHeld => ?_)
  clear hK K
  try simp only [Act.put, List.setIfInBounds_toArray, List.set_cons_zero, List.set_cons_succ]
  refine wpAnyH_take (i := 9) (oi := ⟨some 11, _, _, _, _, _⟩) (v := ?_) rfl (by kernel_rfl) (by kernel_rfl) (by kernel_rfl) (fun _ _ _ h => h) (Or.inl ⟨by kernel_rfl, ?_⟩) (by assumption) ?_
  rotate_left 1
  · intro w hSw; (try dsimp only at hSw); go_simp; try (with_reducible rfl)
  try simp only [Act.put, List.setIfInBounds_toArray, List.set_cons_zero, List.set_cons_succ]
  refine wpAnyH_take (i := 10) (oi := ⟨some 12, _, _, _, _, _⟩) (v := ?_) rfl (by kernel_rfl) (by kernel_rfl) (by kernel_rfl) (fun _ _ _ h => h) (Or.inl ⟨by kernel_rfl, ?_⟩) (by assumption) ?_
  rotate_left 1
  · intro w hSw; (try dsimp only at hSw); go_simp; try (with_reducible rfl)
  try simp only [Act.put, List.setIfInBounds_toArray, List.set_cons_zero, List.set_cons_succ]
  refine wpAnyH_ready (rs := [11]) (by kernel_rfl) (by simp) ?_
  refine AllReadyH.cons (o := ⟨some 13, _, _, _, _, _⟩) rfl (fun K hK => ?_) AllReadyH.nil
  go_simp
  refine hK.out _ _ (by exact ⟨H1.out.box.cells1, H1.out.hbox.cells1⟩) (fun hHeld => ?_)
  clear hK K
  try simp only [Act.put, List.setIfInBounds_toArray, List.set_cons_zero, List.set_cons_succ]
  refine wpAnyH_ready (rs := [12]) (by kernel_rfl) (by simp) ?_
  refine AllReadyH.cons (o := ⟨some 14, _, _, _, _, _⟩) rfl (fun K hK => ?_) AllReadyH.nil
  go_simp
  refine (add_two B b (w.heap.size + 1) _ 0 0 _ _ _ _ _ _ H1.out.aud HR.out (by decide) (by decide) (ep_grant e _ HC.out) (ep_ask _ _ 6 (.inr (.inr rfl)) rfl) HP.out H1.out.size).mono ?_
  rintro e w2 ⟨rfl, hr2⟩
  have H2 := Lib.hid (H1.out.step hr2)
  clear hr2
  try go_wp2_with fail
  refine hK.out _ _ (by exact ⟨H2.out.box.cells1, H2.out.hbox.cells1⟩) (fun hHeld => ?_)
  clear hK K
  try simp only [Act.put, List.setIfInBounds_toArray, List.set_cons_zero, List.set_cons_succ]
  refine wpAnyH_done (by kernel_rfl) ?_ _
  refine NoPanic.normal ?_
  go_wp2_with fail
  go_end0
  exact ⟨rfl, H2.out⟩
end Go.Proofs.YtbppgicdmkkmnaaDoor
