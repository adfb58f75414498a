/-
  What a record makes of an audit, plainly; what it wants.
-/
import Derived.Test.YtbppgicdmkkmnaaDoorAuSent
set_option linter.unusedVariables false
set_option linter.unusedSimpArgs false
namespace Go.Proofs.YtbppgicdmkkmnaaDoor
open Go.RowKit

def EndS.er (e : EndS) : EndS := { e with m := none }
def AudS.er (S : AudS) : AudS := { S with e0 := S.e0.er, e1 := S.e1.er }
theorem AudS.er_e (S : AudS) (i : Nat) : S.er.e i = (S.e i).er := by unfold AudS.er AudS.e; split <;> rfl
theorem AudS.er_put (S : AudS) (i : Nat) (x : EndS) : (S.put i x).er = S.er.put i x.er := by unfold AudS.er AudS.put; split <;> rfl
theorem AudS.er_tell (S : AudS) (i : Nat) (x : List UInt8) : (S.tell i x).er = S.er.tell i x := rfl
theorem AudS.er_l (S : AudS) : S.er.l = S.l := rfl
theorem er_came (e : EndS) (n mr : Int) (ns : List Int) : (cameE e n mr ns).er = cameE e.er n mr ns := by
  have h1 : (came1 e n).er = came1 e.er n := by unfold came1 EndS.er; split <;> rfl
  have h2 : ∀ e : EndS, (came2 e mr).er = came2 e.er mr := fun e => by unfold came2 EndS.er; split <;> rfl
  have h3 : ∀ (ns : List Int) (e : EndS), (ns.foldl nameE e).er = ns.foldl nameE e.er := fun ns => by
    induction ns with
    | nil => intro e; rfl
    | cons x ns ih => intro e; rw [List.foldl_cons, ih]; rfl
  unfold cameE
  rw [h3, h2, h1]
theorem er_data (S : AudS) (i j : Nat) (n : Int) : (dataA S i j n).er = dataA S.er i j n := by
  unfold dataA
  rw [AudS.er_e]
  by_cases h1 : n = (S.e i).s
  · rw [if_pos h1, if_pos (show n = (S.e i).er.s from h1)]
    by_cases h2 : betB (S.e i).a n (S.e i).ms = true
    · rw [if_pos h2, if_pos (show betB (S.e i).er.a n (S.e i).er.ms = true from h2), AudS.er_put]; rfl
    · rw [if_neg h2, if_neg (show ¬ betB (S.e i).er.a n (S.e i).er.ms = true from h2), AudS.er_put, AudS.er_tell]; rfl
  · rw [if_neg h1, if_neg (show ¬ n = (S.e i).er.s from h1)]
    by_cases h2 : betB (S.e i).a n (S.e i).s = true
    · rw [if_pos h2, if_pos (show betB (S.e i).er.a n (S.e i).er.s = true from h2)]
      by_cases h3 : (S.e i).f n = 0
      · rw [if_pos h3, if_pos (show (S.e i).er.f n = 0 from h3), AudS.er_put, AudS.er_tell]; rfl
      · rw [if_neg h3, if_neg (show ¬ (S.e i).er.f n = 0 from h3), AudS.er_put]; rfl
    · rw [if_neg h2, if_neg (show ¬ betB (S.e i).er.a n (S.e i).er.s = true from h2)]; rfl
/-- An end has its map just if its epoch has begun. -/
def AudS.good (S : AudS) : Prop := S.e0.begun = S.e0.m.isSome ∧ S.e1.begun = S.e1.m.isSome
theorem AudS.good.has {S : AudS} (h : S.good) {i : Nat} (hb : (S.e i).begun = true) : ∃ m, (S.e i).m = some m := by
  unfold AudS.e at *
  by_cases e : i = 0
  · rw [if_pos e] at *; exact Option.isSome_iff_exists.1 (h.1.symm.trans hb)
  · rw [if_neg e] at *; exact Option.isSome_iff_exists.1 (h.2.symm.trans hb)
theorem AudS.good.put {S : AudS} (h : S.good) {i : Nat} {x : EndS} (hx : x.begun = x.m.isSome) : (S.put i x).good := by
  unfold AudS.put AudS.good; split
  · exact ⟨hx, h.2⟩
  · exact ⟨h.1, hx⟩
theorem AudS.good.tell {S : AudS} (h : S.good) (i : Nat) (x : List UInt8) : (S.tell i x).good := h
theorem AudS.good.e {S : AudS} (h : S.good) (i : Nat) : (S.e i).begun = (S.e i).m.isSome := by unfold AudS.e; split; (exact h.1); exact h.2
theorem name_begun : ∀ (ns : List Int) (e : EndS), (ns.foldl nameE e).begun = e.begun
  | [], e => rfl
  | x :: ns, e => by rw [List.foldl_cons, name_begun ns]; rfl
theorem came_begun (e : EndS) (n mr : Int) (ns : List Int) : (cameE e n mr ns).begun = e.begun ∧ (cameE e n mr ns).m = e.m := by
  have h1 : (came1 e n).begun = e.begun ∧ (came1 e n).m = e.m := by unfold came1; split <;> exact ⟨rfl, rfl⟩
  have h2 : ∀ e : EndS, (came2 e mr).begun = e.begun ∧ (came2 e mr).m = e.m := fun e => by unfold came2; split <;> exact ⟨rfl, rfl⟩
  have h3 := name_begun ns (came2 (came1 e n) mr)
  have h4 := (name_m ns (came2 (came1 e n) mr)).1
  unfold cameE
  exact ⟨h3.trans ((h2 _).1.trans h1.1), h4.trans ((h2 _).2.trans h1.2)⟩
theorem AudS.good.came {S : AudS} (h : S.good) (i : Nat) (n mr : Int) (ns : List Int) : (S.put i (cameE (S.e i) n mr ns)).good :=
  h.put (by rw [(came_begun _ _ _ _).1, (came_begun _ _ _ _).2]; exact h.e i)
theorem AudS.good.data {S : AudS} (h : S.good) (i j : Nat) (n : Int) : (dataA S i j n).good := by
  have h1 := h.e i
  have h2 : ∀ x, (S.tell j x).good := fun x => h.tell j x
  unfold dataA
  split
  · split
    · exact h.put h1
    · exact (h2 _).put h1
  · split
    · split
      · exact (h2 _).put h1
      · exact h.put h1
    · exact h2 _
def AudS.st (S : AudS) (i : Nat) : Int := if i = 0 then S.st0 else S.st1
theorem AudS.er_st (S : AudS) (i : Nat) : S.er.st i = S.st i := rfl
def freshE (x c : Int) (m : Option Nat) : EndS := { begun := true, s := x, a := x, ms := (x + c) % 16777216, credit := c, m := m, f := fun _ => 0, cnt := 0 }
def grantE (e : EndS) (d : Int) : EndS := if d ≤ 8388608 then { e with credit := max e.credit d } else e
theorem er_grant (S : AudS) (i : Nat) (d : Int) : (S.put i (grantE (S.e i) d)).er = S.er.put i (grantE (S.er.e i) d) := by
  rw [AudS.er_put, AudS.er_e]; congr 1; unfold grantE; split <;> rfl
def earlyW : List UInt8 := [101, 97, 114, 108, 121]
/-- What a record makes of an audit. -/
inductive StepR (w : World) (P : AudS) (i : Nat) : RecS → Bool → AudS → Prop
  | grant (k n mr sk sc rk : Int) (rf : Bool) (hk : k = 1 ∨ k = 6) : StepR w P i ⟨i, 2, k, n, mr, none, 0, 0, sk, sc, rk⟩ rf (P.put i (grantE (P.e i) ((n - P.st i) % 16777216)))
  | conf (k n mr sc rk : Int) (rf : Bool) : StepR w P i ⟨i, 5, k, n, mr, none, 0, 0, 6, sc, rk⟩ rf (P.put i (freshE (P.st i) (P.e i).credit none))
  | ask (k n mr sk sc rk : Int) (rf : Bool) (hr : rk = 2 ∨ rk = 5 ∨ rk = 6) : StepR w P i ⟨i, 6, k, n, mr, none, 0, 0, sk, sc, rk⟩ rf (P.put i (freshE (P.st i) (P.e i).credit none))
  | sd (n sk sc rk : Int) (rf : Bool) (hb : (P.e i).begun = true) (hn0 : 0 ≤ n) (hn1 : n < 16777216) : StepR w P i ⟨i, 1, 8, n, 0, none, 0, 0, sk, sc, rk⟩ rf (dataA P i i n)
  | stat (n mr sk sc rk : Int) (hb : (P.e i).begun = true) : StepR w P i ⟨i, 2, 11, n, mr, none, 0, 0, sk, sc, rk⟩ false (P.put i (cameE (P.e i) n mr []))
  | ustat (n mr x sk sc rk : Int) (g c : Nat) (hb : (P.e i).begun = true) (hx0 : 0 ≤ x) (hx1 : x < 16777216) (hg : BoxAt w g 24 [.int .u32 x, .int .u32 ((x + 1) % 16777216)]) : StepR w P i ⟨i, 2, 12, n, mr, some ⟨g, 0, none⟩, 2, c, sk, sc, rk⟩ false (P.put i (cameE (P.e i) n mr [x]))
  | refd (n mr x sk sc rk : Int) (g c : Nat) (hb : (P.e i).begun = true) : StepR w P i ⟨i, 2, 12, n, mr, some ⟨g, 0, none⟩, 2, c, sk, sc, rk⟩ true P
  | poll (n sk sc rk : Int) (rf : Bool) (hb : (P.e i).begun = true) (hs : (P.e i).s ≠ n) (hn0 : 0 ≤ n) (hn1 : n < 16777216) : StepR w P i ⟨i, 1, 10, n, 0, none, 0, 0, sk, sc, rk⟩ rf (P.tell i pollW)
  | list (n x y sk sc rk : Int) (g c : Nat) (rf : Bool) (hb : (P.e i).begun = true) (hn0 : 0 ≤ n) (hn1 : n < 16777216) (hx : (x - n) % 16777216 = 2) (hy : (y - n) % 16777216 = 1) (hx0 : 0 ≤ x ∧ x < 16777216) (hy0 : 0 ≤ y ∧ y < 16777216) (hc : 2 ≤ c) (hg : BoxAt w g 24 [.int .u32 x, .int .u32 y]) :
      StepR w P i ⟨i, 1, 11, n, 0, some ⟨g, 0, none⟩, 2, c, sk, sc, rk⟩ rf (P.tell i listW)
  | early (k n mr sc rk : Int) (rf : Bool) (hb : (P.e i).begun = false) : StepR w P i ⟨i, 5, k, n, mr, none, 0, 0, 8, sc, rk⟩ rf (P.tell i earlyW)
  | told (k n mr sc rk : Int) (rf : Bool) : StepR w P i ⟨i, 5, k, n, mr, none, 0, 0, 12, sc, rk⟩ rf P
theorem StepR.en {w : World} {P P' : AudS} {i : Nat} {r : RecS} {rf : Bool} (h : StepR w P i r rf P') : r.en = (i : Int) := by cases h <;> rfl
theorem BoxAt.range {T : TypeId} {b : Nat} {w : World} {cs : List Value} (h : BoxAt w b T cs) : w.rangeAt b 0 cs := fun j v hv => by rw [Nat.zero_add, h.cell]; exact hv
theorem StepR.keep {B : Nat} {w w' : World} {P P' : AudS} {i : Nat} {r : RecS} {rf : Bool} (h : StepR w P i r rf P') (hk : KeepA B w w') : StepR w' P i r rf P' := by
  cases h with
  | grant k n mr sk sc rk rf hk => exact .grant _ _ _ _ _ _ _ hk
  | conf => exact .conf _ _ _ _ _ _
  | ask k n mr sk sc rk rf hr => exact .ask _ _ _ _ _ _ _ hr
  | sd n sk sc rk rf hb h0 h1 => exact .sd _ _ _ _ _ hb h0 h1
  | stat n mr sk sc rk hb => exact .stat _ _ _ _ _ hb
  | ustat n mr x sk sc rk g c hb h0 h1 hg => exact .ustat _ _ _ _ _ _ _ _ hb h0 h1 (hk.box hg (by decide) (by decide))
  | refd n mr x sk sc rk g c hb => exact .refd _ _ x _ _ _ _ _ hb
  | poll n sk sc rk rf hb hs h0 h1 => exact .poll _ _ _ _ _ hb hs h0 h1
  | list n x y sk sc rk g c rf hb h0 h1 hx hy hx0 hy0 hc hg => exact .list _ _ _ _ _ _ _ _ _ hb h0 h1 hx hy hx0 hy0 hc (hk.box hg (by decide) (by decide))
  | early k n mr sc rk rf hb => exact .early _ _ _ _ _ _ hb
  | told => exact .told _ _ _ _ _ _
theorem grown_trans {a b c : World} {row : Option Nat} (h : a.grownBy b row) (k : b.grownBy c row) : a.grownBy c row :=
  ⟨k.os.trans h.os, k.tape.trans h.tape, k.output.trans h.output, Nat.le_trans h.size k.size, fun i hi hr => (k.block i (Nat.lt_of_lt_of_le hi h.size) hr).trans (h.block i hi hr)⟩
/-- An end begins anew: its six cells, a new map. -/
theorem AudAt.fresh {w W : World} {B b : Nat} {S : AudS} {lv : Value} (h : AudAt w B b S lv) (hb : Below w.heap.size w W) {i o mb : Nat} (hi : i < 2) (ho : o = 2 + 6 * i) (hB : B ≤ w.heap.size) (hmb : w.heap.size ≤ mb)
    (hown : W.ownsMap Tryd.prog 24 (plainElem (H := Unit) Tryd.prog 3) mb 0 (.map [])) (x c : Int) :
    AudAt ((((((W.setCell ⟨b, o, none⟩ (.bool true)).setCell ⟨b, o + 1, none⟩ (.int .u32 x)).setCell ⟨b, o + 2, none⟩ (.int .u32 x)).setCell ⟨b, o + 3, none⟩ (.int .u32 ((x + c) % 16777216))).setCell ⟨b, o + 4, none⟩ (.int .i64 c)).setCell ⟨b, o + 5, none⟩ (.map (some mb))) B b (S.put i (freshE x c (some mb))) lv ∧
    KeepA B w ((((((W.setCell ⟨b, o, none⟩ (.bool true)).setCell ⟨b, o + 1, none⟩ (.int .u32 x)).setCell ⟨b, o + 2, none⟩ (.int .u32 x)).setCell ⟨b, o + 3, none⟩ (.int .u32 ((x + c) % 16777216))).setCell ⟨b, o + 4, none⟩ (.int .i64 c)).setCell ⟨b, o + 5, none⟩ (.map (some mb))) := by
  have hW := h.below hb
  have hbx : W.heap[b]? = some (.cells (audC S lv).toArray 55 (0, 0)) := hW.box
  obtain ⟨es, cc, hes⟩ : ∃ es c, W.heap[mb]? = some (.map es c) := by obtain ⟨es, c, h2, _⟩ := hown; exact ⟨es, c, h2⟩
  have hne : mb ≠ b := fun e => by rw [e, hbx] at hes; cases hes
  obtain ⟨V, hV⟩ : ∃ V, V = ((((((W.setCell ⟨b, o, none⟩ (.bool true)).setCell ⟨b, o + 1, none⟩ (.int .u32 x)).setCell ⟨b, o + 2, none⟩ (.int .u32 x)).setCell ⟨b, o + 3, none⟩ (.int .u32 ((x + c) % 16777216))).setCell ⟨b, o + 4, none⟩ (.int .i64 c)).setCell ⟨b, o + 5, none⟩ (.map (some mb))) := ⟨_, rfl⟩
  have hg : W.grownBy V (some b) := by
    rw [hV]
    exact grown_trans (grown_trans (grown_trans (grown_trans (grown_trans (grown_set W b o _) (grown_set _ b (o + 1) _)) (grown_set _ b (o + 2) _)) (grown_set _ b (o + 3) _)) (grown_set _ b (o + 4) _)) (grown_set _ b (o + 5) _)
  have hbox : BoxAt V b 55 (audC (S.put i (freshE x c (some mb))) lv) := by
    have h6 := (((((hW.box.set o (.bool true)).set (o + 1) (.int .u32 x)).set (o + 2) (.int .u32 x)).set (o + 3) (.int .u32 ((x + c) % 16777216))).set (o + 4) (.int .i64 c)).set (o + 5) (.map (some mb))
    rw [← hV] at h6
    have he : ((((((audC S lv).set o (.bool true)).set (o + 1) (.int .u32 x)).set (o + 2) (.int .u32 x)).set (o + 3) (.int .u32 ((x + c) % 16777216))).set (o + 4) (.int .i64 c)).set (o + 5) (.map (some mb)) = audC (S.put i (freshE x c (some mb))) lv := by
      subst ho
      rcases (by omega : i = 0 ∨ i = 1) with rfl | rfl <;> rfl
    rw [he] at h6; exact h6
  rw [← hV]
  have hrow : ∀ r, some b = some r → lv.ownBlock ≠ some r := fun r e k => by
    cases e
    obtain ⟨_, cur, h1⟩ := own_block hW.own _ k
    rw [hbx] at h1; simp at h1
  have hmap : ∀ m f cnt, NamedAt W B m f cnt → NamedAt V B m f cnt := fun m f cnt hn => hn.kept hg (fun r e k => by
    cases k
    obtain ⟨_, es, c, h1⟩ := hn.is_map e
    rw [hbx] at h1; cases h1)
  have hnew : NamedAt V B (some mb) (fun _ => 0) 0 := ⟨by omega, _, hown.kept hg (by simpa using hne), fun x _ _ => rfl⟩
  have hap : ∀ j r, (S.e j).m = some r → r < w.heap.size := fun j r e => by
    have : ∃ f cnt, NamedAt w B (S.e j).m f cnt := by
      unfold AudS.e; split
      · exact ⟨_, _, h.n0⟩
      · exact ⟨_, _, h.n1⟩
    obtain ⟨f, cnt, h1⟩ := this
    obtain ⟨_, es, c, h2⟩ := h1.is_map e
    exact (Array.getElem?_eq_some_iff.1 h2).1
  refine ⟨?_, (KeepA.of_below hb).trans (KeepA.of_grown hg h.ge (fun cs T fr h1 => by rw [hbx] at h1; cases h1; exact .inl rfl))⟩
  rcases (by omega : i = 0 ∨ i = 1) with rfl | rfl
  · refine ⟨hbox, own_row hW.own hg hrow, hnew, hmap _ _ _ hW.n1, fun m e1 e2 => ?_, h.ge⟩
    cases e1
    have := hap 1 _ e2
    omega
  · refine ⟨hbox, own_row hW.own hg hrow, hmap _ _ _ hW.n0, hnew, fun m e1 e2 => ?_, h.ge⟩
    cases e2
    have := hap 0 _ e1
    omega
theorem AudAt.fresh2 {w : World} {B b : Nat} {S : AudS} {lv : Value} (h : AudAt w B b S lv) {i o : Nat} (hi : i < 2) (ho : o = 2 + 6 * i) (hB : B ≤ w.heap.size) (x c : Int) :
    AudAt ((((((((w.setCell ⟨b, o, none⟩ (.bool true)).setCell ⟨b, o + 1, none⟩ (.int .u32 x)).setCell ⟨b, o + 2, none⟩ (.int .u32 x)).setCell ⟨b, o + 3, none⟩ (.int .u32 ((x + c) % 16777216))).setCell ⟨b, o + 4, none⟩ (.int .i64 c)).setCell ⟨b, o + 5, none⟩ (.map (some w.heap.size))).alloc (.map #[] 0)).drew) B b (S.put i (freshE x c (some w.heap.size))) lv ∧
    KeepA B w ((((((((w.setCell ⟨b, o, none⟩ (.bool true)).setCell ⟨b, o + 1, none⟩ (.int .u32 x)).setCell ⟨b, o + 2, none⟩ (.int .u32 x)).setCell ⟨b, o + 3, none⟩ (.int .u32 ((x + c) % 16777216))).setCell ⟨b, o + 4, none⟩ (.int .i64 c)).setCell ⟨b, o + 5, none⟩ (.map (some w.heap.size))).alloc (.map #[] 0)).drew) := by
  have hlt := h.lt
  have h1 := h.fresh (W := w.alloc (.map #[] 0)) ((Below.refl _ _).alloc (Nat.le_refl _) _) hi ho hB (Nat.le_refl _) (World.ownsMap_made w _ _ _) x c
  rw [World.setCell_alloc_past _ _ _ _ hlt, World.setCell_alloc_past _ _ _ _ (by simpa using hlt), World.setCell_alloc_past _ _ _ _ (by simpa using hlt), World.setCell_alloc_past _ _ _ _ (by simpa using hlt), World.setCell_alloc_past _ _ _ _ (by simpa using hlt), World.setCell_alloc_past _ _ _ _ (by simpa using hlt)] at h1
  exact ⟨h1.1.below (Below.refl _ _).drew, h1.2.trans (KeepA.of_below (Below.refl _ _).drew)⟩
theorem er_conf {S : AudS} {i : Nat} {x c : Int} {m : Option Nat} (hx : x = S.st i) (hc : c = (S.e i).credit) : (S.put i (freshE x c m)).er = S.er.put i (freshE (S.er.st i) (S.er.e i).credit none) := by
  subst hx; subst hc; rw [AudS.er_put, AudS.er_e]; rfl
theorem er_fresh (S : AudS) (i : Nat) (x c : Int) (m : Option Nat) : (S.put i (freshE x c m)).er = S.er.put i (freshE x c none) := by rw [AudS.er_put]; rfl
/-- An audit, its maps not named. -/
def AudP (w : World) (B b : Nat) (P : AudS) : Prop := ∃ S lv, AudAt w B b S lv ∧ S.er = P ∧ S.good
end Go.Proofs.YtbppgicdmkkmnaaDoor
