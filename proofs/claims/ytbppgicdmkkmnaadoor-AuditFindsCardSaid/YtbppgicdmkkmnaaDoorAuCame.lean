/-
  Contract of (*audit.end).came: a unit that was accepted.
-/
import Derived.Test.YtbppgicdmkkmnaaDoorAuRef
import Derived.Test.YtbppgicdmkkmnaaDoorIntsR
import Derived.Deep.DeepCutAuto
set_option linter.unusedVariables false
set_option linter.unusedSimpArgs false
namespace Go.Proofs.YtbppgicdmkkmnaaDoor
open Go.RowKit

def withB (a x b : Int) : Bool := decide ((x - a) % 16777216 ≤ (b - a) % 16777216)
/-- What a status makes of an end's numbers. -/
def came1 (e : EndS) (n : Int) : EndS := if withB e.a n e.s = true then { e with a := maxN e.a e.a n } else e
def came2 (e : EndS) (mr : Int) : EndS := if (mr - e.a) % 16777216 ≤ 8388608 ∧ (e.ms - e.a) % 16777216 < (mr - e.a) % 16777216 then { e with ms := mr % 16777216 } else e
def nameE (e : EndS) (x : Int) : EndS := { e with f := updF e.f x 1, cnt := e.cnt + 1 }
def cameE (e : EndS) (n mr : Int) (ns : List Int) : EndS := ns.foldl nameE (came2 (came1 e n) mr)
theorem came1_m (e : EndS) (n : Int) : (came1 e n).m = e.m ∧ (came1 e n).cnt = e.cnt := by unfold came1; split <;> exact ⟨rfl, rfl⟩
theorem came2_m (e : EndS) (n : Int) : (came2 e n).m = e.m ∧ (came2 e n).cnt = e.cnt := by unfold came2; split <;> exact ⟨rfl, rfl⟩
theorem name_m : ∀ (ns : List Int) (e : EndS), (ns.foldl nameE e).m = e.m ∧ (ns.foldl nameE e).cnt = e.cnt + ns.length
  | [], e => ⟨rfl, rfl⟩
  | x :: ns, e => by
    obtain ⟨h1, h2⟩ := name_m ns (nameE e x)
    exact ⟨h1, by rw [List.foldl_cons, h2]; show e.cnt + 1 + _ = _; rw [List.length_cons]; omega⟩
theorem AudS.put_put (S : AudS) (i : Nat) (x y : EndS) : (S.put i x).put i y = S.put i y := by unfold AudS.put; by_cases h : i = 0 <;> simp [h]
theorem AudS.put_self (S : AudS) (i : Nat) : S.put i (S.e i) = S := by unfold AudS.put AudS.e; by_cases h : i = 0 <;> simp [h]
/-- A row of numbers, in a block that is known for one. -/
def NumsAt (w : World) (v : Value) (ns : List Int) : Prop :=
  ∃ a c, v = .slice a ns.length c ∧ ns.length ≤ c ∧ (0 < ns.length → ∃ g cur fr, a = some ⟨g, 0, none⟩ ∧ w.heap[g]? = some (Obj.cells cur 24 fr) ∧ ∀ j (h : j < ns.length), cur[j]? = some (.int .u32 ns[j]))
theorem NumsAt.keep {B : Nat} {w w' : World} {v : Value} {ns : List Int} (h : NumsAt w v ns) (hk : KeepA B w w') : NumsAt w' v ns := by
  obtain ⟨a, c, h1, h2, h3⟩ := h
  refine ⟨a, c, h1, h2, fun h0 => ?_⟩
  obtain ⟨g, cur, fr, h4, h5, h6⟩ := h3 h0
  exact ⟨g, cur, fr, h4, (hk.kind g cur _ fr h5 (by decide) (by decide)).trans h5, h6⟩
theorem NumsAt.cell {w : World} {g n c : Nat} {ns : List Int} (h : NumsAt w (.slice (some ⟨g, 0, none⟩) n c) ns) {j : Nat} (hj : j < ns.length) : w.cell? ⟨g, j, none⟩ = some (.int .u32 ns[j]) := by
  obtain ⟨a, c', h1, h2, h3⟩ := h
  obtain ⟨g', cur, fr, h4, h5, h6⟩ := h3 (by omega)
  cases h1
  cases h4
  have := h6 j hj
  simp [World.cell?, h5, this]
/-- Between two steps of 'came'. -/
structure CameRel (w : World) (B b i : Nat) (S : AudS) (lv : Value) (bu : Nat) (us : List Value) (E : EndS) (wx : World) : Prop where
  aud : AudAt wx B b (S.put i E) lv
  keep : KeepA B w wx
  unit : BoxAt wx bu 30 us
theorem CameRel.below {w W W' : World} {B b i bu : Nat} {S : AudS} {lv : Value} {us : List Value} {E : EndS} (h : CameRel w B b i S lv bu us E W) (hb : Below W.heap.size W W') : CameRel w B b i S lv bu us E W' :=
  ⟨h.aud.below hb, h.keep.trans (KeepA.of_below hb), h.unit.below hb h.unit.lt⟩
theorem CameRel.put {w W W' : World} {B b i bu : Nat} {S : AudS} {lv : Value} {us : List Value} {E E' : EndS} (h : CameRel w B b i S lv bu us E W) (ha : AudAt W' B b ((S.put i E).put i E') lv) (hk : KeepA B W W') : CameRel w B b i S lv bu us E' W' :=
  ⟨by rw [AudS.put_put] at ha; exact ha, h.keep.trans hk, hk.box h.unit (by decide) (by decide)⟩
theorem CameRel.set_a {w W : World} {B b i o bu : Nat} {S : AudS} {lv : Value} {us : List Value} {E : EndS} (h : CameRel w B b i S lv bu us E W) (hi : i < 2) (ho : o = 2 + 6 * i) (x : Int) : CameRel w B b i S lv bu us { E with a := x } (W.setCell ⟨b, o + 2, none⟩ (.int .u32 x)) :=
  h.put (by have := h.aud.set_a hi ho x; rw [AudS.put_e] at this; exact this) h.aud.keep_set
theorem CameRel.set_ms {w W : World} {B b i o bu : Nat} {S : AudS} {lv : Value} {us : List Value} {E : EndS} (h : CameRel w B b i S lv bu us E W) (hi : i < 2) (ho : o = 2 + 6 * i) (x : Int) : CameRel w B b i S lv bu us { E with ms := x } (W.setCell ⟨b, o + 3, none⟩ (.int .u32 x)) :=
  h.put (by have := h.aud.set_ms hi ho x; rw [AudS.put_e] at this; exact this) h.aud.keep_set
theorem CameRel.ends {w W : World} {B b i o bu : Nat} {S : AudS} {lv : Value} {us : List Value} {E : EndS} (h : CameRel w B b i S lv bu us E W) (hi : i < 2) (ho : o = 2 + 6 * i) :
    W.cell? ⟨b, o + 1, none⟩ = some (.int .u32 E.s) ∧ W.cell? ⟨b, o + 2, none⟩ = some (.int .u32 E.a) ∧ W.cell? ⟨b, o + 3, none⟩ = some (.int .u32 E.ms) ∧ W.cell? ⟨b, o + 5, none⟩ = some (.map E.m) ∧ W.frozen? ⟨b, o + 2, none⟩ = false ∧ W.frozen? ⟨b, o + 3, none⟩ = false := by
  obtain ⟨_, c1, c2, c3, _, c5⟩ := h.aud.ecells hi ho
  rw [AudS.put_e] at c1 c2 c3 c5
  exact ⟨c1, c2, c3, c5, h.aud.efroz _, h.aud.efroz _⟩
theorem CameRel.units {w W : World} {B b i bu : Nat} {S : AudS} {lv : Value} {k n mr : Int} {v : Value} {E : EndS} (h : CameRel w B b i S lv bu [.int .i64 k, .int .i64 0, .int .u32 n, .int .u32 0, .int .u32 mr, v, .bool false, .string ⟨#[]⟩] E W) :
    W.cell? ⟨bu, 0, none⟩ = some (.int .i64 k) ∧ W.cell? ⟨bu, 1, none⟩ = some (.int .i64 0) ∧ W.cell? ⟨bu, 2, none⟩ = some (.int .u32 n) ∧ W.cell? ⟨bu, 3, none⟩ = some (.int .u32 0) ∧ W.cell? ⟨bu, 4, none⟩ = some (.int .u32 mr) ∧ W.cell? ⟨bu, 5, none⟩ = some v ∧ W.cell? ⟨bu, 6, none⟩ = some (.bool false) ∧ W.cell? ⟨bu, 7, none⟩ = some (.string ⟨#[]⟩) := h.unit.cells8
theorem CameRel.name {w W W' : World} {B b i bu mb : Nat} {S : AudS} {lv : Value} {us : List Value} {E : EndS} {D : DataW Unit} {x : Int} (h : CameRel w B b i S lv bu us E W) (hi : i < 2) (hm : E.m = some mb)
    (hD : W.ownsMap Tryd.prog 24 (plainElem Tryd.prog 3) mb E.cnt D) (hf : ∀ x : Int, 0 ≤ x → x < 4294967296 → D.atKey (.int .u32 x) (.lit (.int .i64 0)) = .lit (.int .i64 (E.f x)))
    (hn : W'.ownsMap Tryd.prog 24 (plainElem Tryd.prog 3) mb (E.cnt + 1) (D.put (.int .u32 x) (.lit (.int .i64 1)))) (hg : W.grownBy W' (some mb)) : CameRel w B b i S lv bu us (nameE E x) W' ∧ KeepA B W W' := by
  have h1 : ((S.put i E).e i) = E := AudS.put_e S i E
  have h2 := h.aud.upd (i := i) (mb := mb) hi (by rw [h1]; exact hm) (by rw [h1]; exact hD) (by rw [h1]; exact hf) (by rw [h1]; exact hn) hg
  rw [h1] at h2
  exact ⟨h.put h2.1 h2.2, h2.2⟩
theorem CameRel.map {w W : World} {B b i bu mb : Nat} {S : AudS} {lv : Value} {us : List Value} {E : EndS} (h : CameRel w B b i S lv bu us E W) (hi : i < 2) (hm : E.m = some mb) :
    ∃ D : DataW Unit, W.ownsMap Tryd.prog 24 (plainElem Tryd.prog 3) mb E.cnt D ∧ ∀ x : Int, 0 ≤ x → x < 4294967296 → D.atKey (.int .u32 x) (.lit (.int .i64 0)) = .lit (.int .i64 (E.f x)) := by
  have h1 : ((S.put i E).e i) = E := AudS.put_e S i E
  have := h.aud.named (i := i) (mb := mb) hi (by rw [h1]; exact hm)
  rw [h1] at this
  exact this
theorem take_fold {E : EndS} {ns : List Int} {j : Nat} (h : j < ns.length) : (ns.take (j + 1)).foldl nameE E = nameE ((ns.take j).foldl nameE E) ns[j] := by
  rw [List.take_succ_eq_append_getElem h, List.foldl_append]; rfl
theorem came_end {w W : World} {B b i bu : Nat} {S : AudS} {lv : Value} {us : List Value} {E F : EndS} {e : Ending} (h : CameRel w B b i S lv bu us E W) (hE : F = E) (he : e = .returned (.tuple #[])) : e = .returned (.tuple #[]) ∧ AudAt W B b (S.put i F) lv ∧ KeepA B w W := by
  subst hE; exact ⟨he, h.aud, h.keep⟩
set_option maxRecDepth 100000 in
set_option maxHeartbeats 4000000 in
theorem came_any (B b i mb : Nat) (S : AudS) (lv : Value) (k n mr : Int) (la : Option Addr) (ll lc : Nat) (ns : List Int) (w : World) (h : AudAt w B b S lv) (hi : i < 2) (hk : k = 11 ∨ k = 12) (hm : (S.e i).m = some mb) (hc : (S.e i).cnt ≤ 900000) (hns : ns.length ≤ 1000) (hx : ∀ x ∈ ns, 0 ≤ x ∧ x < 16777216)
    (hN : ∀ W, KeepA B w W → Calls Tryd.prog 29 #[.agg #[.int .i64 k, .int .i64 0, .int .u32 n, .int .u32 0, .int .u32 mr, .slice la ll lc, .bool false, .string ⟨#[]⟩]] W fun e w' => ∃ v, e = .returned v ∧ NumsAt w' v ns ∧ Below W.heap.size W w') (hB : B ≤ w.heap.size) :
    Calls Tryd.prog 22 #[.pointer (some ⟨b, 2 + 6 * i, none⟩), .agg #[.int .i64 k, .int .i64 0, .int .u32 n, .int .u32 0, .int .u32 mr, .slice la ll lc, .bool false, .string ⟨#[]⟩]] w (fun e w' => e = .returned (.tuple #[]) ∧ AudAt w' B b (S.put i (cameE (S.e i) n mr ns)) lv ∧ KeepA B w w') := by
  obtain ⟨o, ho⟩ : ∃ o, o = 2 + 6 * i := ⟨_, rfl⟩
  rw [← ho]
  have HO := Lib.hid ho
  clear ho
  have hb1 := (Below.refl w.heap.size w).alloc (Nat.le_refl _) (.cells #[.int .i64 k, .int .i64 0, .int .u32 n, .int .u32 0, .int .u32 mr, .slice la ll lc, .bool false, .string ⟨#[]⟩] 30)
  have HR0 : Hid (CameRel w B b i S lv w.heap.size [.int .i64 k, .int .i64 0, .int .u32 n, .int .u32 0, .int .u32 mr, .slice la ll lc, .bool false, .string ⟨#[]⟩] (S.e i) (w.alloc (.cells #[.int .i64 k, .int .i64 0, .int .u32 n, .int .u32 0, .int .u32 mr, .slice la ll lc, .bool false, .string ⟨#[]⟩] 30))) := Lib.hid ⟨by rw [AudS.put_self]; exact h.below hb1, KeepA.of_below hb1, BoxAt.new _ _ _⟩
  have HN := Lib.hid hN
  have HX := Lib.hid hx
  have HM := Lib.hid hm
  have HC := Lib.hid hc
  have hwz : w.heap.size = w.heap.size := rfl
  clear hb1 hN hx hm hc h
  generalize S.e i = E at *
  obtain ⟨W1, hW1⟩ : ∃ W1 : World, W1 = w.alloc (.cells #[.int .i64 k, .int .i64 0, .int .u32 n, .int .u32 0, .int .u32 mr, .slice la ll lc, .bool false, .string ⟨#[]⟩] 30) := ⟨_, rfl⟩
  rw [← hW1] at HR0
  obtain ⟨us, hus⟩ : ∃ us : List Value, us = [.int .i64 k, .int .i64 0, .int .u32 n, .int .u32 0, .int .u32 mr, .slice la ll lc, .bool false, .string ⟨#[]⟩] := ⟨_, rfl⟩
  rw [← hus] at HR0
  have HUS := Lib.hid hus
  clear hus
  rcases hk with rfl | rfl
  all_goals
    go_enter Tryd.func22, Tryd.ntmps22
    go_upto_region 2 with fail
    rw [← hW1]
    clear hW1
    obtain ⟨c1, c2, c3, c5, g2, g3⟩ := HR0.out.ends hi HO.out
    obtain ⟨u0, u1, u2, u3, u4, u5, u6, u7⟩ := (HUS.out ▸ HR0.out).units
    go_big_quiet ((go_at_call 27; exact Calls.quiet_of_same ((within_num _ _ _ _).mono fun _ _ ⟨h1, h2⟩ => ⟨h1, h2.symm⟩)))
    generalize hWq : W1.drewN _ = wq
    have HRq := Lib.hid (HR0.out.below (hWq ▸ below_drewN (Below.refl _ _) _))
    clear hWq c1 c2 c3 c5 g2 g3 u0 u1 u2 u3 u4 u5 u6 u7 HR0
    go_upto_if 25 with fail
    go_cut [] (fun wx => CameRel w B b i S lv w.heap.size us (came1 E n) wx)
    case first =>
      obtain ⟨c1, c2, c3, c5, g2, g3⟩ := HRq.out.ends hi HO.out
      obtain ⟨u0, u1, u2, u3, u4, u5, u6, u7⟩ := (HUS.out ▸ HRq.out).units
      by_cases hwn : withB E.a n E.s = true
      · have hw2 : (n - E.a) % 16777216 ≤ (E.s - E.a) % 16777216 := by simpa [withB] using hwn
        have HE : Hid (came1 E n = { E with a := maxN E.a E.a n }) := Lib.hid (by unfold came1; rw [if_pos hwn])
        clear hwn
        go_wp2_with fail
        go_region_with ((go_at_call 28; refine (max_num _ _ _ _).mono ?_; rintro e w' ⟨rfl, rfl⟩))
        all_goals
          go_wp2_with fail
          go_meet
          rw [HE.out]
          exact (HRq.out.below (Below.refl _ wq).drew).set_a hi HO.out _
      · have hw2 : ¬ (n - E.a) % 16777216 ≤ (E.s - E.a) % 16777216 := by simpa [withB] using hwn
        have HE : Hid (came1 E n = E) := Lib.hid (by unfold came1; rw [if_neg hwn])
        clear hwn
        go_wp2_with fail
        go_meet
        rw [HE.out]
        exact HRq.out
    case rest =>
      have HMC : Hid ((came1 E n).m = some mb ∧ (came1 E n).cnt ≤ 900000) := Lib.hid (by rw [(came1_m E n).1, (came1_m E n).2]; exact ⟨HM.out, HC.out⟩)
      have HEN : Hid (cameE E n mr ns = ns.foldl nameE (came2 (came1 E n) mr)) := Lib.hid rfl
      generalize came1 E n = E1 at *
      have HR1 := Lib.hid hcut
      obtain ⟨c1, c2, c3, c5, g2, g3⟩ := hcut.ends hi HO.out
      obtain ⟨u0, u1, u2, u3, u4, u5, u6, u7⟩ := (HUS.out ▸ hcut).units
      clear hcut HRq
      go_upto_region 4 with fail
      go_big_quiet ((go_at_call 20; exact Calls.quiet_of_same ((to_num _ _ _).mono fun _ _ ⟨h1, h2⟩ => ⟨h1, h2.symm⟩)))
      generalize hWq : wc.drewN _ = wq
      have HRq := Lib.hid (HR1.out.below (hWq ▸ below_drewN (Below.refl _ _) _))
      clear hWq c1 c2 c3 c5 g2 g3 u0 u1 u2 u3 u4 u5 u6 u7 HR1
      obtain ⟨c1, c2, c3, c5, g2, g3⟩ := HRq.out.ends hi HO.out
      obtain ⟨u0, u1, u2, u3, u4, u5, u6, u7⟩ := (HUS.out ▸ HRq.out).units
      by_cases hd : (mr - E1.a) % 16777216 ≤ 8388608
      · have hd2 : decide ((mr - E1.a) % 16777216 ≤ 8388608) = true := by simpa using hd
        by_cases hl : (E1.ms - E1.a) % 16777216 < (mr - E1.a) % 16777216
        · have hE2 : came2 E1 mr = { E1 with ms := mr % 16777216 } := by unfold came2; rw [if_pos ⟨hd, hl⟩]
          rw [hE2] at HEN
          have HEND := HEN
          obtain ⟨E2, hE⟩ : ∃ E2, E2 = { E1 with ms := mr % 16777216 } := ⟨_, rfl⟩
          have HM2 : Hid (E2.m = some mb) := Lib.hid (by rw [hE]; exact HMC.out.1)
          have HC2 : Hid (E2.cnt ≤ 900000) := Lib.hid (by rw [hE]; exact HMC.out.2)
          rw [← hE] at HEND
          go_upto_region 5 with fail
          go_big_quiet ((go_at_call 20; exact Calls.quiet_of_same ((to_num _ _ _).mono fun _ _ ⟨h1, h2⟩ => ⟨h1, h2.symm⟩)))
          generalize hWq : wq.drewN _ = wr
          have HRr := Lib.hid (HRq.out.below (hWq ▸ below_drewN (Below.refl _ _) _))
          clear hWq c1 c2 c3 c5 g2 g3 u0 u1 u2 u3 u4 u5 u6 u7 HRq
          obtain ⟨c1, c2, c3, c5, g2, g3⟩ := HRr.out.ends hi HO.out
          obtain ⟨u0, u1, u2, u3, u4, u5, u6, u7⟩ := (HUS.out ▸ HRr.out).units
          go_upto_region 6 with fail
          go_upto_region 7 with (go_at_call 14; refine (low_num _ _).mono ?_; rintro e w' ⟨rfl, rfl⟩)
          generalize hWq : wr.setCell _ _ = wt
          have HRt : Hid (CameRel w B b i S lv w.heap.size us E2 wt) := Lib.hid (by rw [hE, ← hWq]; exact HRr.out.set_ms hi HO.out _)
          clear hWq c1 c2 c3 c5 g2 g3 u0 u1 u2 u3 u4 u5 u6 u7 HRr hE hE2 HEN
          obtain ⟨u0, u1, u2, u3, u4, u5, u6, u7⟩ := (HUS.out ▸ HRt.out).units
          go_wp2_with fail
          refine (HN.out _ HRt.out.keep).mono ?_
          rintro e w5 ⟨v5, rfl, hv5, hb5⟩
          have HR5 := Lib.hid (HRt.out.below hb5)
          have HV5 := Lib.hid hv5
          obtain ⟨va, vc, rfl, hvc, hva⟩ := hv5
          clear hb5 HRt HN u0 u1 u2 u3 u4 u5 u6 u7
          go_wp2_with fail
          go_loopw [71] (fun ix wx => ∃ q : Nat, ix = .int .i64 (q : Int) ∧ q ≤ ns.length ∧ CameRel w B b i S lv w.heap.size us ((ns.take q).foldl nameE E2) wx ∧ KeepA B w5 wx) (fun ix _ => ns.length - (intOf ix).toNat)
          case atStart => exact ⟨0, rfl, by omega, HR5.out, KeepA.refl _ _⟩
          case round =>
            obtain ⟨q, rfl, hq, hrl, hkp⟩ := hrel
            by_cases hqn : q < ns.length
            · obtain ⟨vg, cur, fr, rfl, -, -⟩ := hva (by omega)
              have hcell := (HV5.out.keep hkp).cell hqn
              have hxq := HX.out _ (List.getElem_mem hqn)
              have HTF := Lib.hid (take_fold (E := E2) hqn)
              have hqn1 : (q : Int) < (ns.length : Int) := by omega
              have HKQ := Lib.hid hkp
              have HRL := Lib.hid hrl
              obtain ⟨hm1, hm2⟩ := name_m (ns.take q) E2
              rw [HM2.out] at hm1
              rw [List.length_take] at hm2
              have hcn : ((ns.take q).foldl nameE E2).cnt ≤ 2000000 := by have := HC2.out; omega
              generalize (ns.take q).foldl nameE E2 = F at *
              generalize ns[q] = x at *
              obtain ⟨D, hown, hat⟩ := hrl.map hi hm1
              have HAT := Lib.hid hat
              have HCN := Lib.hid hcn
              have HMF := Lib.hid hm1
              obtain ⟨-, -, -, k5, -, -⟩ := hrl.ends hi HO.out
              rw [hm1] at k5
              have hkey := key_num hxq.1 (by omega : x < 4294967296)
              clear hrl hkp hat hm1 hm2 hva hcn
              go_wp2_with (first | (at_mapUpdate; refine wpList_mapUpdate_own _ rfl _ _ _ 50 rfl 24 3 law_num Tryd.underlying50 _ mb _ D rfl hown (by have := HCN.out; unfold maxLen; omega) _ _ _ rfl rfl hkey _ [] (plainElem_int Tryd.underlying3 (by decide)) ?_; intro w2 hown2 hgrow2) | fail)
              have h9 := HRL.out.name hi HMF.out hown HAT.out hown2 hgrow2
              have HR9 := Lib.hid h9.1
              have HK9 := Lib.hid (HKQ.out.trans h9.2)
              clear h9 hown hown2 hgrow2 k5 hcell
              go_roundw
              case rel => exact ⟨q + 1, by go_num, by omega, by rw [HTF.out]; exact HR9.out, HK9.out⟩
              case measure => simp [intOf]; omega
            · have hqn1 : ¬ (q : Int) < (ns.length : Int) := by omega
              have htk : ns.take q = ns := List.take_of_length_le (by omega)
              rw [htk] at hrl
              have HRL := Lib.hid hrl
              clear hrl hkp htk hva
              go_wp2_with fail
              go_end0
              exact came_end HRL.out HEND.out rfl
        · have hE2 : came2 E1 mr = E1 := by unfold came2; rw [if_neg (fun h => hl h.2)]
          rw [hE2] at HEN
          have HEND := HEN
          obtain ⟨E2, hE⟩ : ∃ E2, E2 = E1 := ⟨_, rfl⟩
          have HM2 : Hid (E2.m = some mb) := Lib.hid (by rw [hE]; exact HMC.out.1)
          have HC2 : Hid (E2.cnt ≤ 900000) := Lib.hid (by rw [hE]; exact HMC.out.2)
          rw [← hE] at HEND
          go_upto_region 5 with fail
          go_big_quiet ((go_at_call 20; exact Calls.quiet_of_same ((to_num _ _ _).mono fun _ _ ⟨h1, h2⟩ => ⟨h1, h2.symm⟩)))
          generalize hWq : wq.drewN _ = wt
          have HRt : Hid (CameRel w B b i S lv w.heap.size us E2 wt) := Lib.hid (hE ▸ HRq.out.below (hWq ▸ below_drewN (Below.refl _ _) _))
          clear hWq c1 c2 c3 c5 g2 g3 u0 u1 u2 u3 u4 u5 u6 u7 HRq hE hE2 HEN
          obtain ⟨u0, u1, u2, u3, u4, u5, u6, u7⟩ := (HUS.out ▸ HRt.out).units
          go_wp2_with fail
          refine (HN.out _ HRt.out.keep).mono ?_
          rintro e w5 ⟨v5, rfl, hv5, hb5⟩
          have HR5 := Lib.hid (HRt.out.below hb5)
          have HV5 := Lib.hid hv5
          obtain ⟨va, vc, rfl, hvc, hva⟩ := hv5
          clear hb5 HRt HN u0 u1 u2 u3 u4 u5 u6 u7
          go_wp2_with fail
          go_loopw [71] (fun ix wx => ∃ q : Nat, ix = .int .i64 (q : Int) ∧ q ≤ ns.length ∧ CameRel w B b i S lv w.heap.size us ((ns.take q).foldl nameE E2) wx ∧ KeepA B w5 wx) (fun ix _ => ns.length - (intOf ix).toNat)
          case atStart => exact ⟨0, rfl, by omega, HR5.out, KeepA.refl _ _⟩
          case round =>
            obtain ⟨q, rfl, hq, hrl, hkp⟩ := hrel
            by_cases hqn : q < ns.length
            · obtain ⟨vg, cur, fr, rfl, -, -⟩ := hva (by omega)
              have hcell := (HV5.out.keep hkp).cell hqn
              have hxq := HX.out _ (List.getElem_mem hqn)
              have HTF := Lib.hid (take_fold (E := E2) hqn)
              have hqn1 : (q : Int) < (ns.length : Int) := by omega
              have HKQ := Lib.hid hkp
              have HRL := Lib.hid hrl
              obtain ⟨hm1, hm2⟩ := name_m (ns.take q) E2
              rw [HM2.out] at hm1
              rw [List.length_take] at hm2
              have hcn : ((ns.take q).foldl nameE E2).cnt ≤ 2000000 := by have := HC2.out; omega
              generalize (ns.take q).foldl nameE E2 = F at *
              generalize ns[q] = x at *
              obtain ⟨D, hown, hat⟩ := hrl.map hi hm1
              have HAT := Lib.hid hat
              have HCN := Lib.hid hcn
              have HMF := Lib.hid hm1
              obtain ⟨-, -, -, k5, -, -⟩ := hrl.ends hi HO.out
              rw [hm1] at k5
              have hkey := key_num hxq.1 (by omega : x < 4294967296)
              clear hrl hkp hat hm1 hm2 hva hcn
              go_wp2_with (first | (at_mapUpdate; refine wpList_mapUpdate_own _ rfl _ _ _ 50 rfl 24 3 law_num Tryd.underlying50 _ mb _ D rfl hown (by have := HCN.out; unfold maxLen; omega) _ _ _ rfl rfl hkey _ [] (plainElem_int Tryd.underlying3 (by decide)) ?_; intro w2 hown2 hgrow2) | fail)
              have h9 := HRL.out.name hi HMF.out hown HAT.out hown2 hgrow2
              have HR9 := Lib.hid h9.1
              have HK9 := Lib.hid (HKQ.out.trans h9.2)
              clear h9 hown hown2 hgrow2 k5 hcell
              go_roundw
              case rel => exact ⟨q + 1, by go_num, by omega, by rw [HTF.out]; exact HR9.out, HK9.out⟩
              case measure => simp [intOf]; omega
            · have hqn1 : ¬ (q : Int) < (ns.length : Int) := by omega
              have htk : ns.take q = ns := List.take_of_length_le (by omega)
              rw [htk] at hrl
              have HRL := Lib.hid hrl
              clear hrl hkp htk hva
              go_wp2_with fail
              go_end0
              exact came_end HRL.out HEND.out rfl
      · have hE2 : came2 E1 mr = E1 := by unfold came2; rw [if_neg (fun h => hd h.1)]
        rw [hE2] at HEN
        have HEND := HEN
        obtain ⟨E2, hE⟩ : ∃ E2, E2 = E1 := ⟨_, rfl⟩
        have HM2 : Hid (E2.m = some mb) := Lib.hid (by rw [hE]; exact HMC.out.1)
        have HC2 : Hid (E2.cnt ≤ 900000) := Lib.hid (by rw [hE]; exact HMC.out.2)
        rw [← hE] at HEND
        go_upto_region 5 with fail
        go_big_quiet (fail)
        generalize hWq : wq.drewN _ = wt
        have HRt : Hid (CameRel w B b i S lv w.heap.size us E2 wt) := Lib.hid (hE ▸ HRq.out.below (hWq ▸ below_drewN (Below.refl _ _) _))
        clear hWq c1 c2 c3 c5 g2 g3 u0 u1 u2 u3 u4 u5 u6 u7 HRq hE hE2 HEN
        obtain ⟨u0, u1, u2, u3, u4, u5, u6, u7⟩ := (HUS.out ▸ HRt.out).units
        go_wp2_with fail
        refine (HN.out _ HRt.out.keep).mono ?_
        rintro e w5 ⟨v5, rfl, hv5, hb5⟩
        have HR5 := Lib.hid (HRt.out.below hb5)
        have HV5 := Lib.hid hv5
        obtain ⟨va, vc, rfl, hvc, hva⟩ := hv5
        clear hb5 HRt HN u0 u1 u2 u3 u4 u5 u6 u7
        go_wp2_with fail
        go_loopw [71] (fun ix wx => ∃ q : Nat, ix = .int .i64 (q : Int) ∧ q ≤ ns.length ∧ CameRel w B b i S lv w.heap.size us ((ns.take q).foldl nameE E2) wx ∧ KeepA B w5 wx) (fun ix _ => ns.length - (intOf ix).toNat)
        case atStart => exact ⟨0, rfl, by omega, HR5.out, KeepA.refl _ _⟩
        case round =>
          obtain ⟨q, rfl, hq, hrl, hkp⟩ := hrel
          by_cases hqn : q < ns.length
          · obtain ⟨vg, cur, fr, rfl, -, -⟩ := hva (by omega)
            have hcell := (HV5.out.keep hkp).cell hqn
            have hxq := HX.out _ (List.getElem_mem hqn)
            have HTF := Lib.hid (take_fold (E := E2) hqn)
            have hqn1 : (q : Int) < (ns.length : Int) := by omega
            have HKQ := Lib.hid hkp
            have HRL := Lib.hid hrl
            obtain ⟨hm1, hm2⟩ := name_m (ns.take q) E2
            rw [HM2.out] at hm1
            rw [List.length_take] at hm2
            have hcn : ((ns.take q).foldl nameE E2).cnt ≤ 2000000 := by have := HC2.out; omega
            generalize (ns.take q).foldl nameE E2 = F at *
            generalize ns[q] = x at *
            obtain ⟨D, hown, hat⟩ := hrl.map hi hm1
            have HAT := Lib.hid hat
            have HCN := Lib.hid hcn
            have HMF := Lib.hid hm1
            obtain ⟨-, -, -, k5, -, -⟩ := hrl.ends hi HO.out
            rw [hm1] at k5
            have hkey := key_num hxq.1 (by omega : x < 4294967296)
            clear hrl hkp hat hm1 hm2 hva hcn
            go_wp2_with (first | (at_mapUpdate; refine wpList_mapUpdate_own _ rfl _ _ _ 50 rfl 24 3 law_num Tryd.underlying50 _ mb _ D rfl hown (by have := HCN.out; unfold maxLen; omega) _ _ _ rfl rfl hkey _ [] (plainElem_int Tryd.underlying3 (by decide)) ?_; intro w2 hown2 hgrow2) | fail)
            have h9 := HRL.out.name hi HMF.out hown HAT.out hown2 hgrow2
            have HR9 := Lib.hid h9.1
            have HK9 := Lib.hid (HKQ.out.trans h9.2)
            clear h9 hown hown2 hgrow2 k5 hcell
            go_roundw
            case rel => exact ⟨q + 1, by go_num, by omega, by rw [HTF.out]; exact HR9.out, HK9.out⟩
            case measure => simp [intOf]; omega
          · have hqn1 : ¬ (q : Int) < (ns.length : Int) := by omega
            have htk : ns.take q = ns := List.take_of_length_le (by omega)
            rw [htk] at hrl
            have HRL := Lib.hid hrl
            clear hrl hkp htk hva
            go_wp2_with fail
            go_end0
            exact came_end HRL.out HEND.out rfl
end Go.Proofs.YtbppgicdmkkmnaaDoor
