/-
  Contract of gaps.Named at a status that names no number, or one.
-/
import Derived.Test.YtbppgicdmkkmnaaDoorAuCame
import Derived.LoopN
import Derived.Outline
set_option linter.unusedVariables false
set_option linter.unusedSimpArgs false
namespace Go.Proofs.YtbppgicdmkkmnaaDoor
open Go.RowKit

theorem info_n1 : (Tryd.prog.info? 24).map (fun i => (i.zero, i.size, i.bytes)) = some (some (.int .u32 0), 1, 4) := by kernel_rfl
def NamedEnd (base Bo : Nat) (ns : List Int) (w : World) (e : Ending) (w' : World) : Prop := e = .returned (.tuple #[]) ∧ ∃ v, BoxAt w' Bo 28 [v] ∧ NumsAt w' v ns ∧ Below base w w'
theorem nums_one {w : World} {base g cap : Nat} {x : Int} (h : w.ownsRow base 24 1 (.slice (some ⟨g, 0, none⟩) 1 cap) 1 [.int .u32 x]) : NumsAt w (.slice (some ⟨g, 0, none⟩) 1 cap) [x] := by
  obtain ⟨_, h2 | ⟨g', cap', cur, hv, hB, hq, hc1, hc2, hc3, hc4⟩⟩ := h
  · exact absurd h2.2 (by decide)
  · cases hv
    refine ⟨_, _, rfl, hc1, fun _ => ⟨g, cur, (0, 0), rfl, hq, fun j hj => ?_⟩⟩
    have hj0 : j = 0 := by simpa using hj
    subst hj0
    have h5 : (cur.toList.take (1 * 1))[0]? = some (.int .u32 x) := by rw [hc4]; rfl
    rw [List.getElem?_take] at h5
    simpa using h5
theorem nums_none {w : World} : NumsAt w (.slice none 0 0) [] := ⟨none, 0, rfl, Nat.le_refl _, fun h => absurd h (by decide)⟩
theorem clo_end {base Bo mb gg cap : Nat} {x : Int} {w w1 w2 w3 : World} (ho : BoxAt w2 Bo 28 [.slice none 0 0]) (h1 : w.grownBy w1 (some mb)) (hB : base ≤ mb) (hO : base ≤ Bo) (hb : Below base w1 w2)
    (hsz : base ≤ w.heap.size) (hown : w3.ownsRow base 24 1 (.slice (some ⟨gg, 0, none⟩) 1 cap) 1 [.int .u32 x]) (hg : w2.grownBy w3 none) (hne : gg ≠ Bo) :
    NamedEnd base Bo [x] w (.returned (.tuple #[])) (w3.setCell ⟨Bo, 0, none⟩ (.slice (some ⟨gg, 0, none⟩) 1 cap)) := by
  have hb3 := (ho.grown hg (by simp)).set 0 (.slice (some ⟨gg, 0, none⟩) 1 cap)
  refine ⟨rfl, _, hb3, ?_, ?_⟩
  · obtain ⟨a, c, h2, h3, h4⟩ := nums_one hown
    refine ⟨a, c, h2, h3, fun h0 => ?_⟩
    obtain ⟨g, cur, fr, h5, h6, h7⟩ := h4 h0
    refine ⟨g, cur, fr, h5, ?_, h7⟩
    rw [h5] at h2
    cases h2
    rw [Below.heap_setCell _ _ _ _ (fun e => hne e)]
    exact h6
  · have e1 : Below base w w1 := (Below.refl _ _).grown h1 hsz (fun j hj => by cases hj; exact hB)
    have e2 : Below base w w2 := e1.trans hb
    have e3 : Below base w w3 := e2.grown hg (by have := e2.size; omega) (fun j hj => by cases hj)
    exact e3.setCell hO _
set_option maxRecDepth 100000 in
set_option maxHeartbeats 2000000 in
theorem clo_one (base Bo Bs mb : Nat) (x : Int) (w : World) (hx0 : 0 ≤ x) (hx1 : x < 16777216) (ho : BoxAt w Bo 28 [.slice none 0 0]) (hs : BoxAt w Bs 50 [.map (some mb)])
    (hown : w.ownsMap Tryd.prog 24 (plainElem (H := Unit) Tryd.prog 3) mb 0 (.map [])) (hO : base ≤ Bo) (hB : base ≤ mb) (hsz : base ≤ w.heap.size) :
    Calls Tryd.prog 38 #[.int .u32 x, .int .i64 1, .pointer (some ⟨Bo, 0, none⟩), .pointer (some ⟨Bs, 0, none⟩)] w (NamedEnd base Bo [x] w) := by
  have hx2 : x % 16777216 = x := by omega
  have c0 := ho.cells1
  have g0 := ho.frozs1
  have s0 := hs.cells1
  have HO := Lib.hid ho
  have HS := Lib.hid hs
  have HX := Lib.hid hx2
  have hkey := key_num hx0 (by omega : x < 4294967296)
  obtain ⟨i0, hi0, hz0, hz1, hz2⟩ := info_parts info_n1
  have hbm : ∃ es c, w.heap[mb]? = some (.map es c) := by obtain ⟨es, c, h2, _⟩ := hown; exact ⟨es, c, h2⟩
  obtain ⟨es, c, hes⟩ := hbm
  have hBo : some Bo ≠ some mb := fun e => by cases e; unfold BoxAt at ho; rw [ho] at hes; cases hes
  have hBs : some Bs ≠ some mb := fun e => by cases e; unfold BoxAt at hs; rw [hs] at hes; cases hes
  clear hes
  go_enter Tryd.func38, Tryd.ntmps38
  go_wp2_with fail
  refine wp_loop_rounds 2 ?_
  rw [rounds_succ]
  go_wp2_with fail
  refine (add_num _ _ _).mono ?_
  rintro e w' ⟨rfl, rfl⟩
  rw [show (x + 0) % 16777216 = x by omega]
  go_wp2_with (first | (at_lookup; refine wpList_lookup_own_int _ rfl _ _ 50 rfl 24 3 .i64 law_num Tryd.underlying50 Tryd.underlying3 (zero_int _) mb _ _ rfl hown _ _ rfl hkey ?_; intro c hat hwc; have hce : c = 0 := (lit_same hat).symm; subst hce; clear hat hwc) | (at_mapUpdate; refine wpList_mapUpdate_own _ rfl _ _ _ 50 rfl 24 3 law_num Tryd.underlying50 _ mb _ _ rfl hown (by unfold maxLen; omega) _ _ _ rfl rfl hkey _ [] (plainElem_int Tryd.underlying3 (by decide)) ?_; intro w2 hown2 hgrow2; have ho2 := HO.out.grown hgrow2 hBo; have k0 := ho2.cells1; have k1 := ho2.frozs1; have m0 := (HS.out.grown hgrow2 hBs).cells1; have HO2 := Lib.hid ho2; have HG2 := Lib.hid hgrow2; have hz9 := hgrow2.size; clear ho2 hgrow2) | (at_lookup; refine wpList_lookup_own_int _ rfl _ _ 50 rfl 24 3 .i64 law_num Tryd.underlying50 Tryd.underlying3 (zero_int _) mb _ _ rfl hown2 _ _ rfl hkey ?_; intro c hat hwc; have hce : c = 1 := (lit_same ((Maps.atKey_put_same (H := Unit) (D := .map []) hown.isMap (key_lit x) _ _).symm.trans hat)).symm; subst hce; clear hat hwc) | (at_builtin; refine wpList_append_lies _ rfl _ _ _ rfl base 24 i0 _ 1 4 Tryd.underlying28 hi0 hz0 hz1 hz2 rfl (by omega) (.slice none 0 0) 0 [] rfl ⟨rfl, .inl ⟨rfl, rfl⟩⟩ ⟨w2.heap.size, 0, none⟩ 1 1 [.int .u32 x] rfl rfl (World.news_of_block (cs := #[.int .u32 x]) (t := 24) (fr := (0, 0)) (heap_alloc_new w2 _)) (by simp [Value.oneCell']) (by omega) (by unfold maxLen; omega) (by omega) (by simp; omega) (w2.heap.size + 1) (by simp) ?_; intro gg cap w5 hown5 hgrow5 hat5 hlt5; have hb5 := (HO2.out.alloc (o := .cells #[.int .u32 x] 24)).grown hgrow5 (by simp [Value.ownBlock]); have p0 := hb5.cells1; have p1 := hb5.frozs1; clear hb5) | fail)
  rw [rounds_succ]
  have hb6 := (((HO2.out.alloc (o := .cells #[.int .u32 x] 24)).grown hgrow5 (by simp [Value.ownBlock])).set 0 (.slice (some ⟨gg, 0, none⟩) 1 cap)).cells1
  go_wp2_with fail
  go_end0
  refine clo_end (HO2.out.alloc (o := .cells #[.int .u32 x] 24)) HG2.out hB hO ((Below.refl _ _).alloc (by omega) _) hsz hown5 hgrow5 ?_
  rcases hat5 with h | h
  · simp [Value.ownBlock] at h
  · have := HO2.out.lt; omega
def fv (Bo Bs : Nat) : Value := .func (.func 38) #[] #[.pointer (some ⟨Bo, 0, none⟩), .pointer (some ⟨Bs, 0, none⟩)]
set_option maxRecDepth 100000 in
set_option maxHeartbeats 2000000 in
theorem pairs_none (v : Value) (w : World) : Calls Tryd.prog 37 #[.slice none 0 0, v] w fun e w' => e = .returned (.tuple #[]) ∧ w = w' := by
  go_enter Tryd.func37, Tryd.ntmps37
  go_wp2_with fail
  refine wp_loop_rounds 1 ?_
  rw [rounds_succ]
  go_wp2_with fail
  go_end0
  exact ⟨rfl, rfl⟩
set_option maxRecDepth 100000 in
set_option maxHeartbeats 2000000 in
theorem pairs_one (base Bo Bs mb g c : Nat) (x : Int) (w : World) (hx0 : 0 ≤ x) (hx1 : x < 16777216) (hg0 : w.cell? ⟨g, 0, none⟩ = some (.int .u32 x)) (hg1 : w.cell? ⟨g, 1, none⟩ = some (.int .u32 ((x + 1) % 16777216)))
    (ho : BoxAt w Bo 28 [.slice none 0 0]) (hs : BoxAt w Bs 50 [.map (some mb)])
    (hown : w.ownsMap Tryd.prog 24 (plainElem (H := Unit) Tryd.prog 3) mb 0 (.map [])) (hO : base ≤ Bo) (hB : base ≤ mb) (hsz : base ≤ w.heap.size) :
    Calls Tryd.prog 37 #[.slice (some ⟨g, 0, none⟩) 2 c, .func (.func 38) #[] #[.pointer (some ⟨Bo, 0, none⟩), .pointer (some ⟨Bs, 0, none⟩)]] w (NamedEnd base Bo [x] w) := by
  have HO := Lib.hid ho
  have HS := Lib.hid hs
  have HW := Lib.hid hown
  clear ho hs hown
  generalize hy : (x + 1) % 16777216 = y at *
  have HY := Lib.hid hy
  have HYX : Hid ((y - x) % 16777216 = 1) := Lib.hid (by omega)
  have HXX : Hid (x % 16777216 = x) := Lib.hid (by omega)
  clear hy
  go_enter Tryd.func37, Tryd.ntmps37
  go_wp2_with fail
  refine wp_loop_rounds 2 ?_
  rw [rounds_succ]
  go_wp2_with fail
  go_quiet ((go_at_call 20; exact Calls.quiet_of_same ((to_num _ _ _).mono fun _ _ ⟨h1, h2⟩ => ⟨h1, h2.symm⟩)))
  generalize hWq : w.drewN _ = wq
  have hwq : Below w.heap.size w wq := hWq ▸ below_drewN (Below.refl _ _) _
  have HBQ : Hid (Below base w wq) := Lib.hid (hwq.mono hsz)
  have HZQ : Hid (base ≤ wq.heap.size) := Lib.hid (by have := hwq.size; omega)
  rw [HYX.out]
  have HOq := Lib.hid (HO.out.below hwq HO.out.lt)
  have HSq := Lib.hid (HS.out.below hwq HS.out.lt)
  have HWq := Lib.hid (HW.out.kept (grown_below hwq) (by simp))
  have hc0 : wq.cell? ⟨g, 0, none⟩ = some (.int .u32 x) := (hwq.cell (block_lt_of_cell hg0)).trans hg0
  clear hWq hg0 hg1 hwq
  go_wp2_with fail
  refine (low_num _ _).mono ?_
  rintro e w' ⟨rfl, rfl⟩
  rw [HXX.out]
  go_wp2_with fail
  refine (clo_one base Bo Bs mb x wq hx0 hx1 HOq.out HSq.out HWq.out hO hB HZQ.out).mono ?_
  rintro e w3 ⟨rfl, v, hv1, hv2, hv3⟩
  have HE : Hid (NamedEnd base Bo [x] w (.returned (.tuple #[])) w3) := Lib.hid ⟨rfl, v, hv1, hv2, HBQ.out.trans hv3⟩
  clear hv1 hv2 hv3 hc0
  go_wp2_with fail
  rw [rounds_succ]
  go_wp2_with fail
  go_end0
  exact HE.out
theorem three {w W1 : World} (hb : Below w.heap.size w W1) (hz : W1.heap.size = w.heap.size + 1) :
    BoxAt (((W1.alloc (.cells #[.slice none 0 0] 28)).alloc (.map #[] 0)).alloc (.cells #[.map (some (w.heap.size + 1 + 1))] 50)) (w.heap.size + 1) 28 [.slice none 0 0] ∧
    BoxAt (((W1.alloc (.cells #[.slice none 0 0] 28)).alloc (.map #[] 0)).alloc (.cells #[.map (some (w.heap.size + 1 + 1))] 50)) (w.heap.size + 1 + 1 + 1) 50 [.map (some (w.heap.size + 1 + 1))] ∧
    (((W1.alloc (.cells #[.slice none 0 0] 28)).alloc (.map #[] 0)).alloc (.cells #[.map (some (w.heap.size + 1 + 1))] 50)).ownsMap Tryd.prog 24 (plainElem (H := Unit) Tryd.prog 3) (w.heap.size + 1 + 1) 0 (.map []) ∧
    Below w.heap.size w (((W1.alloc (.cells #[.slice none 0 0] 28)).alloc (.map #[] 0)).alloc (.cells #[.map (some (w.heap.size + 1 + 1))] 50)) ∧
    w.heap.size + 1 + 1 + 1 < (((W1.alloc (.cells #[.slice none 0 0] 28)).alloc (.map #[] 0)).alloc (.cells #[.map (some (w.heap.size + 1 + 1))] 50)).heap.size := by
  refine ⟨?_, ?_, ?_, ?_, by simp [hz]⟩
  · rw [← hz]; exact ((BoxAt.new W1 _ _).alloc).alloc
  · exact BoxAt.newAt (by simp [hz]) _ _
  · have := World.ownsMap_made (H := Unit) (W1.alloc (.cells #[.slice none 0 0] 28)) Tryd.prog 24 (plainElem Tryd.prog 3)
    have e : (W1.alloc (.cells #[.slice none 0 0] 28)).heap.size = w.heap.size + 1 + 1 := by simp [hz]
    rw [e] at this
    exact this.kept (grown_below ((Below.refl _ _).alloc (Nat.le_refl _) _)) (by simp)
  · exact ((hb.alloc (by omega) _).alloc (by simp; omega) _).alloc (by simp; omega) _
/-- What Named answers: a row of numbers. -/
def NamesEnd (ns : List Int) (w : World) (e : Ending) (w' : World) : Prop := ∃ v, e = .returned v ∧ NumsAt w' v ns ∧ Below w.heap.size w w'
theorem names_end {ns : List Int} {Bo : Nat} {w w1 w2 : World} {e : Ending} {v : Value} (hb : Below w.heap.size w w1) (h : BoxAt w2 Bo 28 [v] ∧ NumsAt w2 v ns ∧ Below w.heap.size w1 w2) (he : e = .returned v) : NamesEnd ns w e w2 :=
  ⟨v, he, h.2.1, hb.trans h.2.2⟩
set_option maxRecDepth 100000 in
set_option maxHeartbeats 2000000 in
theorem named_none (k n mr : Int) (w : World) (hk : k = 11 ∨ k = 12) : Calls Tryd.prog 29 #[.agg #[.int .i64 k, .int .i64 0, .int .u32 n, .int .u32 0, .int .u32 mr, .slice none 0 0, .bool false, .string ⟨#[]⟩]] w (NamesEnd [] w) := by
  have hmm := @run_makeMap Tryd.prog
  rcases hk with rfl | rfl
  all_goals
    go_enter Tryd.func29, Tryd.ntmps29
    go_wp2_with fail
    refine (pairs_none _ _).mono ?_
    rintro e w' ⟨rfl, rfl⟩
    go_wp2_with fail
    go_ret
    exact ⟨_, rfl, nums_none, ((((Below.refl _ _).alloc (Nat.le_refl _) _).alloc (by simp) _).alloc (by simp; omega) _).alloc (by simp; omega) _⟩
set_option maxRecDepth 100000 in
set_option maxHeartbeats 2000000 in
theorem named_one (k n mr x : Int) (g c : Nat) (w : World) (hk : k = 11 ∨ k = 12) (hx0 : 0 ≤ x) (hx1 : x < 16777216) (hg0 : w.cell? ⟨g, 0, none⟩ = some (.int .u32 x)) (hg1 : w.cell? ⟨g, 1, none⟩ = some (.int .u32 ((x + 1) % 16777216))) :
    Calls Tryd.prog 29 #[.agg #[.int .i64 k, .int .i64 0, .int .u32 n, .int .u32 0, .int .u32 mr, .slice (some ⟨g, 0, none⟩) 2 c, .bool false, .string ⟨#[]⟩]] w (NamesEnd [x] w) := by
  have hmm := @run_makeMap Tryd.prog
  have H0 := Lib.hid hg0
  have H1 := Lib.hid hg1
  clear hg0 hg1
  rcases hk with rfl | rfl
  all_goals
    go_enter Tryd.func29, Tryd.ntmps29
    go_wp2_with fail
    generalize hW1 : w.alloc (.cells #[.int .i64 _, .int .i64 0, .int .u32 n, .int .u32 0, .int .u32 mr, .slice (some ⟨g, 0, none⟩) 2 c, .bool false, .string ⟨#[]⟩] 30) = W1
    have hb1 : Below w.heap.size w W1 := hW1 ▸ (Below.refl _ _).alloc (Nat.le_refl _) _
    have hz1 : W1.heap.size = w.heap.size + 1 := by rw [← hW1]; simp
    have HP := Lib.hid (hW1 ▸ BoxAt.new w 30 _)
    clear hW1
    obtain ⟨t1, t2, t3, t4, t5⟩ := three hb1 hz1
    generalize ((W1.alloc _).alloc _).alloc _ = W4 at *
    have HB4 := Lib.hid t4
    refine (pairs_one w.heap.size (w.heap.size + 1) (w.heap.size + 1 + 1 + 1) (w.heap.size + 1 + 1) g c x W4 hx0 hx1 ((t4.cell (block_lt_of_cell H0.out)).trans H0.out) ((t4.cell (block_lt_of_cell H1.out)).trans H1.out) t1 t2 t3 (by omega) (by omega) (by omega)).mono ?_
    rintro e w3 ⟨rfl, v, hv1, hv2, hv3⟩
    have c1 := hv1.cells1
    have HV := Lib.hid (And.intro hv1 (And.intro hv2 hv3))
    clear hv1 hv2 hv3 t1 t2 t3 t4 t5 hb1 hz1
    go_wp2_with fail
    go_ret
    exact names_end HB4.out HV.out rfl
end Go.Proofs.YtbppgicdmkkmnaaDoor
