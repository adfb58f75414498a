/-
  The statement LineParses.
-/
import Derived.Test.YtgilbdhoddmpbaaDoorLnSame
import Derived.Test.YtgilbdhoddmpbaaDoorCut
import Derived.Lib.QuietBelow
import Derived.Deep.QuietTactic
import Derived.BigQuiet
set_option linter.unusedVariables false
set_option linter.unusedSimpArgs false
namespace Go.Proofs.YtgilbdhoddmpbaaDoor
open Go.RowKit

theorem rparse_in (s : ByteArray) (w : World) (hs : s.size ≤ 100000) (xs : List Stp) (n : Nat) (ok : Bool) (hp : parseL s.data.toList = (xs, n, ok)) :
    Calls Tryd.prog 11 #[.string s] w fun e w' => ∃ a c nvs, e = .returned (.tuple #[.slice a xs.length c, .int .i64 (n : Int), .bool ok]) ∧ RStpsAt w' w.heap.size (.slice a xs.length c) xs nvs ∧ xs.length ≤ c ∧ Below w.heap.size w w' := by
  refine (rparse_any s w hs).mono ?_
  rintro e w' ⟨hb, v, nvs, he, hst⟩
  rw [hp] at he hst
  obtain ⟨a, c, rfl, h1, h2⟩ := hst.form
  exact ⟨a, c, nvs, he, hst, h1, hb⟩
/-- A list that has been parsed has no long lists of numbers. -/
theorem fields_nums : ∀ (need : List UInt8) (ws : List (List UInt8)) (x y : Stp), fieldsL need ws x = some y → y.nums.length ≤ x.nums.length + need.length
  | [], _, x, y, h => by simp [fieldsL] at h; subst h; simp
  | c :: t, [], x, y, h => by simp [fieldsL] at h
  | c :: t, w :: ws, x, y, h => by
    unfold fieldsL at h
    split at h
    · cases h
    · rename_i z hz
      have h1 := fields_nums t ws z y h
      have h2 := take_len hz
      simp; omega
theorem step_nums {s : List UInt8} {x : Stp} (h : stepL s = some x) : x.nums.length ≤ 6 := by
  unfold stepL stepW at h
  split at h
  · cases h
  · rename_i need hn
    split at h
    · have h1 := fields_nums _ _ _ _ h
      have h2 : need.length ≤ 6 := (need_good _ (need_mem hn)).2.2.1
      simp at h1; omega
    · cases h
theorem scan_nums : ∀ (ls : List (List UInt8)) (n : Nat) (out xs : List Stp) (k : Nat) (ok : Bool), scanL n out ls = (xs, k, ok) → (∀ x ∈ out, x.nums.length ≤ 6) → ∀ x ∈ xs, x.nums.length ≤ 6
  | [], n, out, xs, k, ok, h, ho => by simp only [scanL, Prod.mk.injEq] at h; rw [← h.1]; exact ho
  | l :: t, n, out, xs, k, ok, h, ho => by
    rw [scan_cons] at h
    by_cases hs : skipL l = true
    · rw [if_pos hs] at h; exact scan_nums t _ _ _ _ _ h ho
    · rw [if_neg hs] at h
      cases hx : stepL l with
      | none => rw [hx] at h; simp only [Prod.mk.injEq] at h; rw [← h.1]; intro x hx; cases hx
      | some y =>
        rw [hx] at h
        simp only at h
        by_cases hl : out.length = 400
        · rw [if_pos hl] at h; simp only [Prod.mk.injEq] at h; rw [← h.1]; intro x hx; cases hx
        · rw [if_neg hl] at h
          refine scan_nums t _ _ _ _ _ h (fun x hm => ?_)
          rcases List.mem_append.1 hm with h1 | h1
          · exact ho x h1
          · rw [List.mem_singleton.1 h1]; exact step_nums hx
theorem parse_nums {s : List UInt8} {xs : List Stp} {k : Nat} {ok : Bool} (h : parseL s = (xs, k, ok)) : ∀ x ∈ xs, x.nums.length ≤ 6 := scan_nums _ _ _ _ _ _ h (fun x hx => by cases hx)
set_option maxRecDepth 100000 in
set_option maxHeartbeats 4000000 in
theorem parses_any (s : ByteArray) (w : World) (hs : s.size ≤ maxLen) (he : EnvM w) :
    Calls Tryd.prog 3 #[.string s] w fun e w' => e = .returned (.bool true) ∧ Below w.heap.size w w' := by
  have HAW := Lib.hid (awake23 w he)
  have HCU := Lib.hid (fun W => cut_any s 3000 W hs (by omega))
  obtain ⟨S, hS, hSl⟩ : ∃ S : ByteArray, S = ⟨(s.data.toList.take 3000).toArray⟩ ∧ S.size ≤ 3000 := ⟨_, rfl, by rw [size_arr, List.length_take]; omega⟩
  rw [← hS] at HCU
  clear hS
  obtain ⟨xs, k, ok, hp⟩ : ∃ xs k ok, parseL S.data.toList = (xs, k, ok) := ⟨_, _, _, rfl⟩
  have HNU := Lib.hid (parse_nums hp)
  have HP := Lib.hid hp
  clear hp hs
  go_enter Tryd.func3, Tryd.ntmps3
  go_wp2_with fail
  refine HAW.out.mono ?_
  rintro e w1 ⟨rfl, hb1⟩
  have HB1 := Lib.hid hb1
  have HE1 := Lib.hid (he.below hb1)
  clear hb1 he HAW
  go_wp2_with fail
  refine (HCU.out _).mono ?_
  rintro e w1' ⟨rfl, rfl⟩
  go_wp2_with fail
  refine (parse_in S w1 (by omega) HE1.out xs k ok HP.out).mono ?_
  rintro e w2 ⟨a1, c1, nvs1, rfl, hst1, hc1, hb2⟩
  have HST2 := Lib.hid hst1
  have HB2 := Lib.hid (belSeq HB1.out hb2)
  clear hst1 hb2 HCU HB1 HE1
  go_wp2_with fail
  refine (rparse_in S w2 (by omega) xs k ok HP.out).mono ?_
  rintro e w3 ⟨a2, c2, nvs2, rfl, hst2, hc2, hb3⟩
  have HST3 := Lib.hid (HST2.out.below hb3)
  have HRT3 := Lib.hid hst2
  have HB3 := Lib.hid (belSeq HB2.out hb3)
  clear hst2 hb3 HST2 HB2 HP
  have hok : (ok != ok) = false := by cases ok <;> rfl
  have hxl : (xs.length : Int) ≤ 9223372036854775807 := by
    rcases HST3.out.row.2 with ⟨_, h0⟩ | ⟨_, _, _, _, _, _, h1, h2, _⟩
    · omega
    · unfold maxLen at h2; omega
  go_wp2_with fail
  go_loopw [44] (fun i wx => ∃ j : Nat, i = .int .i64 (j : Int) ∧ j ≤ xs.length ∧ Below w3.heap.size w3 wx) (fun i _ => xs.length - (intOf i).toNat)
  case atStart => exact ⟨0, rfl, by omega, Below.refl _ _⟩
  case round =>
    obtain ⟨j, rfl, hj, hbel⟩ := hrel
    by_cases hlt : j < xs.length
    · obtain ⟨b1, d1, hv1, _, hg1⟩ := HST3.out.form
      obtain ⟨g1, rfl, hgB1, hgl1⟩ := hg1 (by omega)
      cases hv1
      obtain ⟨b2, d2, hv2, _, hg2⟩ := HRT3.out.form
      obtain ⟨g2, rfl, hgB2, hgl2⟩ := hg2 (by omega)
      cases hv2
      obtain ⟨na, nc, hi1⟩ := HST3.out.at rfl hlt
      obtain ⟨nb, mc, hi2⟩ := HRT3.out.at rfl hlt
      have hi1' := hi1.below hbel
      have hi2' := hi2.below hbel
      have hnl := HNU.out _ (List.getElem_mem hlt)
      have hlt1 : (j : Int) < (xs.length : Int) := by omega
      have HBW := Lib.hid (belSeq HB3.out hbel)
      have HBL := Lib.hid hbel
      obtain ⟨p0, p1, p2, p3, pn⟩ := hi1'
      obtain ⟨q0, q1, q2, q3, qn⟩ := hi2'
      have HPN := Lib.hid pn
      have HQN := Lib.hid qn
      rw [Nat.mul_comm 4 j] at p0 p1 p2 p3 q0 q1 q2 q3
      clear hi1 hi2 hbel pn qn
      generalize xs[j] = x at *
      go_upto_region 11 with fail
      have hwb := (Below.refl wr.heap.size wr).alloc (Nat.le_refl _) (.cells #[.string ⟨x.word.toArray⟩, .slice nb x.nums.length mc, .string ⟨x.ask.toArray⟩, .string ⟨x.data.toArray⟩] 32)
      obtain ⟨m0, m1, m2, m3⟩ := (BoxAt.new wr 32 [.string ⟨x.word.toArray⟩, .slice nb x.nums.length mc, .string ⟨x.ask.toArray⟩, .string ⟨x.data.toArray⟩]).cells4
      have HPM := Lib.hid (HPN.out.below hwb (Nat.le_refl _))
      have HQM := Lib.hid (HQN.out.below hwb (Nat.le_refl _))
      have HBM := Lib.hid (belSeq HBL.out hwb)
      have n0 := (hwb.cell (block_lt_of_cell p0)).trans p0
      have n1 := (hwb.cell (block_lt_of_cell p1)).trans p1
      have n2 := (hwb.cell (block_lt_of_cell p2)).trans p2
      have n3 := (hwb.cell (block_lt_of_cell p3)).trans p3
      clear hwb p0 p1 p2 p3 q0 q1 q2 q3 HPN HQN HBL HBW
      simp only [List.toArray] at m0 m1 m2 m3
      generalize wr.alloc (.cells #[.string ⟨x.word.toArray⟩, .slice nb x.nums.length mc, .string ⟨x.ask.toArray⟩, .string ⟨x.data.toArray⟩] 32) = W at *
      generalize wr.heap.size = bb at *
      have k0 := cell_regrown m0
      have k1 := cell_regrown m1
      have k2 := cell_regrown m2
      have k3 := cell_regrown m3
      have l0 := cell_regrown n0
      have l1 := cell_regrown n1
      have l2 := cell_regrown n2
      have l3 := cell_regrown n3
      have cA := fun dd os => Calls.regrown_of (same_step x na nb nc mc (Sort.grow (redrawn W dd) os) (by omega) (HPM.out.below (below_regrown W dd os) (Nat.le_refl _)) (HQM.out.below (below_regrown W dd os) (Nat.le_refl _)))
      clear m0 m1 m2 m3 n0 n1 n2 n3
      refine wp_region_quiet_below (by kernel_rfl) (by kernel_rfl) ?_
      repeat (quiet_step (with_reducible exact cA _ _))
      refine wpQuiet_nil ?_
      intro _ hw'
      obtain ⟨⟨dq, osq⟩, hw''⟩ := hw'
      subst hw''
      have hW4 := below_regrown W dq osq
      generalize Sort.grow (redrawn W dq) osq = W4 at *
      have HB4 := Lib.hid (belSeq HBM.out hW4)
      clear hW4 cA k0 k1 k2 k3 l0 l1 l2 l3 HPM HQM HBM
      go_wp2_with fail
      go_roundw
      case rel => exact ⟨j + 1, by go_num, by omega, HB4.out⟩
      case measure => simp [intOf]; omega
    · go_wp2_with fail
      go_ret
      exact ⟨rfl, belSeq HB3.out hbel⟩
end Go.Proofs.YtgilbdhoddmpbaaDoor
