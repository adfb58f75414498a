/-
  Contracts of slices.Clone at texts, Book.Epochs, Book.Sound.
-/
import Derived.Test.YtanmdmidjeobeaaEpBook
import Derived.Test.YtanmdmidjeobeaaBox
import Derived.Deep.RegionHeld3
import Derived.Deep.DeepCutAuto
import Derived.Deep.DrawnRows
set_option linter.unusedVariables false
set_option linter.unusedSimpArgs false
namespace Go.Proofs.Ytanmdmidjeobeaa
open Go.RowKit
attribute [local go_sem ↓] Go.wp_at_zero Go.wp_at_succ

theorem own_slice {w : World} {B : Nat} {e : TypeId} {s : Nat} {v : Value} {n : Nat} {xs : List Value} (h : w.ownsRow B e s v n xs) : ∃ a c, v = .slice a n c := by
  rcases h.2 with ⟨rfl, rfl⟩ | ⟨g, cap, cur, rfl, _⟩
  · exact ⟨_, _, rfl⟩
  · exact ⟨_, _, rfl⟩
theorem strs_of_own {w : World} {B : Nat} {v : Value} {ss : List ByteArray} (h : w.ownsRow B 9 1 v ss.length (ss.map Value.string)) (hm : ss.length ≤ 9223372036854775807) : StrsR w v ss := by
  have hcs := @World.ownsRow.cells _ _ _ _ _ _ _ h
  rcases h.2 with ⟨rfl, h0⟩ | ⟨g, cap, cur, rfl, hb, hg, hnc, hcm, hcs2, htk⟩
  · exact ⟨none, 0, by rw [h0], by omega, hm, fun h => absurd h (by omega), fun b o hbo => by cases hbo⟩
  · refine ⟨_, _, rfl, hnc, hm, fun _ => ⟨_, _, rfl⟩, fun b o hbo j hj => ?_⟩
    cases hbo
    have := hcs (g := g) rfl j (.string (ss.getD j ByteArray.empty)) (by rw [List.getElem?_map, getD_get ss j _ hj]; simp [hj])
    rw [Addr.add_lit] at this
    exact this
/-- A row of epochs of a call's own: k of them, what each sent and got. -/
def EpsOwn (w : World) (B : Nat) (v : Value) (k : Nat) (Xe : Nat → Bool → List ByteArray) : Prop :=
  ∃ R' : Nat → Bool → Value, w.ownsRow B 49 2 v k (flatN k R') ∧ ∀ j, j < k → ∀ q, w.ownsRow B 9 1 (R' j q) (Xe j q).length ((Xe j q).map Value.string)
theorem EpsOwn.below {w w' : World} {B : Nat} {v : Value} {k : Nat} {Xe : Nat → Bool → List ByteArray} (h : EpsOwn w B v k Xe) (hb : Below w.heap.size w w') : EpsOwn w' B v k Xe := by
  obtain ⟨R', h1, h2⟩ := h
  exact ⟨R', own_below h1 hb, fun j hj q => own_below (h2 j hj q) hb⟩
def epsList (k : Nat) (Xe : Nat → Bool → List ByteArray) : List (List ByteArray × List ByteArray) := (List.range k).map fun j => (Xe j false, Xe j true)
theorem eps_of_own {w : World} {B : Nat} {v : Value} {k : Nat} {Xe : Nat → Bool → List ByteArray} (h : EpsOwn w B v k Xe) (hk : k ≤ 100000) (hl : ∀ j, j < k → ∀ q, (Xe j q).length ≤ 100000) : EpsR w v (epsList k Xe) := by
  obtain ⟨R', h1, h2⟩ := h
  have hcs := @World.ownsRow.cells _ _ _ _ _ _ _ h1
  have hlen : (epsList k Xe).length = k := by simp [epsList]
  rcases h1.2 with ⟨rfl, h0⟩ | ⟨g, cap, cur, rfl, hb, hg, hnc, hcm, hcs2, htk⟩
  · exact ⟨none, 0, by rw [hlen, h0], by omega, by omega, fun h => absurd h (by omega), fun b o hbo => by cases hbo⟩
  · refine ⟨_, cap, by rw [hlen], by omega, by omega, fun _ => ⟨_, _, rfl⟩, fun b o hbo j hj => ?_⟩
    cases hbo
    rw [hlen] at hj
    have c0 := hcs (g := g) rfl (j * 2) (R' j false) (flatN_get k R' j hj).1
    have c1 := hcs (g := g) rfl (j * 2 + 1) (R' j true) (flatN_get k R' j hj).2
    rw [Addr.add_lit] at c0 c1
    have e1 : (epsList k Xe)[j]'(by rw [hlen]; exact hj) = (Xe j false, Xe j true) := by simp [epsList]
    rw [e1]
    exact ⟨R' j false, R' j true, c0, by rw [← Nat.add_assoc] at c1; exact c1, strs_of_own (h2 j hj false) (show (Xe j false).length ≤ _ by have := hl j hj false; omega), strs_of_own (h2 j hj true) (show (Xe j true).length ≤ _ by have := hl j hj true; omega)⟩
theorem book_eps {w : World} {B b : Nat} {n : Nat → Nat} {X : Nat → Nat → Bool → List ByteArray} {V : Nat → Value} {R : Nat → Nat → Bool → Value} (h : BookAt w B b n X V R) {e : Nat} (he : e < 2) : EpsOwn w B (V e) (n e) (X e) :=
  ⟨R e, h.rows e he, fun j hj q => h.strs e he j hj q⟩

theorem clone_any (v : Value) (ss : List ByteArray) (B : Nat) (w : World) (h : w.ownsRow B 9 1 v ss.length (ss.map Value.string)) (hm : ss.length ≤ 100000) :
    Calls Try.prog 17 #[v] w fun e w' => ∃ v', e = .returned v' ∧ w'.ownsRow w.heap.size 9 1 v' ss.length (ss.map Value.string) ∧ Below w.heap.size w w' := by
  have hcs := @World.ownsRow.cells _ _ _ _ _ _ _ h
  rcases h.2 with ⟨rfl, h0⟩ | ⟨g, cap, cur, rfl, hb, hg, hnc, hcm, hcs2, htk⟩
  · obtain rfl : ss = [] := List.eq_nil_of_length_eq_zero h0
    refine (Try.slices_Clone_string_nil 0 0 w).mono ?_
    rintro e w' ⟨rfl, rfl⟩
    exact ⟨_, rfl, World.ownsRow_nil _ _ _ _, Below.refl _ _⟩
  · refine (Try.slices_Clone_string g 0 ss.length cap ss w (Nat.le_refl _) (by omega) (fun j hj => ?_)).mono ?_
    · have := hcs (g := g) rfl j (.string (ss.getD j ByteArray.empty)) (by rw [List.getElem?_map, getD_get ss j _ hj]; simp [hj])
      rw [Addr.add_lit] at this
      exact this
    · rintro e w' ⟨v', rfl, hown, -, hb'⟩
      rw [List.take_length] at hown
      exact ⟨v', rfl, hown, hb'⟩

theorem BookAt.at {w : World} {B b : Nat} {n : Nat → Nat} {X : Nat → Nat → Bool → List ByteArray} {V : Nat → Value} {R : Nat → Nat → Bool → Value} (h : BookAt w B b n X V R) {e k : Nat} {a : Option Addr} {c : Nat} (he : e < 2) (hk : k < n e) (hV : V e = .slice a (n e) c) :
    ∃ g, a = some ⟨g, 0, none⟩ ∧ w.cell? ⟨g, k * 2, none⟩ = some (R e k false) ∧ w.cell? ⟨g, k * 2 + 1, none⟩ = some (R e k true) := by
  have h1 := h.rows e he
  have hcs := @World.ownsRow.cells _ _ _ _ _ _ _ h1
  obtain ⟨g, cap, hv, _⟩ := h1.form (by omega)
  rw [hV] at hv
  cases hv
  have c0 := hcs (g := g) (by rw [hV]; rfl) (k * 2) (R e k false) (flatN_get (n e) (R e) k hk).1
  have c1 := hcs (g := g) (by rw [hV]; rfl) (k * 2 + 1) (R e k true) (flatN_get (n e) (R e) k hk).2
  rw [Addr.add_lit, Nat.zero_add] at c0 c1
  exact ⟨g, rfl, c0, c1⟩

theorem epochs_none (en : Int) (b : Nat) (w : World) (h : en < 0 ∨ 2 ≤ en) :
    Calls Try.prog 10 #[.pointer (some ⟨b, 0, none⟩), .int .i64 en] w fun e w' => e = .returned (.slice none 0 0) ∧ w = w' := by
  rcases h with h | h
  · go_enter Try.func10, Try.ntmps10
    go_wp2_with fail
    go_ret
    exact ⟨rfl, rfl⟩
  · go_enter Try.func10, Try.ntmps10
    go_wp2_with fail
    go_ret
    exact ⟨rfl, rfl⟩

theorem ownsRow_base {w : World} {B B' : Nat} {e : TypeId} {s : Nat} {v : Value} {n : Nat} {xs : List Value} (h : w.ownsRow B e s v n xs) (hB : B' ≤ B) : w.ownsRow B' e s v n xs := by
  refine ⟨h.1, ?_⟩
  rcases h.2 with h0 | ⟨g, cap, cur, hv, hb, rest⟩
  · exact .inl h0
  · exact .inr ⟨g, cap, cur, hv, by omega, rest⟩

def updK (R : Nat → Bool → Value) (k : Nat) (v0 v1 : Value) : Nat → Bool → Value := fun j q => if j = k then (if q then v1 else v0) else R j q
/-- What a round leaves: one epoch more. -/
theorem eps_more {w wr w1 w2 w3 : World} {k : Nat} {Xe : Nat → Bool → List ByteArray} {R' : Nat → Bool → Value} {out v0 v1 : Value} {g cap : Nat} {o : Obj} (hstr : ∀ j, j < k → ∀ q, wr.ownsRow w.heap.size 9 1 (R' j q) (Xe j q).length ((Xe j q).map Value.string)) (ho : wr.ownsRow w.heap.size 49 2 out k (flatN k R'))
    (hb : Below w.heap.size w wr) (hb1 : Below wr.heap.size wr w1) (hb2 : Below w1.heap.size w1 w2) (h0 : w1.ownsRow wr.heap.size 9 1 v0 (Xe k false).length ((Xe k false).map Value.string)) (h1 : w2.ownsRow wr.heap.size 9 1 v1 (Xe k true).length ((Xe k true).map Value.string))
    (hown : w3.ownsRow w.heap.size 49 2 (.slice (some ⟨g, 0, none⟩) (k + 1) cap) (k + 1) (flatN k R' ++ [v0, v1])) (hg : (w2.alloc o).grownBy w3 out.ownBlock) :
    ∃ R2, w3.ownsRow w.heap.size 49 2 (.slice (some ⟨g, 0, none⟩) (k + 1) cap) (k + 1) (flatN (k + 1) R2) ∧ (∀ j, j < k + 1 → ∀ q, w3.ownsRow w.heap.size 9 1 (R2 j q) (Xe j q).length ((Xe j q).map Value.string)) ∧ Below w.heap.size w w3 := by
  have hz := hb.size
  have key : ∀ {v : Value} {n : Nat} {xs : List Value}, w2.ownsRow w.heap.size 9 1 v n xs → w3.ownsRow w.heap.size 9 1 v n xs := fun {v n xs} h =>
    (h.alloc o).kept hg (own_types h (own_below (own_below ho hb1) hb2) (Ne.symm ep_ne_str))
  refine ⟨updK R' k v0 v1, ?_, fun j hj q => ?_, ?_⟩
  · rw [flatN_succ, flatN_congr (g := R') (fun j hj q => by simp [updK]; intro h; omega)]
    simpa [updK] using hown
  · by_cases h : j = k
    · subst h
      cases q
      · simpa [updK] using key (own_below (ownsRow_base h0 (by omega)) hb2)
      · simpa [updK] using key (ownsRow_base h1 (by omega))
    · simp only [updK, if_neg h]
      exact key (own_below (own_below (hstr j (by omega) q) hb1) hb2)
  · have hb3 : Below w.heap.size w w2 := belSeq (belSeq hb hb1) hb2
    exact (hb3.alloc hb3.size o).grown hg (by have := hb3.size; simp; omega) (fun q hq => (ho.lt q hq).1)

set_option maxHeartbeats 2000000 in
set_option maxRecDepth 100000 in
theorem epochs_any (en : Int) (B b : Nat) (n : Nat → Nat) (X : Nat → Nat → Bool → List ByteArray) (V : Nat → Value) (R : Nat → Nat → Bool → Value) (w : World) (hbook : BookAt w B b n X V R) (h0 : 0 ≤ en) (h1 : en < 2)
    (hn : n en.toNat ≤ 100000) (hl : ∀ j, j < n en.toNat → ∀ q, (X en.toNat j q).length ≤ 100000) :
    Calls Try.prog 10 #[.pointer (some ⟨b, 0, none⟩), .int .i64 en] w fun e w' => ∃ v, e = .returned v ∧ EpsOwn w' w.heap.size v (n en.toNat) (X en.toNat) ∧ Below w.heap.size w w' := by
  obtain ⟨e, rfl⟩ := Int.eq_ofNat_of_zero_le h0
  simp only [Int.toNat_natCast] at hn hl ⊢
  have he2 : e < 2 := by omega
  obtain ⟨i0, hi, hz0, hz1, hz2⟩ := info_parts (show (Try.prog.info? 49).map (fun i => (i.zero, i.size, i.bytes)) = some (some (.agg #[.slice none 0 0, .slice none 0 0]), 2, 48) by kernel_rfl)
  have hcv : w.cell? ⟨b, e, none⟩ = some (V e) := by
    rw [cell_of_row _ _ _ _ _ _ hbook.block]
    have h2 : e = 0 ∨ e = 1 := by omega
    rcases h2 with rfl | rfl <;> rfl
  obtain ⟨a, c, hV⟩ := own_slice (hbook.rows e he2)
  rw [hV] at hcv
  have HV := Lib.hid hV
  have HBK := Lib.hid hbook
  have HCL : Hid (∀ k, k < n e → ∀ q (W : World), Below w.heap.size w W → Calls Try.prog 17 #[R e k q] W fun e' w' => ∃ v', e' = .returned v' ∧ w'.ownsRow W.heap.size 9 1 v' (X e k q).length ((X e k q).map Value.string) ∧ Below W.heap.size W w') :=
    Lib.hid (fun k hk q W hW => clone_any _ _ B W ((hbook.keep hW).strs e he2 k hk q) (hl k hk q))
  clear hV hbook hl
  go_enter Try.func10, Try.ntmps10
  go_wp2_with fail
  go_loopw [5, 21] (fun o i wr => ∃ (k : Nat) (R' : Nat → Bool → Value), k ≤ n e ∧ i = .int .i64 k ∧ wr.ownsRow w.heap.size 49 2 o k (flatN k R') ∧ Hid (∀ j, j < k → ∀ q, wr.ownsRow w.heap.size 9 1 (R' j q) (X e j q).length ((X e j q).map Value.string)) ∧ Below w.heap.size w wr) (fun _ i _ => n e - (intOf i).toNat)
  case atStart => exact ⟨0, fun _ _ => undef, Nat.zero_le _, rfl, World.ownsRow_nil _ _ _ _, Lib.hid (fun j hj => absurd hj (Nat.not_lt_zero _)), Below.refl _ _⟩
  case round =>
    obtain ⟨k, R', hk, rfl, ho, hstr, hbel⟩ := hrel
    by_cases hlt : k < n e
    · obtain ⟨g, rfl, c0, c1⟩ := HBK.out.at he2 hlt HV.out
      have d0 : wr.cell? ⟨g, k * 2, none⟩ = some (R e k false) := (bcell hbel _ _ (block_lt_of_cell c0)).trans c0
      have d1 : wr.cell? ⟨g, k * 2 + 1, none⟩ = some (R e k true) := (bcell hbel _ _ (block_lt_of_cell c1)).trans c1
      obtain ⟨a0, n0, hR0⟩ := own_slice (HBK.out.strs e he2 k hlt false)
      obtain ⟨a1, n1, hR1⟩ := own_slice (HBK.out.strs e he2 k hlt true)
      have HC0 := Lib.hid (HCL.out k hlt false)
      have HC1 := Lib.hid (HCL.out k hlt true)
      rw [hR0] at d0 HC0
      rw [hR1] at d1 HC1
      have hB0 := Lib.hid hbel
      clear c0 c1 hR0 hR1
      have hwlt : wr.heap.size < wr.heap.size + 1 := Nat.lt_succ_self _
      have HOW := Lib.hid ho
      obtain ⟨ao, co, rfl⟩ := own_slice ho
      clear ho
      go_wp2_with fail
      generalize hW0 : wr.alloc _ = W0
      have HBX : Hid (BoxAt W0 wr.heap.size 49 [.slice a0 (X e k false).length n0, .slice a1 (X e k true).length n1]) := Lib.hid (hW0 ▸ BoxAt.new wr _ _)
      have HBR : Hid (Below wr.heap.size wr W0) := Lib.hid (hW0 ▸ (Below.refl _ _).alloc (Nat.le_refl _) _)
      have HBW : Hid (Below w.heap.size w W0) := Lib.hid (belSeq hB0.out HBR.out)
      have hz0' : wr.heap.size < W0.heap.size := HBX.out.lt
      have HBA := Lib.hid (Below.refl W0.heap.size W0).drew
      have hne : (Value.slice ao k co).ownBlock ≠ some wr.heap.size := fun hx => by have := (HOW.out.lt _ hx).2; omega
      clear hW0 d0 d1 hbel
      go_region_held3 (fun w' => w'.cell? ⟨wr.heap.size, 0, none⟩ = some (.slice a0 (X e k false).length n0) ∧ w'.cell? ⟨wr.heap.size, 1, none⟩ = some (.slice a1 (X e k true).length n1)) (first | exact HX3.out.cells2 | exact (HBX.out.below HBA.out hz0').cells2 | exact (HBX.out.below (HBA.out.alloc HBA.out.size _) hz0').cells2)
        (first | (go_at_call 17; (with_reducible refine (HC0.out _ (belSeq HBW.out HBA.out)).mono ?_); rintro e' w1 ⟨v0, rfl, ho0, hb1⟩; obtain ⟨b0, m0, rfl⟩ := own_slice ho0; have HO0 := Lib.hid (ownsRow_base ho0 (Nat.le_trans (Nat.le_of_lt hz0') HBA.out.size)); have HBA : Hid (Below W0.heap.size W0 w1) := Lib.hid (belSeq HBA.out hb1); have HBA1 := HBA; clear ho0 hb1) | (go_at_call 17; (with_reducible refine (HC1.out _ (belSeq HBW.out HBA.out)).mono ?_); rintro e' w2 ⟨v1, rfl, ho1, hb2⟩; obtain ⟨b1, m1, rfl⟩ := own_slice ho1; have HO1 := Lib.hid (ownsRow_base ho1 (Nat.le_trans (Nat.le_of_lt hz0') HBA.out.size)); have HBA : Hid (Below W0.heap.size W0 w2) := Lib.hid (belSeq HBA.out hb2); have HB2 := Lib.hid hb2; have hzz := HBA.out.size; clear ho1 hb2) | ((refine step_append_lies _ (by rfl) _ _ _ (by rfl) w.heap.size 49 i0 _ 2 48 Try.underlying24 hi hz0 hz1 hz2 rfl (by omega) (.slice ao k co) k (flatN k R') (by rfl) ((own_below HOW.out (belSeq HBR.out HBA.out)).alloc _) ⟨w2.heap.size, 0, none⟩ 1 1 [.slice b0 (X e k false).length m0, .slice b1 (X e k true).length m1] (by rfl) (by rfl) (World.news_of_block (cs := #[.slice b0 (X e k false).length m0, .slice b1 (X e k true).length m1]) (t := 49) (fr := (0, 0)) (heap_alloc_new w2 _)) (by simp [Value.oneCell']) (by omega) (by unfold maxLen; omega) (by omega) (by have := HBW.out.size; simp; omega) (w2.heap.size + 1) (by simp) ?_; intro gg cap w3 hown3 hgrow hat hlt3; have HX3 := Lib.hid (((HBX.out.below HBA.out hz0').alloc).grown hgrow (Ne.symm hne)))))
      obtain ⟨R2, hA, hB, hC⟩ := eps_more (Xe := X e) hstr.out HOW.out hB0.out (belSeq HBR.out HBA1.out) HB2.out HO0.out HO1.out hown3 hgrow
      have HRB := Lib.hid hB
      clear hB hgrow hat hown3
      go_wp2_with fail
      go_roundw
      case rel => exact ⟨k + 1, R2, by omega, by go_num, hA, HRB, hC⟩
      case measure => simp [intOf]; omega
    · have hkn : k = n e := by omega
      subst hkn
      go_wp2_with fail
      go_ret
      exact ⟨_, rfl, ⟨R', ho, hstr.out⟩, hbel⟩

theorem match_bool (v1 v2 : Value) (sent got : List (List ByteArray × List ByteArray)) (w : World) (h1 : EpsR w v1 sent) (h2 : EpsR w v2 got) :
    Calls Try.prog 12 #[v1, v2] w fun e w' => ∃ v, e = .returned (.tuple #[v, .bool (matchGo sent 0 got).isSome]) ∧ Below w.heap.size w w' := by
  refine (match_any v1 v2 sent got w h1 h2).mono ?_
  rintro e w' ⟨hb, hp⟩
  cases hm : matchGo sent 0 got with
  | none => rw [hm] at hp; exact ⟨_, hp, hb⟩
  | some l =>
    rw [hm] at hp
    obtain ⟨v, he, _⟩ := hp
    exact ⟨v, he, hb⟩
def soundB (h : Nat → List (List ByteArray × List ByteArray)) : Bool := (matchGo (h 0) 0 (h 1)).isSome && (matchGo (h 1) 0 (h 0)).isSome
theorem BookAt.box {w : World} {B b : Nat} {n : Nat → Nat} {X : Nat → Nat → Bool → List ByteArray} {V : Nat → Value} {R : Nat → Nat → Bool → Value} (h : BookAt w B b n X V R) : BoxAt w b 27 [V 0, V 1] := h.block

set_option maxHeartbeats 1000000 in
set_option maxRecDepth 100000 in
theorem sound_any (B b : Nat) (n : Nat → Nat) (X : Nat → Nat → Bool → List ByteArray) (V : Nat → Value) (R : Nat → Nat → Bool → Value) (w : World) (hbook : BookAt w B b n X V R)
    (hn : ∀ e, e < 2 → n e ≤ 100000) (hl : ∀ e j q, e < 2 → j < n e → (X e j q).length ≤ 100000) :
    Calls Try.prog 13 #[.pointer (some ⟨b, 0, none⟩)] w fun e w' => e = .returned (.bool (soundB fun e => epsList (n e) (X e))) ∧ Below w.heap.size w w' := by
  have HE : Hid (∀ e, e < 2 → ∀ W : World, Below w.heap.size w W → EpsR W (V e) (epsList (n e) (X e))) := Lib.hid (fun e he W hW => eps_of_own (book_eps (hbook.keep hW) he) (hn e he) (fun j hj q => hl e j q he hj))
  have HM0 : Hid (∀ W : World, Below w.heap.size w W → Calls Try.prog 12 #[V 0, V 1] W fun e w' => ∃ v, e = .returned (.tuple #[v, .bool (matchGo (epsList (n 0) (X 0)) 0 (epsList (n 1) (X 1))).isSome]) ∧ Below W.heap.size W w') := Lib.hid (fun W hW => match_bool _ _ _ _ W (HE.out 0 (by omega) W hW) (HE.out 1 (by omega) W hW))
  have HM1 : Hid (∀ W : World, Below w.heap.size w W → Calls Try.prog 12 #[V 1, V 0] W fun e w' => ∃ v, e = .returned (.tuple #[v, .bool (matchGo (epsList (n 1) (X 1)) 0 (epsList (n 0) (X 0))).isSome]) ∧ Below W.heap.size W w') := Lib.hid (fun W hW => match_bool _ _ _ _ W (HE.out 1 (by omega) W hW) (HE.out 0 (by omega) W hW))
  have HBX := Lib.hid hbook.box
  have hlt := HBX.out.lt
  have HS : Hid (soundB (fun e => epsList (n e) (X e)) = ((matchGo (epsList (n 0) (X 0)) 0 (epsList (n 1) (X 1))).isSome && (matchGo (epsList (n 1) (X 1)) 0 (epsList (n 0) (X 0))).isSome)) := Lib.hid rfl
  generalize (matchGo (epsList (n 0) (X 0)) 0 (epsList (n 1) (X 1))).isSome = c0 at *
  generalize (matchGo (epsList (n 1) (X 1)) 0 (epsList (n 0) (X 0))).isSome = c1 at *
  generalize soundB (fun e => epsList (n e) (X e)) = cs at *
  generalize V 0 = V0 at *
  generalize V 1 = V1 at *
  clear hbook HE hn hl
  go_enter Try.func13, Try.ntmps13
  have HBA := Lib.hid (Below.refl w.heap.size w).drew
  go_wp2_with fail
  go_region_held3 (fun w' => w'.cell? ⟨b, 0, none⟩ = some V0 ∧ w'.cell? ⟨b, 1, none⟩ = some V1) (exact (HBX.out.below HBA.out hlt).cells2) ((go_at_call 12; (with_reducible refine (HM0.out _ HBA.out).mono ?_); rintro e w1 ⟨r0, rfl, hb1⟩; have HBA : Hid (Below w.heap.size w w1) := Lib.hid (belSeq HBA.out hb1); clear hb1))
  have HBA2 : Hid (Below w.heap.size w w1.drew) := Lib.hid HBA.out.drew
  go_wp2_with fail
  go_region_held3 (fun w' => w'.cell? ⟨b, 0, none⟩ = some V0 ∧ w'.cell? ⟨b, 1, none⟩ = some V1) (exact (HBX.out.below HBA2.out hlt).cells2) ((go_at_call 12; (with_reducible refine (HM1.out _ HBA2.out).mono ?_); rintro e w2 ⟨r1, rfl, hb2⟩; have HBA2 : Hid (Below w.heap.size w w2) := Lib.hid (belSeq HBA2.out hb2); clear hb2))
  cases c0 <;> cases c1
  all_goals
    go_wp2_with fail
    go_ret
    exact ⟨ret_bool (by rw [HS.out]; rfl), HBA2.out⟩
end Go.Proofs.Ytanmdmidjeobeaa
