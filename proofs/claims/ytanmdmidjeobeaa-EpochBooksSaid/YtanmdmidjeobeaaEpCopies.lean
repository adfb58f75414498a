/-
  The walk of the statement EpochCopies.
-/
import Derived.Test.YtanmdmidjeobeaaEpForged
import Derived.Test.YtanmdmidjeobeaaOpenEps
import Derived.Deep.QuietTactic
import Derived.BigQuiet
import Derived.WalkSmall
set_option linter.unusedVariables false
set_option linter.unusedSimpArgs false
namespace Go.Proofs.Ytanmdmidjeobeaa
open Go.RowKit

def foldN (ns : List Nt) : Held := ns.foldl (fun h n => stepRec h (recOf n.en n.what n.how n.data)) (fun _ => [])
theorem foldN_snoc (ns : List Nt) (k : Nat) (h : k < ns.length) : foldN (ns.take (k + 1)) = stepRec (foldN (ns.take k)) (recOf ns[k].en ns[k].what ns[k].how ns[k].data) := by
  unfold foldN
  rw [List.take_succ_eq_append_getElem h, List.foldl_append]; rfl
theorem small_foldN (ns : List Nt) (N : Nat) (h : ns.length ≤ N) : SmallH (foldN ns) N := by
  have key : ∀ (ns : List Nt) (hh : Held) (M : Nat), SmallH hh M → SmallH (ns.foldl (fun h n => stepRec h (recOf n.en n.what n.how n.data)) hh) (M + ns.length) := by
    intro ns
    induction ns with
    | nil => intro hh M k; exact k
    | cons a t ih => intro hh M k; exact (ih _ _ (k.step _)).mono (by simp; omega)
  exact (key ns _ 0 small_new).mono (by omega)

/-- The book, after k notes. -/
def NoteRel (w : World) (B : Nat) (ns : List Nt) (M : Nat) (i : Value) (wr : World) : Prop :=
  ∃ (k : Nat) (F : Nat → Prop), k ≤ ns.length ∧ k ≤ M ∧ i = .int .i64 k ∧ Hid (Book wr B B (foldN (ns.take k)) F) ∧ Hid (∀ x, F x → w.heap.size ≤ x) ∧ Hid (Below w.heap.size w wr)
theorem note_step {w w1 w2 : World} {B M k : Nat} {ns : List Nt} {F : Nat → Prop} {r : Rc} {n : Nt} (hk : k < ns.length) (hkM : k < M) (hn : ns[k] = n) (hr : recOf n.en n.what n.how n.data = r) (hb : Below w.heap.size w w1) (hFw : ∀ x, F x → w.heap.size ≤ x)
    (hbk : AddBook w1 B B (foldN (ns.take k)) F [r] (.returned (.tuple #[])) w2) : NoteRel w B ns M (.int .i64 ((k : Int) + 1)) w2 := by
  obtain ⟨-, h1, h2⟩ := hbk
  have hz := hb.size
  refine ⟨k + 1, _, hk, hkM, by simp, Lib.hid (by rw [foldN_snoc ns k hk, hn, hr]; exact h1), Lib.hid (fun x hx => ?_), Lib.hid (below_fr hb h2 hFw)⟩
  rcases hx with h | h
  · exact hFw x h
  · omega

theorem own_any_set {w : World} {B : Nat} {e : TypeId} {s : Nat} {v : Value} {n : Nat} (h : ∃ xs, w.ownsRow B e s v n xs) (b j : Nat) (u : Value) : ∃ xs, (w.setCell ⟨b, j, none⟩ u).ownsRow B e s v n xs := by
  obtain ⟨xs, h⟩ := h
  by_cases hb : v.ownBlock = some b
  · rcases h.2 with ⟨rfl, _⟩ | ⟨g, cap, cur, rfl, _⟩
    · simp [Value.ownBlock] at hb
    · have : g = b := by simpa [Value.ownBlock] using hb
      subst this
      exact ⟨_, (h.stored j u).1⟩
  · exact ⟨xs, own_setCell h _ _ hb⟩

/-- Epochs of a call's own, whose texts may have turned: only blocks of lo .. hi have turned. -/
def CopRel (wM : World) (lo hi n : Nat) (v : Value) (R' : Nat → Bool → Value) (L : Nat → Bool → Nat) (wr : World) : Prop :=
  Fr (fun x => lo ≤ x ∧ x < hi) wM wr ∧ wr.ownsRow lo 49 2 v n (flatN n R') ∧ ∀ j, j < n → ∀ q, (∃ xs, wr.ownsRow lo 9 1 (R' j q) (L j q) xs) ∧ ∀ x, (R' j q).ownBlock = some x → x < hi
theorem CopRel.set {wM wr : World} {lo hi n b k : Nat} {v u : Value} {R' : Nat → Bool → Value} {L : Nat → Bool → Nat} (h : CopRel wM lo hi n v R' L wr) {j : Nat} (hj : j < n) (q : Bool) (hb : (R' j q).ownBlock = some b) : CopRel wM lo hi n v R' L (wr.setCell ⟨b, k, none⟩ u) := by
  obtain ⟨h1, h2, h3⟩ := h
  obtain ⟨⟨xs, hx⟩, hlt⟩ := h3 j hj q
  have hbl := (hx.lt b hb).1
  refine ⟨h1.trans (Fr.setCell (F := fun x => x = b) _ _ _ rfl) (fun x hx2 => Or.inl (by subst hx2; exact ⟨hbl, hlt _ hb⟩)), own_setCell h2 _ _ ?_, fun j' hj' q' => ⟨own_any_set (h3 j' hj' q').1 b k u, (h3 j' hj' q').2⟩⟩
  have := own_types h2 hx (ep_ne_str)
  rw [hb] at this
  rcases this with y | y
  · rw [y]; simp
  · exact y
theorem CopRel.at {wM wr : World} {lo hi n k : Nat} {a : Option Addr} {c : Nat} {R' : Nat → Bool → Value} {L : Nat → Bool → Nat} (h : CopRel wM lo hi n (.slice a n c) R' L wr) (hk : k < n) :
    ∃ g, a = some ⟨g, 0, none⟩ ∧ wr.cell? ⟨g, k * 2, none⟩ = some (R' k false) ∧ wr.cell? ⟨g, k * 2 + 1, none⟩ = some (R' k true) := by
  have h1 := h.2.1
  have hcs := @World.ownsRow.cells _ _ _ _ _ _ _ h1
  obtain ⟨g, cap, hv, _⟩ := h1.form (by omega)
  cases hv
  have c0 := hcs (g := g) rfl (k * 2) (R' k false) (flatN_get n R' k hk).1
  have c1 := hcs (g := g) rfl (k * 2 + 1) (R' k true) (flatN_get n R' k hk).2
  rw [Addr.add_lit, Nat.zero_add] at c0 c1
  exact ⟨g, rfl, c0, c1⟩
/-- The row of a text list: where it lies, and that it may be written. -/
theorem row_at {w : World} {B : Nat} {v : Value} {n k : Nat} (h : ∃ xs, w.ownsRow B 9 1 v n xs) (hk : k < n) : ∃ g c u, v = .slice (some ⟨g, 0, none⟩) n c ∧ w.cell? ⟨g, k, none⟩ = some u ∧ w.frozen? ⟨g, k, none⟩ = false := by
  obtain ⟨xs, h⟩ := h
  have hl := h.1
  have hcs := @World.ownsRow.cells _ _ _ _ _ _ _ h
  obtain ⟨g, cap, rfl, _⟩ := h.form (by omega)
  have hkx : k < xs.length := by omega
  have := hcs (g := g) rfl k xs[k] (by simp [hkx])
  rw [Addr.add_lit, Nat.zero_add] at this
  exact ⟨g, cap, _, rfl, this, h.frozenAt k⟩
theorem EpsL.fr {w w' : World} {B : Nat} {F : Nat → Prop} {v : Value} {l : List (List ByteArray × List ByteArray)} (h : EpsL w B v l) (hf : Fr F w w') (hF : ∀ x, B ≤ x → ¬ F x) : EpsL w' B v l := by
  obtain ⟨Xe, ⟨R', h1, h2⟩, h3⟩ := h
  exact ⟨Xe, ⟨R', hf.own h1 (fun x hx => hF x (h1.lt x hx).1), fun j hj q => hf.own (h2 j hj q) (fun x hx => hF x ((h2 j hj q).lt x hx).1)⟩, h3⟩

set_option maxHeartbeats 4000000 in
set_option maxRecDepth 100000 in
theorem epochCopies_any (v : Value) (ns : List Nt) (w : World) (hv : NotesR w v ns) :
    Calls Try.prog 6 #[v] w fun e w' => e = .returned (.bool true) ∧ Below w.heap.size w w' := by
  obtain ⟨a1, c1, rfl, hc1, hm1, ha1, hr1⟩ := hv
  have HR := Lib.hid hr1
  have HAW := Lib.hid (awake20 w)
  clear hr1
  go_enter Try.func6, Try.ntmps6
  go_wp2_with fail
  refine HAW.out.mono ?_
  rintro e' w1 ⟨rfl, hb1⟩
  have HB1 := Lib.hid hb1
  have HB1a := Lib.hid (hb1.alloc hb1.size (.cells #[.slice none 0 0, .slice none 0 0] 27))
  have HBK1 := Lib.hid (book_new w1)
  have hBw : w.heap.size ≤ w1.heap.size := hb1.size
  clear hb1 HAW
  go_wp2_with fail
  go_loopw [4] (NoteRel w w1.heap.size ns 40) (fun i _ => ns.length - (intOf i).toNat)
  case atStart => exact ⟨0, _, Nat.zero_le _, by omega, rfl, HBK1, Lib.hid (fun x hx => by omega), HB1a⟩
  case round =>
    obtain ⟨k, F, hk, hk40, rfl, HBK, HF, HBL⟩ := hrel
    by_cases hlt : k < ns.length ∧ k < 40
    · obtain ⟨hlt1, hlt2⟩ := hlt
      obtain ⟨b1, o1, rfl⟩ := ha1 (by omega)
      obtain ⟨p0, p1, p2, p3⟩ := HR.out b1 o1 rfl k hlt1
      have x0 := (bcell HBL.out _ _ (block_lt_of_cell p0)).trans p0
      have x1 := (bcell HBL.out _ _ (block_lt_of_cell p1)).trans p1
      have x2 := (bcell HBL.out _ _ (block_lt_of_cell p2)).trans p2
      have x3 := (bcell HBL.out _ _ (block_lt_of_cell p3)).trans p3
      obtain ⟨n, hn⟩ : ∃ n, ns[k] = n := ⟨_, rfl⟩
      rw [hn] at x0 x1 x2 x3
      have HN := Lib.hid hn
      obtain ⟨r, hq⟩ : ∃ r, recOf n.en n.what n.how n.data = r := ⟨_, rfl⟩
      have HQ := Lib.hid hq
      have hl1 : (k : Int) < (ns.length : Int) := by omega
      have hl2 : (k : Int) < 40 := by omega
      clear p0 p1 p2 p3 hn hq
      go_wp2_with fail
      refine (record_at HQ.out _).mono ?_
      rintro e' w5 ⟨rfl, hb5⟩
      have HBK5 := Lib.hid (HBK.out.keep hb5)
      have HB5 := Lib.hid (belSeq HBL.out hb5)
      clear hb5 x0 x1 x2 x3
      go_wp2_with fail
      refine (add_at (rs := [r]) HBK5.out ((small_foldN (ns.take k) 40 (by simp; omega))) (by simp) rfl rfl rfl).mono ?_
      rintro e' w6 ⟨rfl, hadd⟩
      have HST : Hid (NoteRel w w1.heap.size ns 40 (.int .i64 ((k : Int) + 1)) w6) := Lib.hid (note_step hlt1 hlt2 HN.out HQ.out HB5.out HF.out ⟨rfl, hadd⟩)
      clear hadd
      go_wp2_with fail
      exact ⟨HST.out, by simp [intOf]; omega⟩
    · have hkt : ((k : Int) < (ns.length : Int) ∧ decide ((k : Int) < 40) = false) ∨ decide (k < ns.length) = false := by
        by_cases h : k < ns.length
        · left; exact ⟨by omega, by simp; omega⟩
        · right; simpa using h
      have hsm := small_foldN (ns.take k) 100000 (by simp; omega)
      generalize foldN (ns.take k) = h at *
      have HSM := Lib.hid hsm
      have hl0 := (hsm 0 (by omega)).1
      clear hlt hsm
      rcases hkt with ⟨hkt1, hkt2⟩ | hkt1
      all_goals
        go_wp2_with fail
        refine (sound_book _ _ h F _ HBK.out HSM.out).mono ?_
        rintro e' w2 ⟨rfl, hb2⟩
        have HBK2 : Hid (Book w2 w1.heap.size w1.heap.size h (fun x => F x ∧ x < w2.heap.size)) := Lib.hid ((HBK.out.keep hb2).mono (fun x _ hx hx2 => ⟨hx2, hx⟩))
        have HB2 := Lib.hid (belSeq HBL.out hb2)
        clear hb2
        go_wp2_with fail
        refine (epochs_book 0 _ _ h _ _ HBK2.out HSM.out (by omega) (by omega)).mono ?_
        rintro e' w3 ⟨v3, rfl, hv3, hb3⟩
        have HV3 := Lib.hid hv3
        have HBK3 := Lib.hid (HBK2.out.keep hb3)
        have HB3 := Lib.hid (belSeq HB2.out hb3)
        have hz23 := hb3.size
        clear hv3 hb3
        go_wp2_with fail
        refine (epochs_book 0 _ _ h _ _ HBK3.out HSM.out (by omega) (by omega)).mono ?_
        rintro e' w4 ⟨v4, rfl, hv4, hb4⟩
        have HV4 := Lib.hid hv4
        have HBK4 := Lib.hid (HBK3.out.keep hb4)
        have HB4 := Lib.hid (belSeq HB3.out hb4)
        have hz34 := hb4.size
        obtain ⟨a4, c4, rfl⟩ := hv4.slice
        obtain ⟨Xe, ⟨R', ho3, hs3⟩, hl3⟩ := HV3.out
        obtain ⟨a3, c3, rfl⟩ := own_slice ho3
        have HCR : Hid (CopRel w4 w2.heap.size w3.heap.size (h 0).length (.slice a3 (h 0).length c3) R' (fun j q => (Xe j q).length) w4) := Lib.hid
          ⟨Fr.refl _ _, own_below ho3 hb4, fun j hj q => ⟨⟨_, own_below (hs3 j hj q) hb4⟩, fun x hx => ((hs3 j hj q).lt x hx).2⟩⟩
        have HRS : Hid (∀ j, j < (h 0).length → ∀ q, ∃ a c, R' j q = .slice a (Xe j q).length c) := Lib.hid (fun j hj q => own_slice (hs3 j hj q))
        have hlb : ∀ j, j < (h 0).length → ∀ q, (Xe j q).length ≤ 100000 := fun j hj q => by
          have := (HSM.out 0 (by omega)).2 (Xe j false, Xe j true) (by
            have h3 : epsList (h 0).length Xe = h 0 := hl3
            rw [← h3]; simp only [epsList, List.mem_map, List.mem_range]
            exact ⟨j, hj, rfl⟩)
          cases q
          · exact this.1
          · exact this.2
        generalize hL : (fun j q => (Xe j q).length) = L at HCR
        have HLB : Hid (∀ j, j < (h 0).length → ∀ q, L j q ≤ 100000) := Lib.hid (fun j hj q => by rw [← hL]; exact hlb j hj q)
        have HRS2 : Hid (∀ j, j < (h 0).length → ∀ q, ∃ a c, R' j q = .slice a (L j q) c) := Lib.hid (fun j hj q => by rw [← hL]; exact HRS.out j hj q)
        clear hv4 hb4 ho3 hs3 hl3 HV3 HRS hL hlb
        go_wp2_with fail
        go_loopw [37] (fun i wr => ∃ k2 : Nat, k2 ≤ (h 0).length ∧ i = .int .i64 k2 ∧ Hid (CopRel w4 w2.heap.size w3.heap.size (h 0).length (.slice a3 (h 0).length c3) R' L wr)) (fun i _ => (h 0).length - (intOf i).toNat)
        case atStart => exact ⟨0, Nat.zero_le _, rfl, HCR⟩
        case round =>
          obtain ⟨k2, hk2, rfl, HCR⟩ := hrel
          by_cases hkl : k2 < (h 0).length
          · have hkl1 : (k2 : Int) < ((h 0).length : Int) := by omega
            have hk0 : (0 : Int) ≤ (k2 : Int) := Int.natCast_nonneg _
            obtain ⟨as0, cs0, hR0⟩ := HRS2.out k2 hkl false
            obtain ⟨as1, cs1, hR1⟩ := HRS2.out k2 hkl true
            have HR0 := Lib.hid hR0
            have HR1 := Lib.hid hR1
            obtain ⟨g3, rfl, x0, x1⟩ := HCR.out.at hkl
            rw [hR0] at x0
            clear hR0 hR1 x1
            go_wp2_with fail
            clear x0
            go_loopw [46] (fun i wr => ∃ m : Nat, m ≤ L k2 false ∧ i = .int .i64 m ∧ Hid (CopRel w4 w2.heap.size w3.heap.size (h 0).length (.slice (some ⟨g3, 0, none⟩) (h 0).length c3) R' L wr)) (fun i _ => L k2 false - (intOf i).toNat)
            case atStart => exact ⟨0, Nat.zero_le _, rfl, HCR⟩
            case round =>
              obtain ⟨m, hm, rfl, HCR⟩ := hrel
              by_cases hml : m < L k2 false
              · have hlm := HLB.out k2 hkl false
                have hml1 : (m : Int) < ((L k2 false : Nat) : Int) := by omega
                have hm0 : (0 : Int) ≤ (m : Int) := Int.natCast_nonneg _
                obtain ⟨g9, hg9, x0, x1⟩ := HCR.out.at hkl
                cases hg9
                obtain ⟨g4, c4', u4, hv4r, y0, y1⟩ := row_at (HCR.out.2.2 k2 hkl false).1 hml
                rw [hv4r] at x0
                have HNX := Lib.hid (HCR.out.set (k := m) (u := .string ⟨#[111, 116, 104, 101, 114]⟩) hkl false (by rw [hv4r]; rfl))
                have hv4s := hv4r
                rw [HR0.out] at hv4s
                cases hv4s
                clear hv4r x1
                go_wp2_with fail
                exact ⟨⟨m + 1, hml, by simp, HNX⟩, by simp [intOf]; omega⟩
              · obtain ⟨g9, hg9, x0, x1⟩ := HCR.out.at hkl
                cases hg9
                rw [HR1.out] at x1
                clear x0
                go_wp2_with fail
                clear x1
                go_loopw [63] (fun i wr => ∃ m : Nat, m ≤ L k2 true ∧ i = .int .i64 m ∧ Hid (CopRel w4 w2.heap.size w3.heap.size (h 0).length (.slice (some ⟨g3, 0, none⟩) (h 0).length c3) R' L wr)) (fun i _ => L k2 true - (intOf i).toNat)
                case atStart => exact ⟨0, Nat.zero_le _, rfl, HCR⟩
                case round =>
                  obtain ⟨m, hm, rfl, HCR⟩ := hrel
                  by_cases hml : m < L k2 true
                  · have hlm := HLB.out k2 hkl true
                    have hml1 : (m : Int) < ((L k2 true : Nat) : Int) := by omega
                    have hm0 : (0 : Int) ≤ (m : Int) := Int.natCast_nonneg _
                    obtain ⟨g9, hg9, x0, x1⟩ := HCR.out.at hkl
                    cases hg9
                    obtain ⟨g4, c4', u4, hv4r, y0, y1⟩ := row_at (HCR.out.2.2 k2 hkl true).1 hml
                    rw [hv4r] at x1
                    have HNX := Lib.hid (HCR.out.set (k := m) (u := .string ⟨#[111, 116, 104, 101, 114]⟩) hkl true (by rw [hv4r]; rfl))
                    have hv4s := hv4r
                    rw [HR1.out] at hv4s
                    cases hv4s
                    clear hv4r x0
                    go_wp2_with fail
                    exact ⟨⟨m + 1, hml, by simp, HNX⟩, by simp [intOf]; omega⟩
                  · go_wp2_with fail
                    exact ⟨⟨k2 + 1, hkl, by simp, HCR⟩, by simp [intOf]; omega⟩
          · have HBK5 : Hid (Book wr w1.heap.size w1.heap.size h (fun x => F x ∧ x < w2.heap.size)) := Lib.hid (HBK4.out.fr HCR.out.1 (fun x hx hx2 => by omega))
            have HB5 : Hid (Below w.heap.size w wr) := Lib.hid (below_fr HB4.out HCR.out.1 (fun x hx => by have := HB2.out.size; omega))
            have HV5 : Hid (EpsL wr w3.heap.size (.slice a4 (h 0).length c4) (h 0)) := Lib.hid (HV4.out.fr HCR.out.1 (fun x hx hx2 => by omega))
            go_wp2_with fail
            refine (epochs_book 0 _ _ h _ _ HBK5.out HSM.out (by omega) (by omega)).mono ?_
            rintro e' w6 ⟨v6, rfl, hv6, hb6⟩
            obtain ⟨a6, c6, rfl⟩ := hv6.slice
            have HV6 : Hid (EpsL w6 wr.heap.size (.slice a6 (h 0).length c6) (h 0)) := Lib.hid hv6
            have HV7 := Lib.hid (HV5.out.below hb6)
            have HB6 := Lib.hid (belSeq HB5.out hb6)
            have HSO := Lib.hid (sound_book _ _ h _ _ (HBK5.out.keep hb6) HSM.out)
            clear hv6 hb6
            have hne : ((h 0).length != (h 0).length) = false := by simp
            have hne2 : (((h 0).length : Int) != ((h 0).length : Int)) = false := by simp
            generalize soundB h = sb at *
            go_wp2_with fail
            refine HSO.out.mono ?_
            rintro e' w7 ⟨rfl, hb7⟩
            have HE6 := Lib.hid ((HV6.out.eps (N := 0) hl0 (fun p hp => (HSM.out 0 (by omega)).2 p hp)).below hb7)
            have HE7 := Lib.hid ((HV7.out.eps (N := 0) hl0 (fun p hp => (HSM.out 0 (by omega)).2 p hp)).below hb7)
            have HB7 := Lib.hid (belSeq HB6.out hb7)
            clear hb7 HV6 HV7 HSO
            generalize h 0 = l at *
            cases sb
            all_goals
              go_wp2_with fail
              go_loopw [88] (fun i wr => ∃ j : Nat, j ≤ l.length ∧ i = .int .i64 j ∧ Hid (Below w7.heap.size w7 wr)) (fun i _ => l.length - (intOf i).toNat)
              case atStart => exact ⟨0, Nat.zero_le _, rfl, Lib.hid (Below.refl _ _)⟩
              case round =>
                obtain ⟨j, hj, rfl, HB8⟩ := hrel
                by_cases hjl : j < l.length
                · obtain ⟨aA, cA, hvA, hcA, -, haA, hrA⟩ := HE6.out.below HB8.out
                  cases hvA
                  obtain ⟨aB, cB, hvB, hcB, -, haB, hrB⟩ := HE7.out.below HB8.out
                  cases hvB
                  obtain ⟨bA, oA, rfl⟩ := haA (by omega)
                  obtain ⟨bB, oB, rfl⟩ := haB (by omega)
                  obtain ⟨sA, gA, pA0, pA1, pA2, pA3⟩ := hrA bA oA rfl j hjl
                  obtain ⟨sB, gB, pB0, pB1, pB2, pB3⟩ := hrB bB oB rfl j hjl
                  have HS0 : Hid (∀ m, Calls Try.prog 11 #[sA, sB] (wr.drewN m) fun e w' => e = .returned (.bool true) ∧ ∃ k, w' = (wr.drewN m).drewN k) := Lib.hid (fun m => by
                    have := same_any _ _ l[j].1 l[j].1 (wr.drewN m) (pA2.below (below_drewN (Below.refl _ _) m)) (pB2.below (below_drewN (Below.refl _ _) m))
                    simpa using this)
                  have HS1 : Hid (∀ m, Calls Try.prog 11 #[gA, gB] (wr.drewN m) fun e w' => e = .returned (.bool true) ∧ ∃ k, w' = (wr.drewN m).drewN k) := Lib.hid (fun m => by
                    have := same_any _ _ l[j].2 l[j].2 (wr.drewN m) (pA3.below (below_drewN (Below.refl _ _) m)) (pB3.below (below_drewN (Below.refl _ _) m))
                    simpa using this)
                  have hj1 : (j : Int) < (l.length : Int) := by omega
                  have hj0 : (0 : Int) ≤ (j : Int) := Int.natCast_nonneg _
                  clear hrA hrB pA2 pA3 pB2 pB3 haA haB
                  go_wp2_with fail
                  go_quiet ((first | (go_at_call 11; with_reducible exact Calls.quiet_of (HS0.out _)) | (go_at_call 11; with_reducible exact Calls.quiet_of (HS1.out _))))
                  go_wp2_with fail
                  exact ⟨⟨j + 1, hjl, by simp, Lib.hid (below_drewN HB8.out _)⟩, by simp [intOf]; omega⟩
                · go_wp2_with fail
                  go_ret
                  exact ⟨rfl, belSeq HB7.out HB8.out⟩
end Go.Proofs.Ytanmdmidjeobeaa
