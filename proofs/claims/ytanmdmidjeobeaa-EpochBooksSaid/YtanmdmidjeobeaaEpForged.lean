/-
  The walk of the statement EpochForged.
-/
import Derived.Test.YtanmdmidjeobeaaEpAwake
import Derived.Test.YtanmdmidjeobeaaEpNote
import Derived.Deep.AppendLies
import Derived.Deep.QuietTactic
import Derived.BigQuiet
import Derived.WalkSmall
set_option linter.unusedVariables false
set_option linter.unusedSimpArgs false
namespace Go.Proofs.Ytanmdmidjeobeaa
open Go.RowKit

theorem record_at {en what how : Int} {data : ByteArray} {r : Rc} (h : recOf en what how data = r) (w : World) :
    Calls Try.prog 9 #[.agg #[.int .i64 en, .int .i64 what, .int .i64 how, .string data]] w fun e w' => e = .returned (.agg #[.int .i64 r.en, .int .i64 r.kind, .int .i64 0, .int .i64 0, .int .u32 0, .int .u32 0, .int .u32 0, .slice none 0 0, .bool false, .string ⟨#[]⟩, .int .i64 r.sk, .string r.sd, .bool false, .int .u8 0, .int .i64 0, .int .i64 r.rk, .string r.rd, .int .i64 0]) ∧ Below w.heap.size w w' := by
  subst h
  exact record_any en what how data w

/-- What a book holds, of one epoch of each end: end e sent S, the other got G. -/
def hF (e : Nat) (S G : List ByteArray) : Held := fun x => if x = e then [(S, [])] else if x = 1 - e then [([], G)] else []
theorem forged_start (e : Nat) (he : e < 2) : [recOf (e : Int) 0 0 ⟨#[]⟩, recOf (1 - (e : Int)) 0 3 ⟨#[]⟩].foldl stepRec (fun _ => []) = hF e [] [] := by
  have h : e = 0 ∨ e = 1 := by omega
  rcases h with rfl | rfl <;>
  · funext x
    simp [recOf, stepRec, begH, datH, begB, updH, hF]
    split <;> simp_all
theorem forged_sent (e : Nat) (he : e < 2) (S G : List ByteArray) (d : ByteArray) : stepRec (hF e S G) (recOf (e : Int) 1 0 d) = hF e (S ++ [d]) G := by
  have h : e = 0 ∨ e = 1 := by omega
  rcases h with rfl | rfl <;>
  · funext x
    simp [recOf, stepRec, begH, datH, begB, updH, hF, addLast]
    split <;> simp_all
theorem forged_got (e : Nat) (he : e < 2) (S G : List ByteArray) (d : ByteArray) : stepRec (hF e S G) (recOf (1 - (e : Int)) 2 0 d) = hF e S (G ++ [d]) := by
  have h : e = 0 ∨ e = 1 := by omega
  rcases h with rfl | rfl <;>
  · funext x
    simp [recOf, stepRec, begH, datH, begB, updH, hF, addLast]
    split <;> simp_all
theorem forged_sound (e : Nat) (he : e < 2) (S G : List ByteArray) : soundB (hF e S G) = isPre S G := by
  have key : (matchGo [(S, [])] 0 [([], G)]).isSome = isPre S G := by
    unfold matchGo
    by_cases h : G = []
    · simp [h, matchGo, isPre]
    · simp only [h, if_false, List.drop_zero]
      cases hp : isPre S G <;> simp [List.findIdx?_cons, hp, matchGo]
  have key2 : (matchGo [([], G)] 0 [(S, [])]).isSome = true := by simp [matchGo]
  have h : e = 0 ∨ e = 1 := by omega
  rcases h with rfl | rfl
  · simp [soundB, hF, key, key2]
  · simp [soundB, hF, key, key2]
theorem isPre_step (S got : List ByteArray) (k : Nat) (hk : k < got.length) : isPre S (got.take (k + 1)) = (isPre S (got.take k) && (decide (k < S.length) && decide (S.getD k ByteArray.empty = got.getD k ByteArray.empty))) := by
  have e1 : (got.take (k + 1)).length = k + 1 := by simp; omega
  have e0 : (got.take k).length = k := by simp; omega
  unfold isPre
  rw [e1, e0]
  by_cases h : k < S.length
  · have h2 : k + 1 ≤ S.length := h
    have h3 : k ≤ S.length := by omega
    simp only [h, h2, h3, decide_true, Bool.true_and]
    rw [getD_get S k _ h, getD_get got k _ hk, List.take_succ_eq_append_getElem h, List.take_succ_eq_append_getElem hk, ← Bool.decide_and, decide_eq_decide]
    constructor
    · intro hh
      have := List.append_inj hh (by rw [e0]; simp; omega)
      exact ⟨this.1, by simpa using this.2⟩
    · rintro ⟨a, b⟩; rw [a, b]
  · have h2 : ¬ k + 1 ≤ S.length := h
    simp [h, h2]
theorem small_hF (e : Nat) (S G : List ByteArray) (N : Nat) (h1 : 1 ≤ N) (hS : S.length ≤ N) (hG : G.length ≤ N) : SmallH (hF e S G) N := fun x hx => by
  unfold hF
  split
  · exact ⟨h1, fun p hp => by obtain rfl := List.mem_singleton.1 hp; exact ⟨hS, Nat.zero_le _⟩⟩
  · split
    · exact ⟨h1, fun p hp => by obtain rfl := List.mem_singleton.1 hp; exact ⟨Nat.zero_le _, hG⟩⟩
    · exact ⟨Nat.zero_le _, fun p hp => by cases hp⟩

theorem below_fr {w W w' : World} {F : Nat → Prop} (h : Below w.heap.size w W) (k : Fr F W w') (hF : ∀ x, F x → w.heap.size ≤ x) : Below w.heap.size w w' := h.trans (k.below hF h.size)
def ForRel (w : World) (B e : Nat) (sent : List ByteArray) (v i : Value) (wr : World) : Prop :=
  ∃ (k : Nat) (F : Nat → Prop), k ≤ sent.length ∧ k ≤ 10 ∧ i = .int .i64 k ∧ Hid (Book wr B B (hF e (sent.take k) []) F) ∧ wr.ownsRow B 9 1 v k ((sent.take k).map Value.string) ∧
    Hid (∀ x, v.ownBlock = some x → ¬ F x) ∧ Hid (∀ x, F x → w.heap.size ≤ x) ∧ Hid (Below w.heap.size w wr)
/-- A round of the first loop: a text more in the book, and in what is wanted. -/
theorem for_step {w w1 w2 w3 : World} {B e k g cap : Nat} {sent : List ByteArray} {v : Value} {F : Nat → Prop} {d : ByteArray} {o : Obj} (he : e < 2) (hk : k < sent.length) (hk10 : k < 10) (hd : sent.getD k ByteArray.empty = d)
    (hbk : Book w2 B B (hF e (sent.take k ++ [d]) []) (fun x => F x ∨ w1.heap.size ≤ x)) (hfr : Fr F w1 w2) (hv : ∀ x, v.ownBlock = some x → ¬ F x) (hFw : ∀ x, F x → w.heap.size ≤ x) (hb : Below w.heap.size w w1) (hB : w.heap.size ≤ B)
    (hvr : ∀ x, v.ownBlock = some x → x < w1.heap.size) (hown : w3.ownsRow B 9 1 (.slice (some ⟨g, 0, none⟩) (k + 1) cap) (k + 1) ((sent.take k).map Value.string ++ [.string d]))
    (hown0 : w1.ownsRow B 9 1 v k ((sent.take k).map Value.string)) (hg : (w2.alloc o).grownBy w3 v.ownBlock) (hat : v.ownBlock = some g ∨ g = w2.heap.size + 1) :
    ForRel w B e sent (.slice (some ⟨g, 0, none⟩) (k + 1) cap) (.int .i64 ((k : Int) + 1)) w3 := by
  have hs2 : sent.take (k + 1) = sent.take k ++ [d] := by rw [List.take_succ_eq_append_getElem hk, ← hd, getD_get _ _ _ hk]
  have hz1 := hb.size
  have hz2 := hfr.size
  have hbel2 := below_fr hb hfr hFw
  refine ⟨k + 1, fun x => (F x ∨ w1.heap.size ≤ x) ∧ x < w2.heap.size, hk, hk10, by simp, Lib.hid ?_, by rw [hs2]; simpa using hown, Lib.hid (fun x hx => ?_), Lib.hid (fun x hx => ?_), Lib.hid ?_⟩
  · rw [hs2]
    have h1 : Book (w2.alloc o) B B (hF e (sent.take k ++ [d]) []) (fun x => (F x ∨ w1.heap.size ≤ x) ∧ x < w2.heap.size) := (hbk.mono (fun x _ hx hx2 => ⟨hx2, hx⟩)).keep ((Below.refl _ _).alloc (Nat.le_refl _) o)
    refine h1.fr (G := fun x => v.ownBlock = some x) (Fr.grown hg (fun x hx => hx)) (fun x hx hx2 => ?_)
    rcases hx.1 with h | h
    · exact hv x hx2 h
    · have := hvr x hx2; omega
  · have hgx : g = x := by simpa [Value.ownBlock] using hx
    subst hgx
    rcases hat with h | h
    · rintro ⟨h2 | h2, h3⟩
      · exact hv g h h2
      · have := hvr g h; omega
    · rintro ⟨h2, h3⟩; omega
  · rcases hx.1 with h | h
    · exact hFw x h
    · omega
  · refine (hbel2.alloc hbel2.size o).grown hg (by have := hbel2.size; simp; omega) (fun q hq => ?_)
    have := (hown0.lt q hq).1
    omega

def ForRel2 (w : World) (B e : Nat) (S got : List ByteArray) (v g i : Value) (wr : World) : Prop :=
  ∃ (k : Nat) (F : Nat → Prop) (cb : Bool), k ≤ got.length ∧ k ≤ 12 ∧ g = .bool cb ∧ Hid (cb = isPre S (got.take k)) ∧ i = .int .i64 k ∧ Hid (Book wr B B (hF e S (got.take k)) F) ∧ Hid (wr.ownsRow B 9 1 v S.length (S.map Value.string)) ∧
    Hid (∀ x, v.ownBlock = some x → ¬ F x) ∧ Hid (∀ x, F x → w.heap.size ≤ x) ∧ Hid (Below w.heap.size w wr)
theorem for2_step {w w1 w2 w3 : World} {B e k : Nat} {S got : List ByteArray} {v : Value} {F : Nat → Prop} {d : ByteArray} {cb c2 : Bool} (hk : k < got.length) (hk12 : k < 12) (hd : got.getD k ByteArray.empty = d) (hcb : cb = isPre S (got.take k))
    (hc2 : c2 = (cb && (decide (k < S.length) && decide (S.getD k ByteArray.empty = d)))) (hbk : Book w2 B B (hF e S (got.take k ++ [d])) (fun x => F x ∨ w1.heap.size ≤ x)) (hfr : Fr F w1 w2) (hv : ∀ x, v.ownBlock = some x → ¬ F x) (hFw : ∀ x, F x → w.heap.size ≤ x) (hb : Below w.heap.size w w1)
    (hown : w1.ownsRow B 9 1 v S.length (S.map Value.string)) (hb3 : Below w2.heap.size w2 w3) : ForRel2 w B e S got v (.bool c2) (.int .i64 ((k : Int) + 1)) w3 := by
  have hs2 : got.take (k + 1) = got.take k ++ [d] := by rw [List.take_succ_eq_append_getElem hk, ← hd, getD_get _ _ _ hk]
  have hz1 := hb.size
  refine ⟨k + 1, _, c2, hk, hk12, rfl, Lib.hid (by rw [isPre_step S got k hk, hc2, hcb, hd]), by simp, Lib.hid (by rw [hs2]; exact hbk.keep hb3), Lib.hid (own_below (hfr.own hown hv) hb3), Lib.hid (fun x hx => ?_), Lib.hid (fun x hx => ?_), Lib.hid (belSeq (below_fr hb hfr hFw) hb3)⟩
  · rintro (h | h)
    · exact hv x hx h
    · have := (hown.lt x hx).2; omega
  · rcases hx with h | h
    · exact hFw x h
    · omega

set_option maxHeartbeats 4000000 in
set_option maxRecDepth 100000 in
theorem epochForged_any (v1 v2 : Value) (sent got : List ByteArray) (en : Int) (w : World) (h1 : StrsR w v1 sent) (h2 : StrsR w v2 got) :
    Calls Try.prog 5 #[v1, v2, .int .i64 en] w fun e w' => e = .returned (.bool true) ∧ Below w.heap.size w w' := by
  obtain ⟨e, he, hen⟩ : ∃ e : Nat, e < 2 ∧ en % 2 = (e : Int) := ⟨(en % 2).toNat, by omega, by omega⟩
  obtain ⟨a1, c1, rfl, hc1, hm1, ha1, hr1⟩ := h1
  obtain ⟨a2, c2, rfl, hc2, hm2, ha2, hr2⟩ := h2
  have HR1 := Lib.hid hr1
  have HR2 := Lib.hid hr2
  have HAW := Lib.hid (awake20 w)
  obtain ⟨r1, hq1⟩ : ∃ r, recOf (e : Int) 0 0 ⟨#[]⟩ = r := ⟨_, rfl⟩
  obtain ⟨r2, hq2⟩ : ∃ r, recOf (1 - (e : Int)) 0 3 ⟨#[]⟩ = r := ⟨_, rfl⟩
  have HQ1 := Lib.hid hq1
  have HQ2 := Lib.hid hq2
  obtain ⟨i9, hi9, hz90, hz91, hz92⟩ := info_parts info_str
  have he0 : (0 : Int) ≤ (e : Int) := Int.natCast_nonneg _
  have he1 : (e : Int) < 2 := by omega
  clear hr1 hr2 hq1 hq2
  go_enter Try.func5, Try.ntmps5
  go_wp2_with fail
  refine HAW.out.mono ?_
  rintro e' w1 ⟨rfl, hb1⟩
  have HB1 := Lib.hid hb1
  clear hb1 HAW
  go_wp2_with fail
  refine (record_at HQ1.out _).mono ?_
  rintro e' w2 ⟨rfl, hb2⟩
  have HBK2 := Lib.hid ((book_new w1).keep hb2)
  have HB2 := Lib.hid (belSeq HB1.out (belAlloc hb2 (by simp)))
  clear hb2
  go_wp2_with fail
  refine (record_at HQ2.out _).mono ?_
  rintro e' w3 ⟨rfl, hb3⟩
  have HBK3 := Lib.hid (HBK2.out.keep hb3)
  have HB3 := Lib.hid (belSeq HB2.out hb3)
  clear hb3 HBK2
  go_wp2_with fail
  refine (add_at (rs := [r1, r2]) HBK3.out small_new (by simp) rfl rfl rfl).mono ?_
  rintro e' w4 ⟨rfl, hbk4, hfr4⟩
  have hbk4' := hbk4
  simp only [List.foldl_cons, List.foldl_nil] at hbk4'
  have HF4 : Hid (∀ x, (x = w1.heap.size ∨ w3.heap.size ≤ x) → w.heap.size ≤ x) := Lib.hid (fun x hx => by have := HB1.out.size; have := HB3.out.size; omega)
  have HBK4 : Hid (Book w4 w1.heap.size w1.heap.size (hF e [] []) (fun x => x = w1.heap.size ∨ w3.heap.size ≤ x)) := Lib.hid (by
    rw [← forged_start e he, HQ1.out, HQ2.out]; exact hbk4)
  have HB4 := Lib.hid (below_fr HB3.out hfr4 (fun x hx => by have := HB1.out.size; omega))
  have hBw : w.heap.size ≤ w1.heap.size := HB1.out.size
  clear hbk4 hbk4' hfr4 HBK3 HB2 HB3 HQ1 HQ2
  go_wp2_with fail
  go_loopw [8, 9] (ForRel w w1.heap.size e sent) (fun _ i _ => sent.length - (intOf i).toNat)
  case atStart => exact ⟨0, _, Nat.zero_le _, by omega, rfl, HBK4, World.ownsRow_nil _ _ _ _, Lib.hid (fun x hx => by simp [Value.ownBlock] at hx), HF4, HB4⟩
  case round =>
    obtain ⟨k, F, hk, hk10, rfl, HBK, hown, HV, HF, HBL⟩ := hrel
    by_cases hlt : k < sent.length ∧ k < 10
    · obtain ⟨hlt1, hlt2⟩ := hlt
      obtain ⟨b1, o1, rfl⟩ := ha1 (by omega)
      have HC : Hid (∀ W : World, Below w.heap.size w W → W.cell? ⟨b1, o1 + k, none⟩ = some (.string (sent.getD k ByteArray.empty))) := Lib.hid (fun W hW => by
        have := HR1.out b1 o1 rfl k hlt1
        exact (bcell hW _ _ (block_lt_of_cell this)).trans this)
      obtain ⟨d, hd⟩ : ∃ d, sent.getD k ByteArray.empty = d := ⟨_, rfl⟩
      rw [hd] at HC
      have HD := Lib.hid hd
      clear hd
      obtain ⟨r, hq⟩ : ∃ r, recOf (e : Int) 1 0 d = r := ⟨_, rfl⟩
      have HQ := Lib.hid hq
      clear hq
      have hcl := HC.out wr HBL.out
      have hl1 : (k : Int) < (sent.length : Int) := by omega
      have hl2 : (k : Int) < 10 := by omega
      have HOW := Lib.hid hown
      obtain ⟨ao, co, rfl⟩ := own_slice hown
      clear hown
      go_wp2_with fail
      refine (record_at HQ.out _).mono ?_
      rintro e' w5 ⟨rfl, hb5⟩
      have HBK5 := Lib.hid (HBK.out.keep hb5)
      have HB5 := Lib.hid (belSeq HBL.out hb5)
      have HO5 := Lib.hid (own_below HOW.out hb5)
      clear hb5 hcl
      go_wp2_with fail
      refine (add_at (rs := [r]) HBK5.out (small_hF e _ _ 10 (by omega) (by simp; omega) (by simp)) (by simp) rfl rfl rfl).mono ?_
      rintro e' w6 ⟨rfl, hbk6, hfr6⟩
      have HBK6 : Hid (Book w6 w1.heap.size w1.heap.size (hF e (sent.take k ++ [d]) []) (fun x => F x ∨ w5.heap.size ≤ x)) := Lib.hid (by
        rw [← forged_sent e he, HQ.out]; exact hbk6)
      have HFR6 := Lib.hid hfr6
      have HB6 := Lib.hid (below_fr HB5.out hfr6 HF.out)
      have HO6 := Lib.hid (hfr6.own HO5.out HV.out)
      have hcl := HC.out w6 HB6.out
      have hBz : w1.heap.size ≤ w6.heap.size := by have := HBK6.out.lt; omega
      clear hbk6 hfr6
      go_wp2_with (at_builtin; refine wpList_append_lies _ rfl _ _ _ rfl w1.heap.size 9 i9 _ 1 16 Try.underlying45 hi9 hz90 hz91 hz92 rfl (by omega) (.slice ao k co) k ((sent.take k).map Value.string) rfl (HO6.out.alloc _) ⟨w6.heap.size, 0, none⟩ 1 1 [.string d] rfl rfl (World.news_of_block (cs := #[.string d]) (t := 9) (fr := (0, 0)) (heap_alloc_new w6 _)) (by simp [Value.oneCell']) (by omega) (by unfold maxLen; omega) (by omega) (by simp; omega) (w6.heap.size + 1) (by simp) ?_; intro gg cap w7 hown7 hgrow hat hlt7)
      exact ⟨for_step he hlt1 hlt2 HD.out HBK6.out HFR6.out HV.out HF.out HB5.out hBw (fun x hx => (HO5.out.lt x hx).2) hown7 HO5.out hgrow hat, by simp [intOf]; omega⟩
    · have HSL : Hid ((sent.take k).length = k) := Lib.hid (by simp; omega)
      have hkt : ((k : Int) < (sent.length : Int) ∧ decide ((k : Int) < 10) = false) ∨ decide (k < sent.length) = false := by
        by_cases h : k < sent.length
        · left; exact ⟨by omega, by simp; omega⟩
        · right; simpa using h
      generalize hS : sent.take k = S at *
      clear hS
      have HOW := Lib.hid hown
      clear hown
      rw [← HSL.out] at HOW
      obtain ⟨ao, co, rfl⟩ := own_slice HOW.out
      have hSl : S.length ≤ 10 := by have := HSL.out; omega
      clear hlt HSL
      rcases hkt with ⟨hkt1, hkt2⟩ | hkt1
      all_goals
        go_wp2_with fail
        go_loopw [10, 11] (ForRel2 w w1.heap.size e S got (.slice ao S.length co)) (fun _ i _ => got.length - (intOf i).toNat)
        case atStart => exact ⟨0, F, true, Nat.zero_le _, by omega, rfl, Lib.hid (by unfold isPre; simp), rfl, by rw [List.take_zero]; exact HBK, HOW, HV, HF, HBL⟩
        case round =>
          obtain ⟨k2, F2, cb, hk2, hk12, rfl, HCB, rfl, HBK2, HOW2, HV2, HF2, HBL2⟩ := hrel
          by_cases hlt2 : k2 < got.length ∧ k2 < 12
          · obtain ⟨hlt1, hlt2⟩ := hlt2
            obtain ⟨b2, o2, rfl⟩ := ha2 (by omega)
            have HC : Hid (∀ W : World, Below w.heap.size w W → W.cell? ⟨b2, o2 + k2, none⟩ = some (.string (got.getD k2 ByteArray.empty))) := Lib.hid (fun W hW => by
              have := HR2.out b2 o2 rfl k2 hlt1
              exact (bcell hW _ _ (block_lt_of_cell this)).trans this)
            obtain ⟨d, hd⟩ : ∃ d, got.getD k2 ByteArray.empty = d := ⟨_, rfl⟩
            rw [hd] at HC
            have HD := Lib.hid hd
            clear hd
            obtain ⟨r, hq⟩ : ∃ r, recOf (1 - (e : Int)) 2 0 d = r := ⟨_, rfl⟩
            have HQ := Lib.hid hq
            clear hq
            have hcl := HC.out wr HBL2.out
            have hl1 : (k2 : Int) < (got.length : Int) := by omega
            have hl2 : (k2 : Int) < 12 := by omega
            go_wp2_with fail
            refine (record_at HQ.out _).mono ?_
            rintro e' w5 ⟨rfl, hb5⟩
            have HBK5 := Lib.hid (HBK2.out.keep hb5)
            have HB5 := Lib.hid (belSeq HBL2.out hb5)
            have HO5 := Lib.hid (own_below HOW2.out hb5)
            clear hb5 hcl
            go_wp2_with fail
            refine (add_at (rs := [r]) HBK5.out (small_hF e _ _ 12 (by omega) (by omega) (by simp; omega)) (by simp) rfl rfl rfl).mono ?_
            rintro e' w6 ⟨rfl, hbk6, hfr6⟩
            have HBK6 : Hid (Book w6 w1.heap.size w1.heap.size (hF e S (got.take k2 ++ [d])) (fun x => F2 x ∨ w5.heap.size ≤ x)) := Lib.hid (by
              rw [← forged_got e he, HQ.out]; exact hbk6)
            have HFR6 := Lib.hid hfr6
            have HB6 := Lib.hid (below_fr HB5.out hfr6 HF2.out)
            have HO6 := Lib.hid (hfr6.own HO5.out HV2.out)
            have hcl := HC.out w6 HB6.out
            obtain ⟨c2, hc2⟩ : ∃ c2, c2 = (cb && (decide (k2 < S.length) && decide (S.getD k2 ByteArray.empty = d))) := ⟨_, rfl⟩
            have HC2 := Lib.hid hc2
            have hs2 : got.take (k2 + 1) = got.take k2 ++ [d] := by rw [List.take_succ_eq_append_getElem hlt1, ← HD.out, getD_get _ _ _ hlt1]
            have HSND : Hid (∀ W : World, Below w6.heap.size w6 W → Calls Try.prog 13 #[.pointer (some ⟨w1.heap.size, 0, none⟩)] W fun e w' => e = .returned (.bool c2) ∧ Below W.heap.size W w') := Lib.hid (fun W hW => by
              have h1 := sound_book _ _ _ _ W (HBK6.out.keep hW) (small_hF e _ _ 100000 (by omega) (by omega) (by simp; omega))
              rw [forged_sound e he, ← hs2, isPre_step S got k2 hlt1, ← HCB.out, HD.out, ← hc2] at h1
              exact h1)
            have HST : Hid (∀ w3, Below w6.heap.size w6 w3 → ForRel2 w w1.heap.size e S got (.slice ao S.length co) (.bool c2) (.int .i64 ((k2 : Int) + 1)) w3) := Lib.hid (fun w3 hb3 => for2_step hlt1 hlt2 HD.out HCB.out hc2 HBK6.out HFR6.out HV2.out HF2.out HB5.out HO5.out hb3)
            have hway : (cb = false ∧ c2 = false) ∨ (cb = true ∧ decide (k2 < S.length) = false ∧ c2 = false) ∨ (cb = true ∧ (k2 : Int) < (S.length : Int) ∧ ∃ gS, ao = some ⟨gS, 0, none⟩ ∧ w6.cell? ⟨gS, k2, none⟩ = some (.string d) ∧ c2 = true) ∨
                (cb = true ∧ (k2 : Int) < (S.length : Int) ∧ ∃ gS d2, ao = some ⟨gS, 0, none⟩ ∧ w6.cell? ⟨gS, k2, none⟩ = some (.string d2) ∧ (d2.toList == d.toList) = false ∧ c2 = false) := by
              rw [hc2]
              cases cb with
              | false => left; simp
              | true =>
                right
                by_cases hk : k2 < S.length
                · right
                  obtain ⟨gS, capS, hv, _⟩ := HO6.out.form (by omega)
                  have hcS := HO6.out.cells (g := gS) (by rw [hv]; rfl) k2 (.string (S.getD k2 ByteArray.empty)) (by rw [List.getElem?_map, getD_get S k2 _ hk]; simp [hk])
                  rw [Addr.add_lit, Nat.zero_add] at hcS
                  cases hv
                  by_cases heq : S.getD k2 ByteArray.empty = d
                  · left
                    rw [heq] at hcS
                    exact ⟨rfl, by omega, gS, rfl, hcS, by rw [decide_eq_true heq, decide_eq_true hk]; rfl⟩
                  · right
                    exact ⟨rfl, by omega, gS, _, rfl, hcS, by rw [bytes_beq]; exact decide_eq_false heq, by rw [decide_eq_false heq]; simp⟩
                · left
                  exact ⟨rfl, decide_eq_false hk, by rw [decide_eq_false hk]; rfl⟩
            clear hbk6 hfr6 hc2 hs2 HC2 HBK5 HB5 HO5 HO6 HFR6 HBK2 HOW2 HBL2
            have hz6 : (0 : Int) ≤ (k2 : Int) := Int.natCast_nonneg _
            rcases hway with ⟨rfl, rfl⟩ | ⟨rfl, hka, rfl⟩ | ⟨rfl, hka, gS, rfl, hcS, rfl⟩ | ⟨rfl, hka, gS, d2, rfl, hcS, hne, rfl⟩
            all_goals
              go_wp2_with fail
              go_quiet (fail)
              generalize hWq : w6.drewN _ = wq
              have HWq : Hid (Below w6.heap.size w6 wq) := Lib.hid (hWq ▸ below_drewN (Below.refl _ _) _)
              clear hWq
              go_wp2_with fail
              refine (HSND.out wq HWq.out).mono ?_
              rintro e' w7 ⟨rfl, hb7⟩
              go_wp2_with fail
              exact ⟨HST.out w7 (belSeq HWq.out hb7), by simp [intOf]; omega⟩
          · have HSND : Hid (∀ W : World, Below wr.heap.size wr W → Calls Try.prog 13 #[.pointer (some ⟨w1.heap.size, 0, none⟩)] W fun e w' => e = .returned (.bool cb) ∧ Below W.heap.size W w') := Lib.hid (fun W hW => by
              have h1 := sound_book _ _ _ _ W (HBK2.out.keep hW) (small_hF e _ _ 100000 (by omega) (by omega) (by simp; omega))
              rw [forged_sound e he, ← HCB.out] at h1
              exact h1)
            have HEP : Hid (∀ W : World, Below wr.heap.size wr W → Calls Try.prog 10 #[.pointer (some ⟨w1.heap.size, 0, none⟩), .int .i64 e] W fun e w' => ∃ a c, e = .returned (.slice a 1 c) ∧ Below W.heap.size W w') := Lib.hid (fun W hW => by
              refine (epochs_book e _ _ _ _ W (HBK2.out.keep hW) (small_hF e _ _ 100000 (by omega) (by omega) (by simp; omega)) he0 he1).mono ?_
              rintro e' w' ⟨v, rfl, hv, hb⟩
              obtain ⟨a, c, rfl⟩ := hv.slice
              have hl1 : (hF e S (got.take k2) (e : Int).toNat).length = 1 := by simp [hF]
              rw [hl1]
              exact ⟨a, c, rfl, hb⟩)
            have hkt : ((k2 : Int) < (got.length : Int) ∧ decide ((k2 : Int) < 12) = false) ∨ decide (k2 < got.length) = false := by
              by_cases h : k2 < got.length
              · left; exact ⟨by omega, by simp; omega⟩
              · right; simpa using h
            clear hlt2
            rcases hkt with ⟨hq1, hq2⟩ | hq1
            all_goals
              cases cb
              all_goals
                go_wp2_with fail
                refine (HSND.out _ (Below.refl _ _)).mono ?_
                rintro e' w7 ⟨rfl, hb7⟩
                go_wp2_with fail
                refine (HEP.out _ hb7).mono ?_
                rintro e' w8 ⟨a8, c8, rfl, hb8⟩
                go_wp2_with fail
                go_ret
                exact ⟨rfl, belSeq (belSeq HBL2.out hb7) hb8⟩
end Go.Proofs.Ytanmdmidjeobeaa
