/-
  The walk of the statement EpochBooks.
-/
import Derived.Test.YtanmdmidjeobeaaEpBooksRel
import Derived.Test.YtanmdmidjeobeaaOrdersL
import Derived.Deep.QuietTactic
import Derived.BigQuiet
import Derived.WalkSmall
import Derived.Deep.AppendLies
import Derived.Deep.DrawnRows
set_option linter.unusedVariables false
set_option linter.unusedSimpArgs false
namespace Go.Proofs.Ytanmdmidjeobeaa
open Go.RowKit
attribute [local go_sem ↓] Go.wp_at_zero Go.wp_at_succ

theorem note_ne_ss : 31 ≠ 45 := by decide
theorem note_ne_str : 31 ≠ 9 := by decide
theorem box_at (V : Nat → Value) {e : Nat} (he : e < 2) : [V 0, V 1][e]? = some (V e) := by
  have h : e = 0 ∨ e = 1 := by omega
  rcases h with rfl | rfl <;> rfl
theorem box_at2 (V : Nat → Value) {e : Nat} (he : e < 2) : [V 2, V 3][e]? = some (V (2 + e)) := by
  have h : e = 0 ∨ e = 1 := by omega
  rcases h with rfl | rfl <;> rfl
theorem set_at (a b : Value) {e : Nat} (he : e < 2) (v : Value) : ([a, b].set e v)[e]? = some v := by
  have h : e = 0 ∨ e = 1 := by omega
  rcases h with rfl | rfl <;> rfl
/-- The note's block, the two lists' blocks, and the rows. -/
structure BooksAt (w : World) (b7 bS bG B : Nat) (en what how : Int) (data : ByteArray) (n : Nat → Nat) (X : Nat → Nat → List ByteArray) (V : Nat → Value) (R : Nat → Nat → Value) : Prop where
  box7 : BoxAt w b7 31 [.int .i64 en, .int .i64 what, .int .i64 how, .string data]
  boxS : BoxAt w bS 29 [V 0, V 1]
  boxG : BoxAt w bG 29 [V 2, V 3]
  grid : GridR w B n X V R
section
variable {w : World} {b7 bS bG B : Nat} {en what how : Int} {data : ByteArray} {n : Nat → Nat} {X : Nat → Nat → List ByteArray} {V : Nat → Value} {R : Nat → Nat → Value}
theorem BooksAt.below {w' : World} (h : BooksAt w b7 bS bG B en what how data n X V R) (hb : Below w.heap.size w w') : BooksAt w' b7 bS bG B en what how data n X V R :=
  ⟨h.box7.below hb h.box7.lt, h.boxS.below hb h.boxS.lt, h.boxG.below hb h.boxG.lt, h.grid.below hb⟩
theorem BooksAt.s1 (h : BooksAt w b7 bS bG B en what how data n X V R) : w.cell? ⟨b7, 0, none⟩ = some (.int .i64 en) := h.box7.cells4.1
theorem BooksAt.s3 (h : BooksAt w b7 bS bG B en what how data n X V R) : w.cell? ⟨b7, 3, none⟩ = some (.string data) := h.box7.cells4.2.2.2
theorem BooksAt.c1 (h : BooksAt w b7 bS bG B en what how data n X V R) {e : Nat} (he : e < 2) : w.cell? ⟨bS, e, none⟩ = some (V e) := (h.boxS.cell e).trans (box_at V he)
theorem BooksAt.c2 (h : BooksAt w b7 bS bG B en what how data n X V R) {e : Nat} (he : e < 2) : w.cell? ⟨bG, e, none⟩ = some (V (2 + e)) := (h.boxG.cell e).trans (box_at2 V he)
theorem rowcell_of {g c m j k : Nat} {f : Nat → Value} {E : TypeId} (h : w.ownsRow B E 1 (.slice (some ⟨g, 0, none⟩) m c) k ((List.range k).map f)) (hj : j < k) : w.cell? ⟨g, j, none⟩ = some (f j) := by
  have := h.cells (g := g) rfl j (f j) (by simp [hj])
  rw [Addr.add_lit, Nat.zero_add] at this
  exact this
theorem BooksAt.rowcell (h : BooksAt w b7 bS bG B en what how data n X V R) {i g c m : Nat} (hi : i < 4) (hV : V i = .slice (some ⟨g, 0, none⟩) (m + 1) c) (hn : n i = m + 1) : w.cell? ⟨g, m, none⟩ = some (R i m) := by
  have := h.grid.rows i hi
  rw [hV] at this
  exact rowcell_of this (by omega)
end

theorem info_ss : (Try.prog.info? 45).map (fun i => (i.zero, i.size, i.bytes)) = some (some (.slice none 0 0), 1, 24) := by kernel_rfl

set_option maxHeartbeats 4000000 in
set_option maxRecDepth 100000 in
theorem epochBooks_any (v : Value) (ns : List Nt) (w : World) (hv : NotesR w v ns) :
    Calls Try.prog 3 #[v] w fun e w' => e = .returned (.bool true) ∧ Below w.heap.size w w' := by
  obtain ⟨a1, c1, rfl, hc1, hm1, ha1, hr1⟩ := hv
  have HR := Lib.hid hr1
  have HAW := Lib.hid (awake20 w)
  obtain ⟨i4, hi4, hz40, hz41, hz42⟩ := info_parts info_ss
  obtain ⟨i9, hi9, hz90, hz91, hz92⟩ := info_parts info_str
  clear hr1
  go_enter Try.func3, Try.ntmps3
  go_wp2_with fail
  refine HAW.out.mono ?_
  rintro e' w1 ⟨rfl, hb1⟩
  have HB1 := Lib.hid hb1
  have hBw : w.heap.size ≤ w1.heap.size := hb1.size
  clear hb1 HAW
  have HST : Hid (BkRel w w1.heap.size (w1.heap.size + 1) (w1.heap.size + 1 + 1) ns (.int .i64 0) (((w1.alloc (.cells #[.slice none 0 0, .slice none 0 0] 27)).alloc (.cells #[.slice none 0 0, .slice none 0 0] 29)).alloc (.cells #[.slice none 0 0, .slice none 0 0] 29))) := Lib.hid (by
    have hb2 : Below (w1.alloc (.cells #[.slice none 0 0, .slice none 0 0] 27)).heap.size (w1.alloc (.cells #[.slice none 0 0, .slice none 0 0] 27)) (((w1.alloc (.cells #[.slice none 0 0, .slice none 0 0] 27)).alloc (.cells #[.slice none 0 0, .slice none 0 0] 29)).alloc (.cells #[.slice none 0 0, .slice none 0 0] 29)) := ((Below.refl _ _).alloc (Nat.le_refl _) _).alloc (by simp) _
    refine ⟨0, fun _ => 0, fun _ _ => [], fun _ => .slice none 0 0, fun _ _ => .slice none 0 0, fun x => x = w1.heap.size, Nat.zero_le _, by omega, rfl, Lib.hid ((book_new w1).keep hb2), Lib.hid ⟨fun i hi => World.ownsRow_nil _ _ _ _, fun i hi j hj => absurd hj (Nat.not_lt_zero _), fun _ _ _ _ _ => Or.inl rfl, fun i hi j hj => absurd hj (Nat.not_lt_zero _)⟩,
      Lib.hid ((BoxAt.newAt (by simp) _ _).alloc), Lib.hid (BoxAt.newAt (by simp) _ _), Lib.hid (fun x hx => ⟨by omega, by simp; omega, by omega, by omega, fun hx => ?_⟩), Lib.hid (fun e he => ⟨rfl, rfl, fun j hj => absurd hj (Nat.not_lt_zero _)⟩), Lib.hid (belSeq (HB1.out.alloc HB1.out.size _) hb2)⟩
    rcases hx with ⟨i, hi, hx⟩ | ⟨i, j, hi, hj, hx⟩
    · simp [Value.ownBlock] at hx
    · exact absurd hj (Nat.not_lt_zero _))
  go_wp2_with fail
  go_loopw [6] (BkRel w w1.heap.size (w1.heap.size + 1) (w1.heap.size + 1 + 1) ns) (fun i _ => ns.length - (intOf i).toNat)
  case atStart => exact HST.out
  case round =>
    obtain ⟨k, n, X, V, R, F, hk, hk100, rfl, HBK, HGR, HBS, HBG, HF, HCT, HBL⟩ := hrel
    by_cases hlt : k < ns.length ∧ k < 100
    · obtain ⟨hlt1, hlt2⟩ := hlt
      obtain ⟨b1, o1, rfl⟩ := ha1 (by omega)
      obtain ⟨p0, p1, p2, p3⟩ := HR.out b1 o1 rfl k hlt1
      have x0 := (bcell HBL.out _ _ (block_lt_of_cell p0)).trans p0
      have x1 := (bcell HBL.out _ _ (block_lt_of_cell p1)).trans p1
      have x2 := (bcell HBL.out _ _ (block_lt_of_cell p2)).trans p2
      have x3 := (bcell HBL.out _ _ (block_lt_of_cell p3)).trans p3
      obtain ⟨nt, hn⟩ : ∃ n, ns[k] = n := ⟨_, rfl⟩
      rw [hn] at x0 x1 x2 x3
      have HN := Lib.hid hn
      obtain ⟨r, hq⟩ : ∃ r, recOf nt.en nt.what nt.how nt.data = r := ⟨_, rfl⟩
      have HQ := Lib.hid hq
      have hl1 : (k : Int) < (ns.length : Int) := by omega
      have hl2 : (k : Int) < 100 := by omega
      clear p0 p1 p2 p3 hn hq
      go_wp2_with fail
      refine (record_at HQ.out _).mono ?_
      rintro e' w5 ⟨rfl, hb5⟩
      have HX5 : Hid (BoxAt w5 wr.heap.size 31 [.int .i64 nt.en, .int .i64 nt.what, .int .i64 nt.how, .string nt.data]) := Lib.hid ((BoxAt.new wr _ _).below hb5 (by simp))
      have HB45 : Hid (Below wr.heap.size wr w5) := Lib.hid (belAlloc hb5 (by simp))
      have HBK5 := Lib.hid (HBK.out.keep HB45.out)
      have HB5 := Lib.hid (belSeq HBL.out HB45.out)
      clear hb5 x0 x1 x2 x3
      go_wp2_with fail
      refine (add_at (rs := [r]) HBK5.out ((small_foldN (ns.take k) 100 (by simp; omega))) (by simp) rfl rfl rfl).mono ?_
      rintro e' w6 ⟨rfl, hadd⟩
      have HM : Hid (MidB w w6 w1.heap.size (w1.heap.size + 1) (w1.heap.size + 1 + 1) ns k n X V R (fun x => F x ∨ w5.heap.size ≤ x) (foldN (ns.take k)) (stepRec (foldN (ns.take k)) r)) := Lib.hid (by
        have hfd : ∀ x, F x → ¬ (x = w1.heap.size + 1 ∨ x = w1.heap.size + 1 + 1 ∨ GFoot n V R x) := fun x hx => by
          obtain ⟨_, _, c, d, e⟩ := HF.out x hx
          rintro (y | y | y)
          · exact c y
          · exact d y
          · exact e y
        have hgl := HGR.out.below HB45.out
        have bs := HBS.out.below HB45.out HBS.out.lt
        have bg := HBG.out.below HB45.out HBG.out.lt
        have l1 := bs.lt
        have l2 := bg.lt
        have l3 := HB5.out.size
        refine ⟨hlt1, hlt2, by rw [foldN_snoc ns k hlt1, HN.out, HQ.out], hadd.1, fun x hx => ?_, hgl.fr hadd.2 (fun x hx hx2 => hfd x hx2 (Or.inr (Or.inr hx))), ?_, ?_, HCT.out, below_fr HB5.out hadd.2 (fun x hx => (HF.out x hx).1), hBw, by omega, by omega, by omega⟩
        · rcases hx with hx | hx
          · obtain ⟨a, _, c, d, e⟩ := HF.out x hx
            exact ⟨a, c, d, e⟩
          · exact ⟨by omega, by omega, by omega, fun y => by have := (hgl.lt y).2; omega⟩
        · exact (hadd.2.block _ l1 (fun x => hfd _ x (Or.inl rfl))).trans bs
        · exact (hadd.2.block _ l2 (fun x => hfd _ x (Or.inr (Or.inl rfl)))).trans bg)
      have HX6 : Hid (BoxAt w6 wr.heap.size 31 [.int .i64 nt.en, .int .i64 nt.what, .int .i64 nt.how, .string nt.data]) := Lib.hid ((hadd.2.block _ HX5.out.lt (fun x => by have := (HF.out _ x).2.1; omega)).trans HX5.out)
      have hxl6 := HX6.out.lt
      clear hadd HX5 HBK5 HB5 HB45 HBK HBL HF
      have HSMH := Lib.hid (small_foldN (ns.take k) 100 (by simp; omega))
      generalize foldN (ns.take k) = h at *
      obtain ⟨en, what, how, data⟩ := nt
      obtain ⟨y0, y1, y2, y3⟩ := HX6.out.cells4
      simp only at y0 y1 y2 y3
      have HQ2 : Hid (recOf en what how data = r) := HQ
      by_cases hen : en < 0 ∨ 2 ≤ en
      · have HCL : Hid (∀ wz, Below w6.heap.size w6 wz → BkRel w w1.heap.size (w1.heap.size + 1) (w1.heap.size + 1 + 1) ns (.int .i64 ((k : Int) + 1)) wz) := Lib.hid (fun wz hb => HM.out.same hb (by rw [← HQ2.out, rec_out _ _ _ _ _ hen]))
        rcases hen with hen | hen
        · go_wp2_with fail
          exact ⟨HCL.out _ (Below.refl _ _), by simp [intOf]; omega⟩
        · have hen1 : 1 < en := by omega
          go_wp2_with fail
          exact ⟨HCL.out _ (Below.refl _ _), by simp [intOf]; omega⟩
      · obtain ⟨e, rfl⟩ := Int.eq_ofNat_of_zero_le (show 0 ≤ en by omega)
        have he2 : e < 2 := by omega
        have he0 : (0 : Int) ≤ (e : Int) := Int.natCast_nonneg _
        have he1 : (e : Int) < 2 := by omega
        have he3 : (e : Int) ≤ 1 := by omega
        clear hen
        have hn1 : n e ≤ 100 := by rw [(HCT.out e he2).1]; exact (HSMH.out e he2).1
        have hn2 : n (2 + e) ≤ 100 := by rw [(HCT.out e he2).2.1]; exact (HSMH.out e he2).1
        have hx7S : wr.heap.size ≠ w1.heap.size + 1 := by have := HBS.out.lt; omega
        have hx7G : wr.heap.size ≠ w1.heap.size + 1 + 1 := by have := HBG.out.lt; omega
        by_cases h0 : what = 0
        · subst h0
          go_wp2_with fail
          refine wp_region_noPanic ?_
          refine wp_region_L (S := SL (fun w' => w'.cell? ⟨wr.heap.size, 0, none⟩ = some (.int .i64 (e : Int))) 17 (fun w' => w'.cell? ⟨w1.heap.size + 1, e, none⟩ = some (V e)) 19 (fun w' => w'.cell? ⟨w1.heap.size + 1 + 1, e, none⟩ = some (V (2 + e)))) (by kernel_rfl) ?_
          obtain ⟨W0, hW0⟩ : ∃ W0, w6.drew = W0 := ⟨_, rfl⟩
          rw [hW0]
          have HB0 : Hid (Below w6.heap.size w6 W0) := Lib.hid (hW0 ▸ (Below.refl w6.heap.size w6).drew)
          clear hW0
          have HA := Lib.hid (BooksAt.below ⟨HX6.out, HM.out.boxS, HM.out.boxG, HM.out.grid⟩ HB0.out)
          have hsz0 := HB0.out.size
          have hvlt : ∀ x, (V e).ownBlock = some x → x < W0.heap.size := fun x hx => ((HA.out.grid.rows e (by omega)).lt x hx).2
          refine LAt.take (i := 0) (oi := ⟨some 43, _, _, _, _, _⟩) (v := ?_) rfl (by kernel_rfl) (by kernel_rfl) (by kernel_rfl) (fun _ _ _ h => h) (by decide) (by decide) (Or.inl ⟨by kernel_rfl, ?_⟩) ⟨HA.out.s1, fun _ => HA.out.c1 he2, fun _ => HA.out.c2 he2⟩ ?_
          rotate_left 1
          · intro w hSw; (try dsimp only at hSw); (try (obtain ⟨hs1, hs2⟩ := hSw)); (try (obtain ⟨hs3, hs4, hs5⟩ := hs1)); (try (obtain ⟨hs6, hs7⟩ := hs2)); go_simp; try (with_reducible rfl)
          try simp only [Act.put, List.setIfInBounds_toArray, List.set_cons_zero, List.set_cons_succ]
          refine LAt.take (i := 1) (oi := ⟨some 44, _, _, _, _, _⟩) (v := ?_) rfl (by kernel_rfl) (by kernel_rfl) (by kernel_rfl) (fun _ _ _ h => h) (by decide) (by decide) (Or.inl ⟨by kernel_rfl, ?_⟩) ⟨HA.out.s1, fun _ => HA.out.c1 he2, fun _ => HA.out.c2 he2⟩ ?_
          rotate_left 1
          · intro w hSw; (try dsimp only at hSw); (try (obtain ⟨hs1, hs2⟩ := hSw)); (try (obtain ⟨hs3, hs4, hs5⟩ := hs1)); (try (obtain ⟨hs6, hs7⟩ := hs2)); go_simp; try (with_reducible rfl)
          try simp only [Act.put, List.setIfInBounds_toArray, List.set_cons_zero, List.set_cons_succ]
          refine LAt.take (i := 2) (oi := ⟨some 45, _, _, _, _, _⟩) (v := ?_) rfl (by kernel_rfl) (by kernel_rfl) (by kernel_rfl) (fun _ _ _ h => h) (by decide) (by decide) (Or.inl ⟨by kernel_rfl, ?_⟩) ⟨HA.out.s1, fun _ => HA.out.c1 he2, fun _ => HA.out.c2 he2⟩ ?_
          rotate_left 1
          · intro w hSw; (try dsimp only at hSw); (try (obtain ⟨hs1, hs2⟩ := hSw)); (try (obtain ⟨hs3, hs4, hs5⟩ := hs1)); (try (obtain ⟨hs6, hs7⟩ := hs2)); go_simp; try (with_reducible rfl)
          try simp only [Act.put, List.setIfInBounds_toArray, List.set_cons_zero, List.set_cons_succ]
          refine LAt.take (i := 3) (oi := ⟨some 46, _, _, _, _, _⟩) (v := ?_) rfl (by kernel_rfl) (by kernel_rfl) (by kernel_rfl) (fun _ _ _ h => h) (by decide) (by decide) (Or.inl ⟨by kernel_rfl, ?_⟩) ⟨HA.out.s1, fun _ => HA.out.c1 he2, fun _ => HA.out.c2 he2⟩ ?_
          rotate_left 1
          · intro w hSw; (try dsimp only at hSw); (try (obtain ⟨hs1, hs2⟩ := hSw)); (try (obtain ⟨hs3, hs4, hs5⟩ := hs1)); (try (obtain ⟨hs6, hs7⟩ := hs2)); go_simp; try (with_reducible rfl)
          try simp only [Act.put, List.setIfInBounds_toArray, List.set_cons_zero, List.set_cons_succ]
          refine LAt.take (i := 4) (oi := ⟨some 47, _, _, _, _, _⟩) (v := ?_) rfl (by kernel_rfl) (by kernel_rfl) (by kernel_rfl) (fun _ _ _ h => h) (by decide) (by decide) (Or.inl ⟨by kernel_rfl, ?_⟩) ⟨HA.out.s1, fun _ => HA.out.c1 he2, fun _ => HA.out.c2 he2⟩ ?_
          rotate_left 1
          · intro w hSw; (try dsimp only at hSw); (try (obtain ⟨hs1, hs2⟩ := hSw)); (try (obtain ⟨hs3, hs4, hs5⟩ := hs1)); (try (obtain ⟨hs6, hs7⟩ := hs2)); go_simp; try (with_reducible rfl)
          try simp only [Act.put, List.setIfInBounds_toArray, List.set_cons_zero, List.set_cons_succ]
          refine LAt.take (i := 5) (oi := ⟨some 48, _, _, _, _, _⟩) (v := ?_) rfl (by kernel_rfl) (by kernel_rfl) (by kernel_rfl) (fun _ _ _ h => h) (by decide) (by decide) (Or.inl ⟨by kernel_rfl, ?_⟩) ⟨HA.out.s1, fun _ => HA.out.c1 he2, fun _ => HA.out.c2 he2⟩ ?_
          rotate_left 1
          · intro w hSw; (try dsimp only at hSw); (try (obtain ⟨hs1, hs2⟩ := hSw)); (try (obtain ⟨hs3, hs4, hs5⟩ := hs1)); (try (obtain ⟨hs6, hs7⟩ := hs2)); go_simp; try (with_reducible rfl)
          try simp only [Act.put, List.setIfInBounds_toArray, List.set_cons_zero, List.set_cons_succ]
          refine LAt.take (i := 6) (oi := ⟨some 49, _, _, _, _, _⟩) (v := ?_) rfl (by kernel_rfl) (by kernel_rfl) (by kernel_rfl) (fun _ _ _ h => h) (by decide) (by decide) (Or.inl ⟨by kernel_rfl, ?_⟩) ⟨HA.out.s1, fun _ => HA.out.c1 he2, fun _ => HA.out.c2 he2⟩ ?_
          rotate_left 1
          · intro w hSw; (try dsimp only at hSw); (try (obtain ⟨hs1, hs2⟩ := hSw)); (try (obtain ⟨hs3, hs4, hs5⟩ := hs1)); (try (obtain ⟨hs6, hs7⟩ := hs2)); go_simp; try (with_reducible rfl)
          try simp only [Act.put, List.setIfInBounds_toArray, List.set_cons_zero, List.set_cons_succ]
          refine LAt.take1 (i := 7) (oi := ⟨some 50, _, _, _, _, _⟩) (v := ?_) rfl (by kernel_rfl) (by kernel_rfl) (by kernel_rfl) (fun _ _ _ h => h) (by decide) (by decide) (by kernel_rfl) (Or.inl ⟨by kernel_rfl, ?_⟩) ⟨HA.out.s1, fun _ => HA.out.c1 he2, fun _ => HA.out.c2 he2⟩ ?_
          rotate_left 1
          · intro w hSw; (try dsimp only at hSw); (try (obtain ⟨hs1, hs2⟩ := hSw)); (try (obtain ⟨hs3, hs4, hs5⟩ := hs1)); (try (obtain ⟨hs6, hs7⟩ := hs2)); go_simp; try (with_reducible rfl)
          try simp only [Act.put, List.setIfInBounds_toArray, List.set_cons_zero, List.set_cons_succ]
          refine LAt.take (i := 10) (oi := ⟨some 53, _, _, _, _, _⟩) (v := ?_) rfl (by kernel_rfl) (by kernel_rfl) (by kernel_rfl) (fun _ _ _ h => h) (by decide) (by decide) (Or.inl ⟨by kernel_rfl, ?_⟩) ⟨HA.out.s1, fun _ => HA.out.c1 he2, fun _ => HA.out.c2 he2⟩ ?_
          rotate_left 1
          · intro w hSw; (try dsimp only at hSw); (try (obtain ⟨hs1, hs2⟩ := hSw)); (try (obtain ⟨hs3, hs4, hs5⟩ := hs1)); (try (obtain ⟨hs6, hs7⟩ := hs2)); go_simp; try (with_reducible rfl)
          try simp only [Act.put, List.setIfInBounds_toArray, List.set_cons_zero, List.set_cons_succ]
          refine LAt.take (i := 11) (oi := ⟨some 54, _, _, _, _, _⟩) (v := ?_) rfl (by kernel_rfl) (by kernel_rfl) (by kernel_rfl) (fun _ _ _ h => h) (by decide) (by decide) (Or.inl ⟨by kernel_rfl, ?_⟩) ⟨HA.out.s1, fun _ => HA.out.c1 he2, fun _ => HA.out.c2 he2⟩ ?_
          rotate_left 1
          · intro w hSw; (try dsimp only at hSw); (try (obtain ⟨hs1, hs2⟩ := hSw)); (try (obtain ⟨hs3, hs4, hs5⟩ := hs1)); (try (obtain ⟨hs6, hs7⟩ := hs2)); go_simp; try (with_reducible rfl)
          try simp only [Act.put, List.setIfInBounds_toArray, List.set_cons_zero, List.set_cons_succ]
          refine LAt.take (i := 12) (oi := ⟨some 55, _, _, _, _, _⟩) (v := ?_) rfl (by kernel_rfl) (by kernel_rfl) (by kernel_rfl) (fun _ _ _ h => h) (by decide) (by decide) (Or.inl ⟨by kernel_rfl, ?_⟩) ⟨HA.out.s1, fun _ => HA.out.c1 he2, fun _ => HA.out.c2 he2⟩ ?_
          rotate_left 1
          · intro w hSw; (try dsimp only at hSw); (try (obtain ⟨hs1, hs2⟩ := hSw)); (try (obtain ⟨hs3, hs4, hs5⟩ := hs1)); (try (obtain ⟨hs6, hs7⟩ := hs2)); go_simp; try (with_reducible rfl)
          try simp only [Act.put, List.setIfInBounds_toArray, List.set_cons_zero, List.set_cons_succ]
          refine LAt.take2 (i := 13) (oi := ⟨some 56, _, _, _, _, _⟩) (v := ?_) rfl (by kernel_rfl) (by kernel_rfl) (by kernel_rfl) (fun _ _ _ h => h) (by decide) (by decide) (by kernel_rfl) (Or.inl ⟨by kernel_rfl, ?_⟩) ⟨HA.out.s1, fun _ => HA.out.c1 he2, fun _ => HA.out.c2 he2⟩ ?_
          rotate_left 1
          · intro w hSw; (try dsimp only at hSw); (try (obtain ⟨hs1, hs2⟩ := hSw)); (try (obtain ⟨hs3, hs4, hs5⟩ := hs1)); (try (obtain ⟨hs6, hs7⟩ := hs2)); go_simp; try (with_reducible rfl)
          try simp only [Act.put, List.setIfInBounds_toArray, List.set_cons_zero, List.set_cons_succ]
          refine LAt.ready (rs := [8, 14]) (by kernel_rfl) (by simp) ?_
          refine AllL.cons (o := ⟨some 51, _, _, _, _, _⟩) rfl (fun K hK => ?_) (AllL.cons (o := ⟨some 57, _, _, _, _, _⟩) rfl (fun K hK => ?_) AllL.nil)
          ·
            go_simp
            obtain ⟨W1, hW1⟩ : ∃ x, W0.alloc (.cells #[.slice none 0 0] 45) = x := ⟨_, rfl⟩
            rw [hW1]
            have HBW1 : Hid (Below W0.heap.size W0 W1) := Lib.hid (hW1 ▸ (Below.refl _ _).alloc (Nat.le_refl _) _)
            have HN8 : Hid (BoxAt W1 W0.heap.size 45 [.slice none 0 0]) := Lib.hid (hW1 ▸ BoxAt.new W0 _ _)
            have hzW1 : W1.heap.size = W0.heap.size + 1 := by rw [← hW1]; simp
            clear hW1
            have HZW1 := Lib.hid hzW1
            clear hzW1
            have HA := Lib.hid (HA.out.below HBW1.out)
            refine hK.out _ _ ⟨HA.out.s1, fun _ => HA.out.c1 he2, fun _ => HA.out.c2 he2⟩ ?_
            clear hK K
            try simp only [Act.put, List.setIfInBounds_toArray, List.set_cons_zero, List.set_cons_succ]
            refine LAt.ready (rs := [9, 14]) (by kernel_rfl) (by simp) ?_
            refine AllL.cons (o := ⟨some 52, _, _, _, _, _⟩) rfl (fun K hK => ?_) (AllL.cons (o := ⟨some 57, _, _, _, _, _⟩) rfl (fun K hK => ?_) AllL.nil)
            ·
              have hrw := HA.out.grid.rows e (by omega)
              have hbz : w1.heap.size ≤ W1.heap.size := by have := (HA.out.boxS).lt; omega
              refine step_append_lies _ (by rfl) _ _ _ (by rfl) w1.heap.size 45 i4 _ 1 24 Try.underlying28 hi4 hz40 hz41 hz42 rfl (by omega) (V e) (n e) ((List.range (n e)).map (R e)) (by rfl) hrw ⟨W0.heap.size, 0, none⟩ 1 1 [.slice none 0 0] (by rfl) (by rfl) (World.news_of_block (cs := #[.slice none 0 0]) (t := 45) (fr := (0, 0)) HN8.out) (by simp [Value.oneCell']) (by omega) (by unfold maxLen; omega) (by omega) hbz W1.heap.size rfl ?_
              intro g1 cap1 w7 hown1 hg1 hat1 hlt1'
              have HGR1 := Lib.hid hg1
              have HOW1 := Lib.hid hown1
              have HAT1 := Lib.hid hat1
              have HRW2 := Lib.hid ((HA.out.grid.rows (2 + e) (by omega)).kept hg1 (HA.out.grid.apart (2 + e) (by omega) e (by omega) (by omega)))
              have HX7 := Lib.hid (HA.out.box7.grown hg1 (own_box hrw HA.out.box7 note_ne_ss))
              have HS7 := Lib.hid (HA.out.boxS.grown hg1 (own_box hrw HA.out.boxS arr_ne_ss))
              have HG7 := Lib.hid (HA.out.boxG.grown hg1 (own_box hrw HA.out.boxG arr_ne_ss))
              have hs7 := hg1.size
              clear hg1 hown1 hat1 hrw
              refine hK.out _ _ ⟨HX7.out.cells4.1, fun _ => (HS7.out.cell e).trans (box_at V he2), fun _ => (HG7.out.cell e).trans (box_at2 V he2)⟩ ?_
              clear hK K
              try simp only [Act.put, List.setIfInBounds_toArray, List.set_cons_zero, List.set_cons_succ]
              refine LAt.take (i := 16) (oi := ⟨some 59, _, _, _, _, _⟩) (v := ?_) rfl (by kernel_rfl) (by kernel_rfl) (by kernel_rfl) (fun _ _ _ h => h) (by decide) (by decide) (Or.inl ⟨by kernel_rfl, ?_⟩) ⟨HX7.out.cells4.1, fun _ => (HS7.out.cell e).trans (box_at V he2), fun _ => (HG7.out.cell e).trans (box_at2 V he2)⟩ ?_
              rotate_left 1
              · intro w hSw; (try dsimp only at hSw); (try (obtain ⟨hs1, hs2⟩ := hSw)); (try (obtain ⟨hs3, hs4, hs5⟩ := hs1)); (try (obtain ⟨hs6, hs7⟩ := hs2)); go_simp; try (with_reducible rfl)
              try simp only [Act.put, List.setIfInBounds_toArray, List.set_cons_zero, List.set_cons_succ]
              refine LAt.ready (rs := [14]) (by kernel_rfl) (by simp) ?_
              refine AllL.cons (o := ⟨some 57, _, _, _, _, _⟩) rfl (fun K hK => ?_) AllL.nil
              go_simp
              obtain ⟨W3, hW3⟩ : ∃ x, w7.alloc (.cells #[.slice none 0 0] 45) = x := ⟨_, rfl⟩
              rw [hW3]
              have HBW3 : Hid (Below w7.heap.size w7 W3) := Lib.hid (hW3 ▸ (Below.refl _ _).alloc (Nat.le_refl _) _)
              have HN14 : Hid (BoxAt W3 w7.heap.size 45 [.slice none 0 0]) := Lib.hid (hW3 ▸ BoxAt.new w7 _ _)
              clear hW3
              have HX7 := Lib.hid (HX7.out.below HBW3.out HX7.out.lt)
              have HS7 := Lib.hid (HS7.out.below HBW3.out HS7.out.lt)
              have HG7 := Lib.hid (HG7.out.below HBW3.out HG7.out.lt)
              have HRW2 := Lib.hid (own_below HRW2.out HBW3.out)
              refine hK.out _ _ ⟨HX7.out.cells4.1, fun _ => (HS7.out.cell e).trans (box_at V he2), fun _ => (HG7.out.cell e).trans (box_at2 V he2)⟩ ?_
              clear hK K
              try simp only [Act.put, List.setIfInBounds_toArray, List.set_cons_zero, List.set_cons_succ]
              refine LAt.ready (rs := [15]) (by kernel_rfl) (by simp) ?_
              refine AllL.cons (o := ⟨some 58, _, _, _, _, _⟩) rfl (fun K hK => ?_) AllL.nil
              have hbz : w1.heap.size ≤ W3.heap.size := by have := HS7.out.lt; omega
              refine step_append_lies _ (by rfl) _ _ _ (by rfl) w1.heap.size 45 i4 _ 1 24 Try.underlying28 hi4 hz40 hz41 hz42 rfl (by omega) (V (2 + e)) (n (2 + e)) ((List.range (n (2 + e))).map (R (2 + e))) (by rfl) HRW2.out ⟨w7.heap.size, 0, none⟩ 1 1 [.slice none 0 0] (by rfl) (by rfl) (World.news_of_block (cs := #[.slice none 0 0]) (t := 45) (fr := (0, 0)) HN14.out) (by simp [Value.oneCell']) (by omega) (by unfold maxLen; omega) (by omega) hbz W3.heap.size rfl ?_
              intro g2 cap2 w8 hown2 hg2 hat2 hlt2'
              have HX8 := Lib.hid (HX7.out.grown hg2 (own_box HRW2.out HX7.out note_ne_ss))
              have HS8 := Lib.hid (HS7.out.grown hg2 (own_box HRW2.out HS7.out arr_ne_ss))
              have HG8 := Lib.hid (HG7.out.grown hg2 (own_box HRW2.out HG7.out arr_ne_ss))
              have HGR2 := Lib.hid hg2
              have HOW2 := Lib.hid hown2
              have HAT2 := Lib.hid hat2
              clear hg2 hown2 hat2
              refine hK.out _ _ ⟨HX8.out.cells4.1, fun _ => (HS8.out.cell e).trans (box_at V he2), fun _ => (HG8.out.cell e).trans (box_at2 V he2)⟩ ?_
              clear hK K
              try simp only [Act.put, List.setIfInBounds_toArray, List.set_cons_zero, List.set_cons_succ]
              refine LAt.ready (rs := [17]) (by kernel_rfl) (by simp) ?_
              refine AllL.cons (o := ⟨none, _, _, _, _, _⟩) rfl (fun K hK => ?_) AllL.nil
              have qs := (HS8.out.cell e).trans (box_at V he2)
              have qf := HS8.out.froz e
              go_simp
              clear qs qf
              have HX9 := Lib.hid (HX8.out.other (a := ⟨w1.heap.size + 1, e, none⟩) hx7S (.slice (some ⟨g1, 0, none⟩) (n e + 1) cap1))
              have HS9 := Lib.hid (HS8.out.set e (.slice (some ⟨g1, 0, none⟩) (n e + 1) cap1))
              have HG9 := Lib.hid (HG8.out.other (a := ⟨w1.heap.size + 1, e, none⟩) (by simp) (.slice (some ⟨g1, 0, none⟩) (n e + 1) cap1))
              refine hK.out _ _ ⟨HX9.out.cells4.1, fun h => absurd h (by decide), fun _ => (HG9.out.cell e).trans (box_at2 V he2)⟩ ?_
              clear hK K
              try simp only [Act.put, List.setIfInBounds_toArray, List.set_cons_zero, List.set_cons_succ]
              refine LAt.take (i := 18) (oi := ⟨some 60, _, _, _, _, _⟩) (v := ?_) rfl (by kernel_rfl) (by kernel_rfl) (by kernel_rfl) (fun _ _ _ h => h) (by decide) (by decide) (Or.inl ⟨by kernel_rfl, ?_⟩) ⟨HX9.out.cells4.1, fun h => absurd h (by decide), fun _ => (HG9.out.cell e).trans (box_at2 V he2)⟩ ?_
              rotate_left 1
              · intro w hSw; (try dsimp only at hSw); (try (obtain ⟨hs1, hs2⟩ := hSw)); (try (obtain ⟨hs3, hs4, hs5⟩ := hs1)); (try (obtain ⟨hs6, hs7⟩ := hs2)); go_simp; try (with_reducible rfl)
              try simp only [Act.put, List.setIfInBounds_toArray, List.set_cons_zero, List.set_cons_succ]
              refine LAt.ready (rs := [19]) (by kernel_rfl) (by simp) ?_
              refine AllL.cons (o := ⟨none, _, _, _, _, _⟩) rfl (fun K hK => ?_) AllL.nil
              have qs := (HG9.out.cell e).trans (box_at2 V he2)
              have qf := HG9.out.froz e
              go_simp
              clear qs qf
              have HX10 := Lib.hid (HX9.out.other (a := ⟨w1.heap.size + 1 + 1, e, none⟩) hx7G (.slice (some ⟨g2, 0, none⟩) (n (2 + e) + 1) cap2))
              have HS10 := Lib.hid (HS9.out.other (a := ⟨w1.heap.size + 1 + 1, e, none⟩) (by simp) (.slice (some ⟨g2, 0, none⟩) (n (2 + e) + 1) cap2))
              refine hK.out _ _ ⟨HX10.out.cells4.1, fun h => absurd h (by decide), fun h => absurd h (by decide)⟩ ?_
              clear hK K
              try simp only [Act.put, List.setIfInBounds_toArray, List.set_cons_zero, List.set_cons_succ]
              refine LAt.done (by kernel_rfl) ?_
              refine NoPanic.normal ?_
              have HFIN := Lib.hid (HM.out.beg he2 (by rw [← HQ2.out]; exact rec_beg h e he2 how data) (belSeq HB0.out HBW1.out) HGR1.out HOW1.out HAT1.out HBW3.out HGR2.out HOW2.out HAT2.out)
              generalize ((w8.setCell ⟨w1.heap.size + 1, e, none⟩ (.slice (some ⟨g1, 0, none⟩) (n e + 1) cap1)).setCell ⟨w1.heap.size + 1 + 1, e, none⟩ (.slice (some ⟨g2, 0, none⟩) (n (2 + e) + 1) cap2)) = wz at *
              obtain ⟨z0, z1, z2, z3⟩ := HX10.out.cells4
              have zs : wz.cell? ⟨w1.heap.size + 1, e, none⟩ = some (.slice (some ⟨g1, 0, none⟩) (n e + 1) cap1) := (HS10.out.cell e).trans (set_at _ _ he2 _)
              go_wp2_with fail
              exact ⟨HFIN.out, by simp [intOf]; omega⟩
            ·
              go_simp
              obtain ⟨W2, hW2⟩ : ∃ x, W1.alloc (.cells #[.slice none 0 0] 45) = x := ⟨_, rfl⟩
              rw [hW2]
              have HBW2 : Hid (Below W1.heap.size W1 W2) := Lib.hid (hW2 ▸ (Below.refl _ _).alloc (Nat.le_refl _) _)
              have HN14 : Hid (BoxAt W2 W1.heap.size 45 [.slice none 0 0]) := Lib.hid (hW2 ▸ BoxAt.new W1 _ _)
              have hzW2 : W2.heap.size = W1.heap.size + 1 := by rw [← hW2]; simp
              clear hW2
              have HZW2 := Lib.hid hzW2
              clear hzW2
              have HA := Lib.hid (HA.out.below HBW2.out)
              have HN8 := Lib.hid (HN8.out.below HBW2.out HN8.out.lt)
              refine hK.out _ _ ⟨HA.out.s1, fun _ => HA.out.c1 he2, fun _ => HA.out.c2 he2⟩ ?_
              clear hK K
              try simp only [Act.put, List.setIfInBounds_toArray, List.set_cons_zero, List.set_cons_succ]
              refine LAt.ready (rs := [9]) (by kernel_rfl) (by simp) ?_
              refine AllL.cons (o := ⟨some 52, _, _, _, _, _⟩) rfl (fun K hK => ?_) AllL.nil
              have hrw := HA.out.grid.rows e (by omega)
              have hbz : w1.heap.size ≤ W2.heap.size := by have := (HA.out.boxS).lt; omega
              refine step_append_lies _ (by rfl) _ _ _ (by rfl) w1.heap.size 45 i4 _ 1 24 Try.underlying28 hi4 hz40 hz41 hz42 rfl (by omega) (V e) (n e) ((List.range (n e)).map (R e)) (by rfl) hrw ⟨W0.heap.size, 0, none⟩ 1 1 [.slice none 0 0] (by rfl) (by rfl) (World.news_of_block (cs := #[.slice none 0 0]) (t := 45) (fr := (0, 0)) HN8.out) (by simp [Value.oneCell']) (by omega) (by unfold maxLen; omega) (by omega) hbz W2.heap.size rfl ?_
              intro g1 cap1 w7 hown1 hg1 hat1 hlt1'
              have HGR1 := Lib.hid hg1
              have HOW1 := Lib.hid hown1
              have HAT1 := Lib.hid hat1
              have HRW2 := Lib.hid ((HA.out.grid.rows (2 + e) (by omega)).kept hg1 (HA.out.grid.apart (2 + e) (by omega) e (by omega) (by omega)))
              have HN14 := Lib.hid (HN14.out.grown hg1 (fun y => by have := hvlt _ y.symm; have := HZW1.out; omega))
              have HX7 := Lib.hid (HA.out.box7.grown hg1 (own_box hrw HA.out.box7 note_ne_ss))
              have HS7 := Lib.hid (HA.out.boxS.grown hg1 (own_box hrw HA.out.boxS arr_ne_ss))
              have HG7 := Lib.hid (HA.out.boxG.grown hg1 (own_box hrw HA.out.boxG arr_ne_ss))
              have hs7 := hg1.size
              clear hg1 hown1 hat1 hrw
              refine hK.out _ _ ⟨HX7.out.cells4.1, fun _ => (HS7.out.cell e).trans (box_at V he2), fun _ => (HG7.out.cell e).trans (box_at2 V he2)⟩ ?_
              clear hK K
              try simp only [Act.put, List.setIfInBounds_toArray, List.set_cons_zero, List.set_cons_succ]
              refine LAt.take (i := 16) (oi := ⟨some 59, _, _, _, _, _⟩) (v := ?_) rfl (by kernel_rfl) (by kernel_rfl) (by kernel_rfl) (fun _ _ _ h => h) (by decide) (by decide) (Or.inl ⟨by kernel_rfl, ?_⟩) ⟨HX7.out.cells4.1, fun _ => (HS7.out.cell e).trans (box_at V he2), fun _ => (HG7.out.cell e).trans (box_at2 V he2)⟩ ?_
              rotate_left 1
              · intro w hSw; (try dsimp only at hSw); (try (obtain ⟨hs1, hs2⟩ := hSw)); (try (obtain ⟨hs3, hs4, hs5⟩ := hs1)); (try (obtain ⟨hs6, hs7⟩ := hs2)); go_simp; try (with_reducible rfl)
              try simp only [Act.put, List.setIfInBounds_toArray, List.set_cons_zero, List.set_cons_succ]
              refine LAt.ready (rs := [15]) (by kernel_rfl) (by simp) ?_
              refine AllL.cons (o := ⟨some 58, _, _, _, _, _⟩) rfl (fun K hK => ?_) AllL.nil
              have hbz : w1.heap.size ≤ w7.heap.size := by have := HS7.out.lt; omega
              refine step_append_lies _ (by rfl) _ _ _ (by rfl) w1.heap.size 45 i4 _ 1 24 Try.underlying28 hi4 hz40 hz41 hz42 rfl (by omega) (V (2 + e)) (n (2 + e)) ((List.range (n (2 + e))).map (R (2 + e))) (by rfl) HRW2.out ⟨W1.heap.size, 0, none⟩ 1 1 [.slice none 0 0] (by rfl) (by rfl) (World.news_of_block (cs := #[.slice none 0 0]) (t := 45) (fr := (0, 0)) HN14.out) (by simp [Value.oneCell']) (by omega) (by unfold maxLen; omega) (by omega) hbz w7.heap.size rfl ?_
              intro g2 cap2 w8 hown2 hg2 hat2 hlt2'
              have HX8 := Lib.hid (HX7.out.grown hg2 (own_box HRW2.out HX7.out note_ne_ss))
              have HS8 := Lib.hid (HS7.out.grown hg2 (own_box HRW2.out HS7.out arr_ne_ss))
              have HG8 := Lib.hid (HG7.out.grown hg2 (own_box HRW2.out HG7.out arr_ne_ss))
              have HGR2 := Lib.hid hg2
              have HOW2 := Lib.hid hown2
              have HAT2 := Lib.hid hat2
              clear hg2 hown2 hat2
              refine hK.out _ _ ⟨HX8.out.cells4.1, fun _ => (HS8.out.cell e).trans (box_at V he2), fun _ => (HG8.out.cell e).trans (box_at2 V he2)⟩ ?_
              clear hK K
              try simp only [Act.put, List.setIfInBounds_toArray, List.set_cons_zero, List.set_cons_succ]
              refine LAt.ready (rs := [17]) (by kernel_rfl) (by simp) ?_
              refine AllL.cons (o := ⟨none, _, _, _, _, _⟩) rfl (fun K hK => ?_) AllL.nil
              have qs := (HS8.out.cell e).trans (box_at V he2)
              have qf := HS8.out.froz e
              go_simp
              clear qs qf
              have HX9 := Lib.hid (HX8.out.other (a := ⟨w1.heap.size + 1, e, none⟩) hx7S (.slice (some ⟨g1, 0, none⟩) (n e + 1) cap1))
              have HS9 := Lib.hid (HS8.out.set e (.slice (some ⟨g1, 0, none⟩) (n e + 1) cap1))
              have HG9 := Lib.hid (HG8.out.other (a := ⟨w1.heap.size + 1, e, none⟩) (by simp) (.slice (some ⟨g1, 0, none⟩) (n e + 1) cap1))
              refine hK.out _ _ ⟨HX9.out.cells4.1, fun h => absurd h (by decide), fun _ => (HG9.out.cell e).trans (box_at2 V he2)⟩ ?_
              clear hK K
              try simp only [Act.put, List.setIfInBounds_toArray, List.set_cons_zero, List.set_cons_succ]
              refine LAt.take (i := 18) (oi := ⟨some 60, _, _, _, _, _⟩) (v := ?_) rfl (by kernel_rfl) (by kernel_rfl) (by kernel_rfl) (fun _ _ _ h => h) (by decide) (by decide) (Or.inl ⟨by kernel_rfl, ?_⟩) ⟨HX9.out.cells4.1, fun h => absurd h (by decide), fun _ => (HG9.out.cell e).trans (box_at2 V he2)⟩ ?_
              rotate_left 1
              · intro w hSw; (try dsimp only at hSw); (try (obtain ⟨hs1, hs2⟩ := hSw)); (try (obtain ⟨hs3, hs4, hs5⟩ := hs1)); (try (obtain ⟨hs6, hs7⟩ := hs2)); go_simp; try (with_reducible rfl)
              try simp only [Act.put, List.setIfInBounds_toArray, List.set_cons_zero, List.set_cons_succ]
              refine LAt.ready (rs := [19]) (by kernel_rfl) (by simp) ?_
              refine AllL.cons (o := ⟨none, _, _, _, _, _⟩) rfl (fun K hK => ?_) AllL.nil
              have qs := (HG9.out.cell e).trans (box_at2 V he2)
              have qf := HG9.out.froz e
              go_simp
              clear qs qf
              have HX10 := Lib.hid (HX9.out.other (a := ⟨w1.heap.size + 1 + 1, e, none⟩) hx7G (.slice (some ⟨g2, 0, none⟩) (n (2 + e) + 1) cap2))
              have HS10 := Lib.hid (HS9.out.other (a := ⟨w1.heap.size + 1 + 1, e, none⟩) (by simp) (.slice (some ⟨g2, 0, none⟩) (n (2 + e) + 1) cap2))
              refine hK.out _ _ ⟨HX10.out.cells4.1, fun h => absurd h (by decide), fun h => absurd h (by decide)⟩ ?_
              clear hK K
              try simp only [Act.put, List.setIfInBounds_toArray, List.set_cons_zero, List.set_cons_succ]
              refine LAt.done (by kernel_rfl) ?_
              refine NoPanic.normal ?_
              have HFIN := Lib.hid (HM.out.beg he2 (by rw [← HQ2.out]; exact rec_beg h e he2 how data) (belSeq (belSeq HB0.out HBW1.out) HBW2.out) HGR1.out HOW1.out HAT1.out (Below.refl _ _) HGR2.out HOW2.out HAT2.out)
              generalize ((w8.setCell ⟨w1.heap.size + 1, e, none⟩ (.slice (some ⟨g1, 0, none⟩) (n e + 1) cap1)).setCell ⟨w1.heap.size + 1 + 1, e, none⟩ (.slice (some ⟨g2, 0, none⟩) (n (2 + e) + 1) cap2)) = wz at *
              obtain ⟨z0, z1, z2, z3⟩ := HX10.out.cells4
              have zs : wz.cell? ⟨w1.heap.size + 1, e, none⟩ = some (.slice (some ⟨g1, 0, none⟩) (n e + 1) cap1) := (HS10.out.cell e).trans (set_at _ _ he2 _)
              go_wp2_with fail
              exact ⟨HFIN.out, by simp [intOf]; omega⟩
          ·
            go_simp
            obtain ⟨W1, hW1⟩ : ∃ x, W0.alloc (.cells #[.slice none 0 0] 45) = x := ⟨_, rfl⟩
            rw [hW1]
            have HBW1 : Hid (Below W0.heap.size W0 W1) := Lib.hid (hW1 ▸ (Below.refl _ _).alloc (Nat.le_refl _) _)
            have HN14 : Hid (BoxAt W1 W0.heap.size 45 [.slice none 0 0]) := Lib.hid (hW1 ▸ BoxAt.new W0 _ _)
            have hzW1 : W1.heap.size = W0.heap.size + 1 := by rw [← hW1]; simp
            clear hW1
            have HZW1 := Lib.hid hzW1
            clear hzW1
            have HA := Lib.hid (HA.out.below HBW1.out)
            refine hK.out _ _ ⟨HA.out.s1, fun _ => HA.out.c1 he2, fun _ => HA.out.c2 he2⟩ ?_
            clear hK K
            try simp only [Act.put, List.setIfInBounds_toArray, List.set_cons_zero, List.set_cons_succ]
            refine LAt.ready (rs := [8]) (by kernel_rfl) (by simp) ?_
            refine AllL.cons (o := ⟨some 51, _, _, _, _, _⟩) rfl (fun K hK => ?_) AllL.nil
            go_simp
            obtain ⟨W2, hW2⟩ : ∃ x, W1.alloc (.cells #[.slice none 0 0] 45) = x := ⟨_, rfl⟩
            rw [hW2]
            have HBW2 : Hid (Below W1.heap.size W1 W2) := Lib.hid (hW2 ▸ (Below.refl _ _).alloc (Nat.le_refl _) _)
            have HN8 : Hid (BoxAt W2 W1.heap.size 45 [.slice none 0 0]) := Lib.hid (hW2 ▸ BoxAt.new W1 _ _)
            have hzW2 : W2.heap.size = W1.heap.size + 1 := by rw [← hW2]; simp
            clear hW2
            have HZW2 := Lib.hid hzW2
            clear hzW2
            have HA := Lib.hid (HA.out.below HBW2.out)
            have HN14 := Lib.hid (HN14.out.below HBW2.out HN14.out.lt)
            refine hK.out _ _ ⟨HA.out.s1, fun _ => HA.out.c1 he2, fun _ => HA.out.c2 he2⟩ ?_
            clear hK K
            try simp only [Act.put, List.setIfInBounds_toArray, List.set_cons_zero, List.set_cons_succ]
            refine LAt.ready (rs := [9]) (by kernel_rfl) (by simp) ?_
            refine AllL.cons (o := ⟨some 52, _, _, _, _, _⟩) rfl (fun K hK => ?_) AllL.nil
            have hrw := HA.out.grid.rows e (by omega)
            have hbz : w1.heap.size ≤ W2.heap.size := by have := (HA.out.boxS).lt; omega
            refine step_append_lies _ (by rfl) _ _ _ (by rfl) w1.heap.size 45 i4 _ 1 24 Try.underlying28 hi4 hz40 hz41 hz42 rfl (by omega) (V e) (n e) ((List.range (n e)).map (R e)) (by rfl) hrw ⟨W1.heap.size, 0, none⟩ 1 1 [.slice none 0 0] (by rfl) (by rfl) (World.news_of_block (cs := #[.slice none 0 0]) (t := 45) (fr := (0, 0)) HN8.out) (by simp [Value.oneCell']) (by omega) (by unfold maxLen; omega) (by omega) hbz W2.heap.size rfl ?_
            intro g1 cap1 w7 hown1 hg1 hat1 hlt1'
            have HGR1 := Lib.hid hg1
            have HOW1 := Lib.hid hown1
            have HAT1 := Lib.hid hat1
            have HRW2 := Lib.hid ((HA.out.grid.rows (2 + e) (by omega)).kept hg1 (HA.out.grid.apart (2 + e) (by omega) e (by omega) (by omega)))
            have HN14 := Lib.hid (HN14.out.grown hg1 (fun y => by have := hvlt _ y.symm; have := HZW1.out; omega))
            have HX7 := Lib.hid (HA.out.box7.grown hg1 (own_box hrw HA.out.box7 note_ne_ss))
            have HS7 := Lib.hid (HA.out.boxS.grown hg1 (own_box hrw HA.out.boxS arr_ne_ss))
            have HG7 := Lib.hid (HA.out.boxG.grown hg1 (own_box hrw HA.out.boxG arr_ne_ss))
            have hs7 := hg1.size
            clear hg1 hown1 hat1 hrw
            refine hK.out _ _ ⟨HX7.out.cells4.1, fun _ => (HS7.out.cell e).trans (box_at V he2), fun _ => (HG7.out.cell e).trans (box_at2 V he2)⟩ ?_
            clear hK K
            try simp only [Act.put, List.setIfInBounds_toArray, List.set_cons_zero, List.set_cons_succ]
            refine LAt.take (i := 16) (oi := ⟨some 59, _, _, _, _, _⟩) (v := ?_) rfl (by kernel_rfl) (by kernel_rfl) (by kernel_rfl) (fun _ _ _ h => h) (by decide) (by decide) (Or.inl ⟨by kernel_rfl, ?_⟩) ⟨HX7.out.cells4.1, fun _ => (HS7.out.cell e).trans (box_at V he2), fun _ => (HG7.out.cell e).trans (box_at2 V he2)⟩ ?_
            rotate_left 1
            · intro w hSw; (try dsimp only at hSw); (try (obtain ⟨hs1, hs2⟩ := hSw)); (try (obtain ⟨hs3, hs4, hs5⟩ := hs1)); (try (obtain ⟨hs6, hs7⟩ := hs2)); go_simp; try (with_reducible rfl)
            try simp only [Act.put, List.setIfInBounds_toArray, List.set_cons_zero, List.set_cons_succ]
            refine LAt.ready (rs := [15]) (by kernel_rfl) (by simp) ?_
            refine AllL.cons (o := ⟨some 58, _, _, _, _, _⟩) rfl (fun K hK => ?_) AllL.nil
            have hbz : w1.heap.size ≤ w7.heap.size := by have := HS7.out.lt; omega
            refine step_append_lies _ (by rfl) _ _ _ (by rfl) w1.heap.size 45 i4 _ 1 24 Try.underlying28 hi4 hz40 hz41 hz42 rfl (by omega) (V (2 + e)) (n (2 + e)) ((List.range (n (2 + e))).map (R (2 + e))) (by rfl) HRW2.out ⟨W0.heap.size, 0, none⟩ 1 1 [.slice none 0 0] (by rfl) (by rfl) (World.news_of_block (cs := #[.slice none 0 0]) (t := 45) (fr := (0, 0)) HN14.out) (by simp [Value.oneCell']) (by omega) (by unfold maxLen; omega) (by omega) hbz w7.heap.size rfl ?_
            intro g2 cap2 w8 hown2 hg2 hat2 hlt2'
            have HX8 := Lib.hid (HX7.out.grown hg2 (own_box HRW2.out HX7.out note_ne_ss))
            have HS8 := Lib.hid (HS7.out.grown hg2 (own_box HRW2.out HS7.out arr_ne_ss))
            have HG8 := Lib.hid (HG7.out.grown hg2 (own_box HRW2.out HG7.out arr_ne_ss))
            have HGR2 := Lib.hid hg2
            have HOW2 := Lib.hid hown2
            have HAT2 := Lib.hid hat2
            clear hg2 hown2 hat2
            refine hK.out _ _ ⟨HX8.out.cells4.1, fun _ => (HS8.out.cell e).trans (box_at V he2), fun _ => (HG8.out.cell e).trans (box_at2 V he2)⟩ ?_
            clear hK K
            try simp only [Act.put, List.setIfInBounds_toArray, List.set_cons_zero, List.set_cons_succ]
            refine LAt.ready (rs := [17]) (by kernel_rfl) (by simp) ?_
            refine AllL.cons (o := ⟨none, _, _, _, _, _⟩) rfl (fun K hK => ?_) AllL.nil
            have qs := (HS8.out.cell e).trans (box_at V he2)
            have qf := HS8.out.froz e
            go_simp
            clear qs qf
            have HX9 := Lib.hid (HX8.out.other (a := ⟨w1.heap.size + 1, e, none⟩) hx7S (.slice (some ⟨g1, 0, none⟩) (n e + 1) cap1))
            have HS9 := Lib.hid (HS8.out.set e (.slice (some ⟨g1, 0, none⟩) (n e + 1) cap1))
            have HG9 := Lib.hid (HG8.out.other (a := ⟨w1.heap.size + 1, e, none⟩) (by simp) (.slice (some ⟨g1, 0, none⟩) (n e + 1) cap1))
            refine hK.out _ _ ⟨HX9.out.cells4.1, fun h => absurd h (by decide), fun _ => (HG9.out.cell e).trans (box_at2 V he2)⟩ ?_
            clear hK K
            try simp only [Act.put, List.setIfInBounds_toArray, List.set_cons_zero, List.set_cons_succ]
            refine LAt.take (i := 18) (oi := ⟨some 60, _, _, _, _, _⟩) (v := ?_) rfl (by kernel_rfl) (by kernel_rfl) (by kernel_rfl) (fun _ _ _ h => h) (by decide) (by decide) (Or.inl ⟨by kernel_rfl, ?_⟩) ⟨HX9.out.cells4.1, fun h => absurd h (by decide), fun _ => (HG9.out.cell e).trans (box_at2 V he2)⟩ ?_
            rotate_left 1
            · intro w hSw; (try dsimp only at hSw); (try (obtain ⟨hs1, hs2⟩ := hSw)); (try (obtain ⟨hs3, hs4, hs5⟩ := hs1)); (try (obtain ⟨hs6, hs7⟩ := hs2)); go_simp; try (with_reducible rfl)
            try simp only [Act.put, List.setIfInBounds_toArray, List.set_cons_zero, List.set_cons_succ]
            refine LAt.ready (rs := [19]) (by kernel_rfl) (by simp) ?_
            refine AllL.cons (o := ⟨none, _, _, _, _, _⟩) rfl (fun K hK => ?_) AllL.nil
            have qs := (HG9.out.cell e).trans (box_at2 V he2)
            have qf := HG9.out.froz e
            go_simp
            clear qs qf
            have HX10 := Lib.hid (HX9.out.other (a := ⟨w1.heap.size + 1 + 1, e, none⟩) hx7G (.slice (some ⟨g2, 0, none⟩) (n (2 + e) + 1) cap2))
            have HS10 := Lib.hid (HS9.out.other (a := ⟨w1.heap.size + 1 + 1, e, none⟩) (by simp) (.slice (some ⟨g2, 0, none⟩) (n (2 + e) + 1) cap2))
            refine hK.out _ _ ⟨HX10.out.cells4.1, fun h => absurd h (by decide), fun h => absurd h (by decide)⟩ ?_
            clear hK K
            try simp only [Act.put, List.setIfInBounds_toArray, List.set_cons_zero, List.set_cons_succ]
            refine LAt.done (by kernel_rfl) ?_
            refine NoPanic.normal ?_
            have HFIN := Lib.hid (HM.out.beg he2 (by rw [← HQ2.out]; exact rec_beg h e he2 how data) (belSeq (belSeq HB0.out HBW1.out) HBW2.out) HGR1.out HOW1.out HAT1.out (Below.refl _ _) HGR2.out HOW2.out HAT2.out)
            generalize ((w8.setCell ⟨w1.heap.size + 1, e, none⟩ (.slice (some ⟨g1, 0, none⟩) (n e + 1) cap1)).setCell ⟨w1.heap.size + 1 + 1, e, none⟩ (.slice (some ⟨g2, 0, none⟩) (n (2 + e) + 1) cap2)) = wz at *
            obtain ⟨z0, z1, z2, z3⟩ := HX10.out.cells4
            have zs : wz.cell? ⟨w1.heap.size + 1, e, none⟩ = some (.slice (some ⟨g1, 0, none⟩) (n e + 1) cap1) := (HS10.out.cell e).trans (set_at _ _ he2 _)
            go_wp2_with fail
            exact ⟨HFIN.out, by simp [intOf]; omega⟩
        · have h0b : (what == 0) = false := beq_eq_false_iff_ne.2 h0
          have cS : w6.cell? ⟨w1.heap.size + 1, e, none⟩ = some (V e) := (HM.out.boxS.cell e).trans (box_at V he2)
          by_cases hz : n e = 0
          · obtain ⟨av, cv, hv⟩ := own_slice (HM.out.grid.rows e (by omega))
            rw [hv, hz] at cS
            have hhe : (h e).length = 0 := by rw [← (HCT.out e he2).1]; exact hz
            have HCL : Hid (∀ wz, Below w6.heap.size w6 wz → BkRel w w1.heap.size (w1.heap.size + 1) (w1.heap.size + 1 + 1) ns (.int .i64 ((k : Int) + 1)) wz) := Lib.hid (fun wz hb => HM.out.same hb (by
              rw [← HQ2.out]
              by_cases h1 : what = 1
              · rw [h1, rec_sent _ _ he2]; exact upd_nil _ _ _ _ hhe
              · by_cases h2 : what = 2
                · rw [h2, rec_got _ _ he2]; exact upd_nil _ _ _ _ hhe
                · exact rec_else _ _ he2 _ _ _ h0 h1 h2))
            clear hz hv hhe
            by_cases h1 : what = 1
            · subst h1
              go_wp2_with fail
              exact ⟨HCL.out _ (Below.refl _ _), by simp [intOf]; omega⟩
            · have h1b : (what == 1) = false := beq_eq_false_iff_ne.2 h1
              by_cases h2 : what = 2
              · subst h2
                go_wp2_with fail
                exact ⟨HCL.out _ (Below.refl _ _), by simp [intOf]; omega⟩
              · have h2b : (what == 2) = false := beq_eq_false_iff_ne.2 h2
                go_wp2_with fail
                exact ⟨HCL.out _ (Below.refl _ _), by simp [intOf]; omega⟩
          obtain ⟨m, hm⟩ := Nat.exists_eq_succ_of_ne_zero hz
          have hm : n e = m + 1 := hm
          have hmg : n (2 + e) = m + 1 := by rw [(HCT.out e he2).2.1, ← (HCT.out e he2).1]; exact hm
          obtain ⟨gr, cr, hv, _⟩ := (HM.out.grid.rows e (by omega)).form (by omega)
          rw [hm] at hv
          rw [hv] at cS
          have hxb : (X e m).length ≤ 100 ∧ (X (2 + e) m).length ≤ 100 := by
            have h3 := (HCT.out e he2).2.2 m (by rw [← (HCT.out e he2).1]; omega)
            exact (HSMH.out e he2).2 _ (List.mem_of_getElem? h3)
          obtain ⟨hxb1, hxb2⟩ := hxb
          have HN0 := Lib.hid hm
          have HVE := Lib.hid hv
          have hm0 : (0 : Int) ≤ (m : Int) := Int.natCast_nonneg _
          have hmle : m ≤ 100 := by omega
          have hmlt : (m : Int) < (m : Int) + 1 := by omega
          clear hz hm hv
          by_cases h1 : what = 1
          · subst h1
            have HNI := HN0
            have HVI := HVE
            have hx7r : wr.heap.size ≠ gr := fun x => by
              have := own_block (HM.out.grid.rows e (by omega)) HX6.out note_ne_ss
              rw [HVE.out] at this
              exact this (by rw [x]; rfl)
            have hvr : w1.heap.size + 1 ≠ gr := fun x => by
              have := own_block (HM.out.grid.rows e (by omega)) HM.out.boxS arr_ne_ss
              rw [HVE.out] at this
              exact this (by rw [x]; rfl)
            have hmn2 := hmg
            clear hmg
            have HMG := Lib.hid hmn2
            clear hmn2
            go_wp2_with fail
            refine wp_region_noPanic ?_
            refine wp_region_L (S := SL (fun w' => w'.cell? ⟨wr.heap.size, 0, none⟩ = some (.int .i64 (e : Int)) ∧ w'.cell? ⟨wr.heap.size, 3, none⟩ = some (.string data) ∧ w'.cell? ⟨w1.heap.size + 1, e, none⟩ = some (.slice (some ⟨gr, 0, none⟩) (m + 1) cr)) 17 (fun w' => w'.cell? ⟨gr, m, none⟩ = some (R e m)) 17 (fun _ => True)) (by kernel_rfl) ?_
            obtain ⟨W0, hW0⟩ : ∃ W0, w6.drew = W0 := ⟨_, rfl⟩
            rw [hW0]
            have HB0 : Hid (Below w6.heap.size w6 W0) := Lib.hid (hW0 ▸ (Below.refl w6.heap.size w6).drew)
            clear hW0
            have HA := Lib.hid (BooksAt.below ⟨HX6.out, HM.out.boxS, HM.out.boxG, HM.out.grid⟩ HB0.out)
            refine LAt.take (i := 0) (oi := ⟨some 74, _, _, _, _, _⟩) (v := ?_) rfl (by kernel_rfl) (by kernel_rfl) (by kernel_rfl) (fun _ _ _ h => h) (by decide) (by decide) (Or.inl ⟨by kernel_rfl, ?_⟩) ⟨⟨HA.out.s1, HA.out.s3, (HA.out.c1 he2).trans (by rw [HVI.out])⟩, fun _ => HA.out.rowcell (by omega) HVI.out HNI.out, fun _ => trivial⟩ ?_
            rotate_left 1
            · intro w hSw; (try dsimp only at hSw); (try (obtain ⟨hs1, hs2⟩ := hSw)); (try (obtain ⟨hs3, hs4, hs5⟩ := hs1)); (try (obtain ⟨hs6, hs7⟩ := hs2)); go_simp; try (with_reducible rfl)
            try simp only [Act.put, List.setIfInBounds_toArray, List.set_cons_zero, List.set_cons_succ]
            refine LAt.take (i := 1) (oi := ⟨some 75, _, _, _, _, _⟩) (v := ?_) rfl (by kernel_rfl) (by kernel_rfl) (by kernel_rfl) (fun _ _ _ h => h) (by decide) (by decide) (Or.inl ⟨by kernel_rfl, ?_⟩) ⟨⟨HA.out.s1, HA.out.s3, (HA.out.c1 he2).trans (by rw [HVI.out])⟩, fun _ => HA.out.rowcell (by omega) HVI.out HNI.out, fun _ => trivial⟩ ?_
            rotate_left 1
            · intro w hSw; (try dsimp only at hSw); (try (obtain ⟨hs1, hs2⟩ := hSw)); (try (obtain ⟨hs3, hs4, hs5⟩ := hs1)); (try (obtain ⟨hs6, hs7⟩ := hs2)); go_simp; try (with_reducible rfl)
            try simp only [Act.put, List.setIfInBounds_toArray, List.set_cons_zero, List.set_cons_succ]
            refine LAt.take (i := 2) (oi := ⟨some 76, _, _, _, _, _⟩) (v := ?_) rfl (by kernel_rfl) (by kernel_rfl) (by kernel_rfl) (fun _ _ _ h => h) (by decide) (by decide) (Or.inl ⟨by kernel_rfl, ?_⟩) ⟨⟨HA.out.s1, HA.out.s3, (HA.out.c1 he2).trans (by rw [HVI.out])⟩, fun _ => HA.out.rowcell (by omega) HVI.out HNI.out, fun _ => trivial⟩ ?_
            rotate_left 1
            · intro w hSw; (try dsimp only at hSw); (try (obtain ⟨hs1, hs2⟩ := hSw)); (try (obtain ⟨hs3, hs4, hs5⟩ := hs1)); (try (obtain ⟨hs6, hs7⟩ := hs2)); go_simp; try (with_reducible rfl)
            try simp only [Act.put, List.setIfInBounds_toArray, List.set_cons_zero, List.set_cons_succ]
            refine LAt.take (i := 3) (oi := ⟨some 77, _, _, _, _, _⟩) (v := ?_) rfl (by kernel_rfl) (by kernel_rfl) (by kernel_rfl) (fun _ _ _ h => h) (by decide) (by decide) (Or.inl ⟨by kernel_rfl, ?_⟩) ⟨⟨HA.out.s1, HA.out.s3, (HA.out.c1 he2).trans (by rw [HVI.out])⟩, fun _ => HA.out.rowcell (by omega) HVI.out HNI.out, fun _ => trivial⟩ ?_
            rotate_left 1
            · intro w hSw; (try dsimp only at hSw); (try (obtain ⟨hs1, hs2⟩ := hSw)); (try (obtain ⟨hs3, hs4, hs5⟩ := hs1)); (try (obtain ⟨hs6, hs7⟩ := hs2)); go_simp; try (with_reducible rfl)
            try simp only [Act.put, List.setIfInBounds_toArray, List.set_cons_zero, List.set_cons_succ]
            refine LAt.take (i := 4) (oi := ⟨some 78, _, _, _, _, _⟩) (v := ?_) rfl (by kernel_rfl) (by kernel_rfl) (by kernel_rfl) (fun _ _ _ h => h) (by decide) (by decide) (Or.inl ⟨by kernel_rfl, ?_⟩) ⟨⟨HA.out.s1, HA.out.s3, (HA.out.c1 he2).trans (by rw [HVI.out])⟩, fun _ => HA.out.rowcell (by omega) HVI.out HNI.out, fun _ => trivial⟩ ?_
            rotate_left 1
            · intro w hSw; (try dsimp only at hSw); (try (obtain ⟨hs1, hs2⟩ := hSw)); (try (obtain ⟨hs3, hs4, hs5⟩ := hs1)); (try (obtain ⟨hs6, hs7⟩ := hs2)); go_simp; try (with_reducible rfl)
            try simp only [Act.put, List.setIfInBounds_toArray, List.set_cons_zero, List.set_cons_succ]
            refine LAt.take (i := 5) (oi := ⟨some 79, _, _, _, _, _⟩) (v := ?_) rfl (by kernel_rfl) (by kernel_rfl) (by kernel_rfl) (fun _ _ _ h => h) (by decide) (by decide) (Or.inl ⟨by kernel_rfl, ?_⟩) ⟨⟨HA.out.s1, HA.out.s3, (HA.out.c1 he2).trans (by rw [HVI.out])⟩, fun _ => HA.out.rowcell (by omega) HVI.out HNI.out, fun _ => trivial⟩ ?_
            rotate_left 1
            · intro w hSw; (try dsimp only at hSw); (try (obtain ⟨hs1, hs2⟩ := hSw)); (try (obtain ⟨hs3, hs4, hs5⟩ := hs1)); (try (obtain ⟨hs6, hs7⟩ := hs2)); go_simp; try (with_reducible rfl)
            try simp only [Act.put, List.setIfInBounds_toArray, List.set_cons_zero, List.set_cons_succ]
            refine LAt.take (i := 6) (oi := ⟨some 80, _, _, _, _, _⟩) (v := ?_) rfl (by kernel_rfl) (by kernel_rfl) (by kernel_rfl) (fun _ _ _ h => h) (by decide) (by decide) (Or.inl ⟨by kernel_rfl, ?_⟩) ⟨⟨HA.out.s1, HA.out.s3, (HA.out.c1 he2).trans (by rw [HVI.out])⟩, fun _ => HA.out.rowcell (by omega) HVI.out HNI.out, fun _ => trivial⟩ ?_
            rotate_left 1
            · intro w hSw; (try dsimp only at hSw); (try (obtain ⟨hs1, hs2⟩ := hSw)); (try (obtain ⟨hs3, hs4, hs5⟩ := hs1)); (try (obtain ⟨hs6, hs7⟩ := hs2)); go_simp; try (with_reducible rfl)
            try simp only [Act.put, List.setIfInBounds_toArray, List.set_cons_zero, List.set_cons_succ]
            refine LAt.take (i := 7) (oi := ⟨some 81, _, _, _, _, _⟩) (v := ?_) rfl (by kernel_rfl) (by kernel_rfl) (by kernel_rfl) (fun _ _ _ h => h) (by decide) (by decide) (Or.inl ⟨by kernel_rfl, ?_⟩) ⟨⟨HA.out.s1, HA.out.s3, (HA.out.c1 he2).trans (by rw [HVI.out])⟩, fun _ => HA.out.rowcell (by omega) HVI.out HNI.out, fun _ => trivial⟩ ?_
            rotate_left 1
            · intro w hSw; (try dsimp only at hSw); (try (obtain ⟨hs1, hs2⟩ := hSw)); (try (obtain ⟨hs3, hs4, hs5⟩ := hs1)); (try (obtain ⟨hs6, hs7⟩ := hs2)); go_simp; try (with_reducible rfl)
            try simp only [Act.put, List.setIfInBounds_toArray, List.set_cons_zero, List.set_cons_succ]
            refine LAt.take (i := 8) (oi := ⟨some 82, _, _, _, _, _⟩) (v := ?_) rfl (by kernel_rfl) (by kernel_rfl) (by kernel_rfl) (fun _ _ _ h => h) (by decide) (by decide) (Or.inl ⟨by kernel_rfl, ?_⟩) ⟨⟨HA.out.s1, HA.out.s3, (HA.out.c1 he2).trans (by rw [HVI.out])⟩, fun _ => HA.out.rowcell (by omega) HVI.out HNI.out, fun _ => trivial⟩ ?_
            rotate_left 1
            · intro w hSw; (try dsimp only at hSw); (try (obtain ⟨hs1, hs2⟩ := hSw)); (try (obtain ⟨hs3, hs4, hs5⟩ := hs1)); (try (obtain ⟨hs6, hs7⟩ := hs2)); go_simp; try (with_reducible rfl)
            try simp only [Act.put, List.setIfInBounds_toArray, List.set_cons_zero, List.set_cons_succ]
            refine LAt.take (i := 9) (oi := ⟨some 83, _, _, _, _, _⟩) (v := ?_) rfl (by kernel_rfl) (by kernel_rfl) (by kernel_rfl) (fun _ _ _ h => h) (by decide) (by decide) (Or.inl ⟨by kernel_rfl, ?_⟩) ⟨⟨HA.out.s1, HA.out.s3, (HA.out.c1 he2).trans (by rw [HVI.out])⟩, fun _ => HA.out.rowcell (by omega) HVI.out HNI.out, fun _ => trivial⟩ ?_
            rotate_left 1
            · intro w hSw; (try dsimp only at hSw); (try (obtain ⟨hs1, hs2⟩ := hSw)); (try (obtain ⟨hs3, hs4, hs5⟩ := hs1)); (try (obtain ⟨hs6, hs7⟩ := hs2)); go_simp; try (with_reducible rfl)
            try simp only [Act.put, List.setIfInBounds_toArray, List.set_cons_zero, List.set_cons_succ]
            refine LAt.take (i := 10) (oi := ⟨some 84, _, _, _, _, _⟩) (v := ?_) rfl (by kernel_rfl) (by kernel_rfl) (by kernel_rfl) (fun _ _ _ h => h) (by decide) (by decide) (Or.inl ⟨by kernel_rfl, ?_⟩) ⟨⟨HA.out.s1, HA.out.s3, (HA.out.c1 he2).trans (by rw [HVI.out])⟩, fun _ => HA.out.rowcell (by omega) HVI.out HNI.out, fun _ => trivial⟩ ?_
            rotate_left 1
            · intro w hSw; (try dsimp only at hSw); (try (obtain ⟨hs1, hs2⟩ := hSw)); (try (obtain ⟨hs3, hs4, hs5⟩ := hs1)); (try (obtain ⟨hs6, hs7⟩ := hs2)); go_simp; try (with_reducible rfl)
            try simp only [Act.put, List.setIfInBounds_toArray, List.set_cons_zero, List.set_cons_succ]
            refine LAt.take1 (i := 11) (oi := ⟨some 85, _, _, _, _, _⟩) (v := ?_) rfl (by kernel_rfl) (by kernel_rfl) (by kernel_rfl) (fun _ _ _ h => h) (by decide) (by decide) (by kernel_rfl) (Or.inl ⟨by kernel_rfl, ?_⟩) ⟨⟨HA.out.s1, HA.out.s3, (HA.out.c1 he2).trans (by rw [HVI.out])⟩, fun _ => HA.out.rowcell (by omega) HVI.out HNI.out, fun _ => trivial⟩ ?_
            rotate_left 1
            · intro w hSw; (try dsimp only at hSw); (try (obtain ⟨hs1, hs2⟩ := hSw)); (try (obtain ⟨hs3, hs4, hs5⟩ := hs1)); (try (obtain ⟨hs6, hs7⟩ := hs2)); go_simp; try (with_reducible rfl)
            try simp only [Act.put, List.setIfInBounds_toArray, List.set_cons_zero, List.set_cons_succ]
            refine LAt.take (i := 12) (oi := ⟨some 86, _, _, _, _, _⟩) (v := ?_) rfl (by kernel_rfl) (by kernel_rfl) (by kernel_rfl) (fun _ _ _ h => h) (by decide) (by decide) (Or.inl ⟨by kernel_rfl, ?_⟩) ⟨⟨HA.out.s1, HA.out.s3, (HA.out.c1 he2).trans (by rw [HVI.out])⟩, fun _ => HA.out.rowcell (by omega) HVI.out HNI.out, fun _ => trivial⟩ ?_
            rotate_left 1
            · intro w hSw; (try dsimp only at hSw); (try (obtain ⟨hs1, hs2⟩ := hSw)); (try (obtain ⟨hs3, hs4, hs5⟩ := hs1)); (try (obtain ⟨hs6, hs7⟩ := hs2)); go_simp; try (with_reducible rfl)
            try simp only [Act.put, List.setIfInBounds_toArray, List.set_cons_zero, List.set_cons_succ]
            refine LAt.take (i := 13) (oi := ⟨some 87, _, _, _, _, _⟩) (v := ?_) rfl (by kernel_rfl) (by kernel_rfl) (by kernel_rfl) (fun _ _ _ h => h) (by decide) (by decide) (Or.inl ⟨by kernel_rfl, ?_⟩) ⟨⟨HA.out.s1, HA.out.s3, (HA.out.c1 he2).trans (by rw [HVI.out])⟩, fun _ => HA.out.rowcell (by omega) HVI.out HNI.out, fun _ => trivial⟩ ?_
            rotate_left 1
            · intro w hSw; (try dsimp only at hSw); (try (obtain ⟨hs1, hs2⟩ := hSw)); (try (obtain ⟨hs3, hs4, hs5⟩ := hs1)); (try (obtain ⟨hs6, hs7⟩ := hs2)); go_simp; try (with_reducible rfl)
            try simp only [Act.put, List.setIfInBounds_toArray, List.set_cons_zero, List.set_cons_succ]
            refine LAt.ready (rs := [14]) (by kernel_rfl) (by simp) ?_
            refine AllL.cons (o := ⟨some 88, _, _, _, _, _⟩) rfl (fun K hK => ?_) AllL.nil
            go_simp
            obtain ⟨W1, hW1⟩ : ∃ x, W0.alloc (.cells #[.string data] 9) = x := ⟨_, rfl⟩
            rw [hW1]
            have HBW1 : Hid (Below W0.heap.size W0 W1) := Lib.hid (hW1 ▸ (Below.refl _ _).alloc (Nat.le_refl _) _)
            have HN8 : Hid (BoxAt W1 W0.heap.size 9 [.string data]) := Lib.hid (hW1 ▸ BoxAt.new W0 _ _)
            clear hW1
            have HA := Lib.hid (HA.out.below HBW1.out)
            refine hK.out _ _ ⟨⟨HA.out.s1, HA.out.s3, (HA.out.c1 he2).trans (by rw [HVI.out])⟩, fun _ => HA.out.rowcell (by omega) HVI.out HNI.out, fun _ => trivial⟩ ?_
            clear hK K
            try simp only [Act.put, List.setIfInBounds_toArray, List.set_cons_zero, List.set_cons_succ]
            refine LAt.ready (rs := [15]) (by kernel_rfl) (by simp) ?_
            refine AllL.cons (o := ⟨some 89, _, _, _, _, _⟩) rfl (fun K hK => ?_) AllL.nil
            have hrw := HA.out.grid.strs e (by omega) m (by have := HNI.out; omega)
            have hbz : w1.heap.size ≤ W1.heap.size := by have := HA.out.boxS.lt; omega
            refine step_append_lies _ (by rfl) _ _ _ (by rfl) w1.heap.size 9 i9 _ 1 16 Try.underlying45 hi9 hz90 hz91 hz92 rfl (by omega) (R e m) (X e m).length ((X e m).map Value.string) (by rfl) hrw ⟨W0.heap.size, 0, none⟩ 1 1 [.string data] (by rfl) (by rfl) (World.news_of_block (cs := #[.string data]) (t := 9) (fr := (0, 0)) HN8.out) (by simp [Value.oneCell']) (by omega) (by unfold maxLen; omega) (by omega) hbz W1.heap.size rfl ?_
            intro g1 cap1 w7 hown1 hg1 hat1 hlt1'
            have HX7 := Lib.hid (HA.out.box7.grown hg1 (own_box hrw HA.out.box7 note_ne_str))
            have HV7 := Lib.hid (HA.out.boxS.grown hg1 (own_box hrw HA.out.boxS arr_ne_str))
            have hrr := (HA.out.grid.rows e (by omega)).kept hg1 (own_types (HA.out.grid.rows e (by omega)) hrw ss_ne_str)
            rw [HVI.out, HNI.out] at hrr
            have HRR := Lib.hid hrr
            clear hrr
            have HFIN := Lib.hid (HM.out.txt (gr := gr) (c := cr) false he2 HN0.out (by simpa [qn] using HNI.out) (by rw [← HQ2.out]; exact rec_sent h e he2 how data) (by simpa [qn] using HVI.out) (belSeq HB0.out HBW1.out) (by simpa [qn] using hown1) (by simpa [qn] using hg1) (by simpa [qn] using hat1))
            clear hg1 hown1 hat1 hrw
            refine hK.out _ _ ⟨⟨HX7.out.cells4.1, HX7.out.cells4.2.2.2, (HV7.out.cell e).trans ((box_at V he2).trans (by rw [HVI.out]))⟩, fun _ => rowcell_of HRR.out (by omega), fun _ => trivial⟩ ?_
            clear hK K
            try simp only [Act.put, List.setIfInBounds_toArray, List.set_cons_zero, List.set_cons_succ]
            refine LAt.take (i := 16) (oi := ⟨some 90, _, _, _, _, _⟩) (v := ?_) rfl (by kernel_rfl) (by kernel_rfl) (by kernel_rfl) (fun _ _ _ h => h) (by decide) (by decide) (Or.inl ⟨by kernel_rfl, ?_⟩) ⟨⟨HX7.out.cells4.1, HX7.out.cells4.2.2.2, (HV7.out.cell e).trans ((box_at V he2).trans (by rw [HVI.out]))⟩, fun _ => rowcell_of HRR.out (by omega), fun _ => trivial⟩ ?_
            rotate_left 1
            · intro w hSw; (try dsimp only at hSw); (try (obtain ⟨hs1, hs2⟩ := hSw)); (try (obtain ⟨hs3, hs4, hs5⟩ := hs1)); (try (obtain ⟨hs6, hs7⟩ := hs2)); go_simp; try (with_reducible rfl)
            try simp only [Act.put, List.setIfInBounds_toArray, List.set_cons_zero, List.set_cons_succ]
            refine LAt.ready (rs := [17]) (by kernel_rfl) (by simp) ?_
            refine AllL.cons (o := ⟨none, _, _, _, _, _⟩) rfl (fun K hK => ?_) AllL.nil
            have qs := rowcell_of (j := m) HRR.out (by omega)
            have qf : w7.frozen? ⟨gr, m, none⟩ = false := HRR.out.frozenAt m
            go_simp
            clear qs qf
            have HX9 := Lib.hid (HX7.out.other (a := ⟨gr, m, none⟩) hx7r (.slice (some ⟨g1, 0, none⟩) ((X e m).length + 1) cap1))
            have HV9 := Lib.hid (HV7.out.other (a := ⟨gr, m, none⟩) hvr (.slice (some ⟨g1, 0, none⟩) ((X e m).length + 1) cap1))
            refine hK.out _ _ ⟨⟨HX9.out.cells4.1, HX9.out.cells4.2.2.2, (HV9.out.cell e).trans ((box_at V he2).trans (by rw [HVI.out]))⟩, fun h => absurd h (by decide), fun _ => trivial⟩ ?_
            clear hK K
            try simp only [Act.put, List.setIfInBounds_toArray, List.set_cons_zero, List.set_cons_succ]
            refine LAt.done (by kernel_rfl) ?_
            refine NoPanic.normal ?_
            simp only [qn, Bool.false_eq_true, if_false, if_true, Nat.mul_zero, Nat.zero_add, Nat.mul_one] at HFIN
            generalize (w7.setCell ⟨gr, m, none⟩ (.slice (some ⟨g1, 0, none⟩) ((X e m).length + 1) cap1)) = wz at *
            obtain ⟨z0, z1, z2, z3⟩ := HX9.out.cells4
            go_wp2_with fail
            exact ⟨HFIN.out, by simp [intOf]; omega⟩
          have h1b : (what == 1) = false := beq_eq_false_iff_ne.2 h1
          by_cases h2 : what = 2
          · subst h2
            have HNI := Lib.hid hmg
            clear hmg
            obtain ⟨gr2, cr2, hv2, _⟩ := (HM.out.grid.rows (2 + e) (by omega)).form (by have := HNI.out; omega)
            rw [HNI.out] at hv2
            have HVI := Lib.hid hv2
            have cG : w6.cell? ⟨w1.heap.size + 1 + 1, e, none⟩ = some (V (2 + e)) := (HM.out.boxG.cell e).trans (box_at2 V he2)
            rw [hv2] at cG
            clear hv2
            have hx7r : wr.heap.size ≠ gr2 := fun x => by
              have := own_block (HM.out.grid.rows (2 + e) (by omega)) HX6.out note_ne_ss
              rw [HVI.out] at this
              exact this (by rw [x]; rfl)
            have hvr : w1.heap.size + 1 + 1 ≠ gr2 := fun x => by
              have := own_block (HM.out.grid.rows (2 + e) (by omega)) HM.out.boxG arr_ne_ss
              rw [HVI.out] at this
              exact this (by rw [x]; rfl)
            go_wp2_with fail
            refine wp_region_noPanic ?_
            refine wp_region_L (S := SL (fun w' => w'.cell? ⟨wr.heap.size, 0, none⟩ = some (.int .i64 (e : Int)) ∧ w'.cell? ⟨wr.heap.size, 3, none⟩ = some (.string data) ∧ w'.cell? ⟨w1.heap.size + 1 + 1, e, none⟩ = some (.slice (some ⟨gr2, 0, none⟩) (m + 1) cr2)) 17 (fun w' => w'.cell? ⟨gr2, m, none⟩ = some (R (2 + e) m)) 17 (fun _ => True)) (by kernel_rfl) ?_
            obtain ⟨W0, hW0⟩ : ∃ W0, w6.drew = W0 := ⟨_, rfl⟩
            rw [hW0]
            have HB0 : Hid (Below w6.heap.size w6 W0) := Lib.hid (hW0 ▸ (Below.refl w6.heap.size w6).drew)
            clear hW0
            have HA := Lib.hid (BooksAt.below ⟨HX6.out, HM.out.boxS, HM.out.boxG, HM.out.grid⟩ HB0.out)
            refine LAt.take (i := 0) (oi := ⟨some 98, _, _, _, _, _⟩) (v := ?_) rfl (by kernel_rfl) (by kernel_rfl) (by kernel_rfl) (fun _ _ _ h => h) (by decide) (by decide) (Or.inl ⟨by kernel_rfl, ?_⟩) ⟨⟨HA.out.s1, HA.out.s3, (HA.out.c2 he2).trans (by rw [HVI.out])⟩, fun _ => HA.out.rowcell (by omega) HVI.out HNI.out, fun _ => trivial⟩ ?_
            rotate_left 1
            · intro w hSw; (try dsimp only at hSw); (try (obtain ⟨hs1, hs2⟩ := hSw)); (try (obtain ⟨hs3, hs4, hs5⟩ := hs1)); (try (obtain ⟨hs6, hs7⟩ := hs2)); go_simp; try (with_reducible rfl)
            try simp only [Act.put, List.setIfInBounds_toArray, List.set_cons_zero, List.set_cons_succ]
            refine LAt.take (i := 1) (oi := ⟨some 99, _, _, _, _, _⟩) (v := ?_) rfl (by kernel_rfl) (by kernel_rfl) (by kernel_rfl) (fun _ _ _ h => h) (by decide) (by decide) (Or.inl ⟨by kernel_rfl, ?_⟩) ⟨⟨HA.out.s1, HA.out.s3, (HA.out.c2 he2).trans (by rw [HVI.out])⟩, fun _ => HA.out.rowcell (by omega) HVI.out HNI.out, fun _ => trivial⟩ ?_
            rotate_left 1
            · intro w hSw; (try dsimp only at hSw); (try (obtain ⟨hs1, hs2⟩ := hSw)); (try (obtain ⟨hs3, hs4, hs5⟩ := hs1)); (try (obtain ⟨hs6, hs7⟩ := hs2)); go_simp; try (with_reducible rfl)
            try simp only [Act.put, List.setIfInBounds_toArray, List.set_cons_zero, List.set_cons_succ]
            refine LAt.take (i := 2) (oi := ⟨some 100, _, _, _, _, _⟩) (v := ?_) rfl (by kernel_rfl) (by kernel_rfl) (by kernel_rfl) (fun _ _ _ h => h) (by decide) (by decide) (Or.inl ⟨by kernel_rfl, ?_⟩) ⟨⟨HA.out.s1, HA.out.s3, (HA.out.c2 he2).trans (by rw [HVI.out])⟩, fun _ => HA.out.rowcell (by omega) HVI.out HNI.out, fun _ => trivial⟩ ?_
            rotate_left 1
            · intro w hSw; (try dsimp only at hSw); (try (obtain ⟨hs1, hs2⟩ := hSw)); (try (obtain ⟨hs3, hs4, hs5⟩ := hs1)); (try (obtain ⟨hs6, hs7⟩ := hs2)); go_simp; try (with_reducible rfl)
            try simp only [Act.put, List.setIfInBounds_toArray, List.set_cons_zero, List.set_cons_succ]
            refine LAt.take (i := 3) (oi := ⟨some 101, _, _, _, _, _⟩) (v := ?_) rfl (by kernel_rfl) (by kernel_rfl) (by kernel_rfl) (fun _ _ _ h => h) (by decide) (by decide) (Or.inl ⟨by kernel_rfl, ?_⟩) ⟨⟨HA.out.s1, HA.out.s3, (HA.out.c2 he2).trans (by rw [HVI.out])⟩, fun _ => HA.out.rowcell (by omega) HVI.out HNI.out, fun _ => trivial⟩ ?_
            rotate_left 1
            · intro w hSw; (try dsimp only at hSw); (try (obtain ⟨hs1, hs2⟩ := hSw)); (try (obtain ⟨hs3, hs4, hs5⟩ := hs1)); (try (obtain ⟨hs6, hs7⟩ := hs2)); go_simp; try (with_reducible rfl)
            try simp only [Act.put, List.setIfInBounds_toArray, List.set_cons_zero, List.set_cons_succ]
            refine LAt.take (i := 4) (oi := ⟨some 102, _, _, _, _, _⟩) (v := ?_) rfl (by kernel_rfl) (by kernel_rfl) (by kernel_rfl) (fun _ _ _ h => h) (by decide) (by decide) (Or.inl ⟨by kernel_rfl, ?_⟩) ⟨⟨HA.out.s1, HA.out.s3, (HA.out.c2 he2).trans (by rw [HVI.out])⟩, fun _ => HA.out.rowcell (by omega) HVI.out HNI.out, fun _ => trivial⟩ ?_
            rotate_left 1
            · intro w hSw; (try dsimp only at hSw); (try (obtain ⟨hs1, hs2⟩ := hSw)); (try (obtain ⟨hs3, hs4, hs5⟩ := hs1)); (try (obtain ⟨hs6, hs7⟩ := hs2)); go_simp; try (with_reducible rfl)
            try simp only [Act.put, List.setIfInBounds_toArray, List.set_cons_zero, List.set_cons_succ]
            refine LAt.take (i := 5) (oi := ⟨some 103, _, _, _, _, _⟩) (v := ?_) rfl (by kernel_rfl) (by kernel_rfl) (by kernel_rfl) (fun _ _ _ h => h) (by decide) (by decide) (Or.inl ⟨by kernel_rfl, ?_⟩) ⟨⟨HA.out.s1, HA.out.s3, (HA.out.c2 he2).trans (by rw [HVI.out])⟩, fun _ => HA.out.rowcell (by omega) HVI.out HNI.out, fun _ => trivial⟩ ?_
            rotate_left 1
            · intro w hSw; (try dsimp only at hSw); (try (obtain ⟨hs1, hs2⟩ := hSw)); (try (obtain ⟨hs3, hs4, hs5⟩ := hs1)); (try (obtain ⟨hs6, hs7⟩ := hs2)); go_simp; try (with_reducible rfl)
            try simp only [Act.put, List.setIfInBounds_toArray, List.set_cons_zero, List.set_cons_succ]
            refine LAt.take (i := 6) (oi := ⟨some 104, _, _, _, _, _⟩) (v := ?_) rfl (by kernel_rfl) (by kernel_rfl) (by kernel_rfl) (fun _ _ _ h => h) (by decide) (by decide) (Or.inl ⟨by kernel_rfl, ?_⟩) ⟨⟨HA.out.s1, HA.out.s3, (HA.out.c2 he2).trans (by rw [HVI.out])⟩, fun _ => HA.out.rowcell (by omega) HVI.out HNI.out, fun _ => trivial⟩ ?_
            rotate_left 1
            · intro w hSw; (try dsimp only at hSw); (try (obtain ⟨hs1, hs2⟩ := hSw)); (try (obtain ⟨hs3, hs4, hs5⟩ := hs1)); (try (obtain ⟨hs6, hs7⟩ := hs2)); go_simp; try (with_reducible rfl)
            try simp only [Act.put, List.setIfInBounds_toArray, List.set_cons_zero, List.set_cons_succ]
            refine LAt.take (i := 7) (oi := ⟨some 105, _, _, _, _, _⟩) (v := ?_) rfl (by kernel_rfl) (by kernel_rfl) (by kernel_rfl) (fun _ _ _ h => h) (by decide) (by decide) (Or.inl ⟨by kernel_rfl, ?_⟩) ⟨⟨HA.out.s1, HA.out.s3, (HA.out.c2 he2).trans (by rw [HVI.out])⟩, fun _ => HA.out.rowcell (by omega) HVI.out HNI.out, fun _ => trivial⟩ ?_
            rotate_left 1
            · intro w hSw; (try dsimp only at hSw); (try (obtain ⟨hs1, hs2⟩ := hSw)); (try (obtain ⟨hs3, hs4, hs5⟩ := hs1)); (try (obtain ⟨hs6, hs7⟩ := hs2)); go_simp; try (with_reducible rfl)
            try simp only [Act.put, List.setIfInBounds_toArray, List.set_cons_zero, List.set_cons_succ]
            refine LAt.take (i := 8) (oi := ⟨some 106, _, _, _, _, _⟩) (v := ?_) rfl (by kernel_rfl) (by kernel_rfl) (by kernel_rfl) (fun _ _ _ h => h) (by decide) (by decide) (Or.inl ⟨by kernel_rfl, ?_⟩) ⟨⟨HA.out.s1, HA.out.s3, (HA.out.c2 he2).trans (by rw [HVI.out])⟩, fun _ => HA.out.rowcell (by omega) HVI.out HNI.out, fun _ => trivial⟩ ?_
            rotate_left 1
            · intro w hSw; (try dsimp only at hSw); (try (obtain ⟨hs1, hs2⟩ := hSw)); (try (obtain ⟨hs3, hs4, hs5⟩ := hs1)); (try (obtain ⟨hs6, hs7⟩ := hs2)); go_simp; try (with_reducible rfl)
            try simp only [Act.put, List.setIfInBounds_toArray, List.set_cons_zero, List.set_cons_succ]
            refine LAt.take (i := 9) (oi := ⟨some 107, _, _, _, _, _⟩) (v := ?_) rfl (by kernel_rfl) (by kernel_rfl) (by kernel_rfl) (fun _ _ _ h => h) (by decide) (by decide) (Or.inl ⟨by kernel_rfl, ?_⟩) ⟨⟨HA.out.s1, HA.out.s3, (HA.out.c2 he2).trans (by rw [HVI.out])⟩, fun _ => HA.out.rowcell (by omega) HVI.out HNI.out, fun _ => trivial⟩ ?_
            rotate_left 1
            · intro w hSw; (try dsimp only at hSw); (try (obtain ⟨hs1, hs2⟩ := hSw)); (try (obtain ⟨hs3, hs4, hs5⟩ := hs1)); (try (obtain ⟨hs6, hs7⟩ := hs2)); go_simp; try (with_reducible rfl)
            try simp only [Act.put, List.setIfInBounds_toArray, List.set_cons_zero, List.set_cons_succ]
            refine LAt.take (i := 10) (oi := ⟨some 108, _, _, _, _, _⟩) (v := ?_) rfl (by kernel_rfl) (by kernel_rfl) (by kernel_rfl) (fun _ _ _ h => h) (by decide) (by decide) (Or.inl ⟨by kernel_rfl, ?_⟩) ⟨⟨HA.out.s1, HA.out.s3, (HA.out.c2 he2).trans (by rw [HVI.out])⟩, fun _ => HA.out.rowcell (by omega) HVI.out HNI.out, fun _ => trivial⟩ ?_
            rotate_left 1
            · intro w hSw; (try dsimp only at hSw); (try (obtain ⟨hs1, hs2⟩ := hSw)); (try (obtain ⟨hs3, hs4, hs5⟩ := hs1)); (try (obtain ⟨hs6, hs7⟩ := hs2)); go_simp; try (with_reducible rfl)
            try simp only [Act.put, List.setIfInBounds_toArray, List.set_cons_zero, List.set_cons_succ]
            refine LAt.take1 (i := 11) (oi := ⟨some 109, _, _, _, _, _⟩) (v := ?_) rfl (by kernel_rfl) (by kernel_rfl) (by kernel_rfl) (fun _ _ _ h => h) (by decide) (by decide) (by kernel_rfl) (Or.inl ⟨by kernel_rfl, ?_⟩) ⟨⟨HA.out.s1, HA.out.s3, (HA.out.c2 he2).trans (by rw [HVI.out])⟩, fun _ => HA.out.rowcell (by omega) HVI.out HNI.out, fun _ => trivial⟩ ?_
            rotate_left 1
            · intro w hSw; (try dsimp only at hSw); (try (obtain ⟨hs1, hs2⟩ := hSw)); (try (obtain ⟨hs3, hs4, hs5⟩ := hs1)); (try (obtain ⟨hs6, hs7⟩ := hs2)); go_simp; try (with_reducible rfl)
            try simp only [Act.put, List.setIfInBounds_toArray, List.set_cons_zero, List.set_cons_succ]
            refine LAt.take (i := 12) (oi := ⟨some 110, _, _, _, _, _⟩) (v := ?_) rfl (by kernel_rfl) (by kernel_rfl) (by kernel_rfl) (fun _ _ _ h => h) (by decide) (by decide) (Or.inl ⟨by kernel_rfl, ?_⟩) ⟨⟨HA.out.s1, HA.out.s3, (HA.out.c2 he2).trans (by rw [HVI.out])⟩, fun _ => HA.out.rowcell (by omega) HVI.out HNI.out, fun _ => trivial⟩ ?_
            rotate_left 1
            · intro w hSw; (try dsimp only at hSw); (try (obtain ⟨hs1, hs2⟩ := hSw)); (try (obtain ⟨hs3, hs4, hs5⟩ := hs1)); (try (obtain ⟨hs6, hs7⟩ := hs2)); go_simp; try (with_reducible rfl)
            try simp only [Act.put, List.setIfInBounds_toArray, List.set_cons_zero, List.set_cons_succ]
            refine LAt.take (i := 13) (oi := ⟨some 111, _, _, _, _, _⟩) (v := ?_) rfl (by kernel_rfl) (by kernel_rfl) (by kernel_rfl) (fun _ _ _ h => h) (by decide) (by decide) (Or.inl ⟨by kernel_rfl, ?_⟩) ⟨⟨HA.out.s1, HA.out.s3, (HA.out.c2 he2).trans (by rw [HVI.out])⟩, fun _ => HA.out.rowcell (by omega) HVI.out HNI.out, fun _ => trivial⟩ ?_
            rotate_left 1
            · intro w hSw; (try dsimp only at hSw); (try (obtain ⟨hs1, hs2⟩ := hSw)); (try (obtain ⟨hs3, hs4, hs5⟩ := hs1)); (try (obtain ⟨hs6, hs7⟩ := hs2)); go_simp; try (with_reducible rfl)
            try simp only [Act.put, List.setIfInBounds_toArray, List.set_cons_zero, List.set_cons_succ]
            refine LAt.ready (rs := [14]) (by kernel_rfl) (by simp) ?_
            refine AllL.cons (o := ⟨some 112, _, _, _, _, _⟩) rfl (fun K hK => ?_) AllL.nil
            go_simp
            obtain ⟨W1, hW1⟩ : ∃ x, W0.alloc (.cells #[.string data] 9) = x := ⟨_, rfl⟩
            rw [hW1]
            have HBW1 : Hid (Below W0.heap.size W0 W1) := Lib.hid (hW1 ▸ (Below.refl _ _).alloc (Nat.le_refl _) _)
            have HN8 : Hid (BoxAt W1 W0.heap.size 9 [.string data]) := Lib.hid (hW1 ▸ BoxAt.new W0 _ _)
            clear hW1
            have HA := Lib.hid (HA.out.below HBW1.out)
            refine hK.out _ _ ⟨⟨HA.out.s1, HA.out.s3, (HA.out.c2 he2).trans (by rw [HVI.out])⟩, fun _ => HA.out.rowcell (by omega) HVI.out HNI.out, fun _ => trivial⟩ ?_
            clear hK K
            try simp only [Act.put, List.setIfInBounds_toArray, List.set_cons_zero, List.set_cons_succ]
            refine LAt.ready (rs := [15]) (by kernel_rfl) (by simp) ?_
            refine AllL.cons (o := ⟨some 113, _, _, _, _, _⟩) rfl (fun K hK => ?_) AllL.nil
            have hrw := HA.out.grid.strs (2 + e) (by omega) m (by have := HNI.out; omega)
            have hbz : w1.heap.size ≤ W1.heap.size := by have := HA.out.boxS.lt; omega
            refine step_append_lies _ (by rfl) _ _ _ (by rfl) w1.heap.size 9 i9 _ 1 16 Try.underlying45 hi9 hz90 hz91 hz92 rfl (by omega) (R (2 + e) m) (X (2 + e) m).length ((X (2 + e) m).map Value.string) (by rfl) hrw ⟨W0.heap.size, 0, none⟩ 1 1 [.string data] (by rfl) (by rfl) (World.news_of_block (cs := #[.string data]) (t := 9) (fr := (0, 0)) HN8.out) (by simp [Value.oneCell']) (by omega) (by unfold maxLen; omega) (by omega) hbz W1.heap.size rfl ?_
            intro g1 cap1 w7 hown1 hg1 hat1 hlt1'
            have HX7 := Lib.hid (HA.out.box7.grown hg1 (own_box hrw HA.out.box7 note_ne_str))
            have HV7 := Lib.hid (HA.out.boxG.grown hg1 (own_box hrw HA.out.boxG arr_ne_str))
            have hrr := (HA.out.grid.rows (2 + e) (by omega)).kept hg1 (own_types (HA.out.grid.rows (2 + e) (by omega)) hrw ss_ne_str)
            rw [HVI.out, HNI.out] at hrr
            have HRR := Lib.hid hrr
            clear hrr
            have HFIN := Lib.hid (HM.out.txt (gr := gr2) (c := cr2) true he2 HN0.out (by simpa [qn] using HNI.out) (by rw [← HQ2.out]; exact rec_got h e he2 how data) (by simpa [qn] using HVI.out) (belSeq HB0.out HBW1.out) (by simpa [qn] using hown1) (by simpa [qn] using hg1) (by simpa [qn] using hat1))
            clear hg1 hown1 hat1 hrw
            refine hK.out _ _ ⟨⟨HX7.out.cells4.1, HX7.out.cells4.2.2.2, (HV7.out.cell e).trans ((box_at2 V he2).trans (by rw [HVI.out]))⟩, fun _ => rowcell_of HRR.out (by omega), fun _ => trivial⟩ ?_
            clear hK K
            try simp only [Act.put, List.setIfInBounds_toArray, List.set_cons_zero, List.set_cons_succ]
            refine LAt.take (i := 16) (oi := ⟨some 114, _, _, _, _, _⟩) (v := ?_) rfl (by kernel_rfl) (by kernel_rfl) (by kernel_rfl) (fun _ _ _ h => h) (by decide) (by decide) (Or.inl ⟨by kernel_rfl, ?_⟩) ⟨⟨HX7.out.cells4.1, HX7.out.cells4.2.2.2, (HV7.out.cell e).trans ((box_at2 V he2).trans (by rw [HVI.out]))⟩, fun _ => rowcell_of HRR.out (by omega), fun _ => trivial⟩ ?_
            rotate_left 1
            · intro w hSw; (try dsimp only at hSw); (try (obtain ⟨hs1, hs2⟩ := hSw)); (try (obtain ⟨hs3, hs4, hs5⟩ := hs1)); (try (obtain ⟨hs6, hs7⟩ := hs2)); go_simp; try (with_reducible rfl)
            try simp only [Act.put, List.setIfInBounds_toArray, List.set_cons_zero, List.set_cons_succ]
            refine LAt.ready (rs := [17]) (by kernel_rfl) (by simp) ?_
            refine AllL.cons (o := ⟨none, _, _, _, _, _⟩) rfl (fun K hK => ?_) AllL.nil
            have qs := rowcell_of (j := m) HRR.out (by omega)
            have qf : w7.frozen? ⟨gr2, m, none⟩ = false := HRR.out.frozenAt m
            go_simp
            clear qs qf
            have HX9 := Lib.hid (HX7.out.other (a := ⟨gr2, m, none⟩) hx7r (.slice (some ⟨g1, 0, none⟩) ((X (2 + e) m).length + 1) cap1))
            have HV9 := Lib.hid (HV7.out.other (a := ⟨gr2, m, none⟩) hvr (.slice (some ⟨g1, 0, none⟩) ((X (2 + e) m).length + 1) cap1))
            refine hK.out _ _ ⟨⟨HX9.out.cells4.1, HX9.out.cells4.2.2.2, (HV9.out.cell e).trans ((box_at2 V he2).trans (by rw [HVI.out]))⟩, fun h => absurd h (by decide), fun _ => trivial⟩ ?_
            clear hK K
            try simp only [Act.put, List.setIfInBounds_toArray, List.set_cons_zero, List.set_cons_succ]
            refine LAt.done (by kernel_rfl) ?_
            refine NoPanic.normal ?_
            simp only [qn, Bool.false_eq_true, if_false, if_true, Nat.mul_zero, Nat.zero_add, Nat.mul_one] at HFIN
            generalize (w7.setCell ⟨gr2, m, none⟩ (.slice (some ⟨g1, 0, none⟩) ((X (2 + e) m).length + 1) cap1)) = wz at *
            obtain ⟨z0, z1, z2, z3⟩ := HX9.out.cells4
            go_wp2_with fail
            exact ⟨HFIN.out, by simp [intOf]; omega⟩
          have h2b : (what == 2) = false := beq_eq_false_iff_ne.2 h2
          have HCL : Hid (∀ wz, Below w6.heap.size w6 wz → BkRel w w1.heap.size (w1.heap.size + 1) (w1.heap.size + 1 + 1) ns (.int .i64 ((k : Int) + 1)) wz) := Lib.hid (fun wz hb => HM.out.same hb (by rw [← HQ2.out]; exact rec_else _ _ he2 _ _ _ h0 h1 h2))
          have HMG := Lib.hid hmg
          clear hmg
          go_wp2_with fail
          exact ⟨HCL.out _ (Below.refl _ _), by simp [intOf]; omega⟩
    · have hkt : ((k : Int) < (ns.length : Int) ∧ decide ((k : Int) < 100) = false) ∨ decide (k < ns.length) = false := by
        by_cases h : k < ns.length
        · left; exact ⟨by omega, by simp; omega⟩
        · right; simpa using h
      have HSMH := Lib.hid (small_foldN (ns.take k) 100000 (by simp; omega))
      generalize foldN (ns.take k) = h at *
      clear hlt HF
      rcases hkt with ⟨hkt1, hkt2⟩ | hkt1
      all_goals
        go_wp2_with fail
        go_loopw [115] (fun i wr2 => ∃ e : Nat, e ≤ 2 ∧ i = .int .i64 e ∧ Hid (Below wr.heap.size wr wr2)) (fun i _ => 2 - (intOf i).toNat)
        case atStart => exact ⟨0, by omega, rfl, Lib.hid (Below.refl _ _)⟩
        case round =>
          obtain ⟨e, he, rfl, HB2⟩ := hrel
          by_cases he2 : e < 2
          · have he0 : (0 : Int) ≤ (e : Int) := Int.natCast_nonneg _
            have he1 : (e : Int) < 2 := by omega
            go_wp2_with fail
            refine (epochs_book (e : Int) _ _ h F _ (HBK.out.keep HB2.out) HSMH.out he0 he1).mono ?_
            rintro e' w6 ⟨v6, rfl, hv6, hb6⟩
            rw [Int.toNat_natCast] at hv6
            obtain ⟨a6, c6, rfl⟩ := hv6.slice
            have HB6 := Lib.hid (belSeq HB2.out hb6)
            have hne1 := (HCT.out e he2).1
            have hne2 := (HCT.out e he2).2.1
            have hl0 := (HSMH.out e he2).1
            have HE6 : Hid (EpsR w6 (.slice a6 (h e).length c6) (h e)) := Lib.hid (hv6.eps (N := 0) hl0 (fun p hp => (HSMH.out e he2).2 p hp))
            have HG6 := Lib.hid (HGR.out.below HB6.out)
            have hs0 := (HBS.out.below HB6.out HBS.out.lt).cell e
            have hg0 := (HBG.out.below HB6.out HBG.out.lt).cell e
            rw [box_at V he2] at hs0
            rw [box_at2 V he2] at hg0
            obtain ⟨aS, cS, hvS⟩ := own_slice (HG6.out.rows e (by omega))
            obtain ⟨aG, cG, hvG⟩ := own_slice (HG6.out.rows (2 + e) (by omega))
            rw [hvS, hne1] at hs0
            rw [hvG, hne2] at hg0
            have hne : ((h e).length != (h e).length) = false := by simp
            have hne3 : (((h e).length : Int) != ((h e).length : Int)) = false := by simp
            have HVS := Lib.hid hvS
            have HVG := Lib.hid hvG
            have HN1 := Lib.hid hne1
            have HN2 := Lib.hid hne2
            have HL := Lib.hid (HCT.out e he2).2.2
            have HLS := Lib.hid (HSMH.out e he2).2
            clear hv6 hb6 hvS hvG hne1 hne2
            generalize hll : h e = l at *
            clear hll
            go_wp2_with fail
            go_loopw [129] (fun i wr3 => ∃ j : Nat, j ≤ l.length ∧ i = .int .i64 j ∧ Hid (Below w6.heap.size w6 wr3)) (fun i _ => l.length - (intOf i).toNat)
            case atStart => exact ⟨0, Nat.zero_le _, rfl, Lib.hid (Below.refl _ _)⟩
            case round =>
              obtain ⟨j, hj, rfl, HB7⟩ := hrel
              by_cases hjl : j < l.length
              · obtain ⟨aA, cA, hvA, hcA, -, haA, hrA⟩ := HE6.out.below HB7.out
                cases hvA
                obtain ⟨bA, oA, rfl⟩ := haA (by omega)
                obtain ⟨sA, gA, pA0, pA1, pA2, pA3⟩ := hrA bA oA rfl j hjl
                have HG7 := Lib.hid (HG6.out.below HB7.out)
                have hsz := (HBS.out.below HB6.out HBS.out.lt).below HB7.out ((HBS.out.below HB6.out HBS.out.lt).lt)
                have hgz := (HBG.out.below HB6.out HBG.out.lt).below HB7.out ((HBG.out.below HB6.out HBG.out.lt).lt)
                have t0 := hsz.cell e
                have t1 := hgz.cell e
                rw [box_at V he2, HVS.out, HN1.out] at t0
                rw [box_at2 V he2, HVG.out, HN2.out] at t1
                have rS := HG7.out.rows e (by omega)
                have rG := HG7.out.rows (2 + e) (by omega)
                rw [HVS.out, HN1.out] at rS
                rw [HVG.out, HN2.out] at rG
                obtain ⟨gS, capS, hfS, _⟩ := rS.form (by omega)
                obtain ⟨gG, capG, hfG, _⟩ := rG.form (by omega)
                cases hfS
                cases hfG
                have t2 := rowcell_of rS hjl
                have t3 := rowcell_of rG hjl
                have hcont := HL.out j hjl
                have hlj : l[j] = (X e j, X (2 + e) j) := by
                  rw [List.getElem?_eq_getElem hjl] at hcont; exact Option.some.inj hcont
                have hsm := HLS.out _ (List.getElem_mem hjl)
                rw [hlj] at pA2 pA3 hsm
                have hS2 := strs_of_own (HG7.out.strs e (by omega) j (by rw [HN1.out]; exact hjl)) (by have := hsm.1; simp only at this; omega)
                have hG2 := strs_of_own (HG7.out.strs (2 + e) (by omega) j (by rw [HN2.out]; exact hjl)) (by have := hsm.2; simp only at this; omega)
                have HS0 : Hid (∀ m, Calls Try.prog 11 #[sA, R e j] (wr.drewN m) fun e w' => e = .returned (.bool true) ∧ ∃ k, w' = (wr.drewN m).drewN k) := Lib.hid (fun m => by
                  have := same_any _ _ (X e j) (X e j) (wr.drewN m) (pA2.below (below_drewN (Below.refl _ _) m)) (hS2.below (below_drewN (Below.refl _ _) m))
                  simpa using this)
                have HS1 : Hid (∀ m, Calls Try.prog 11 #[gA, R (2 + e) j] (wr.drewN m) fun e w' => e = .returned (.bool true) ∧ ∃ k, w' = (wr.drewN m).drewN k) := Lib.hid (fun m => by
                  have := same_any _ _ (X (2 + e) j) (X (2 + e) j) (wr.drewN m) (pA3.below (below_drewN (Below.refl _ _) m)) (hG2.below (below_drewN (Below.refl _ _) m))
                  simpa using this)
                have hj1 : (j : Int) < (l.length : Int) := by omega
                have hj0 : (0 : Int) ≤ (j : Int) := Int.natCast_nonneg _
                clear hrA pA2 pA3 haA hS2 hG2 hcont hlj hsm rS rG hsz hgz hs0 hg0 HL HLS
                generalize R e j = Rs at *
                generalize R (2 + e) j = Rg at *
                go_wp2_with fail
                go_quiet ((first | (go_at_call 11; with_reducible exact Calls.quiet_of (HS0.out _)) | (go_at_call 11; with_reducible exact Calls.quiet_of (HS1.out _))))
                go_wp2_with fail
                exact ⟨⟨j + 1, hjl, by simp, Lib.hid (below_drewN HB7.out _)⟩, by simp [intOf]; omega⟩
              · go_wp2_with fail
                exact ⟨⟨e + 1, by omega, by simp, Lib.hid (belSeq HB6.out HB7.out)⟩, by simp [intOf]; omega⟩
          · have hee : e = 2 := by omega
            subst hee
            have HEP2 := Lib.hid (epochs_none 2 w1.heap.size wr (Or.inr (by omega)))
            have HEP3 := Lib.hid (epochs_none (-1) w1.heap.size wr (Or.inl (by omega)))
            have HFI := Lib.hid (belSeq HBL.out HB2.out)
            clear he2
            go_wp2_with fail
            refine HEP2.out.mono ?_
            rintro e' w8 ⟨rfl, rfl⟩
            go_wp2_with fail
            refine HEP3.out.mono ?_
            rintro e' w9 ⟨rfl, rfl⟩
            go_wp2_with fail
            go_ret
            exact ⟨rfl, HFI.out⟩
end Go.Proofs.Ytanmdmidjeobeaa
