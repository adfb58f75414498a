/-
  The walk of the statement TraceRecords.
-/
import Derived.Test.YtohenohgceaibaaGreatDoorTrRecAll
import Derived.Test.YtohenohgceaibaaGreatDoorTrRef
import Derived.Test.YtohenohgceaibaaGreatDoorRefText
import Derived.Test.YtohenohgceaibaaGreatDoorRefHex
import Derived.Test.YtohenohgceaibaaGreatDoorDigits
import Derived.Test.YtohenohgceaibaaGreatDoorPduFewLaw
import Derived.Test.YtohenohgceaibaaGreatDoorOrdersMid
import Derived.Test.YtohenohgceaibaaGreatDoorBits
import Derived.Deep.CutBlock
import Derived.Deep.DeepCutAuto
import Derived.Deep.DrawnRows
set_option linter.unusedVariables false
set_option linter.unusedSimpArgs false
namespace Go.Proofs.YtohenohgceaibaaGreatDoor
open Go.RowKit
attribute [local go_sem ↓] Go.wp_at_zero Go.wp_at_succ

theorem BoxAt.setMid {T : TypeId} {b : Nat} (post : List Value) : ∀ (vs pre mid : List Value) (w : World), BoxAt w b T (pre ++ mid ++ post) → mid.length = vs.length → BoxAt (w.setCells b pre.length vs) b T (pre ++ vs ++ post)
  | [], pre, mid, w, h, hl => by
    have : mid = [] := List.eq_nil_of_length_eq_zero (by simpa using hl)
    subst this; exact h
  | v :: vs, pre, [], w, h, hl => by simp at hl
  | v :: vs, pre, p :: mid, w, h, hl => by
    have h1 := h.set pre.length v
    have e1 : (pre ++ p :: mid ++ post).set pre.length v = (pre ++ [v]) ++ mid ++ post := by simp
    rw [e1] at h1
    have h2 := BoxAt.setMid post vs (pre ++ [v]) mid _ h1 (by simpa using hl)
    rw [List.length_append, List.length_singleton] at h2
    have e2 : pre ++ v :: vs ++ post = (pre ++ [v]) ++ vs ++ post := by simp
    rw [e2]
    exact h2
theorem BoxAt.thereAt {T : TypeId} {b o n : Nat} {w : World} {cs : List Value} (h : BoxAt w b T cs) (hn : o + n ≤ cs.length) : w.there b o n := fun j hj => by
  rw [h.cell, h.froz]
  refine ⟨?_, rfl⟩
  have : o + j < cs.length := by omega
  simp [this]
theorem BoxAt.range {T : TypeId} {b : Nat} {w : World} {cs : List Value} (h : BoxAt w b T cs) : w.rangeAt b 0 cs := fun j v hv => by rw [Nat.zero_add, h.cell]; exact hv
theorem rec_ne_num : 45 ≠ 28 := by decide
theorem rec_ne_int : 45 ≠ 3 := by decide
theorem val_str {a b : ByteArray} (h : a.data.toList = b.data.toList) : Value.string a = .string b := by rw [str_eq h]
theorem ref_ne_int : 24 ≠ 3 := by decide
theorem ref_sz : (Tryz.prog.info? 24).map (·.size) = some 8 := by kernel_rfl
theorem pdu_sz : (Tryz.prog.info? 31).map (·.size) = some 8 := by kernel_rfl
theorem wpList_load_mid_g {P : Program} {ops : Array Oper} {rest : List Oper} {op : Oper} {a : Act} {w : World} {Q : Exit → Act → World → Prop} (hw : Region.wanted op (yielded ops a.tmps) = true) (ty : TypeId) (x : Operand) (ho : op.op = .load ty x)
    (b o : Nat) (hx : a.eval x = .pointer (some ⟨b, o, none⟩)) (cs : List Value) (d : TypeDesc) (hc : w.rangeAt b o cs)
    (hu : P.underlying ty = some d) (hd : d.isRow = true) (hi : (P.info? ty).map (·.size) = some cs.length)
    (h : wpList P ops Q rest (a.put op.dst (.agg cs.toArray)) w) : wpList P ops Q (op :: rest) a w := by
  unfold wpList
  rw [if_pos hw]
  exact Or.inl (wp_load_mid ty x ho b o hx cs d hc hu hd hi h)

set_option maxRecDepth 100000 in
set_option maxHeartbeats 8000000 in
theorem traceRecords_any (en kind : Int) (u0 u1 u2 u3 u4 u5 u6 u7 : Value) (sk : Int) (sd : ByteArray) (ss : Bool) (sc sn rk : Int) (rd : ByteArray) (rn : Int) (k sq n ps mr : Int) (lv : Value) (l : List Int) (self : Bool) (d : ByteArray) (w : World)
    (hl : IntsR .i64 w lv l) (hd : d.size ≤ maxLen) (he : Env w) (hrk : Rng64 rk) (hrn : Rng64 rn) (hsn : Rng64 sn) (hsc0 : 0 ≤ sc) (hsc1 : sc ≤ 255) (hsd : sd.size ≤ maxLen) (hrd : rd.size ≤ maxLen) :
    Calls Tryz.prog 4 #[.agg #[.int .i64 en, .int .i64 kind, u0, u1, u2, u3, u4, u5, u6, u7, .int .i64 sk, .string sd, .bool ss, .int .u8 sc, .int .i64 sn, .int .i64 rk, .string rd, .int .i64 rn], .agg #[.int .i64 k, .int .i64 sq, .int .i64 n, .int .i64 ps, .int .i64 mr, lv, .bool self, .string d]] w fun e w' => e = .returned (.bool true) ∧ Below w.heap.size w w' := by
  have HL := Lib.hid hl
  have HE := Lib.hid he
  clear hl he
  have HAW := Lib.hid awake19
  go_enter Tryz.func4, Tryz.ntmps4
  have HBR0 := Lib.hid ((BoxAt.new w 45 [.int .i64 en, .int .i64 kind, u0, u1, u2, u3, u4, u5, u6, u7, .int .i64 sk, .string sd, .bool ss, .int .u8 sc, .int .i64 sn, .int .i64 rk, .string rd, .int .i64 rn]).alloc (o := .cells #[.int .i64 k, .int .i64 sq, .int .i64 n, .int .i64 ps, .int .i64 mr, lv, .bool self, .string d] 24))
  have HBX0 := Lib.hid (BoxAt.newAt (w := w.alloc (.cells #[.int .i64 en, .int .i64 kind, u0, u1, u2, u3, u4, u5, u6, u7, .int .i64 sk, .string sd, .bool ss, .int .u8 sc, .int .i64 sn, .int .i64 rk, .string rd, .int .i64 rn] 45)) (b := w.heap.size + 1) (by simp) 24 [.int .i64 k, .int .i64 sq, .int .i64 n, .int .i64 ps, .int .i64 mr, lv, .bool self, .string d])
  go_wp2_with fail
  refine (HAW.out _ HE.out.alloc.alloc).mono ?_
  rintro e w1 ⟨rfl, hb⟩
  have HBR1 := Lib.hid (HBR0.out.below hb (by simp; omega))
  have HBX1 := Lib.hid (HBX0.out.below hb (by simp))
  have HB1 := Lib.hid (((Below.refl w.heap.size w).alloc (Nat.le_refl _) _).alloc (by simp) _ |>.trans (hb.mono (by simp; omega)))
  have HL1 := Lib.hid (HL.out.alloc.alloc.below hb (Nat.le_refl _))
  have hpr1 := HBR1.out.lt
  have hpx1 := HBX1.out.lt
  clear hb HAW HBX0 HBR0 HL
  obtain ⟨q0, q1, q2, q3, q4, q5, q6, q7⟩ := HBX1.out.cells8
  go_wp2_with fail
  refine (few_out k sq n ps mr lv l self d hd w1 HL1.out).mono ?_
  rintro e w2 ⟨a2, c2, rfl, hown2, hb2⟩
  have HBR2 := Lib.hid (HBR1.out.below hb2 hpr1)
  have HBX2 := Lib.hid (HBX1.out.below hb2 hpx1)
  have HB2 := Lib.hid (belSeq HB1.out hb2)
  have HO2 := Lib.hid hown2
  have hll2 : ((l.take 140).map cl).length ≤ 140 := by simp; omega
  have HLL := Lib.hid (cl_all l)
  have hds := cutB_size 210 d
  have hN := cl_in n
  have hPS := cl_in ps
  have hMR := cl_in mr
  have hs1 : w.heap.size ≤ w1.heap.size := HB1.out.size
  clear hb2 hown2 HBX1 HBR1 HB1 HL1 q0 q1 q2 q3 q4 q5 q6 q7 hd
  generalize (l.take 140).map cl = L at *
  generalize cutB 210 d = D at *
  generalize cl n = N at *
  generalize cl ps = PS at *
  generalize cl mr = MR at *
  have HBX3 := Lib.hid (HBX2.out.setWhole (vs := [.int .i64 k, .int .i64 sq, .int .i64 N, .int .i64 PS, .int .i64 MR, .slice a2 L.length c2, .bool self, .string D]) rfl)
  have HBR3 := Lib.hid (BoxAt.setApart (b' := w.heap.size + 1) (by simp) [.int .i64 k, .int .i64 sq, .int .i64 N, .int .i64 PS, .int .i64 MR, .slice a2 L.length c2, .bool self, .string D] 0 w2 HBR2.out)
  have HB3 := Lib.hid (bel_setCells w.heap.size (w.heap.size + 1) (by omega) [.int .i64 k, .int .i64 sq, .int .i64 N, .int .i64 PS, .int .i64 MR, .slice a2 L.length c2, .bool self, .string D] 0 w w2 HB2.out)
  have HOI3 := Lib.hid (own_setCells (own_apart HO2.out HBX2.out ref_ne_int) [.int .i64 k, .int .i64 sq, .int .i64 N, .int .i64 PS, .int .i64 MR, .slice a2 L.length c2, .bool self, .string D] 0 w2 HO2.out)
  have HL3 : Hid (IntsR .i64 (w2.setCells (w.heap.size + 1) 0 [.int .i64 k, .int .i64 sq, .int .i64 N, .int .i64 PS, .int .i64 MR, .slice a2 L.length c2, .bool self, .string D]) (.slice a2 L.length c2) L) := Lib.hid (IntsR.of_owns (own_setCells (own_apart HO2.out HBX2.out ref_ne_int) [.int .i64 k, .int .i64 sq, .int .i64 N, .int .i64 PS, .int .i64 MR, .slice a2 L.length c2, .bool self, .string D] 0 w2 HO2.out) (by omega))
  go_upto_region 4 with (refine wpList_store_mid rfl 24 (.tmp 3) (.tmp 10) (by rfl) (w.heap.size + 1) 0 #[.int .i64 k, .int .i64 sq, .int .i64 N, .int .i64 PS, .int .i64 MR, .slice a2 L.length c2, .bool self, .string D] (by rfl) (by rfl) (HBX2.out.there (by simp)) ref_sz (by simp [Value.oneCell']) ?_)
  generalize w2.setCells (w.heap.size + 1) 0 [.int .i64 k, .int .i64 sq, .int .i64 N, .int .i64 PS, .int .i64 MR, .slice a2 L.length c2, .bool self, .string D] = W3 at *
  clear HBX2 HBR2 HB2 HO2
  have hpx3 := HBX3.out.lt
  have hpr3 := HBR3.out.lt
  obtain ⟨q0, q1, q2, q3, q4, q5, q6, q7⟩ := HBX3.out.cells8
  go_wp2_with fail
  refine (own_few2 k sq N PS MR (.slice a2 L.length c2) L self D _ hN hPS hMR HL3.out (by omega) HLL.out).mono ?_
  rintro e w4 ⟨lv4, rfl, hown4, hb4⟩
  obtain ⟨a4, c4, rfl⟩ : ∃ a c, lv4 = .slice a L.length c := by
    rcases hown4.2 with ⟨rfl, h0⟩ | ⟨g, cap, cur, rfl, _⟩
    · exact ⟨none, 0, by rw [h0]⟩
    · exact ⟨_, _, rfl⟩
  have HBX4 := Lib.hid (HBX3.out.below hb4 hpx3)
  have HBR4 := Lib.hid (HBR3.out.below hb4 hpr3)
  have HB4 := Lib.hid (belSeq HB3.out hb4)
  have HL4 := Lib.hid (HL3.out.below hb4 (Nat.le_refl _))
  have HO4 := Lib.hid hown4
  have HOI4 := Lib.hid (own_bel HOI3.out hb4)
  have hs3 : w.heap.size + 1 < W3.heap.size := hpx3
  unfold pduV
  clear hb4 HBX3 HBR3 HB3 HL3 q0 q1 q2 q3 q4 q5 q6 q7 hown4
  have HBR5 : Hid (BoxAt (w4.setCells w.heap.size 2 [.int .i64 k, .int .i64 sq, .int .u32 N, .int .u32 PS, .int .u32 MR, .slice a4 L.length c4, .bool self, .string D]) w.heap.size 45 [.int .i64 en, .int .i64 kind, .int .i64 k, .int .i64 sq, .int .u32 N, .int .u32 PS, .int .u32 MR, .slice a4 L.length c4, .bool self, .string D, .int .i64 sk, .string sd, .bool ss, .int .u8 sc, .int .i64 sn, .int .i64 rk, .string rd, .int .i64 rn]) := Lib.hid (BoxAt.setMid [.int .i64 sk, .string sd, .bool ss, .int .u8 sc, .int .i64 sn, .int .i64 rk, .string rd, .int .i64 rn] [.int .i64 k, .int .i64 sq, .int .u32 N, .int .u32 PS, .int .u32 MR, .slice a4 L.length c4, .bool self, .string D] [.int .i64 en, .int .i64 kind] [u0, u1, u2, u3, u4, u5, u6, u7] w4 HBR4.out rfl)
  have HBX5 := Lib.hid (BoxAt.setApart (b' := w.heap.size) (by simp) [.int .i64 k, .int .i64 sq, .int .u32 N, .int .u32 PS, .int .u32 MR, .slice a4 L.length c4, .bool self, .string D] 2 w4 HBX4.out)
  have HB5 := Lib.hid (bel_setCells w.heap.size w.heap.size (Nat.le_refl _) [.int .i64 k, .int .i64 sq, .int .u32 N, .int .u32 PS, .int .u32 MR, .slice a4 L.length c4, .bool self, .string D] 2 w w4 HB4.out)
  have HO5 := Lib.hid (own_setCells (own_apart HO4.out HBR4.out rec_ne_num) [.int .i64 k, .int .i64 sq, .int .u32 N, .int .u32 PS, .int .u32 MR, .slice a4 L.length c4, .bool self, .string D] 2 w4 HO4.out)
  have HOI5 := Lib.hid (own_setCells (own_apart HOI4.out HBR4.out rec_ne_int) [.int .i64 k, .int .i64 sq, .int .u32 N, .int .u32 PS, .int .u32 MR, .slice a4 L.length c4, .bool self, .string D] 2 w4 HOI4.out)
  have HL5 : Hid (IntsR .i64 (w4.setCells w.heap.size 2 [.int .i64 k, .int .i64 sq, .int .u32 N, .int .u32 PS, .int .u32 MR, .slice a4 L.length c4, .bool self, .string D]) (.slice a2 L.length c2) L) := Lib.hid (IntsR.of_owns HOI5.out (by omega))
  go_upto_region 5 with (refine wpList_store_mid rfl 31 (.tmp 13) (.tmp 12) (by rfl) w.heap.size 2 #[.int .i64 k, .int .i64 sq, .int .u32 N, .int .u32 PS, .int .u32 MR, .slice a4 L.length c4, .bool self, .string D] (by rfl) (by rfl) (HBR4.out.thereAt (by simp)) pdu_sz (by simp [Value.oneCell']) ?_)
  generalize w4.setCells w.heap.size 2 [.int .i64 k, .int .i64 sq, .int .u32 N, .int .u32 PS, .int .u32 MR, .slice a4 L.length c4, .bool self, .string D] = W5 at *
  clear HBX4 HBR4 HB4 HO4 HL4 HOI4 HOI3
  have c0 := HBR5.out.cell 0
  have f0 := HBR5.out.froz 0
  simp only [List.getElem?_cons_succ, List.getElem?_cons_zero] at c0
  have HBR6 : Hid (BoxAt (W5.setCell ⟨w.heap.size, 0, none⟩ (.int .i64 (en % 2))) w.heap.size 45 [.int .i64 (en % 2), .int .i64 kind, .int .i64 k, .int .i64 sq, .int .u32 N, .int .u32 PS, .int .u32 MR, .slice a4 L.length c4, .bool self, .string D, .int .i64 sk, .string sd, .bool ss, .int .u8 sc, .int .i64 sn, .int .i64 rk, .string rd, .int .i64 rn]) := Lib.hid (HBR5.out.set 0 (.int .i64 (en % 2)))
  have HBX6 := Lib.hid (HBX5.out.other (a := ⟨w.heap.size, 0, none⟩) (by simp) (.int .i64 (en % 2)))
  have HB6 := Lib.hid (HB5.out.setCell (p := ⟨w.heap.size, 0, none⟩) (Nat.le_refl _) (.int .i64 (en % 2)))
  have HO6 := Lib.hid (HO5.out.kept (grown_set1 W5 ⟨w.heap.size, 0, none⟩ (.int .i64 (en % 2))) (Or.inr (own_apart HO5.out HBR5.out rec_ne_num)))
  have HOI6 := Lib.hid (HOI5.out.kept (grown_set1 W5 ⟨w.heap.size, 0, none⟩ (.int .i64 (en % 2))) (Or.inr (own_apart HOI5.out HBR5.out rec_ne_int)))
  go_upto_region 6 with fail
  clear c0 f0 HBR5 HBX5 HB5 HO5 HOI5 HL5
  have hE0 := Int.emod_nonneg en (show (2 : Int) ≠ 0 by decide)
  have hE1 := Int.emod_lt_of_pos en (show (0 : Int) < 2 by decide)
  generalize W5.setCell ⟨w.heap.size, 0, none⟩ (.int .i64 (en % 2)) = W6 at *
  generalize en % 2 = E at *
  have HCU : Hid (∀ (s : ByteArray) (W : World), s.size ≤ maxLen → Calls Tryz.prog 13 #[.string s, .int .i64 20] W fun e w' => e = .returned (.string ⟨(s.data.toList.take 20).toArray⟩) ∧ W = w') := Lib.hid (fun s W h => cut_any s 20 W h (by omega))
  refine wp_region_noPanic ?_
  refine wp_region_L (S := SL (fun _ => True) 10 (fun w' => w'.cell? ⟨w.heap.size, 11, none⟩ = some (.string sd)) 13 (fun w' => w'.cell? ⟨w.heap.size, 16, none⟩ = some (.string rd))) (by kernel_rfl) ?_
  obtain ⟨W7, hW7⟩ : ∃ x, W6.drew = x := ⟨_, rfl⟩
  rw [hW7]
  have HST : Hid (Below W6.heap.size W6 W7) := Lib.hid (hW7 ▸ (Below.refl W6.heap.size W6).drew)
  clear hW7
  have HBR7 := Lib.hid (HBR6.out.below HST.out HBR6.out.lt)
  have HBX7 := Lib.hid (HBX6.out.below HST.out HBX6.out.lt)
  have HB7 := Lib.hid (belSeq HB6.out HST.out)
  have HO7 := Lib.hid (own_bel HO6.out HST.out)
  have HOI7 := Lib.hid (own_bel HOI6.out HST.out)
  clear HBR6 HBX6 HB6 HO6 HOI6 HST
  refine LAt.take (i := 0) (oi := ⟨some 18, _, _, _, _, _⟩) (v := ?_) rfl (by kernel_rfl) (by kernel_rfl) (by kernel_rfl) (fun _ _ _ h => h) (by decide) (by decide) (Or.inl ⟨by kernel_rfl, ?_⟩) ⟨trivial, fun _ => HBR7.out.cell 11, fun _ => HBR7.out.cell 16⟩ ?_
  rotate_left 1
  · intro w hSw; (try dsimp only at hSw); (try (obtain ⟨hs1, hs2⟩ := hSw)); go_simp; try (with_reducible rfl)
  try simp only [Act.put, List.setIfInBounds_toArray, List.set_cons_zero, List.set_cons_succ]
  refine LAt.take (i := 1) (oi := ⟨some 19, _, _, _, _, _⟩) (v := ?_) rfl (by kernel_rfl) (by kernel_rfl) (by kernel_rfl) (fun _ _ _ h => h) (by decide) (by decide) (Or.inl ⟨by kernel_rfl, ?_⟩) ⟨trivial, fun _ => HBR7.out.cell 11, fun _ => HBR7.out.cell 16⟩ ?_
  rotate_left 1
  · intro w hSw; (try dsimp only at hSw); (try (obtain ⟨hs1, hs2⟩ := hSw)); go_simp; try (with_reducible rfl)
  try simp only [Act.put, List.setIfInBounds_toArray, List.set_cons_zero, List.set_cons_succ]
  refine LAt.take1 (i := 2) (oi := ⟨some 20, _, _, _, _, _⟩) (v := ?_) rfl (by kernel_rfl) (by kernel_rfl) (by kernel_rfl) (fun _ _ _ h => h) (by decide) (by decide) (by kernel_rfl) (Or.inl ⟨by kernel_rfl, ?_⟩) ⟨trivial, fun _ => HBR7.out.cell 11, fun _ => HBR7.out.cell 16⟩ ?_
  rotate_left 1
  · intro w hSw; (try dsimp only at hSw); (try (obtain ⟨hs1, hs2⟩ := hSw)); go_simp; try (with_reducible rfl)
  try simp only [Act.put, List.setIfInBounds_toArray, List.set_cons_zero, List.set_cons_succ]
  refine LAt.take (i := 4) (oi := ⟨some 22, _, _, _, _, _⟩) (v := ?_) rfl (by kernel_rfl) (by kernel_rfl) (by kernel_rfl) (fun _ _ _ h => h) (by decide) (by decide) (Or.inl ⟨by kernel_rfl, ?_⟩) ⟨trivial, fun _ => HBR7.out.cell 11, fun _ => HBR7.out.cell 16⟩ ?_
  rotate_left 1
  · intro w hSw; (try dsimp only at hSw); (try (obtain ⟨hs1, hs2⟩ := hSw)); go_simp; try (with_reducible rfl)
  try simp only [Act.put, List.setIfInBounds_toArray, List.set_cons_zero, List.set_cons_succ]
  refine LAt.take (i := 5) (oi := ⟨some 23, _, _, _, _, _⟩) (v := ?_) rfl (by kernel_rfl) (by kernel_rfl) (by kernel_rfl) (fun _ _ _ h => h) (by decide) (by decide) (Or.inl ⟨by kernel_rfl, ?_⟩) ⟨trivial, fun _ => HBR7.out.cell 11, fun _ => HBR7.out.cell 16⟩ ?_
  rotate_left 1
  · intro w hSw; (try dsimp only at hSw); (try (obtain ⟨hs1, hs2⟩ := hSw)); go_simp; try (with_reducible rfl)
  try simp only [Act.put, List.setIfInBounds_toArray, List.set_cons_zero, List.set_cons_succ]
  refine LAt.take2 (i := 6) (oi := ⟨some 24, _, _, _, _, _⟩) (v := ?_) rfl (by kernel_rfl) (by kernel_rfl) (by kernel_rfl) (fun _ _ _ h => h) (by decide) (by decide) (by kernel_rfl) (Or.inl ⟨by kernel_rfl, ?_⟩) ⟨trivial, fun _ => HBR7.out.cell 11, fun _ => HBR7.out.cell 16⟩ ?_
  rotate_left 1
  · intro w hSw; (try dsimp only at hSw); (try (obtain ⟨hs1, hs2⟩ := hSw)); go_simp; try (with_reducible rfl)
  try simp only [Act.put, List.setIfInBounds_toArray, List.set_cons_zero, List.set_cons_succ]
  refine LAt.ready (rs := [3]) (by kernel_rfl) (by simp) ?_
  refine AllL.cons (o := ⟨some 21, _, _, _, _, _⟩) rfl (fun K hK => ?_) AllL.nil
  go_simp
  (with_reducible refine (HCU.out sd _ hsd).mono ?_)
  rintro e w' ⟨rfl, rfl⟩
  try go_wp2_with fail
  refine hK.out _ _ ⟨trivial, fun _ => HBR7.out.cell 11, fun _ => HBR7.out.cell 16⟩ ?_
  clear hK K
  try simp only [Act.put, List.setIfInBounds_toArray, List.set_cons_zero, List.set_cons_succ]
  refine LAt.take (i := 8) (oi := ⟨some 26, _, _, _, _, _⟩) (v := ?_) rfl (by kernel_rfl) (by kernel_rfl) (by kernel_rfl) (fun _ _ _ h => h) (by decide) (by decide) (Or.inl ⟨by kernel_rfl, ?_⟩) ⟨trivial, fun _ => HBR7.out.cell 11, fun _ => HBR7.out.cell 16⟩ ?_
  rotate_left 1
  · intro w hSw; (try dsimp only at hSw); (try (obtain ⟨hs1, hs2⟩ := hSw)); go_simp; try (with_reducible rfl)
  try simp only [Act.put, List.setIfInBounds_toArray, List.set_cons_zero, List.set_cons_succ]
  refine LAt.take (i := 9) (oi := ⟨some 27, _, _, _, _, _⟩) (v := ?_) rfl (by kernel_rfl) (by kernel_rfl) (by kernel_rfl) (fun _ _ _ h => h) (by decide) (by decide) (Or.inl ⟨by kernel_rfl, ?_⟩) ⟨trivial, fun _ => HBR7.out.cell 11, fun _ => HBR7.out.cell 16⟩ ?_
  rotate_left 1
  · intro w hSw; (try dsimp only at hSw); (try (obtain ⟨hs1, hs2⟩ := hSw)); go_simp; try (with_reducible rfl)
  try simp only [Act.put, List.setIfInBounds_toArray, List.set_cons_zero, List.set_cons_succ]
  refine LAt.ready (rs := [7]) (by kernel_rfl) (by simp) ?_
  refine AllL.cons (o := ⟨some 25, _, _, _, _, _⟩) rfl (fun K hK => ?_) AllL.nil
  go_simp
  (with_reducible refine (HCU.out rd _ hrd).mono ?_)
  rintro e w' ⟨rfl, rfl⟩
  try go_wp2_with fail
  refine hK.out _ _ ⟨trivial, fun _ => HBR7.out.cell 11, fun _ => HBR7.out.cell 16⟩ ?_
  clear hK K
  try simp only [Act.put, List.setIfInBounds_toArray, List.set_cons_zero, List.set_cons_succ]
  refine LAt.ready (rs := [10]) (by kernel_rfl) (by simp) ?_
  refine AllL.cons (o := ⟨none, _, _, _, _, _⟩) rfl (fun K hK => ?_) AllL.nil
  have qs := HBR7.out.cell 11
  simp only [List.getElem?_cons_succ, List.getElem?_cons_zero] at qs
  have qf := HBR7.out.froz 11
  go_simp
  clear qs qf
  refine hK.out _ _ ⟨trivial, fun h => absurd h (by decide), fun _ => (HBR7.out.set 11 (.string ⟨(sd.data.toList.take 20).toArray⟩)).cell 16⟩ ?_
  clear hK K
  try simp only [Act.put, List.setIfInBounds_toArray, List.set_cons_zero, List.set_cons_succ]
  refine LAt.take (i := 11) (oi := ⟨some 28, _, _, _, _, _⟩) (v := ?_) rfl (by kernel_rfl) (by kernel_rfl) (by kernel_rfl) (fun _ _ _ h => h) (by decide) (by decide) (Or.inl ⟨by kernel_rfl, ?_⟩) ⟨trivial, fun h => absurd h (by decide), fun _ => (HBR7.out.set 11 (.string ⟨(sd.data.toList.take 20).toArray⟩)).cell 16⟩ ?_
  rotate_left 1
  · intro w hSw; (try dsimp only at hSw); (try (obtain ⟨hs1, hs2⟩ := hSw)); go_simp; try (with_reducible rfl)
  try simp only [Act.put, List.setIfInBounds_toArray, List.set_cons_zero, List.set_cons_succ]
  refine LAt.take (i := 12) (oi := ⟨some 29, _, _, _, _, _⟩) (v := ?_) rfl (by kernel_rfl) (by kernel_rfl) (by kernel_rfl) (fun _ _ _ h => h) (by decide) (by decide) (Or.inl ⟨by kernel_rfl, ?_⟩) ⟨trivial, fun h => absurd h (by decide), fun _ => (HBR7.out.set 11 (.string ⟨(sd.data.toList.take 20).toArray⟩)).cell 16⟩ ?_
  rotate_left 1
  · intro w hSw; (try dsimp only at hSw); (try (obtain ⟨hs1, hs2⟩ := hSw)); go_simp; try (with_reducible rfl)
  try simp only [Act.put, List.setIfInBounds_toArray, List.set_cons_zero, List.set_cons_succ]
  refine LAt.ready (rs := [13]) (by kernel_rfl) (by simp) ?_
  refine AllL.cons (o := ⟨none, _, _, _, _, _⟩) rfl (fun K hK => ?_) AllL.nil
  have qs := (HBR7.out.set 11 (.string ⟨(sd.data.toList.take 20).toArray⟩)).cell 16
  have qf := (HBR7.out.set 11 (.string ⟨(sd.data.toList.take 20).toArray⟩)).froz 16
  simp only [List.set_cons_succ, List.set_cons_zero, List.getElem?_cons_succ, List.getElem?_cons_zero] at qs
  go_simp
  clear qs qf
  refine hK.out _ _ ⟨trivial, fun h => absurd h (by decide), fun h => absurd h (by decide)⟩ ?_
  clear hK K
  try simp only [Act.put, List.setIfInBounds_toArray, List.set_cons_zero, List.set_cons_succ]
  refine LAt.done (by kernel_rfl) ?_
  refine NoPanic.normal ?_
  obtain ⟨sD, hsD⟩ : ∃ x : ByteArray, ⟨(sd.data.toList.take 20).toArray⟩ = x := ⟨_, rfl⟩
  obtain ⟨rD, hrD⟩ : ∃ x : ByteArray, ⟨(rd.data.toList.take 20).toArray⟩ = x := ⟨_, rfl⟩
  rw [hsD, hrD]
  have hsl : sD.size ≤ 20 := by rw [← hsD, size_arr]; exact List.length_take_le _ _
  have hrl : rD.size ≤ 20 := by rw [← hrD, size_arr]; exact List.length_take_le _ _
  have HBR8 : Hid (BoxAt ((W7.setCell ⟨w.heap.size, 11, none⟩ (.string sD)).setCell ⟨w.heap.size, 16, none⟩ (.string rD)) w.heap.size 45 [.int .i64 E, .int .i64 kind, .int .i64 k, .int .i64 sq, .int .u32 N, .int .u32 PS, .int .u32 MR, .slice a4 L.length c4, .bool self, .string D, .int .i64 sk, .string sD, .bool ss, .int .u8 sc, .int .i64 sn, .int .i64 rk, .string rD, .int .i64 rn]) := Lib.hid ((HBR7.out.set 11 (.string sD)).set 16 (.string rD))
  have HBX8 := Lib.hid ((HBX7.out.other (a := ⟨w.heap.size, 11, none⟩) (by simp) (.string sD)).other (a := ⟨w.heap.size, 16, none⟩) (by simp) (.string rD))
  have HB8 := Lib.hid ((HB7.out.setCell (p := ⟨w.heap.size, 11, none⟩) (Nat.le_refl _) (.string sD)).setCell (p := ⟨w.heap.size, 16, none⟩) (Nat.le_refl _) (.string rD))
  have HO8 := Lib.hid ((HO7.out.kept (grown_set1 W7 ⟨w.heap.size, 11, none⟩ (.string sD)) (Or.inr (own_apart HO7.out HBR7.out rec_ne_num))).kept (grown_set1 _ ⟨w.heap.size, 16, none⟩ (.string rD)) (Or.inr (own_apart HO7.out HBR7.out rec_ne_num)))
  have HOI8 := Lib.hid ((HOI7.out.kept (grown_set1 W7 ⟨w.heap.size, 11, none⟩ (.string sD)) (Or.inr (own_apart HOI7.out HBR7.out rec_ne_int))).kept (grown_set1 _ ⟨w.heap.size, 16, none⟩ (.string rD)) (Or.inr (own_apart HOI7.out HBR7.out rec_ne_int)))
  clear HBR7 HBX7 HB7 HO7 HOI7 hsD hrD HCU hsd hrd
  generalize ((W7.setCell ⟨w.heap.size, 11, none⟩ (.string sD)).setCell ⟨w.heap.size, 16, none⟩ (.string rD)) = W8 at *
  have HDG : Hid (∀ x W, Rng64 x → Calls Tryz.prog 14 #[.int .i64 x] W fun e w' => e = .returned (.string ⟨(Lib.itoa x).toArray⟩) ∧ Below W.heap.size W w') := Lib.hid (fun x W h => digits_any x W h.lo h.hi)
  have hRE : Rng64 E := ⟨by omega, by omega⟩
  have g0 := HBR8.out.cell 0
  simp only [List.getElem?_cons_succ, List.getElem?_cons_zero] at g0
  go_wp2_with fail
  refine (HDG.out E _ hRE).mono ?_
  rintro e w9 ⟨rfl, hb9⟩
  have HBR9 := Lib.hid (HBR8.out.below hb9 HBR8.out.lt)
  have HBX9 := Lib.hid (HBX8.out.below hb9 HBX8.out.lt)
  have HB9 := Lib.hid (belSeq HB8.out hb9)
  have HO9 := Lib.hid (own_bel HO8.out hb9)
  have HOI9 := Lib.hid (own_bel HOI8.out hb9)
  have HE9 := Lib.hid (HE.out.below HB9.out)
  clear hb9 g0 HBR8 HBX8 HB8 HO8 HOI8 HE
  -- the unit's text, by both
  obtain ⟨ut, hutl, HUN, HRU⟩ : ∃ ut : List UInt8, ut.length ≤ 100000 ∧ Hid (∀ W, Below w9.heap.size w9 W → Calls Tryz.prog 8 #[.agg #[.int .i64 k, .int .i64 sq, .int .u32 N, .int .u32 PS, .int .u32 MR, .slice a4 L.length c4, .bool self, .string D]] W fun e w' => e = .returned (.string ⟨ut.toArray⟩) ∧ Below W.heap.size W w') ∧
      Hid (∀ W, Below w9.heap.size w9 W → Calls Tryz.prog 9 #[.agg #[.int .i64 k, .int .i64 sq, .int .i64 N, .int .i64 PS, .int .i64 MR, .slice a2 L.length c2, .bool self, .string D]] W fun e w' => e = .returned (.string ⟨ut.toArray⟩) ∧ Below W.heap.size W w') := by
    by_cases hck : checkOf k sq N PS MR L self D.size = 0
    · have hck' : ckOf ⟨k, sq, N, PS, MR, L, self, D.data.toList⟩ = 0 := by unfold ckOf; rw [size_len]; exact hck
      have hfit := fit_of ⟨k, sq, N, PS, MR, L, self, D.data.toList⟩ hN.1 hPS.1 hMR.1 (fun x hx => (HLL.out x hx).1) hck'
      refine ⟨unitText ⟨k, sq, N, PS, MR, L, self, D.data.toList⟩, ?_, Lib.hid (fun W hW => ?_), Lib.hid (fun W hW => ?_)⟩
      · have hLD := (ck_parts hck).2
        exact Nat.le_trans (text_le _ hfit hLD.1 (by rw [size_len]; exact hLD.2.1)) (by omega)
      · exact unit_ok k sq N PS MR (.slice a4 L.length c4) L self D W hN.1 hPS.1 hMR.1 (IntsR.of_owns (own_bel HO9.out hW) (by omega)) (fun x hx => (HLL.out x hx).1) hck (HE9.out.below hW)
      · exact refUnit_ok k sq N PS MR (.slice a2 L.length c2) L self D W hN.1 hPS.1 hMR.1 (IntsR.of_owns (own_bel HOI9.out hW) (by omega)) (fun x hx => (HLL.out x hx).1) hck
    · refine ⟨[], by simp, Lib.hid (fun W hW => ?_), Lib.hid (fun W hW => ?_)⟩
      · exact unit_bad k sq N PS MR (.slice a4 L.length c4) L self D W hN hPS hMR (IntsR.of_owns (own_bel HO9.out hW) (by omega)) HLL.out (by omega) (by omega) hck
      · exact refUnit_bad k sq N PS MR (.slice a2 L.length c2) L self D W hN.1 hPS.1 hMR.1 (IntsR.of_owns (own_bel HOI9.out hW) (by omega)) (fun x hx => (HLL.out x hx).1) (by omega) (by omega) hck
  have HRT : Hid (∀ W, Calls Tryz.prog 15 #[.int .i64 sk, .string sD, .bool ss, .int .u8 sc, .int .i64 sn] W fun e w' => e = .returned (.string ⟨(sigText sk sD.data.toList ss sc.toNat sn).toArray⟩) ∧ Below W.heap.size W w') := Lib.hid (fun W => reftext_any sk sD ss sc sn W (by omega) hsc0 hsc1 hsn.lo hsn.hi)
  have HHX : Hid (∀ W, Calls Tryz.prog 16 #[.string rD] W fun e w' => e = .returned (.string ⟨(hexOf rD.data.toList).toArray⟩) ∧ Below W.heap.size W w') := Lib.hid (fun W => refHex_any rD W (by omega))
  have HREC : Hid (∀ W, Below w9.heap.size w9 W → Calls Tryz.prog 17 #[.agg #[.int .i64 E, .int .i64 kind, .int .i64 k, .int .i64 sq, .int .u32 N, .int .u32 PS, .int .u32 MR, .slice a4 L.length c4, .bool self, .string D, .int .i64 sk, .string sD, .bool ss, .int .u8 sc, .int .i64 sn, .int .i64 rk, .string rD, .int .i64 rn]] W fun e w' => e = .returned (.string ⟨(recText E kind ut (sigText sk sD.data.toList ss sc.toNat sn) rk rD.data.toList rn).toArray⟩) ∧ Below W.heap.size W w') := Lib.hid (fun W hW =>
    record_txt E kind k sq N PS MR a4 L.length c4 self D sk sD ss sc sn rk rD rn ut W (HE9.out.below hW) hRE hrk hrn hsn hsc0 hsc1 (by omega) (by omega) hutl (fun W' hW' => HUN.out W' (belSeq hW hW')))
  have hsl2 := sigText_len sk sD.data.toList ss sc.toNat sn hsn.lo hsn.hi
  have hhl := hexOf_length rD.data.toList
  rw [size_len] at hsl2 hhl
  have hl0 := Lib.itoa_length_le E hRE.lo hRE.hi
  have hl1 := Lib.itoa_length_le rk hrk.lo hrk.hi
  have hl2 := Lib.itoa_length_le rn hrn.lo hrn.hi
  have HTL : Hid ((recText E kind ut (sigText sk sD.data.toList ss sc.toNat sn) rk rD.data.toList rn).length ≤ 1000000) := Lib.hid (by
    unfold recText
    repeat' split
    all_goals simp
    all_goals (try split)
    all_goals omega)
  have HTX : Hid (recText E kind ut (sigText sk sD.data.toList ss sc.toNat sn) rk rD.data.toList rn = recText E kind ut (sigText sk sD.data.toList ss sc.toNat sn) rk rD.data.toList rn) := Lib.hid rfl
  generalize sigText sk sD.data.toList ss sc.toNat sn = st at *
  have k1 := HBR9.out.cell 1
  have k10 := HBR9.out.cell 10
  have k11 := HBR9.out.cell 11
  have k12 := HBR9.out.cell 12
  have k13 := HBR9.out.cell 13
  have k14 := HBR9.out.cell 14
  have k15 := HBR9.out.cell 15
  have k16 := HBR9.out.cell 16
  have k17 := HBR9.out.cell 17
  simp only [List.getElem?_cons_succ, List.getElem?_cons_zero] at k1 k10 k11 k12 k13 k14 k15 k16 k17
  obtain ⟨x0, x1, x2, x3, x4, x5, x6, x7⟩ := HBX9.out.cells8
  have hpr9 := HBR9.out.lt
  go_upto_block 0 with fail
  go_cut [5] (fun v5 wx => v5 = .string ⟨(recText E kind ut st rk rD.data.toList rn).toArray⟩ ∧ Hid (Below w9.heap.size w9 wx))
  case first =>
    by_cases h1 : kind = 1
    · subst h1
      have HR : Hid (recText E 1 ut st rk rD.data.toList rn = _) := Lib.hid (by unfold recText; simp only [Int.reduceEq, if_true, if_false]; rfl)
      go_wp2_with fail
      refine (HRU.out w9 (Below.refl _ _)).mono ?_
      rintro e w10 ⟨rfl, hb10⟩
      go_wp2_with fail
      go_meet
      exact ⟨by rw [HR.out]; exact val_str (by simp [dapp]), Lib.hid (hb10)⟩
    have b1 : (kind == 1) = false := beq_eq_false_iff_ne.2 h1
    by_cases h2 : kind = 2
    · subst h2
      have HR : Hid (recText E 2 ut st rk rD.data.toList rn = _) := Lib.hid (by unfold recText; simp only [Int.reduceEq, if_true, if_false]; rfl)
      go_wp2_with fail
      refine (HRU.out w9 (Below.refl _ _)).mono ?_
      rintro e w10 ⟨rfl, hb10⟩
      go_wp2_with fail
      go_meet
      exact ⟨by rw [HR.out]; exact val_str (by simp [dapp]), Lib.hid (hb10)⟩
    have b2 : (kind == 2) = false := beq_eq_false_iff_ne.2 h2
    by_cases h3 : kind = 3
    · subst h3
      have HR : Hid (recText E 3 ut st rk rD.data.toList rn = _) := Lib.hid (by unfold recText; simp only [Int.reduceEq, if_true, if_false]; rfl)
      go_wp2_with fail
      go_meet
      exact ⟨by rw [HR.out]; exact val_str (by simp [dapp]), Lib.hid (Below.refl _ _)⟩
    have b3 : (kind == 3) = false := beq_eq_false_iff_ne.2 h3
    by_cases h4 : kind = 4
    · subst h4
      have HR : Hid (recText E 4 ut st rk rD.data.toList rn = _) := Lib.hid (by unfold recText; simp only [Int.reduceEq, if_true, if_false]; rfl)
      go_wp2_with fail
      go_meet
      exact ⟨by rw [HR.out]; exact val_str (by simp [dapp]), Lib.hid (Below.refl _ _)⟩
    have b4 : (kind == 4) = false := beq_eq_false_iff_ne.2 h4
    by_cases h5 : kind = 5
    · subst h5
      have HR : Hid (recText E 5 ut st rk rD.data.toList rn = _) := Lib.hid (by unfold recText; simp only [Int.reduceEq, if_true, if_false]; rfl)
      go_wp2_with fail
      refine (HRT.out _).mono ?_
      rintro e w10 ⟨rfl, hb10⟩
      go_wp2_with fail
      go_meet
      exact ⟨by rw [HR.out]; exact val_str (by simp [dapp]), Lib.hid (belAlloc hb10 (by simp))⟩
    have b5 : (kind == 5) = false := beq_eq_false_iff_ne.2 h5
    by_cases h6 : kind = 6
    · subst h6
      go_wp2_with fail
      refine (HDG.out rk w9 hrk).mono ?_
      rintro e w10 ⟨rfl, hb10⟩
      have HBR10 := Lib.hid (HBR9.out.below hb10 hpr9)
      have HB10 := Lib.hid hb10
      have m15 := HBR10.out.cell 15
      have m16 := HBR10.out.cell 16
      have m17 := HBR10.out.cell 17
      simp only [List.getElem?_cons_succ, List.getElem?_cons_zero] at m15 m16 m17
      clear hb10
      by_cases h10 : rk = 10
      · subst h10
        have HR : Hid (recText E 6 ut st 10 rD.data.toList rn = Lib.itoa E ++ [32, 63, 32] ++ Lib.itoa 10 ++ [32] ++ Lib.itoa rn) := Lib.hid (by unfold recText; simp)
        go_wp2_with fail
        refine (HDG.out rn w10 hrn).mono ?_
        rintro e w11 ⟨rfl, hb11⟩
        go_wp2_with fail
        go_meet
        exact ⟨by rw [HR.out]; exact val_str (by simp [dapp]), Lib.hid (belSeq HB10.out hb11)⟩
      · have h10b : (rk == 10) = false := beq_eq_false_iff_ne.2 h10
        have HR : Hid (recText E 6 ut st rk rD.data.toList rn = Lib.itoa E ++ [32, 63, 32] ++ Lib.itoa rk ++ [32] ++ hexOf rD.data.toList) := Lib.hid (by unfold recText; simp [h10])
        go_wp2_with fail
        refine (HHX.out w10).mono ?_
        rintro e w11 ⟨rfl, hb11⟩
        go_wp2_with fail
        go_meet
        exact ⟨by rw [HR.out]; exact val_str (by simp [dapp]), Lib.hid (belSeq HB10.out hb11)⟩
    have b6 : (kind == 6) = false := beq_eq_false_iff_ne.2 h6
    have HR : Hid (recText E kind ut st rk rD.data.toList rn = []) := Lib.hid (by unfold recText; simp [h1, h2, h3, h4, h5, h6])
    go_wp2_with fail
    go_meet
    exact ⟨by rw [HR.out], Lib.hid (Below.refl _ _)⟩
  case rest =>
    obtain ⟨rfl, HBC⟩ := hcut
    clear k1 k10 k11 k12 k13 k14 k15 k16 k17 x0 x1 x2 x3 x4 x5 x6 x7
    have HTL2 := Lib.hid HTL.out
    generalize recText E kind ut st rk rD.data.toList rn = T at *
    have HRG := Lib.hid ((HBR9.out.below HBC.out hpr9).range)
    have hprc := (HBR9.out.below HBC.out hpr9).lt
    have htl := HTL2.out
    go_wp2_with (refine wpList_load_mid rfl 45 (.tmp 2) rfl w.heap.size 0 (by rfl) [.int .i64 E, .int .i64 kind, .int .i64 k, .int .i64 sq, .int .u32 N, .int .u32 PS, .int .u32 MR, .slice a4 L.length c4, .bool self, .string D, .int .i64 sk, .string sD, .bool ss, .int .u8 sc, .int .i64 sn, .int .i64 rk, .string rD, .int .i64 rn] _ HRG.out Tryz.underlying45 rfl rec_sz ?_)
    refine (HREC.out _ HBC.out).mono ?_
    rintro e w10 ⟨rfl, hb10⟩
    have HRG10 := Lib.hid (range_below HRG.out hb10)
    have HB10 := Lib.hid (belSeq HBC.out hb10)
    clear hb10
    go_wp2_with (refine wpList_load_mid_g (by kernel_rfl) 45 (.tmp 2) rfl w.heap.size 0 (by rfl) [.int .i64 E, .int .i64 kind, .int .i64 k, .int .i64 sq, .int .u32 N, .int .u32 PS, .int .u32 MR, .slice a4 L.length c4, .bool self, .string D, .int .i64 sk, .string sD, .bool ss, .int .u8 sc, .int .i64 sn, .int .i64 rk, .string rD, .int .i64 rn] _ HRG10.out Tryz.underlying45 rfl rec_sz ?_)
    have HA : Hid (∀ W : World, Below (w10.heap.size + 1) (w10.alloc (.cells (#[.int .i64 E, .int .i64 kind, .int .i64 k, .int .i64 sq, .int .u32 N, .int .u32 PS, .int .u32 MR, .slice a4 L.length c4, .bool self, .string D, .int .i64 sk, .string sD, .bool ss, .int .u8 sc, .int .i64 sn, .int .i64 rk, .string rD, .int .i64 rn] ++ #[.int .i64 E, .int .i64 kind, .int .i64 k, .int .i64 sq, .int .u32 N, .int .u32 PS, .int .u32 MR, .slice a4 L.length c4, .bool self, .string D, .int .i64 sk, .string sD, .bool ss, .int .u8 sc, .int .i64 sn, .int .i64 rk, .string rD, .int .i64 rn]) 45)) W → Below w9.heap.size w9 W) := Lib.hid (fun W hW => belSeq HB10.out (belAlloc hW (by omega)))
    refine (lines_two E kind k sq N PS MR a4 L.length c4 self D sk sD ss sc sn rk rD rn w10.heap.size 2 T _ HTL2.out ?h0 ?h1 (by simp [Value.oneCell']) (fun W hW => HREC.out W (HA.out W (by simpa using hW)))).mono ?_
    case h0 =>
      intro j v hv
      rw [Nat.zero_add, cell_of_row _ _ _ _ _ _ (heap_alloc_new w10 _)]
      have hj : j < List.length ([.int .i64 E, .int .i64 kind, .int .i64 k, .int .i64 sq, .int .u32 N, .int .u32 PS, .int .u32 MR, .slice a4 L.length c4, .bool self, .string D, .int .i64 sk, .string sD, .bool ss, .int .u8 sc, .int .i64 sn, .int .i64 rk, .string rD, .int .i64 rn] : List Value) := (List.getElem?_eq_some_iff.1 hv).1
      show (List.toArray ([.int .i64 E, .int .i64 kind, .int .i64 k, .int .i64 sq, .int .u32 N, .int .u32 PS, .int .u32 MR, .slice a4 L.length c4, .bool self, .string D, .int .i64 sk, .string sD, .bool ss, .int .u8 sc, .int .i64 sn, .int .i64 rk, .string rD, .int .i64 rn] ++ [.int .i64 E, .int .i64 kind, .int .i64 k, .int .i64 sq, .int .u32 N, .int .u32 PS, .int .u32 MR, .slice a4 L.length c4, .bool self, .string D, .int .i64 sk, .string sD, .bool ss, .int .u8 sc, .int .i64 sn, .int .i64 rk, .string rD, .int .i64 rn] : List Value))[j]? = some v
      rw [List.getElem?_toArray, List.getElem?_append_left hj]
      exact hv
    case h1 =>
      intro j v hv
      rw [cell_of_row _ _ _ _ _ _ (heap_alloc_new w10 _)]
      simpa [Nat.add_comm 18 j] using hv
    rintro e w11 ⟨rfl, hb11⟩
    have HS : (⟨(T ++ [10] ++ T ++ [10]).toArray⟩ : ByteArray) = ⟨T.toArray⟩ ++ ⟨#[10]⟩ ++ ⟨T.toArray⟩ ++ ⟨#[10]⟩ := str_eq (by simp [dapp])
    rw [HS]
    have HB11 := Lib.hid (HA.out _ (by simpa using hb11))
    clear hb11
    go_wp2_with fail
    refine (lines_nil _).mono ?_
    rintro e w12 ⟨rfl, hb12⟩
    go_wp2_with fail
    go_ret
    exact ⟨rfl, belSeq HB9.out (belSeq HB11.out hb12)⟩
end Go.Proofs.YtohenohgceaibaaGreatDoor
