/-
  Contracts of tail.take, shape.fixed, PDU.told, slices.Reverse of none; Parse of the bytes that the statements' 'awake' reads.
-/
import Derived.Test.YtdggnpecbdnkeaaDoorPduBytes
import Derived.Deep.QuietTactic
set_option linter.unusedVariables false
set_option linter.unusedSimpArgs false
namespace Go.Proofs.YtdggnpecbdnkeaaDoor
open Go.RowKit

def wordAt (l : List UInt8) (i : Nat) : Nat := (l.getD i 0).toNat * 16777216 + (l.getD (i + 1) 0).toNat * 65536 + (l.getD (i + 2) 0).toNat * 256 + (l.getD (i + 3) 0).toNat
theorem getB (s : ByteArray) (i : Nat) (h : i < s.size) : s[i] = s.data.toList.getD i 0 := by
  have : i < s.data.toList.length := by rw [size_len]; exact h
  rw [List.getD_eq_getElem?_getD, List.getElem?_eq_getElem this]
  rfl
theorem at_word (s : ByteArray) (i : Nat) (hs : s.size ≤ 1000000) (hi : i + 4 ≤ s.size) (w : World) :
    Calls Tryd.prog 89 #[.string s, .int .i64 i] w fun e w' => e = .returned (.int .u32 ((wordAt s.data.toList i : Nat) : Int)) ∧ w.drew = w' := by
  have := at_any s i hs hi w
  rw [getB, getB, getB, getB] at this
  exact this

set_option maxHeartbeats 1000000 in
theorem take_any (b : Nat) (s : ByteArray) (m : Nat) (w : World) (hc : w.cell? ⟨b, 0, none⟩ = some (.string s)) (hf : w.frozen? ⟨b, 0, none⟩ = false) (hm : s.size = m + 4) (hs : m ≤ 900000) :
    Calls Tryd.prog 70 #[.pointer (some ⟨b, 0, none⟩)] w fun e w' => e = .returned (.int .u32 ((wordAt s.data.toList m : Nat) : Int)) ∧ w' = (w.setCell ⟨b, 0, none⟩ (.string (s.extract 0 m))).drew := by
  have hlt := block_lt_of_cell hc
  go_enter Tryd.func70, Tryd.ntmps70
  go_wp2_with fail
  refine (at_word s m (by omega) (by omega) _).mono ?_
  rintro e w1 ⟨rfl, rfl⟩
  go_wp2_with fail
  go_ret
  exact ⟨rfl, rfl⟩

theorem take8 (b : Nat) (w : World) (hc : w.cell? ⟨b, 0, none⟩ = some (.string ⟨#[97, 98, 0, 0, 136, 0, 0, 5]⟩)) (hf : w.frozen? ⟨b, 0, none⟩ = false) :
    Calls Tryd.prog 70 #[.pointer (some ⟨b, 0, none⟩)] w fun e w' => e = .returned (.int .u32 2281701381) ∧ w' = (w.setCell ⟨b, 0, none⟩ (.string ⟨#[97, 98, 0, 0]⟩)).drew :=
  (take_any b _ 4 w hc hf rfl (by omega)).mono fun e w' ⟨h1, h2⟩ => ⟨h1.trans rfl, h2.trans (by congr 1)⟩
theorem low8 (w : World) : Calls Tryd.prog 71 #[.int .u32 2281701381] w fun e w' => e = .returned (.int .u32 5) ∧ w = w' :=
  (Low_any 2281701381 (by omega) w).mono fun e w' ⟨h1, h2⟩ => ⟨h1.trans (ret_int (by decide)), h2⟩
theorem shape8 (w : World) : Calls Tryd.prog 72 #[.int .i64 8] w fun e w' => e = .returned (.agg #[.int .i64 200, .bool false, .bool true, .int .i64 0, .bool false, .bool false, .bool false, .bool true]) ∧ Below w.heap.size w w' :=
  (shapeOf_any 8 w).mono fun e w' ⟨h1, h2⟩ => ⟨h1.trans (congrArg Ending.returned (show shapeV 8 = _ from by simp [shapeV, sData, sSq, sN, sList, sPs, sMr, sSelf, sIs])), h2⟩

set_option maxHeartbeats 1000000 in
theorem reverse_nil (w : World) : Calls Tryd.prog 74 #[.slice none 0 0] w fun e w' => e = .returned (.tuple #[]) ∧ w = w' := by
  go_enter Tryd.func74, Tryd.ntmps74
  go_wp2_with fail
  refine wp_loop_rounds 1 ?_
  rw [rounds_succ]
  go_wp2_with fail
  go_end0
  exact ⟨rfl, rfl⟩

set_option maxHeartbeats 1000000 in
theorem fixed8 (w : World) : Calls Tryd.prog 73 #[.agg #[.int .i64 200, .bool false, .bool true, .int .i64 0, .bool false, .bool false, .bool false, .bool true]] w fun e w' => e = .returned (.int .i64 1) ∧ Below w.heap.size w w' := by
  go_enter Tryd.func73, Tryd.ntmps73
  go_wp2_with fail
  go_quiet ((go_at_call 55; exact Calls.quiet_of_same ((bit_any _ _).mono fun _ _ ⟨h1, h2⟩ => ⟨h1, h2.symm⟩)))
  go_wp2
  go_ret
  exact ⟨rfl, below_drewN ((Below.refl _ _).alloc (Nat.le_refl _) _) _⟩

/-- told, of a unit that lies in memory and whose bytes these are: nothing turns. -/
theorem told_ok (b : Nat) (k sq n ps mr : Int) (lv : Value) (l : List Int) (self : Bool) (d s : ByteArray) (w : World)
    (hn : 0 ≤ n) (hps : 0 ≤ ps) (hmr : 0 ≤ mr) (hl : IntsR .u32 w lv l) (hll : ∀ x ∈ l, 0 ≤ x) (hck : checkOf k sq n ps mr l self d.size = 0)
    (hs : bytesOf k sq n ps mr l self d.data.toList = s.data.toList)
    (c0 : w.cell? ⟨b, 0, none⟩ = some (.int .i64 k)) (c1 : w.cell? ⟨b, 1, none⟩ = some (.int .i64 sq)) (c2 : w.cell? ⟨b, 2, none⟩ = some (.int .u32 n)) (c3 : w.cell? ⟨b, 3, none⟩ = some (.int .u32 ps)) (c4 : w.cell? ⟨b, 4, none⟩ = some (.int .u32 mr)) (c5 : w.cell? ⟨b, 5, none⟩ = some lv) (c6 : w.cell? ⟨b, 6, none⟩ = some (.bool self)) (c7 : w.cell? ⟨b, 7, none⟩ = some (.string d)) :
    Calls Tryd.prog 75 #[.pointer (some ⟨b, 0, none⟩), .string s] w fun e w' => e = .returned (.int .i64 0) ∧ Below w.heap.size w w' := by
  obtain ⟨hk1, hk2, hlen, hdl, hsq0, hsq1, hn1, hps1, hmr1, hll1⟩ := check_zero hck
  have HLL : Hid (∀ x ∈ l, 0 ≤ x ∧ x < 4294967296) := Lib.hid (fun x hx => ⟨hll x hx, by have := hll1 x hx; omega⟩)
  have HLL0 := Lib.hid hll
  have HCK := Lib.hid hck
  have HS := Lib.hid (str_eq (a := ⟨(bytesOf k sq n ps mr l self d.data.toList).toArray⟩) (b := s) (by simpa using hs))
  have HL := Lib.hid hl
  clear hll hll1 hck hl hs
  have hlt := block_lt_of_cell c0
  have hlt2 : b < w.heap.size := hlt
  clear hlt
  go_enter Tryd.func75, Tryd.ntmps75
  go_wp2_with fail
  refine (check_any k sq n ps mr lv l self d _ ⟨hn, by omega⟩ ⟨hps, by omega⟩ ⟨hmr, by omega⟩ HL.out HLL.out (by omega) (by omega)).mono ?_
  rintro e w1 ⟨rfl, hb⟩
  rw [HCK.out]
  have d0 := (bcell hb b 0 hlt2).trans c0
  have d1 := (bcell hb b 1 hlt2).trans c1
  have d2 := (bcell hb b 2 hlt2).trans c2
  have d3 := (bcell hb b 3 hlt2).trans c3
  have d4 := (bcell hb b 4 hlt2).trans c4
  have d5 := (bcell hb b 5 hlt2).trans c5
  have d6 := (bcell hb b 6 hlt2).trans c6
  have d7 := (bcell hb b 7 hlt2).trans c7
  have HB := Lib.hid hb
  clear hb c0 c1 c2 c3 c4 c5 c6 c7
  go_wp2_with fail
  refine (bytes_ok k sq n ps mr lv l self d _ hn hps hmr (HL.out.below HB.out (Nat.le_refl _)) HLL0.out HCK.out).mono ?_
  rintro e w2 ⟨rfl, hb2⟩
  rw [HS.out]
  go_wp2_with fail
  go_ret
  exact ⟨rfl, belSeq HB.out hb2⟩

set_option maxHeartbeats 2000000 in
theorem parse8 (w : World) : Calls Tryd.prog 42 #[.string ⟨#[97, 98, 0, 0, 136, 0, 0, 5]⟩] w fun e w' => e = .returned (.tuple #[pduV 8 0 5 0 0 (.slice none 0 0) false ⟨#[97, 98]⟩, .int .i64 0]) ∧ Below w.heap.size w w' := by
  have HT := Lib.hid (fun b w hc hf => take8 b w hc hf)
  go_enter Tryd.func42, Tryd.ntmps42
  go_wp2_with fail
  refine (HT.out _ _ (by simp) (by simp)).mono ?_
  rintro e w1 ⟨rfl, rfl⟩
  go_wp2_with fail
  refine (low8 _).mono ?_
  rintro e w1 ⟨rfl, rfl⟩
  have e1 : bits .and .u32 136 15 = 8 := by decide
  have e2 : bits .and .u32 4 1 = 0 := by decide
  have e3 : wrap64 8 = 8 := by decide +kernel
  have e4 : wrap64 2 = 2 := by decide +kernel
  go_wp2_with fail
  refine (shape8 _).mono ?_
  rintro e w1 ⟨rfl, hb⟩
  have hsz : w.heap.size + 3 ≤ w1.heap.size := by have := hb.size; simp at this; omega
  have hcl := fun b o h => bcell hb b o h
  have hfz := fun b o h => bfroz hb b o h
  have HB := Lib.hid hb
  clear hb e1 e2 e3
  go_wp2_with fail
  refine (fixed8 _).mono ?_
  rintro e w2 ⟨rfl, hb2⟩
  have hsz2 : w1.heap.size + 1 ≤ w2.heap.size := by have := hb2.size; simp at this; omega
  have hB2 := HB.out.trans (((Below.refl _ w1).alloc (Nat.le_refl _) _).trans (hb2.mono (by simp)) |>.mono HB.out.size)
  clear hcl hfz
  have hcl := fun b o h => bcell hB2 b o h
  have hfz := fun b o h => bfroz hB2 b o h
  have hc2 := fun b o h => bcell hb2 b o h
  have s0 : ∀ o, w2.cell? ⟨w1.heap.size, o, none⟩ = _ := fun o => (bcell hb2 w1.heap.size o (by simp)).trans (World.cell?_alloc_new _ _ _ o)
  have HB2 := Lib.hid hB2
  clear hb2 hB2 HB hc2
  go_wp2_with fail
  have t0 : w2.cell? ⟨w.heap.size + 1, 0, none⟩ = some (.string ⟨#[97, 98, 0, 0]⟩) := (hcl _ _ (by first | (simp; done) | (simp; omega))).trans (by first | (go_simp; done) | (simp [go_sem]; done))
  have c0 : w2.cell? ⟨w.heap.size + 1 + 1, 0, none⟩ = some (.int .i64 8) := (hcl _ _ (by first | (simp; done) | (simp; omega))).trans (by first | (go_simp; done) | (simp [go_sem]; done))
  have c1 : w2.cell? ⟨w.heap.size + 1 + 1, 1, none⟩ = some (.int .i64 0) := (hcl _ _ (by first | (simp; done) | (simp; omega))).trans (by first | (go_simp; done) | (simp [go_sem]; done))
  have c2 : w2.cell? ⟨w.heap.size + 1 + 1, 2, none⟩ = some (.int .u32 5) := (hcl _ _ (by first | (simp; done) | (simp; omega))).trans (by first | (go_simp; done) | (simp [go_sem]; done))
  have c3 : w2.cell? ⟨w.heap.size + 1 + 1, 3, none⟩ = some (.int .u32 0) := (hcl _ _ (by first | (simp; done) | (simp; omega))).trans (by first | (go_simp; done) | (simp [go_sem]; done))
  have c4 : w2.cell? ⟨w.heap.size + 1 + 1, 4, none⟩ = some (.int .u32 0) := (hcl _ _ (by first | (simp; done) | (simp; omega))).trans (by first | (go_simp; done) | (simp [go_sem]; done))
  have c5 : w2.cell? ⟨w.heap.size + 1 + 1, 5, none⟩ = some (.slice none 0 0) := (hcl _ _ (by first | (simp; done) | (simp; omega))).trans (by first | (go_simp; done) | (simp [go_sem]; done))
  have c6 : w2.cell? ⟨w.heap.size + 1 + 1, 6, none⟩ = some (.bool false) := (hcl _ _ (by first | (simp; done) | (simp; omega))).trans (by first | (go_simp; done) | (simp [go_sem]; done))
  have c7 : w2.cell? ⟨w.heap.size + 1 + 1, 7, none⟩ = some (.string ⟨#[]⟩) := (hcl _ _ (by first | (simp; done) | (simp; omega))).trans (by first | (go_simp; done) | (simp [go_sem]; done))
  have r0 : w2.cell? ⟨w.heap.size, 0, none⟩ = some (.int .i64 0) := (hcl _ _ (by first | (simp; done) | (simp; omega))).trans (by first | (go_simp; done) | (simp [go_sem]; done))
  have fr0 : w2.frozen? ⟨w.heap.size, 0, none⟩ = false := (hfz _ _ (by first | (simp; done) | (simp; omega))).trans (by first | (go_simp; done) | (simp [go_sem]; done))
  have r1 : w2.cell? ⟨w.heap.size, 1, none⟩ = some (.int .i64 0) := (hcl _ _ (by first | (simp; done) | (simp; omega))).trans (by first | (go_simp; done) | (simp [go_sem]; done))
  have fr1 : w2.frozen? ⟨w.heap.size, 1, none⟩ = false := (hfz _ _ (by first | (simp; done) | (simp; omega))).trans (by first | (go_simp; done) | (simp [go_sem]; done))
  have r2 : w2.cell? ⟨w.heap.size, 2, none⟩ = some (.int .u32 0) := (hcl _ _ (by first | (simp; done) | (simp; omega))).trans (by first | (go_simp; done) | (simp [go_sem]; done))
  have fr2 : w2.frozen? ⟨w.heap.size, 2, none⟩ = false := (hfz _ _ (by first | (simp; done) | (simp; omega))).trans (by first | (go_simp; done) | (simp [go_sem]; done))
  have r3 : w2.cell? ⟨w.heap.size, 3, none⟩ = some (.int .u32 0) := (hcl _ _ (by first | (simp; done) | (simp; omega))).trans (by first | (go_simp; done) | (simp [go_sem]; done))
  have fr3 : w2.frozen? ⟨w.heap.size, 3, none⟩ = false := (hfz _ _ (by first | (simp; done) | (simp; omega))).trans (by first | (go_simp; done) | (simp [go_sem]; done))
  have r4 : w2.cell? ⟨w.heap.size, 4, none⟩ = some (.int .u32 0) := (hcl _ _ (by first | (simp; done) | (simp; omega))).trans (by first | (go_simp; done) | (simp [go_sem]; done))
  have fr4 : w2.frozen? ⟨w.heap.size, 4, none⟩ = false := (hfz _ _ (by first | (simp; done) | (simp; omega))).trans (by first | (go_simp; done) | (simp [go_sem]; done))
  have r5 : w2.cell? ⟨w.heap.size, 5, none⟩ = some (.slice none 0 0) := (hcl _ _ (by first | (simp; done) | (simp; omega))).trans (by first | (go_simp; done) | (simp [go_sem]; done))
  have fr5 : w2.frozen? ⟨w.heap.size, 5, none⟩ = false := (hfz _ _ (by first | (simp; done) | (simp; omega))).trans (by first | (go_simp; done) | (simp [go_sem]; done))
  have r6 : w2.cell? ⟨w.heap.size, 6, none⟩ = some (.bool false) := (hcl _ _ (by first | (simp; done) | (simp; omega))).trans (by first | (go_simp; done) | (simp [go_sem]; done))
  have fr6 : w2.frozen? ⟨w.heap.size, 6, none⟩ = false := (hfz _ _ (by first | (simp; done) | (simp; omega))).trans (by first | (go_simp; done) | (simp [go_sem]; done))
  have r7 : w2.cell? ⟨w.heap.size, 7, none⟩ = some (.string ⟨#[]⟩) := (hcl _ _ (by first | (simp; done) | (simp; omega))).trans (by first | (go_simp; done) | (simp [go_sem]; done))
  have fr7 : w2.frozen? ⟨w.heap.size, 7, none⟩ = false := (hfz _ _ (by first | (simp; done) | (simp; omega))).trans (by first | (go_simp; done) | (simp [go_sem]; done))
  have fp7 : w2.frozen? ⟨w.heap.size + 1 + 1, 7, none⟩ = false := (hfz _ _ (by first | (simp; done) | (simp; omega))).trans (by first | (go_simp; done) | (simp [go_sem]; done))
  have sh1 : w2.cell? ⟨w1.heap.size, 1, none⟩ = some (.bool false) := s0 1
  clear hcl hfz s0
  refine wp_loop_rounds 1 ?_
  rw [rounds_succ]
  go_wp2_with fail
  refine (reverse_nil _).mono ?_
  rintro e w3 ⟨rfl, rfl⟩
  go_wp2_with fail
  go_region
  all_goals
    go_wp2_with fail
    rw [show (⟨#[97, 98, 0, 0]⟩ : ByteArray).extract 0 2 = ⟨#[97, 98]⟩ from rfl]
    have HB4 : Hid (Below w.heap.size w (w2.setCell ⟨w.heap.size + 1 + 1, 7, none⟩ (.string ⟨#[97, 98]⟩)).drew) := Lib.hid (((((((Below.refl w.heap.size w).alloc (Nat.le_refl _) _).alloc (by simp) _).alloc (by simp; omega) _).drew.trans (HB2.out.mono (by simp; omega))).setCell (by simp; omega) _).drew)
    have d0 : (w2.setCell ⟨w.heap.size + 1 + 1, 7, none⟩ (.string ⟨#[97, 98]⟩)).drew.cell? ⟨w.heap.size + 1 + 1, 0, none⟩ = some (.int .i64 8) := by go_simp
    have d1 : (w2.setCell ⟨w.heap.size + 1 + 1, 7, none⟩ (.string ⟨#[97, 98]⟩)).drew.cell? ⟨w.heap.size + 1 + 1, 1, none⟩ = some (.int .i64 0) := by go_simp
    have d2 : (w2.setCell ⟨w.heap.size + 1 + 1, 7, none⟩ (.string ⟨#[97, 98]⟩)).drew.cell? ⟨w.heap.size + 1 + 1, 2, none⟩ = some (.int .u32 5) := by go_simp
    have d3 : (w2.setCell ⟨w.heap.size + 1 + 1, 7, none⟩ (.string ⟨#[97, 98]⟩)).drew.cell? ⟨w.heap.size + 1 + 1, 3, none⟩ = some (.int .u32 0) := by go_simp
    have d4 : (w2.setCell ⟨w.heap.size + 1 + 1, 7, none⟩ (.string ⟨#[97, 98]⟩)).drew.cell? ⟨w.heap.size + 1 + 1, 4, none⟩ = some (.int .u32 0) := by go_simp
    have d5 : (w2.setCell ⟨w.heap.size + 1 + 1, 7, none⟩ (.string ⟨#[97, 98]⟩)).drew.cell? ⟨w.heap.size + 1 + 1, 5, none⟩ = some (.slice none 0 0) := by go_simp
    have d6 : (w2.setCell ⟨w.heap.size + 1 + 1, 7, none⟩ (.string ⟨#[97, 98]⟩)).drew.cell? ⟨w.heap.size + 1 + 1, 6, none⟩ = some (.bool false) := by go_simp
    have d7 : (w2.setCell ⟨w.heap.size + 1 + 1, 7, none⟩ (.string ⟨#[97, 98]⟩)).drew.cell? ⟨w.heap.size + 1 + 1, 7, none⟩ = some (.string ⟨#[97, 98]⟩) := by go_simp
    have x0 : (w2.setCell ⟨w.heap.size + 1 + 1, 7, none⟩ (.string ⟨#[97, 98]⟩)).drew.cell? ⟨w.heap.size, 0, none⟩ = some (.int .i64 0) := by go_simp
    have y0 : (w2.setCell ⟨w.heap.size + 1 + 1, 7, none⟩ (.string ⟨#[97, 98]⟩)).drew.frozen? ⟨w.heap.size, 0, none⟩ = false := by go_simp
    have x1 : (w2.setCell ⟨w.heap.size + 1 + 1, 7, none⟩ (.string ⟨#[97, 98]⟩)).drew.cell? ⟨w.heap.size, 1, none⟩ = some (.int .i64 0) := by go_simp
    have y1 : (w2.setCell ⟨w.heap.size + 1 + 1, 7, none⟩ (.string ⟨#[97, 98]⟩)).drew.frozen? ⟨w.heap.size, 1, none⟩ = false := by go_simp
    have x2 : (w2.setCell ⟨w.heap.size + 1 + 1, 7, none⟩ (.string ⟨#[97, 98]⟩)).drew.cell? ⟨w.heap.size, 2, none⟩ = some (.int .u32 0) := by go_simp
    have y2 : (w2.setCell ⟨w.heap.size + 1 + 1, 7, none⟩ (.string ⟨#[97, 98]⟩)).drew.frozen? ⟨w.heap.size, 2, none⟩ = false := by go_simp
    have x3 : (w2.setCell ⟨w.heap.size + 1 + 1, 7, none⟩ (.string ⟨#[97, 98]⟩)).drew.cell? ⟨w.heap.size, 3, none⟩ = some (.int .u32 0) := by go_simp
    have y3 : (w2.setCell ⟨w.heap.size + 1 + 1, 7, none⟩ (.string ⟨#[97, 98]⟩)).drew.frozen? ⟨w.heap.size, 3, none⟩ = false := by go_simp
    have x4 : (w2.setCell ⟨w.heap.size + 1 + 1, 7, none⟩ (.string ⟨#[97, 98]⟩)).drew.cell? ⟨w.heap.size, 4, none⟩ = some (.int .u32 0) := by go_simp
    have y4 : (w2.setCell ⟨w.heap.size + 1 + 1, 7, none⟩ (.string ⟨#[97, 98]⟩)).drew.frozen? ⟨w.heap.size, 4, none⟩ = false := by go_simp
    have x5 : (w2.setCell ⟨w.heap.size + 1 + 1, 7, none⟩ (.string ⟨#[97, 98]⟩)).drew.cell? ⟨w.heap.size, 5, none⟩ = some (.slice none 0 0) := by go_simp
    have y5 : (w2.setCell ⟨w.heap.size + 1 + 1, 7, none⟩ (.string ⟨#[97, 98]⟩)).drew.frozen? ⟨w.heap.size, 5, none⟩ = false := by go_simp
    have x6 : (w2.setCell ⟨w.heap.size + 1 + 1, 7, none⟩ (.string ⟨#[97, 98]⟩)).drew.cell? ⟨w.heap.size, 6, none⟩ = some (.bool false) := by go_simp
    have y6 : (w2.setCell ⟨w.heap.size + 1 + 1, 7, none⟩ (.string ⟨#[97, 98]⟩)).drew.frozen? ⟨w.heap.size, 6, none⟩ = false := by go_simp
    have x7 : (w2.setCell ⟨w.heap.size + 1 + 1, 7, none⟩ (.string ⟨#[97, 98]⟩)).drew.cell? ⟨w.heap.size, 7, none⟩ = some (.string ⟨#[]⟩) := by go_simp
    have y7 : (w2.setCell ⟨w.heap.size + 1 + 1, 7, none⟩ (.string ⟨#[97, 98]⟩)).drew.frozen? ⟨w.heap.size, 7, none⟩ = false := by go_simp
    have hsz4 : w.heap.size + 3 ≤ (w2.setCell ⟨w.heap.size + 1 + 1, 7, none⟩ (.string ⟨#[97, 98]⟩)).drew.heap.size := by simp; omega
    clear c0 c1 c2 c3 c4 c5 c6 c7 r0 r1 r2 r3 r4 r5 r6 r7 fr0 fr1 fr2 fr3 fr4 fr5 fr6 fr7 fp7 t0 sh1
    generalize (w2.setCell ⟨w.heap.size + 1 + 1, 7, none⟩ (.string ⟨#[97, 98]⟩)).drew = w4 at *
    refine (told_ok (w.heap.size + 1 + 1) 8 0 5 0 0 (.slice none 0 0) [] false ⟨#[97, 98]⟩ ⟨#[97, 98, 0, 0, 136, 0, 0, 5]⟩ w4 (by omega) (by omega) (by omega) (IntsR.nil _ _) (by simp) (by decide +kernel) (by decide +kernel) d0 d1 d2 d3 d4 d5 d6 d7).mono ?_
    rintro e w5 ⟨rfl, hb5⟩
    replace d0 := (bcell hb5 (w.heap.size + 1 + 1) 0 (by omega)).trans d0
    replace x0 := (bcell hb5 w.heap.size 0 (by omega)).trans x0
    replace y0 := (bfroz hb5 w.heap.size 0 (by omega)).trans y0
    replace d1 := (bcell hb5 (w.heap.size + 1 + 1) 1 (by omega)).trans d1
    replace x1 := (bcell hb5 w.heap.size 1 (by omega)).trans x1
    replace y1 := (bfroz hb5 w.heap.size 1 (by omega)).trans y1
    replace d2 := (bcell hb5 (w.heap.size + 1 + 1) 2 (by omega)).trans d2
    replace x2 := (bcell hb5 w.heap.size 2 (by omega)).trans x2
    replace y2 := (bfroz hb5 w.heap.size 2 (by omega)).trans y2
    replace d3 := (bcell hb5 (w.heap.size + 1 + 1) 3 (by omega)).trans d3
    replace x3 := (bcell hb5 w.heap.size 3 (by omega)).trans x3
    replace y3 := (bfroz hb5 w.heap.size 3 (by omega)).trans y3
    replace d4 := (bcell hb5 (w.heap.size + 1 + 1) 4 (by omega)).trans d4
    replace x4 := (bcell hb5 w.heap.size 4 (by omega)).trans x4
    replace y4 := (bfroz hb5 w.heap.size 4 (by omega)).trans y4
    replace d5 := (bcell hb5 (w.heap.size + 1 + 1) 5 (by omega)).trans d5
    replace x5 := (bcell hb5 w.heap.size 5 (by omega)).trans x5
    replace y5 := (bfroz hb5 w.heap.size 5 (by omega)).trans y5
    replace d6 := (bcell hb5 (w.heap.size + 1 + 1) 6 (by omega)).trans d6
    replace x6 := (bcell hb5 w.heap.size 6 (by omega)).trans x6
    replace y6 := (bfroz hb5 w.heap.size 6 (by omega)).trans y6
    replace d7 := (bcell hb5 (w.heap.size + 1 + 1) 7 (by omega)).trans d7
    replace x7 := (bcell hb5 w.heap.size 7 (by omega)).trans x7
    replace y7 := (bfroz hb5 w.heap.size 7 (by omega)).trans y7
    have HB5 := Lib.hid (HB4.out.trans (hb5.mono (by omega)))
    clear hb5 HB4 HB2
    go_wp2_with fail
    refine bodyPost_ret (v := .tuple #[pduV 8 0 5 0 0 (.slice none 0 0) false ⟨#[97, 98]⟩, .int .i64 0]) (by unfold pduV; simp [results, Tryd.results42, go_sem, x0, x1, x2, x3, x4, x5, x6, x7]) rfl ⟨rfl, ?_⟩
    exact (((((((HB5.out.setCell (p := ⟨w.heap.size, 0, none⟩) (Nat.le_refl _) _).setCell (p := ⟨w.heap.size, 1, none⟩) (Nat.le_refl _) _).setCell (p := ⟨w.heap.size, 2, none⟩) (Nat.le_refl _) _).setCell (p := ⟨w.heap.size, 3, none⟩) (Nat.le_refl _) _).setCell (p := ⟨w.heap.size, 4, none⟩) (Nat.le_refl _) _).setCell (p := ⟨w.heap.size, 5, none⟩) (Nat.le_refl _) _).setCell (p := ⟨w.heap.size, 6, none⟩) (Nat.le_refl _) _).setCell (p := ⟨w.heap.size, 7, none⟩) (Nat.le_refl _) _
end Go.Proofs.YtdggnpecbdnkeaaDoor
