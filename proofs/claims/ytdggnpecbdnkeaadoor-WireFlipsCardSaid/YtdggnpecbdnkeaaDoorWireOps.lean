/-
  Contracts of wire.New and of (*Wire).Sound.
  Contracts of (*Wire).Pack, wire.Size and the document's Pack.
  Contract of (*Wire).Open: of bytes that are no frame.
  Contract of (*Wire).Open at a packed unit: the unit comes back.
  Contract of the law's awake (layer 7).
-/
import Derived.Test.YtdggnpecbdnkeaaDoorFrUnlike
import Derived.Test.YtdggnpecbdnkeaaDoorPduLaw
import Derived.Test.YtdggnpecbdnkeaaDoorRefCheck
import Derived.Test.YtdggnpecbdnkeaaDoorRefBytes
import Derived.Test.YtdggnpecbdnkeaaDoorRefFrBytes
import Derived.Test.YtdggnpecbdnkeaaDoorPduParse
set_option linter.unusedVariables false
set_option linter.unusedSimpArgs false
namespace Go.Proofs.YtdggnpecbdnkeaaDoor
open Go.RowKit

theorem fill_list : ∀ (vs pre post : List Value), post.length = vs.length → (vs.zipIdx pre.length).foldl (fun (cs : Array Value) x => cs.setIfInBounds x.2 x.1) (pre ++ post).toArray = (pre ++ vs).toArray
  | [], pre, [], _ => rfl
  | v :: vs, pre, p :: post, h => by
    rw [List.zipIdx_cons, List.foldl_cons]
    have e : (pre ++ p :: post).toArray.setIfInBounds pre.length v = ((pre ++ [v]) ++ post).toArray := by
      rw [List.setIfInBounds_toArray]
      congr 1
      rw [List.set_append_right _ _ (Nat.le_refl _)]
      simp
    show List.foldl _ ((pre ++ p :: post).toArray.setIfInBounds pre.length v) _ = _
    rw [e]
    have := fill_list vs (pre ++ [v]) post (by simpa using h)
    rw [List.length_append, List.length_singleton] at this
    rw [this]
    simp
theorem fill_all (TC Z : Array Value) (h : Z.size = TC.size) : Array.foldl (fun (cs : Array Value) x => cs.setIfInBounds x.2 x.1) Z TC.zipIdx 0 TC.size = TC := by
  have h1 : Array.foldl (fun (cs : Array Value) x => cs.setIfInBounds x.2 x.1) Z TC.zipIdx 0 TC.size = List.foldl (fun (cs : Array Value) x => cs.setIfInBounds x.2 x.1) Z TC.zipIdx.toList := by
    rw [Array.foldl_toList, Array.size_zipIdx]
  rw [h1, Array.toList_zipIdx]
  have := fill_list TC.toList [] Z.toList (by simpa using h)
  simpa using this
theorem zero_wire : Tryd.zeroCells81 = (tabUpto 0).toArray := by kernel_rfl
theorem wire_cells : Array.foldl (fun (cs : Array Value) x => cs.setIfInBounds x.2 x.1) Tryd.zeroCells81 tabCells.toArray.zipIdx 0 256 = tabCells.toArray := by
  have h := fill_all tabCells.toArray Tryd.zeroCells81 (by rw [zero_wire, tabCells_size]; simp [tabUpto])
  rw [tabCells_size] at h
  exact h
def NewPost (w : World) (e : Ending) (w' : World) : Prop := ∃ b, e = .returned (.pointer (some ⟨b, 0, none⟩)) ∧ TabAt w' b ∧ Below w.heap.size w w'
set_option maxRecDepth 100000 in
set_option maxHeartbeats 1000000 in
theorem new_any (w : World) : Calls Tryd.prog 26 #[] w (NewPost w) := by
  have HMK := Lib.hid make_any
  go_enter Tryd.func26, Tryd.ntmps26
  go_wp2_with fail
  refine (HMK.out _).mono ?_
  rintro e w1 ⟨rfl, hb1⟩
  have HB1 := Lib.hid hb1
  clear hb1
  have hz := tabCells_size
  have HWC := Lib.hid wire_cells
  have HN := Lib.hid (BoxAt.new w1 81 tabCells)
  generalize tabCells.toArray = TC at *
  go_wp2_with fail
  rw [HWC.out]
  go_ret
  exact ⟨w1.heap.size, rfl, TabAt.of_box HN.out, HB1.out.alloc HB1.out.size _⟩

def soundB (l : List UInt8) : Bool := decide (l.length ≠ 0) && decide (l.length % 48 = 0) && fitsB l
set_option maxRecDepth 100000 in
set_option maxHeartbeats 1000000 in
theorem sound_any (tb : Nat) (s : ByteArray) (w : World) (ht : TabAt w tb) (hs : s.size ≤ 100000) :
    Calls Tryd.prog 28 #[.pointer (some ⟨tb, 0, none⟩), .string s] w fun e w' => e = .returned (.bool (soundB s.data.toList)) ∧ Below w.heap.size w w' := by
  have HFT := Lib.hid (fits_any tb s w ht hs)
  have HS : Hid (soundB s.data.toList = (decide (s.size ≠ 0) && decide (s.size % 48 = 0) && fitsB s.data.toList)) := Lib.hid (by unfold soundB; rw [size_len])
  generalize soundB s.data.toList = R at *
  generalize fitsB s.data.toList = F at *
  clear ht
  by_cases h0 : s.size = 0
  · have he := empty_bool h0
    have HR : Hid (R = false) := Lib.hid (by rw [HS.out, decide_eq_false (by omega)]; rfl)
    clear HS h0
    go_enter Tryd.func28, Tryd.ntmps28
    go_wp2_with fail
    go_ret
    exact ⟨ret_bool (by rw [HR.out]), Below.refl _ _⟩
  · have he := full_bool h0
    by_cases h1 : s.size % 48 = 0
    · have HR : Hid (R = F) := Lib.hid (by rw [HS.out, decide_eq_true h0, decide_eq_true h1]; rfl)
      have hm : ((s.size : Int) % 48 == 0) = true := by simp; omega
      clear HS h0 h1
      go_enter Tryd.func28, Tryd.ntmps28
      go_wp2_with fail
      refine HFT.out.mono ?_
      rintro e w1 ⟨rfl, hb1⟩
      have HB1 := Lib.hid hb1
      clear hb1
      go_wp2_with fail
      go_ret
      exact ⟨ret_bool (by rw [HR.out]), HB1.out⟩
    · have HR : Hid (R = false) := Lib.hid (by rw [HS.out, decide_eq_false h1, Bool.and_false]; rfl)
      have hm : ((s.size : Int) % 48 == 0) = false := by simp; omega
      clear HS h0 h1
      go_enter Tryd.func28, Tryd.ntmps28
      go_wp2_with fail
      go_ret
      exact ⟨ret_bool (by rw [HR.out]), Below.refl _ _⟩
end Go.Proofs.YtdggnpecbdnkeaaDoor
namespace Go.Proofs.YtdggnpecbdnkeaaDoor
open Go.RowKit
attribute [local go_sem ↓] Go.wp_at_zero Go.wp_at_succ

theorem bytesOf_le {k sq n ps mr : Int} {l : List Int} {self : Bool} {d : ByteArray} (hck : checkOf k sq n ps mr l self d.size = 0) : (bytesOf k sq n ps mr l self d.data.toList).length ≤ 2000 := by
  obtain ⟨hk1, hk2, hlen, hdl, hsq0, hsq1, hn1, hps1, hmr1, hll1⟩ := check_zero hck
  have h1 := wordsOf_length k sq ps mr l
  have h2 : (if sSq k then 1 else 0) ≤ 1 := by split <;> omega
  have h3 : (if sPs k then 1 else 0) ≤ 1 := by split <;> omega
  have h4 : (if sMr k then 1 else 0) ≤ 1 := by split <;> omega
  rw [bytesOf_length, size_len]; omega
/-- A unit's frame. -/
def packOf (k sq n ps mr : Int) (l : List Int) (self : Bool) (d : List UInt8) : List UInt8 := frameOf 0 (bytesOf k sq n ps mr l self d)
set_option maxRecDepth 100000 in
set_option maxHeartbeats 1000000 in
theorem pack_bad (tb : Nat) (k sq n ps mr : Int) (lv : Value) (l : List Int) (self : Bool) (d : ByteArray) (w : World)
    (hn : 0 ≤ n ∧ n < 4294967296) (hps : 0 ≤ ps ∧ ps < 4294967296) (hmr : 0 ≤ mr ∧ mr < 4294967296) (hl : IntsR .u32 w lv l) (hll : ∀ x ∈ l, 0 ≤ x ∧ x < 4294967296)
    (hd : d.size ≤ 1000000) (hlen : l.length ≤ 1000000) (hck : checkOf k sq n ps mr l self d.size ≠ 0) :
    Calls Tryd.prog 31 #[.pointer (some ⟨tb, 0, none⟩), pduV k sq n ps mr lv self d] w fun e w' => e = .returned (.tuple #[.string ⟨#[]⟩, .int .i64 (checkOf k sq n ps mr l self d.size)]) ∧ Below w.heap.size w w' := by
  have HLL := Lib.hid hll
  have hck2 : (checkOf k sq n ps mr l self d.size != 0) = true := by simpa using hck
  have HCK := Lib.hid (check_any k sq n ps mr lv l self d (w.alloc (.cells #[.int .i64 k, .int .i64 sq, .int .u32 n, .int .u32 ps, .int .u32 mr, lv, .bool self, .string d] 59)) hn hps hmr hl.alloc HLL.out hd hlen)
  unfold pduV at *
  generalize checkOf k sq n ps mr l self d.size = R at *
  clear hll hck
  go_enter Tryd.func31, Tryd.ntmps31
  go_wp2_with fail
  refine HCK.out.mono ?_
  rintro e w1 ⟨rfl, hb⟩
  go_wp2_with fail
  go_ret2
  exact ⟨rfl, belAlloc hb (by simp)⟩

set_option maxRecDepth 100000 in
set_option maxHeartbeats 1000000 in
theorem pack_ok (tb : Nat) (k sq n ps mr : Int) (lv : Value) (l : List Int) (self : Bool) (d : ByteArray) (w : World) (ht : TabAt w tb)
    (hn : 0 ≤ n ∧ n < 4294967296) (hps : 0 ≤ ps ∧ ps < 4294967296) (hmr : 0 ≤ mr ∧ mr < 4294967296) (hl : IntsR .u32 w lv l) (hll : ∀ x ∈ l, 0 ≤ x ∧ x < 4294967296)
    (hck : checkOf k sq n ps mr l self d.size = 0) :
    Calls Tryd.prog 31 #[.pointer (some ⟨tb, 0, none⟩), pduV k sq n ps mr lv self d] w fun e w' => e = .returned (.tuple #[.string ⟨(packOf k sq n ps mr l self d.data.toList).toArray⟩, .int .i64 0]) ∧ Below w.heap.size w w' := by
  obtain ⟨hk1, hk2, hlen, hdl, _, _, _, _, _, _⟩ := check_zero hck
  have HT := Lib.hid ht
  have htl := ht.lt
  have HL := Lib.hid hl
  obtain ⟨al, cl', rfl, _, _, _⟩ := hl.len
  have HCK := Lib.hid (check_any k sq n ps mr (.slice al l.length cl') l self d (w.alloc (.cells #[.int .i64 k, .int .i64 sq, .int .u32 n, .int .u32 ps, .int .u32 mr, .slice al l.length cl', .bool self, .string d] 59)) hn hps hmr hl.alloc hll (by omega) (by omega))
  rw [hck] at HCK
  have HBY := Lib.hid (fun (w : World) (h : IntsR .u32 w (.slice al l.length cl') l) => bytes_ok k sq n ps mr (.slice al l.length cl') l self d w hn.1 hps.1 hmr.1 h (fun x hx => (hll x hx).1) hck)
  have hble := bytesOf_le (n := n) (ps := ps) (mr := mr) (self := self) hck
  have HFB : Hid (∀ w : World, TabAt w tb → Calls Tryd.prog 16 #[.agg #[.int .u8 0, .string ⟨(bytesOf k sq n ps mr l self d.data.toList).toArray⟩], .pointer (some ⟨tb, 0, none⟩)] w fun e w' => e = .returned (.tuple #[.string ⟨(packOf k sq n ps mr l self d.data.toList).toArray⟩, .int .i64 0]) ∧ Below w.heap.size w w') := Lib.hid (fun w ht => frBytes_ok 0 ⟨(bytesOf k sq n ps mr l self d.data.toList).toArray⟩ tb w ht (by rw [size_arr]; omega))
  generalize (⟨(bytesOf k sq n ps mr l self d.data.toList).toArray⟩ : ByteArray) = BB at *
  generalize (⟨(packOf k sq n ps mr l self d.data.toList).toArray⟩ : ByteArray) = PP at *
  unfold pduV at *
  clear ht hl hll hck hble
  go_enter Tryd.func31, Tryd.ntmps31
  have HBX0 := Lib.hid (BoxAt.new w 59 [.int .i64 k, .int .i64 sq, .int .u32 n, .int .u32 ps, .int .u32 mr, .slice al l.length cl', .bool self, .string d])
  go_wp2_with fail
  refine HCK.out.mono ?_
  rintro e w1 ⟨rfl, hb⟩
  have HBX := Lib.hid (HBX0.out.below hb (by simp))
  have HB1 := Lib.hid (belAlloc hb (by simp))
  have HT1 := Lib.hid (HT.out.below (belAlloc hb (by simp)) htl)
  have HL1 := Lib.hid (HL.out.below (belAlloc hb (by simp)) (Nat.le_refl _))
  have hpx := HBX.out.lt
  have htl1 := HT1.out.lt
  clear hb HBX0 HT HL HCK
  go_wp2_with fail
  have HBA := Lib.hid (Below.refl w1.heap.size w1).drew
  go_region_held3 (fun w' => w'.cell? ⟨w.heap.size, 0, none⟩ = some (.int .i64 k) ∧ w'.cell? ⟨w.heap.size, 1, none⟩ = some (.int .i64 sq) ∧ w'.cell? ⟨w.heap.size, 2, none⟩ = some (.int .u32 n) ∧ w'.cell? ⟨w.heap.size, 3, none⟩ = some (.int .u32 ps) ∧ w'.cell? ⟨w.heap.size, 4, none⟩ = some (.int .u32 mr) ∧ w'.cell? ⟨w.heap.size, 5, none⟩ = some (.slice al l.length cl') ∧ w'.cell? ⟨w.heap.size, 6, none⟩ = some (.bool self) ∧ w'.cell? ⟨w.heap.size, 7, none⟩ = some (.string d)) (exact (HBX.out.below HBA.out hpx).cells8) (first | (go_at_call 36; (with_reducible refine (HBY.out _ (HL1.out.below HBA.out (Nat.le_refl _))).mono ?_); rintro e w' ⟨rfl, hb⟩; have HBA : Hid (Below w1.heap.size w1 w') := Lib.hid (belSeq2 HBA.out hb); clear hb) | (go_at_call 16; (with_reducible refine (HFB.out _ (HT1.out.below HBA.out htl1)).mono ?_); rintro e w' ⟨rfl, hb⟩; have HBA : Hid (Below w1.heap.size w1 w') := Lib.hid (belSeq2 HBA.out hb); clear hb))
  all_goals
    go_wp2_with fail
    go_ret2
    exact ⟨rfl, belSeq HB1.out HBA.out⟩

set_option maxRecDepth 100000 in
set_option maxHeartbeats 1000000 in
theorem size_bad (k sq n ps mr : Int) (lv : Value) (l : List Int) (self : Bool) (d : ByteArray) (w : World)
    (hn : 0 ≤ n ∧ n < 4294967296) (hps : 0 ≤ ps ∧ ps < 4294967296) (hmr : 0 ≤ mr ∧ mr < 4294967296) (hl : IntsR .u32 w lv l) (hll : ∀ x ∈ l, 0 ≤ x ∧ x < 4294967296)
    (hd : d.size ≤ 1000000) (hlen : l.length ≤ 1000000) (hck : checkOf k sq n ps mr l self d.size ≠ 0) :
    Calls Tryd.prog 34 #[pduV k sq n ps mr lv self d] w fun e w' => e = .returned (.int .i64 0) ∧ Below w.heap.size w w' := by
  have HLL := Lib.hid hll
  have hck2 : (checkOf k sq n ps mr l self d.size != 0) = true := by simpa using hck
  have HCK := Lib.hid (check_any k sq n ps mr lv l self d (w.alloc (.cells #[.int .i64 k, .int .i64 sq, .int .u32 n, .int .u32 ps, .int .u32 mr, lv, .bool self, .string d] 59)) hn hps hmr hl.alloc HLL.out hd hlen)
  unfold pduV at *
  generalize checkOf k sq n ps mr l self d.size = R at *
  clear hll hck
  go_enter Tryd.func34, Tryd.ntmps34
  go_wp2_with fail
  refine HCK.out.mono ?_
  rintro e w1 ⟨rfl, hb⟩
  go_wp2_with fail
  go_ret
  exact ⟨rfl, belAlloc hb (by simp)⟩

set_option maxRecDepth 100000 in
set_option maxHeartbeats 1000000 in
theorem size_ok (k sq n ps mr : Int) (lv : Value) (l : List Int) (self : Bool) (d : ByteArray) (w : World)
    (hn : 0 ≤ n ∧ n < 4294967296) (hps : 0 ≤ ps ∧ ps < 4294967296) (hmr : 0 ≤ mr ∧ mr < 4294967296) (hl : IntsR .u32 w lv l) (hll : ∀ x ∈ l, 0 ≤ x ∧ x < 4294967296)
    (hck : checkOf k sq n ps mr l self d.size = 0) :
    Calls Tryd.prog 34 #[pduV k sq n ps mr lv self d] w fun e w' => e = .returned (.int .i64 (48 * cellsOf ((bytesOf k sq n ps mr l self d.data.toList).length : Int))) ∧ Below w.heap.size w w' := by
  obtain ⟨hk1, hk2, hlen, hdl, _, _, _, _, _, _⟩ := check_zero hck
  have HL := Lib.hid hl
  obtain ⟨al, cl', rfl, _, _, _⟩ := hl.len
  have HCK := Lib.hid (check_any k sq n ps mr (.slice al l.length cl') l self d (w.alloc (.cells #[.int .i64 k, .int .i64 sq, .int .u32 n, .int .u32 ps, .int .u32 mr, .slice al l.length cl', .bool self, .string d] 59)) hn hps hmr hl.alloc hll (by omega) (by omega))
  rw [hck] at HCK
  have HBY := Lib.hid (fun (w : World) (h : IntsR .u32 w (.slice al l.length cl') l) => bytes_ok k sq n ps mr (.slice al l.length cl') l self d w hn.1 hps.1 hmr.1 h (fun x hx => (hll x hx).1) hck)
  have hble := bytesOf_le (n := n) (ps := ps) (mr := mr) (self := self) hck
  have hBZ : (⟨(bytesOf k sq n ps mr l self d.data.toList).toArray⟩ : ByteArray).size = (bytesOf k sq n ps mr l self d.data.toList).length := size_arr _
  rw [← hBZ] at hble ⊢
  generalize (⟨(bytesOf k sq n ps mr l self d.data.toList).toArray⟩ : ByteArray) = BB at *
  have HC := Lib.hid (fun w => cells_any (BB.size : Int) (by omega) w)
  have hcb : cellsOf (BB.size : Int) ≤ 2000 ∧ 0 ≤ cellsOf (BB.size : Int) := by unfold cellsOf; rw [if_neg (by omega)]; omega
  generalize cellsOf (BB.size : Int) = cc at *
  obtain ⟨hcb1, hcb2⟩ := hcb
  unfold pduV at *
  clear hl hll hck hBZ
  go_enter Tryd.func34, Tryd.ntmps34
  have HBX0 := Lib.hid (BoxAt.new w 59 [.int .i64 k, .int .i64 sq, .int .u32 n, .int .u32 ps, .int .u32 mr, .slice al l.length cl', .bool self, .string d])
  go_wp2_with fail
  refine HCK.out.mono ?_
  rintro e w1 ⟨rfl, hb⟩
  have HBX := Lib.hid (HBX0.out.below hb (by simp))
  have HB1 := Lib.hid (belAlloc hb (by simp))
  have HL1 := Lib.hid (HL.out.below (belAlloc hb (by simp)) (Nat.le_refl _))
  obtain ⟨q0, q1, q2, q3, q4, q5, q6, q7⟩ := HBX.out.cells8
  clear hb HBX0 HL HCK
  go_wp2_with fail
  refine (HBY.out _ HL1.out).mono ?_
  rintro e w2 ⟨rfl, hb2⟩
  have HB2 := Lib.hid (belSeq HB1.out hb2)
  clear hb2
  go_wp2_with fail
  refine (HC.out _).mono ?_
  rintro e w3 ⟨rfl, rfl⟩
  go_wp2_with fail
  go_ret
  exact ⟨rfl, HB2.out⟩

set_option maxRecDepth 100000 in
set_option maxHeartbeats 1000000 in
theorem rpack_bad (k sq n ps mr : Int) (lv : Value) (l : List Int) (self : Bool) (d : ByteArray) (w : World)
    (hn : 0 ≤ n) (hps : 0 ≤ ps) (hmr : 0 ≤ mr) (hl : IntsR .i64 w lv l) (hll : ∀ x ∈ l, 0 ≤ x)
    (hd : d.size ≤ 1000000) (hlen : l.length ≤ 1000000) (hck : checkOf k sq n ps mr l self d.size ≠ 0) :
    Calls Tryd.prog 33 #[refV k sq n ps mr lv self d] w fun e w' => e = .returned (.string ⟨#[]⟩) ∧ Below w.heap.size w w' := by
  have HLL := Lib.hid hll
  have hck2 : (checkOf k sq n ps mr l self d.size != 0) = true := by simpa using hck
  have HCK := Lib.hid (rcheck_any k sq n ps mr lv l self d (w.alloc (.cells #[.int .i64 k, .int .i64 sq, .int .i64 n, .int .i64 ps, .int .i64 mr, lv, .bool self, .string d] 65)) hn hps hmr hl.alloc HLL.out hd hlen)
  unfold refV at *
  generalize checkOf k sq n ps mr l self d.size = R at *
  clear hll hck
  go_enter Tryd.func33, Tryd.ntmps33
  go_wp2_with fail
  refine HCK.out.mono ?_
  rintro e w1 ⟨rfl, hb⟩
  go_wp2_with fail
  go_ret
  exact ⟨rfl, belAlloc hb (by simp)⟩

set_option maxRecDepth 100000 in
set_option maxHeartbeats 1000000 in
theorem rpack_ok (k sq n ps mr : Int) (lv : Value) (l : List Int) (self : Bool) (d : ByteArray) (w : World)
    (hn : 0 ≤ n) (hps : 0 ≤ ps) (hmr : 0 ≤ mr) (hl : IntsR .i64 w lv l) (hll : ∀ x ∈ l, 0 ≤ x)
    (hck : checkOf k sq n ps mr l self d.size = 0) :
    Calls Tryd.prog 33 #[refV k sq n ps mr lv self d] w fun e w' => e = .returned (.string ⟨(packOf k sq n ps mr l self d.data.toList).toArray⟩) ∧ Below w.heap.size w w' := by
  obtain ⟨hk1, hk2, hlen, hdl, _, _, _, _, _, _⟩ := check_zero hck
  have HL := Lib.hid hl
  obtain ⟨al, cl', rfl, _, _, _⟩ := hl.len
  have HCK := Lib.hid (rcheck_any k sq n ps mr (.slice al l.length cl') l self d (w.alloc (.cells #[.int .i64 k, .int .i64 sq, .int .i64 n, .int .i64 ps, .int .i64 mr, .slice al l.length cl', .bool self, .string d] 65)) hn hps hmr hl.alloc hll (by omega) (by omega))
  rw [hck] at HCK
  have HBY := Lib.hid (fun (w : World) (h : IntsR .i64 w (.slice al l.length cl') l) => rbytes_ok k sq n ps mr (.slice al l.length cl') l self d w hn hps hmr h hll hck)
  have hble := bytesOf_le (n := n) (ps := ps) (mr := mr) (self := self) hck
  have HFB : Hid (∀ w : World, Calls Tryd.prog 18 #[.int .u8 0, .string ⟨(bytesOf k sq n ps mr l self d.data.toList).toArray⟩] w fun e w' => e = .returned (.string ⟨(packOf k sq n ps mr l self d.data.toList).toArray⟩) ∧ Below w.heap.size w w') := Lib.hid (fun w => rfBytes_any 0 ⟨(bytesOf k sq n ps mr l self d.data.toList).toArray⟩ w (by rw [size_arr]; omega))
  generalize (⟨(bytesOf k sq n ps mr l self d.data.toList).toArray⟩ : ByteArray) = BB at *
  generalize (⟨(packOf k sq n ps mr l self d.data.toList).toArray⟩ : ByteArray) = PP at *
  unfold refV at *
  clear hl hll hck hble
  go_enter Tryd.func33, Tryd.ntmps33
  have HBX0 := Lib.hid (BoxAt.new w 65 [.int .i64 k, .int .i64 sq, .int .i64 n, .int .i64 ps, .int .i64 mr, .slice al l.length cl', .bool self, .string d])
  go_wp2_with fail
  refine HCK.out.mono ?_
  rintro e w1 ⟨rfl, hb⟩
  have HBX := Lib.hid (HBX0.out.below hb (by simp))
  have HB1 := Lib.hid (belAlloc hb (by simp))
  have HL1 := Lib.hid (HL.out.below (belAlloc hb (by simp)) (Nat.le_refl _))
  obtain ⟨q0, q1, q2, q3, q4, q5, q6, q7⟩ := HBX.out.cells8
  clear hb HBX0 HL HCK
  go_wp2_with fail
  refine (HBY.out _ HL1.out).mono ?_
  rintro e w2 ⟨rfl, hb2⟩
  have HB2 := Lib.hid (belSeq HB1.out hb2)
  clear hb2
  go_wp2_with fail
  refine (HFB.out _).mono ?_
  rintro e w3 ⟨rfl, hb3⟩
  have HB3 := Lib.hid (belSeq HB2.out hb3)
  clear hb3
  go_wp2_with fail
  go_ret
  exact ⟨rfl, HB3.out⟩
end Go.Proofs.YtdggnpecbdnkeaaDoor
namespace Go.Proofs.YtdggnpecbdnkeaaDoor
open Go.RowKit
attribute [local go_sem ↓] Go.wp_at_zero Go.wp_at_succ

def zeroPdu : Value := pduV 0 0 0 0 0 (.slice none 0 0) false ⟨#[]⟩
set_option maxRecDepth 100000 in
set_option maxHeartbeats 1000000 in
theorem open_err (tb : Nat) (s : ByteArray) (er : Int) (w : World) (ht : TabAt w tb) (hs : s.size ≤ 100000) (h : frParse s.data.toList = (0, [], er)) (her : er ≠ 0) :
    Calls Tryd.prog 27 #[.pointer (some ⟨tb, 0, none⟩), .string s] w fun e w' => e = .returned (.tuple #[zeroPdu, .int .i64 er]) ∧ Below w.heap.size w w' := by
  have HT := Lib.hid ht
  have htl := ht.lt
  have HPA := Lib.hid (fun (w : World) (ht : TabAt w tb) => frParse_any tb s w ht hs)
  rw [h] at HPA
  unfold frV at HPA
  have hne : (er != 0) = true := by simpa using her
  clear ht h her
  go_enter Tryd.func27, Tryd.ntmps27
  have HBX0 := Lib.hid (BoxAt.new w 59 [.int .i64 0, .int .i64 0, .int .u32 0, .int .u32 0, .int .u32 0, .slice none 0 0, .bool false, .string ⟨#[]⟩])
  have HT1 := Lib.hid (HT.out.below ((Below.refl w.heap.size w).alloc (Nat.le_refl _) (.cells #[.int .i64 0, .int .i64 0, .int .u32 0, .int .u32 0, .int .u32 0, .slice none 0 0, .bool false, .string ⟨#[]⟩] 59)) htl)
  go_wp2_with fail
  refine (HPA.out _ HT1.out).mono ?_
  rintro e w1 ⟨rfl, hb⟩
  have hbx := (HBX0.out.below hb (by simp)).alloc (o := .cells #[.int .u8 0, .string ⟨#[]⟩] 31)
  have HB1 := Lib.hid (belAlloc hb (by simp))
  obtain ⟨q0, q1, q2, q3, q4, q5, q6, q7⟩ := hbx.cells8
  obtain ⟨f0, f1, f2, f3, f4, f5, f6, f7⟩ := hbx.frozs8
  clear hb hbx HBX0 HT HT1
  go_wp2_with fail
  exact bodyPost_ret (v := .tuple #[zeroPdu, .int .i64 er]) (by unfold zeroPdu pduV; simp [results, Tryd.results27, go_sem, q0, q1, q2, q3, q4, q5, q6, q7]) rfl
    ⟨rfl, ((((((((HB1.out.alloc HB1.out.size _).setCell (Nat.le_refl _) _).setCell (Nat.le_refl _) _).setCell (Nat.le_refl _) _).setCell (Nat.le_refl _) _).setCell (Nat.le_refl _) _).setCell (Nat.le_refl _) _).setCell (Nat.le_refl _) _).setCell (Nat.le_refl _) _⟩
end Go.Proofs.YtdggnpecbdnkeaaDoor
namespace Go.Proofs.YtdggnpecbdnkeaaDoor
open Go.RowKit
attribute [local go_sem ↓] Go.wp_at_zero Go.wp_at_succ

set_option maxRecDepth 100000 in
set_option maxHeartbeats 1000000 in
theorem open_ok (tb : Nat) (k sq n ps mr : Int) (l : List Int) (self : Bool) (d s : ByteArray) (w : World) (ht : TabAt w tb) (hn : 0 ≤ n) (hps : 0 ≤ ps) (hmr : 0 ≤ mr) (hll : ∀ x ∈ l, 0 ≤ x) (hck : checkOf k sq n ps mr l self d.size = 0)
    (hs : s.data.toList = packOf k sq n ps mr l self d.data.toList) :
    Calls Tryd.prog 27 #[.pointer (some ⟨tb, 0, none⟩), .string s] w (ParsePost w k sq n ps mr l self d) := by
  have HT := Lib.hid ht
  have htl := ht.lt
  obtain ⟨_, _, hlen, _, _, _, _, _, _, _⟩ := check_zero hck
  have hble := bytesOf_le (n := n) (ps := ps) (mr := mr) (self := self) hck
  have hsz : s.size ≤ 100000 := by
    rw [← size_len, hs]; unfold packOf; rw [frameOf_length]; omega
  have HPA := Lib.hid (fun (w : World) (ht : TabAt w tb) => frParse_any tb s w ht hsz)
  have HEQ : Hid (frParse s.data.toList = (0, bytesOf k sq n ps mr l self d.data.toList, 0)) := Lib.hid (by rw [hs]; unfold packOf; exact frParse_back 0 _ (by omega))
  rw [HEQ.out] at HPA
  unfold frV at HPA
  have HPP := Lib.hid (fun w => parse_own k sq n ps mr l self d ⟨(bytesOf k sq n ps mr l self d.data.toList).toArray⟩ w hn hps hmr hll hck rfl)
  generalize (⟨(bytesOf k sq n ps mr l self d.data.toList).toArray⟩ : ByteArray) = BB at *
  clear ht hck hs hll HEQ hble
  go_enter Tryd.func27, Tryd.ntmps27
  have HBX0 := Lib.hid (BoxAt.new w 59 [.int .i64 0, .int .i64 0, .int .u32 0, .int .u32 0, .int .u32 0, .slice none 0 0, .bool false, .string ⟨#[]⟩])
  have HT1 := Lib.hid (HT.out.below ((Below.refl w.heap.size w).alloc (Nat.le_refl _) (.cells #[.int .i64 0, .int .i64 0, .int .u32 0, .int .u32 0, .int .u32 0, .slice none 0 0, .bool false, .string ⟨#[]⟩] 59)) htl)
  go_wp2_with fail
  refine (HPA.out _ HT1.out).mono ?_
  rintro e w1 ⟨rfl, hb⟩
  have HBX1 := Lib.hid ((HBX0.out.below hb (by simp)).alloc (o := .cells #[.int .u8 0, .string BB] 31))
  have HB1 := Lib.hid ((belAlloc hb (by simp)).alloc (belAlloc hb (by simp)).size (.cells #[.int .u8 0, .string BB] 31))
  clear hb HBX0 HT HT1
  go_wp2_with fail
  refine (HPP.out _).mono ?_
  rintro e w2 ⟨lv, base, rfl, hbase, hI, hb2⟩
  obtain ⟨al, cl', rfl, _, _, _⟩ := (IntsR.of_owns hI (by omega)).len
  have hba : w.heap.size < base := Nat.lt_of_lt_of_le HBX1.out.lt hbase
  have HBX2 := Lib.hid (HBX1.out.below hb2 HBX1.out.lt)
  have HB2 := Lib.hid (belSeq HB1.out hb2)
  have HI := Lib.hid hI
  unfold pduV
  obtain ⟨q0, q1, q2, q3, q4, q5, q6, q7⟩ := HBX2.out.cells8
  obtain ⟨f0, f1, f2, f3, f4, f5, f6, f7⟩ := HBX2.out.frozs8
  clear hb2 hI HBX1 HB1 hbase
  go_wp2_with fail
  refine bodyPost_ret (v := .tuple #[pduV k sq n ps mr (.slice al l.length cl') self d, .int .i64 0]) (by unfold pduV; simp [results, Tryd.results27, go_sem, q0, q1, q2, q3, q4, q5, q6, q7]) rfl ⟨_, rfl, ?_, ?_⟩
  · refine IntsR.of_owns (base := base) (E := 56) ?_ (by omega)
    repeat refine ownsRow_setCell_below ?_ (by simp; omega) _
    exact HI.out
  · exact (((((((HB2.out.setCell (Nat.le_refl _) _).setCell (Nat.le_refl _) _).setCell (Nat.le_refl _) _).setCell (Nat.le_refl _) _).setCell (Nat.le_refl _) _).setCell (Nat.le_refl _) _).setCell (Nat.le_refl _) _).setCell (Nat.le_refl _) _
end Go.Proofs.YtdggnpecbdnkeaaDoor
namespace Go.Proofs.YtdggnpecbdnkeaaDoor
open Go.RowKit
attribute [local go_sem ↓] Go.wp_at_zero Go.wp_at_succ

theorem ck13 : checkOf 13 0 0 0 0 [] false (⟨#[120]⟩ : ByteArray).size = 0 := by decide +kernel
theorem sound_pack (k sq n ps mr : Int) (l : List Int) (self : Bool) (d : List UInt8) : soundB (packOf k sq n ps mr l self d) = true := by
  unfold soundB packOf
  have h := frameOf_length 0 (bytesOf k sq n ps mr l self d)
  rw [h, decide_eq_true (by omega), decide_eq_true (by omega)]
  unfold frameOf; rw [fits_seal]; rfl
set_option maxRecDepth 100000 in
set_option maxHeartbeats 1000000 in
theorem awake7 (w : World) : Calls Tryd.prog 25 #[] w fun e w' => e = .returned (.bool true) ∧ Below w.heap.size w w' := by
  have HNW := Lib.hid new_any
  have HPK : Hid (∀ (tb : Nat) (w : World), TabAt w tb → Calls Tryd.prog 31 #[.pointer (some ⟨tb, 0, none⟩), .agg #[.int .i64 13, .int .i64 0, .int .u32 0, .int .u32 0, .int .u32 0, .slice none 0 0, .bool false, .string ⟨#[120]⟩]] w fun e w' => e = .returned (.tuple #[.string ⟨(packOf 13 0 0 0 0 [] false [120]).toArray⟩, .int .i64 0]) ∧ Below w.heap.size w w') :=
    Lib.hid (fun tb w ht => pack_ok tb 13 0 0 0 0 (.slice none 0 0) [] false ⟨#[120]⟩ w ht (by omega) (by omega) (by omega) (IntsR.nil _ _) (by simp) ck13)
  have HOP := Lib.hid (fun (tb : Nat) (w : World) (ht : TabAt w tb) => open_ok tb 13 0 0 0 0 [] false ⟨#[120]⟩ ⟨(packOf 13 0 0 0 0 [] false [120]).toArray⟩ w ht (by omega) (by omega) (by omega) (by simp) ck13 rfl)
  have hPZ : (⟨(packOf 13 0 0 0 0 [] false [120]).toArray⟩ : ByteArray).size = 48 := by
    rw [size_arr]; unfold packOf; rw [frameOf_length, bytesOf_length]; rfl
  have HSO : Hid (∀ (tb : Nat) (w : World), TabAt w tb → Calls Tryd.prog 28 #[.pointer (some ⟨tb, 0, none⟩), .string ⟨(packOf 13 0 0 0 0 [] false [120]).toArray⟩] w fun e w' => e = .returned (.bool true) ∧ Below w.heap.size w w') := Lib.hid (fun tb w ht => by
    have := sound_any tb ⟨(packOf 13 0 0 0 0 [] false [120]).toArray⟩ w ht (by omega)
    rw [show (⟨(packOf 13 0 0 0 0 [] false [120]).toArray⟩ : ByteArray).data.toList = packOf 13 0 0 0 0 [] false [120] from rfl, sound_pack] at this
    exact this)
  generalize (⟨(packOf 13 0 0 0 0 [] false [120]).toArray⟩ : ByteArray) = PP at *
  have HPZ : Hid (((PP.size : Int) == 48) = true) := Lib.hid (by rw [hPZ]; rfl)
  have hpb : PP.size ≤ 100 := by omega
  clear hPZ
  go_enter Tryd.func25, Tryd.ntmps25
  go_wp2_with fail
  refine (HNW.out _).mono ?_
  rintro e w1 ⟨tb, rfl, ht, hb⟩
  have HT := Lib.hid ht
  have HB := Lib.hid hb
  clear ht hb HNW
  go_wp2_with fail
  refine (HPK.out tb _ HT.out).mono ?_
  rintro e w2 ⟨rfl, hb2⟩
  have HT2 := Lib.hid (HT.out.below hb2 HT.out.lt)
  have HB2 := Lib.hid (belSeq HB.out hb2)
  clear hb2 HT HB HPK
  go_wp2_with fail
  refine (HOP.out tb _ HT2.out).mono ?_
  rintro e w3 ⟨lv, rfl, hI, hb3⟩
  obtain ⟨al, cl', rfl, _, _, _⟩ := hI.len
  have HT3 := Lib.hid (HT2.out.below hb3 HT2.out.lt)
  have HB3 := Lib.hid (belSeq HB2.out hb3)
  unfold pduV
  have hz := HPZ.out
  clear hb3 HT2 HB2 HOP hI
  go_wp2_with fail
  refine (HSO.out tb _ (HT3.out.below ((Below.refl _ _).alloc (Nat.le_refl _) _) HT3.out.lt)).mono ?_
  rintro e w4 ⟨rfl, hb4⟩
  have HB4 := Lib.hid (belSeq HB3.out (belAlloc hb4 (by simp)))
  clear hb4
  go_wp2_with fail
  go_ret
  exact ⟨ret_bool rfl, HB4.out⟩
end Go.Proofs.YtdggnpecbdnkeaaDoor
