/-
  Contracts of wire.New and of (*Wire).Pack.
-/
import Derived.Test.YtlkceignfhnpoaaGreatDoorPduLen
import Derived.Test.YtlkceignfhnpoaaGreatDoorFrBytes
import Derived.Test.YtlkceignfhnpoaaGreatDoorCrcMake
import Derived.Test.YtlkceignfhnpoaaGreatDoorBox
import Derived.Deep.DrawnRows
import Derived.Deep.RegionHeld3
import Derived.Deep.QuietTactic
set_option linter.unusedVariables false
set_option linter.unusedSimpArgs false
namespace Go.Proofs.YtlkceignfhnpoaaGreatDoor
open Go.RowKit

theorem fill_list : ∀ (vs pre post : List Value), post.length = vs.length → (vs.zipIdx pre.length).foldl (fun (cs : Array Value) x => cs.setIfInBounds x.2 x.1) (pre ++ post).toArray = (pre ++ vs).toArray
  | [], pre, [], _ => rfl
  | v :: vs, pre, p :: post, h => by
    rw [List.zipIdx_cons, List.foldl_cons]
    have e : (pre ++ p :: post).toArray.setIfInBounds pre.length v = ((pre ++ [v]) ++ post).toArray := by
      rw [List.setIfInBounds_toArray]
      congr 1
      rw [List.set_append_right _ _ (Nat.le_refl _)]
      simp
    show List.foldl _ ((pre ++ p :: post).toArray.setIfInBounds pre.length v) _ = _
    rw [e]
    have := fill_list vs (pre ++ [v]) post (by simpa using h)
    rw [List.length_append, List.length_singleton] at this
    rw [this]
    simp
theorem fill_all (TC Z : Array Value) (h : Z.size = TC.size) : Array.foldl (fun (cs : Array Value) x => cs.setIfInBounds x.2 x.1) Z TC.zipIdx 0 TC.size = TC := by
  have h1 : Array.foldl (fun (cs : Array Value) x => cs.setIfInBounds x.2 x.1) Z TC.zipIdx 0 TC.size = List.foldl (fun (cs : Array Value) x => cs.setIfInBounds x.2 x.1) Z TC.zipIdx.toList := by
    rw [Array.foldl_toList, Array.size_zipIdx]
  rw [h1, Array.toList_zipIdx]
  have := fill_list TC.toList [] Z.toList (by simpa using h)
  simpa using this
theorem zero_wire : Tryz.zeroCells200 = (tabUpto 0).toArray := by kernel_rfl
theorem wire_cells : Array.foldl (fun (cs : Array Value) x => cs.setIfInBounds x.2 x.1) Tryz.zeroCells200 tabCells.toArray.zipIdx 0 256 = tabCells.toArray := by
  have h := fill_all tabCells.toArray Tryz.zeroCells200 (by rw [zero_wire, tabCells_size]; simp [tabUpto])
  rw [tabCells_size] at h
  exact h
def NewPost (w : World) (e : Ending) (w' : World) : Prop := ∃ b, e = .returned (.pointer (some ⟨b, 0, none⟩)) ∧ w.heap.size ≤ b ∧ BoxAt w' b 200 tabCells ∧ Below w.heap.size w w'
set_option maxRecDepth 100000 in
set_option maxHeartbeats 1000000 in
theorem new_any (w : World) : Calls Tryz.prog 57 #[] w (NewPost w) := by
  have HMK := Lib.hid make_any
  go_enter Tryz.func57, Tryz.ntmps57
  go_wp2_with fail
  refine (HMK.out _).mono ?_
  rintro e w1 ⟨rfl, hb1⟩
  have HB1 := Lib.hid hb1
  clear hb1
  have hz := tabCells_size
  have HWC := Lib.hid wire_cells
  have HN := Lib.hid (BoxAt.new w1 200 tabCells)
  generalize tabCells.toArray = TC at *
  go_wp2_with fail
  rw [HWC.out]
  go_ret
  exact ⟨w1.heap.size, rfl, HB1.out.size, HN.out, HB1.out.alloc HB1.out.size _⟩
end Go.Proofs.YtlkceignfhnpoaaGreatDoor
namespace Go.Proofs.YtlkceignfhnpoaaGreatDoor
open Go.RowKit
attribute [local go_sem ↓] Go.wp_at_zero Go.wp_at_succ

theorem bytesOf_le {k sq n ps mr : Int} {l : List Int} {self : Bool} {d : ByteArray} (hck : checkOf k sq n ps mr l self d.size = 0) : (bytesOf k sq n ps mr l self d.data.toList).length ≤ 2000 := by
  obtain ⟨hk1, hk2, hlen, hdl, hsq0, hsq1, hn1, hps1, hmr1, hll1⟩ := check_zero hck
  have h1 := wordsOf_length k sq ps mr l
  have h2 : (if sSq k then 1 else 0) ≤ 1 := by split <;> omega
  have h3 : (if sPs k then 1 else 0) ≤ 1 := by split <;> omega
  have h4 : (if sMr k then 1 else 0) ≤ 1 := by split <;> omega
  rw [bytesOf_length, size_len]; omega
/-- A unit's frame. -/
def packOf (k sq n ps mr : Int) (l : List Int) (self : Bool) (d : List UInt8) : List UInt8 := frameOf 0 (bytesOf k sq n ps mr l self d)
set_option maxRecDepth 100000 in
set_option maxHeartbeats 1000000 in
theorem pack_bad (tb : Nat) (k sq n ps mr : Int) (lv : Value) (l : List Int) (self : Bool) (d : ByteArray) (w : World)
    (hn : 0 ≤ n ∧ n < 4294967296) (hps : 0 ≤ ps ∧ ps < 4294967296) (hmr : 0 ≤ mr ∧ mr < 4294967296) (hl : IntsR .u32 w lv l) (hll : ∀ x ∈ l, 0 ≤ x ∧ x < 4294967296)
    (hd : d.size ≤ 1000000) (hlen : l.length ≤ 1000000) (hck : checkOf k sq n ps mr l self d.size ≠ 0) :
    Calls Tryz.prog 120 #[.pointer (some ⟨tb, 0, none⟩), pduV k sq n ps mr lv self d] w fun e w' => e = .returned (.tuple #[.string ⟨#[]⟩, .int .i64 (checkOf k sq n ps mr l self d.size)]) ∧ Below w.heap.size w w' := by
  have HLL := Lib.hid hll
  have hck2 : (checkOf k sq n ps mr l self d.size != 0) = true := by simpa using hck
  have HCK := Lib.hid (check_any k sq n ps mr lv l self d (w.alloc (.cells #[.int .i64 k, .int .i64 sq, .int .u32 n, .int .u32 ps, .int .u32 mr, lv, .bool self, .string d] 150)) hn hps hmr hl.alloc HLL.out hd hlen)
  unfold pduV at *
  generalize checkOf k sq n ps mr l self d.size = R at *
  clear hll hck
  go_enter Tryz.func120, Tryz.ntmps120
  go_wp2_with fail
  refine HCK.out.mono ?_
  rintro e w1 ⟨rfl, hb⟩
  go_wp2_with fail
  go_ret2
  exact ⟨rfl, belAlloc hb (by simp)⟩

set_option maxRecDepth 100000 in
set_option maxHeartbeats 1000000 in
theorem pack_ok (tb : Nat) (k sq n ps mr : Int) (lv : Value) (l : List Int) (self : Bool) (d : ByteArray) (w : World) (ht : TabAt w tb)
    (hn : 0 ≤ n ∧ n < 4294967296) (hps : 0 ≤ ps ∧ ps < 4294967296) (hmr : 0 ≤ mr ∧ mr < 4294967296) (hl : IntsR .u32 w lv l) (hll : ∀ x ∈ l, 0 ≤ x ∧ x < 4294967296)
    (hck : checkOf k sq n ps mr l self d.size = 0) :
    Calls Tryz.prog 120 #[.pointer (some ⟨tb, 0, none⟩), pduV k sq n ps mr lv self d] w fun e w' => e = .returned (.tuple #[.string ⟨(packOf k sq n ps mr l self d.data.toList).toArray⟩, .int .i64 0]) ∧ Below w.heap.size w w' := by
  obtain ⟨hk1, hk2, hlen, hdl, _, _, _, _, _, _⟩ := check_zero hck
  have HT := Lib.hid ht
  have htl := ht.lt
  have HL := Lib.hid hl
  obtain ⟨al, cl', rfl, _, _, _⟩ := hl.len
  have HCK := Lib.hid (check_any k sq n ps mr (.slice al l.length cl') l self d (w.alloc (.cells #[.int .i64 k, .int .i64 sq, .int .u32 n, .int .u32 ps, .int .u32 mr, .slice al l.length cl', .bool self, .string d] 150)) hn hps hmr hl.alloc hll (by omega) (by omega))
  rw [hck] at HCK
  have HBY := Lib.hid (fun (w : World) (h : IntsR .u32 w (.slice al l.length cl') l) => bytes_ok k sq n ps mr (.slice al l.length cl') l self d w hn.1 hps.1 hmr.1 h (fun x hx => (hll x hx).1) hck)
  have hble := bytesOf_le (n := n) (ps := ps) (mr := mr) (self := self) hck
  have HFB : Hid (∀ w : World, TabAt w tb → Calls Tryz.prog 186 #[.agg #[.int .u8 0, .string ⟨(bytesOf k sq n ps mr l self d.data.toList).toArray⟩], .pointer (some ⟨tb, 0, none⟩)] w fun e w' => e = .returned (.tuple #[.string ⟨(packOf k sq n ps mr l self d.data.toList).toArray⟩, .int .i64 0]) ∧ Below w.heap.size w w') := Lib.hid (fun w ht => frBytes_ok 0 ⟨(bytesOf k sq n ps mr l self d.data.toList).toArray⟩ tb w ht (by rw [size_arr]; omega))
  generalize (⟨(bytesOf k sq n ps mr l self d.data.toList).toArray⟩ : ByteArray) = BB at *
  generalize (⟨(packOf k sq n ps mr l self d.data.toList).toArray⟩ : ByteArray) = PP at *
  unfold pduV at *
  clear ht hl hll hck hble
  go_enter Tryz.func120, Tryz.ntmps120
  have HBX0 := Lib.hid (BoxAt.new w 150 [.int .i64 k, .int .i64 sq, .int .u32 n, .int .u32 ps, .int .u32 mr, .slice al l.length cl', .bool self, .string d])
  go_wp2_with fail
  refine HCK.out.mono ?_
  rintro e w1 ⟨rfl, hb⟩
  have HBX := Lib.hid (HBX0.out.below hb (by simp))
  have HB1 := Lib.hid (belAlloc hb (by simp))
  have HT1 := Lib.hid (HT.out.below (belAlloc hb (by simp)) htl)
  have HL1 := Lib.hid (HL.out.below (belAlloc hb (by simp)) (Nat.le_refl _))
  have hpx := HBX.out.lt
  have htl1 := HT1.out.lt
  clear hb HBX0 HT HL HCK
  go_wp2_with fail
  have HBA := Lib.hid (Below.refl w1.heap.size w1).drew
  go_region_held3 (fun w' => w'.cell? ⟨w.heap.size, 0, none⟩ = some (.int .i64 k) ∧ w'.cell? ⟨w.heap.size, 1, none⟩ = some (.int .i64 sq) ∧ w'.cell? ⟨w.heap.size, 2, none⟩ = some (.int .u32 n) ∧ w'.cell? ⟨w.heap.size, 3, none⟩ = some (.int .u32 ps) ∧ w'.cell? ⟨w.heap.size, 4, none⟩ = some (.int .u32 mr) ∧ w'.cell? ⟨w.heap.size, 5, none⟩ = some (.slice al l.length cl') ∧ w'.cell? ⟨w.heap.size, 6, none⟩ = some (.bool self) ∧ w'.cell? ⟨w.heap.size, 7, none⟩ = some (.string d)) (exact (HBX.out.below HBA.out hpx).cells8) (first | (go_at_call 185; (with_reducible refine (HBY.out _ (HL1.out.below HBA.out (Nat.le_refl _))).mono ?_); rintro e w' ⟨rfl, hb⟩; have HBA : Hid (Below w1.heap.size w1 w') := Lib.hid (belSeq HBA.out hb); clear hb) | (go_at_call 186; (with_reducible refine (HFB.out _ (HT1.out.below HBA.out htl1)).mono ?_); rintro e w' ⟨rfl, hb⟩; have HBA : Hid (Below w1.heap.size w1 w') := Lib.hid (belSeq HBA.out hb); clear hb))
  all_goals
    go_wp2_with fail
    go_ret2
    exact ⟨rfl, belSeq HB1.out HBA.out⟩

end Go.Proofs.YtlkceignfhnpoaaGreatDoor
