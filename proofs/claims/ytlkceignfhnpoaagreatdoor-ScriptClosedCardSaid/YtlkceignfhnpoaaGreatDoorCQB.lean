/-
  (*strings.Builder).WriteString, to the block: what it turns, and nothing else.
  (*strings.Builder).String, to the block: the row of its bytes alone is turned (nobody may write there any more).
  Texts in the making, for the executor: a text is written, and told.
  Texts in the making come in by contract, and that it is so.
  A record's line comes in by contract, and that it is so (units without a list).
-/
import Derived.Test.YtlkceignfhnpoaaGreatDoorShelf
import Derived.Test.YtlkceignfhnpoaaGreatDoorCommon
import Derived.Test.YtlkceignfhnpoaaGreatDoorBox
import Derived.Lib.AppendStr
import Derived.Lib.Hide
import Derived.WalkSmall
import Derived.Lib.UnsafeStr
import Derived.Test.YtlkceignfhnpoaaGreatDoorCAy9
import Derived.Lib.Join
import Derived.Test.YtlkceignfhnpoaaGreatDoorCQN
import Derived.Test.YtlkceignfhnpoaaGreatDoorCQT
set_option linter.unusedVariables false
set_option linter.unusedSimpArgs false
section
namespace Go.Proofs.YtlkceignfhnpoaaGreatDoor
open Go.RowKit
section
variable {P : Program} {w w2 : World}
theorem wp_append_run {ops : Array Oper} {rest : List Oper} {o : Oper} {a : Act} {Q : Exit → Act → World → Prop} (hgd : o.guard = none) (sl x : Operand) (t u : TypeId)
    (ho : o.op = .call { callee := .builtin .append, args := #[sl, x], argTypes := #[t, u] }) {v y v' : Value} (hs : a.eval sl = v) (hx : a.eval x = y)
    (hr : (Builtin.append_ #[t, u] o.type #[v, y]).run P w = .ok v' w2) (h : wpList P ops Q rest (a.put o.dst v') w2) : wpList P ops Q (o :: rest) a w := by
  refine wpList_plain hgd fun K hK => ?_
  unfold Oper.wp execOp
  simp only [ho, resolve, invoke, builtin, Sem.run_bind, Sem.run_pure, Result.andThen_ok, List.map_toArray, List.map_cons, List.map_nil, hs, hx, hr]
  exact hK _ _ h
end
/-- A builder's text: in no row, or in a row. -/
inductive TextAt (w : World) (b : Nat) : Value → List Value → Prop
  | none : TextAt w b (.slice none 0 0) []
  | row (g cap : Nat) (cur : Array Value) (xs : List Value) (hgb : g ≠ b) (hg : w.heap[g]? = some (.cells cur 5 (0, 0))) (hn : xs.length ≤ cap) (hm : cap ≤ maxLen) (hz : cap ≤ cur.size) (ht : cur.toList.take xs.length = xs) : TextAt w b (.slice (some ⟨g, 0, none⟩) xs.length cap) xs
/-- What an append of a text leaves: in place, in a new row, or nothing. -/
inductive TextTo (w w' : World) (b : Nat) (t : ByteArray) : Value → List Value → Value → Prop
  | nothing (h : t.size = 0) (hz : w'.heap.size = w.heap.size) (hk : ∀ k, k ≠ b → w'.heap[k]? = w.heap[k]?) : TextTo w w' b t (.slice none 0 0) [] (.slice none 0 0)
  | there (g cap : Nat) (cur : Array Value) (xs : List Value) (hg : w'.heap[g]? = some (.cells cur 5 (0, 0))) (hn : xs.length + t.size ≤ cap) (hm : cap ≤ maxLen) (hz : cap ≤ cur.size) (ht : cur.toList.take (xs.length + t.size) = xs ++ Lib.strCells t) (hs : w'.heap.size = w.heap.size) (hk : ∀ k, k ≠ b → k ≠ g → w'.heap[k]? = w.heap[k]?) : TextTo w w' b t (.slice (some ⟨g, 0, none⟩) xs.length cap) xs (.slice (some ⟨g, 0, none⟩) (xs.length + t.size) cap)
  | new (v : Value) (xs : List Value) (cap : Nat) (cur : Array Value) (h0 : 0 < xs.length + t.size) (hg : w'.heap[w.heap.size]? = some (.cells cur 5 (0, 0))) (hn : xs.length + t.size ≤ cap) (hm : cap ≤ maxLen) (hz : cap ≤ cur.size) (ht : cur.toList.take (xs.length + t.size) = xs ++ Lib.strCells t) (hs : w'.heap.size = w.heap.size + 1) (hk : ∀ k, k ≠ b → k < w.heap.size → w'.heap[k]? = w.heap[k]?) : TextTo w w' b t v xs (.slice (some ⟨w.heap.size, 0, none⟩) (xs.length + t.size) cap)
theorem copy_check (b : Nat) (p v : Value) (w : World) (hb : w.heap[b]? = some (.cells #[p, v] 68 (0, 0))) (hp : p = .pointer none ∨ p = .pointer (some ⟨b, 0, none⟩)) :
    ∃ w1, Calls Tryz.prog 53 #[.pointer (some ⟨b, 0, none⟩)] w (fun e w' => e = .returned (.tuple #[]) ∧ w' = w1) ∧ w1.heap[b]? = some (.cells #[.pointer (some ⟨b, 0, none⟩), v] 68 (0, 0)) ∧ w1.heap.size = w.heap.size ∧ (∀ k, k ≠ b → w1.heap[k]? = w.heap[k]?) ∧ w1.os = w.os ∧ w1.tape = w.tape ∧ w1.output = w.output := by
  rcases hp with rfl | rfl
  · refine ⟨_, Any.Builder_copyCheck_fresh Tryz.lays240 Tryz.Builder_X72_240 b w (by simp [World.cell?, hb]) (by simp [World.shape?, hb]; rfl) (by simp [World.frozen?, hb]), ?_, by simp, fun k hk => Below.heap_setCell _ _ _ _ hk, rfl, rfl, rfl⟩
    have h0 : BoxAt w b 68 [.pointer none, v] := hb
    exact h0.set 0 (.pointer (some ⟨b, 0, none⟩))
  · exact ⟨w, Any.Builder_copyCheck_used Tryz.lays240 Tryz.Builder_X72_240 b w (by simp [World.cell?, hb]), hb, rfl, fun _ _ => rfl, rfl, rfl, rfl⟩
theorem info_u8 : (Tryz.prog.info? 5).map (fun i => (i.zero, i.size, i.bytes)) = some (some (.int .u8 0), 1, 1) := by kernel_rfl
theorem append_text (b : Nat) (v : Value) (xs : List Value) (t : ByteArray) (w : World) (hv : TextAt w b v xs) (hl : xs.length + t.size ≤ 1000000000) (ty : TypeId) :
    ∃ v' w', (Builtin.append_ #[66, 9] ty #[v, .string t]).run Tryz.prog w = .ok v' w' ∧ w'.os = w.os ∧ w'.tape = w.tape ∧ w'.output = w.output ∧ TextTo w w' b t v xs v' ∧ (b < w.heap.size → w'.heap[b]? = w.heap[b]?) := by
  obtain ⟨i, hi, hz0, hz1, hz2⟩ := info_parts info_u8
  have hu := Tryz.underlying66
  have hs := Tryz.underlying9
  have new : ∀ (old : Nat), old < xs.length + t.size → (∀ k, k < w.heap.size → (w.drew.alloc (.cells (xs.toArray ++ (Lib.strCells t).toArray ++ Builtin.zeroCells (Value.int .u8 0).cells (grownCap w (xs.length + t.size) old 5 - (xs.length + t.size))) 5)).heap[k]? = w.heap[k]?) ∧
      TextTo w (w.drew.alloc (.cells (xs.toArray ++ (Lib.strCells t).toArray ++ Builtin.zeroCells (Value.int .u8 0).cells (grownCap w (xs.length + t.size) old 5 - (xs.length + t.size))) 5)) b t v xs (.slice (some ⟨w.heap.size, 0, none⟩) (xs.length + t.size) (grownCap w (xs.length + t.size) old 5)) := fun old ho => by
    have hk : ∀ k, k < w.heap.size → (w.drew.alloc (.cells (xs.toArray ++ (Lib.strCells t).toArray ++ Builtin.zeroCells (Value.int .u8 0).cells (grownCap w (xs.length + t.size) old 5 - (xs.length + t.size))) 5)).heap[k]? = w.heap[k]? := fun k hk => heap_alloc_old w.drew _ hk
    refine ⟨hk, .new v xs _ _ (by omega) (heap_alloc_new w.drew _) (grownCap_ge w _ _ _) (grownCap_le_maxLen w _ _ _ (by unfold maxLen; omega)) ?_ ?_ (by simp) (fun k _ h => hk k h)⟩
    · have hge := grownCap_ge w (xs.length + t.size) old 5
      have h1 : (Value.int IntKind.u8 0).cells.size = 1 := rfl
      simp only [Array.size_append, List.size_toArray, size_zeroCells, h1, Lib.strCells_length]
      omega
    · have e : (xs ++ Lib.strCells t).length = xs.length + t.size := by rw [List.length_append, Lib.strCells_length]
      simp only [Array.toList_append]
      rw [← e]
      exact List.take_left
  cases hv with
  | none =>
    by_cases h0 : t.size = 0
    · refine ⟨.slice none 0 0, w, ?_, rfl, rfl, rfl, .nothing h0 rfl (fun _ _ => rfl), fun _ => rfl⟩
      have hf := Lib.run_firstCells_string (P := Tryz.prog) w 1 t
      rw [h0] at hf
      simp [Builtin.append_, run_underlying hu, run_underlying hs, sizeOf, typeInfo, hi, hz1, Builtin.lenOf, h0, hf]
    · have hr := run_append_nil_string (P := Tryz.prog) w 66 9 ty 5 i (.int .u8 0) hu hs hi hz0 t (by omega) (by simp at hl; omega) (by rw [hz2]; simp at hl; omega)
      have e1 : (t.data.map fun b => Value.int .u8 b.toNat) = (Lib.strCells t).toArray := by
        apply Array.ext'
        simp [Lib.strCells]
      rw [e1] at hr
      obtain ⟨n1, n2⟩ := new 0 (by simp; omega)
      simp only [List.length_nil, Nat.zero_add] at n1 n2
      have e2 : (([] : List Value).toArray ++ (Lib.strCells t).toArray) = (Lib.strCells t).toArray := by simp
      rw [e2] at n1 n2
      have n3 := n2
      rw [show (t.size : Nat) = ([] : List Value).length + t.size by simp] at n3
      exact ⟨_, _, hr, rfl, rfl, rfl, by simpa using n2, fun h => n1 b h⟩
  | row g cap cur _ hgb hg hn hm hz ht =>
    by_cases hroom : xs.length + t.size ≤ cap
    · have hr := Lib.run_append_room_string (P := Tryz.prog) w 66 9 ty 5 i hu hs hi hz1 g xs.length cap cur hg t hroom (by omega)
      refine ⟨_, _, hr, rfl, rfl, rfl, .there g cap _ xs (setRow_heap w g cur _ 5 _ hg) hroom hm ?_ ?_ (by simp) (fun k _ h => setRow_other w g k _ h), fun _ => setRow_other w g b _ (Ne.symm hgb)⟩
      · simp only [List.size_toArray, List.length_append, List.length_take, List.length_drop, Array.length_toList, Lib.strCells_length]
        omega
      · have e : (xs ++ Lib.strCells t).length = xs.length + t.size := by rw [List.length_append, Lib.strCells_length]
        rw [ht, ← e]
        exact List.take_left
    · have holds : ∀ j u, xs[j]? = some u → w.cell? ((⟨g, 0, none⟩ : Addr).add j) = some u := fun j u h => by
        rw [← ht] at h
        rw [List.getElem?_take] at h
        split at h
        · have h3 : w.cell? ⟨g, 0 + j, none⟩ = some u := by
            simp [World.cell?, hg]
            simpa using h
          simpa [Addr.add_lit] using h3
        · cases h
      have hr := Lib.run_append_grow_string (P := Tryz.prog) w 66 9 ty 5 i (.int .u8 0) hu hs hi hz0 ⟨g, 0, none⟩ xs.length cap xs (by rw [hz1]; simp) holds t (by omega) (by omega) (by rw [hz2]; exact growslice_fits (by omega) (by omega))
      obtain ⟨n1, n2⟩ := new cap (by omega)
      exact ⟨_, _, hr, rfl, rfl, rfl, n2, fun h => n1 b h⟩
set_option maxRecDepth 100000 in
set_option maxHeartbeats 2000000 in
theorem write_any (b : Nat) (p v : Value) (xs : List Value) (t : ByteArray) (w : World) (hb : w.heap[b]? = some (.cells #[p, v] 68 (0, 0))) (hp : p = .pointer none ∨ p = .pointer (some ⟨b, 0, none⟩)) (hv : TextAt w b v xs) (hl : xs.length + t.size ≤ 1000000000) :
    Calls Tryz.prog 24 #[.pointer (some ⟨b, 0, none⟩), .string t] w fun e w' => e = .returned (.tuple #[.int .i64 t.size, .nilIface]) ∧ w'.os = w.os ∧ w'.tape = w.tape ∧ w'.output = w.output ∧
      ∃ v', w'.heap[b]? = some (.cells #[.pointer (some ⟨b, 0, none⟩), v'] 68 (0, 0)) ∧ TextTo w w' b t v xs v' := by
  obtain ⟨w1, hcc, k1, k2, k3, k4, k5, k6⟩ := copy_check b p v w hb hp
  have HCC := Lib.hid hcc
  clear hcc
  have c0 : w1.cell? ⟨b, 0, none⟩ = some (.pointer (some ⟨b, 0, none⟩)) := by simp [World.cell?, k1]
  have c1 : w1.cell? ⟨b, 1, none⟩ = some v := by simp [World.cell?, k1]
  have f1 : w1.frozen? ⟨b, 1, none⟩ = false := by simp [World.frozen?, k1]
  go_enter Tryz.func24, Tryz.ntmps24
  go_wp2_with fail
  refine HCC.out.mono ?_
  rintro e w' ⟨rfl, rfl⟩
  have hv1 : TextAt w' b v xs := by
    cases hv with
    | none => exact .none
    | row g cap cur _ hgb hg hn hm hz ht => exact .row g cap cur xs hgb ((k3 g hgb).trans hg) hn hm hz ht
  obtain ⟨v2, w2, hr, o1, o2, o3, hto, hb2⟩ := append_text b v xs t w' hv1 hl 66
  have kb2 : w2.heap[b]? = some (.cells #[.pointer (some ⟨b, 0, none⟩), v] 68 (0, 0)) := (hb2 (Array.getElem?_eq_some_iff.1 k1).1).trans k1
  have f2 : w2.frozen? ⟨b, 1, none⟩ = false := by simp [World.frozen?, kb2]
  have d1 : w2.cell? ⟨b, 1, none⟩ = some v := by simp [World.cell?, kb2]
  obtain ⟨a2, n2, c2, rfl⟩ : ∃ a n c, v2 = .slice a n c := by cases hto <;> exact ⟨_, _, _, rfl⟩
  have HTO := Lib.hid hto
  have HK := Lib.hid (show BoxAt w2 b 68 [.pointer (some ⟨b, 0, none⟩), v] from kb2)
  have HO := Lib.hid (show w2.os = w.os ∧ w2.tape = w.tape ∧ w2.output = w.output from ⟨o1.trans k4, o2.trans k5, o3.trans k6⟩)
  have HK3 := Lib.hid k3
  have HS := Lib.hid k2
  clear hto kb2 hb2 hv1 hv o1 o2 o3 k1 k3 k4 k5 k6 hb
  go_wp2_with (at_builtin; refine wp_append_run rfl _ _ _ _ rfl rfl rfl hr ?_)
  refine bodyPost_ret (v := .tuple #[.int .i64 t.size, .nilIface]) (by simp [results, Tryz.results24, go_sem]) rfl ?_
  have hb9 : BoxAt (w2.setCell ⟨b, 1, none⟩ (.slice a2 n2 c2)) b 68 [.pointer (some ⟨b, 0, none⟩), .slice a2 n2 c2] := HK.out.set 1 (.slice a2 n2 c2)
  have hoth : ∀ k, k ≠ b → (w2.setCell ⟨b, 1, none⟩ (.slice a2 n2 c2)).heap[k]? = w2.heap[k]? := fun k hk => Below.heap_setCell _ _ _ _ hk
  have hsz : (w2.setCell ⟨b, 1, none⟩ (.slice a2 n2 c2)).heap.size = w2.heap.size := by simp
  refine ⟨rfl, HO.out.1, HO.out.2.1, HO.out.2.2, _, hb9, ?_⟩
  generalize w2.setCell ⟨b, 1, none⟩ (.slice a2 n2 c2) = w3 at *
  have hks := HS.out
  have hk3 := HK3.out
  have h := HTO.out
  have tr : ∀ k, k ≠ b → w3.heap[k]? = w2.heap[k]? := hoth
  cases h with
  | nothing h hz hk => exact .nothing h (by omega) (fun k hb => (tr k hb).trans ((hk k hb).trans (hk3 k hb)))
  | there g cap cur _ hg hn hm hz ht hs hk =>
    have hgb : g ≠ b := by
      rintro rfl
      have hc := HK.out
      unfold BoxAt at hc
      rw [hc] at hg
      simp at hg
    exact .there g c2 cur xs ((tr g hgb).trans hg) hn hm hz ht (by omega) (fun k hb hkg => (tr k hb).trans ((hk k hb hkg).trans (hk3 k hb)))
  | new _ _ cap cur h0 hg hn hm hz ht hs hk =>
    have hbl : b < w'.heap.size := by
      have hc := HK.out
      unfold BoxAt at hc
      have := (Array.getElem?_eq_some_iff.1 hc).1
      rcases Nat.lt_or_ge b w'.heap.size with h1 | h1
      · exact h1
      · obtain rfl : b = w'.heap.size := by omega
        rw [hc] at hg
        simp at hg
    rw [hks]
    exact .new v xs c2 cur h0 (by rw [← hks]; exact (tr _ (by omega)).trans hg) hn hm hz ht (by omega) (fun k hb hkl => (tr k hb).trans ((hk k hb (by omega)).trans (hk3 k hb)))
end Go.Proofs.YtlkceignfhnpoaaGreatDoor
end
section
namespace Go.Proofs.YtlkceignfhnpoaaGreatDoor
open Go.RowKit
theorem freeze_size (w : World) (a : Addr) (n : Nat) : (w.freeze a n).heap.size = w.heap.size := by
  unfold World.freeze
  split <;> simp
theorem freeze_other (w : World) (a : Addr) (n k : Nat) (h : k ≠ a.block) : (w.freeze a n).heap[k]? = w.heap[k]? := by
  unfold World.freeze
  split
  · rfl
  · simp [Array.getElem?_modify, Ne.symm h]
theorem freeze_rest (w : World) (a : Addr) (n : Nat) : (w.freeze a n).os = w.os ∧ (w.freeze a n).tape = w.tape ∧ (w.freeze a n).output = w.output := by
  unfold World.freeze
  split <;> exact ⟨rfl, rfl, rfl⟩
theorem cells_u8 : Tryz.prog.cellsOf 5 = 1 := by kernel_rfl
set_option maxRecDepth 100000 in
set_option maxHeartbeats 2000000 in
theorem tell_any (b g cap : Nat) (p : Value) (cur : Array Value) (l : List UInt8) (w : World) (hb : w.heap[b]? = some (.cells #[p, .slice (some ⟨g, 0, none⟩) l.length cap] 68 (0, 0))) (hg : w.heap[g]? = some (.cells cur 5 (0, 0))) (hn : l.length ≤ cap) (hm : cap ≤ maxLen) (hz : cap ≤ cur.size)
    (ht : cur.toList.take l.length = l.map fun c => Value.int .u8 c.toNat) (h0 : l ≠ []) :
    Calls Tryz.prog 25 #[.pointer (some ⟨b, 0, none⟩)] w fun e w' => e = .returned (.string ⟨l.toArray⟩) ∧ w'.os = w.os ∧ w'.tape = w.tape ∧ w'.output = w.output ∧ w'.heap.size = w.heap.size ∧ ∀ k, k ≠ g → w'.heap[k]? = w.heap[k]? := by
  have c1 : w.drew.cell? ⟨b, 1, none⟩ = some (.slice (some ⟨g, 0, none⟩) l.length cap) := by
    have hb' : w.drew.heap[b]? = some (.cells #[p, .slice (some ⟨g, 0, none⟩) l.length cap] 68 (0, 0)) := hb
    simp [World.cell?, hb']
  have hl0 : 0 < l.length := List.length_pos_iff.2 h0
  have r1 : (Builtin.unsafeSliceData_ #[66] 127 #[.slice (some ⟨g, 0, none⟩) l.length cap]).run Tryz.prog w.drew = .ok (.pointer (some ⟨g, 0, none⟩)) w.drew := Lib.run_unsafeSliceData_row _ _ _ _ _ _ (by omega)
  have hg' : w.drew.heap[g]? = some (.cells cur 5 (0, 0)) := hg
  have r2 : (Builtin.unsafeString_ #[127, 3] 9 #[.pointer (some ⟨g, 0, none⟩), .int .i64 l.length]).run Tryz.prog w.drew = .ok (.string ⟨l.toArray⟩) (w.drew.freeze ⟨g, 0, none⟩ l.length) := by
    refine Lib.run_unsafeString_row w.drew _ _ _ 5 Tryz.underlying127 cells_u8 g cur.size (by simp [World.shape?, hg']) l h0 (by omega) (by unfold maxLen at hm; omega) fun j x hx => ?_
    have h1 : (cur.toList.take l.length)[j]? = some (.int .u8 x.toNat) := by rw [ht]; simp [hx]
    rw [List.getElem?_take] at h1
    split at h1
    · have h2 : w.drew.cell? ⟨g, 0 + j, none⟩ = some (.int .u8 x.toNat) := by
        simp [World.cell?, hg']
        simpa using h1
      simpa [Addr.add_lit] using h2
    · cases h1
  obtain ⟨q1, q2, q3⟩ := freeze_rest w.drew ⟨g, 0, none⟩ l.length
  have q4 := freeze_size w.drew ⟨g, 0, none⟩ l.length
  have q5 := freeze_other w.drew ⟨g, 0, none⟩ l.length
  clear hg' hg ht
  go_enter Tryz.func25, Tryz.ntmps25
  go_wp2_with fail
  have mixed : Tryz.prog.follows .mixedOrders = true := by kernel_rfl
  go_region_o
  all_goals
    go_wp2_with fail
    go_ret
    exact ⟨rfl, q1, q2, q3, q4, fun k hk => q5 k hk⟩
theorem tell_none (b : Nat) (p : Value) (w : World) (hb : w.heap[b]? = some (.cells #[p, .slice none 0 0] 68 (0, 0))) : Calls Tryz.prog 25 #[.pointer (some ⟨b, 0, none⟩)] w fun e w' => e = .returned (.string ⟨#[]⟩) ∧ Below w.heap.size w w' :=
  Any.Builder_String_nil Tryz.lays169 Tryz.Builder_Extra_169 w.heap.size b p w hb
end Go.Proofs.YtlkceignfhnpoaaGreatDoor
end
section
namespace Go.Proofs.YtlkceignfhnpoaaGreatDoor
open Go AX
def byteCs (t : ByteArray) : List Value := t.data.toList.map fun c => .int .u8 c.toNat
/-- Nothing, or the block itself. -/
def selfP (b : Nat) (v : Value) : Bool :=
  match v with
  | .pointer none => true
  | .pointer (some ⟨c, 0, none⟩) => c == b
  | _ => false
/-- A builder's new text is put down. -/
def putBuf (b : Nat) (v : Value) (n : Nat) : AX Value :=
  AX.bind (AX.cells b) fun x => if x.2.2 = true ∧ x.2.1 = tBld ∧ x.1.length = 2 then AX.bind (AX.set b (some (.cells [.pointer (some ⟨b, 0, none⟩), v] tBld true))) (fun _ => AX.ret (.tuple #[.int .i64 n, .nilIface])) else AX.fail
def writeX (args : Array Value) : AX Value :=
  match args.toList with
  | [.pointer (some ⟨b, 0, none⟩), .string t] => AX.bind (AX.cells b) fun x => (match x.1 with
    | [p, .slice none 0 0] => if selfP b p = true ∧ x.2.2 = true ∧ x.2.1 = tBld ∧ t.size ≤ 100000000 then (if t.size = 0 then putBuf b (.slice none 0 0) 0 else AX.bind (AX.new (.cells (byteCs t) 5 true)) fun d => putBuf b (.slice (some ⟨d, 0, none⟩) t.size t.size) t.size) else AX.fail
    | [p, .slice (some ⟨d, 0, none⟩) n m] => if selfP b p = true ∧ x.2.2 = true ∧ x.2.1 = tBld ∧ d ≠ b then AX.bind (AX.cells d) fun y => if y.2.2 = true ∧ y.2.1 = 5 ∧ y.1.length = n ∧ 0 < n ∧ n = m ∧ n + t.size ≤ 100000000 then AX.bind (AX.set d none) (fun _ => AX.bind (AX.new (.cells (y.1 ++ byteCs t) 5 true)) fun d2 => putBuf b (.slice (some ⟨d2, 0, none⟩) (n + t.size) (n + t.size)) t.size) else AX.fail else AX.fail
    | _ => AX.fail)
  | _ => AX.fail
/-- The bytes of cells. -/
def bytesCs : List Value → Option (List UInt8)
  | [] => some []
  | .int .u8 n :: r => if 0 ≤ n ∧ n < 256 then (bytesCs r).map (UInt8.ofNat n.toNat :: ·) else none
  | _ :: _ => none
/-- What a builder holds; nobody writes there any more. -/
def tellX (args : Array Value) : AX Value :=
  match args.toList with
  | [.pointer (some ⟨b, 0, none⟩)] => AX.bind (AX.cells b) fun x => (match x.1 with
    | [p, .slice none 0 0] => if selfP b p = true ∧ x.2.2 = true ∧ x.2.1 = tBld then AX.ret (.string ⟨#[]⟩) else AX.fail
    | [p, .slice (some ⟨d, 0, none⟩) n m] => if selfP b p = true ∧ x.2.2 = true ∧ x.2.1 = tBld ∧ d ≠ b then AX.bind (AX.cells d) fun y => if y.2.2 = true ∧ y.2.1 = 5 ∧ y.1.length = n ∧ 0 < n ∧ n = m then AX.bind (AX.set d none) (fun _ => match bytesCs y.1 with
      | some l => AX.ret (.string ⟨l.toArray⟩)
      | none => AX.fail) else AX.fail else AX.fail
    | _ => AX.fail)
  | _ => AX.fail
theorem ls_putBuf (b : Nat) (v : Value) (n : Nat) : LS (putBuf b v n) := LS.setC fun x => LS.ret _
theorem ls_writeX (xs : Array Value) : LS (writeX xs) := by
  unfold writeX
  split
  · refine LS.bind (ls_cells _) fun x => ?_
    split
    · exact LS.ite (LS.ite (ls_putBuf _ _ _) (LS.bind (LS.new _) fun d => ls_putBuf _ _ _)) LS.fail
    · exact LS.ite (LS.setC fun y => LS.bind (LS.new _) fun d => ls_putBuf _ _ _) LS.fail
    · exact LS.fail
  · exact LS.fail
theorem ls_tellX (xs : Array Value) : LS (tellX xs) := by
  unfold tellX
  split
  · refine LS.bind (ls_cells _) fun x => ?_
    split
    · exact LS.ite (LS.ret _) LS.fail
    · refine LS.ite (LS.setC fun y => ?_) LS.fail
      split
      · exact LS.ret _
      · exact LS.fail
    · exact LS.fail
  · exact LS.fail
/-- The texts of cells. -/
def strsOf : List Value → Option (List ByteArray)
  | [] => some []
  | .string x :: r => (strsOf r).map (x :: ·)
  | _ :: _ => none
/-- Texts with a text between. -/
def joinX (args : Array Value) : AX Value :=
  match args.toList with
  | [.slice none 0 0, .string _] => AX.ret (.string ⟨#[]⟩)
  | [.slice (some ⟨d, o, none⟩) n m, .string sep] => AX.bind (AX.cells d) fun z => (match strsOf ((z.1.drop o).take n) with
    | some l => if o + n ≤ z.1.length ∧ n = m ∧ 0 < n ∧ n ≤ 100000000 ∧ (Lib.join (l.map (·.data.toList)) sep.data.toList).length ≤ 100000000 then AX.ret (.string ⟨(Lib.join (l.map (·.data.toList)) sep.data.toList).toArray⟩) else AX.fail
    | none => AX.fail)
  | _ => AX.fail
theorem ls_joinX (xs : Array Value) : LS (joinX xs) := by
  unfold joinX
  split
  · exact LS.ret _
  · refine LS.bind (ls_cells _) fun z => ?_
    split
    · exact LS.ite (LS.ret _) LS.fail
    · exact LS.fail
  · exact LS.fail
end Go.Proofs.YtlkceignfhnpoaaGreatDoor
end
section
namespace Go.Proofs.YtlkceignfhnpoaaGreatDoor
open Go AX Go.RowKit
section
variable {φ : Ren} {H : AH} {w w' : World} {s : Nat}
theorem bld_sz : szOf Tryz.prog tBld = some 2 := by kernel_rfl
theorem u8_sz : szOf Tryz.prog 5 = some 1 := by kernel_rfl
theorem odd_bld : oddT tBld = true := by kernel_rfl
theorem odd_u8 : oddT 5 = true := by kernel_rfl
theorem cells_out {b : Nat} {q : Out (List Value × TypeId × Bool)} (h : AX.cells b H s = some q) : H b = some (.cells q.val.1 q.val.2.1 q.val.2.2) ∧ q.H = H ∧ q.s = s := by
  unfold AX.cells at h
  obtain ⟨p1, o1, h3, h4, rfl⟩ := AX.bind_some h
  unfold AX.get at h3
  cases hb : H b with
  | none => rw [hb] at h3; cases h3
  | some x =>
    rw [hb] at h3
    simp only [Option.some.injEq] at h3
    subst h3
    cases x with
    | map kv => cases h4
    | cells cs T wr =>
      simp [AX.ret] at h4
      subst h4
      exact ⟨rfl, rfl, rfl⟩
/-- A builder's block, in the model's world. -/
theorem WR.bld (hw : WR Tryz.prog φ H w) {b : Nat} {p v : Value} (hb : H b = some (.cells [p, v] tBld true)) : ∃ im p' v', φ b = some im ∧ im.base = 0 ∧ im.lim = 2 ∧ im.es = 2 ∧ w.heap[im.blk]? = some (.cells #[p', v'] tBld (0, 0)) ∧ VR φ p p' ∧ VR φ v v' := by
  obtain ⟨im, him, ds, T', fr, g1, g2, g3, g4, g5, g6, g7, g8⟩ := hw.blk b _ hb
  obtain ⟨rfl, rfl, h1⟩ := g6 rfl
  obtain ⟨h2, h3⟩ := g8 rfl odd_bld
  have h4 := h3 rfl rfl
  rw [h2] at g4
  obtain ⟨p', e1, r1, _⟩ := g4 0 p rfl
  obtain ⟨v', e2, r2, _⟩ := g4 1 v rfl
  have hds : ds = #[p', v'] := by
    have hz : ds.size = 2 := by omega
    apply Array.ext
    · simp [hz]
    · intro i i1 i2
      have : i = 0 ∨ i = 1 := by omega
      rcases this with rfl | rfl
      · rw [Array.getElem?_eq_getElem (by omega)] at e1; simpa using e1
      · rw [Array.getElem?_eq_getElem (by omega)] at e2; simpa using e2
  subst hds
  exact ⟨im, p', v', him, h2, h4, by rw [g5, bld_sz]; rfl, g1, r1, r2⟩
theorem self_of {b : Nat} {im : Img} {p p' : Value} (hs : selfP b p = true) (him : φ b = some im) (h0 : im.base = 0) (hp : VR φ p p') : p' = .pointer none ∨ p' = .pointer (some ⟨im.blk, 0, none⟩) := by
  unfold selfP at hs
  split at hs
  · cases hp; exact .inl rfl
  · rename_i c
    have hc : c = b := by simpa using hs
    subst hc
    cases hp with
    | ptr h =>
      rw [him] at h; cases h
      right; simp [h0]
  · cases hs
/-- A row of bytes, in the model's world. -/
theorem WR.row8 (hw : WR Tryz.prog φ H w) {d : Nat} {ys : List Value} (hd : H d = some (.cells ys 5 true)) {im : Img} (him : φ d = some im) : ∃ cur, w.heap[im.blk]? = some (.cells cur 5 (0, 0)) ∧ im.base = 0 ∧ im.lim = cur.size ∧ im.es = 1 ∧ ys.length ≤ cur.size ∧ VL φ ys (cur.toList.take ys.length) := by
  obtain ⟨im2, him2, ds, T', fr, g1, g2, g3, g4, g5, g6, g7, g8⟩ := hw.blk d _ hd
  rw [him] at him2; cases him2
  obtain ⟨rfl, rfl, h1⟩ := g6 rfl
  obtain ⟨h2, h3⟩ := g8 rfl odd_u8
  rw [h2] at g4
  refine ⟨ds, g1, h2, by omega, by rw [g5, u8_sz]; rfl, by omega, ?_, fun i v v' e1 e2 => ?_⟩
  · simp; omega
  · obtain ⟨u, e3, r, _⟩ := g4 i v e1
    have hi : i < ys.length := (List.getElem?_eq_some_iff.1 e1).1
    rw [List.getElem?_take_of_lt hi] at e2
    rw [Nat.zero_add] at e3
    have : ds[i]? = some v' := by simpa using e2
    rw [e3] at this; cases this; exact r
theorem vl_bytes (t : ByteArray) : VL φ (byteCs t) (Lib.strCells t) := VL.simple (List.all_eq_true.2 fun v hv => by
  obtain ⟨c, _, rfl⟩ := List.mem_map.1 hv
  rfl)
theorem one_bytes (t : ByteArray) : (byteCs t).all oneV = true := List.all_eq_true.2 fun v hv => by
  obtain ⟨c, _, rfl⟩ := List.mem_map.1 hv
  rfl
theorem bytes_len (t : ByteArray) : (byteCs t).length = t.size := by simp [byteCs]
theorem two_of {α : Type} : ∀ {l : List α}, l.length = 2 → ∃ a b, l = [a, b]
  | [a, b], _ => ⟨a, b, rfl⟩
/-- The builder's own block is turned last. -/
theorem bld_fin {φ1 : Ren} {H1 : AH} {s1 : Nat} {wm : World} {b : Nat} {im : Img} {p v v1 v2 : Value} {val : Value} {D W : List Nat} (hwm : WR Tryz.prog φ1 H1 wm) (ht : Trn φ H w φ1 H1 wm) (hn : Nx φ φ1 s s1) (hb : H1 b = some (.cells [p, v] tBld true)) (him : φ1 b = some im)
    (h0 : im.base = 0) (hl : im.lim = 2) (he : im.es = 2) (ho : w'.os = wm.os ∧ w'.tape = wm.tape ∧ w'.output = wm.output) (hz : w'.heap.size = wm.heap.size) (hk : ∀ k, k ≠ im.blk → w'.heap[k]? = wm.heap[k]?) (hb' : w'.heap[im.blk]? = some (.cells #[.pointer (some ⟨im.blk, 0, none⟩), v2] tBld (0, 0))) (hv : VR φ1 v1 v2) (h1 : oneV v1 = true) (hval : VR φ1 val val) :
    CallPost Tryz.prog φ H w s ⟨val, upd H1 b (some (.cells [.pointer (some ⟨b, 0, none⟩), v1] tBld true)), s1, D, W⟩ (.returned val) w' := by
  have hbr : BR Tryz.prog φ1 im (.cells [.pointer (some ⟨b, 0, none⟩), v1] tBld true) w' := by
    refine ⟨_, tBld, (0, 0), hb', by rw [h0, hl]; simp, by rw [hl]; simp, fun i u hi => ?_, by rw [he, bld_sz]; rfl, fun _ => ⟨rfl, rfl, by rw [h0, hl]; simp⟩, fun h => (by cases h), fun _ _ => ⟨h0, fun _ _ => hl⟩⟩
    rw [h0, Nat.zero_add]
    match i with
    | 0 =>
      simp at hi; subst hi
      refine ⟨_, rfl, ?_, rfl⟩
      have := VR.ptr (o := 0) him
      rw [h0] at this
      exact this
    | 1 =>
      simp at hi; subst hi
      exact ⟨_, rfl, hv, h1⟩
    | i + 2 => simp at hi
  obtain ⟨a1, a2⟩ := hwm.turn (w' := w') hb rfl him ho.1 ho.2.1 ho.2.2 hz hk hbr rfl
  exact ⟨φ1, val, rfl, hn, hval, a1, ht.trans a2⟩
theorem putBuf_some {b : Nat} {v : Value} {n : Nat} {q : Out Value} (h : putBuf b v n H s = some q) : ∃ p u D W, H b = some (.cells [p, u] tBld true) ∧ q = ⟨.tuple #[.int .i64 n, .nilIface], upd H b (some (.cells [.pointer (some ⟨b, 0, none⟩), v] tBld true)), s, D, W⟩ := by
  unfold putBuf at h
  obtain ⟨x, o, h1, h2, rfl⟩ := AX.bind_some h
  obtain ⟨c1, c2, c3⟩ := cells_out h1
  split at h2
  · rename_i hc
    obtain ⟨k1, k2, k3⟩ := hc
    obtain ⟨p, u, e⟩ := two_of k3
    obtain ⟨y, o2, h3, h4, rfl⟩ := AX.bind_some h2
    simp [AX.set] at h3
    subst h3
    simp [AX.ret] at h4
    subst h4
    rw [k1, k2, e] at c1
    exact ⟨p, u, _, _, c1, by rw [c2, c3]⟩
  · cases h2
/-- The rest of the world, with one block as it was. -/
def backTo (w w' : World) (b : Nat) : World := { w' with heap := w'.heap.setIfInBounds b (w.heap.getD b (.cells #[] 0)) }
theorem back_same (w w' : World) {b : Nat} {o : Go.Obj} (hb : w.heap[b]? = some o) (hz : b < w'.heap.size) : (backTo w w' b).heap[b]? = some o := by
  have : w.heap.getD b (.cells #[] 0) = o := by
    rw [Array.getD_eq_getD_getElem?, hb]; rfl
  simp [backTo, this, hz]
theorem back_other (w w' : World) {b k : Nat} (hk : k ≠ b) : (backTo w w' b).heap[k]? = w'.heap[k]? := by
  simp [backTo, Array.getElem?_setIfInBounds, Ne.symm hk]
theorem back_size (w w' : World) (b : Nat) : (backTo w w' b).heap.size = w'.heap.size := by simp [backTo]
theorem write_new {H1 : AH} {b : Nat} {im : Img} {p v p' v' val : Value} {row rowR : List Value} {cap : Nat} {cur : Array Value} {D W : List Nat} (hw : WR Tryz.prog φ H1 w) (ht0 : Trn φ H w φ H1 w) (hfs : φ s = none) (hb : H1 b = some (.cells [p, v] tBld true)) (him : φ b = some im) (i0 : im.base = 0) (il : im.lim = 2) (ie : im.es = 2)
    (ib : w.heap[im.blk]? = some (.cells #[p', v'] tBld (0, 0))) (hvl : VL φ row rowR) (h1 : row.all oneV = true) (ho : w'.os = w.os ∧ w'.tape = w.tape ∧ w'.output = w.output) (hb2 : w'.heap[im.blk]? = some (.cells #[.pointer (some ⟨im.blk, 0, none⟩), .slice (some ⟨w.heap.size, 0, none⟩) row.length cap] tBld (0, 0)))
    (hg : w'.heap[w.heap.size]? = some (.cells cur 5 (0, 0))) (hn : row.length ≤ cap) (hm : cap ≤ maxLen) (hz : cap ≤ cur.size) (ht : cur.toList.take row.length = rowR) (hs : w'.heap.size = w.heap.size + 1) (hk : ∀ k, k ≠ im.blk → k < w.heap.size → w'.heap[k]? = w.heap[k]?) (hval : VR φ val val) :
    CallPost Tryz.prog φ H w s ⟨val, upd (upd H1 s (some (.cells row 5 true))) b (some (.cells [.pointer (some ⟨b, 0, none⟩), .slice (some ⟨s, 0, none⟩) row.length row.length] tBld true)), s + 1, D, W⟩ (.returned val) w' := by
  have hbl := (Array.getElem?_eq_some_iff.1 ib).1
  have hbs : b ≠ s := by rintro rfl; rw [him] at hfs; cases hfs
  have hm1 : ∀ k, k < w.heap.size → (backTo w w' im.blk).heap[k]? = w.heap[k]? := fun k hkl => by
    by_cases e : k = im.blk
    · subst e; rw [back_same w w' ib (by omega), ib]
    · rw [back_other w w' e]; exact hk k e hkl
  have hg1 : (backTo w w' im.blk).heap[w.heap.size]? = some (.cells cur 5 (0, 0)) := (back_other w w' (by omega)).trans hg
  have hbr : BR Tryz.prog (φ.put s ⟨w.heap.size, 0, cur.size, 1⟩) ⟨w.heap.size, 0, cur.size, 1⟩ (.cells row 5 true) (backTo w w' im.blk) := by
    refine ⟨cur, 5, (0, 0), hg1, by simp, by dsimp only; omega, fun i u hi => ?_, by rw [u8_sz]; rfl, fun _ => ⟨rfl, rfl, by simp⟩, fun h => (by cases h), fun _ _ => ⟨rfl, fun h => ?_⟩⟩
    · obtain ⟨u', e1, r⟩ := hvl.get hi
      have hil := (List.getElem?_eq_some_iff.1 hi).1
      rw [← ht, List.getElem?_take_of_lt hil] at e1
      refine ⟨u', by simpa using e1, r.mono (ext_put hfs), List.all_eq_true.1 h1 _ (List.mem_of_getElem? hi)⟩
    · have : (5 : TypeId) ≠ tBld := by decide
      exact absurd h this
  obtain ⟨a1, a2, a3⟩ := hw.new (w' := backTo w w' im.blk) (s := s) (im := ⟨w.heap.size, 0, cur.size, 1⟩) hfs rfl ho.1 ho.2.1 ho.2.2 (by rw [back_size]; omega) hm1 hbr
  refine bld_fin (p := p) (v := v) (im := im) a1 (ht0.trans a3) a2 (by rw [upd_ne _ _ hbs]; exact hb) (by rw [Ren.put_ne _ _ hbs]; exact him) i0 il ie ⟨rfl, rfl, rfl⟩ (back_size _ _ _).symm (fun k hk => (back_other w w' hk).symm) hb2 ?_ rfl (hval.mono (ext_put hfs))
  exact .slice (im := ⟨w.heap.size, 0, cur.size, 1⟩) (o := 0) (Ren.put_same _ _ _) hn (by simp; omega) hm
theorem write_there {d b : Nat} {im imd : Img} {p v p' v' val : Value} {ys row rowR : List Value} {cap : Nat} {cur : Array Value} {D W : List Nat} (hw : WR Tryz.prog φ H w) (hfs : φ s = none) (hd : H d = some (.cells ys 5 true)) (himd : φ d = some imd) (hdb : d ≠ b) (hb : H b = some (.cells [p, v] tBld true)) (him : φ b = some im) (i0 : im.base = 0) (il : im.lim = 2) (ie : im.es = 2)
    (ib : w.heap[im.blk]? = some (.cells #[p', v'] tBld (0, 0))) (hvl : VL φ row rowR) (h1 : row.all oneV = true) (ho : w'.os = w.os ∧ w'.tape = w.tape ∧ w'.output = w.output) (hb2 : w'.heap[im.blk]? = some (.cells #[.pointer (some ⟨im.blk, 0, none⟩), .slice (some ⟨imd.blk, 0, none⟩) row.length cap] tBld (0, 0)))
    (hg : w'.heap[imd.blk]? = some (.cells cur 5 (0, 0))) (hn : row.length ≤ cap) (hm : cap ≤ maxLen) (hz : cap ≤ cur.size) (ht : cur.toList.take row.length = rowR) (hs : w'.heap.size = w.heap.size) (hk : ∀ k, k ≠ im.blk → k ≠ imd.blk → w'.heap[k]? = w.heap[k]?) (hval : VR φ val val) :
    CallPost Tryz.prog φ H w s ⟨val, upd (upd (upd H d none) s (some (.cells row 5 true))) b (some (.cells [.pointer (some ⟨b, 0, none⟩), .slice (some ⟨s, 0, none⟩) row.length row.length] tBld true)), s + 1, D, W⟩ (.returned val) w' := by
  have hbl := (Array.getElem?_eq_some_iff.1 ib).1
  have hbs : b ≠ s := by rintro rfl; rw [him] at hfs; cases hfs
  have hne : imd.blk ≠ im.blk := hw.inj d b _ _ imd im hd hb hdb rfl himd him
  have hm1 : ∀ k, k ≠ imd.blk → (backTo w w' im.blk).heap[k]? = w.heap[k]? := fun k hkd => by
    by_cases e : k = im.blk
    · subst e; rw [back_same w w' ib (by omega), ib]
    · rw [back_other w w' e]; exact hk k e hkd
  have hg1 : (backTo w w' im.blk).heap[imd.blk]? = some (.cells cur 5 (0, 0)) := (back_other w w' hne).trans hg
  have hbr : BR Tryz.prog (φ.put s ⟨imd.blk, 0, cur.size, 1⟩) ⟨imd.blk, 0, cur.size, 1⟩ (.cells row 5 true) (backTo w w' im.blk) := by
    refine ⟨cur, 5, (0, 0), hg1, by simp, by dsimp only; omega, fun i u hi => ?_, by rw [u8_sz]; rfl, fun _ => ⟨rfl, rfl, by simp⟩, fun h => (by cases h), fun _ _ => ⟨rfl, fun h => ?_⟩⟩
    · obtain ⟨u', e1, r⟩ := hvl.get hi
      have hil := (List.getElem?_eq_some_iff.1 hi).1
      rw [← ht, List.getElem?_take_of_lt hil] at e1
      refine ⟨u', by simpa using e1, r.mono (ext_put hfs), List.all_eq_true.1 h1 _ (List.mem_of_getElem? hi)⟩
    · have : (5 : TypeId) ≠ tBld := by decide
      exact absurd h this
  obtain ⟨a1, a2, a3⟩ := hw.moved (w' := backTo w w' im.blk) (s := s) (im' := ⟨imd.blk, 0, cur.size, 1⟩) (x' := .cells row 5 true) hd rfl himd hfs rfl ho.1 ho.2.1 ho.2.2 (by rw [back_size]; exact hs) hm1 hbr rfl
  refine bld_fin (p := p) (v := v) (im := im) a1 a3 a2 (by rw [upd_ne _ _ hbs, upd_ne _ _ (Ne.symm hdb)]; exact hb) (by rw [Ren.put_ne _ _ hbs]; exact him) i0 il ie ⟨rfl, rfl, rfl⟩ (back_size _ _ _).symm (fun k hk => (back_other w w' hk).symm) hb2 ?_ rfl (hval.mono (ext_put hfs))
  exact .slice (im := ⟨imd.blk, 0, cur.size, 1⟩) (o := 0) (Ren.put_same _ _ _) hn (by simp; omega) hm
theorem text_inv {b : Nat} {t : ByteArray} {v v2 : Value} {xs : List Value} (h : TextTo w w' b t v xs v2) : (v = .slice none 0 0) ∨
    (∃ g cap cur, v = .slice (some ⟨g, 0, none⟩) xs.length cap ∧ v2 = .slice (some ⟨g, 0, none⟩) (xs.length + t.size) cap ∧ w'.heap[g]? = some (.cells cur 5 (0, 0)) ∧ xs.length + t.size ≤ cap ∧ cap ≤ maxLen ∧ cap ≤ cur.size ∧ cur.toList.take (xs.length + t.size) = xs ++ Lib.strCells t ∧ w'.heap.size = w.heap.size ∧ ∀ k, k ≠ b → k ≠ g → w'.heap[k]? = w.heap[k]?) ∨
    (∃ cap cur, v2 = .slice (some ⟨w.heap.size, 0, none⟩) (xs.length + t.size) cap ∧ w'.heap[w.heap.size]? = some (.cells cur 5 (0, 0)) ∧ xs.length + t.size ≤ cap ∧ cap ≤ maxLen ∧ cap ≤ cur.size ∧ cur.toList.take (xs.length + t.size) = xs ++ Lib.strCells t ∧ w'.heap.size = w.heap.size + 1 ∧ ∀ k, k ≠ b → k < w.heap.size → w'.heap[k]? = w.heap[k]?) := by
  cases h with
  | nothing => exact .inl rfl
  | there g cap cur _ hg hn hm hz ht hs hk => exact .inr (.inl ⟨g, cap, cur, rfl, rfl, hg, hn, hm, hz, ht, hs, hk⟩)
  | new _ _ cap cur h0 hg hn hm hz ht hs hk => exact .inr (.inr ⟨cap, cur, rfl, hg, hn, hm, hz, ht, hs, hk⟩)
theorem val_plain (n : Nat) : VR φ (.tuple #[.int .i64 n, .nilIface]) (.tuple #[.int .i64 n, .nilIface]) := VR.mkTuple (VL.cons (VR.simple rfl) (VL.one .nilIface)).array
theorem write_ok (args : Array Value) (H : AH) (s : Nat) (q : Out Value) (h : writeX args H s = some q) (φ : Ren) (w : World) (args' : Array Value) (hw : WR Tryz.prog φ H w) (ha : VA φ args args') (hf : Free φ s q.s) : Calls Tryz.prog 24 args' w (CallPost Tryz.prog φ H w s q) := by
  obtain ⟨args⟩ := args
  unfold writeX at h
  dsimp only at h
  split at h
  · rename_i b t
    obtain ⟨l'⟩ := args'
    obtain ⟨a', t', hl', ra, rt⟩ : ∃ a' t', l' = [a', t'] ∧ VR φ (.pointer (some ⟨b, 0, none⟩)) a' ∧ VR φ (.string t) t' := by
      have hl := ha.len
      simp at hl
      match l', hl with
      | [x, y], _ => exact ⟨x, y, rfl, ha.at_ 0 _ _ rfl rfl, ha.at_ 1 _ _ rfl rfl⟩
    subst hl'
    cases rt
    obtain ⟨x, o, h1, h2, rfl⟩ := AX.bind_some h
    obtain ⟨c1, c2, c3⟩ := cells_out h1
    rw [c2, c3] at h2
    obtain ⟨⟨cs, T, wr⟩, xH, xs', xD, xW⟩ := x
    dsimp only at c1 h2 hf
    split at h2
    · rename_i p
      split at h2
      · rename_i hc
        obtain ⟨k1, rfl, rfl, k4⟩ := hc
        obtain ⟨im, p', v', him, i0, il, ie, ib, rp, rv⟩ := hw.bld c1
        cases rv
        cases ra with
        | ptr hra =>
        rw [him] at hra; cases hra
        rw [i0, Nat.zero_add]
        have hblt := (Array.getElem?_eq_some_iff.1 ib).1
        refine (write_any im.blk p' (.slice none 0 0) [] t w ib (self_of k1 him i0 rp) .none (by simp; omega)).mono ?_
        rintro e w' ⟨rfl, o1, o2, o3, v2, hb2, hto⟩
        split at h2
        · rename_i ht0
          obtain ⟨p2, u2, D, W, e1, rfl⟩ := putBuf_some h2
          rw [ht0]
          cases hto with
          | nothing _ hz hk => exact bld_fin hw (Trn.refl _ _ _) (Nx.refl _ _) c1 him i0 il ie ⟨o1, o2, o3⟩ hz hk hb2 .sliceNil rfl (val_plain 0)
          | new _ _ cap cur h0 hg hn hm hz ht hs hk => rw [ht0] at h0; simp at h0
        · rename_i ht0
          obtain ⟨d, o4, h3, h4, rfl⟩ := AX.bind_some h2
          simp only [AX.new, Option.some.injEq] at h3
          subst h3
          obtain ⟨p2, u2, D, W, e1, rfl⟩ := putBuf_some h4
          dsimp only at hf e1
          have hfs : φ s = none := hf s (Nat.le_refl _) (Nat.lt_succ_self _)
          have hbs : b ≠ s := by rintro rfl; rw [him] at hfs; cases hfs
          cases hto with
          | nothing ht1 => exact absurd ht1 ht0
          | new _ _ cap cur h0 hg hn hm hz ht hs hk =>
            have e : ([] : List Value).length + t.size = (byteCs t).length := by rw [bytes_len]; simp
            have ez : t.size = (byteCs t).length := (bytes_len t).symm
            rw [e] at hb2 hn ht
            have := write_new (val := .tuple #[.int .i64 t.size, .nilIface]) (D := D) (W := W) hw (Trn.refl _ _ _) hfs c1 him i0 il ie ib (vl_bytes t) (one_bytes t) ⟨o1, o2, o3⟩ hb2 hg hn hm hz (by simpa using ht) hs hk (val_plain _)
            rw [bytes_len] at this
            exact this
      · cases h2
    · rename_i p d n m
      split at h2
      · rename_i hc
        obtain ⟨k1, rfl, rfl, hdb⟩ := hc
        obtain ⟨y, oy, h3, h4, rfl⟩ := AX.bind_some h2
        obtain ⟨e1, e2, e3⟩ := cells_out h3
        rw [e2, e3] at h4
        obtain ⟨⟨ys, yT, ywr⟩, yH, ys', yD, yW⟩ := y
        dsimp only at e1 h4 hf
        split at h4
        · rename_i hc2
          obtain ⟨rfl, rfl, hyl, hn0, rfl, hsz⟩ := hc2
          obtain ⟨z1, oz, h5, h6, rfl⟩ := AX.bind_some h4
          simp [AX.set] at h5
          subst h5
          obtain ⟨z2, oz2, h7, h8, rfl⟩ := AX.bind_some h6
          simp [AX.new] at h7
          subst h7
          obtain ⟨p2, u2, D, W, q1, rfl⟩ := putBuf_some h8
          dsimp only at hf q1
          have hfs : φ s = none := hf s (Nat.le_refl _) (Nat.lt_succ_self _)
          obtain ⟨im, p', v', him, i0, il, ie, ib, rp, rv⟩ := hw.bld c1
          cases ra with
          | ptr hra =>
          rw [him] at hra; cases hra
          rw [i0, Nat.zero_add]
          cases rv with
          | slice0 => omega
          | slice hmd hnc hcl hcm =>
            rename_i cap imd
            obtain ⟨cur, g1, g2, g3, g4, g5, g6⟩ := hw.row8 e1 hmd
            have hgb : imd.blk ≠ im.blk := hw.inj d b _ _ imd im e1 c1 hdb rfl hmd him
            rw [g2, Nat.zero_add] at ib
            have hlx : (cur.toList.take ys.length).length = n := by simp; omega
            have hta : TextAt w im.blk (.slice (some ⟨imd.blk, 0, none⟩) n cap) (cur.toList.take ys.length) := by
              have := TextAt.row (w := w) (b := im.blk) imd.blk cap cur (cur.toList.take ys.length) hgb g1 (by omega) hcm (by rw [g4] at hcl; omega) (by rw [hlx, hyl])
              rw [hlx] at this
              exact this
            refine (write_any im.blk p' _ _ t w ib (self_of k1 him i0 rp) hta (by omega)).mono ?_
            rintro e w' ⟨rfl, o1, o2, o3, v2, hb2, hto⟩
            have hvl : VL φ (ys ++ byteCs t) (cur.toList.take ys.length ++ Lib.strCells t) := g6.append (vl_bytes t)
            have h1r : (ys ++ byteCs t).all oneV = true := by
              rw [List.all_append, one_bytes t, Bool.and_true]
              exact List.all_eq_true.2 fun v hv => by
                obtain ⟨im3, h30, ds, T', fr, j1, j2, j3, j4, j5⟩ := hw.blk d _ e1
                obtain ⟨i, hi, rfl⟩ := List.getElem_of_mem hv
                obtain ⟨_, _, _, r⟩ := j4 i _ (List.getElem?_eq_getElem hi)
                exact r
            have hrl : (ys ++ byteCs t).length = n + t.size := by rw [List.length_append, bytes_len, hyl]
            rcases text_inv hto with hno | ⟨g, cap2, cur2, hv, rfl, hg, hn, hm, hz, ht, hs, hk⟩ | ⟨cap2, cur2, rfl, hg, hn, hm, hz, ht, hs, hk⟩
            · cases hno
            · cases hv
              rw [hlx, ← hrl] at hb2 hn ht
              have := write_there (val := .tuple #[.int .i64 t.size, .nilIface]) (D := D) (W := W) hw hfs e1 hmd hdb c1 him i0 il ie ib hvl h1r ⟨o1, o2, o3⟩ hb2 hg hn hm hz ht hs hk (val_plain _)
              rw [hrl] at this
              exact this
            · rw [hlx, ← hrl] at hb2 hn ht
              obtain ⟨kw1, kw2⟩ := hw.kill d
              have := write_new (val := .tuple #[.int .i64 t.size, .nilIface]) (D := D) (W := W) kw1 kw2 hfs (by rw [upd_ne _ _ (Ne.symm hdb)]; exact c1) him i0 il ie ib hvl h1r ⟨o1, o2, o3⟩ hb2 hg hn hm hz ht hs hk (val_plain _)
              rw [hrl] at this
              exact this
        · cases h4
      · cases h2
    · cases h2
  · cases h
/-- A block is struck, and what lies there may be turned. -/
theorem WR.struck (hw : WR Tryz.prog φ H w) {d : Nat} {x : AB} {imd : Img} (hd : H d = some x) (hx : x.wr = true) (himd : φ d = some imd) (ho : w'.os = w.os ∧ w'.tape = w.tape ∧ w'.output = w.output) (hs : w'.heap.size = w.heap.size) (hk : ∀ k, k ≠ imd.blk → w'.heap[k]? = w.heap[k]?) : WR Tryz.prog φ (upd H d none) w' ∧ Trn φ H w φ (upd H d none) w' := by
  have sub : ∀ {k y}, upd H d none k = some y → k ≠ d ∧ H k = some y := by
    intro k y hy
    by_cases e : k = d
    · subst e; rw [upd_same] at hy; cases hy
    · rw [upd_ne _ _ e] at hy; exact ⟨e, hy⟩
  refine WR.fin hw.env (fun k y hy => ?_) (fun k k' y y' im1 im2 h1 h2 => hw.inj k k' y y' im1 im2 (sub h1).2 (sub h2).2) ⟨ho.1, ho.2.1, ho.2.2, by omega, fun k hk' hn => hk k fun e => hn ⟨d, x, imd, hd, hx, himd, e.symm⟩, fun k ⟨c, y, im2, h1, h2, h3, h4⟩ => .inl ⟨c, y, im2, (sub h1).2, h2, h3, h4⟩⟩
  obtain ⟨hne, hy'⟩ := sub hy
  obtain ⟨im2, e2, r2⟩ := hw.blk k y hy'
  exact ⟨im2, e2, r2.keep (hk _ fun e => hw.inj d k x y imd im2 hd hy' (Ne.symm hne) hx himd e2 e.symm)⟩
theorem bytesCs_map : ∀ {cs : List Value} {l : List UInt8}, bytesCs cs = some l → cs = l.map fun c => Value.int .u8 c.toNat
  | [], l, h => by simp [bytesCs] at h; subst h; rfl
  | c :: r, l, h => by
    unfold bytesCs at h
    split at h
    · rename_i e; cases e
    · rename_i n r' e
      cases e
      split at h
      · rename_i hn
        cases hr : bytesCs r with
        | none => rw [hr] at h; cases h
        | some t =>
          rw [hr] at h
          cases h
          rw [bytesCs_map hr]
          simp only [List.map_cons]
          congr 1
          have : (UInt8.ofNat n.toNat).toNat = n.toNat := by
            rw [UInt8.toNat_ofNat']
            omega
          rw [this]
          congr 1
          omega
      · cases h
    · cases h
theorem post_low {f : FuncId} {args' : Array Value} {v : Value} {D W : List Nat} (hw : WR Tryz.prog φ H w) (hv : VR φ v v) (h : Calls Tryz.prog f args' w fun e w' => e = .returned v ∧ Below w.heap.size w w') : Calls Tryz.prog f args' w (CallPost Tryz.prog φ H w s ⟨v, H, s, D, W⟩) := by
  refine h.mono ?_
  rintro e w' ⟨rfl, hbel⟩
  obtain ⟨a1, a2⟩ := hw.below hbel
  exact ⟨φ, _, rfl, Nx.refl φ s, hv, a1, a2⟩
theorem tell_ok (args : Array Value) (H : AH) (s : Nat) (q : Out Value) (h : tellX args H s = some q) (φ : Ren) (w : World) (args' : Array Value) (hw : WR Tryz.prog φ H w) (ha : VA φ args args') : Calls Tryz.prog 25 args' w (CallPost Tryz.prog φ H w s q) := by
  obtain ⟨args⟩ := args
  unfold tellX at h
  dsimp only at h
  split at h
  · rename_i b
    obtain ⟨l'⟩ := args'
    obtain ⟨a', hl', ra⟩ : ∃ a', l' = [a'] ∧ VR φ (.pointer (some ⟨b, 0, none⟩)) a' := by
      have hl := ha.len
      simp at hl
      match l', hl with
      | [x], _ => exact ⟨x, rfl, ha.at_ 0 _ _ rfl rfl⟩
    subst hl'
    obtain ⟨x, o, h1, h2, rfl⟩ := AX.bind_some h
    obtain ⟨c1, c2, c3⟩ := cells_out h1
    rw [c2, c3] at h2
    obtain ⟨⟨cs, T, wr⟩, xH, xs', xD, xW⟩ := x
    dsimp only at c1 h2
    split at h2
    · rename_i p
      split at h2
      · rename_i hc
        obtain ⟨k1, rfl, rfl⟩ := hc
        simp [AX.ret] at h2
        subst h2
        obtain ⟨im, p', v', him, i0, il, ie, ib, rp, rv⟩ := hw.bld c1
        cases rv
        cases ra with
        | ptr hra =>
        rw [him] at hra; cases hra
        rw [i0, Nat.zero_add]
        exact post_low hw (VR.simple rfl) (tell_none im.blk p' w ib)
      · cases h2
    · rename_i p d n m
      split at h2
      · rename_i hc
        obtain ⟨k1, rfl, rfl, hdb⟩ := hc
        obtain ⟨y, oy, h3, h4, rfl⟩ := AX.bind_some h2
        obtain ⟨e1, e2, e3⟩ := cells_out h3
        rw [e2, e3] at h4
        obtain ⟨⟨ys, yT, ywr⟩, yH, ys', yD, yW⟩ := y
        dsimp only at e1 h4
        split at h4
        · rename_i hc2
          obtain ⟨rfl, rfl, hyl, hn0, rfl⟩ := hc2
          obtain ⟨z1, oz, h5, h6, rfl⟩ := AX.bind_some h4
          simp [AX.set] at h5
          subst h5
          cases hbc : bytesCs ys with
          | none => rw [hbc] at h6; cases h6
          | some l =>
            rw [hbc] at h6
            simp [AX.ret] at h6
            subst h6
            obtain ⟨im, p', v', him, i0, il, ie, ib, rp, rv⟩ := hw.bld c1
            cases ra with
            | ptr hra =>
            rw [him] at hra; cases hra
            rw [i0, Nat.zero_add]
            cases rv with
            | slice0 => omega
            | slice hmd hnc hcl hcm =>
              rename_i cap imd
              obtain ⟨cur, g1, g2, g3, g4, g5, g6⟩ := hw.row8 e1 hmd
              rw [g2, Nat.zero_add] at ib
              have hmap := bytesCs_map hbc
              have hll : l.length = n := by rw [← hyl, hmap]; simp
              have hcur : cur.toList.take ys.length = l.map fun c => Value.int .u8 c.toNat := by
                have hfl : ys.all flat = true := by
                  rw [hmap]
                  refine List.all_eq_true.2 fun v hv => ?_
                  obtain ⟨c, _, rfl⟩ := List.mem_map.1 hv
                  rfl
                have := g6.flat_eq hfl
                rw [this, hmap]
              rw [← hll] at ib
              refine (tell_any im.blk imd.blk cap p' cur l w ib g1 (by omega) hcm (by rw [g4] at hcl; omega) (by rw [← hcur, hyl, hll]) (by intro e; rw [e] at hll; simp at hll; omega)).mono ?_
              rintro e w' ⟨rfl, o1, o2, o3, o4, o5⟩
              obtain ⟨a1, a2⟩ := hw.struck e1 rfl hmd ⟨o1, o2, o3⟩ o4 o5
              exact ⟨φ, _, rfl, Nx.refl φ s, VR.simple rfl, a1, a2⟩
        · cases h4
      · cases h2
    · cases h2
  · cases h
theorem strsOf_map : ∀ {cs : List Value} {l : List ByteArray}, strsOf cs = some l → cs = l.map Value.string
  | [], l, h => by simp [strsOf] at h; subst h; rfl
  | c :: r, l, h => by
    unfold strsOf at h
    split at h
    · rename_i e; cases e
    · rename_i x r' e
      cases e
      cases hr : strsOf r with
      | none => rw [hr] at h; cases h
      | some t =>
        rw [hr] at h
        cases h
        rw [strsOf_map hr]; rfl
    · cases h
theorem join_ok (args : Array Value) (H : AH) (s : Nat) (q : Out Value) (h : joinX args H s = some q) (φ : Ren) (w : World) (args' : Array Value) (hw : WR Tryz.prog φ H w) (ha : VA φ args args') : Calls Tryz.prog 29 args' w (CallPost Tryz.prog φ H w s q) := by
  obtain ⟨args⟩ := args
  have two : ∀ x y, args = [x, y] → ∃ x' y', args' = #[x', y'] ∧ VR φ x x' ∧ VR φ y y' := fun x y e => by
    subst e
    obtain ⟨l'⟩ := args'
    have hl := ha.len
    simp at hl
    match l', hl with
    | [a, b], _ => exact ⟨a, b, rfl, ha.at_ 0 _ _ rfl rfl, ha.at_ 1 _ _ rfl rfl⟩
  unfold joinX at h
  dsimp only at h
  split at h
  · rename_i sep
    obtain ⟨x', y', rfl, r1, r2⟩ := two _ _ rfl
    cases r1; cases r2
    simp [AX.ret] at h
    subst h
    refine post_low hw (VR.simple rfl) ((Tryz.strings_Join_none none 0 sep w).mono ?_)
    rintro e w' ⟨rfl, rfl⟩
    exact ⟨rfl, Below.refl _ _⟩
  · rename_i d o n m sep
    obtain ⟨x', y', rfl, r1, r2⟩ := two _ _ rfl
    cases r2
    obtain ⟨z, oz, h1, h2, rfl⟩ := AX.bind_some h
    obtain ⟨c1, c2, c3⟩ := cells_out h1
    rw [c2, c3] at h2
    cases hst : strsOf ((z.val.1.drop o).take n) with
    | none => rw [hst] at h2; cases h2
    | some l =>
      rw [hst] at h2
      dsimp only at h2
      split at h2
      · rename_i hc
        obtain ⟨k1, rfl, k3, k4, k5⟩ := hc
        simp [AX.ret] at h2
        subst h2
        have hmap := strsOf_map hst
        have hll : l.length = n := by
          have := congrArg List.length hmap
          simp at this
          omega
        cases r1 with
        | slice0 => omega
        | slice hmd hnc hcl hcm =>
          rename_i cap imd
          obtain ⟨im2, h3, ds, T', fr, g1, g2, g3, g4, g5⟩ := hw.blk d _ c1
          rw [hmd] at h3; cases h3
          have hcell : ∀ (j : Nat) x, l[j]? = some x → w.cell? ⟨imd.blk, imd.base + o + j, none⟩ = some (.string x) := fun j x hx => by
            have hj : j < n := by have := (List.getElem?_eq_some_iff.1 hx).1; omega
            have e1 : ((z.val.1.drop o).take n)[j]? = some (.string x) := by rw [hmap]; simp [hx]
            rw [List.getElem?_take_of_lt hj, List.getElem?_drop] at e1
            obtain ⟨v', e2, e3, _⟩ := g4 _ _ e1
            cases e3
            simp [World.cell?, g1, Nat.add_assoc, e2]
          rw [← hll]
          exact post_low hw (VR.simple rfl) (Tryz.strings_Join imd.blk (imd.base + o) cap l sep w hcell (Array.getElem?_eq_some_iff.1 g1).1 (by omega) (by omega) (by omega))
      · cases h2
  · cases h
end
end Go.Proofs.YtlkceignfhnpoaaGreatDoor
end
section
namespace Go.Proofs.YtlkceignfhnpoaaGreatDoor
open Go AX Go.RowKit
def in64 (x : Int) : Bool := decide (-9223372036854775808 ≤ x) && decide (x ≤ 9223372036854775807)
def in32 (x : Int) : Bool := decide (0 ≤ x) && decide (x < 4294967296)
/-- A unit's text, or none. -/
def utOf (k sq n ps mr : Int) (l : List Int) (self : Bool) (d : ByteArray) : List UInt8 := if checkOf k sq n ps mr l self d.size = 0 then unitText ⟨k, sq, n, ps, mr, l, self, d.data.toList⟩ else []
def recX (args : Array Value) : AX Value :=
  match args.toList with
  | [.agg cs] => (match cs.toList with
    | [.int .i64 en, .int .i64 kind, .int .i64 k, .int .i64 sq, .int .u32 n, .int .u32 ps, .int .u32 mr, .slice none 0 0, .bool self, .string d, .int .i64 sk, .string sd, .bool ss, .int .u8 sc, .int .i64 sn, .int .i64 rk, .string rd, .int .i64 rn] =>
      if (in64 en && (in64 rk && (in64 rn && (in64 sn && (in32 n && (in32 ps && (in32 mr && (decide (0 ≤ sc) && (decide (sc ≤ 255) && (decide (sd.size ≤ 4000) && (decide (rd.size ≤ 4000) && (decide (d.size ≤ 4000) && decide ((utOf k sq n ps mr [] self d).length ≤ 100000))))))))))))) = true then AX.ret (.string ⟨(recText en kind (utOf k sq n ps mr [] self d) (sigText sk sd.data.toList ss sc.toNat sn) rk rd.data.toList rn).toArray⟩) else AX.fail
    | _ => AX.fail)
  | _ => AX.fail
theorem ls_recX (xs : Array Value) : LS (recX xs) := by
  unfold recX
  split
  · split
    · exact LS.ite (LS.ret _) LS.fail
    · exact LS.fail
  · exact LS.fail
theorem env_of {w : World} (h : EnvOK w) : EnvT w := ⟨h.pow, h.powLt, h.words, h.wordsLt, h.most⟩
theorem in64_iff {x : Int} (h : in64 x = true) : Rng64 x := by
  simp only [in64, Bool.and_eq_true, decide_eq_true_eq] at h
  exact ⟨h.1, h.2⟩
theorem in32_iff {x : Int} (h : in32 x = true) : 0 ≤ x ∧ x < 4294967296 := by simpa [in32] using h
theorem rec_ok (args : Array Value) (H : AH) (s : Nat) (q : Out Value) (h : recX args H s = some q) (φ : Ren) (w : World) (args' : Array Value) (hw : WR Tryz.prog φ H w) (ha : VA φ args args') : Calls Tryz.prog 65 args' w (CallPost Tryz.prog φ H w s q) := by
  obtain ⟨args⟩ := args
  unfold recX at h
  dsimp only at h
  split at h
  · rename_i cs
    obtain ⟨cs⟩ := cs
    dsimp only at h
    split at h
    · rename_i en kind k sq n ps mr self d sk sd ss sc sn rk rd rn
      split at h
      · rename_i hc
        simp only [Bool.and_eq_true, decide_eq_true_eq] at hc
        obtain ⟨q1, q2, q3, q4, q5, q6, q7, q8, q9, qa, qb, qc, qd⟩ := hc
        simp [AX.ret] at h
        subst h
        obtain ⟨l'⟩ := args'
        have hl := ha.len
        simp at hl
        obtain ⟨a', rfl⟩ := List.length_eq_one_iff.1 hl.symm
        have ra := ha.at_ 0 _ a' rfl rfl
        have e : a' = .agg #[.int .i64 en, .int .i64 kind, .int .i64 k, .int .i64 sq, .int .u32 n, .int .u32 ps, .int .u32 mr, .slice none 0 0, .bool self, .string d, .int .i64 sk, .string sd, .bool ss, .int .u8 sc, .int .i64 sn, .int .i64 rk, .string rd, .int .i64 rn] := by
          generalize he : ((#[Value.agg #[.int .i64 en, .int .i64 kind, .int .i64 k, .int .i64 sq, .int .u32 n, .int .u32 ps, .int .u32 mr, .slice none 0 0, .bool self, .string d, .int .i64 sk, .string sd, .bool ss, .int .u8 sc, .int .i64 sn, .int .i64 rk, .string rd, .int .i64 rn]] : Array Value)[0]) = u at ra
          simp at he
          subst he
          cases ra with
          | agg _ es hl hv =>
            obtain ⟨es⟩ := es
            simp at hl
            match es, hl with
            | [b0, b1, b2, b3, b4, b5, b6, b7, b8, b9, b10, b11, b12, b13, b14, b15, b16, b17], _ =>
              have h0 := hv 0 _ _ rfl rfl
              have h1 := hv 1 _ _ rfl rfl
              have h2 := hv 2 _ _ rfl rfl
              have h3 := hv 3 _ _ rfl rfl
              have h4 := hv 4 _ _ rfl rfl
              have h5 := hv 5 _ _ rfl rfl
              have h6 := hv 6 _ _ rfl rfl
              have h7 := hv 7 _ _ rfl rfl
              have h8 := hv 8 _ _ rfl rfl
              have h9 := hv 9 _ _ rfl rfl
              have h10 := hv 10 _ _ rfl rfl
              have h11 := hv 11 _ _ rfl rfl
              have h12 := hv 12 _ _ rfl rfl
              have h13 := hv 13 _ _ rfl rfl
              have h14 := hv 14 _ _ rfl rfl
              have h15 := hv 15 _ _ rfl rfl
              have h16 := hv 16 _ _ rfl rfl
              have h17 := hv 17 _ _ rfl rfl
              cases h0; cases h1; cases h2; cases h3; cases h4; cases h5; cases h6; cases h7; cases h8; cases h9; cases h10; cases h11; cases h12; cases h13; cases h14; cases h15; cases h16; cases h17
              rfl
        subst e
        have he := env_of hw.env.ok
        have hU : ∀ W, Below w.heap.size w W → Calls Tryz.prog 124 #[.agg #[.int .i64 k, .int .i64 sq, .int .u32 n, .int .u32 ps, .int .u32 mr, .slice none 0 0, .bool self, .string d]] W fun e w' => e = .returned (.string ⟨(utOf k sq n ps mr [] self d).toArray⟩) ∧ Below W.heap.size W w' := fun W hb => by
          unfold utOf
          by_cases hck : checkOf k sq n ps mr [] self d.size = 0
          · rw [if_pos hck]
            exact unit_ok k sq n ps mr (.slice none 0 0) [] self d W (in32_iff q5).1 (in32_iff q6).1 (in32_iff q7).1 (IntsR.nil _ _) (by simp) hck (he.below hb)
          · rw [if_neg hck]
            exact unit_bad k sq n ps mr (.slice none 0 0) [] self d W (in32_iff q5) (in32_iff q6) (in32_iff q7) (IntsR.nil _ _) (by simp) (by omega) (by simp) hck
        exact post_low hw (VR.simple rfl) (record_txt en kind k sq n ps mr none 0 0 self d sk sd ss sc sn rk rd rn _ w he (in64_iff q1) (in64_iff q2) (in64_iff q3) (in64_iff q4) q8 q9 qa qb qd hU)
      · cases h
    · cases h
  · cases h
end Go.Proofs.YtlkceignfhnpoaaGreatDoor
end
