/-
  Contract of (*line.Step).take.
-/
import Derived.Test.YtgilbdhoddmpbaaDoorLnKind
import Derived.Test.YtgilbdhoddmpbaaDoorLnNum
import Derived.Test.YtgilbdhoddmpbaaDoorUnhex
import Derived.Test.YtgilbdhoddmpbaaDoorBox
import Derived.RangeFuncBox
import Derived.Maps.AppendAt
set_option linter.unusedVariables false
set_option linter.unusedSimpArgs false
namespace Go.Proofs.YtgilbdhoddmpbaaDoor
open Go.RowKit

/-- What lies below B, but for the block b, lies as it lay. -/
structure But (B b : Nat) (w w' : World) : Prop where
  os : w'.os = w.os
  tape : w'.tape = w.tape
  output : w'.output = w.output
  size : w.heap.size ≤ w'.heap.size
  block : ∀ k, k < B → k ≠ b → w'.heap[k]? = w.heap[k]?
theorem But.refl (B b : Nat) (w : World) : But B b w w := ⟨rfl, rfl, rfl, Nat.le_refl _, fun _ _ _ => rfl⟩
theorem But.trans {B b : Nat} {x y z : World} (h : But B b x y) (k : But B b y z) : But B b x z :=
  ⟨k.os.trans h.os, k.tape.trans h.tape, k.output.trans h.output, Nat.le_trans h.size k.size, fun i h1 h2 => (k.block i h1 h2).trans (h.block i h1 h2)⟩
theorem But.of_below {B b : Nat} {w w' : World} (hb : Below w.heap.size w w') (hB : B ≤ w.heap.size) : But B b w w' := ⟨hb.os, hb.tape, hb.output, hb.size, fun k h1 _ => hb.block k (by omega)⟩
theorem But.of_grown {B b : Nat} {w w' : World} {row : Option Nat} (hg : w.grownBy w' row) (hB : B ≤ w.heap.size) (hr : ∀ j, row = some j → B ≤ j) : But B b w w' :=
  ⟨hg.os, hg.tape, hg.output, hg.size, fun k h1 _ => hg.block k (by omega) (fun e => by have := hr k e.symm; omega)⟩
theorem But.set {B b : Nat} (w : World) (o : Nat) (v : Value) : But B b w (w.setCell ⟨b, o, none⟩ v) :=
  ⟨rfl, rfl, rfl, by simp, fun k _ h2 => Below.heap_setCell _ _ _ _ h2⟩
def numV (l : List Int) : List Value := l.map (Value.int .i64)
/-- A step in its block. -/
structure StpAt (w : World) (B b : Nat) (x : Stp) (nv : Value) : Prop where
  box : BoxAt w b 34 [.string ⟨x.word.toArray⟩, nv, .string ⟨x.ask.toArray⟩, .string ⟨x.data.toArray⟩]
  own : w.ownsRow B 3 1 nv x.nums.length (numV x.nums)
  lt : b < B
  le : B ≤ w.heap.size
theorem own_set {w : World} {B b o : Nat} {nv v : Value} {n : Nat} {xs : List Value} (h : w.ownsRow B 3 1 nv n xs) (hb : b < B) : (w.setCell ⟨b, o, none⟩ v).ownsRow B 3 1 nv n xs :=
  h.kept (row := some b) ⟨rfl, rfl, rfl, by simp, fun k _ hk => Below.heap_setCell _ _ _ _ (fun e => hk (by rw [e]))⟩ (Or.inr (fun e => by have := (h.lt b e).1; omega))
theorem StpAt.below {w w' : World} {B b : Nat} {x : Stp} {nv : Value} (h : StpAt w B b x nv) (hb : Below w.heap.size w w') : StpAt w' B b x nv :=
  ⟨h.box.below hb h.box.lt, h.own.kept (row := none) ⟨hb.os, hb.tape, hb.output, hb.size, fun k hk _ => hb.block k hk⟩ (by cases hv : nv.ownBlock <;> simp), h.lt, Nat.le_trans h.le hb.size⟩
theorem StpAt.setAsk {w : World} {B b : Nat} {x : Stp} {nv : Value} (h : StpAt w B b x nv) (a : ByteArray) : StpAt (w.setCell ⟨b, 2, none⟩ (.string a)) B b { x with ask := a.data.toList } nv :=
  ⟨h.box.set 2 _, own_set h.own h.lt, h.lt, by simpa using h.le⟩
theorem StpAt.setData {w : World} {B b : Nat} {x : Stp} {nv : Value} (h : StpAt w B b x nv) (a : ByteArray) : StpAt (w.setCell ⟨b, 3, none⟩ (.string a)) B b { x with data := a.data.toList } nv :=
  ⟨h.box.set 3 _, own_set h.own h.lt, h.lt, by simpa using h.le⟩
def LtakeEnd (R : Option Stp) (w : World) (B b : Nat) (e : Ending) (w' : World) : Prop :=
  But B b w w' ∧ match R with
    | some y => e = .returned (.bool true) ∧ ∃ nv, StpAt w' B b y nv
    | none => e = .returned (.bool false)
theorem ltake_ok {R : Option Stp} {w w' : World} {B b : Nat} {e : Ending} {y : Stp} {nv : Value} (h : R = some y) (hg : But B b w w') (hs : StpAt w' B b y nv) (he : e = .returned (.bool true)) : LtakeEnd R w B b e w' := by
  subst h; exact ⟨hg, he, nv, hs⟩
theorem ltake_no {R : Option Stp} {w w' : World} {B b : Nat} {e : Ending} (h : R = none) (hg : But B b w w') (he : e = .returned (.bool false)) : LtakeEnd R w B b e w' := by
  subst h; exact ⟨hg, he⟩
set_option maxRecDepth 100000 in
set_option maxHeartbeats 1000000 in
theorem ltake_87 (x : Stp) (nv : Value) (b B : Nat) (s : ByteArray) (w : World) (hst : StpAt w B b x nv) :
    Calls Tryd.prog 31 #[.pointer (some ⟨b, 0, none⟩), .int .i32 87, .string s] w (LtakeEnd (takeL 87 s.data.toList x) w B b) := by
  have HT : Hid (takeL 87 s.data.toList x = if askOf s.data.toList = 0 then none else some { x with ask := s.data.toList }) := Lib.hid rfl
  generalize takeL 87 s.data.toList x = RT at *
  have HKD := Lib.hid (fun W => lkind_any s W)
  have HST := Lib.hid hst
  have c2 := hst.box.cell 2
  have f2 := hst.box.froz 2
  simp only [List.getElem?_cons_succ, List.getElem?_cons_zero] at c2 f2
  clear hst
  have HS2 := Lib.hid (HST.out.setAsk s)
  by_cases hk : askOf s.data.toList = 0
  · have HR : Hid (RT = none) := Lib.hid (by rw [HT.out, if_pos hk])
    rw [hk] at HKD
    clear hk HT
    go_enter Tryd.func31, Tryd.ntmps31
    go_wp2_with fail
    refine (HKD.out _).mono ?_
    rintro e w2 ⟨rfl, rfl⟩
    go_wp2_with fail
    go_ret
    exact ltake_no HR.out (But.set _ _ _) rfl
  · have HR : Hid (RT = some { x with ask := s.data.toList }) := Lib.hid (by rw [HT.out, if_neg hk])
    have hb : (askOf s.data.toList != 0) = true := by simpa using hk
    clear hk HT
    generalize askOf s.data.toList = K at *
    go_enter Tryd.func31, Tryd.ntmps31
    go_wp2_with fail
    refine (HKD.out _).mono ?_
    rintro e w2 ⟨rfl, rfl⟩
    go_wp2_with fail
    go_ret
    exact ltake_ok HR.out (But.set _ _ _) HS2.out (by simp [hb])
set_option maxRecDepth 100000 in
set_option maxHeartbeats 1000000 in
theorem ltake_72 (x : Stp) (nv : Value) (b B : Nat) (s : ByteArray) (w : World) (hs : s.size ≤ 1000000) (hst : StpAt w B b x nv) :
    Calls Tryd.prog 31 #[.pointer (some ⟨b, 0, none⟩), .int .i32 72, .string s] w (LtakeEnd (takeL 72 s.data.toList x) w B b) := by
  have HT : Hid (takeL 72 s.data.toList x = (unhexOf s.data.toList).map fun d => { x with data := d }) := Lib.hid rfl
  generalize takeL 72 s.data.toList x = RT at *
  have HUN := Lib.hid (unhex_any s w hs)
  have HST := Lib.hid hst
  clear hst
  unfold UnhexPost at HUN
  go_enter Tryd.func31, Tryd.ntmps31
  go_wp2_with fail
  refine HUN.out.mono ?_
  rintro e w2 ⟨rfl, hb2⟩
  have HS2 := Lib.hid (HST.out.below hb2)
  have HB2 : Hid (But B b w w2) := Lib.hid (But.of_below hb2 HST.out.le)
  have c3 := HS2.out.box.cell 3
  have f3 := HS2.out.box.froz 3
  simp only [List.getElem?_cons_succ, List.getElem?_cons_zero] at c3 f3
  clear hb2 HUN HST
  cases hu : unhexOf s.data.toList with
  | none =>
    rw [hu] at HT
    have HR : Hid (RT = none) := Lib.hid HT.out
    simp only [Option.getD_none, Option.isSome_none]
    clear hu HT
    go_wp2_with fail
    go_ret
    exact ltake_no HR.out (HB2.out.trans (But.set _ _ _)) rfl
  | some d =>
    rw [hu] at HT
    have HR : Hid (RT = some { x with data := d }) := Lib.hid HT.out
    have HS3 := Lib.hid (HS2.out.setData ⟨d.toArray⟩)
    simp only [Option.getD_some, Option.isSome_some]
    clear hu HT
    go_wp2_with fail
    go_ret
    exact ltake_ok HR.out (HB2.out.trans (But.set _ _ _)) HS3.out rfl
theorem info_int : (Tryd.prog.info? 3).map (fun i => (i.zero, i.size, i.bytes)) = some (some (.int .i64 0), 1, 8) := by kernel_rfl
theorem numV_snoc (l : List Int) (n : Int) : numV l ++ [Value.int .i64 n] = numV (l ++ [n]) := by simp [numV]
set_option maxRecDepth 100000 in
set_option maxHeartbeats 2000000 in
theorem ltake_num (c : Nat) (hc : c = 69 ∨ c = 78) (x : Stp) (nv : Value) (b B : Nat) (s : ByteArray) (w : World) (hs : s.size ≤ 1000000) (hn : x.nums.length ≤ 1000) (hst : StpAt w B b x nv) :
    Calls Tryd.prog 31 #[.pointer (some ⟨b, 0, none⟩), .int .i32 (c : Int), .string s] w (LtakeEnd (takeL (UInt8.ofNat c) s.data.toList x) w B b) := by
  obtain ⟨i0, hi, hz0, hz1, hz2⟩ := info_parts info_int
  have HT : Hid (takeL (UInt8.ofNat c) s.data.toList x = match numL s.data.toList with
    | some n => if c = 69 ∧ 1 < n then none else some { x with nums := x.nums ++ [(n : Int)] }
    | none => none) := Lib.hid (by unfold takeL; rcases hc with rfl | rfl <;> cases numL s.data.toList <;> simp)
  have hc1 : ((c : Int) == 87) = false := beq_eq_false_iff_ne.2 (by omega)
  have hc2 : ((c : Int) == 72) = false := beq_eq_false_iff_ne.2 (by omega)
  generalize takeL (UInt8.ofNat c) s.data.toList x = RT at *
  have HNM := Lib.hid (lnum_any s w hs)
  have HST := Lib.hid hst
  have hbB := hst.lt
  clear hst
  go_enter Tryd.func31, Tryd.ntmps31
  go_wp2_with fail
  refine HNM.out.mono ?_
  rintro e w2 ⟨hb2, hpost⟩
  have HS2 := Lib.hid (HST.out.below hb2)
  have HB2 : Hid (But B b w w2) := Lib.hid (But.of_below hb2 HST.out.le)
  have hown2 := HS2.out.own
  have hle2 := HS2.out.le
  have hw2 := HS2.out.box.lt
  have c1 := HS2.out.box.cell 1
  have f1 := HS2.out.box.froz 1
  simp only [List.getElem?_cons_succ, List.getElem?_cons_zero] at c1 f1
  obtain ⟨n, is, hpost', hN⟩ : ∃ (n : Int) (is : Bool), e = .returned (.tuple #[.int .i64 n, .bool is]) ∧ ((is = true ∧ numL s.data.toList = some n.toNat ∧ 0 ≤ n) ∨ (is = false ∧ numL s.data.toList = none)) := by
    cases hq : numL s.data.toList with
    | none => rw [hq] at hpost; obtain ⟨y, he⟩ := hpost; exact ⟨y, false, he, .inr ⟨rfl, rfl⟩⟩
    | some m => rw [hq] at hpost; exact ⟨m, true, hpost.1, .inl ⟨rfl, by simp, by omega⟩⟩
  subst hpost'
  clear hb2 hpost HNM HST
  go_wp2_with (at_builtin; refine wpList_append_own _ rfl _ _ 30 rfl B 3 i0 (.int .i64 0) 1 8 Tryd.underlying30 hi hz0 hz1 hz2 rfl (by decide) _ _ _ rfl (hown2.alloc _) ⟨w2.heap.size, 0, none⟩ 1 1 [.int .i64 n] rfl rfl ?c1 ?c2 ?c3 ?c4 ?c5 ?_)
  case c1 => exact (cell_one_new _ _ _)
  case c2 => simp [Value.oneCell']
  case c3 => unfold maxLen; omega
  case c4 => omega
  case c5 => simp; omega
  intro v3 w3 hown3 hgrow hnil
  obtain ⟨g', cap', rfl⟩ := ownsRow_succ hown3
  have hbx3 : BoxAt w3 b 34 _ := (HS2.out.box.alloc).grown hgrow (fun e => by have := (hown2.lt b e.symm).1; omega)
  have HB3 : Hid (But B b w w3) := Lib.hid ((HB2.out.trans (But.of_below ((Below.refl _ w2).alloc (Nat.le_refl _) _) hle2)).trans (But.of_grown hgrow (by simp; omega) (fun j hj => (hown2.lt j hj).1)))
  have hle3 : B ≤ w3.heap.size := by have := HB3.out.size; have := HB2.out.size; have := hgrow.size; simp at this; omega
  have HS3 : Hid (StpAt (w3.setCell ⟨b, 1, none⟩ (.slice (some ⟨g', 0, none⟩) (x.nums.length + 1) cap')) B b { x with nums := x.nums ++ [n] } (.slice (some ⟨g', 0, none⟩) (x.nums.length + 1) cap')) := Lib.hid
    ⟨hbx3.set 1 _, by rw [List.length_append, List.length_singleton]; rw [numV_snoc] at hown3; exact own_set hown3 hbB, hbB, by simpa using hle3⟩
  have HB4 : Hid (But B b w (w3.setCell ⟨b, 1, none⟩ (.slice (some ⟨g', 0, none⟩) (x.nums.length + 1) cap'))) := Lib.hid (HB3.out.trans (But.set _ _ _))
  have k1 := hbx3.cell 1
  have g1 := hbx3.froz 1
  simp only [List.getElem?_cons_succ, List.getElem?_cons_zero] at k1 g1
  clear hbx3 HB3 HB2 HS2 hown2 hown3 hgrow hnil c1 f1
  rcases hN with ⟨rfl, hNn, hn0⟩ | ⟨rfl, hNn⟩
  · rw [hNn] at HT
    by_cases h69 : c = 69
    · have hc3 : ((c : Int) != 69) = false := by simp; omega
      by_cases h1 : 1 < n.toNat
      · have HR : Hid (RT = none) := Lib.hid (by rw [HT.out]; simp only; rw [if_pos ⟨h69, h1⟩])
        have hn1 : ¬ (n ≤ 1) := by omega
        clear HT hNn h69
        go_wp2_with fail
        go_ret
        exact ltake_no HR.out HB4.out (by simp [hc3, hn1])
      · have HR : Hid (RT = some { x with nums := x.nums ++ [n] }) := Lib.hid (by rw [HT.out]; simp only; rw [if_neg (fun k => h1 k.2)]; rw [Int.toNat_of_nonneg hn0])
        have hn1 : n ≤ 1 := by omega
        clear HT hNn h69
        go_wp2_with fail
        go_ret
        exact ltake_ok HR.out HB4.out HS3.out (by simp [hc3, hn1])
    · have hc3 : ((c : Int) != 69) = true := by simp; omega
      have HR : Hid (RT = some { x with nums := x.nums ++ [n] }) := Lib.hid (by rw [HT.out]; simp only; rw [if_neg (fun k => h69 k.1)]; rw [Int.toNat_of_nonneg hn0])
      clear HT hNn h69
      go_wp2_with fail
      go_ret
      exact ltake_ok HR.out HB4.out HS3.out (by simp [hc3])
  · rw [hNn] at HT
    have HR : Hid (RT = none) := Lib.hid HT.out
    clear HT hNn
    go_wp2_with fail
    go_ret
    exact ltake_no HR.out HB4.out rfl
theorem ltake_any (c : UInt8) (hc : c = 87 ∨ c = 72 ∨ c = 69 ∨ c = 78) (x : Stp) (nv : Value) (b B : Nat) (s : ByteArray) (w : World) (hs : s.size ≤ 1000000) (hn : x.nums.length ≤ 1000) (hst : StpAt w B b x nv) :
    Calls Tryd.prog 31 #[.pointer (some ⟨b, 0, none⟩), .int .i32 ((c.toNat : Nat) : Int), .string s] w (LtakeEnd (takeL c s.data.toList x) w B b) := by
  rcases hc with rfl | rfl | rfl | rfl
  · exact ltake_87 x nv b B s w hst
  · exact ltake_72 x nv b B s w hs hst
  · exact ltake_num 69 (.inl rfl) x nv b B s w hs hn hst
  · exact ltake_num 78 (.inr rfl) x nv b B s w hs hn hst
theorem take_len {c : UInt8} {w : List UInt8} {x y : Stp} (h : takeL c w x = some y) : y.nums.length ≤ x.nums.length + 1 := by
  unfold takeL at h
  split at h
  · split at h <;> cases h; exact Nat.le_succ _
  · split at h
    · cases hu : unhexOf w with
      | none => rw [hu] at h; cases h
      | some d => rw [hu] at h; cases h; exact Nat.le_succ _
    · split at h
      · split at h
        · cases h
        · cases h; simp
      · cases h
end Go.Proofs.YtgilbdhoddmpbaaDoor
