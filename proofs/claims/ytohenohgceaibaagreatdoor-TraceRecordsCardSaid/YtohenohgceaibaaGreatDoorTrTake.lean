/-
  Contract of trace.take.
-/
import Derived.Test.YtohenohgceaibaaGreatDoorTrNums
import Derived.Test.YtohenohgceaibaaGreatDoorUnhex
set_option linter.unusedVariables false
set_option linter.unusedSimpArgs false
namespace Go.Proofs.YtohenohgceaibaaGreatDoor
open Go.RowKit

def cellsP (p : Pd) (lv : Value) : List Value := [.int .i64 p.k, .int .i64 p.sq, .int .u32 p.n, .int .u32 p.ps, .int .u32 p.mr, lv, .bool p.self, .string ⟨p.d.toArray⟩]
/-- A unit in the making, in block b; its list lies in a row from B on. -/
def PSt (w : World) (B b : Nat) (p : Pd) (lv : Value) : Prop := BoxAt w b 31 (cellsP p lv) ∧ w.ownsRow B 28 1 lv p.l.length (p.l.map (Value.int .u32))
theorem own_grown {w w' : World} {B : Nat} {v : Value} {n : Nat} {xs cs : List Value} {b : Nat} (h : w.ownsRow B 28 1 v n xs) (hb : BoxAt w b 31 cs) (hg : w.grownBy w' (some b)) : w'.ownsRow B 28 1 v n xs := by
  refine h.kept hg (Or.inr ?_)
  rcases h.2 with ⟨rfl, _⟩ | ⟨g, cap, cur, rfl, _, hgg, _⟩
  · simp [Value.ownBlock]
  · simp only [Value.ownBlock, ne_eq, Option.some.injEq]
    intro e
    subst e
    unfold BoxAt at hb
    rw [hgg] at hb
    simp only [Option.some.injEq, Obj.cells.injEq] at hb
    exact absurd hb.2.1 (by decide)
theorem grown_below {w w' : World} (b : Nat) (hb : Below w.heap.size w w') : w.grownBy w' (some b) := ⟨hb.os, hb.tape, hb.output, hb.size, fun k hk _ => hb.block k hk⟩
theorem grown_set (w : World) (b o : Nat) (v : Value) : w.grownBy (w.setCell ⟨b, o, none⟩ v) (some b) :=
  ⟨rfl, rfl, rfl, by simp, fun k _ hk => Below.heap_setCell _ _ _ _ (fun e => hk (by rw [e]))⟩
theorem PSt.keep {w w' : World} {B b : Nat} {p : Pd} {lv : Value} (h : PSt w B b p lv) (hb : Below w.heap.size w w') : PSt w' B b p lv := ⟨h.1.below hb h.1.lt, own_below h.2 hb⟩
theorem PSt.set {w : World} {B b : Nat} {p : Pd} {lv : Value} (h : PSt w B b p lv) (o : Nat) (v : Value) (q : Pd) (hc : (cellsP p lv).set o v = cellsP q lv) (hl : q.l = p.l) : PSt (w.setCell ⟨b, o, none⟩ v) B b q lv := by
  refine ⟨?_, ?_⟩
  · rw [← hc]; exact h.1.set o v
  · rw [hl]; exact own_grown h.2 h.1 (grown_set w b o v)
def TakeEnd (R : Option Pd) (w : World) (B b : Nat) (e : Ending) (w' : World) : Prop :=
  w.grownBy w' (some b) ∧ match R with
    | some q => e = .returned (.bool true) ∧ ∃ lv, PSt w' B b q lv
    | none => e = .returned (.bool false)
theorem take_ok {R : Option Pd} {w w' : World} {B b : Nat} {e : Ending} {q : Pd} {lv : Value} (h : R = some q) (hg : w.grownBy w' (some b)) (hs : PSt w' B b q lv) (he : e = .returned (.bool true)) : TakeEnd R w B b e w' := by
  subst h; exact ⟨hg, he, lv, hs⟩
theorem take_no {R : Option Pd} {w w' : World} {B b : Nat} {e : Ending} (h : R = none) (hg : w.grownBy w' (some b)) (he : e = .returned (.bool false)) : TakeEnd R w B b e w' := by
  subst h; exact ⟨hg, he⟩
set_option maxRecDepth 100000 in
set_option maxHeartbeats 1000000 in
theorem take_115 (p : Pd) (lv : Value) (b B : Nat) (s : ByteArray) (w : World) (hs : s.size ≤ 1000000) (he : Env w) (hst : PSt w B b p lv) :
    Calls Tryz.prog 33 #[.pointer (some ⟨b, 0, none⟩), .int .i32 115, .string s] w (TakeEnd (takeF 115 s.data.toList p) w B b) := by
  have HT : Hid (takeF 115 s.data.toList p = (numOf [115, 113] s.data.toList).map fun v => { p with sq := v }) := Lib.hid rfl
  generalize takeF 115 s.data.toList p = RT at *
  have HNM := Lib.hid (number_any s ⟨#[115, 113]⟩ w hs he)
  have HST := Lib.hid hst
  clear hst he
  go_enter Tryz.func33, Tryz.ntmps33
  go_wp2_with fail
  refine HNM.out.mono ?_
  rintro e w2 ⟨hb2, hpost⟩
  have HST2 := Lib.hid (HST.out.keep hb2)
  have HG2 := Lib.hid (grown_below b hb2)
  have hpost2 : match numOf [115, 113] s.data.toList with
    | some v => e = .returned (.tuple #[.int .i64 v, .bool true])
    | none => ∃ n : Int, -9223372036854775808 ≤ n ∧ n ≤ 9223372036854775807 ∧ e = .returned (.tuple #[.int .i64 n, .bool false]) := hpost
  clear hpost hb2 HST HNM
  obtain ⟨q0, q1, q2, q3, q4, q5, q6, q7⟩ := HST2.out.1.cells8
  obtain ⟨f0, f1, f2, f3, f4, f5, f6, f7⟩ := HST2.out.1.frozs8
  cases hno : numOf [115, 113] s.data.toList with
  | none =>
    rw [hno] at hpost2 HT
    obtain ⟨n, hn1, hn2, rfl⟩ := hpost2
    have HR : Hid (RT = none) := Lib.hid HT.out
    clear hno HT
    go_wp2_with fail
    go_ret
    exact take_no HR.out (HG2.out.trans (grown_set _ b 1 _)) rfl
  | some v =>
    rw [hno] at hpost2 HT
    simp only at hpost2
    obtain rfl := hpost2
    have hv := (numOf_iff _ _ v).1 hno
    have HR : Hid (RT = some { p with sq := v }) := Lib.hid HT.out
    clear hno HT
    go_wp2_with fail
    go_ret
    exact take_ok (lv := lv) HR.out (HG2.out.trans (grown_set _ b 1 _)) (HST2.out.set 1 (.int .i64 v) _ rfl rfl) rfl
set_option maxRecDepth 100000 in
set_option maxHeartbeats 1000000 in
theorem take_110 (p : Pd) (lv : Value) (b B : Nat) (s : ByteArray) (w : World) (hs : s.size ≤ 1000000) (he : Env w) (hst : PSt w B b p lv) :
    Calls Tryz.prog 33 #[.pointer (some ⟨b, 0, none⟩), .int .i32 110, .string s] w (TakeEnd (takeF 110 s.data.toList p) w B b) := by
  have HT : Hid (takeF 110 s.data.toList p = (numOf [110] s.data.toList).map fun v => { p with n := v }) := Lib.hid rfl
  generalize takeF 110 s.data.toList p = RT at *
  have HNM := Lib.hid (number_any s ⟨#[110]⟩ w hs he)
  have HST := Lib.hid hst
  clear hst he
  go_enter Tryz.func33, Tryz.ntmps33
  go_wp2_with fail
  refine HNM.out.mono ?_
  rintro e w2 ⟨hb2, hpost⟩
  have HST2 := Lib.hid (HST.out.keep hb2)
  have HG2 := Lib.hid (grown_below b hb2)
  have hpost2 : match numOf [110] s.data.toList with
    | some v => e = .returned (.tuple #[.int .i64 v, .bool true])
    | none => ∃ n : Int, -9223372036854775808 ≤ n ∧ n ≤ 9223372036854775807 ∧ e = .returned (.tuple #[.int .i64 n, .bool false]) := hpost
  clear hpost hb2 HST HNM
  obtain ⟨q0, q1, q2, q3, q4, q5, q6, q7⟩ := HST2.out.1.cells8
  obtain ⟨f0, f1, f2, f3, f4, f5, f6, f7⟩ := HST2.out.1.frozs8
  cases hno : numOf [110] s.data.toList with
  | none =>
    rw [hno] at hpost2 HT
    obtain ⟨n, hn1, hn2, rfl⟩ := hpost2
    have HR : Hid (RT = none) := Lib.hid HT.out
    clear hno HT
    go_wp2_with fail
    refine (of_any n _).mono ?_
    rintro e w2' ⟨rfl, rfl⟩
    go_wp2_with fail
    go_ret
    exact take_no HR.out (HG2.out.trans (grown_set _ b 2 _)) rfl
  | some v =>
    rw [hno] at hpost2 HT
    simp only at hpost2
    obtain rfl := hpost2
    have hv := (numOf_iff _ _ v).1 hno
    have HR : Hid (RT = some { p with n := v }) := Lib.hid HT.out
    clear hno HT
    go_wp2_with fail
    refine (of_any v _).mono ?_
    rintro e w2' ⟨rfl, rfl⟩
    rw [show v % 16777216 = v by omega]
    go_wp2_with fail
    go_ret
    exact take_ok (lv := lv) HR.out (HG2.out.trans (grown_set _ b 2 _)) (HST2.out.set 2 (.int .u32 v) _ rfl rfl) rfl
set_option maxRecDepth 100000 in
set_option maxHeartbeats 1000000 in
theorem take_112 (p : Pd) (lv : Value) (b B : Nat) (s : ByteArray) (w : World) (hs : s.size ≤ 1000000) (he : Env w) (hst : PSt w B b p lv) :
    Calls Tryz.prog 33 #[.pointer (some ⟨b, 0, none⟩), .int .i32 112, .string s] w (TakeEnd (takeF 112 s.data.toList p) w B b) := by
  have HT : Hid (takeF 112 s.data.toList p = (numOf [112, 115] s.data.toList).map fun v => { p with ps := v }) := Lib.hid rfl
  generalize takeF 112 s.data.toList p = RT at *
  have HNM := Lib.hid (number_any s ⟨#[112, 115]⟩ w hs he)
  have HST := Lib.hid hst
  clear hst he
  go_enter Tryz.func33, Tryz.ntmps33
  go_wp2_with fail
  refine HNM.out.mono ?_
  rintro e w2 ⟨hb2, hpost⟩
  have HST2 := Lib.hid (HST.out.keep hb2)
  have HG2 := Lib.hid (grown_below b hb2)
  have hpost2 : match numOf [112, 115] s.data.toList with
    | some v => e = .returned (.tuple #[.int .i64 v, .bool true])
    | none => ∃ n : Int, -9223372036854775808 ≤ n ∧ n ≤ 9223372036854775807 ∧ e = .returned (.tuple #[.int .i64 n, .bool false]) := hpost
  clear hpost hb2 HST HNM
  obtain ⟨q0, q1, q2, q3, q4, q5, q6, q7⟩ := HST2.out.1.cells8
  obtain ⟨f0, f1, f2, f3, f4, f5, f6, f7⟩ := HST2.out.1.frozs8
  cases hno : numOf [112, 115] s.data.toList with
  | none =>
    rw [hno] at hpost2 HT
    obtain ⟨n, hn1, hn2, rfl⟩ := hpost2
    have HR : Hid (RT = none) := Lib.hid HT.out
    clear hno HT
    go_wp2_with fail
    refine (of_any n _).mono ?_
    rintro e w2' ⟨rfl, rfl⟩
    go_wp2_with fail
    go_ret
    exact take_no HR.out (HG2.out.trans (grown_set _ b 3 _)) rfl
  | some v =>
    rw [hno] at hpost2 HT
    simp only at hpost2
    obtain rfl := hpost2
    have hv := (numOf_iff _ _ v).1 hno
    have HR : Hid (RT = some { p with ps := v }) := Lib.hid HT.out
    clear hno HT
    go_wp2_with fail
    refine (of_any v _).mono ?_
    rintro e w2' ⟨rfl, rfl⟩
    rw [show v % 16777216 = v by omega]
    go_wp2_with fail
    go_ret
    exact take_ok (lv := lv) HR.out (HG2.out.trans (grown_set _ b 3 _)) (HST2.out.set 3 (.int .u32 v) _ rfl rfl) rfl
set_option maxRecDepth 100000 in
set_option maxHeartbeats 1000000 in
theorem take_109 (p : Pd) (lv : Value) (b B : Nat) (s : ByteArray) (w : World) (hs : s.size ≤ 1000000) (he : Env w) (hst : PSt w B b p lv) :
    Calls Tryz.prog 33 #[.pointer (some ⟨b, 0, none⟩), .int .i32 109, .string s] w (TakeEnd (takeF 109 s.data.toList p) w B b) := by
  have HT : Hid (takeF 109 s.data.toList p = (numOf [109, 114] s.data.toList).map fun v => { p with mr := v }) := Lib.hid rfl
  generalize takeF 109 s.data.toList p = RT at *
  have HNM := Lib.hid (number_any s ⟨#[109, 114]⟩ w hs he)
  have HST := Lib.hid hst
  clear hst he
  go_enter Tryz.func33, Tryz.ntmps33
  go_wp2_with fail
  refine HNM.out.mono ?_
  rintro e w2 ⟨hb2, hpost⟩
  have HST2 := Lib.hid (HST.out.keep hb2)
  have HG2 := Lib.hid (grown_below b hb2)
  have hpost2 : match numOf [109, 114] s.data.toList with
    | some v => e = .returned (.tuple #[.int .i64 v, .bool true])
    | none => ∃ n : Int, -9223372036854775808 ≤ n ∧ n ≤ 9223372036854775807 ∧ e = .returned (.tuple #[.int .i64 n, .bool false]) := hpost
  clear hpost hb2 HST HNM
  obtain ⟨q0, q1, q2, q3, q4, q5, q6, q7⟩ := HST2.out.1.cells8
  obtain ⟨f0, f1, f2, f3, f4, f5, f6, f7⟩ := HST2.out.1.frozs8
  cases hno : numOf [109, 114] s.data.toList with
  | none =>
    rw [hno] at hpost2 HT
    obtain ⟨n, hn1, hn2, rfl⟩ := hpost2
    have HR : Hid (RT = none) := Lib.hid HT.out
    clear hno HT
    go_wp2_with fail
    refine (of_any n _).mono ?_
    rintro e w2' ⟨rfl, rfl⟩
    go_wp2_with fail
    go_ret
    exact take_no HR.out (HG2.out.trans (grown_set _ b 4 _)) rfl
  | some v =>
    rw [hno] at hpost2 HT
    simp only at hpost2
    obtain rfl := hpost2
    have hv := (numOf_iff _ _ v).1 hno
    have HR : Hid (RT = some { p with mr := v }) := Lib.hid HT.out
    clear hno HT
    go_wp2_with fail
    refine (of_any v _).mono ?_
    rintro e w2' ⟨rfl, rfl⟩
    rw [show v % 16777216 = v by omega]
    go_wp2_with fail
    go_ret
    exact take_ok (lv := lv) HR.out (HG2.out.trans (grown_set _ b 4 _)) (HST2.out.set 4 (.int .u32 v) _ rfl rfl) rfl
set_option maxRecDepth 100000 in
set_option maxHeartbeats 1000000 in
theorem take_108 (p : Pd) (lv : Value) (b B : Nat) (s : ByteArray) (w : World) (hs : s.size ≤ 1000000) (he : Env w) (hst : PSt w B b p lv) (hB : B ≤ w.heap.size) :
    Calls Tryz.prog 33 #[.pointer (some ⟨b, 0, none⟩), .int .i32 108, .string s] w (TakeEnd (takeF 108 s.data.toList p) w B b) := by
  have HT : Hid (takeF 108 s.data.toList p = (numsOf s.data.toList).map fun v => { p with l := v }) := Lib.hid rfl
  generalize takeF 108 s.data.toList p = RT at *
  have HNM := Lib.hid (nums_any s w hs he)
  have HST := Lib.hid hst
  clear hst he
  go_enter Tryz.func33, Tryz.ntmps33
  go_wp2_with fail
  refine HNM.out.mono ?_
  rintro e w2 ⟨hb2, hpost⟩
  have HST2 := Lib.hid (HST.out.keep hb2)
  have HG2 := Lib.hid (grown_below b hb2)
  clear hb2 HST HNM
  obtain ⟨q0, q1, q2, q3, q4, q5, q6, q7⟩ := HST2.out.1.cells8
  obtain ⟨f0, f1, f2, f3, f4, f5, f6, f7⟩ := HST2.out.1.frozs8
  cases hno : numsOf s.data.toList with
  | none =>
    rw [hno] at hpost HT
    simp only at hpost
    obtain rfl := hpost
    have HR : Hid (RT = none) := Lib.hid HT.out
    clear hno HT
    go_wp2_with fail
    go_ret
    exact take_no HR.out (HG2.out.trans (grown_set _ b 5 _)) rfl
  | some l =>
    rw [hno] at hpost HT
    obtain ⟨v, rfl, hown⟩ := hpost
    have hll : l.length ≤ 9223372036854775807 := by
      rcases hown.2 with ⟨_, h0⟩ | ⟨g, cap, cur, _, _, _, h1, h2, _⟩
      · omega
      · unfold maxLen at h2; omega
    obtain ⟨a, c, rfl, _, _, _⟩ := (IntsR.of_owns hown hll).len
    have HO := Lib.hid (ownsRow_mono hown hB)
    have HR : Hid (RT = some { p with l := l }) := Lib.hid HT.out
    clear hno HT hown
    go_wp2_with fail
    go_ret
    refine take_ok (lv := .slice a l.length c) HR.out (HG2.out.trans (grown_set _ b 5 _)) ⟨?_, ?_⟩ rfl
    · exact HST2.out.1.set 5 _
    · exact own_grown HO.out HST2.out.1 (grown_set _ b 5 _)
set_option maxRecDepth 100000 in
set_option maxHeartbeats 1000000 in
theorem take_100 (p : Pd) (lv : Value) (b B : Nat) (s : ByteArray) (w : World) (hs : s.size ≤ 1000000) (he : Env w) (hst : PSt w B b p lv) :
    Calls Tryz.prog 33 #[.pointer (some ⟨b, 0, none⟩), .int .i32 100, .string s] w (TakeEnd (takeF 100 s.data.toList p) w B b) := by
  have hTz : (⟨(Lib.trimPrefix s.data.toList [100]).toArray⟩ : ByteArray).size ≤ 1000000 := by
    rw [size_arr]
    unfold Lib.trimPrefix
    split
    · rw [List.length_drop, size_len]; omega
    · rw [size_len]; omega
  have HT : Hid (takeF 100 s.data.toList p = (if Lib.hasPrefix s.data.toList [100] = true then unhexOf (⟨(Lib.trimPrefix s.data.toList [100]).toArray⟩ : ByteArray).data.toList else none).map fun v => { p with d := v }) := Lib.hid rfl
  have HCP : Hid (∀ w, Calls Tryz.prog 50 #[.string s, .string ⟨#[100]⟩] w fun e w' => e = .returned (.tuple #[.string ⟨(Lib.trimPrefix s.data.toList [100]).toArray⟩, .bool (Lib.hasPrefix s.data.toList [100])]) ∧ w' = w) := Lib.hid (fun w => Tryz.strings_CutPrefix s ⟨#[100]⟩ w)
  have HUN := Lib.hid (fun w => unhex_any ⟨(Lib.trimPrefix s.data.toList [100]).toArray⟩ w hTz)
  generalize takeF 100 s.data.toList p = RT at *
  generalize Lib.hasPrefix s.data.toList [100] = HP at *
  generalize (⟨(Lib.trimPrefix s.data.toList [100]).toArray⟩ : ByteArray) = T at *
  have HST := Lib.hid hst
  clear hst he
  go_enter Tryz.func33, Tryz.ntmps33
  go_wp2_with fail
  refine (HCP.out _).mono ?_
  rintro e w1 ⟨rfl, hw⟩
  obtain rfl := hw
  go_wp2_with fail
  refine (HUN.out _).mono ?_
  rintro e w2 ⟨rfl, hb2⟩
  have HST2 := Lib.hid (HST.out.keep hb2)
  have HG2 := Lib.hid (grown_below b hb2)
  clear hb2 HST HUN
  obtain ⟨q0, q1, q2, q3, q4, q5, q6, q7⟩ := HST2.out.1.cells8
  obtain ⟨f0, f1, f2, f3, f4, f5, f6, f7⟩ := HST2.out.1.frozs8
  generalize unhexOf T.data.toList = U at *
  cases HP with
  | false =>
    have HR : Hid (RT = none) := Lib.hid (by rw [HT.out, if_neg (by simp)]; rfl)
    clear HT
    generalize (⟨(U.getD []).toArray⟩ : ByteArray) = DD at *
    generalize U.isSome = US at *
    go_wp2_with fail
    go_ret
    exact take_no HR.out (HG2.out.trans (grown_set _ b 7 _)) rfl
  | true =>
    cases U with
    | none =>
      have HR : Hid (RT = none) := Lib.hid (by rw [HT.out, if_pos rfl]; rfl)
      clear HT
      go_wp2_with fail
      go_ret
      exact take_no HR.out (HG2.out.trans (grown_set _ b 7 _)) rfl
    | some dd =>
      have HR : Hid (RT = some { p with d := dd }) := Lib.hid (by rw [HT.out, if_pos rfl]; rfl)
      clear HT
      simp only [Option.getD_some, Option.isSome_some]
      go_wp2_with fail
      go_ret
      exact take_ok (lv := lv) HR.out (HG2.out.trans (grown_set _ b 7 _)) (HST2.out.set 7 (.string ⟨dd.toArray⟩) _ rfl rfl) rfl
/-- take, at each letter. -/
theorem take_any (c : UInt8) (hc : c ∈ letters) (p : Pd) (lv : Value) (b B : Nat) (s : ByteArray) (w : World) (hs : s.size ≤ 1000000) (he : Env w) (hst : PSt w B b p lv) (hB : B ≤ w.heap.size) :
    Calls Tryz.prog 33 #[.pointer (some ⟨b, 0, none⟩), .int .i32 ((c.toNat : Nat) : Int), .string s] w (TakeEnd (takeF c s.data.toList p) w B b) := by
  simp only [letters, List.mem_cons, List.not_mem_nil, or_false] at hc
  rcases hc with rfl | rfl | rfl | rfl | rfl | rfl
  · exact take_115 p lv b B s w hs he hst
  · exact take_110 p lv b B s w hs he hst
  · exact take_112 p lv b B s w hs he hst
  · exact take_109 p lv b B s w hs he hst
  · exact take_108 p lv b B s w hs he hst hB
  · exact take_100 p lv b B s w hs he hst
end Go.Proofs.YtohenohgceaibaaGreatDoor
