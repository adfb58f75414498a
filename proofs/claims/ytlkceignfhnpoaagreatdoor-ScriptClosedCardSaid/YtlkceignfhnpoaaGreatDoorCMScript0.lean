/-
  Scripts: a world without a link; texts cut; a link is made.
-/
import Derived.Test.YtlkceignfhnpoaaGreatDoorCQM
import Derived.Test.YtlkceignfhnpoaaGreatDoorCQS
import Derived.Lib.ItoaNum
set_option linter.unusedVariables false
set_option linter.unusedSimpArgs false
namespace Go.Proofs.YtlkceignfhnpoaaGreatDoor
open Go AX
/-- A number's digits (fuel: how many there may be). -/
def digF : Nat → Nat → List UInt8
  | 0, _ => []
  | f + 1, u => if u < 10 then [UInt8.ofNat (48 + u)] else digF f (u / 10) ++ [UInt8.ofNat (48 + u % 10)]
theorem digF_eq : ∀ (f u : Nat), u < 10 ^ f → 0 < f → digF f u = Lib.decDigits u
  | 0, u, h, h0 => by omega
  | f + 1, u, h, _ => by
    unfold digF Lib.decDigits
    by_cases hu : u < 10
    · simp [hu]
    · rw [if_neg hu, dif_neg hu]
      have h1 : u / 10 < 10 ^ f := by
        rw [Nat.pow_succ] at h
        omega
      have h2 : 0 < f := by
        cases f with
        | zero => simp at h; omega
        | succ f => omega
      rw [digF_eq f (u / 10) h1 h2]
def itoF (n : Int) : List UInt8 := if n < 0 then 45 :: digF 20 n.natAbs else digF 20 n.toNat
theorem itoF_eq {n : Int} (h : -9223372036854775808 ≤ n ∧ n ≤ 9223372036854775807) : itoF n = Lib.itoa n := by
  have hp : (10 : Nat) ^ 20 = 100000000000000000000 := by decide
  unfold itoF Lib.itoa
  split
  · rw [digF_eq _ _ (by rw [hp]; omega) (by decide)]
  · rw [digF_eq _ _ (by rw [hp]; omega) (by decide)]
def itoaX (args : Array Value) : AX Value :=
  match args.toList with
  | [.int .i64 n] => if -9223372036854775808 ≤ n ∧ n ≤ 9223372036854775807 then AX.ret (.string ⟨(itoF n).toArray⟩) else AX.fail
  | _ => AX.fail
section
variable {E : FuncId → Option (Array Value → AX Value)} {F G : Nat → Prop} {H : AH} {s b w : Nat} {Q : Value → AH → Nat → Prop} {W : Wd} {R P : List Own} {v : Value}
set_option maxRecDepth 10000
set_option maxHeartbeats 1000000
/-- The world of a script: its link, its book, its ticks. -/
def worldC (l bk : Value) (c0 c1 c2 c3 c4 : Int) : List Value := [l, bk, .int .i64 c0, .int .i64 c1, .int .i64 c2, .int .i64 c3, .int .i64 c4]
theorem snew_wp (hE : Bare E) (n : Nat) (S : St F G H s W R) (h : ∀ H' s' w b, St F G H' s' W (⟨ptr w, CellsO (worldC nilP (ptr b) 4 3 6 12 5) 58⟩ :: ⟨ptr b, CellsO [nilS, nilS] 49⟩ :: R) → Q (ptr w) H' s') : Wp F G (aCall Tryz.prog E (n + 1) 10 #[]) H s Q := by
  refine enter (calm hE _) [] (hE.no _ (by decide)) Tryz.func10 Tryz.ntmps10 (by unfold Tryz.f10; rfl) (by unfold Tryz.f10; rfl) (by kernel_rfl) ?_
  simp
  exact h _ _ _ _ ((S.alloc [nilS, nilS] 49).alloc (worldC nilP (ptr s) 4 3 6 12 5) 58)
theorem cutS_eq (s : ByteArray) (m : Nat) (h : m ≤ s.size) : aSlice Tryz.prog 9 (.string s) none (some (.int .i64 (m : Nat))) none = ret (.string (s.extract 0 m)) := by
  unfold aSlice
  dsimp only
  have e : Program.underlying Tryz.prog 9 = some .string := by kernel_rfl
  rw [e]
  simp only [intO]
  rw [if_pos ⟨by omega, by omega, by omega⟩]
  rfl
/-- A text's beginning. -/
def cutB (t : ByteArray) (m : Nat) : ByteArray := if m < t.size then t.extract 0 m else t
theorem cutB_size (t : ByteArray) (m : Nat) : (cutB t m).size ≤ m := by
  unfold cutB
  split
  · simp; omega
  · omega
theorem cut_wp (hE : Bare E) (n : Nat) (t : ByteArray) (m : Nat) (h : Q (.string (cutB t m)) H s) : Wp F G (aCall Tryz.prog E (n + 1) 8 #[.string t, .int .i64 (m : Nat)]) H s Q := by
  unfold cutB at h
  refine enter (calm hE _) [] (hE.no _ (by decide)) Tryz.func8 Tryz.ntmps8 (by unfold Tryz.f8; rfl) (by unfold Tryz.f8; rfl) (by kernel_rfl) ?_
  by_cases hm : m < t.size
  · rw [if_pos hm] at h
    simp [hm, cutS_eq t m (Nat.le_of_lt hm)]
    exact h
  · rw [if_neg hm] at h
    simp [hm]
    exact h
theorem itoa_wp (hI : E 23 = some itoaX) (n : Nat) {k : Int} (hk : -9223372036854775808 ≤ k ∧ k ≤ 9223372036854775807) (h : Q (.string ⟨(itoF k).toArray⟩) H s) : Wp F G (aCall Tryz.prog E (n + 1) 23 #[.int .i64 k]) H s Q := by
  unfold aCall
  rw [hI]
  show Wp F G (if -9223372036854775808 ≤ k ∧ k ≤ 9223372036854775807 then AX.ret (.string ⟨(itoF k).toArray⟩) else AX.fail) H s Q
  rw [if_pos hk, wp_ret]
  exact h
theorem itoa_one : itoF 1 = [49] := by rfl
theorem b_sadd {P : Program} {T : TypeId} {ox oy : Operand} {a b : ByteArray} (ha : a.size ≤ 100000000) (hb : b.size ≤ 100000000) : aBin P .add T ox oy (.string a) (.string b) = ret (.string (a ++ b)) := by
  simp [aBin, flat, scalar, ofStat, eqGuard, binOp, Op.stringOp, Bind.bind, pure, Sem.bind, stat]
  rw [if_neg (by omega)]
  simp [stat]
def okT : ByteArray := ⟨#[111, 107]⟩
def code1T : ByteArray := ⟨#[99, 111, 100, 101, 32, 49]⟩
def closedT : ByteArray := ⟨#[99, 108, 111, 115, 101, 100]⟩
theorem code0_wp (hE : Bare E) (n : Nat) (h : Q (.string okT) H s) : Wp F G (aCall Tryz.prog E (n + 2) 47 #[.int .i64 0]) H s Q := by
  refine enter (calm hE _) [] (hE.no _ (by decide)) Tryz.func47 Tryz.ntmps47 (by unfold Tryz.f47; rfl) (by unfold Tryz.f47; rfl) (by kernel_rfl) ?_
  simp
  exact h
theorem code1_wp (hE : Bare E) (hI : E 23 = some itoaX) (n : Nat) (h : Q (.string code1T) H s) : Wp F G (aCall Tryz.prog E (n + 2) 47 #[.int .i64 1]) H s Q := by
  refine enter (calm hE _) [] (hE.no _ (by decide)) Tryz.func47 Tryz.ntmps47 (by unfold Tryz.f47; rfl) (by unfold Tryz.f47; rfl) (by kernel_rfl) ?_
  simp
  refine itoa_wp hI _ (by omega) ?_
  rw [itoa_one]
  simp [b_sadd (show ByteArray.size ⟨#[99, 111, 100, 101, 32]⟩ ≤ 100000000 by decide) (show ByteArray.size ⟨#[49]⟩ ≤ 100000000 by decide)]
  exact h
theorem wlink_wp (hE : Bare E) (n : Nat) {l bk : Value} {c0 c1 c2 c3 c4 : Int} (S : St F G H s W (⟨ptr w, CellsO (worldC l bk c0 c1 c2 c3 c4) 58⟩ :: R)) (h : Q l H s) : Wp F G (aCall Tryz.prog E (n + 1) 12 #[ptr w]) H s Q := by
  obtain ⟨kb, fb, gb, lb⟩ := S.cell
  refine enter (calm hE _) [] (hE.no _ (by decide)) Tryz.func12 Tryz.ntmps12 (by unfold Tryz.f12; rfl) (by unfold Tryz.f12; rfl) (by kernel_rfl) ?_
  simp [kb, fb, worldC]
  exact h
/-- Without a link nothing is done. -/
theorem closed_wp (hE : Bare E) (n : Nat) {bk : Value} {c0 c1 c2 c3 c4 : Int} {wd ask data : ByteArray} {na : Option Addr} {nl nm : Nat} (hw1 : ¬ wd.toList = [116, 105, 99, 107, 115]) (hw2 : ¬ wd.toList = [108, 105, 110, 107]) (S : St F G H s W (⟨ptr w, CellsO (worldC nilP bk c0 c1 c2 c3 c4) 58⟩ :: R))
    (h : ∀ H' s', St F G H' s' W (⟨ptr w, CellsO (worldC nilP bk c0 c1 c2 c3 c4) 58⟩ :: R) → Q (.string closedT) H' s') : Wp F G (aCall Tryz.prog E (n + 1) 11 #[ptr w, .agg #[.string wd, .slice na nl nm, .string ask, .string data]]) H s Q := by
  obtain ⟨kb, fb, gb, lb⟩ := S.cell
  have hs := S.new s (Nat.le_refl _)
  refine enter (calm hE _) [(2, [], [], [])] (hE.no _ (by decide)) Tryz.func11 Tryz.ntmps11 (by unfold Tryz.f11; rfl) (by unfold Tryz.f11; rfl) (by kernel_rfl) ?_
  simp [hs, kb, fb, upd_ne, show w ≠ s by omega, worldC, hw1, hw2]
  exact h _ _ (S.skip _)
/-- Six numbers in a row. -/
structure Six (H : AH) (d : Nat) (c0 c1 c2 c3 c4 c5 : Int) : Prop where
  at_ : ∃ T wr, H d = some (.cells [.int .i64 c0, .int .i64 c1, .int .i64 c2, .int .i64 c3, .int .i64 c4, .int .i64 c5] T wr)
abbrev sl6 (d : Nat) : Value := .slice (some ⟨d, 0, none⟩) 6 6
theorem Six.keep {H' : AH} {d : Nat} {c0 c1 c2 c3 c4 c5 : Int} (h : Six H d c0 c1 c2 c3 c4 c5) (hk : H' d = H d) : Six H' d c0 c1 c2 c3 c4 c5 := by
  obtain ⟨T, wr, h⟩ := h
  exact ⟨T, wr, by rw [hk]; exact h⟩
/-- The ends' configs of a script. -/
def cfgS (window queue polls start c0 c1 c2 c3 c4 : Int) : CfgN := ⟨3, window, queue, 8, polls, start % 4294967296, c0, c1, c2, c3, c4⟩
theorem opn1_wp (hE : Bare E) (n : Nat) {dn dw d w : Nat} {T1 T2 : TypeId} (k : Int) {m0 m1 m2 m3 m4 m5 : Int} {l bk : Value} {c0 c1 c2 c3 c4 : Int} (hN : New F G s) (hn : H dn = some (.cells [sl6 d] T1 true)) (hw : H dw = some (.cells [ptr w] T2 true)) (hd : Six H d m0 m1 m2 m3 m4 m5) (hl : H w = some (.cells (worldC l bk c0 c1 c2 c3 c4) 58 true))
    (h1 : dn < s ∧ F dn) (h2 : dw < s ∧ F dw) (h3 : d < s ∧ F d) (h4 : w < s ∧ F w) (h : ∀ H' s', Fr [] H s H' s' → Q (.agg (cfgS k m2 m3 m5 c0 c1 c2 c3 c4).cells.toArray) H' s') : Wp F G (aCall Tryz.prog E (n + 1) 46 #[.int .i64 k, ptr dn, ptr dw]) H s Q := by
  have hFs := hN s (Nat.le_refl _)
  obtain ⟨T, wr, h0⟩ := hd.at_
  refine enter (calm hE _) [(1, [], [], [])] (hE.no _ (by decide)) Tryz.func46 Tryz.ntmps46 (by unfold Tryz.f46; rfl) (by unfold Tryz.f46; rfl) (by kernel_rfl) ?_
  simp [upd_ne, hFs, show dn ≠ s by omega, show dw ≠ s by omega, show d ≠ s by omega, show w ≠ s by omega, hn, hw, h0, hl, h1, h2, h3, h4, worldC]
  exact h _ _ (Fr.refl _ _ _).new
/-- The links' config of a script. -/
def cfgLS (m0 m1 m2 m3 m4 m5 c0 c1 c2 c3 c4 : Int) : CfgL := ⟨cfgS m0 m2 m3 m5 c0 c1 c2 c3 c4, cfgS m1 m2 m3 m5 c0 c1 c2 c3 c4, m4⟩
theorem open_wp (hE : Bare E) (hI : E 23 = some itoaX) (n : Nat) {d w : Nat} {m0 m1 m2 m3 m4 m5 : Int} {l bk : Value} {c0 c1 c2 c3 c4 : Int} (S : St F G H s W (⟨ptr w, CellsO (worldC l bk c0 c1 c2 c3 c4) 58⟩ :: R)) (hd : Six H d m0 m1 m2 m3 m4 m5) (hl : d < s ∧ F d)
    (h1 : (cfgLS m0 m1 m2 m3 m4 m5 c0 c1 c2 c3 c4).fits = true → ∀ H' s' lk b', St F G H' s' W (⟨ptr w, CellsO (worldC (ptr lk) (ptr b') c0 c1 c2 c3 c4) 58⟩ :: ⟨ptr b', CellsO [nilS, nilS] 49⟩ :: R) → Q (.string okT) H' s')
    (h2 : (cfgLS m0 m1 m2 m3 m4 m5 c0 c1 c2 c3 c4).fits = false → ∀ H' s', St F G H' s' W (⟨ptr w, CellsO (worldC l bk c0 c1 c2 c3 c4) 58⟩ :: R) → Q (.string code1T) H' s') : Wp F G (aCall Tryz.prog E (n + 5) 19 #[ptr w, sl6 d]) H s Q := by
  obtain ⟨kb, fb, gb, lb⟩ := S.cell
  have hs := S.new s (Nat.le_refl _)
  have hs1 := S.new (s + 1) (Nat.le_succ _)
  have hN := S.new
  refine enter (calm hE _) [(2, [6, 8, 11, 13], [], [4, 9])] (hE.no _ (by decide)) Tryz.func19 Tryz.ntmps19 (by unfold Tryz.f19; rfl) (by unfold Tryz.f19; rfl) (by kernel_rfl) ?_
  simp [hs, hs1]
  have S1 := ((S.alloc [ptr w] 28).alloc [sl6 d] 22)
  have kn : upd (upd H s (some (.cells [ptr w] 28 true))) (s + 1) (some (.cells [sl6 d] 22 true)) (s + 1) = some (.cells [sl6 d] 22 true) := upd_same _ _ _
  have kw : upd (upd H s (some (.cells [ptr w] 28 true))) (s + 1) (some (.cells [sl6 d] 22 true)) s = some (.cells [ptr w] 28 true) := (upd_ne _ _ (by omega)).trans (upd_same _ _ _)
  have kd : Six (upd (upd H s (some (.cells [ptr w] 28 true))) (s + 1) (some (.cells [sl6 d] 22 true))) d m0 m1 m2 m3 m4 m5 := hd.keep ((upd_ne _ _ (by omega)).trans (upd_ne _ _ (by omega)))
  have kl : upd (upd H s (some (.cells [ptr w] 28 true))) (s + 1) (some (.cells [sl6 d] 22 true)) w = some (.cells (worldC l bk c0 c1 c2 c3 c4) 58 true) := (upd_ne _ _ (by omega)).trans ((upd_ne _ _ (by omega)).trans kb)
  have fr0 : Fr [] H s (upd (upd H s (some (.cells [ptr w] 28 true))) (s + 1) (some (.cells [sl6 d] 22 true))) (s + 1 + 1) := (Fr.refl _ _ _).new.new
  generalize upd (upd H s (some (.cells [ptr w] 28 true))) (s + 1) (some (.cells [sl6 d] 22 true)) = H1 at *
  obtain ⟨T0, wr0, k0⟩ := kd.at_
  have b1 := S1.bd
  simp [k0, hl]
  refine ⟨b1, ?_⟩
  have N1 : New F G (s + 1 + 1) := hN.up (by omega)
  refine wp_bd ((calm hE _).ls _ _) b1 ?_
  refine opn1_wp hE _ m0 (New.own N1 (Nat.le_refl _)) kn kw kd kl ⟨by omega, hs1.1, by omega⟩ ⟨by omega, hs.1, by omega⟩ ⟨by omega, hl.2, by omega⟩ ⟨by omega, fb, by omega⟩ fun H2 s2 f2 u2 b2 => ?_
  have kn2 := (f2.keep (s + 1) (by omega) (by simp)).trans kn
  have kw2 := (f2.keep s (by omega) (by simp)).trans kw
  have kd2 := kd.keep (f2.keep d (by omega) (by simp))
  have kl2 := (f2.keep w (by omega) (by simp)).trans kl
  obtain ⟨T2, wr2, k02⟩ := kd2.at_
  simp [kn2, hs1, k02, hl]
  refine ⟨by omega, u2, b2, ?_⟩
  refine wp_bd ((calm hE _).ls _ _) b2 ?_
  refine opn1_wp hE _ m1 (fun b hb => ⟨⟨(hN b (by omega)).1, .inr hb⟩, (hN b (by omega)).2, hb⟩) kn2 kw2 kd2 kl2 ⟨by omega, hs1.1, by omega⟩ ⟨by omega, hs.1, by omega⟩ ⟨by omega, hl.2, by omega⟩ ⟨by omega, fb, by omega⟩ fun H3 s3 f3 u3 b3 => ?_
  have kn3 := (f3.keep (s + 1) (by omega) (by simp)).trans kn2
  have kw3 := (f3.keep s (by omega) (by simp)).trans kw2
  have kd3 := kd2.keep (f3.keep d (by omega) (by simp))
  have kl3 := (f3.keep w (by omega) (by simp)).trans kl2
  obtain ⟨T3, wr3, k03⟩ := kd3.at_
  simp [kn3, hs1, k03, hl, cfgS, CfgN.cells, setL]
  have N3 : New F G s3 := hN.up (by omega)
  have ft : Fr [] H s H3 s3 := (fr0.trans f2).trans f3
  have lS3 : St F G H3 s3 W (⟨ptr w, CellsO (worldC l bk c0 c1 c2 c3 c4) 58⟩ :: R) := S.fr0 ft b3
  refine ⟨by omega, ?_⟩
  refine wp_bd ((calm hE _).ls _ _) b3 ?_
  refine lnew_wp hE _ (cfgLS m0 m1 m2 m3 m4 m5 c0 c1 c2 c3 c4) N3 b3 (fun ef H4 s4 lk w4 n0 p0 n1 p1 f4 nl u4 b4 => ?_) (fun ef H4 s4 f4 u4 b4 => ?_)
  · have S4 := lS3.fr0 f4 b4
    have kn4 := (f4.keep (s + 1) (by omega) (by simp)).trans kn3
    have kw4 := (f4.keep s (by omega) (by simp)).trans kw3
    obtain ⟨kl4, -, -, lw4⟩ := S4.cell
    simp
    refine wp_bad (calm hE _) [(0, 4), (1, 4), (1, 7), (4, 7)] [(0, (fun b => b = s), (fun _ => False)), (1, (fun b => b = s), (fun _ => False)), (4, (fun _ => False), (fun b => b = s4)), (7, (fun b => b = w), (fun b => b = w))] (by kernel_rfl) ?_
    have hs4 := hN s4 (by omega)
    simp [kw4, hs, upd_ne, show s ≠ s4 by omega, show w ≠ s4 by omega, kl4, fb, gb, worldC, show s ≠ w by omega, show s4 ≠ w by omega, hs4]
    refine ⟨⟨⟨by omega, by omega⟩, by omega, by omega⟩, ?_⟩
    refine code0_wp hE _ ?_
    simp
    exact h1 ef _ _ lk s4 (((S4.alloc [nilS, nilS] 49).front (ptr w)).set (worldC (ptr lk) (ptr s4) c0 c1 c2 c3 c4))
  · have S4 := lS3.fr0 f4 b4
    simp
    refine code1_wp hE hI _ ?_
    simp
    exact h2 ef _ _ S4
def linkT : ByteArray := ⟨#[108, 105, 110, 107]⟩
/-- A link is asked for. -/
theorem dolink_wp (hE : Bare E) (hI : E 23 = some itoaX) (n : Nat) {d w : Nat} {m0 m1 m2 m3 m4 m5 : Int} {l bk : Value} {c0 c1 c2 c3 c4 : Int} {ask data : ByteArray} (S : St F G H s W (⟨ptr w, CellsO (worldC l bk c0 c1 c2 c3 c4) 58⟩ :: R)) (hd : Six H d m0 m1 m2 m3 m4 m5) (hl : d < s ∧ F d)
    (h1 : (cfgLS m0 m1 m2 m3 m4 m5 c0 c1 c2 c3 c4).fits = true → ∀ H' s' lk b', St F G H' s' W (⟨ptr w, CellsO (worldC (ptr lk) (ptr b') c0 c1 c2 c3 c4) 58⟩ :: ⟨ptr b', CellsO [nilS, nilS] 49⟩ :: R) → Q (.string okT) H' s')
    (h2 : (cfgLS m0 m1 m2 m3 m4 m5 c0 c1 c2 c3 c4).fits = false → ∀ H' s', St F G H' s' W (⟨ptr w, CellsO (worldC l bk c0 c1 c2 c3 c4) 58⟩ :: R) → Q (.string code1T) H' s') : Wp F G (aCall Tryz.prog E (n + 6) 11 #[ptr w, .agg #[.string linkT, sl6 d, .string ask, .string data]]) H s Q := by
  obtain ⟨kb, fb, gb, lb⟩ := S.cell
  have hs := S.new s (Nat.le_refl _)
  refine enter (calm hE _) [(2, [], [], [])] (hE.no _ (by decide)) Tryz.func11 Tryz.ntmps11 (by unfold Tryz.f11; rfl) (by unfold Tryz.f11; rfl) (by kernel_rfl) ?_
  simp [hs, kb, fb, upd_ne, show w ≠ s by omega, worldC, linkT]
  refine open_wp hE hI _ (S.skip _) (hd.keep (upd_ne _ _ (by omega))) ⟨by omega, hl.2⟩ (fun ef H2 s2 lk b' S2 => ?_) (fun ef H2 s2 S2 => ?_)
  · simp
    exact h1 ef _ _ _ _ S2
  · simp
    exact h2 ef _ _ S2
end
end Go.Proofs.YtlkceignfhnpoaaGreatDoor
