/-
  Steps of a script in rows: what line.Parse gives, for the executor.
  What comes in by contract, and that it is so: a new wire; a unit's frame.
  line.Parse comes in by contract: its steps lie in new rows that nobody writes.
-/
import Derived.Test.YtlkceignfhnpoaaGreatDoorCAy9
import Derived.Test.YtlkceignfhnpoaaGreatDoorCQP
import Derived.Test.YtlkceignfhnpoaaGreatDoorWPack
import Derived.Test.YtlkceignfhnpoaaGreatDoorCQZ
import Derived.Test.YtlkceignfhnpoaaGreatDoorCQL
set_option linter.unusedVariables false
set_option linter.unusedSimpArgs false
section
namespace Go.Proofs.YtlkceignfhnpoaaGreatDoor
open Go AX
def numCs (l : List Int) : List Value := l.map (Value.int .i64)
def stepC (x : Stp) (nv : Value) : List Value := [.string ⟨x.word.toArray⟩, nv, .string ⟨x.ask.toArray⟩, .string ⟨x.data.toArray⟩]
def stepCs (xs : List Stp) (nvs : List Value) : List Value := (List.zipWith stepC xs nvs).flatten
/-- A row of numbers that nobody writes. -/
def numsX (l : List Int) : AX Value := if l = [] then AX.ret (.slice none 0 0) else AX.bind (AX.new (.cells (numCs l) 3 false)) fun b => AX.ret (.slice (some ⟨b, 0, none⟩) l.length l.length)
def rowsX : List Stp → AX (List Value)
  | [] => AX.ret []
  | x :: r => AX.bind (numsX x.nums) fun v => AX.bind (rowsX r) fun vs => AX.ret (v :: vs)
def stepsX (xs : List Stp) : AX Value := AX.bind (rowsX xs) fun nvs => if xs = [] then AX.ret (.slice none 0 0) else AX.bind (AX.new (.cells (stepCs xs nvs) 31 false)) fun b => AX.ret (.slice (some ⟨b, 0, none⟩) xs.length xs.length)
def parseX (args : Array Value) : AX Value :=
  match args.toList with
  | [.string s] => if s.size ≤ 100000 then AX.bind (stepsX (parseL s.data.toList).1) fun v => AX.ret (.tuple #[v, .int .i64 ((parseL s.data.toList).2.1 : Int), .bool (parseL s.data.toList).2.2]) else AX.fail
  | _ => AX.fail
theorem ls_numsX (l : List Int) : LS (numsX l) := LS.ite (LS.ret _) (LS.bind (LS.new _) fun b => LS.ret _)
theorem ls_rowsX : ∀ xs : List Stp, LS (rowsX xs)
  | [] => LS.ret _
  | x :: r => LS.bind (ls_numsX _) fun v => LS.bind (ls_rowsX r) fun vs => LS.ret _
theorem ls_stepsX (xs : List Stp) : LS (stepsX xs) := LS.bind (ls_rowsX xs) fun nvs => LS.ite (LS.ret _) (LS.bind (LS.new _) fun b => LS.ret _)
theorem ls_parseX (xs : Array Value) : LS (parseX xs) := by
  unfold parseX
  split
  · exact LS.ite (LS.bind (ls_stepsX _) fun v => LS.ret _) LS.fail
  · exact LS.fail
end Go.Proofs.YtlkceignfhnpoaaGreatDoor
end
section
namespace Go.Proofs.YtlkceignfhnpoaaGreatDoor
open Go AX Go.RowKit
/-- Are these the same numbers? -/
def isRowOf : List Value → List Value → Bool
  | [], [] => true
  | .int .u32 a :: r, .int .u32 b :: t => a == b && isRowOf r t
  | _, _ => false
theorem isRowOf_eq : ∀ {a b : List Value}, isRowOf a b = true → a = b
  | [], [], _ => rfl
  | [], _ :: _, h => by simp [isRowOf] at h
  | _ :: _, [], h => by
    unfold isRowOf at h
    split at h <;> simp_all
  | x :: r, y :: t, h => by
    unfold isRowOf at h
    split at h
    · rename_i e1 e2; cases e1
    · rename_i a r' b t' e1 e2
      cases e1; cases e2
      simp only [Bool.and_eq_true, beq_iff_eq] at h
      rw [h.1, isRowOf_eq h.2]
    · cases h
def isWire (x : List Value × TypeId × Bool) : Bool := isRowOf x.1 tabRow && (decide (x.2.1 = 200) && !x.2.2)
/-- A unit's frame. -/
def packV (k sq n ps mr : Int) (self : Bool) (d : ByteArray) : Value :=
  if checkOf k sq n ps mr [] self d.size = 0 then .tuple #[.string ⟨(packOf k sq n ps mr [] self d.data.toList).toArray⟩, .int .i64 0] else .tuple #[.string ⟨#[]⟩, .int .i64 (checkOf k sq n ps mr [] self d.size)]
def packX (args : Array Value) : AX Value :=
  match args.toList with
  | [.pointer (some ⟨b, 0, none⟩), .agg cs] => (match cs.toList with
    | [.int .i64 k, .int .i64 sq, .int .u32 n, .int .u32 ps, .int .u32 mr, .slice none 0 0, .bool self, .string d] =>
      if (0 ≤ n ∧ n < 4294967296) ∧ (0 ≤ ps ∧ ps < 4294967296) ∧ (0 ≤ mr ∧ mr < 4294967296) ∧ d.size ≤ 1000000 then AX.bind (AX.cells b) fun x => if isWire x = true then AX.ret (packV k sq n ps mr self d) else AX.fail else AX.fail
    | _ => AX.fail)
  | _ => AX.fail
theorem ls_wireX (xs : Array Value) : LS (wireX xs) := LS.ite (LS.bind (LS.new _) fun b => LS.ret _) LS.fail
theorem ls_packX (xs : Array Value) : LS (packX xs) := by
  unfold packX
  split
  · split
    · exact LS.ite (LS.bind (ls_cells _) fun x => LS.ite (LS.ret _) LS.fail) LS.fail
    · exact LS.fail
  · exact LS.fail
section
variable {φ : Ren} {H : AH} {w w' : World}
theorem WR.below {P : Program} (hw : WR P φ H w) (hb : Below w.heap.size w w') : WR P φ H w' ∧ Trn φ H w φ H w' :=
  WR.fin hw.env (fun b x h => by
    obtain ⟨im, e, r⟩ := hw.blk b x h
    exact ⟨im, e, r.keep (hb.block _ r.lt)⟩) hw.inj ⟨hb.os, hb.tape, hb.output, hb.size, fun k hk _ => hb.block k hk, fun k h => .inl h⟩
theorem VR.simple_eq {v v' : Value} (h : VR φ v v') (hs : simpleV v = true) : v' = v := by
  cases h <;> first | rfl | (simp [simpleV] at hs; done)
theorem WR.under {P : Program} (hw : WR P φ H w) (hb : Below w.heap.size w w') {s : Nat} {x : AB} {im : Img} (hs : φ s = none) (hi : w.heap.size ≤ im.blk) (hr : BR P φ im x w') :
    WR P (fun k => if k = s then some im else φ k) (upd H s (some x)) w' ∧ Trn φ H w (fun k => if k = s then some im else φ k) (upd H s (some x)) w' ∧ Nx φ (fun k => if k = s then some im else φ k) s (s + 1) := by
  have ext : Ext φ (fun k => if k = s then some im else φ k) := fun k im' e => by
    dsimp only
    by_cases hk : k = s
    · subst hk; rw [hs] at e; cases e
    · rw [if_neg hk]; exact e
  have old : ∀ b y, b ≠ s → upd H s (some x) b = some y → H b = some y := fun b y hb h => by rwa [upd_ne _ _ hb] at h
  suffices hh : (_ ∧ _) ∧ _ from ⟨hh.1.1, hh.1.2, hh.2⟩
  refine ⟨WR.fin hw.env (fun b y h => ?_) (fun b b' y y' im1 im2 h h' hne hw1 e e' => ?_) ⟨hb.os, hb.tape, hb.output, hb.size, fun k hk _ => hb.block k hk, fun k h => ?_⟩, ext, fun b im' h => ?_⟩
  · by_cases hbs : b = s
    · subst hbs
      rw [upd_same] at h
      cases h
      exact ⟨im, by simp, hr.mono ext⟩
    · obtain ⟨im', e, r⟩ := hw.blk b y (old b y hbs h)
      exact ⟨im', by simp [hbs, e], (r.keep (hb.block _ r.lt)).mono ext⟩
  · by_cases hbs : b = s
    · subst hbs
      simp only [if_true] at e
      cases e
      have hbs' : b' ≠ b := fun h => hne h.symm
      simp only [if_neg hbs'] at e'
      obtain ⟨im3, e3, r3⟩ := hw.blk b' y' (old b' y' hbs' h')
      rw [e'] at e3; cases e3
      have := r3.lt
      omega
    · have hy := old b y hbs h
      simp only [if_neg hbs] at e
      by_cases hbs' : b' = s
      · subst hbs'
        simp only [if_true] at e'
        cases e'
        obtain ⟨im3, e3, r3⟩ := hw.blk b y hy
        rw [e] at e3; cases e3
        have := r3.lt
        omega
      · simp only [if_neg hbs'] at e'
        exact hw.inj b b' y y' im1 im2 hy (old b' y' hbs' h') hne hw1 e e'
  · obtain ⟨b, y, im', h1, h2, h3, h4⟩ := h
    by_cases hbs : b = s
    · subst hbs
      simp only [if_true] at h3
      cases h3
      exact .inr (by rw [← h4]; exact hi)
    · simp only [if_neg hbs] at h3
      exact .inl ⟨b, y, im', old b y hbs h1, h2, h3, h4⟩
  · by_cases hbs : b = s
    · subst hbs; exact .inr ⟨Nat.le_refl _, Nat.lt_succ_self _⟩
    · simp only [if_neg hbs] at h
      exact .inl h
set_option maxRecDepth 100000 in
theorem tab_nums : (List.range 256).map (fun i => ((tabAt i).toNat : Int)) = tabNums := by kernel_rfl
theorem tab_eq : tabCells = tabRow := by
  unfold tabCells tabRow
  rw [← tab_nums, List.map_map]
  rfl
theorem tab_len : tabRow.length = 256 := by rw [← tab_eq]; simp [tabCells]
theorem tab_simple {i : Nat} {v : Value} (h : tabRow[i]? = some v) : simpleV v = true := by
  unfold tabRow at h
  rw [List.getElem?_map] at h
  cases hr : tabNums[i]? with
  | none => rw [hr] at h; cases h
  | some k => rw [hr] at h; simp at h; subst h; rfl
theorem wire_sz : szOf Tryz.prog 200 = some 256 := by kernel_rfl
theorem wire_ok (args : Array Value) (H : AH) (s : Nat) (q : Out Value) (h : wireX args H s = some q) (φ : Ren) (w : World) (args' : Array Value) (hw : WR Tryz.prog φ H w) (ha : VA φ args args') (hf : Free φ s q.s) : Calls Tryz.prog 57 args' w (CallPost Tryz.prog φ H w s q) := by
  unfold wireX at h
  split at h
  · rename_i hz
    simp [AX.bind, AX.new, AX.ret] at h
    subst h
    obtain rfl : args' = #[] := Array.eq_empty_of_size_eq_zero (by rw [← ha.len]; exact hz)
    refine (new_any w).mono ?_
    rintro e w' ⟨b, rfl, hb, hbox, hbel⟩
    have hbr : BR Tryz.prog φ ⟨b, 0, 256, 256⟩ wireBlk w' := by
      refine ⟨tabCells.toArray, 200, (0, 0), hbox, by simp [tabCells], (by rw [tab_len]; exact Nat.le_refl _), fun i v hi => ?_, by rw [wire_sz]; rfl, fun h => (by cases h), fun _ _ => rfl, fun h => (by cases h)⟩
      refine ⟨v, ?_, VR.simple (tab_simple hi), ?_⟩
      · simp [tab_eq, hi]
      · have := tab_simple hi
        revert this
        cases v <;> simp [simpleV, oneV]
    obtain ⟨a1, a2, a3⟩ := hw.under hbel (hf s (Nat.le_refl _) (Nat.lt_succ_self _)) hb hbr
    exact ⟨_, _, rfl, a3, .ptr (im := ⟨b, 0, 256, 256⟩) (by simp), a1, a2⟩
  · cases h
theorem packX_shape (args : Array Value) : (∃ (b : Nat) (k sq n ps mr : Int) (self : Bool) (d : ByteArray), args = #[.pointer (some ⟨b, 0, none⟩), .agg #[.int .i64 k, .int .i64 sq, .int .u32 n, .int .u32 ps, .int .u32 mr, .slice none 0 0, .bool self, .string d]] ∧
    packX args = if (0 ≤ n ∧ n < 4294967296) ∧ (0 ≤ ps ∧ ps < 4294967296) ∧ (0 ≤ mr ∧ mr < 4294967296) ∧ d.size ≤ 1000000 then AX.bind (AX.cells b) fun x => if isWire x = true then AX.ret (packV k sq n ps mr self d) else AX.fail else AX.fail) ∨ packX args = AX.fail := by
  have key : ∀ (l : List Value), (∃ (b : Nat) (k sq n ps mr : Int) (self : Bool) (d : ByteArray), l = [.pointer (some ⟨b, 0, none⟩), .agg #[.int .i64 k, .int .i64 sq, .int .u32 n, .int .u32 ps, .int .u32 mr, .slice none 0 0, .bool self, .string d]] ∧
    packX l.toArray = if (0 ≤ n ∧ n < 4294967296) ∧ (0 ≤ ps ∧ ps < 4294967296) ∧ (0 ≤ mr ∧ mr < 4294967296) ∧ d.size ≤ 1000000 then AX.bind (AX.cells b) fun x => if isWire x = true then AX.ret (packV k sq n ps mr self d) else AX.fail else AX.fail) ∨ packX l.toArray = AX.fail := by
    intro l
    unfold packX
    split
    · rename_i b cs he
      split
      · rename_i k sq n ps mr self d hc
        refine .inl ⟨b, k, sq, n, ps, mr, self, d, ?_, rfl⟩
        have e2 : cs = cs.toList.toArray := by simp
        have he' : l = _ := he
        rw [he', e2, hc]
      · exact .inr rfl
    · exact .inr rfl
  rcases key args.toList with ⟨b, k, sq, n, ps, mr, self, d, h1, h2⟩ | h
  · refine .inl ⟨b, k, sq, n, ps, mr, self, d, ?_, by simpa using h2⟩
    have e1 : args = args.toList.toArray := by simp
    rw [e1, h1]
  · exact .inr (by simpa using h)
theorem packX_some {args : Array Value} {H : AH} {s : Nat} {q : Out Value} (h : packX args H s = some q) : ∃ (b : Nat) (k sq n ps mr : Int) (self : Bool) (d : ByteArray), args = #[.pointer (some ⟨b, 0, none⟩), .agg #[.int .i64 k, .int .i64 sq, .int .u32 n, .int .u32 ps, .int .u32 mr, .slice none 0 0, .bool self, .string d]] ∧
    ((0 ≤ n ∧ n < 4294967296) ∧ (0 ≤ ps ∧ ps < 4294967296) ∧ (0 ≤ mr ∧ mr < 4294967296) ∧ d.size ≤ 1000000) ∧ H b = some wireBlk ∧ q = ⟨packV k sq n ps mr self d, H, s, [b], []⟩ := by
  rcases packX_shape args with ⟨b, k, sq, n, ps, mr, self, d, he, hp⟩ | hp
  · rw [hp] at h
    split at h
    · rename_i hcond
      obtain ⟨p, o, h1, h2, rfl⟩ := AX.bind_some h
      unfold AX.cells at h1
      obtain ⟨p1, o1, h3, h4, rfl⟩ := AX.bind_some h1
      unfold AX.get at h3
      cases hb : H b with
      | none => rw [hb] at h3; cases h3
      | some x =>
        rw [hb] at h3
        simp only [Option.some.injEq] at h3
        subst h3
        cases x with
        | map kv => cases h4
        | cells rs T wr =>
          simp [AX.ret] at h4
          subst h4
          dsimp only at h2
          split at h2
          · rename_i hw
            simp [AX.ret] at h2
            subst h2
            refine ⟨b, k, sq, n, ps, mr, self, d, he, hcond, ?_, by simp⟩
            simp only [isWire, Bool.and_eq_true, decide_eq_true_eq, Bool.not_eq_true'] at hw
            obtain ⟨w1, w2, w3⟩ := hw
            rw [hb, isRowOf_eq w1, w2, w3]
            rfl
          · cases h2
    · cases h
  · rw [hp] at h
    cases h
theorem pack_okX (args : Array Value) (H : AH) (s : Nat) (q : Out Value) (h : packX args H s = some q) (φ : Ren) (w : World) (args' : Array Value) (hw : WR Tryz.prog φ H w) (ha : VA φ args args') (hf : Free φ s q.s) : Calls Tryz.prog 120 args' w (CallPost Tryz.prog φ H w s q) := by
  obtain ⟨b, k, sq, n, ps, mr, self, d, rfl, ⟨hn, hps, hmr, hd⟩, hb, rfl⟩ := packX_some h
  obtain ⟨im, him, hbr⟩ := hw.blk b _ hb
  obtain ⟨ds, T', fr, g1, g2, g3, g4, g5, g6, g7⟩ := hbr
  have hbase : im.base = 0 := g7.1 rfl (by rw [g5, wire_sz]; decide)
  have htab : TabAt w im.blk := fun i hi => by
    obtain ⟨v', e1, r1, _⟩ := g4 i (.int .u32 (tabAt i).toNat) (by rw [← tab_eq]; simp [tabCells, hi])
    cases r1
    simp [World.cell?, g1]
    simpa [hbase] using e1
  obtain ⟨v0, z0, r0⟩ := ha.get (i := 0) (v := .pointer (some ⟨b, 0, none⟩)) rfl
  obtain ⟨v1, z1, r1⟩ := ha.get (i := 1) (v := .agg #[.int .i64 k, .int .i64 sq, .int .u32 n, .int .u32 ps, .int .u32 mr, .slice none 0 0, .bool self, .string d]) rfl
  have e0 : v0 = .pointer (some ⟨im.blk, 0, none⟩) := by
    cases r0 with
    | ptr h => rw [him] at h; cases h; simp [hbase]
  have e1 : v1 = .agg #[.int .i64 k, .int .i64 sq, .int .u32 n, .int .u32 ps, .int .u32 mr, .slice none 0 0, .bool self, .string d] := by
    cases r1 with
    | agg _ es hl hv =>
      congr 1
      apply Array.ext hl.symm
      intro i h1 h2
      refine (hv i _ _ (Array.getElem?_eq_getElem h2) (Array.getElem?_eq_getElem h1)).simple_eq ?_
      have h3 : i < 8 := by simpa using h2
      obtain rfl | rfl | rfl | rfl | rfl | rfl | rfl | rfl : i = 0 ∨ i = 1 ∨ i = 2 ∨ i = 3 ∨ i = 4 ∨ i = 5 ∨ i = 6 ∨ i = 7 := by omega
      all_goals rfl
  have ea : args' = #[.pointer (some ⟨im.blk, 0, none⟩), pduV k sq n ps mr (.slice none 0 0) self d] := by
    have hl := ha.len
    apply Array.ext
    · rw [← hl]; rfl
    · intro i h1 h2
      have h3 : i < 2 := by simpa using h2
      obtain rfl | rfl : i = 0 ∨ i = 1 := by omega
      · have := Array.getElem?_eq_getElem h1
        rw [z0] at this
        simp at this
        rw [← this, e0]; rfl
      · have := Array.getElem?_eq_getElem h1
        rw [z1] at this
        simp at this
        rw [← this, e1]; rfl
  subst ea
  have fin : ∀ e w', e = .returned (packV k sq n ps mr self d) ∧ Below w.heap.size w w' → CallPost Tryz.prog φ H w s ⟨packV k sq n ps mr self d, H, s, [b], []⟩ e w' := by
    rintro e w' ⟨rfl, hbel⟩
    obtain ⟨a1, a2⟩ := hw.below hbel
    refine ⟨φ, _, rfl, Nx.refl φ s, ?_, a1, a2⟩
    have st : ∀ (x y : Value), simpleV x = true → simpleV y = true → VR φ (.tuple #[x, y]) (.tuple #[x, y]) := fun x y hx hy => VR.mkTuple (VL.cons (VR.simple hx) (VL.one (VR.simple hy))).array
    unfold packV
    split
    · exact st _ _ rfl rfl
    · exact st _ _ rfl rfl
  by_cases hck : checkOf k sq n ps mr [] self d.size = 0
  · refine (pack_ok im.blk k sq n ps mr (.slice none 0 0) [] self d w htab hn hps hmr (IntsR.nil _ _) (by simp) hck).mono fun e w' h => fin e w' ?_
    unfold packV
    rw [if_pos hck]
    exact h
  · refine (pack_bad im.blk k sq n ps mr (.slice none 0 0) [] self d w hn hps hmr (IntsR.nil _ _) (by simp) hd (by simp) hck).mono fun e w' h => fin e w' ?_
    unfold packV
    rw [if_neg hck]
    exact h
/-- The table of requests is made by a closed run. -/
def isReq : List (Value × Value) → List (Int × Int) → Bool
  | [], [] => true
  | (.agg cs, .int .i64 n) :: r, p :: t => (match cs.toList with
    | [.int .i64 a, .int .i64 b] => a == p.1 && (b == p.2 && (n == 1 && isReq r t))
    | _ => false)
  | _, _ => false
theorem isReq_eq : ∀ {kv : List (Value × Value)} {l : List (Int × Int)}, isReq kv l = true → kv = l.map fun p => (.agg #[.int .i64 p.1, .int .i64 p.2], .int .i64 1)
  | [], [], _ => rfl
  | [], _ :: _, h => by simp [isReq] at h
  | _ :: _, [], h => by
    unfold isReq at h
    split at h <;> simp_all
  | x :: r, p :: t, h => by
    unfold isReq at h
    split at h
    · rename_i e1 e2; cases e1
    · rename_i cs n r' p' t' e1 e2
      cases e1; cases e2
      split at h
      · rename_i a b hc
        simp only [Bool.and_eq_true, beq_iff_eq] at h
        obtain ⟨h1, h2, h3, h4⟩ := h
        have ec : cs = cs.toList.toArray := by simp
        rw [isReq_eq h4, List.map_cons, ec, hc, h1, h2, h3]
      · cases h
    · cases h
def E0 : FuncId → Option (Array Value → AX Value) := fun _ => none
theorem calls0 (n : Nat) : CallOK Tryz.prog (aCall Tryz.prog E0 n) := call_sound prog_mixed prog_code ⟨fun f g xs h => (by cases h), fun f g h => (by cases h)⟩ n
def reqYes (x : Option (Out Value)) : Bool :=
  match x with
  | some o => (match o.val with
    | .map (some m) => (match o.H m with
      | some (.map kv) => isReq kv reqNums
      | _ => false)
    | _ => false)
  | none => false
noncomputable def reqRun : Option (Out Value) := aCall Tryz.prog E0 10 168 #[] (fun _ => none) 0
set_option maxRecDepth 100000 in
theorem req_yes : reqYes reqRun = true := by kernel_rfl
theorem req_run : ∃ o m, reqRun = some o ∧ o.val = .map (some m) ∧ o.H m = some (.map reqL) := by
  have h := req_yes
  unfold reqYes at h
  cases hr : reqRun with
  | none => rw [hr] at h; cases h
  | some o =>
    rw [hr] at h
    dsimp only at h
    split at h
    · rename_i m hv
      split at h
      · rename_i kv hm
        exact ⟨o, m, rfl, hv, by rw [hm, isReq_eq h]; rfl⟩
      · cases h
    · cases h
theorem flat_list {l l' : List Value} {φ φ' : Ren} (h : VL φ' l l') (hf : l.all flat = true) : VL φ l l' := by
  have e := h.flat_eq hf
  subst e
  refine ⟨rfl, fun i v v' a b => ?_⟩
  rw [a] at b; cases b
  exact VR.flat (List.all_eq_true.1 hf v (List.mem_of_getElem? a))
theorem req_keys : (reqL.map (·.1)).all flat = true := by kernel_rfl
theorem req_vals : (reqL.map (·.2)).all flat = true := by kernel_rfl
theorem reqs_ok (args : Array Value) (H : AH) (s : Nat) (q : Out Value) (h : reqX args H s = some q) (φ : Ren) (w : World) (args' : Array Value) (hw : WR Tryz.prog φ H w) (ha : VA φ args args') (hf : Free φ s q.s) : Calls Tryz.prog 168 args' w (CallPost Tryz.prog φ H w s q) := by
  unfold reqX at h
  split at h
  · rename_i hz
    simp [AX.bind, AX.new, AX.ret] at h
    subst h
    obtain rfl : args' = #[] := Array.eq_empty_of_size_eq_zero (by rw [← ha.len]; exact hz)
    obtain ⟨o, m, e1, e2, e3⟩ := req_run
    refine (calls0 10 _ #[] (fun _ => none) 0 o e1 (fun _ => none) w #[] ⟨fun b x h => (by cases h), fun b b' x x' im im' h => (by cases h), EnvW.start hw.env.ok (fun k ⟨b, x, im, h, _⟩ => (by cases h))⟩ ⟨rfl, fun i v v' h => by simp at h⟩ (fun _ _ _ => rfl)).mono ?_
    rintro e w' ⟨φ', v', rfl, _, r, wr, tr⟩
    rw [e2] at r
    cases r with
    | map hm =>
      rename_i im
      obtain ⟨im2, h2, br⟩ := wr.blk m _ e3
      rw [hm] at h2; cases h2
      have no : ∀ k, ¬ OwnB (fun _ => none) (fun _ => none) k := fun k h => by
        obtain ⟨b, x, im, h1, _⟩ := h
        cases h1
      have hbel : Below w.heap.size w w' := ⟨tr.os, tr.tape, tr.output, tr.size, fun k hk => tr.block k hk (no k)⟩
      have hge : w.heap.size ≤ im.blk := (tr.sub im.blk ⟨m, _, im, e3, rfl, hm, rfl⟩).elim (fun h => absurd h (no _)) id
      obtain ⟨es, clock, g1, g2, g3⟩ := br
      have hbr : BR Tryz.prog φ im (.map reqL) w' := ⟨es, clock, g1, flat_list g2 req_keys, flat_list g3 req_vals⟩
      obtain ⟨a1, a2, a3⟩ := hw.under hbel (hf s (Nat.le_refl _) (Nat.lt_succ_self _)) hge hbr
      exact ⟨_, _, rfl, a3, .map (im := im) (by simp), a1, a2⟩
  · cases h
theorem ls_reqX (xs : Array Value) : LS (reqX xs) := LS.ite (LS.bind (LS.new _) fun b => LS.ret _) LS.fail
/-- What comes in. -/
def E1 (f : FuncId) : Option (Array Value → AX Value) :=
  if f = 57 then some wireX
  else if f = 120 then some packX
  else if f = 168 then some reqX
  else if extIds.contains f = true then some fun _ => AX.fail
  else none
theorem E1_cases {f : FuncId} {g : Array Value → AX Value} (h : E1 f = some g) : (f = 57 ∧ g = wireX) ∨ (f = 120 ∧ g = packX) ∨ (f = 168 ∧ g = reqX) ∨ g = fun _ => AX.fail := by
  unfold E1 at h
  split at h
  · cases h; exact .inl ⟨by assumption, rfl⟩
  · split at h
    · cases h; exact .inr (.inl ⟨by assumption, rfl⟩)
    · split at h
      · cases h; exact .inr (.inr (.inl ⟨by assumption, rfl⟩))
      · split at h
        · cases h; exact .inr (.inr (.inr rfl))
        · cases h
theorem E1_bare : Bare E1 where
  no := fun f h => by
    unfold E1
    rw [if_neg, if_neg, if_neg, if_neg (by rw [h]; decide)]
    · intro e; subst e; revert h; decide
    · intro e; subst e; revert h; decide
    · intro e; subst e; revert h; decide
  ls := fun f g xs h => by
    rcases E1_cases h with ⟨_, rfl⟩ | ⟨_, rfl⟩ | ⟨_, rfl⟩ | rfl
    · exact ls_wireX xs
    · exact ls_packX xs
    · exact ls_reqX xs
    · exact LS.fail
  wire := by unfold E1; rw [if_pos rfl]
  reqs := by unfold E1; rw [if_neg (by decide), if_neg (by decide), if_pos rfl]
theorem E1_ok : ExtOK Tryz.prog E1 where
  loc := fun f g xs h => (E1_bare.ls f g xs h).loc
  ok := fun f g h args H s q e φ w args' hw ha hf => by
    rcases E1_cases h with ⟨rfl, rfl⟩ | ⟨rfl, rfl⟩ | ⟨rfl, rfl⟩ | rfl
    · exact wire_ok args H s q e φ w args' hw ha hf
    · exact pack_okX args H s q e φ w args' hw ha hf
    · exact reqs_ok args H s q e φ w args' hw ha hf
    · cases e
/-- The executor's calls are the model's. -/
theorem calls_ok (n : Nat) : CallOK Tryz.prog (aCall Tryz.prog E1 n) := call_sound prog_mixed prog_code E1_ok n
end
end Go.Proofs.YtlkceignfhnpoaaGreatDoor
end
section
namespace Go.Proofs.YtlkceignfhnpoaaGreatDoor
open Go AX Go.RowKit
section
variable {P : Program} {φ : Ren} {H : AH} {w : World} {s B : Nat}
/-- More rows that nobody writes, in a world that has them. -/
structure More (P : Program) (φ : Ren) (H : AH) (w : World) (s : Nat) (φ' : Ren) (H' : AH) (s' : Nat) : Prop where
  wr : WR P φ' H' w
  nx : Nx φ φ' s s'
  sub : ∀ k, OwnB φ' H' k → OwnB φ H k
  le : s ≤ s'
theorem More.refl (hw : WR P φ H w) (s : Nat) : More P φ H w s φ H s := ⟨hw, Nx.refl φ s, fun _ h => h, Nat.le_refl _⟩
theorem More.trans {φ1 φ2 : Ren} {H1 H2 : AH} {s1 s2 : Nat} (h : More P φ H w s φ1 H1 s1) (k : More P φ1 H1 w s1 φ2 H2 s2) : More P φ H w s φ2 H2 s2 :=
  ⟨k.wr, h.nx.trans k.nx h.le k.le, fun j hj => h.sub j (k.sub j hj), Nat.le_trans h.le k.le⟩
theorem More.free {φ1 : Ren} {H1 : AH} {s1 s2 : Nat} (h : More P φ H w s φ1 H1 s1) (hf : Free φ s s2) : Free φ1 s1 s2 := fun b h1 h2 => by
  cases e : φ1 b with
  | none => rfl
  | some im =>
    rcases h.nx.dom b im e with e | e
    · rw [hf b (Nat.le_trans h.le h1) h2] at e; cases e
    · omega
theorem WR.addF (hw : WR P φ H w) {cs : List Value} {T : TypeId} {im : Img} (hs : φ s = none) (ho : ¬ OwnB φ H im.blk) (hr : BR P φ im (.cells cs T false) w) :
    More P φ H w s (φ.put s im) (upd H s (some (.cells cs T false))) (s + 1) := by
  have hHs : ∀ k y, H k = some y → k ≠ s := by
    rintro k y hy rfl
    obtain ⟨im2, e2, _⟩ := hw.blk k y hy
    rw [hs] at e2; cases e2
  have sub : ∀ k, OwnB (φ.put s im) (upd H s (some (.cells cs T false))) k → OwnB φ H k := by
    rintro k ⟨c, y, im2, h1, h2, h3, h4⟩
    by_cases e : c = s
    · subst e
      rw [upd_same] at h1; cases h1
      cases h2
    · rw [upd_ne _ _ e] at h1
      rw [Ren.put_ne _ _ e] at h3
      exact ⟨c, y, im2, h1, h2, h3, h4⟩
  have t : Trn φ H w (φ.put s im) (upd H s (some (.cells cs T false))) w := ⟨rfl, rfl, rfl, Nat.le_refl _, fun _ _ _ => rfl, fun k h => .inl (sub k h)⟩
  refine ⟨⟨fun k y hy => ?_, fun k k' y y' im1 im2 h1 h2 hne hwr e1 e2 => ?_, hw.env.trn t⟩, nx_put hs, sub, Nat.le_succ _⟩
  · by_cases e : k = s
    · subst e
      rw [upd_same] at hy; cases hy
      exact ⟨im, Ren.put_same _ _ _, hr.mono (ext_put hs)⟩
    · rw [upd_ne _ _ e] at hy
      obtain ⟨im2, e2, r2⟩ := hw.blk k y hy
      exact ⟨im2, by rw [Ren.put_ne _ _ e]; exact e2, r2.mono (ext_put hs)⟩
  · by_cases e : k = s
    · subst e
      rw [upd_same] at h1; cases h1
      cases hwr
    · rw [upd_ne _ _ e] at h1
      rw [Ren.put_ne _ _ e] at e1
      by_cases e' : k' = s
      · subst e'
        rw [Ren.put_same] at e2; cases e2
        exact fun e3 => ho ⟨k, y, im1, h1, hwr, e1, e3⟩
      · rw [upd_ne _ _ e'] at h2
        rw [Ren.put_ne _ _ e'] at e2
        exact hw.inj k k' y y' im1 im2 h1 h2 hne hwr e1 e2
/-- A row that a call owns, as a row that nobody writes. -/
theorem row_more {T : TypeId} {z n : Nat} {v : Value} {xs cs : List Value} (hw : WR P φ H w) (hf : φ s = none) (hB : ∀ k, OwnB φ H k → k < B) (hz : szOf P T = some z) (hz1 : 1 ≤ z) (hz2 : z < 256) (hn : n ≠ 0) (h : w.ownsRow B T z v n xs) (hv : VL φ cs xs) (h1 : cs.all oneV = true) :
    ∃ im, More P φ H w s (φ.put s im) (upd H s (some (.cells cs T false))) (s + 1) ∧ VR (φ.put s im) (.slice (some ⟨s, 0, none⟩) n n) v := by
  obtain ⟨hl, ⟨_, h0⟩ | ⟨g, cap, cur, rfl, hb, hg, hc, hm, hsz, ht⟩⟩ := h
  · exact absurd h0 hn
  · refine ⟨⟨g, 0, cap * z, z⟩, hw.addF hf (fun ho => by have := hB g ho; omega) ?_, ?_⟩
    · refine ⟨cur, T, (0, 0), hg, by simp [hsz], ?_, fun i v hi => ?_, by simp [hz], fun h => (by cases h), fun _ _ => rfl, fun h => (by cases h)⟩
      · rw [hv.len, hl]
        exact Nat.mul_le_mul_right _ hc
      · obtain ⟨v', e, r⟩ := hv.get hi
        refine ⟨v', ?_, r, List.all_eq_true.1 h1 v (List.mem_of_getElem? hi)⟩
        rw [← ht] at e
        rw [List.getElem?_take] at e
        split at e
        · simpa using e
        · cases e
    · exact .slice (im := ⟨g, 0, cap * z, z⟩) (Ren.put_same _ _ _) hc (by simp) hm
theorem nums_ok {l : List Int} {q : Out Value} {nv : Value} (h : numsX l H s = some q) (hw : WR Tryz.prog φ H w) (hf : Free φ s q.s) (hB : ∀ k, OwnB φ H k → k < B) (ho : w.ownsRow B 3 1 nv l.length (numCs l)) (hz : l = [] → nv = .slice none 0 0) :
    ∃ φ', More Tryz.prog φ H w s φ' q.H q.s ∧ VR φ' q.val nv := by
  unfold numsX at h
  split at h
  · rename_i hl
    simp [AX.ret] at h
    subst h
    rw [hz hl]
    exact ⟨φ, More.refl hw s, .sliceNil⟩
  · rename_i hl
    simp [AX.bind, AX.new, AX.ret] at h
    subst h
    have hs : ∀ v ∈ numCs l, simpleV v = true := fun v hv => by
      obtain ⟨n, _, rfl⟩ := List.mem_map.1 hv
      rfl
    obtain ⟨im, a, b⟩ := row_more (T := 3) (z := 1) hw (hf s (Nat.le_refl _) (Nat.lt_succ_self _)) hB (by kernel_rfl) (by decide) (by decide) (fun e => hl (List.length_eq_zero_iff.1 e)) ho (VL.simple (List.all_eq_true.2 hs)) (List.all_eq_true.2 fun v hv => by
      obtain ⟨n, _, rfl⟩ := List.mem_map.1 hv
      rfl)
    exact ⟨_, a, b⟩
theorem rows_ok : ∀ (xs : List Stp) (nvs : List Value) (s : Nat) (H : AH) (φ : Ren) (q : Out (List Value)), rowsX xs H s = some q → WR Tryz.prog φ H w → Free φ s q.s → (∀ k, OwnB φ H k → k < B) → nvs.length = xs.length →
    (∀ j (h : j < xs.length), ∃ nv, nvs[j]? = some nv ∧ w.ownsRow B 3 1 nv xs[j].nums.length (numCs xs[j].nums)) → (∀ j (h : j < xs.length), xs[j].nums = [] → nvs[j]? = some (.slice none 0 0)) →
    ∃ φ', More Tryz.prog φ H w s φ' q.H q.s ∧ VL φ' q.val nvs ∧ q.val.all oneV = true
  | [], nvs, s, H, φ, q, h, hw, hf, hB, hl, ho, hz => by
    simp [rowsX, AX.ret] at h
    subst h
    obtain rfl : nvs = [] := List.length_eq_zero_iff.1 hl
    exact ⟨φ, More.refl hw s, VL.nil, rfl⟩
  | x :: r, [], s, H, φ, q, h, hw, hf, hB, hl, ho, hz => by simp at hl
  | x :: r, nv :: nvs, s, H, φ, q, h, hw, hf, hB, hl, ho, hz => by
    simp only [rowsX] at h
    obtain ⟨p, o, h1, h2, rfl⟩ := AX.bind_some h
    obtain ⟨p2, o2, h3, h4, rfl⟩ := AX.bind_some h2
    simp [AX.ret] at h4
    subst h4
    have le1 := ((ls_numsX _).loc _ _ _ h1).up
    have le2 := ((ls_rowsX r).loc _ _ _ h3).up
    dsimp only at hf le1 le2
    obtain ⟨nv', e1, o1⟩ := ho 0 (by simp)
    simp at e1
    subst e1
    obtain ⟨φ1, m1, r1⟩ := nums_ok h1 hw (fun b h5 h6 => hf b h5 (by omega)) hB o1 (fun e => by have := hz 0 (by simp) e; simpa using this)
    obtain ⟨φ2, m2, r2, r3⟩ := rows_ok r nvs p.s p.H φ1 p2 h3 m1.wr (m1.free hf) (fun k hk => hB k (m1.sub k hk)) (by simpa using hl) (fun j hj => by
      have := ho (j + 1) (by simpa using hj)
      simpa using this) (fun j hj he => by
      have := hz (j + 1) (by simpa using hj) (by simpa using he)
      simpa using this)
    refine ⟨φ2, m1.trans m2, VL.cons (r1.mono m2.nx.ext) r2, ?_⟩
    simp only [List.all_cons, Bool.and_eq_true]
    refine ⟨?_, r3⟩
    unfold numsX at h1
    split at h1
    · simp [AX.ret] at h1; subst h1; rfl
    · simp [AX.bind, AX.new, AX.ret] at h1; subst h1; rfl
theorem stepCs_vl : ∀ (xs : List Stp) (a b : List Value), a.length = xs.length → VL φ a b → VL φ (stepCs xs a) (stepCs xs b)
  | [], a, b, _, _ => by simp [stepCs]; exact VL.nil
  | x :: r, [], b, h, _ => by simp at h
  | x :: r, u :: a, [], h, k => by have := k.len; simp at this
  | x :: r, u :: a, v :: b, h, k => by
    have hr : VR φ u v := k.at_ 0 u v rfl rfl
    have ht : VL φ a b := ⟨by have := k.len; simpa using this, fun i y y' e1 e2 => k.at_ (i + 1) y y' (by simpa using e1) (by simpa using e2)⟩
    have := stepCs_vl r a b (by simpa using h) ht
    have e : ∀ (y : Value) (l : List Value), stepCs (x :: r) (y :: l) = stepC x y ++ stepCs r l := fun y l => by simp [stepCs]
    rw [e, e]
    exact (VL.cons (VR.simple rfl) (VL.cons hr (VL.cons (VR.simple rfl) (VL.cons (VR.simple rfl) VL.nil)))).append this
theorem stepCs_one : ∀ (xs : List Stp) (a : List Value), a.all oneV = true → (stepCs xs a).all oneV = true
  | [], a, _ => by simp [stepCs]
  | x :: r, [], _ => by simp [stepCs]
  | x :: r, u :: a, h => by
    simp only [List.all_cons, Bool.and_eq_true] at h
    have := stepCs_one r a h.2
    have e : stepCs (x :: r) (u :: a) = stepC x u ++ stepCs r a := by simp [stepCs]
    rw [e, List.all_append, this]
    simp only [stepC, List.all_cons, List.all_nil, Bool.and_true, h.1]
    rfl
theorem steps_ok {xs : List Stp} {q : Out Value} {v : Value} {nvs : List Value} (h : stepsX xs H s = some q) (hw : WR Tryz.prog φ H w) (hf : Free φ s q.s) (hB : ∀ k, OwnB φ H k → k < B) (hst : StpsAt w B v xs nvs) : ∃ φ', More Tryz.prog φ H w s φ' q.H q.s ∧ VR φ' q.val v := by
  unfold stepsX at h
  obtain ⟨p, o, h1, h2, rfl⟩ := AX.bind_some h
  have le1 := ((ls_rowsX _).loc _ _ _ h1).up
  dsimp only at hf
  split at h2
  · rename_i hx
    simp [AX.ret] at h2
    subst h2
    dsimp only at hf
    obtain ⟨φ1, m1, r1, r2⟩ := rows_ok xs nvs s H φ p h1 hw hf hB hst.len hst.nums hst.nilN
    rw [hst.nilV hx]
    exact ⟨φ1, m1, .sliceNil⟩
  · rename_i hx
    simp [AX.bind, AX.new, AX.ret] at h2
    subst h2
    dsimp only at hf
    obtain ⟨φ1, m1, r1, r2⟩ := rows_ok xs nvs s H φ p h1 hw (fun b h5 h6 => hf b h5 (by omega)) hB hst.len hst.nums hst.nilN
    obtain ⟨im, a, b⟩ := row_more (T := 31) (z := 4) (s := p.s) m1.wr (m1.free hf p.s (Nat.le_refl _) (Nat.lt_succ_self _)) (fun k hk => hB k (m1.sub k hk)) (by kernel_rfl) (by decide) (by decide) (fun e => hx (List.length_eq_zero_iff.1 e)) hst.row (stepCs_vl xs _ _ (r1.len.trans hst.len) r1) (stepCs_one xs _ r2)
    exact ⟨_, m1.trans a, b⟩
theorem parseX_shape (args : Array Value) : (∃ (t : ByteArray), args = #[.string t] ∧ parseX args = if t.size ≤ 100000 then AX.bind (stepsX (parseL t.data.toList).1) fun v => AX.ret (.tuple #[v, .int .i64 ((parseL t.data.toList).2.1 : Int), .bool (parseL t.data.toList).2.2]) else AX.fail) ∨ parseX args = AX.fail := by
  obtain ⟨l⟩ := args
  unfold parseX
  split
  · rename_i t he
    have he' : l = _ := he
    subst he'
    exact .inl ⟨t, rfl, rfl⟩
  · exact .inr rfl
theorem parse_okX (args : Array Value) (H : AH) (s : Nat) (q : Out Value) (h : parseX args H s = some q) (φ : Ren) (w : World) (args' : Array Value) (hw : WR Tryz.prog φ H w) (ha : VA φ args args') (hf : Free φ s q.s) : Calls Tryz.prog 18 args' w (CallPost Tryz.prog φ H w s q) := by
  rcases parseX_shape args with ⟨t, rfl, hp⟩ | hp
  · rw [hp] at h
    split at h
    · rename_i ht
      obtain ⟨p, o, h1, h2, rfl⟩ := AX.bind_some h
      simp [AX.ret] at h2
      subst h2
      dsimp only at hf
      obtain ⟨l'⟩ := args'
      obtain rfl : l' = [.string t] := by
        have hl := ha.len
        simp at hl
        obtain ⟨a, rfl⟩ := List.length_eq_one_iff.1 hl.symm
        have := ha.at_ 0 _ a rfl rfl
        cases this; rfl
      refine (lparse_any t w ht ⟨hw.env.ok.most⟩).mono ?_
      rintro e w' ⟨hb, v, nvs, rfl, hst⟩
      obtain ⟨a1, a2⟩ := hw.below hb
      have hB : ∀ k, OwnB φ H k → k < w.heap.size := by
        rintro k ⟨b, x, im, e1, _, e3, rfl⟩
        obtain ⟨im2, e4, r⟩ := hw.blk b x e1
        rw [e3] at e4; cases e4
        exact r.lt
      obtain ⟨φ', m, r⟩ := steps_ok h1 a1 hf hB hst
      refine ⟨φ', _, rfl, m.nx, VR.mkTuple (VL.cons r (VL.cons (VR.simple rfl) (VL.one (VR.simple rfl)))).array, m.wr, a2.os, a2.tape, a2.output, a2.size, a2.block, fun k hk => a2.sub k (m.sub k hk)⟩
    · cases h
  · rw [hp] at h
    cases h
/-- What comes in: E1 and line.Parse. -/
def E2 (f : FuncId) : Option (Array Value → AX Value) := if f = 18 then some parseX else E1 f
theorem E2_bare : Bare E2 where
  no := fun f h => by
    unfold E2
    rw [if_neg]
    · exact E1_bare.no f h
    · intro e; subst e; revert h; decide
  ls := fun f g xs h => by
    unfold E2 at h
    split at h
    · cases h; exact ls_parseX xs
    · exact E1_bare.ls f g xs h
  wire := by unfold E2; rw [if_neg (by decide)]; exact E1_bare.wire
  reqs := by unfold E2; rw [if_neg (by decide)]; exact E1_bare.reqs
theorem E2_parse : E2 18 = some parseX := by unfold E2; rw [if_pos rfl]
theorem E2_ok : ExtOK Tryz.prog E2 where
  loc := fun f g xs h => (E2_bare.ls f g xs h).loc
  ok := fun f g h args H s q e φ w args' hw ha hf => by
    unfold E2 at h
    split at h
    · rename_i hfe
      subst hfe
      cases h
      exact parse_okX args H s q e φ w args' hw ha hf
    · exact E1_ok.ok f g h args H s q e φ w args' hw ha hf
theorem calls_ok2 (n : Nat) : CallOK Tryz.prog (aCall Tryz.prog E2 n) := call_sound prog_mixed prog_code E2_ok n
end
end Go.Proofs.YtlkceignfhnpoaaGreatDoor
end
