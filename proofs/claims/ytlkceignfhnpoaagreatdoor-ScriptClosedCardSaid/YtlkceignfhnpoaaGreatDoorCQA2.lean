/-
  Each operation of the executor is the model's: map updates, copies; all of them.
  Every operation of the executor but a call is the model's.
  The executor sees no more than it reads; what an operation gives hangs on the slots that it looks at.
  One operation, a call too, in the model's calculus; what the executor's region leaves, operation by operation.
  A region that draws its order: whatever order, the executor's result.
  A region that draws its order: the executor's result, in the model's calculus.
  The executor is sound: what it gives of a call holds of the model's, for every order and every capacity.
  What a run reads was there, or it made it.
-/
import Derived.Test.YtlkceignfhnpoaaGreatDoorCQA1
import Derived.LoopN
import Derived.Scope
import Derived.Laws.Sem
set_option linter.unusedVariables false
set_option linter.unusedSimpArgs false
namespace Go.Proofs.YtlkceignfhnpoaaGreatDoor
open Go

section
variable {P : Program} {φ φ' : Ren} {H : AH} {w w' : World}
theorem run_setMap {b : Nat} {es : Array MapEntry} {clock : Nat} (h : w.heap[b]? = some (.map es clock)) (o : Obj) : (setObj b o).run P w = .ok () { w with heap := w.heap.setIfInBounds b o } := by simp [setObj, Sem.run, h]
theorem WR.setMap (hw : WR P φ H w) {b : Nat} {kv kv' : List (Value × Value)} {im : Img} (hb : H b = some (.map kv)) (him : φ b = some im) {es' : Array MapEntry} {clock' : Nat} (h1 : VL φ (kv'.map (·.1)) (es'.toList.map (·.key))) (h2 : VL φ (kv'.map (·.2)) (es'.toList.map (·.val))) :
    WR P φ (upd H b (some (.map kv'))) { w with heap := w.heap.setIfInBounds im.blk (.map es' clock') } ∧ Trn φ H w φ (upd H b (some (.map kv'))) { w with heap := w.heap.setIfInBounds im.blk (.map es' clock') } := by
  obtain ⟨im2, e2, r2⟩ := hw.img hb
  rw [him] at e2; cases e2
  have hlt := r2.lt
  refine hw.turn (w' := { w with heap := w.heap.setIfInBounds im.blk (.map es' clock') }) (x' := .map kv') hb rfl him rfl rfl rfl (by simp) (fun k hk => ?_) ?_ rfl
  · exact Array.getElem?_setIfInBounds_ne (Ne.symm hk)
  · exact ⟨es', clock', by simp [hlt], h1, h2⟩
theorem run_keyStays {kt : TypeId} {k : Value} (h : keyOK P kt k = true) : (Instr.keyThatStays k k).run P w = .ok k w := by
  unfold Instr.keyThatStays
  have : Instr.sameBits 10000 k k = true := by
    rcases keyOK_cases h with ⟨q, a, h1, rfl⟩ | ⟨e, q, a, b, h1, h2, h3, rfl⟩
    · simp [Instr.sameBits]
    · show Instr.sameBits (9999 + 1) _ _ = true
      unfold Instr.sameBits
      simp [Instr.sameBits]
  rw [this]; rfl
theorem VL.eq_of {l : List Value} {l' : List Value} (h : VL φ l l') {i : Nat} {v v' : Value} (h1 : l[i]? = some v) (h2 : l'[i]? = some v') : VR φ v v' := h.at_ i v v' h1 h2
theorem mapUpdate_ok {T : TypeId} {m m' k k' v v' : Value} {s : Nat} {q : Out Value} (h : aMapUpdate P T m k v H s = some q) (hw : WR P φ H w) (hm : VR φ m m') (hk : VR φ k k') (hv : VR φ v v') :
    ∃ w', (Instr.mapUpdate T m' k' v').run P w = .ok () w' ∧ q.val = undef ∧ WR P φ q.H w' ∧ Trn φ H w φ q.H w' ∧ q.s = s := by
  unfold aMapUpdate at h
  cases hT : mapT P T with
  | none => rw [hT] at h; cases h
  | some p =>
    obtain ⟨kt, et⟩ := p
    rw [hT] at h
    dsimp only at h
    have hu := mapT_some hT
    split at h
    · rename_i hkk
      have := hk.flat_eq (keyOK_flat hkk)
      subst this
      cases hm
      case map b im him =>
        obtain ⟨o1, o2, e1, e2, rfl⟩ := AX.bind_some h
        obtain ⟨h1, h2, h3⟩ := entries_some e1
        obtain ⟨im2, e3, r3⟩ := hw.img h1
        rw [him] at e3; cases e3
        obtain ⟨es, clock, g1, g2, g3⟩ := id r3
        split at e2
        · rename_i hall
          obtain ⟨o3, o4, e4, e5, rfl⟩ := AX.bind_some e2
          simp only [AX.set, Option.some.injEq] at e4
          subst e4
          have := ret_some e5
          subst this
          have hf := run_findKey (w := w) hkk o1.val es.toList g2 hall
          simp only [h2, h3]
          have hlen : o1.val.length = es.size := by have := g2.len; simpa using this
          cases hi : idxK k' o1.val with
          | none =>
            rw [hi] at hf
            have hkv : putK k' v o1.val = o1.val ++ [(k', v)] := by rw [putK_idx, hi]
            obtain ⟨a1, a2⟩ := hw.setMap (kv' := o1.val ++ [(k', v)]) (es' := es.push { key := k', val := v', born := clock }) (clock' := clock + 1) h1 him (by simpa using g2.append (VL.one (VR.flat (keyOK_flat hkk)))) (by simpa using g3.append (VL.one hv))
            refine ⟨_, ?_, trivial, by rw [hkv]; exact a1, by rw [hkv]; exact a2, trivial⟩
            unfold Instr.mapUpdate
            rw [run_then (run_under hu)]
            dsimp only
            rw [run_then (run_getMap g1)]
            dsimp only
            rw [run_then (run_checkKey _ hkk), run_then hf]
            exact run_setMap g1 _
          | some j =>
            rw [hi] at hf
            obtain ⟨p, hp, hpk⟩ := idxK_some hi
            have hjl := (List.getElem?_eq_some_iff.1 hp).1
            have hpe : p.1 = k' := ((eqK_eq hkk (List.all_eq_true.1 hall p (List.mem_of_getElem? hp))).1 hpk).symm
            have hkv : putK k' v o1.val = o1.val.set j (k', v) := by rw [putK_idx, hi]
            have hej : es[j]? = some es[j] := Array.getElem?_eq_getElem (by omega)
            have hkj : es[j].key = k' := by
              have := g2.at_ j p.1 es[j].key (by rw [List.getElem?_map, hp]; rfl) (by rw [List.getElem?_map]; simp [show j < es.size by omega])
              rw [hpe] at this
              exact (this.flat_eq (keyOK_flat hkk))
            have hmod : (es.modify j fun e => { e with key := k', val := v' }).toList.map (·.key) = (es.toList.map (·.key)).set j k' := by
              apply List.ext_getElem?
              intro i
              simp only [List.getElem?_map, List.getElem?_set, Array.getElem?_toList, Array.getElem?_modify, List.length_map, Array.length_toList]
              by_cases hij : j = i
              · subst hij; simp [show j < es.size by omega]
              · simp [hij]
            have hmod2 : (es.modify j fun e => { e with key := k', val := v' }).toList.map (·.val) = (es.toList.map (·.val)).set j v' := by
              apply List.ext_getElem?
              intro i
              simp only [List.getElem?_map, List.getElem?_set, Array.getElem?_toList, Array.getElem?_modify, List.length_map, Array.length_toList]
              by_cases hij : j = i
              · subst hij; simp [show j < es.size by omega]
              · simp [hij]
            obtain ⟨a1, a2⟩ := hw.setMap (kv' := o1.val.set j (k', v)) (es' := es.modify j fun e => { e with key := k', val := v' }) (clock' := clock) h1 him (by rw [hmod, List.map_set]; exact g2.set j (VR.flat (keyOK_flat hkk))) (by rw [hmod2, List.map_set]; exact g3.set j hv)
            refine ⟨_, ?_, trivial, by rw [hkv]; exact a1, by rw [hkv]; exact a2, trivial⟩
            unfold Instr.mapUpdate
            rw [run_then (run_under hu)]
            dsimp only
            rw [run_then (run_getMap g1)]
            dsimp only
            rw [run_then (run_checkKey _ hkk), run_then hf]
            simp only [Option.map_some]
            rw [hej]
            simp only [Option.map_some, Option.getD_some]
            rw [hkj, run_then (run_keyStays hkk)]
            exact run_setMap g1 _
        · cases e2
      all_goals cases h
    · cases h
theorem VL.eraseIdx {l l' : List Value} (h : VL φ l l') (j : Nat) : VL φ (l.eraseIdx j) (l'.eraseIdx j) := by
  refine ⟨by rw [List.length_eraseIdx, List.length_eraseIdx, h.len], fun i v v' a b => ?_⟩
  rw [List.getElem?_eraseIdx] at a b
  split at a
  · rename_i hi; rw [if_pos hi] at b; exact h.at_ i v v' a b
  · rename_i hi; rw [if_neg hi] at b; exact h.at_ _ v v' a b
theorem map_eraseIdx' {α β : Type} (f : α → β) : ∀ (l : List α) (j : Nat), (l.eraseIdx j).map f = (l.map f).eraseIdx j
  | [], j => by simp
  | x :: l, 0 => by simp
  | x :: l, j + 1 => by simp [map_eraseIdx' f l j]
theorem delete_ok {T T2 ty : TypeId} {m m' k k' : Value} {s : Nat} {q : Out Value} (h : aDelete P T m k H s = some q) (hw : WR P φ H w) (hm : VR φ m m') (hk : VR φ k k') :
    ∃ v' w', (Builtin.delete_ #[T, T2] ty #[m', k']).run P w = .ok v' w' ∧ VR φ q.val v' ∧ WR P φ q.H w' ∧ Trn φ H w φ q.H w' ∧ q.s = s := by
  unfold aDelete at h
  cases hT : mapT P T with
  | none => rw [hT] at h; cases h
  | some p =>
    obtain ⟨kt, et⟩ := p
    rw [hT] at h
    dsimp only at h
    have hu := mapT_some hT
    split at h
    · rename_i hkk
      have := hk.flat_eq (keyOK_flat hkk)
      subst this
      cases hm
      case map b im him =>
        obtain ⟨o1, o2, e1, e2, rfl⟩ := AX.bind_some h
        obtain ⟨h1, h2, h3⟩ := entries_some e1
        obtain ⟨im2, e3, r3⟩ := hw.img h1
        rw [him] at e3; cases e3
        obtain ⟨es, clock, g1, g2, g3⟩ := id r3
        split at e2
        · rename_i hall
          obtain ⟨o3, o4, e4, e5, rfl⟩ := AX.bind_some e2
          simp only [AX.set, Option.some.injEq] at e4
          subst e4
          have := ret_some e5
          subst this
          have hf := run_findKey (w := w) hkk o1.val es.toList g2 hall
          simp only [h2, h3]
          have hlen : o1.val.length = es.size := by have := g2.len; simpa using this
          have start : ∀ es' w1, (setObj im.blk (.map es' clock)).run P w = .ok () w1 → ((idxK k' o1.val = none → es' = es) ∧ ∀ j, idxK k' o1.val = some j → es' = es.eraseIdxIfInBounds j) → (Builtin.delete_ #[T, T2] ty #[.map (some im.blk), k']).run P w = .ok (.tuple #[]) w1 := by
            intro es' w1 hset hcase
            unfold Builtin.delete_
            have ea : (#[T, T2] : Array TypeId)[0]? = some T := rfl
            have eb : (#[Value.map (some im.blk), k'] : Array Value)[0]? = some (.map (some im.blk)) := rfl
            have ec : (#[Value.map (some im.blk), k'] : Array Value)[1]? = some k' := rfl
            rw [ea, eb, ec]
            dsimp only
            rw [run_then (run_under hu)]
            dsimp only
            rw [run_then (run_getMap g1)]
            dsimp only
            rw [run_then (run_checkKey _ hkk), run_then hf]
            cases hi : idxK k' o1.val with
            | none =>
              have := hcase.1 hi
              subst this
              simp only [Option.map_none]
              rw [run_then hset]; rfl
            | some j =>
              have := hcase.2 j hi
              subst this
              simp only [Option.map_some]
              rw [run_then hset]; rfl
          cases hi : idxK k' o1.val with
          | none =>
            have hkv : delK k' o1.val = o1.val := by rw [delK_idx, hi]
            obtain ⟨a1, a2⟩ := hw.setMap (kv' := o1.val) (es' := es) (clock' := clock) h1 him g2 g3
            exact ⟨_, _, start es _ (run_setMap g1 _) ⟨fun _ => rfl, fun j hj => by rw [hi] at hj; cases hj⟩, VR.undef, by rw [hkv]; exact a1, by rw [hkv]; exact a2, trivial⟩
          | some j =>
            obtain ⟨p, hp, hpk⟩ := idxK_some hi
            have hjl := (List.getElem?_eq_some_iff.1 hp).1
            have hkv : delK k' o1.val = o1.val.eraseIdx j := by rw [delK_idx, hi]
            have hes : (es.eraseIdxIfInBounds j).toList = es.toList.eraseIdx j := by
              unfold Array.eraseIdxIfInBounds
              rw [dif_pos (by omega)]
              simp
            obtain ⟨a1, a2⟩ := hw.setMap (kv' := o1.val.eraseIdx j) (es' := es.eraseIdxIfInBounds j) (clock' := clock) h1 him (by rw [hes, map_eraseIdx', map_eraseIdx']; exact g2.eraseIdx j) (by rw [hes, map_eraseIdx', map_eraseIdx']; exact g3.eraseIdx j)
            exact ⟨_, _, start (es.eraseIdxIfInBounds j) _ (run_setMap g1 _) ⟨fun hn => (by rw [hi] at hn; cases hn), fun j' hj => (by rw [hi] at hj; cases hj; rfl)⟩, VR.undef, by rw [hkv]; exact a1, by rw [hkv]; exact a2, trivial⟩
        · cases e2
      all_goals cases h
    · cases h
theorem makeMap_ok {s : Nat} {q : Out Value} (h : AX.bind (AX.new (.map [])) (fun b => AX.ret (.map (some b))) H s = some q) (hw : WR P φ H w) (hf : Free φ s q.s) :
    ∃ φ', (newObj (.map #[] 0)).run P w = .ok w.heap.size { w with heap := w.heap.push (.map #[] 0) } ∧ Nx φ φ' s q.s ∧ VR φ' q.val (.map (some w.heap.size)) ∧ WR P φ' q.H { w with heap := w.heap.push (.map #[] 0) } ∧ Trn φ H w φ' q.H { w with heap := w.heap.push (.map #[] 0) } := by
  obtain ⟨o1, o2, e1, e2, rfl⟩ := AX.bind_some h
  simp only [AX.new, Option.some.injEq] at e1
  subst e1
  have := ret_some e2
  subst this
  have hs : φ s = none := hf s (Nat.le_refl _) (by simp)
  obtain ⟨a1, a2, a3⟩ := hw.new (w' := { w with heap := w.heap.push (.map #[] 0) }) (x := .map []) (im := ⟨w.heap.size, 0, 0, 0⟩) hs rfl rfl rfl rfl (by simp) (fun k hk => push_old _ hk) ⟨#[], 0, heap_push _, VL.nil, VL.nil⟩
  exact ⟨_, rfl, a2, VR.map (Ren.put_same φ s ⟨w.heap.size, 0, 0, 0⟩), a1, a3⟩
theorem copy_ok {T T2 ty : TypeId} {d d' x x' : Value} {s : Nat} {q : Out Value} (h : aCopy P T d x H s = some q) (hw : WR P φ H w) (hd : VR φ d d') (hx : VR φ x x') :
    ∃ v' w', (Builtin.copy_ #[T, T2] ty #[d', x']).run P w = .ok v' w' ∧ VR φ q.val v' ∧ WR P φ q.H w' ∧ Trn φ H w φ q.H w' ∧ q.s = s := by
  unfold aCopy at h
  cases he : elemT P T with
  | none => rw [he] at h; cases h
  | some e =>
    rw [he] at h
    dsimp only at h
    cases hs : szOf P e with
    | none => rw [hs] at h; cases h
    | some size =>
      rw [hs] at h
      have hu := elem_under he
      have start : ∀ (base bx : Option Addr) (n cap m cx k : Nat) (cells : Array Value) (w1 : World), k = min m n → (Builtin.firstCells size k (.slice bx m cx)).run P w = .ok cells w → (∀ a, base = some a → (storeCells a cells.toList).run P w = .ok () w1) → (base = none → w1 = w) →
          (Builtin.copy_ #[T, T2] ty #[.slice base n cap, .slice bx m cx]).run P w = .ok (.int .i64 k) w1 := by
        intro base bx n cap m cx k cells w1 hk hfc hst hn0
        unfold Builtin.copy_
        have ea : (#[T, T2] : Array TypeId)[0]? = some T := rfl
        have eb : (#[Value.slice base n cap, Value.slice bx m cx] : Array Value)[0]? = some (.slice base n cap) := rfl
        have ec : (#[Value.slice base n cap, Value.slice bx m cx] : Array Value)[1]? = some (.slice bx m cx) := rfl
        rw [ea, eb, ec]
        dsimp only
        rw [run_then (run_under hu)]
        dsimp only
        rw [run_then (a := m) (w' := w) rfl, run_then (run_size hs)]
        have : Nat.min m n = k := hk.symm
        rw [this, run_then hfc]
        cases base with
        | none =>
          have := hn0 rfl
          subst this
          rfl
        | some a =>
          dsimp only
          rw [run_then (hst a rfl)]; rfl
      have key : ∀ (base : Option Addr) (n cap : Nat) (bx : Option Addr) (m cx : Nat), d = .slice base n cap → x = .slice bx m cx → ∃ v' w', (Builtin.copy_ #[T, T2] ty #[d', x']).run P w = .ok v' w' ∧ VR φ q.val v' ∧ WR P φ q.H w' ∧ Trn φ H w φ q.H w' ∧ q.s = s := by
        intro base n cap bx m cx e1 e2
        subst e1; subst e2
        dsimp only at h
        have hd2 : ∃ b c, d' = .slice b n c ∧ (base = none → b = none) := by cases hd <;> exact ⟨_, _, rfl, by simp⟩
        have hx2 : ∃ b c, x' = .slice b m c := by cases hx <;> exact ⟨_, _, rfl⟩
        split at h
        · rename_i h0
          have := ret_some h
          subst this
          obtain ⟨b1, c1, rfl, _⟩ := hd2
          obtain ⟨b2, c2, rfl⟩ := hx2
          have hfc : (Builtin.firstCells size 0 (.slice b2 m c2)).run P w = .ok #[] w := by
            cases b2 with
            | none => rw [run_firstCells_none]
            | some a => simpa using run_firstCells_some (P := P) w size 0 a m c2 [] (by simp) (by simp)
          exact ⟨_, w, start b1 b2 n c1 m c2 0 #[] w (by omega) hfc (fun a _ => by simp [storeCells, run_pure]) (fun _ => rfl), VR.int _ _, hw, Trn.refl _ _ _, rfl⟩
        · rename_i h0
          split at h
          · rename_i hle
            obtain ⟨o1, o2, e1, e2, rfl⟩ := AX.bind_some h
            obtain ⟨bx', m', cx', vs, ex, k1, k2, k3, k4, k5, k6, k7⟩ := sliceCells_ok e1 hw hx
            have hmm : m' = m := by rw [ex] at hx; cases hx <;> rfl
            subst hmm
            subst ex
            have hfc := run_firsts (P := P) (c := cx') k2 k4 k5
            cases base with
            | none => cases e2
            | some ab =>
              obtain ⟨b, o, spot⟩ := ab
              cases spot with
              | some t => cases e2
              | none =>
                dsimp only at e2
                obtain ⟨o3, o4, e3, e4, rfl⟩ := AX.bind_some e2
                obtain ⟨g1, g2, g3⟩ := cells_some e3
                split at e4
                · rename_i hc
                  obtain ⟨hc1, hc2⟩ := hc
                  obtain ⟨o5, o6, e5, e6, rfl⟩ := AX.bind_some e4
                  simp only [AX.set, Option.some.injEq] at e5
                  subst e5
                  have := ret_some e6
                  subst this
                  rw [hc1] at g1
                  rw [k6] at g1 g2
                  rw [k7] at g3
                  simp only [g2, g3]
                  cases hd
                  case slice0 a => omega
                  case slice cap' im _ _ _ _ =>
                    have hb2 : φ b = some im := by assumption
                    obtain ⟨w1, s1, s2, s3⟩ := BR.stored (vs := o1.val) (vs' := vs) (o := o) hw g1 hb2 hc2 k1 (k1.all_one k3)
                    exact ⟨_, w1, start (some ⟨im.blk, im.base + o, none⟩) bx' n cap' m' cx' m' vs.toArray w1 (by omega) hfc (fun a ha => by cases ha; exact s1) (fun hh => by cases hh), VR.int _ _, s2, s3, trivial⟩
                · cases e4
          · cases h
      cases hd <;> cases hx <;> first | exact key _ _ _ _ _ _ rfl rfl | (cases h)
theorem clear_ok {T ty : TypeId} {x x' : Value} {s : Nat} {q : Out Value} (h : aClear P T x H s = some q) (hw : WR P φ H w) (hx : VR φ x x') :
    ∃ v' w', (Builtin.clear_ #[T] ty #[x']).run P w = .ok v' w' ∧ VR φ q.val v' ∧ WR P φ q.H w' ∧ Trn φ H w φ q.H w' ∧ q.s = s := by
  unfold aClear at h
  cases he : elemT P T with
  | none => rw [he] at h; cases h
  | some e =>
    rw [he] at h
    dsimp only at h
    have hu := elem_under he
    cases hs : szOf P e with
    | none => rw [hs] at h; cases h
    | some size =>
      cases hz : zeroOf P e with
      | none => rw [hs, hz] at h; cases h
      | some z =>
        rw [hs, hz] at h
        have ea : (#[T] : Array TypeId)[0]? = some T := rfl
        have eb : ∀ v : Value, (#[v] : Array Value)[0]? = some v := fun _ => rfl
        have empty : ∀ (base : Option Addr) (c : Nat), (Builtin.clear_ #[T] ty #[.slice base 0 c]).run P w = .ok (.tuple #[]) w := by
          intro base c
          unfold Builtin.clear_
          rw [ea, eb]
          dsimp only
          rw [run_then (run_under hu)]
          cases base <;> rfl
        cases hx
        case sliceNil =>
          dsimp only at h
          rw [if_pos rfl] at h
          have := ret_some h
          subst this
          exact ⟨_, w, empty _ _, VR.undef, hw, Trn.refl _ _ _, rfl⟩
        case slice0 b o a =>
          dsimp only at h
          rw [if_pos rfl] at h
          have := ret_some h
          subst this
          exact ⟨_, w, empty _ _, VR.undef, hw, Trn.refl _ _ _, rfl⟩
        case slice b o n cap im _ _ _ _ =>
          have hb2 : φ b = some im := by assumption
          dsimp only at h
          by_cases hn0 : n = 0
          · subst hn0
            rw [if_pos rfl] at h
            have := ret_some h
            subst this
            exact ⟨_, w, empty _ _, VR.undef, hw, Trn.refl _ _ _, rfl⟩
          · rw [if_neg hn0] at h
            obtain ⟨o3, o4, e3, e4, rfl⟩ := AX.bind_some h
            obtain ⟨g1, g2, g3⟩ := cells_some e3
            split at e4
            · rename_i hc
              obtain ⟨hc1, hc2⟩ := hc
              obtain ⟨o5, o6, e5, e6, rfl⟩ := AX.bind_some e4
              simp only [AX.set, Option.some.injEq] at e5
              subst e5
              have := ret_some e6
              subst this
              rw [hc1] at g1
              simp only [g2, g3]
              have hsim : (Builtin.zeroCells z.cells n).toList.all simpleV = true := by
                have hzs := (run_zero (w := w) hz).2
                rw [List.all_eq_true] at hzs ⊢
                intro v hv
                unfold Builtin.zeroCells at hv
                simp only [Array.toList_map, Array.toList_range, List.mem_map, List.mem_range] at hv
                obtain ⟨i, hi, rfl⟩ := hv
                have hpos : 0 < z.cells.size := by
                  rcases Nat.eq_zero_or_pos z.cells.size with h0 | h0
                  · rw [h0] at hi; simp at hi
                  · exact h0
                rw [getElem!_pos z.cells _ (Nat.mod_lt _ hpos)]
                exact hzs _ (by simp)
              have hone : (Builtin.zeroCells z.cells n).toList.all oneV = true := by
                rw [List.all_eq_true] at hsim ⊢
                exact fun v hv => simple_one (hsim v hv)
              obtain ⟨w1, s1, s2, s3⟩ := BR.stored (vs := (Builtin.zeroCells z.cells n).toList) (vs' := (Builtin.zeroCells z.cells n).toList) (o := o) hw g1 hb2 hc2 (VL.simple hsim) hone
              refine ⟨.tuple #[], w1, ?_, VR.undef, s2, s3, trivial⟩
              unfold Builtin.clear_
              rw [ea, eb]
              dsimp only
              rw [run_then (run_under hu)]
              cases n with
              | zero => exact absurd rfl hn0
              | succ n =>
                show (do let z ← zeroValue e; storeCells ⟨im.blk, im.base + o, none⟩ (Builtin.zeroCells z.cells (n + 1)).toList; pure (.tuple #[]) : Sem Value).run P w = _
                rw [run_then (run_zero hz).1, run_then s1]; rfl
            · cases e4
        all_goals cases h
end
end Go.Proofs.YtlkceignfhnpoaaGreatDoor
namespace Go.Proofs.YtlkceignfhnpoaaGreatDoor
open Go

section
variable {P : Program} {φ φ' : Ren} {H : AH} {w w' : World}
theorem val_ok {tm : Array Value} {a : Act} (ht : VA φ tm a.tmps) {x : Operand} (hx : Operand.okC x = true) : VR φ (evalA tm x) (a.eval x) := by
  cases x with
  | tmp t => exact ht.getD t
  | const v => exact VR.const hx
  | global g => cases hx
  | func f => exact .func #[] #[] #[] #[] rfl (fun i v v' h => by simp at h) rfl (fun i v v' h => by simp at h)
theorem vals_ok {tm : Array Value} {a : Act} (ht : VA φ tm a.tmps) {xs : Array Operand} (hx : ∀ x ∈ xs.toList, Operand.okC x = true) : VA φ (xs.map (evalA tm)) (xs.map a.eval) := by
  refine ⟨by simp, fun i v v' e1 e2 => ?_⟩
  rw [Array.getElem?_map] at e1 e2
  cases hi : xs[i]? with
  | none => rw [hi] at e1; cases e1
  | some x =>
    rw [hi] at e1 e2
    simp only [Option.map_some, Option.some.injEq] at e1 e2
    subst e1; subst e2
    exact val_ok ht (hx x (by simpa using Array.mem_of_getElem? hi))
theorem parts_ok {tm : Array Value} {a : Act} (ht : VA φ tm a.tmps) {ps : Array (Nat × Operand)} (hx : ∀ p ∈ ps.toList, Operand.okC p.2 = true) : Parts φ (ps.map fun (i, x) => (i, evalA tm x)) (ps.map fun (i, x) => (i, a.eval x)) := by
  refine ⟨by simp, fun i p p' e1 e2 => ?_⟩
  simp only [Array.toList_map, List.getElem?_map] at e1 e2
  cases hi : ps.toList[i]? with
  | none => rw [hi] at e1; cases e1
  | some x =>
    rw [hi] at e1 e2
    simp only [Option.map_some, Option.some.injEq] at e1 e2
    subst e1; subst e2
    exact ⟨rfl, val_ok ht (hx x (List.mem_of_getElem? hi))⟩
theorem Op1.mkV {s : Nat} {q : Out Value} {r : Result Next} {v' : Value} (hr : r = .ok (.value v') w') (h1 : Nx φ φ' s q.s) (h2 : VR φ' q.val v') (h3 : WR P φ' q.H w') (h4 : Trn φ H w φ' q.H w') : OpR P φ H w s q r := ⟨φ', v', w', .inl hr, h1, h2, h3, h4⟩
theorem Op1.quiet {s : Nat} {q : Out Value} {r : Result Next} {v' : Value} (hr : r = .ok (.value v') w) (h2 : VR φ q.val v') (h3 : WR P φ H w) (h4 : q.H = H) (h5 : q.s = s) : OpR P φ H w s q r :=
  ⟨φ, v', w, .inl hr, by rw [h5]; exact Nx.refl _ _, h2, by rw [h4]; exact h3, by rw [h4]; exact Trn.refl _ _ _⟩
def notCall (o : Oper) : Prop := ∀ c f, o.op = .call c → c.callee ≠ .value f
theorem run_nilCheck {ρ : Operand → Value} {o : Oper} {x : Operand} (ho : o.op = .nilCheck x) {v : Value} (hv : ρ x = v) (h : (∃ a, v = .pointer (some a)) ∨ ∃ f fs cs, v = .func (.func f) fs cs) : (execOp ρ o).run P w = .ok (.value v) w := by
  rcases h with ⟨a, rfl⟩ | ⟨f, fs, cs, rfl⟩ <;> (unfold execOp; rw [ho]; dsimp only; rw [hv]; rfl)
theorem builtin_list {b : Builtin} {ts : Array TypeId} {vs : Array Value} {t1 t2 : TypeId} {v1 v2 : Value} (h : ts.toList = [t1, t2]) (h' : vs.toList = [v1, v2]) : ts = #[t1, t2] ∧ vs = #[v1, v2] := ⟨Array.ext' h, Array.ext' h'⟩
theorem builtin_ok {b : Builtin} {ts : Array TypeId} {ty : TypeId} {cs : Array Bool} {vs vs' : Array Value} {s : Nat} {q : Out Value} (h : aBuiltin P b ts vs H s = some q) (hw : WR P φ H w) (hv : VA φ vs vs') (hf : Free φ s q.s) :
    OpR P φ H w s q ((Go.builtin b ts ty cs vs').run P w) := by
  have two : ∀ {x y : Value}, vs.toList = [x, y] → ∃ x' y', vs' = #[x', y'] ∧ VR φ x x' ∧ VR φ y y' := by
    intro x y e
    have hl := hv.list
    rw [e] at hl
    cases hv' : vs'.toList with
    | nil => rw [hv'] at hl; have := hl.len; simp at this
    | cons x' r =>
      cases r with
      | nil => rw [hv'] at hl; have := hl.len; simp at this
      | cons y' r =>
        cases r with
        | cons z r => rw [hv'] at hl; have := hl.len; simp at this
        | nil =>
          rw [hv'] at hl
          exact ⟨x', y', Array.ext' hv', hl.at_ 0 _ _ rfl rfl, hl.at_ 1 _ _ rfl rfl⟩
  obtain ⟨m, hm⟩ : ∃ m, aBuiltin P b ts vs = m := ⟨_, rfl⟩
  rw [hm] at h
  unfold aBuiltin at hm
  split at hm
  · rename_i t v e1 e2
    subst hm
    have hts : ts = #[t] := Array.ext' e1
    have hvs : ∃ v', vs' = #[v'] ∧ VR φ v v' := by
      have hl := hv.list
      rw [e2] at hl
      cases hv' : vs'.toList with
      | nil => rw [hv'] at hl; have := hl.len; simp at this
      | cons x' r =>
        cases r with
        | cons y r => rw [hv'] at hl; have := hl.len; simp at this
        | nil =>
          rw [hv'] at hl
          exact ⟨x', Array.ext' hv', hl.at_ 0 _ _ rfl rfl⟩
    obtain ⟨v', rfl, hvv⟩ := hvs
    subst hts
    obtain ⟨u, r1, r2, r3, r4⟩ := len_ok (ty := ty) h hw hvv
    exact Op1.quiet (run_value r1) r2 hw r3 r4
  · rename_i t t2 x y e1 e2
    subst hm
    have hts : ts = #[t, t2] := Array.ext' e1
    obtain ⟨x', y', rfl, h1, h2⟩ := two e2
    subst hts
    obtain ⟨φ', v', w', r1, r2, r3, r4, r5⟩ := append_ok (ty := ty) h hw h1 h2 hf
    exact Op1.mkV (run_value r1) r2 r3 r4 r5
  · rename_i t t2 x y e1 e2
    subst hm
    have hts : ts = #[t, t2] := Array.ext' e1
    obtain ⟨x', y', rfl, h1, h2⟩ := two e2
    subst hts
    obtain ⟨v', w', r1, r2, r3, r4, r5⟩ := copy_ok (T2 := t2) (ty := ty) h hw h1 h2
    exact Op1.mkV (run_value r1) (by rw [r5]; exact Nx.refl _ _) r2 r3 r4
  · rename_i t t2 x y e1 e2
    subst hm
    have hts : ts = #[t, t2] := Array.ext' e1
    obtain ⟨x', y', rfl, h1, h2⟩ := two e2
    subst hts
    obtain ⟨v', w', r1, r2, r3, r4, r5⟩ := delete_ok (T2 := t2) (ty := ty) h hw h1 h2
    exact Op1.mkV (run_value r1) (by rw [r5]; exact Nx.refl _ _) r2 r3 r4
  · rename_i t x e1 e2
    subst hm
    have hts : ts = #[t] := Array.ext' e1
    have hvs : ∃ v', vs' = #[v'] ∧ VR φ x v' := by
      have hl := hv.list
      rw [e2] at hl
      cases hv' : vs'.toList with
      | nil => rw [hv'] at hl; have := hl.len; simp at this
      | cons x' r =>
        cases r with
        | cons y r => rw [hv'] at hl; have := hl.len; simp at this
        | nil =>
          rw [hv'] at hl
          exact ⟨x', Array.ext' hv', hl.at_ 0 _ _ rfl rfl⟩
    obtain ⟨v', rfl, hvv⟩ := hvs
    subst hts
    obtain ⟨u, w', r1, r2, r3, r4, r5⟩ := clear_ok (ty := ty) h hw hvv
    exact Op1.mkV (run_value r1) (by rw [r5]; exact Nx.refl _ _) r2 r3 r4
  · split at hm
    · rename_i hfl
      subst hm
      have := hv.list.flat_eq hfl
      have hvs : vs' = vs := Array.ext' this
      subst hvs
      obtain ⟨u, r1, r2, r3, r4⟩ := stat_ok (φ := φ) (w := w) h
      exact Op1.quiet (run_value r1) r2 hw r3 r4
    · subst hm; cases h
  · split at hm
    · rename_i hfl
      subst hm
      have := hv.list.flat_eq hfl
      have hvs : vs' = vs := Array.ext' this
      subst hvs
      obtain ⟨u, r1, r2, r3, r4⟩ := stat_ok (φ := φ) (w := w) h
      exact Op1.quiet (run_value r1) r2 hw r3 r4
    · subst hm; cases h
  · subst hm; cases h
theorem op_ok {call : FuncId → Array Value → AX Value} {o : Oper} {tm : Array Value} {a : Act} {s : Nat} {q : Out Value} (h : aOp P call o tm H s = some q) (hnc : notCall o) (hw : WR P φ H w) (ht : VA φ tm a.tmps) (hf : Free φ s q.s) :
    OpR P φ H w s q ((execOp a.eval o).run P w) := by
  unfold aOp at h
  by_cases hok : o.op.operands.toList.all Operand.okC = true
  case neg => rw [if_neg hok] at h; cases h
  rw [if_pos hok] at h
  rw [List.all_eq_true] at hok
  have hval : ∀ x, x ∈ o.op.operands.toList → VR φ (evalA tm x) (a.eval x) := fun x hx => val_ok ht (hok x hx)
  obtain ⟨dst, op, type, pos, after, guard⟩ := o
  dsimp only at h hok hval hnc
  unfold notCall at hnc
  dsimp only at hnc
  cases op <;> dsimp only at h
  case move x =>
    have := ret_some h
    subst this
    exact Op1.quiet (v' := a.eval x) rfl (hval x (by simp [Op.operands])) hw rfl rfl
  case assign x =>
    have := ret_some h
    subst this
    exact Op1.quiet (v' := a.eval x) rfl (hval x (by simp [Op.operands])) hw rfl rfl
  case pick c x y =>
    have hc := hval c (by simp [Op.operands])
    have hx := hval x (by simp [Op.operands])
    have hy := hval y (by simp [Op.operands])
    obtain ⟨vc, hct⟩ : ∃ v, evalA tm c = v := ⟨_, rfl⟩
    rw [hct] at h hc
    cases vc
    case bool t =>
      have := ret_some h
      subst this
      have hcv : a.eval c = .bool t := hc.flat_eq rfl
      refine Op1.quiet (v' := if t then a.eval x else a.eval y) ?_ (by cases t <;> assumption) hw rfl rfl
      unfold execOp
      dsimp only
      rw [hcv, run_then (a := t) (w' := w) rfl]; rfl
    all_goals cases h
  case alloc e =>
    cases hz : zeroOf P e with
    | none => rw [hz] at h; cases h
    | some z =>
      rw [hz] at h
      obtain ⟨φ', r1, r2, r3, r4, r5⟩ := newC_ok h hw hf (ofZero (φ := φ) hz).cells.list
      refine Op1.mkV (run_value ?_) r2 r3 r4 r5
      unfold Instr.alloc
      rw [run_then (run_zero hz).1]
      dsimp only
      have : (newVar e z).run P w = .ok ⟨w.heap.size, 0, none⟩ { w with heap := w.heap.push (.cells z.cells.toList.toArray e) } := r1
      rw [run_then this]; rfl
  case box e x =>
    obtain ⟨φ', r1, r2, r3, r4, r5⟩ := newC_ok h hw hf (hval x (by simp [Op.operands])).cells.list
    refine Op1.mkV (run_value ?_) r2 r3 r4 r5
    unfold Instr.box
    have : (newVar e (a.eval x)).run P w = .ok ⟨w.heap.size, 0, none⟩ { w with heap := w.heap.push (.cells (a.eval x).cells.toList.toArray e) } := r1
    rw [run_then this]; rfl
  case build t ps =>
    split at h
    · rename_i hz
      obtain ⟨r, hr, rfl⟩ := ofOpt_some h
      obtain ⟨r', e1, e2⟩ := build_ok (w := w) hz (parts_ok ht (fun p hp => hok p.2 (by simp [Op.operands]; exact ⟨p.1, by simpa using hp⟩))) hr
      exact Op1.quiet (run_value e1) e2 hw rfl rfl
    · cases h
  case buildSlice t len ps =>
    obtain ⟨φ', v', w', r1, r2, r3, r4, r5⟩ := buildSlice_ok h hw (parts_ok ht (fun p hp => hok p.2 (by simp [Op.operands]; exact ⟨p.1, by simpa using hp⟩))) hf
    exact Op1.mkV (run_value r1) r2 r3 r4 r5
  case load t x =>
    obtain ⟨u, r1, r2, r3, r4⟩ := load_ok h hw (hval x (by simp [Op.operands]))
    exact Op1.quiet (run_value r1) r2 hw r3 r4
  case store t x y =>
    obtain ⟨w', r1, r2, r3, r4, r5⟩ := store_ok h hw (hval x (by simp [Op.operands])) (hval y (by simp [Op.operands]))
    exact ⟨φ, undef, w', .inr ⟨run_unit r1, rfl⟩, by rw [r5]; exact Nx.refl _ _, by rw [r2]; exact VR.undef, r3, r4⟩
  case nilCheck x =>
    obtain ⟨r1, r2, r3, r4⟩ := nilCheck_ok h (hval x (by simp [Op.operands]))
    exact Op1.quiet (run_nilCheck rfl rfl r1) r2 hw r3 r4
  case binOp op t x y ty =>
    obtain ⟨u, r1, r2, r3, r4⟩ := bin_ok (w := w) h (hval x (by simp [Op.operands])) (hval y (by simp [Op.operands]))
    exact Op1.quiet (run_value r1) r2 hw r3 r4
  case unOp op t x =>
    split at h
    · rename_i hfl
      obtain ⟨u, r1, r2, r3, r4⟩ := stat_ok (φ := φ) (w := w) h
      have := (hval x (by simp [Op.operands])).flat_eq hfl
      exact Op1.quiet (by unfold execOp; dsimp only; rw [this]; exact run_value r1) r2 hw r3 r4
    · cases h
  case convert t1 t2 x =>
    split at h
    · rename_i hfl
      obtain ⟨u, r1, r2, r3, r4⟩ := stat_ok (φ := φ) (w := w) h
      have := (hval x (by simp [Op.operands])).flat_eq hfl
      exact Op1.quiet (by unfold execOp; dsimp only; rw [this]; exact run_value r1) r2 hw r3 r4
    · cases h
  case makeFunc fn first captured =>
    cases fn with
    | func f =>
      have := ret_some h
      subst this
      have h1 := vals_ok (φ := φ) ht (xs := first) (fun x hx => hok x (by simp [Op.operands] at hx ⊢; exact .inl hx))
      have h2 := vals_ok (φ := φ) ht (xs := captured) (fun x hx => hok x (by simp [Op.operands] at hx ⊢; exact .inr hx))
      exact Op1.quiet (v' := .func (.func f) (first.map a.eval) (captured.map a.eval)) rfl (.func _ _ _ _ h1.len h1.at_ h2.len h2.at_) hw rfl rfl
    | _ => cases h
  case makeMap t r =>
    cases hT : mapT P t with
    | none => rw [hT] at h; cases h
    | some p =>
      obtain ⟨kt, et⟩ := p
      rw [hT] at h
      cases r with
      | none =>
        obtain ⟨φ', r1, r2, r3, r4, r5⟩ := makeMap_ok h hw hf
        refine Op1.mkV (run_value ?_) r2 r3 r4 r5
        unfold Instr.makeMap
        simp only [Option.map_none]
        rw [run_then r1]; rfl
      | some x =>
        dsimp only at h
        have hx := hval x (by simp [Op.operands])
        obtain ⟨vx, hxe⟩ : ∃ v, evalA tm x = v := ⟨_, rfl⟩
        rw [hxe] at h hx
        cases vx
        case int k n =>
          have hxv : a.eval x = .int k n := hx.flat_eq rfl
          obtain ⟨φ', r1, r2, r3, r4, r5⟩ := makeMap_ok h hw hf
          refine Op1.mkV (run_value ?_) r2 r3 r4 r5
          unfold Instr.makeMap
          simp only [Option.map_some, hxv]
          rw [run_then (run_under (mapT_some hT))]
          dsimp only
          rw [run_then (a := n) (w' := w) rfl, run_then r1]; rfl
        all_goals cases h
  case makeSlice t l c =>
    obtain ⟨φ', v', w', r1, r2, r3, r4, r5⟩ := makeSlice_ok h hw (hval l (by simp [Op.operands])) (hval c (by simp [Op.operands])) hf
    exact Op1.mkV (run_value r1) r2 r3 r4 r5
  case slice t x lo hi mx =>
    cases mx with
    | some m => cases h
    | none =>
      obtain ⟨u, r1, r2, r3, r4⟩ := slice_ok (lo' := lo.map a.eval) (hi' := hi.map a.eval) h hw (hval x (by simp [Op.operands]))
        (fun v hv => by
          cases lo with
          | none => cases hv
          | some l => simp at hv; subst hv; exact ⟨_, rfl, hval l (by simp [Op.operands])⟩)
        (fun hv => by
          cases lo with
          | none => rfl
          | some l => cases hv)
        (fun v hv => by
          cases hi with
          | none => cases hv
          | some l => simp at hv; subst hv; exact ⟨_, rfl, hval l (by simp [Op.operands])⟩)
        (fun hv => by
          cases hi with
          | none => rfl
          | some l => cases hv)
      exact Op1.quiet (run_value r1) r2 hw r3 r4
  case fieldAddr t x i =>
    obtain ⟨u, r1, r2, r3, r4⟩ := fieldAddr_ok (w := w) h (hval x (by simp [Op.operands]))
    exact Op1.quiet (run_value r1) r2 hw r3 r4
  case field t x i =>
    obtain ⟨u, r1, r2, r3, r4⟩ := field_ok (w := w) h (hval x (by simp [Op.operands]))
    exact Op1.quiet (run_value r1) r2 hw r3 r4
  case indexAddr t x i =>
    obtain ⟨u, r1, r2, r3, r4⟩ := indexAddr_ok (w := w) h (hval x (by simp [Op.operands])) (hval i (by simp [Op.operands]))
    exact Op1.quiet (run_value r1) r2 hw r3 r4
  case index t x i =>
    obtain ⟨u, r1, r2, r3, r4⟩ := index_ok (w := w) h (hval x (by simp [Op.operands])) (hval i (by simp [Op.operands]))
    exact Op1.quiet (run_value r1) r2 hw r3 r4
  case lookup t m k ok =>
    obtain ⟨u, r1, r2, r3, r4⟩ := lookup_ok h hw (hval m (by simp [Op.operands])) (hval k (by simp [Op.operands]))
    exact Op1.quiet (run_value r1) r2 hw r3 r4
  case mapUpdate t m k v =>
    obtain ⟨w', r1, r2, r3, r4, r5⟩ := mapUpdate_ok h hw (hval m (by simp [Op.operands])) (hval k (by simp [Op.operands])) (hval v (by simp [Op.operands]))
    exact ⟨φ, undef, w', .inr ⟨run_unit r1, rfl⟩, by rw [r5]; exact Nx.refl _ _, by rw [r2]; exact VR.undef, r3, r4⟩
  case extract t i =>
    have hx := hval t (by simp [Op.operands])
    obtain ⟨vx, hvs⟩ : ∃ v, evalA tm t = v := ⟨_, rfl⟩
    rw [hvs] at h
    cases vx
    case tuple vs =>
      obtain ⟨v, hv, rfl⟩ := ofOpt_some h
      obtain ⟨u, r1, r2⟩ := extract_ok (w := w) hx hvs hv
      exact Op1.quiet (run_value r1) r2 hw rfl rfl
    all_goals cases h
  case call c =>
    cases hc : c.callee with
    | value f => exact absurd hc (hnc c f rfl)
    | builtin b =>
      rw [hc] at h
      dsimp only at h
      have := builtin_ok (ty := type) (cs := c.args.map fun | .const _ => true | _ => false) h hw (vals_ok (φ := φ) ht (xs := c.args) (fun x hx => hok x (by simp [Op.operands, Call.operands, hc]; simpa using hx))) hf
      unfold execOp
      dsimp only
      unfold resolve
      rw [hc]
      exact this
    | invoke r m => rw [hc] at h; cases h
  all_goals cases h
end
end Go.Proofs.YtlkceignfhnpoaaGreatDoor
namespace Go.Proofs.YtlkceignfhnpoaaGreatDoor
open Go AX

section
variable {P : Program} {α β : Type}
theorem Local.matchOpt {γ : Type} (x : Option γ) (f : γ → AX α) (g : AX α) (hf : ∀ c, Local (f c)) (hg : Local g) : Local (match x with | some c => f c | none => g) := by cases x <;> simp_all
theorem local_cells (b : Nat) : Local (AX.cells b) := Local.bind (Local.get b) fun x => by cases x; exact Local.ret _; exact Local.fail
theorem local_entries (b : Nat) : Local (AX.entries b) := Local.bind (Local.get b) fun x => by cases x; exact Local.fail; exact Local.ret _
theorem local_readN (b o n : Nat) : Local (AX.readN b o n) := Local.bind (local_cells b) fun x => Local.ite (Local.ret _) Local.fail
theorem local_newC (T : TypeId) (cs : List Value) : Local (AX.newC T cs) := Local.ite (Local.bind (Local.new _) fun b => Local.ret _) Local.fail
theorem local_aLoad (T : TypeId) (v : Value) : Local (aLoad P T v) := by
  unfold aLoad
  split
  · split
    · split
      · exact Local.bind (local_readN _ _ _) fun _ => Local.ret _
      · exact Local.fail
    · exact Local.bind (local_cells _) fun _ => Local.ofOpt _
    · exact Local.fail
  · exact Local.fail
theorem local_aStore (T : TypeId) (p v : Value) : Local (aStore P T p v) := by
  unfold aStore
  split
  · exact Local.ite (Local.bind (local_cells _) fun _ => Local.ite (Local.bind (Local.set _ _) fun _ => Local.ret _) Local.fail) Local.fail
  · exact Local.fail
theorem local_aBuildSlice (T : TypeId) (len : Nat) (ps : Array (Nat × Value)) : Local (aBuildSlice P T len ps) := by
  unfold aBuildSlice
  split
  · split
    · refine Local.ite ?_ Local.fail
      split
      · exact Local.ite (Local.bind (Local.new _) fun _ => Local.ret _) Local.fail
      · exact Local.fail
    · exact Local.fail
  · exact Local.fail
theorem local_aNilCheck (v : Value) : Local (aNilCheck v) := by
  unfold aNilCheck
  split
  · exact Local.ret _
  · exact Local.ret _
  · exact Local.fail
theorem local_ofStat (m : Sem Value) : Local (ofStat P m) := by
  unfold ofStat
  split
  · exact Local.ite (Local.ret _) Local.fail
  · exact Local.fail
theorem local_aBin (op : BinOp) (T : TypeId) (ox oy : Operand) (x y : Value) : Local (aBin P op T ox oy x y) := by
  unfold aBin
  refine Local.ite (local_ofStat _) ?_
  split
  · exact Local.ite (Local.ret _) Local.fail
  · exact Local.ite (Local.ret _) Local.fail
  · exact Local.ite (Local.ret _) Local.fail
  · exact Local.ite (Local.ret _) Local.fail
  · exact Local.fail
theorem local_aMakeSlice (T : TypeId) (l c : Value) : Local (aMakeSlice P T l c) := by
  unfold aMakeSlice
  split
  · split
    · split
      · exact Local.ite (Local.ite (Local.bind (Local.new _) fun _ => Local.ret _) Local.fail) Local.fail
      · exact Local.fail
    · exact Local.fail
  · exact Local.fail
theorem local_aSlice (T : TypeId) (x : Value) (lo hi mx : Option Value) : Local (aSlice P T x lo hi mx) := by
  unfold aSlice
  split
  · exact Local.fail
  · split
    · split
      · exact Local.ite (Local.ret _) Local.fail
      · exact Local.fail
    · split
      · split
        · refine Local.ite ?_ Local.fail
          split
          · exact Local.ret _
          · exact Local.bind (local_cells _) fun _ => Local.ite (Local.ret _) Local.fail
          · exact Local.fail
        · exact Local.fail
      · exact Local.fail
    · exact Local.fail
theorem local_aFieldAddr (T : TypeId) (x : Value) (i : Nat) : Local (aFieldAddr P T x i) := by
  unfold aFieldAddr
  split
  · split
    · exact Local.ite Local.fail (Local.ret _)
    · exact Local.fail
  · exact Local.fail
theorem local_aField (T : TypeId) (x : Value) (i : Nat) : Local (aField P T x i) := by
  unfold aField
  split
  · split
    · exact Local.ofOpt _
    · exact Local.fail
  · exact Local.fail
theorem local_aIndexAddr (T : TypeId) (x i : Value) : Local (aIndexAddr P T x i) := by
  unfold aIndexAddr
  split
  · split
    · split
      · exact Local.ite (Local.ret _) Local.fail
      · exact Local.fail
    · split
      · exact Local.ite (Local.ret _) Local.fail
      · exact Local.fail
    · exact Local.fail
  · exact Local.fail
theorem local_aIndex (T : TypeId) (x i : Value) : Local (aIndex P T x i) := by
  unfold aIndex
  split
  · split
    · split
      · exact Local.ite (Local.ofOpt _) Local.fail
      · exact Local.fail
    · exact Local.fail
  · exact local_ofStat _
  · exact Local.fail
theorem local_aLookup (T : TypeId) (m k : Value) (ok : Bool) : Local (aLookup P T m k ok) := by
  unfold aLookup
  split
  · refine Local.ite ?_ Local.fail
    split
    · split
      · exact Local.ret _
      · exact Local.fail
    · refine Local.bind (local_entries _) fun _ => Local.ite ?_ Local.fail
      split
      · exact Local.ret _
      · split
        · exact Local.ret _
        · exact Local.fail
    · exact Local.fail
  · exact Local.fail
theorem local_aMapUpdate (T : TypeId) (m k v : Value) : Local (aMapUpdate P T m k v) := by
  unfold aMapUpdate
  split
  · refine Local.ite ?_ Local.fail
    split
    · exact Local.bind (local_entries _) fun _ => Local.ite (Local.bind (Local.set _ _) fun _ => Local.ret _) Local.fail
    · exact Local.fail
  · exact Local.fail
theorem local_aDelete (T : TypeId) (m k : Value) : Local (aDelete P T m k) := by
  unfold aDelete
  split
  · refine Local.ite ?_ Local.fail
    split
    · exact Local.bind (local_entries _) fun _ => Local.ite (Local.bind (Local.set _ _) fun _ => Local.ret _) Local.fail
    · exact Local.fail
  · exact Local.fail
theorem local_aLen (T : TypeId) (v : Value) : Local (aLen P T v) := by
  unfold aLen
  split
  · exact Local.ret _
  · exact Local.ret _
  · exact Local.ret _
  · exact Local.ret _
  · exact Local.bind (local_entries _) fun _ => Local.ret _
  · exact Local.fail
theorem local_sliceCells (size : Nat) (x : Value) : Local (sliceCells size x) := by
  unfold sliceCells
  split
  · exact Local.ret _
  · exact Local.ite (Local.ret _) (local_readN _ _ _)
  · exact Local.fail
theorem local_aAppend (T T2 : TypeId) (x y : Value) : Local (aAppend P T T2 x y) := by
  unfold aAppend
  split
  · split
    · refine Local.ite Local.fail (Local.ite (Local.ret _) (Local.ite (Local.bind (local_sliceCells _ _) fun _ => ?_) Local.fail))
      split
      · exact Local.ite (Local.bind (Local.new _) fun _ => Local.ret _) Local.fail
      · exact Local.bind (local_cells _) fun _ => Local.ite (Local.bind (Local.set _ _) fun _ => Local.bind (Local.new _) fun _ => Local.ret _) Local.fail
      · exact Local.fail
    · exact Local.fail
  · exact Local.fail
theorem local_aCopy (T : TypeId) (x y : Value) : Local (aCopy P T x y) := by
  unfold aCopy
  split
  · split
    · refine Local.ite (Local.ret _) (Local.ite (Local.bind (local_sliceCells _ _) fun _ => ?_) Local.fail)
      split
      · exact Local.bind (local_cells _) fun _ => Local.ite (Local.bind (Local.set _ _) fun _ => Local.ret _) Local.fail
      · exact Local.fail
    · exact Local.fail
  · exact Local.fail
theorem local_aClear (T : TypeId) (x : Value) : Local (aClear P T x) := by
  unfold aClear
  split
  · split
    · refine Local.ite (Local.ret _) ?_
      split
      · exact Local.bind (local_cells _) fun _ => Local.ite (Local.bind (Local.set _ _) fun _ => Local.ret _) Local.fail
      · exact Local.fail
    · exact Local.fail
  · exact Local.fail
theorem local_aBuiltin (b : Builtin) (ts : Array TypeId) (vs : Array Value) : Local (aBuiltin P b ts vs) := by
  unfold aBuiltin
  split
  · exact local_aLen _ _
  · exact local_aAppend _ _ _ _
  · exact local_aCopy _ _ _
  · exact local_aDelete _ _ _
  · exact local_aClear _ _
  · exact Local.ite (local_ofStat _) Local.fail
  · exact Local.ite (local_ofStat _) Local.fail
  · exact Local.fail
theorem local_aOp {call : FuncId → Array Value → AX Value} (hc : ∀ f ags, Local (call f ags)) (o : Oper) (tm : Array Value) : Local (aOp P call o tm) := by
  unfold aOp
  refine Local.ite ?_ Local.fail
  split
  · exact Local.ret _
  · exact Local.ret _
  · split
    · exact Local.ret _
    · exact Local.fail
  · split
    · exact local_newC _ _
    · exact Local.fail
  · exact local_newC _ _
  · exact Local.ite (Local.ofOpt _) Local.fail
  · exact local_aBuildSlice _ _ _
  · exact local_aLoad _ _
  · exact local_aStore _ _ _
  · exact local_aNilCheck _
  · exact local_aBin _ _ _ _ _ _
  · exact Local.ite (local_ofStat _) Local.fail
  · exact Local.ite (local_ofStat _) Local.fail
  · split
    · exact Local.ret _
    · exact Local.fail
  · split
    · exact Local.bind (Local.new _) fun _ => Local.ret _
    · split
      · exact Local.bind (Local.new _) fun _ => Local.ret _
      · exact Local.fail
    · exact Local.fail
  · exact local_aMakeSlice _ _ _
  · exact local_aSlice _ _ _ _ _
  · exact local_aFieldAddr _ _ _
  · exact local_aField _ _ _
  · exact local_aIndexAddr _ _ _
  · exact local_aIndex _ _ _
  · exact local_aLookup _ _ _ _
  · exact local_aMapUpdate _ _ _ _
  · split
    · exact Local.ofOpt _
    · exact Local.fail
  · split
    · split
      · exact Local.ite (hc _ _) Local.fail
      · exact Local.fail
    · exact local_aBuiltin _ _ _
    · exact Local.fail
  · exact Local.fail
theorem local_aVal {call : FuncId → Array Value → AX Value} (hc : ∀ f ags, Local (call f ags)) (ops : Array Oper) (o : Oper) (tm : Array Value) : Local (aVal P call ops o tm) := Local.ite (local_aOp hc o tm) (Local.ret _)
theorem local_aSeq {call : FuncId → Array Value → AX Value} (hc : ∀ f ags, Local (call f ags)) (ops : Array Oper) : ∀ (l : List Oper) (tm : Array Value), Local (aSeq P call ops l tm)
  | [], tm => Local.ret _
  | o :: r, tm => by
    intro H s q h
    unfold aSeq at h
    cases h1 : aStep P call ops o tm H s with
    | none => rw [h1] at h; cases h
    | some x =>
      rw [h1] at h
      dsimp only at h
      cases h2 : aSeq P call ops r x.val x.H x.s with
      | none => rw [h2] at h; cases h
      | some y =>
        rw [h2] at h
        simp only [Option.some.injEq] at h
        subst h
        have hl : Local (aStep P call ops o tm) := Local.bind (local_aVal hc ops o tm) fun _ => Local.ret _
        obtain ⟨a1, a2, a3, a4⟩ := Local1.seq (f := aSeq P call ops r) (hl H s x h1) (local_aSeq hc ops r _ _ _ y h2)
        refine ⟨a1, a2, a3, fun H2 hH => ?_⟩
        obtain ⟨o2, p2, e3, e4, v1, v2, s1, s2, d1, w1, d2, w2, k1, k2⟩ := a4 H2 hH
        exact ⟨⟨(p2.val.1, ⟨s, o2.s, o2.D, o2.W⟩ :: p2.val.2), p2.H, p2.s, o2.D ++ p2.D, o2.W ++ p2.W⟩, by simp [aSeq, e3, e4], by simp [v2, s1, d1, w1], s2, by simp [d1, d2], by simp [w1, w2], k1, k2⟩
theorem local_aRegion {call : FuncId → Array Value → AX Value} (hc : ∀ f ags, Local (call f ags)) (ops : Array Oper) (draw : Bool) (tm : Array Value) : Local (aRegion P call ops draw tm) := by
  unfold aRegion
  exact Local.ite (Local.bind (local_aSeq hc ops _ _) fun _ => Local.ite (Local.ret _) Local.fail) (Local.bind (local_aSeq hc ops _ _) fun _ => Local.ret _)
theorem local_aLoop {body : Array Value → AX (AExit × Array Value)} (hb : ∀ tm, Local (body tm)) : ∀ n tm, Local (aLoop body n tm)
  | 0, tm => Local.fail
  | n + 1, tm => Local.bind (hb tm) fun x => by
    split
    · exact local_aLoop hb n _
    · exact Local.ret _
    · exact Local.ret _
theorem local_aCode {call : FuncId → Array Value → AX Value} (hc : ∀ f ags, Local (call f ags)) : ∀ (c : Code) (tm : Array Value), Local (aCode P call c tm)
  | .skip, tm => by unfold aCode; exact Local.ret _
  | .label _, tm => by unfold aCode; exact Local.ret _
  | .region _ ops draw, tm => by unfold aCode; exact Local.bind (local_aRegion hc ops draw tm) fun _ => Local.ret _
  | .seq a b, tm => by
    unfold aCode
    refine Local.bind (local_aCode hc a tm) fun x => ?_
    split
    · exact local_aCode hc b _
    · exact Local.ret _
    · exact Local.ret _
  | .cond c a b, tm => by
    unfold aCode
    refine Local.ite Local.fail ?_
    split
    · exact Local.ite (local_aCode hc a tm) (local_aCode hc b tm)
    · exact Local.fail
  | .block id c, tm => by
    unfold aCode
    refine Local.bind (local_aCode hc c tm) fun x => ?_
    split
    · exact Local.ret _
    · exact Local.ite (Local.ret _) (Local.ret _)
    · exact Local.ret _
  | .loop c, tm => by unfold aCode; exact local_aLoop (local_aCode hc c) _ _
  | .scope c, tm => by unfold aCode; exact local_aCode hc c tm
  | .exit id, tm => by unfold aCode; exact Local.ret _
  | .ret, tm => by unfold aCode; exact Local.ret _
  | .rangeFunc .., tm => by unfold aCode; exact Local.fail
  | .goto _, tm => by unfold aCode; exact Local.fail
  | .refuse _, tm => by unfold aCode; exact Local.fail
theorem local_aResList (tm : Array Value) : ∀ l, Local (aResList P tm l)
  | [] => Local.ret _
  | .tmp t :: r => Local.bind (local_aResList tm r) fun _ => Local.ret _
  | .cell a t :: r => Local.bind (local_aLoad _ _) fun _ => Local.bind (local_aResList tm r) fun _ => Local.ret _
theorem local_aBody {call : FuncId → Array Value → AX Value} (hc : ∀ f ags, Local (call f ags)) (fn : Func) (args : Array Value) : Local (aBody P call fn args) := by
  unfold aBody
  split
  · refine Local.bind (local_aCode hc _ _) fun x => ?_
    split
    · exact Local.fail
    · exact Local.bind (local_aResList _ _) fun _ => Local.ret _
  · exact Local.fail
theorem local_aCall {ext : FuncId → Option (Array Value → AX Value)} (he : ∀ f g ags, ext f = some g → Local (g ags)) : ∀ n f args, Local (aCall P ext n f args)
  | 0, f, args => Local.fail
  | n + 1, f, args => by
    unfold aCall
    split
    · rename_i g hg; exact he f g args hg
    · split
      · exact local_aBody (local_aCall he n) _ _
      · exact Local.fail
/-! What an operation gives hangs on the slots that it looks at. -/
def Agree (ops : Array Oper) (o : Oper) (tm tm2 : Array Value) : Prop := ∀ t ∈ o.looksAt ops, tm[t]? = tm2[t]?
theorem eval_agree {ops : Array Oper} {o : Oper} {tm tm2 : Array Value} (h : Agree ops o tm tm2) {x : Operand} (hx : x ∈ o.op.operands) : evalA tm x = evalA tm2 x := by
  cases x with
  | tmp t =>
    have := h t (List.mem_append_left _ (List.mem_filterMap.2 ⟨.tmp t, by simpa using hx, rfl⟩))
    simp [evalA, Array.getD_eq_getD_getElem?, this]
  | _ => rfl
theorem wanted_agree {ops : Array Oper} {o : Oper} {tm tm2 : Array Value} (h : Agree ops o tm tm2) : Region.wanted o (yielded ops tm) = Region.wanted o (yielded ops tm2) := by
  unfold Region.wanted
  cases hg : o.guard with
  | none => rfl
  | some gw =>
    obtain ⟨g, want⟩ := gw
    have hy : yielded ops tm g = yielded ops tm2 g := by
      unfold yielded
      cases ht : (ops[g]?).bind (·.dst) with
      | none => rfl
      | some t =>
        have := h t (List.mem_append_right _ (by simp [hg, ht]))
        simp only [Option.bind_some, this]
    simp only [hy]
theorem map_agree {ops : Array Oper} {o : Oper} {tm tm2 : Array Value} (h : Agree ops o tm tm2) {xs : Array Operand} (hx : ∀ x ∈ xs, x ∈ o.op.operands) : xs.map (evalA tm) = xs.map (evalA tm2) := Array.map_congr_left fun x hm => eval_agree h (hx x hm)
theorem parts_agree {ops : Array Oper} {o : Oper} {tm tm2 : Array Value} (h : Agree ops o tm tm2) {ps : Array (Nat × Operand)} (hx : ∀ p ∈ ps, p.2 ∈ o.op.operands) : (ps.map fun (i, x) => (i, evalA tm x)) = (ps.map fun (i, x) => (i, evalA tm2 x)) :=
  Array.map_congr_left fun p hm => by
    obtain ⟨i, x⟩ := p
    simp only [eval_agree h (hx (i, x) hm)]
theorem aOp_agree {call : FuncId → Array Value → AX Value} {ops : Array Oper} {o : Oper} {tm tm2 : Array Value} (h : Agree ops o tm tm2) : aOp P call o tm = aOp P call o tm2 := by
  have ev := fun x hx => eval_agree (x := x) h hx
  have mp := fun xs hx => map_agree (xs := xs) h hx
  have pt := fun ps hx => parts_agree (ps := ps) h hx
  obtain ⟨dst, op, type, pos, after, guard⟩ := o
  unfold aOp
  dsimp only at ev mp pt ⊢
  congr 1
  cases op <;> simp only [Op.operands] at ev mp pt <;> dsimp only
  case build t ps => rw [pt ps fun p hp => by simp; exact ⟨p.1, by simpa using hp⟩]
  case buildSlice t n ps => rw [pt ps fun p hp => by simp; exact ⟨p.1, by simpa using hp⟩]
  case makeFunc fn first captured => rw [mp first fun x hx => by simp [hx], mp captured fun x hx => by simp [hx]]
  case makeMap t r =>
    cases mapT P t with
    | none => rfl
    | some p =>
      cases r with
      | none => rfl
      | some x => dsimp only; rw [ev x (by simp)]
  case slice t x lo hi mx =>
    rw [ev x (by simp)]
    have e1 : lo.map (evalA tm) = lo.map (evalA tm2) := by
      cases lo with
      | none => rfl
      | some l => simp only [Option.map_some]; rw [ev l (by simp)]
    have e2 : hi.map (evalA tm) = hi.map (evalA tm2) := by
      cases hi with
      | none => rfl
      | some l => simp only [Option.map_some]; rw [ev l (by simp)]
    have e3 : mx.map (evalA tm) = mx.map (evalA tm2) := by
      cases mx with
      | none => rfl
      | some l => simp only [Option.map_some]; rw [ev l (by simp)]
    rw [e1, e2, e3]
  case call c =>
    have e1 := mp c.args fun x hx => by simp [Call.operands, hx]
    rw [e1]
    cases hc : c.callee with
    | value f =>
      dsimp only
      rw [ev f (by simp [Call.operands, hc])]
    | _ => rfl
  case pick c x y => rw [ev c (by simp), ev x (by simp), ev y (by simp)]
  case move x => rw [ev x (by simp)]
  case assign x => rw [ev x (by simp)]
  case box e x => rw [ev x (by simp)]
  case load e x => rw [ev x (by simp)]
  case store e x y => rw [ev x (by simp), ev y (by simp)]
  case nilCheck x => rw [ev x (by simp)]
  case binOp op t x y t2 => rw [ev x (by simp), ev y (by simp)]
  case unOp op t x => rw [ev x (by simp)]
  case convert t1 t2 x => rw [ev x (by simp)]
  case makeSlice t x y => rw [ev x (by simp), ev y (by simp)]
  case fieldAddr t x i => rw [ev x (by simp)]
  case field t x i => rw [ev x (by simp)]
  case indexAddr t x i => rw [ev x (by simp), ev i (by simp)]
  case index t x i => rw [ev x (by simp), ev i (by simp)]
  case lookup t x y ok => rw [ev x (by simp), ev y (by simp)]
  case mapUpdate t x y z => rw [ev x (by simp), ev y (by simp), ev z (by simp)]
  case extract x i => rw [ev x (by simp)]
theorem aVal_agree {call : FuncId → Array Value → AX Value} {ops : Array Oper} {o : Oper} {tm tm2 : Array Value} (h : Agree ops o tm tm2) : aVal P call ops o tm = aVal P call ops o tm2 := by
  unfold aVal
  rw [wanted_agree h, aOp_agree h]
end
end Go.Proofs.YtlkceignfhnpoaaGreatDoor
namespace Go.Proofs.YtlkceignfhnpoaaGreatDoor
open Go

/-- What comes of a call, in the model. -/
def CallPost (P : Program) (φ : Ren) (H : AH) (w : World) (s : Nat) (q : Out Value) (e : Ending) (w' : World) : Prop :=
  ∃ φ' v', e = .returned v' ∧ Nx φ φ' s q.s ∧ VR φ' q.val v' ∧ WR P φ' q.H w' ∧ Trn φ H w φ' q.H w'
def CallOK (P : Program) (call : FuncId → Array Value → AX Value) : Prop :=
  ∀ f args H s q, call f args H s = some q → ∀ φ w args', WR P φ H w → VA φ args args' → Free φ s q.s → Calls P f args' w (CallPost P φ H w s q)
section
variable {P : Program} {call : FuncId → Array Value → AX Value} {φ φ' : Ren} {H : AH} {w w' : World}
theorem VA.getOpt {tm tm' : Array Value} (h : VA φ tm tm') (t : Nat) : (∃ v v', tm[t]? = some v ∧ tm'[t]? = some v' ∧ VR φ v v') ∨ (tm[t]? = none ∧ tm'[t]? = none) := by
  cases h1 : tm[t]? with
  | some v =>
    obtain ⟨v', e, r⟩ := h.get h1
    exact .inl ⟨v, v', rfl, e, r⟩
  | none =>
    right
    refine ⟨rfl, ?_⟩
    rw [Array.getElem?_eq_none_iff] at h1 ⊢
    have := h.len; omega
theorem yielded_rel {ops : Array Oper} {tm tm' : Array Value} (h : VA φ tm tm') (j : Nat) : yielded ops tm' j = yielded ops tm j := by
  unfold yielded
  cases hd : (ops[j]?).bind (·.dst) with
  | none => rfl
  | some t =>
    simp only [Option.bind_some]
    rcases h.getOpt t with ⟨v, v', e1, e2, r⟩ | ⟨e1, e2⟩
    · rw [e1, e2]
      cases r <;> rfl
    · rw [e1, e2]
theorem wanted_rel {ops : Array Oper} {o : Oper} {tm tm' : Array Value} (h : VA φ tm tm') : Region.wanted o (yielded ops tm') = Region.wanted o (yielded ops tm) := by
  unfold Region.wanted
  cases o.guard with
  | none => rfl
  | some g => simp only [yielded_rel h]
theorem putA_put (tm : Array Value) (d : Option Tmp) (v : Value) : ({ tmps := putA tm d v, defers := [] } : Act) = Act.put { tmps := tm, defers := [] } d v := by cases d <;> rfl
theorem VA.put {tm tm' : Array Value} (h : VA φ tm tm') (d : Option Tmp) {v v' : Value} (hv : VR φ v v') : VA φ (putA tm d v) (putA tm' d v') := by
  cases d with
  | none => exact h
  | some t => exact h.set t hv
theorem callable_some {f : FuncId} (h : callable P f = true) : ∃ fn, P.funcs[f]? = some fn ∧ fn.body.isNone = false ∧ (fn.name == "runtime.NumGoroutine") = false := by
  unfold callable at h
  cases hf : P.funcs[f]? with
  | none => rw [hf] at h; cases h
  | some fn =>
    rw [hf] at h
    simp only [Bool.and_eq_true, Bool.not_eq_true'] at h
    refine ⟨fn, rfl, ?_, h.2⟩
    cases hb : fn.body with
    | none => rw [hb] at h; simp at h
    | some c => rfl
/-- An operation, in the model's calculus. -/
theorem val_sound (hcall : CallOK P call) {ops : Array Oper} {o : Oper} {tm tmC : Array Value} {s : Nat} {q : Out Value} (h : aVal P call ops o tm H s = some q) (hw : WR P φ H w) (ht : VA φ tm tmC) (hf : Free φ s q.s)
    {K : Act → World → Prop} {Q : Exit → Act → World → Prop} (hK : ∀ φ' v' w', Nx φ φ' s q.s → VR φ' q.val v' → WR P φ' q.H w' → Trn φ H w φ' q.H w' → K { tmps := putA tmC o.dst v', defers := [] } w') :
    if Region.wanted o (yielded ops tmC) = true then o.wp P { tmps := tmC, defers := [] } w K Q ∨ (o.asks P { tmps := tmC, defers := [] } w ∧ LetsOut Q) else K (Act.put { tmps := tmC, defers := [] } o.dst undef) w := by
  rw [wanted_rel ht]
  unfold aVal at h
  by_cases hwd : Region.wanted o (yielded ops tm) = true
  case neg =>
    rw [if_neg hwd] at h ⊢
    have := ret_some h
    subst this
    rw [← putA_put]
    exact hK φ undef w (Nx.refl _ _) VR.undef hw (Trn.refl _ _ _)
  rw [if_pos hwd] at h ⊢
  left
  by_cases hnc : notCall o
  · obtain ⟨φ', v', w', h1⟩ := op_ok (a := { tmps := tmC, defers := [] }) h hnc hw ht hf
    unfold Oper.wp
    rcases h1.run with hr | ⟨hr, rfl⟩
    · rw [hr, Oper.upon_value, ← putA_put]
      exact hK φ' v' w' h1.nx h1.vr h1.wr h1.tr
    · rw [hr, Oper.upon_skip, ← putA_put]
      exact hK φ' undef w' h1.nx h1.vr h1.wr h1.tr
  · obtain ⟨c, f, hop, hcal⟩ : ∃ c f, o.op = .call c ∧ c.callee = .value f := by
      unfold notCall at hnc
      simp only [Classical.not_forall] at hnc
      obtain ⟨c, f, h1, h2⟩ := hnc
      exact ⟨c, f, h1, Classical.not_not.1 h2⟩
    unfold aOp at h
    by_cases hok : o.op.operands.toList.all Operand.okC = true
    case neg => rw [if_neg hok] at h; cases h
    rw [if_pos hok] at h
    rw [List.all_eq_true, hop] at hok
    rw [hop] at h
    dsimp only at h
    rw [hcal] at h
    dsimp only at h
    have hfv : VR φ (evalA tm f) (Act.eval { tmps := tmC, defers := [] } f) := val_ok (a := { tmps := tmC, defers := [] }) ht (hok f (by simp [Op.operands, Call.operands, hcal]))
    have hargs : VA φ (c.args.map (evalA tm)) (c.args.map (Act.eval { tmps := tmC, defers := [] })) := vals_ok (a := { tmps := tmC, defers := [] }) ht (fun x hx => hok x (by simp [Op.operands, Call.operands, hcal]; right; simpa using hx))
    obtain ⟨vf, hvf⟩ : ∃ v, evalA tm f = v := ⟨_, rfl⟩
    rw [hvf] at h hfv
    cases vf
    case func fn first captured =>
      cases fn
      case func g =>
        dsimp only at h
        by_cases hcl : callable P g = true
        case neg => rw [if_neg hcl] at h; cases h
        rw [if_pos hcl] at h
        obtain ⟨fn, hfn, hb, hn⟩ := callable_some hcl
        generalize hfe : Act.eval { tmps := tmC, defers := [] } f = fe at hfv
        cases hfv
        rename_i gs ds h1 h2 h3 h4
        have hall : VA φ (first ++ c.args.map (evalA tm) ++ captured) (gs ++ c.args.map (Act.eval { tmps := tmC, defers := [] }) ++ ds) := (VA.append (VA.append ⟨h1, h2⟩ hargs) ⟨h3, h4⟩)
        have hrun : (execOp (Act.eval { tmps := tmC, defers := [] }) o).run P w = .ok (.enter g (gs ++ c.args.map (Act.eval { tmps := tmC, defers := [] }) ++ ds)) w := by
          unfold execOp
          rw [hop]
          dsimp only
          unfold resolve
          rw [hcal]
          dsimp only
          rw [hfe]
          rw [run_then (a := ({ target := .fn (.func g) ds, args := gs ++ c.args.map (Act.eval { tmps := tmC, defers := [] }) } : Deferred)) (w' := w) rfl]
          unfold invoke
          dsimp only
          unfold callFunc
          rw [run_then (a := P) (w' := w) rfl]
          rw [hfn]
          dsimp only
          rw [hn, hb]
          rfl
        unfold Oper.wp
        rw [hrun, Oper.upon_enter]
        refine (hcall g _ H s q h φ w _ hw hall hf).mono ?_
        rintro e w' ⟨φ', v', rfl, k1, k2, k3, k4⟩
        dsimp only
        rw [← putA_put]
        exact hK φ' v' w' k1 k2 k3 k4
      all_goals cases h
    all_goals cases h
/-! A region in its own order. -/
theorem aSeq_cons {ops : Array Oper} {o : Oper} {r : List Oper} {tm : Array Value} {s : Nat} {q : Out (Array Value × List Foot)} (h : aSeq P call ops (o :: r) tm H s = some q) :
    ∃ x y, aVal P call ops o tm H s = some x ∧ aSeq P call ops r (putA tm o.dst x.val) x.H x.s = some y ∧ q.val = (y.val.1, ⟨s, x.s, x.D, x.W⟩ :: y.val.2) ∧ q.H = y.H ∧ q.s = y.s := by
  unfold aSeq at h
  cases h1 : aStep P call ops o tm H s with
  | none => rw [h1] at h; cases h
  | some x =>
    rw [h1] at h
    dsimp only at h
    unfold aStep at h1
    obtain ⟨x1, x2, e1, e2, rfl⟩ := AX.bind_some h1
    have := ret_some e2
    subst this
    dsimp only at h
    cases h2 : aSeq P call ops r (putA tm o.dst x1.val) x1.H x1.s with
    | none => rw [h2] at h; cases h
    | some y =>
      rw [h2] at h
      simp only [Option.some.injEq, List.append_nil] at h
      subst h
      exact ⟨x1, y, e1, h2, rfl, rfl, rfl⟩
theorem seq_up (hl : ∀ f ags, Local (call f ags)) {ops : Array Oper} {l : List Oper} {tm : Array Value} {s : Nat} {q : Out (Array Value × List Foot)} (h : aSeq P call ops l tm H s = some q) : s ≤ q.s := (local_aSeq hl ops l tm H s q h).up
theorem ops_sound (hcall : CallOK P call) (hl : ∀ f ags, Local (call f ags)) {ops : Array Oper} {Q : Exit → Act → World → Prop} : ∀ (l : List Oper) (i : Nat) (tm tmC : Array Value) (H : AH) (s : Nat) (q : Out (Array Value × List Foot)) (φ : Ren) (w : World), ops.toList.drop i = l → aSeq P call ops l tm H s = some q → WR P φ H w → VA φ tm tmC → Free φ s q.s →
    (∀ φ' tmC' w', Nx φ φ' s q.s → VA φ' q.val.1 tmC' → WR P φ' q.H w' → Trn φ H w φ' q.H w' → Q .normal { tmps := tmC', defers := [] } w') → wpOps P ops Q (List.range' i l.length) { tmps := tmC, defers := [] } w
  | [], i, tm, tmC, H, s, q, φ, w, _, h, hw, ht, hf, hQ => by
    have := ret_some h
    subst this
    exact hQ φ tmC w (Nx.refl _ _) ht hw (Trn.refl _ _ _)
  | o :: r, i, tm, tmC, H, s, q, φ, w, hd, h, hw, ht, hf, hQ => by
    obtain ⟨x, y, h1, h2, e1, e2, e3⟩ := aSeq_cons h
    have hio : ops[i]? = some o := by
      have : (ops.toList.drop i)[0]? = some o := by rw [hd]; rfl
      rw [List.getElem?_drop] at this
      simpa using this
    have hu1 : s ≤ x.s := (local_aVal hl ops o tm H s x h1).up
    have hu2 := seq_up hl h2
    rw [List.length_cons, List.range'_succ, wpOps_cons]
    unfold wpOp
    rw [hio]
    dsimp only
    refine val_sound hcall h1 hw ht (hf.sub (Nat.le_refl _) (by omega)) (fun φ' v' w' k1 k2 k3 k4 => ?_)
    refine ops_sound hcall hl r (i + 1) (putA tm o.dst x.val) _ x.H x.s y φ' w' ?_ h2 k3 ((ht.mono k1.ext).put o.dst k2) ?_ (fun φ2 tm2 w2 m1 m2 m3 m4 => ?_)
    · rw [← List.drop_drop, hd]; rfl
    · rw [e3] at hf
      exact k1.free hf hu1
    · refine hQ φ2 tm2 w2 ?_ ?_ ?_ ?_
      · rw [e3]; exact k1.trans m1 hu1 hu2
      · rw [e1]; exact m2
      · rw [e2]; exact m3
      · rw [e2]; exact k4.trans m4
end
end Go.Proofs.YtlkceignfhnpoaaGreatDoor
namespace Go.Proofs.YtlkceignfhnpoaaGreatDoor
open Go

/-- An operation of a region, the state ahead of it, what it gave. -/
structure Rec where
  o : Oper
  tm : Array Value
  H : AH
  c : Nat
  q : Out Value
def Rec.foot (r : Rec) : Foot := ⟨r.c, r.q.s, r.q.D, r.q.W⟩
def Rec.wr (r : Rec) (b : Nat) : Prop := b ∈ r.q.W ∨ (r.c ≤ b ∧ b < r.q.s)
def Rec.dom (r : Rec) (b : Nat) : Prop := b ∈ r.q.D ∨ (r.c ≤ b ∧ b < r.q.s)
instance (r : Rec) (b : Nat) : Decidable (r.wr b) := inferInstanceAs (Decidable (_ ∨ _))
def Rec.pat (r : Rec) (H : AH) : AH := fun b => if r.wr b then r.q.H b else H b
section
variable {P : Program} {call : FuncId → Array Value → AX Value}
def Chain (P : Program) (call : FuncId → Array Value → AX Value) (ops : Array Oper) : List Rec → Array Value → AH → Nat → Prop
  | [], _, _, _ => True
  | r :: l, tm, H, s => r.tm = tm ∧ r.H = H ∧ r.c = s ∧ aVal P call ops r.o tm H s = some r.q ∧ Chain P call ops l (putA tm r.o.dst r.q.val) r.q.H r.q.s
def endT : List Rec → Array Value → Array Value
  | [], tm => tm
  | r :: l, tm => endT l (putA tm r.o.dst r.q.val)
def endH : List Rec → AH → AH
  | [], H => H
  | r :: l, _ => endH l r.q.H
def endS : List Rec → Nat → Nat
  | [], s => s
  | r :: l, _ => endS l r.q.s
theorem aSeq_chain {ops : Array Oper} : ∀ (l : List Oper) (tm : Array Value) (H : AH) (s : Nat) (q : Out (Array Value × List Foot)), aSeq P call ops l tm H s = some q →
    ∃ recs : List Rec, recs.map (·.o) = l ∧ Chain P call ops recs tm H s ∧ q.val.1 = endT recs tm ∧ q.H = endH recs H ∧ q.s = endS recs s ∧ q.val.2 = recs.map Rec.foot
  | [], tm, H, s, q, h => by
    have := ret_some h
    subst this
    exact ⟨[], rfl, trivial, rfl, rfl, rfl, rfl⟩
  | o :: r, tm, H, s, q, h => by
    obtain ⟨x, y, h1, h2, e1, e2, e3⟩ := aSeq_cons h
    obtain ⟨recs, a1, a2, a3, a4, a5, a6⟩ := aSeq_chain r _ _ _ y h2
    refine ⟨⟨o, tm, H, s, x⟩ :: recs, by simp [a1], ⟨rfl, rfl, rfl, h1, a2⟩, by rw [e1]; exact a3, by rw [e2]; exact a4, by rw [e3]; exact a5, by rw [e1]; simp [a6, Rec.foot]⟩
/-- The state where some operations have come up, told by the text's run. -/
def stH (E : Nat → Bool) : List Rec → Nat → AH → AH
  | [], _, H => H
  | r :: l, i, H => stH E l (i + 1) (if E i then r.pat H else H)
def stT (E : Nat → Bool) : List Rec → Nat → Array Value → Array Value
  | [], _, tm => tm
  | r :: l, i, tm => stT E l (i + 1) (if E i then putA tm r.o.dst r.q.val else tm)
theorem pat_wr {r : Rec} {H : AH} {b : Nat} (h : r.wr b) : r.pat H b = r.q.H b := if_pos h
theorem pat_no {r : Rec} {H : AH} {b : Nat} (h : ¬ r.wr b) : r.pat H b = H b := if_neg h
theorem stH_same {E1 E2 : Nat → Bool} {b : Nat} : ∀ (l : List Rec) (i : Nat) (H H' : AH), (∀ k r, l[k]? = some r → r.wr b → E1 (i + k) = E2 (i + k)) → H b = H' b → stH E1 l i H b = stH E2 l i H' b
  | [], i, H, H', _, h => h
  | r :: l, i, H, H', hE, h => by
    refine stH_same l (i + 1) _ _ (fun k r' hr hw => by have := hE (k + 1) r' (by simpa using hr) hw; rwa [show i + (k + 1) = i + 1 + k from by omega] at this) ?_
    by_cases hw : r.wr b
    · have := hE 0 r rfl hw
      simp only [Nat.add_zero] at this
      rw [this]
      cases E2 i
      · simpa using h
      · simp only [if_true]; rw [pat_wr hw, pat_wr hw]
    · have e1 : ∀ x : Bool, (if x = true then r.pat H else H) b = H b := fun x => by cases x; rfl; exact pat_no hw
      have e2 : ∀ x : Bool, (if x = true then r.pat H' else H') b = H' b := fun x => by cases x; rfl; exact pat_no hw
      rw [e1, e2]; exact h
theorem stH_none {E : Nat → Bool} {b : Nat} : ∀ (l : List Rec) (i : Nat) (H : AH), (∀ k r, l[k]? = some r → E (i + k) = true → ¬ r.wr b) → stH E l i H b = H b
  | [], i, H, _ => rfl
  | r :: l, i, H, hE => by
    unfold stH
    rw [stH_none l (i + 1) _ (fun k r' hr he => hE (k + 1) r' (by simpa using hr) (by rwa [show i + (k + 1) = i + 1 + k from by omega]))]
    cases he : E i with
    | false => simp
    | true => simp only [if_true]; exact pat_no (hE 0 r rfl (by simpa using he))
def ins (E : Nat → Bool) (x : Nat) : Nat → Bool := fun j => E j || j == x
theorem stH_ins {E : Nat → Bool} {b : Nat} : ∀ (l : List Rec) (i : Nat) (H : AH) (k : Nat) (r : Rec), l[k]? = some r → r.wr b → (∀ j r', l[j]? = some r' → k < j → E (i + j) = true → ¬ r'.wr b) → stH (ins E (i + k)) l i H b = r.q.H b
  | [], i, H, k, r, h, _, _ => by simp at h
  | r0 :: l, i, H, 0, r, h, hw, hl => by
    simp only [List.getElem?_cons_zero, Option.some.injEq] at h
    subst h
    unfold stH
    have : ins E (i + 0) i = true := by simp [ins]
    rw [this]
    simp only [if_true]
    rw [stH_none l (i + 1) _ (fun k r' hr he => ?_), pat_wr hw]
    refine hl (k + 1) r' (by simpa using hr) (by omega) ?_
    simp only [ins, Bool.or_eq_true, beq_iff_eq] at he
    rw [show i + (k + 1) = i + 1 + k from by omega]
    rcases he with he | he
    · exact he
    · omega
  | r0 :: l, i, H, k + 1, r, h, hw, hl => by
    unfold stH
    rw [show i + (k + 1) = i + 1 + k from by omega]
    exact stH_ins l (i + 1) _ k r (by simpa using h) hw (fun j r' hj hkj he => hl (j + 1) r' (by simpa using hj) (by omega) (by rwa [show i + (j + 1) = i + 1 + j from by omega]))
theorem putA_get (tm : Array Value) (d : Option Tmp) (v : Value) (t : Nat) : (putA tm d v)[t]? = if d = some t then tm[t]?.map (fun _ => v) else tm[t]? := by
  cases d with
  | none => simp [putA]
  | some d =>
    unfold putA
    simp only [Option.some.injEq]
    rw [Array.getElem?_setIfInBounds]
    by_cases h : d = t
    · subst h
      simp only [if_true]
      by_cases hlt : d < tm.size
      · simp [hlt]
      · simp [hlt]
    · simp [h]
theorem stT_same {E1 E2 : Nat → Bool} {t : Nat} : ∀ (l : List Rec) (i : Nat) (tm tm' : Array Value), (∀ (k : Nat) (r : Rec), l[k]? = some r → r.o.dst = some t → E1 (i + k) = E2 (i + k)) → tm[t]? = tm'[t]? → (stT E1 l i tm)[t]? = (stT E2 l i tm')[t]?
  | [], i, tm, tm', _, h => h
  | r :: l, i, tm, tm', hE, h => by
    refine stT_same l (i + 1) _ _ (fun k r' hr hw => by have := hE (k + 1) r' (by simpa using hr) hw; rwa [show i + (k + 1) = i + 1 + k from by omega] at this) ?_
    by_cases hw : r.o.dst = some t
    · have := hE 0 r rfl hw
      simp only [Nat.add_zero] at this
      rw [this]
      cases E2 i
      · simpa using h
      · simp only [if_true]; rw [putA_get, putA_get, if_pos hw, if_pos hw, h]
    · have e1 : ∀ x : Bool, (if x = true then putA tm r.o.dst r.q.val else tm)[t]? = tm[t]? := fun x => by
        cases x
        · rfl
        · simp only [if_true]; rw [putA_get, if_neg hw]
      have e2 : ∀ x : Bool, (if x = true then putA tm' r.o.dst r.q.val else tm')[t]? = tm'[t]? := fun x => by
        cases x
        · rfl
        · simp only [if_true]; rw [putA_get, if_neg hw]
      rw [e1, e2]; exact h
theorem stT_none {E : Nat → Bool} {t : Nat} : ∀ (l : List Rec) (i : Nat) (tm : Array Value), (∀ (k : Nat) (r : Rec), l[k]? = some r → E (i + k) = true → r.o.dst ≠ some t) → (stT E l i tm)[t]? = tm[t]?
  | [], i, tm, _ => rfl
  | r :: l, i, tm, hE => by
    unfold stT
    rw [stT_none l (i + 1) _ (fun k r' hr he => hE (k + 1) r' (by simpa using hr) (by rwa [show i + (k + 1) = i + 1 + k from by omega]))]
    cases he : E i with
    | false => simp
    | true => simp only [if_true]; rw [putA_get, if_neg (hE 0 r rfl (by simpa using he))]
theorem stT_size {E : Nat → Bool} : ∀ (l : List Rec) (i : Nat) (tm : Array Value), (stT E l i tm).size = tm.size
  | [], i, tm => rfl
  | r :: l, i, tm => by
    unfold stT
    rw [stT_size l]
    cases E i
    · rfl
    · simp only [if_true]; cases r.o.dst <;> simp [putA]
theorem stT_ins {E : Nat → Bool} {t : Nat} : ∀ (l : List Rec) (i : Nat) (tm : Array Value) (k : Nat) (r : Rec), l[k]? = some r → r.o.dst = some t → (∀ (j : Nat) (r' : Rec), l[j]? = some r' → k < j → E (i + j) = true → r'.o.dst ≠ some t) → (stT (ins E (i + k)) l i tm)[t]? = tm[t]?.map (fun _ => r.q.val)
  | [], i, tm, k, r, h, _, _ => by simp at h
  | r0 :: l, i, tm, 0, r, h, hw, hl => by
    simp only [List.getElem?_cons_zero, Option.some.injEq] at h
    subst h
    unfold stT
    have : ins E (i + 0) i = true := by simp [ins]
    rw [this]
    simp only [if_true]
    rw [stT_none l (i + 1) _ (fun k r' hr he => ?_), putA_get, if_pos hw]
    refine hl (k + 1) r' (by simpa using hr) (by omega) ?_
    simp only [ins, Bool.or_eq_true, beq_iff_eq] at he
    rw [show i + (k + 1) = i + 1 + k from by omega]
    rcases he with he | he
    · exact he
    · omega
  | r0 :: l, i, tm, k + 1, r, h, hw, hl => by
    unfold stT
    rw [show i + (k + 1) = i + 1 + k from by omega]
    rw [stT_ins l (i + 1) _ k r (by simpa using h) hw (fun j r' hj hkj he => hl (j + 1) r' (by simpa using hj) (by omega) (by rwa [show i + (j + 1) = i + 1 + j from by omega]))]
    cases ins E (i + 1 + k) i
    · rfl
    · simp only [if_true]; rw [putA_get]
      split
      · cases tm[t]? <;> rfl
      · rfl
/-- The text's own run. -/
theorem pat_own (hl : ∀ f ags, Local (call f ags)) {ops : Array Oper} {r : Rec} (h : aVal P call ops r.o r.tm r.H r.c = some r.q) : r.pat r.H = r.q.H := by
  funext b
  by_cases hw : r.wr b
  · exact pat_wr hw
  · rw [pat_no hw]
    exact ((local_aVal hl ops r.o r.tm r.H r.c r.q h).keep b hw).symm
theorem chain_at (hl : ∀ f ags, Local (call f ags)) {ops : Array Oper} : ∀ (l : List Rec) (i : Nat) (tm : Array Value) (H : AH) (s : Nat), Chain P call ops l tm H s → ∀ (k : Nat) (r : Rec), l[k]? = some r →
    aVal P call ops r.o r.tm r.H r.c = some r.q ∧ stH (fun j => decide (j < i + k)) l i H = r.H ∧ stT (fun j => decide (j < i + k)) l i tm = r.tm
  | [], i, tm, H, s, _, k, r, h => by simp at h
  | r0 :: l, i, tm, H, s, hc, 0, r, h => by
    simp only [List.getElem?_cons_zero, Option.some.injEq] at h
    subst h
    obtain ⟨h1, h2, h3, h4, h5⟩ := hc
    refine ⟨by rw [h1, h2, h3]; exact h4, ?_, ?_⟩
    · funext b
      rw [stH_none _ _ _ (fun k r hr he => absurd (of_decide_eq_true he) (by omega)), h2]
    · apply Array.ext_getElem?
      intro t
      rw [stT_none _ _ _ (fun k r hr he => absurd (of_decide_eq_true he) (by omega)), h1]
  | r0 :: l, i, tm, H, s, hc, k + 1, r, h => by
    obtain ⟨h1, h2, h3, h4, h5⟩ := hc
    obtain ⟨g1, g2, g3⟩ := chain_at hl l (i + 1) _ _ _ h5 k r (by simpa using h)
    refine ⟨g1, ?_, ?_⟩
    · unfold stH
      have : decide (i < i + (k + 1)) = true := by simp
      rw [this]
      simp only [if_true]
      rw [show i + (k + 1) = i + 1 + k from by omega]
      have e : r0.pat H = r0.q.H := by
        have := pat_own (P := P) hl (ops := ops) (r := r0) (by rw [h1, h2, h3]; exact h4)
        rwa [h2] at this
      rw [e]; exact g2
    · unfold stT
      have : decide (i < i + (k + 1)) = true := by simp
      rw [this]
      simp only [if_true]
      rw [show i + (k + 1) = i + 1 + k from by omega]
      exact g3
theorem chain_end (hl : ∀ f ags, Local (call f ags)) {ops : Array Oper} : ∀ (l : List Rec) (i : Nat) (tm : Array Value) (H : AH) (s : Nat), Chain P call ops l tm H s → stH (fun _ => true) l i H = endH l H ∧ stT (fun _ => true) l i tm = endT l tm ∧ s ≤ endS l s ∧ (∀ (k : Nat) (r : Rec), l[k]? = some r → s ≤ r.c ∧ r.c ≤ r.q.s ∧ r.q.s ≤ endS l s) ∧ (∀ (j k : Nat) (r r' : Rec), l[j]? = some r → l[k]? = some r' → j < k → r.q.s ≤ r'.c)
  | [], i, tm, H, s, _ => ⟨rfl, rfl, Nat.le_refl _, fun k r h => by simp at h, fun j k r r' h => by simp at h⟩
  | r0 :: l, i, tm, H, s, hc => by
    obtain ⟨h1, h2, h3, h4, h5⟩ := hc
    obtain ⟨g1, g2, g3, g4, g5⟩ := chain_end hl l (i + 1) _ _ _ h5
    have hu : s ≤ r0.q.s := (local_aVal hl ops r0.o tm H s r0.q h4).up
    refine ⟨?_, ?_, Nat.le_trans hu g3, fun k r h => ?_, fun j k r r' hj hk hjk => ?_⟩
    · unfold stH
      simp only [if_true]
      have e : r0.pat H = r0.q.H := by
        have := pat_own (P := P) hl (ops := ops) (r := r0) (by rw [h1, h2, h3]; exact h4)
        rwa [h2] at this
      rw [e]; exact g1
    · unfold stT
      simp only [if_true]
      exact g2
    · cases k with
      | zero =>
        simp only [List.getElem?_cons_zero, Option.some.injEq] at h
        subst h
        exact ⟨by omega, by omega, g3⟩
      | succ k =>
        obtain ⟨a, b, c⟩ := g4 k r (by simpa using h)
        exact ⟨by omega, b, c⟩
    · cases k with
      | zero => omega
      | succ k =>
        cases j with
        | zero =>
          simp only [List.getElem?_cons_zero, Option.some.injEq] at hj
          subst hj
          exact (g4 k r' (by simpa using hk)).1
        | succ j => exact g5 j k r r' (by simpa using hj) (by simpa using hk) (by omega)
/-! What is ordered. -/
theorem fold_bits {acc : Array Nat} : ∀ (l : List Edge) (s : Nat) (i : Nat), (l.foldl (fun s e => if Region.binds .any e then s ||| 2 ^ e.on ||| acc.getD e.on 0 else s) s).testBit i = true → s.testBit i = true ∨ ∃ e ∈ l, Region.binds .any e = true ∧ (i = e.on ∨ (acc.getD e.on 0).testBit i = true)
  | [], s, i, h => .inl h
  | e :: l, s, i, h => by
    rw [List.foldl_cons] at h
    rcases fold_bits l _ i h with h1 | ⟨e', h1, h2, h3⟩
    · by_cases hb : Region.binds .any e = true
      · rw [if_pos hb, Nat.testBit_or, Nat.testBit_or, Nat.testBit_two_pow] at h1
        simp only [Bool.or_eq_true, decide_eq_true_eq] at h1
        rcases h1 with (h1 | h1) | h1
        · exact .inl h1
        · exact .inr ⟨e, by simp, hb, .inl h1.symm⟩
        · exact .inr ⟨e, by simp, hb, .inr h1⟩
      · rw [if_neg hb] at h1
        exact .inl h1
    · exact .inr ⟨e', by simp [h1], h2, h3⟩
def bitsFrom (l : List Oper) (acc : Array Nat) : Array Nat := l.foldl (init := acc) fun acc o => acc.push (o.after.foldl (fun s e => if Region.binds .any e then s ||| 2 ^ e.on ||| acc.getD e.on 0 else s) 0)
theorem before_eq (ops : Array Oper) : Region.before ops = bitsFrom ops.toList #[] := by unfold Region.before bitsFrom; rw [← Array.foldl_toList]
theorem bits_keep : ∀ (l : List Oper) (acc : Array Nat) (j : Nat), j < acc.size → (bitsFrom l acc).getD j 0 = acc.getD j 0
  | [], acc, j, _ => rfl
  | o :: l, acc, j, h => by
    unfold bitsFrom
    rw [List.foldl_cons]
    have := bits_keep l (acc.push (o.after.foldl (fun s e => if Region.binds .any e then s ||| 2 ^ e.on ||| acc.getD e.on 0 else s) 0)) j (by simp; omega)
    unfold bitsFrom at this
    rw [this]
    simp [Array.getD_eq_getD_getElem?, Array.getElem?_push, show ¬ j = acc.size from by omega]
/-- A bit tells an edge, or an edge and a bit there. -/
theorem bits_edge : ∀ (l : List Oper) (acc : Array Nat) (k : Nat) (o : Oper), l[k]? = some o → ∀ i, ((bitsFrom l acc).getD (acc.size + k) 0).testBit i = true → ∃ e ∈ o.after.toList, Region.binds .any e = true ∧ (i = e.on ∨ (e.on < acc.size + k ∧ ((bitsFrom l acc).getD e.on 0).testBit i = true))
  | [], acc, k, o, h, i, _ => by simp at h
  | o0 :: l, acc, 0, o, h, i, hb => by
    simp only [List.getElem?_cons_zero, Option.some.injEq] at h
    subst h
    have e0 : bitsFrom (o0 :: l) acc = bitsFrom l (acc.push (o0.after.foldl (fun s e => if Region.binds .any e then s ||| 2 ^ e.on ||| acc.getD e.on 0 else s) 0)) := rfl
    rw [e0, bits_keep _ _ _ (by simp)] at hb
    simp only [Nat.add_zero, Array.getD_eq_getD_getElem?, Array.getElem?_push_size, Option.getD_some] at hb
    rw [← Array.foldl_toList] at hb
    have hb' := fold_bits (acc := acc) o0.after.toList 0 i (by simpa [Array.getD_eq_getD_getElem?] using hb)
    rcases hb' with h1 | ⟨e, h1, h2, h3⟩
    · simp at h1
    · refine ⟨e, h1, h2, ?_⟩
      rcases h3 with h3 | h3
      · exact .inl h3
      · right
        by_cases hlt : e.on < acc.size
        · refine ⟨by omega, ?_⟩
          rw [e0, bits_keep _ _ _ (by simp; omega)]
          simpa [Array.getD_eq_getD_getElem?, Array.getElem?_push, show ¬ e.on = acc.size from by omega] using h3
        · simp [Array.getD_eq_getD_getElem?, show ¬ e.on < acc.size from hlt] at h3
  | o0 :: l, acc, k + 1, o, h, i, hb => by
    have e0 : bitsFrom (o0 :: l) acc = bitsFrom l (acc.push (o0.after.foldl (fun s e => if Region.binds .any e then s ||| 2 ^ e.on ||| acc.getD e.on 0 else s) 0)) := rfl
    rw [e0] at hb ⊢
    have := bits_edge l (acc.push (o0.after.foldl (fun s e => if Region.binds .any e then s ||| 2 ^ e.on ||| acc.getD e.on 0 else s) 0)) k o (by simpa using h) i (by simpa [show acc.size + (k + 1) = acc.size + 1 + k from by omega] using hb)
    simpa [show acc.size + 1 + k = acc.size + (k + 1) from by omega] using this
/-- What is shut under edges is shut under the bits. -/
theorem bits_closed {ops : Array Oper} {E : Nat → Bool} (hE : ∀ j o, ops.toList[j]? = some o → E j = true → ∀ e ∈ o.after.toList, Region.binds .any e = true → E e.on = true) :
    ∀ (j : Nat) (o : Oper), ops.toList[j]? = some o → E j = true → ∀ i, ((Region.before ops).getD j 0).testBit i = true → E i = true := by
  intro j
  induction j using Nat.strongRecOn with
  | _ j ih =>
    intro o ho hj i hb
    rw [before_eq] at hb
    have := bits_edge ops.toList #[] j o ho i (by simpa using hb)
    obtain ⟨e, h1, h2, h3⟩ := this
    have he := hE j o ho hj e h1 h2
    rcases h3 with h3 | ⟨h3, h4⟩
    · rw [h3]; exact he
    · simp only [List.size_toArray, List.length_nil, Nat.zero_add] at h3
      have hlt : e.on < ops.toList.length := by
        have := (List.getElem?_eq_some_iff.1 ho).1
        omega
      exact ih e.on h3 ops.toList[e.on] (List.getElem?_eq_getElem hlt) he i (by rw [before_eq]; exact h4)
end
end Go.Proofs.YtlkceignfhnpoaaGreatDoor
namespace Go.Proofs.YtlkceignfhnpoaaGreatDoor
open Go

def cnt (E : Nat → Bool) : Nat → Nat
  | 0 => 0
  | m + 1 => cnt E m + if E m then 0 else 1
theorem cnt_same {E : Nat → Bool} {i : Nat} : ∀ m, m ≤ i → cnt (ins E i) m = cnt E m
  | 0, _ => rfl
  | m + 1, h => by
    unfold cnt
    rw [cnt_same m (by omega)]
    have : ins E i m = E m := by simp [ins, show ¬ m = i from by omega]
    rw [this]
theorem cnt_ins {E : Nat → Bool} {i : Nat} (hE : E i = false) : ∀ m, i < m → cnt (ins E i) m + 1 = cnt E m
  | 0, h => by omega
  | m + 1, h => by
    unfold cnt
    by_cases hm : m = i
    · subst hm
      rw [cnt_same m (Nat.le_refl _), hE]
      have : ins E m m = true := by simp [ins]
      rw [this]; simp
    · have := cnt_ins hE m (by omega)
      have e : ins E i m = E m := by simp [ins, hm]
      rw [e]; omega
theorem cnt_zero {E : Nat → Bool} : ∀ m, cnt E m = 0 → ∀ k, k < m → E k = true
  | 0, _, k, hk => by omega
  | m + 1, h, k, hk => by
    unfold cnt at h
    by_cases hm : k = m
    · subst hm
      cases he : E k with
      | true => rfl
      | false => rw [he] at h; simp at h
    · exact cnt_zero m (by omega) k (by omega)
theorem foot_apart {ri rj : Rec} (hi : ∀ b, b ∈ ri.q.W → b ∈ ri.q.D) (hj : ∀ b, b ∈ rj.q.W → b ∈ rj.q.D) (hs : ri.q.s ≤ rj.c) (h : ri.foot.apart rj.foot = true) : (∀ b, ri.wr b → ¬ rj.dom b) ∧ ∀ b, rj.wr b → ¬ ri.dom b := by
  unfold Foot.apart at h
  simp only [Bool.or_eq_true, Bool.and_eq_true] at h
  rcases h with ⟨h1, h2⟩ | ⟨⟨⟨h1, h2⟩, h3⟩, h4⟩
  · simp only [Foot.calm, Rec.foot, Bool.and_eq_true, List.isEmpty_iff, beq_iff_eq] at h1 h2
    constructor
    · rintro b (hb | hb)
      · rw [h1.1] at hb; cases hb
      · omega
    · rintro b (hb | hb)
      · rw [h2.1] at hb; cases hb
      · omega
  · have g1 : ∀ b ∈ ri.q.W, b ∉ rj.q.D := fun b hb hd => by
      have := List.all_eq_true.1 h1 b hb
      simp [Rec.foot, hd] at this
    have g2 : ∀ b ∈ rj.q.W, b ∉ ri.q.D := fun b hb hd => by
      have := List.all_eq_true.1 h2 b hb
      simp [Rec.foot, hd] at this
    have g3 : ∀ b ∈ rj.q.D, ri.c ≤ b → ri.q.s ≤ b := fun b hb => by
      have := List.all_eq_true.1 h3 b hb
      exact fun hx => Nat.le_of_not_lt fun hy => by simp [Rec.foot, hx, hy] at this
    have g4 : ∀ b ∈ ri.q.D, rj.c ≤ b → rj.q.s ≤ b := fun b hb => by
      have := List.all_eq_true.1 h4 b hb
      exact fun hx => Nat.le_of_not_lt fun hy => by simp [Rec.foot, hx, hy] at this
    constructor
    · rintro b (hb | hb) (hd | hd)
      · exact g1 b hb hd
      · have := g4 b (hi b hb) hd.1; omega
      · have := g3 b hd hb.1; omega
      · omega
    · rintro b (hb | hb) (hd | hd)
      · exact g2 b hb hd
      · have := g3 b (hj b hb) hd.1; omega
      · have := g4 b hd hb.1; omega
      · omega
section
variable {P : Program} {call : FuncId → Array Value → AX Value} {φ : Ren} {H : AH} {w : World}
theorem mem_ready {ops : Array Oper} {listed : Array Bool} {i : Nat} (h : i ∈ Region.ready .any ops listed) : ∃ o, ops.toList[i]? = some o ∧ listed.getD i true = false ∧ ∀ e ∈ o.after.toList, Region.binds .any e = true → listed.getD e.on false = true := by
  unfold Region.ready at h
  simp only [List.mem_filter, List.mem_range, Bool.and_eq_true, Bool.not_eq_true'] at h
  obtain ⟨h1, h2, h3⟩ := h
  have hio : ops[i]? = some ops[i] := Array.getElem?_eq_getElem h1
  refine ⟨ops[i], by simp, h2, fun e he hb => ?_⟩
  rw [hio] at h3
  simp only [Option.map_some, Option.getD_some, Array.all_eq_true_iff_forall_mem] at h3
  have := h3 e (by simpa using he)
  simpa [hb] using this
theorem ready_of {ops : Array Oper} {listed : Array Bool} {i : Nat} {o : Oper} (ho : ops.toList[i]? = some o) (h1 : listed.getD i true = false) (h2 : ∀ e ∈ o.after.toList, Region.binds .any e = true → listed.getD e.on false = true) : i ∈ Region.ready .any ops listed := by
  unfold Region.ready
  have hlt : i < ops.size := by have := (List.getElem?_eq_some_iff.1 ho).1; simpa using this
  have hio : ops[i]? = some o := by simpa using ho
  simp only [List.mem_filter, List.mem_range, Bool.and_eq_true, Bool.not_eq_true']
  refine ⟨hlt, h1, ?_⟩
  rw [hio]
  simp only [Option.map_some, Option.getD_some, Array.all_eq_true_iff_forall_mem]
  intro e he
  by_cases hb : Region.binds .any e = true
  · simp [hb, h2 e (by simpa using he) hb]
  · simp [hb]
theorem draw_sound (hcall : CallOK P call) (hl : ∀ f ags, Local (call f ags)) {ops : Array Oper} {tm tmC : Array Value} {s : Nat} {q : Out (Array Value × List Foot)} {Q : Exit → Act → World → Prop} (hreg : regionOK ops = true) (h : aSeq P call ops ops.toList tm H s = some q) (hlog : okLog (Region.before ops) q.val.2 = true)
    (hw : WR P φ H w) (ht : VA φ tm tmC) (hf : Free φ s q.s) (hQ : ∀ φ' tmC' w', Nx φ φ' s q.s → VA φ' q.val.1 tmC' → WR P φ' q.H w' → Trn φ H w φ' q.H w' → Q .normal { tmps := tmC', defers := [] } w') :
    wpAny P .any ops Q ops.size (Array.replicate ops.size false) { tmps := tmC, defers := [] } w := by
  obtain ⟨recs, hro, hch, hqt, hqh, hqs, hqf⟩ := aSeq_chain ops.toList tm H s q h
  have hat := chain_at hl recs 0 tm H s hch
  obtain ⟨hend1, hend2, hend3, hend4, hend5⟩ := chain_end hl recs 0 tm H s hch
  simp only [Nat.zero_add] at hat
  have hlen : recs.length = ops.size := by have := congrArg List.length hro; simpa using this
  have recAt : ∀ (k : Nat) o, ops.toList[k]? = some o → ∃ r, recs[k]? = some r ∧ r.o = o := by
    intro k o ho
    rw [← hro, List.getElem?_map] at ho
    cases hr : recs[k]? with
    | none => rw [hr] at ho; cases ho
    | some r => rw [hr] at ho; exact ⟨r, rfl, by simpa using ho⟩
  have opAt : ∀ (k : Nat) r, recs[k]? = some r → ops.toList[k]? = some r.o := by
    intro k r hr
    rw [← hro, List.getElem?_map, hr]; rfl
  -- what the checks say
  unfold regionOK at hreg
  simp only [Bool.and_eq_true] at hreg
  obtain ⟨hR1, hR2⟩ := hreg
  have hback : ∀ (j : Nat) o, ops.toList[j]? = some o → ∀ e ∈ o.after.toList, Region.binds .any e = true → e.on < j := by
    intro j o ho e he hb
    rw [List.all_eq_true] at hR1
    have := hR1 (o, j) (List.mem_zipIdx_iff_getElem?.2 ho)
    simp only [Bool.and_eq_true, List.all_eq_true] at this
    have := this.1.1 e he
    simpa [hb] using this
  have hslots : ∀ (i j : Nat) oi oj, i < j → ops.toList[i]? = some oi → ops.toList[j]? = some oj → ((Region.before ops).getD j 0).testBit i = true ∨ Oper.apart ops oi oj = true := by
    intro i j oi oj hij hi hj
    rw [List.all_eq_true] at hR2
    have := hR2 (oj, j) (List.mem_zipIdx_iff_getElem?.2 hj)
    rw [List.all_eq_true] at this
    have := this (oi, i) (List.mem_zipIdx_iff_getElem?.2 hi)
    simpa [hij] using this
  have hfeet : ∀ (i j : Nat) ri rj, i < j → recs[i]? = some ri → recs[j]? = some rj → ((Region.before ops).getD j 0).testBit i = true ∨ ((∀ b, ri.wr b → ¬ rj.dom b) ∧ ∀ b, rj.wr b → ¬ ri.dom b) := by
    intro i j ri rj hij hi hj
    unfold okLog at hlog
    rw [hqf, List.all_eq_true] at hlog
    have h1 : (rj.foot, j) ∈ (recs.map Rec.foot).zipIdx := List.mem_zipIdx_iff_getElem?.2 (by rw [List.getElem?_map, hj]; rfl)
    have h2 : (ri.foot, i) ∈ (recs.map Rec.foot).zipIdx := List.mem_zipIdx_iff_getElem?.2 (by rw [List.getElem?_map, hi]; rfl)
    have := hlog _ h1
    rw [List.all_eq_true] at this
    have := this _ h2
    simp only [Bool.or_eq_true, Bool.not_eq_true', decide_eq_false_iff_not, hij, not_true_eq_false, false_or] at this
    rcases this with h3 | h3
    · exact .inl h3
    · right
      have li := (local_aVal hl ops ri.o ri.tm ri.H ri.c ri.q (hat i ri hi).1)
      have lj := (local_aVal hl ops rj.o rj.tm rj.H rj.c rj.q (hat j rj hj).1)
      exact foot_apart li.sub lj.sub (hend5 i j ri rj hi hj hij) h3
  suffices claim : ∀ (fuel : Nat) (listed : Array Bool) (φ1 : Ren) (tm1 : Array Value) (w1 : World), listed.size = ops.size → cnt (fun k => listed.getD k false) ops.size ≤ fuel →
      (∀ j o, ops.toList[j]? = some o → listed.getD j false = true → ∀ e ∈ o.after.toList, Region.binds .any e = true → listed.getD e.on false = true) →
      WR P φ1 (stH (fun k => listed.getD k false) recs 0 H) w1 → VA φ1 (stT (fun k => listed.getD k false) recs 0 tm) tm1 → Ext φ φ1 →
      (∀ b im, φ1 b = some im → φ b = some im ∨ ∃ (k : Nat) (r : Rec), recs[k]? = some r ∧ listed.getD k false = true ∧ r.c ≤ b ∧ b < r.q.s) → Trn φ H w φ1 (stH (fun k => listed.getD k false) recs 0 H) w1 →
      wpAny P .any ops Q fuel listed { tmps := tm1, defers := [] } w1 by
    have hE0 : ∀ k, (Array.replicate ops.size false).getD k false = false := by
      intro k
      rw [Array.getD_eq_getD_getElem?, Array.getElem?_replicate]
      split <;> rfl
    have e1 : stH (fun k => (Array.replicate ops.size false).getD k false) recs 0 H = H := by
      funext b
      exact stH_none _ _ _ (fun k r hr he => by simp only [hE0] at he; cases he)
    have e2 : stT (fun k => (Array.replicate ops.size false).getD k false) recs 0 tm = tm := by
      apply Array.ext_getElem?
      intro t
      exact stT_none _ _ _ (fun k r hr he => by simp only [hE0] at he; cases he)
    have hc0 : ∀ m, cnt (fun k => (Array.replicate ops.size false).getD k false) m = m := by
      intro m
      induction m with
      | zero => rfl
      | succ m ih => unfold cnt; rw [ih, hE0]; rfl
    refine claim ops.size _ φ tmC w (by simp) (by rw [hc0]; exact Nat.le_refl _) (fun j o ho hj => by rw [hE0] at hj; cases hj) (by rw [e1]; exact hw) (by rw [e2]; exact ht) (Ext.refl _) (fun b im hb => .inl hb) (by rw [e1]; exact Trn.refl _ _ _)
  have final : ∀ (listed : Array Bool) (φ1 : Ren) (tm1 : Array Value) (w1 : World), (∀ k, k < ops.size → listed.getD k false = true) → WR P φ1 (stH (fun k => listed.getD k false) recs 0 H) w1 → VA φ1 (stT (fun k => listed.getD k false) recs 0 tm) tm1 → Ext φ φ1 →
      (∀ b im, φ1 b = some im → φ b = some im ∨ ∃ (k : Nat) (r : Rec), recs[k]? = some r ∧ listed.getD k false = true ∧ r.c ≤ b ∧ b < r.q.s) → Trn φ H w φ1 (stH (fun k => listed.getD k false) recs 0 H) w1 → Q .normal { tmps := tm1, defers := [] } w1 := by
    intro listed φ1 tm1 w1 hall k1 k2 k3 k4 k5
    have hin : ∀ (k : Nat) r, recs[k]? = some r → listed.getD (0 + k) false = true := fun k r hr => by
      rw [Nat.zero_add]
      exact hall k (by have := (List.getElem?_eq_some_iff.1 hr).1; omega)
    have e1 : stH (fun k => listed.getD k false) recs 0 H = q.H := by
      rw [hqh, ← hend1]
      funext b
      exact stH_same _ _ _ _ (fun k r hr _ => hin k r hr) rfl
    have e2 : stT (fun k => listed.getD k false) recs 0 tm = q.val.1 := by
      rw [hqt, ← hend2]
      apply Array.ext_getElem?
      intro t
      exact stT_same _ _ _ _ (fun k r hr _ => hin k r hr) rfl
    rw [e1] at k1 k5
    rw [e2] at k2
    refine hQ φ1 tm1 w1 ⟨k3, fun b im hb => ?_⟩ k2 k1 k5
    rcases k4 b im hb with h1 | ⟨k, r, hr, _, h2, h3⟩
    · exact .inl h1
    · obtain ⟨a1, a2, a3⟩ := hend4 k r hr
      rw [hqs]
      exact .inr ⟨by omega, by omega⟩
  intro fuel
  induction fuel with
  | zero =>
    intro listed φ1 tm1 w1 hsz hcnt hclo k1 k2 k3 k4 k5
    have hall := cnt_zero ops.size (by omega : cnt (fun k => listed.getD k false) ops.size = 0)
    refine ⟨?_, final listed φ1 tm1 w1 hall k1 k2 k3 k4 k5⟩
    cases hr : Region.ready .any ops listed with
    | nil => rfl
    | cons i l =>
      obtain ⟨o, ho, hi, _⟩ := mem_ready (hr ▸ List.mem_cons_self .. : i ∈ Region.ready .any ops listed)
      have hlt : i < ops.size := by have := (List.getElem?_eq_some_iff.1 ho).1; simpa using this
      have := hall i hlt
      simp only [Array.getD_eq_getD_getElem?] at this hi
      cases hx : listed[i]? with
      | none => rw [hx] at this; cases this
      | some x => rw [hx] at this hi; simp at this hi; rw [this] at hi; cases hi
  | succ fuel ih =>
    intro listed φ1 tm1 w1 hsz hcnt hclo k1 k2 k3 k4 k5
    have getD2 : ∀ k, k < ops.size → listed.getD k true = listed.getD k false := by
      intro k hk
      have : listed[k]? = some listed[k] := Array.getElem?_eq_getElem (by omega)
      simp only [Array.getD_eq_getD_getElem?, this]; rfl
    refine ⟨fun hr => ?_, fun i hi => ?_⟩
    · -- nothing is ready: all has come up
      refine final listed φ1 tm1 w1 (fun k => ?_) k1 k2 k3 k4 k5
      induction k using Nat.strongRecOn with
      | _ k ihk =>
        intro hk
        cases hx : listed.getD k false with
        | true => rfl
        | false =>
          have ho : ops.toList[k]? = some ops[k] := by simp [hk]
          have : k ∈ Region.ready .any ops listed := ready_of ho (by rw [getD2 k hk]; exact hx) (fun e he hb => by
            have := hback k _ ho e he hb
            exact ihk e.on this (by omega))
          rw [hr] at this; cases this
    · obtain ⟨o, ho, hil, hdeps⟩ := mem_ready hi
      have hlt : i < ops.size := by have := (List.getElem?_eq_some_iff.1 ho).1; simpa using this
      have hiE : listed.getD i false = false := by rw [← getD2 i hlt]; exact hil
      obtain ⟨r, hr, hrw⟩ := recAt i o ho
      subst hrw
      obtain ⟨v1, v2, v3⟩ := hat i r hr
      have hclosed := bits_closed (ops := ops) (E := fun k => listed.getD k false) (fun j o ho hj e he hb => hclo j o ho hj e he hb)
      -- what is ordered ahead of i has come up; what is ordered behind it has not
      have ahead : ∀ j, ((Region.before ops).getD i 0).testBit j = true → listed.getD j false = true := by
        intro j hb
        rw [before_eq] at hb
        have := bits_edge ops.toList #[] i r.o ho j (by simpa using hb)
        obtain ⟨e, h1, h2, h3⟩ := this
        have he := hdeps e h1 h2
        rcases h3 with h3 | ⟨h3, h4⟩
        · rw [h3]; exact he
        · simp only [List.size_toArray, List.length_nil, Nat.zero_add] at h3
          have hel : e.on < ops.toList.length := by have := (List.getElem?_eq_some_iff.1 ho).1; omega
          exact hclosed e.on ops.toList[e.on] (List.getElem?_eq_getElem hel) he j (by rw [before_eq]; exact h4)
      have behind : ∀ (j : Nat) oj, ops.toList[j]? = some oj → listed.getD j false = true → ((Region.before ops).getD j 0).testBit i = true → False := by
        intro j oj hoj hj hb
        have := hclosed j oj hoj hj i hb
        rw [hiE] at this; cases this
      have slotE : ∀ (k : Nat) rk, recs[k]? = some rk → ∀ t, rk.o.dst = some t → (t ∈ r.o.looksAt ops ∨ r.o.dst = some t) → k ≠ i → listed.getD (0 + k) false = decide (k < i) := by
        intro k rk hk t hd hlook hne
        rw [Nat.zero_add]
        rcases Nat.lt_or_gt_of_ne hne with hlt2 | hgt
        · rcases hslots k i rk.o r.o hlt2 (opAt k rk hk) ho with h1 | h1
          · rw [ahead k h1]; simp [hlt2]
          · obtain ⟨a1, a2, a3⟩ := Oper.apart_spec h1
            rcases hlook with h2 | h2
            · exact absurd h2 (a1 t hd)
            · exact absurd h2 (a2 t hd)
        · cases hx : listed.getD k false with
          | false => simp; omega
          | true =>
            rcases hslots i k r.o rk.o hgt ho (opAt k rk hk) with h1 | h1
            · exact (behind k rk.o (opAt k rk hk) hx h1).elim
            · obtain ⟨a1, a2, a3⟩ := Oper.apart_spec h1
              rcases hlook with h2 | h2
              · exact absurd h2 (a3 t hd)
              · exact absurd hd (a2 t h2)
      have heapE : ∀ (k : Nat) rk, recs[k]? = some rk → ∀ b, rk.wr b → r.dom b → k ≠ i → listed.getD (0 + k) false = decide (k < i) := by
        intro k rk hk b hwb hdb hne
        rw [Nat.zero_add]
        rcases Nat.lt_or_gt_of_ne hne with hlt2 | hgt
        · rcases hfeet k i rk r hlt2 hk hr with h1 | h1
          · rw [ahead k h1]; simp [hlt2]
          · exact absurd hdb (h1.1 b hwb)
        · cases hx : listed.getD k false with
          | false => simp; omega
          | true =>
            rcases hfeet i k r rk hgt hr hk with h1 | h1
            · exact (behind k rk.o (opAt k rk hk) hx h1).elim
            · exact absurd hdb (h1.2 b hwb)
      have hagree : Agree ops r.o (stT (fun k => listed.getD k false) recs 0 tm) r.tm := by
        intro t htl
        rw [← v3]
        refine stT_same _ _ _ _ (fun k rk hk hd => ?_) rfl
        by_cases hne : k = i
        · subst hne
          rw [Nat.zero_add, hiE]; simp
        · rw [slotE k rk hk t hd (.inl htl) hne, Nat.zero_add]
      have hdomE : ∀ b, r.dom b → stH (fun k => listed.getD k false) recs 0 H b = r.H b := by
        intro b hdb
        rw [← v2]
        refine stH_same _ _ _ _ (fun k rk hk hwb => ?_) rfl
        by_cases hne : k = i
        · subst hne
          rw [Nat.zero_add, hiE]; simp
        · rw [heapE k rk hk b hwb hdb hne, Nat.zero_add]
      have hloc := local_aVal hl ops r.o r.tm r.H r.c r.q v1
      obtain ⟨o2, e1, e2, e3, e4, e5, e6, e7⟩ := hloc.sees (stH (fun k => listed.getD k false) recs 0 H) hdomE
      rw [← aVal_agree hagree] at e1
      have hsub : ∀ b, r.wr b → r.dom b := fun b hb => hb.elim (fun h => .inl (hloc.sub b h)) (fun h => .inr h)
      -- the new state
      have hE' : (fun k => (listed.setIfInBounds i true).getD k false) = ins (fun k => listed.getD k false) i := by
        funext k
        simp only [ins, Array.getD_eq_getD_getElem?, Array.getElem?_setIfInBounds]
        by_cases hki : i = k
        · subst hki
          simp [show i < listed.size from by omega]
        · simp [hki, show ¬ k = i from fun e => hki e.symm]
      have hH' : stH (ins (fun k => listed.getD k false) i) recs 0 H = o2.H := by
        funext b
        by_cases hwb : r.wr b
        · rw [e6 b hwb]
          have := stH_ins (E := fun k => listed.getD k false) (b := b) recs 0 H i r hr hwb (fun j rj hj hij hjE hwj => by
            have := heapE j rj hj b hwj (hsub b hwb) (by omega)
            rw [this] at hjE
            simp at hjE; omega)
          rwa [Nat.zero_add] at this
        · rw [e7 b hwb]
          refine stH_same _ _ _ _ (fun k rk hk hwk => ?_) rfl
          rw [Nat.zero_add]
          have : ¬ k = i := by
            rintro rfl
            rw [hr] at hk; cases hk
            exact hwb hwk
          simp [ins, this]
      have hT' : stT (ins (fun k => listed.getD k false) i) recs 0 tm = putA (stT (fun k => listed.getD k false) recs 0 tm) r.o.dst o2.val := by
        apply Array.ext_getElem?
        intro t
        rw [putA_get]
        by_cases hd : r.o.dst = some t
        · rw [if_pos hd, e2]
          have := stT_ins (E := fun k => listed.getD k false) (t := t) recs 0 tm i r hr hd (fun j rj hj hij hjE hdj => by
            have := slotE j rj hj t hdj (.inr hd) (by omega)
            rw [this] at hjE
            simp at hjE; omega)
          rw [Nat.zero_add] at this
          rw [this]
          have hs1 := stT_size (E := fun k => listed.getD k false) recs 0 tm
          by_cases hlt3 : t < tm.size
          · rw [Array.getElem?_eq_getElem hlt3, Array.getElem?_eq_getElem (by omega : t < (stT (fun k => listed.getD k false) recs 0 tm).size)]; rfl
          · rw [Array.getElem?_eq_none (by omega), Array.getElem?_eq_none (by omega : (stT (fun k => listed.getD k false) recs 0 tm).size ≤ t)]
        · rw [if_neg hd]
          refine stT_same _ _ _ _ (fun k rk hk hdk => ?_) rfl
          rw [Nat.zero_add]
          have : ¬ k = i := by
            rintro rfl
            rw [hr] at hk; cases hk
            exact hd hdk
          simp [ins, this]
      have hfree : Free φ1 r.c o2.s := by
        intro b hb1 hb2
        rw [e3] at hb2
        cases hφ : φ1 b with
        | none => rfl
        | some im =>
          obtain ⟨a1, a2, a3⟩ := hend4 i r hr
          rcases k4 b im hφ with h1 | ⟨k, rk, hk, hkE, h2, h3⟩
          · rw [hf b (by omega) (by rw [hqs]; omega)] at h1; cases h1
          · have hne : k ≠ i := by
              rintro rfl
              rw [hiE] at hkE; cases hkE
            rcases Nat.lt_or_gt_of_ne hne with hlt2 | hgt
            · have := hend5 k i rk r hk hr hlt2; omega
            · have := hend5 i k r rk hr hk hgt; omega
      have hio : ops[i]? = some r.o := by simpa using ho
      unfold wpOp
      rw [hio]
      dsimp only
      refine val_sound hcall e1 k1 k2 hfree (fun φ' v' w' m1 m2 m3 m4 => ?_)
      refine ih (listed.setIfInBounds i true) φ' _ w' (by simpa using hsz) ?_ ?_ ?_ ?_ (k3.trans m1.ext) ?_ ?_
      · rw [hE']
        have := cnt_ins (E := fun k => listed.getD k false) hiE ops.size hlt
        omega
      · intro j oj hoj hj e he hb
        have hE2 := congrFun hE'
        rw [hE2 e.on]
        rw [hE2 j] at hj
        unfold ins at hj ⊢
        simp only [Bool.or_eq_true, beq_iff_eq] at hj ⊢
        rcases hj with hj | hj
        · exact .inl (hclo j oj hoj hj e he hb)
        · subst hj
          rw [ho] at hoj; cases hoj
          exact .inl (hdeps e he hb)
      · rw [hE', hH']; exact m3
      · rw [hE', hT']; exact (k2.mono m1.ext).put r.o.dst m2
      · intro b im hb
        have hE2 := congrFun hE'
        rcases m1.dom b im hb with h1 | h1
        · rcases k4 b im h1 with h2 | ⟨k, rk, hk, hkE, h3, h4⟩
          · exact .inl h2
          · refine .inr ⟨k, rk, hk, ?_, h3, h4⟩
            rw [hE2 k]
            simp [ins, hkE]
        · refine .inr ⟨i, r, hr, ?_, h1.1, by rw [← e3]; exact h1.2⟩
          rw [hE2 i]
          simp [ins]
      · rw [hE', hH']; exact k5.trans m4
end
end Go.Proofs.YtlkceignfhnpoaaGreatDoor
namespace Go.Proofs.YtlkceignfhnpoaaGreatDoor
open Go

def exitOf : AExit → Exit
  | .normal => .normal
  | .exit id => .exit id
  | .ret => .ret
section
variable {P : Program} {call : FuncId → Array Value → AX Value}
theorem code_sound (hm : P.follows .mixedOrders = true) (hcall : CallOK P call) (hl : ∀ f ags, Local (call f ags)) : ∀ (c : Code) (tm tmC : Array Value) (H : AH) (s : Nat) (q : Out (AExit × Array Value)) (φ : Ren) (w : World) (Q : Exit → Act → World → Prop), codeOK c = true → aCode P call c tm H s = some q → WR P φ H w → VA φ tm tmC → Free φ s q.s →
    (∀ φ' tmC' w', Nx φ φ' s q.s → VA φ' q.val.2 tmC' → WR P φ' q.H w' → Trn φ H w φ' q.H w' → Q (exitOf q.val.1) { tmps := tmC', defers := [] } w') → c.wp P Q { tmps := tmC, defers := [] } w
  | .skip, tm, tmC, H, s, q, φ, w, Q, hk, h, hw, ht, hf, hQ => by
    unfold aCode at h
    have := ret_some h
    subst this
    exact wp_skip (hQ φ tmC w (Nx.refl _ _) ht hw (Trn.refl _ _ _))
  | .label _, tm, tmC, H, s, q, φ, w, Q, hk, h, hw, ht, hf, hQ => by
    unfold aCode at h
    have := ret_some h
    subst this
    exact wp_label (hQ φ tmC w (Nx.refl _ _) ht hw (Trn.refl _ _ _))
  | .exit id, tm, tmC, H, s, q, φ, w, Q, hk, h, hw, ht, hf, hQ => by
    unfold aCode at h
    have := ret_some h
    subst this
    exact wp_exit (hQ φ tmC w (Nx.refl _ _) ht hw (Trn.refl _ _ _))
  | .ret, tm, tmC, H, s, q, φ, w, Q, hk, h, hw, ht, hf, hQ => by
    unfold aCode at h
    have := ret_some h
    subst this
    exact wp_ret (hQ φ tmC w (Nx.refl _ _) ht hw (Trn.refl _ _ _))
  | .region id ops draw, tm, tmC, H, s, q, φ, w, Q, hk, h, hw, ht, hf, hQ => by
    unfold aCode at h
    obtain ⟨o1, o2, e1, e2, rfl⟩ := AX.bind_some h
    have := ret_some e2
    subst this
    unfold aRegion at e1
    cases draw with
    | false =>
      simp only [Bool.false_eq_true, if_false] at e1
      obtain ⟨o3, o4, e3, e4, rfl⟩ := AX.bind_some e1
      have := ret_some e4
      subst this
      refine wp_region ?_
      have hr : List.range ops.size = List.range' 0 ops.toList.length := by rw [List.range_eq_range']; simp
      rw [hr]
      exact ops_sound hcall hl ops.toList 0 tm tmC H s o3 φ w rfl e3 hw ht hf (fun φ' tmC' w' k1 k2 k3 k4 => hQ φ' tmC' w' k1 k2 k3 k4)
    | true =>
      simp only [if_true] at e1
      have hreg : regionOK ops = true := by simpa [codeOK] using hk
      obtain ⟨o3, o4, e3, e4, rfl⟩ := AX.bind_some e1
      split at e4
      · rename_i hlog
        have := ret_some e4
        subst this
        refine wp_region_any hm ?_
        exact draw_sound hcall hl hreg e3 hlog hw.drew ht hf (fun φ' tmC' w' k1 k2 k3 k4 => hQ φ' tmC' w' k1 k2 k3 ((Trn.drew φ H w).trans k4))
      · cases e4
  | .seq a b, tm, tmC, H, s, q, φ, w, Q, hk, h, hw, ht, hf, hQ => by
    simp only [codeOK, Bool.and_eq_true] at hk
    unfold aCode at h
    obtain ⟨o1, o2, e1, e2, rfl⟩ := AX.bind_some h
    have hu1 : s ≤ o1.s := (local_aCode hl a tm H s o1 e1).up
    cases hx : o1.val.1 with
    | normal =>
      rw [hx] at e2
      dsimp only at e2
      have hu2 : o1.s ≤ o2.s := (local_aCode hl b o1.val.2 o1.H o1.s o2 e2).up
      refine wp_seq (code_sound hm hcall hl a tm tmC H s o1 φ w _ hk.1 e1 hw ht (hf.sub (Nat.le_refl _) hu2) (fun φ' tmC' w' k1 k2 k3 k4 => ?_))
      rw [hx]
      refine code_sound hm hcall hl b o1.val.2 tmC' o1.H o1.s o2 φ' w' Q hk.2 e2 k3 k2 (k1.free hf hu1) (fun φ2 tm2 w2 m1 m2 m3 m4 => ?_)
      exact hQ φ2 tm2 w2 (k1.trans m1 hu1 hu2) m2 m3 (k4.trans m4)
    | exit id =>
      rw [hx] at e2
      have := ret_some e2
      subst this
      refine wp_seq (code_sound hm hcall hl a tm tmC H s o1 φ w _ hk.1 e1 hw ht hf (fun φ' tmC' w' k1 k2 k3 k4 => ?_))
      rw [hx]
      exact hQ φ' tmC' w' k1 k2 k3 k4
    | ret =>
      rw [hx] at e2
      have := ret_some e2
      subst this
      refine wp_seq (code_sound hm hcall hl a tm tmC H s o1 φ w _ hk.1 e1 hw ht hf (fun φ' tmC' w' k1 k2 k3 k4 => ?_))
      rw [hx]
      exact hQ φ' tmC' w' k1 k2 k3 k4
  | .cond c a b, tm, tmC, H, s, q, φ, w, Q, hk, h, hw, ht, hf, hQ => by
    simp only [codeOK, Bool.and_eq_true] at hk
    unfold aCode at h
    by_cases hg : Operand.isGlobal c = true
    · rw [if_pos hg] at h; cases h
    rw [if_neg hg] at h
    obtain ⟨vc, hvc⟩ : ∃ v, evalA tm c = v := ⟨_, rfl⟩
    rw [hvc] at h
    cases vc
    case bool t =>
      dsimp only at h
      have hc : Act.eval { tmps := tmC, defers := [] } c = .bool t := by
        cases c with
        | tmp k =>
          have h1 := ht.getD k
          have h2 : tm.getD k undef = .bool t := hvc
          rw [h2] at h1
          exact h1.flat_eq rfl
        | const v => exact hvc
        | global g => exact absurd rfl hg
        | func f => cases hvc
      cases t with
      | true => exact wp_cond_true hc (code_sound hm hcall hl a tm tmC H s q φ w Q hk.1 (by simpa using h) hw ht hf hQ)
      | false => exact wp_cond_false hc (code_sound hm hcall hl b tm tmC H s q φ w Q hk.2 (by simpa using h) hw ht hf hQ)
    all_goals cases h
  | .block id c, tm, tmC, H, s, q, φ, w, Q, hk, h, hw, ht, hf, hQ => by
    unfold aCode at h
    obtain ⟨o1, o2, e1, e2, rfl⟩ := AX.bind_some h
    have hu2 : o1.s ≤ o2.s := by
      cases hx : o1.val.1 with
      | normal => rw [hx] at e2; rw [ret_some e2]; exact Nat.le_refl _
      | exit j =>
        rw [hx] at e2
        dsimp only at e2
        split at e2 <;> (rw [ret_some e2]; exact Nat.le_refl _)
      | ret => rw [hx] at e2; rw [ret_some e2]; exact Nat.le_refl _
    refine wp_block (code_sound hm hcall hl c tm tmC H s o1 φ w _ (by simpa [codeOK] using hk) e1 hw ht (hf.sub (Nat.le_refl _) hu2) (fun φ' tmC' w' k1 k2 k3 k4 => ?_))
    cases hx : o1.val.1 with
    | normal =>
      rw [hx] at e2
      have := ret_some e2
      subst this
      exact hQ φ' tmC' w' k1 k2 k3 k4
    | exit j =>
      rw [hx] at e2
      dsimp only at e2
      show Exit.inBlock id Q (.exit j) _ _
      unfold Exit.inBlock
      dsimp only
      split at e2
      · rename_i hj
        have := ret_some e2
        subst this
        rw [if_pos hj]
        exact hQ φ' tmC' w' k1 k2 k3 k4
      · rename_i hj
        have := ret_some e2
        subst this
        rw [if_neg hj]
        exact hQ φ' tmC' w' k1 k2 k3 k4
    | ret =>
      rw [hx] at e2
      have := ret_some e2
      subst this
      exact hQ φ' tmC' w' k1 k2 k3 k4
  | .loop c, tm, tmC, H, s, q, φ, w, Q, hk, h, hw, ht, hf, hQ => by
    unfold aCode at h
    have rounds : ∀ n (tm tmC : Array Value) (H : AH) (s : Nat) (q : Out (AExit × Array Value)) (φ : Ren) (w : World), aLoop (aCode P call c) n tm H s = some q → WR P φ H w → VA φ tm tmC → Free φ s q.s →
        (∀ φ' tmC' w', Nx φ φ' s q.s → VA φ' q.val.2 tmC' → WR P φ' q.H w' → Trn φ H w φ' q.H w' → Q (exitOf q.val.1) { tmps := tmC', defers := [] } w') → Code.rounds P c Q n { tmps := tmC, defers := [] } w := by
      intro n
      induction n with
      | zero => intro tm tmC H s q φ w h; cases h
      | succ n ih =>
        intro tm tmC H s q φ w h hw ht hf hQ
        unfold aLoop at h
        obtain ⟨o1, o2, e1, e2, rfl⟩ := AX.bind_some h
        have hu1 : s ≤ o1.s := (local_aCode hl c tm H s o1 e1).up
        rw [rounds_succ]
        cases hx : o1.val.1 with
        | normal =>
          rw [hx] at e2
          dsimp only at e2
          have hu2 : o1.s ≤ o2.s := (local_aLoop (fun tm => local_aCode hl c tm) n o1.val.2 o1.H o1.s o2 e2).up
          refine code_sound hm hcall hl c tm tmC H s o1 φ w _ (by simpa [codeOK] using hk) e1 hw ht (hf.sub (Nat.le_refl _) hu2) (fun φ' tmC' w' k1 k2 k3 k4 => ?_)
          rw [hx]
          refine ih o1.val.2 tmC' o1.H o1.s o2 φ' w' e2 k3 k2 (k1.free hf hu1) (fun φ2 tm2 w2 m1 m2 m3 m4 => ?_)
          exact hQ φ2 tm2 w2 (k1.trans m1 hu1 hu2) m2 m3 (k4.trans m4)
        | exit id =>
          rw [hx] at e2
          have := ret_some e2
          subst this
          refine code_sound hm hcall hl c tm tmC H s o1 φ w _ (by simpa [codeOK] using hk) e1 hw ht hf (fun φ' tmC' w' k1 k2 k3 k4 => ?_)
          rw [hx]
          exact hQ φ' tmC' w' k1 k2 k3 k4
        | ret =>
          rw [hx] at e2
          have := ret_some e2
          subst this
          refine code_sound hm hcall hl c tm tmC H s o1 φ w _ (by simpa [codeOK] using hk) e1 hw ht hf (fun φ' tmC' w' k1 k2 k3 k4 => ?_)
          rw [hx]
          exact hQ φ' tmC' w' k1 k2 k3 k4
    exact wp_loop_rounds LF (rounds LF tm tmC H s q φ w h hw ht hf hQ)
  | .scope c, tm, tmC, H, s, q, φ, w, Q, hk, h, hw, ht, hf, hQ => by
    unfold aCode at h
    refine wp_scope_straight (code_sound hm hcall hl c tm tmC H s q φ w _ (by simpa [codeOK] using hk) h hw ht hf (fun φ' tmC' w' k1 k2 k3 k4 => ?_))
    have := hQ φ' tmC' w' k1 k2 k3 k4
    cases hx : q.val.1 <;> (rw [hx] at this; exact this)
  | .rangeFunc .., tm, tmC, H, s, q, φ, w, Q, hk, h, hw, ht, hf, hQ => by unfold aCode at h; cases h
  | .goto _, tm, tmC, H, s, q, φ, w, Q, hk, h, hw, ht, hf, hQ => by unfold aCode at h; cases h
  | .refuse _, tm, tmC, H, s, q, φ, w, Q, hk, h, hw, ht, hf, hQ => by unfold aCode at h; cases h
def resOf (tm : Array Value) : ResultVar → Sem Value
  | .tmp t => pure (tm.getD t undef)
  | .cell a t => do loadVar t (← asAddr (tm.getD a undef))
theorem resList_ok {φ : Ren} {H : AH} {w : World} {tm tmC : Array Value} (hw : WR P φ H w) (ht : VA φ tm tmC) : ∀ (l : List ResultVar) (s : Nat) (q : Out (List Value)), aResList P tm l H s = some q →
    ∃ vs, (l.mapM (resOf tmC)).run P w = .ok vs w ∧ VL φ q.val vs ∧ q.H = H ∧ q.s = s
  | [], s, q, h => by
    have := ret_some h
    subst this
    exact ⟨[], rfl, VL.nil, rfl, rfl⟩
  | .tmp t :: r, s, q, h => by
    unfold aResList at h
    obtain ⟨o1, o2, e1, e2, rfl⟩ := AX.bind_some h
    obtain ⟨vs, k1, k2, k3, k4⟩ := resList_ok hw ht r s o1 e1
    have := ret_some e2
    subst this
    refine ⟨tmC.getD t undef :: vs, ?_, VL.cons (ht.getD t) k2, k3, k4⟩
    rw [List.mapM_cons, run_then (a := tmC.getD t undef) (w' := w) rfl, run_then k1]; rfl
  | .cell a t :: r, s, q, h => by
    unfold aResList at h
    obtain ⟨o1, o2, e1, e2, rfl⟩ := AX.bind_some h
    obtain ⟨o3, o4, e3, e4, rfl⟩ := AX.bind_some e2
    obtain ⟨u, r1, r2, r3, r4⟩ := load_ok e1 hw (ht.getD a)
    rw [r3, r4] at e3
    obtain ⟨vs, k1, k2, k3, k4⟩ := resList_ok hw ht r s o3 e3
    have := ret_some e4
    subst this
    refine ⟨u :: vs, ?_, VL.cons r2 k2, k3, k4⟩
    have hl : (do loadVar t (← asAddr (tmC.getD a undef)) : Sem Value).run P w = .ok u w := by
      unfold Instr.loadAt at r1
      cases hv : tmC.getD a undef
      case pointer p =>
        rw [hv] at r1
        cases p with
        | none => simp [Instr.sureAddr, Sem.run_bind, stuck, Sem.run, Result.andThen] at r1
        | some ad => exact r1
      all_goals (rw [hv] at r1; simp [Instr.sureAddr, Sem.run_bind, stuck, Sem.run, Result.andThen] at r1)
    rw [List.mapM_cons]
    have hl2 : (resOf tmC (.cell a t)).run P w = .ok u w := hl
    rw [run_then hl2, run_then k1]; rfl
theorem results_ok {φ : Ren} {H : AH} {w : World} {tm tmC : Array Value} {fn : Func} (hw : WR P φ H w) (ht : VA φ tm tmC) {s : Nat} {q : Out (List Value)} (h : aResList P tm fn.results.toList H s = some q) :
    ∃ v, (results fn tmC).run P w = .ok v w ∧ VR φ (tupleOf q.val) v ∧ q.H = H ∧ q.s = s := by
  obtain ⟨vs, k1, k2, k3, k4⟩ := resList_ok hw ht fn.results.toList s q h
  refine ⟨tupleOf vs, ?_, ?_, k3, k4⟩
  · have e : results fn tmC = (fn.results.mapM (resOf tmC) >>= fun vs => pure (if h : vs.size = 1 then vs[0] else .tuple vs)) := by
      unfold results
      congr 1
    rw [e, Array.mapM_eq_mapM_toList]
    rw [run_then (a := vs.toArray) (w' := w) (by
      rw [map_eq_pure_bind, run_then k1]; rfl)]
    cases vs with
    | nil => rfl
    | cons v r =>
      cases r with
      | nil => rfl
      | cons u r => simp [tupleOf, run_pure]
  · have hl := k2.len
    cases hq : q.val with
    | nil =>
      rw [hq] at k2 hl
      have : vs = [] := List.eq_nil_of_length_eq_zero (by simpa using hl.symm)
      subst this
      exact VR.undef
    | cons v r =>
      rw [hq] at k2 hl
      cases vs with
      | nil => simp at hl
      | cons v' r' =>
        cases r with
        | nil =>
          have : r' = [] := List.eq_nil_of_length_eq_zero (by simpa using hl.symm)
          subst this
          exact k2.at_ 0 v v' rfl rfl
        | cons u r =>
          cases r' with
          | nil => simp at hl
          | cons u' r' => exact VR.mkTuple k2.array
/-- What comes in beside the bodies. -/
structure ExtOK (P : Program) (ext : FuncId → Option (Array Value → AX Value)) : Prop where
  loc : ∀ f g ags, ext f = some g → Local (g ags)
  ok : ∀ f g, ext f = some g → ∀ args H s q, g args H s = some q → ∀ φ w args', WR P φ H w → VA φ args args' → Free φ s q.s → Calls P f args' w (CallPost P φ H w s q)
theorem call_sound (hm : P.follows .mixedOrders = true) (hok : ∀ (f : FuncId) (fn : Func) (c : Code), P.funcs[f]? = some fn → fn.body = some c → codeOK c = true) {ext : FuncId → Option (Array Value → AX Value)} (he : ExtOK P ext) : ∀ n, CallOK P (aCall P ext n)
  | 0 => by
    intro f args H s q h
    cases h
  | n + 1 => by
    intro f args H s q h φ w args' hw ha hf
    unfold aCall at h
    cases hx : ext f with
    | some g =>
      rw [hx] at h
      exact he.ok f g hx args H s q h φ w args' hw ha hf
    | none =>
      rw [hx] at h
      dsimp only at h
      cases hfn : P.funcs[f]? with
      | none => rw [hfn] at h; cases h
      | some fn =>
        rw [hfn] at h
        dsimp only at h
        unfold aBody at h
        cases hb : fn.body with
        | none => rw [hb] at h; cases h
        | some c =>
          rw [hb] at h
          dsimp only at h
          obtain ⟨o1, o2, e1, e2, rfl⟩ := AX.bind_some h
          have hlc : ∀ f ags, Local (aCall P ext n f ags) := fun f ags => local_aCall he.loc n f ags
          have hu1 : s ≤ o1.s := (local_aCode hlc c _ H s o1 e1).up
          have fin : ∃ o3, aResList P o1.val.2 fn.results.toList o1.H o1.s = some o3 ∧ o2.val = tupleOf o3.val ∧ o2.H = o3.H ∧ o2.s = o3.s ∧ (o1.val.1 = .normal ∨ o1.val.1 = .ret) := by
            cases hv : o1.val.1 with
            | exit id => rw [hv] at e2; cases e2
            | normal =>
              rw [hv] at e2
              obtain ⟨o3, o4, e3, e4, rfl⟩ := AX.bind_some e2
              have := ret_some e4
              subst this
              exact ⟨o3, e3, rfl, rfl, rfl, .inl rfl⟩
            | ret =>
              rw [hv] at e2
              obtain ⟨o3, o4, e3, e4, rfl⟩ := AX.bind_some e2
              have := ret_some e4
              subst this
              exact ⟨o3, e3, rfl, rfl, rfl, .inr rfl⟩
          obtain ⟨o3, g1, g2, g3, g4, g5⟩ := fin
          have hs3 : o3.s = o1.s ∧ o3.H = o1.H := by
            have hall : ∀ (l : List ResultVar) (tm : Array Value) (H : AH) (s : Nat) (q : Out (List Value)), aResList P tm l H s = some q → q.s = s ∧ q.H = H := by
              intro l
              induction l with
              | nil => intro tm H s q h; have := ret_some h; subst this; exact ⟨rfl, rfl⟩
              | cons r l ih =>
                intro tm H s q h
                cases r with
                | tmp t =>
                  unfold aResList at h
                  obtain ⟨p1, p2, f1, f2, rfl⟩ := AX.bind_some h
                  have := ret_some f2
                  subst this
                  have i := ih _ _ _ _ f1
                  exact i
                | cell a t =>
                  unfold aResList at h
                  obtain ⟨p1, p2, f1, f2, rfl⟩ := AX.bind_some h
                  obtain ⟨p3, p4, f3, f4, rfl⟩ := AX.bind_some f2
                  have := ret_some f4
                  subst this
                  obtain ⟨i1, i2⟩ := ih _ _ _ _ f3
                  have hload : p1.s = s ∧ p1.H = H := by
                    unfold aLoad at f1
                    cases hv : tm.getD a undef
                    case pointer ad =>
                      rw [hv] at f1
                      cases ad with
                      | none => cases f1
                      | some ad =>
                        obtain ⟨b, o, sp⟩ := ad
                        cases sp with
                        | some t => cases f1
                        | none =>
                          dsimp only at f1
                          cases hag : aggB P t with
                          | none => rw [hag] at f1; cases f1
                          | some ag =>
                            rw [hag] at f1
                            cases ag with
                            | true =>
                              cases hn : szOf P t with
                              | none => rw [hn] at f1; cases f1
                              | some k =>
                                rw [hn] at f1
                                obtain ⟨r1, r2, t1, t2, rfl⟩ := AX.bind_some f1
                                obtain ⟨_, _, _, _, _, _, h4, h5⟩ := readN_some t1
                                have := ret_some t2
                                subst this
                                exact ⟨h5, h4⟩
                            | false =>
                              obtain ⟨r1, r2, t1, t2, rfl⟩ := AX.bind_some f1
                              obtain ⟨_, h2, h3⟩ := cells_some t1
                              obtain ⟨_, _, rfl⟩ := ofOpt_some t2
                              exact ⟨h3, h2⟩
                    all_goals (rw [hv] at f1; cases f1)
                  exact ⟨i1.trans hload.1, i2.trans hload.2⟩
            exact hall _ _ _ _ _ g1
          have hframe : VA φ (args ++ Array.replicate (fn.ntmps - args.size) undef) (args' ++ Array.replicate (fn.ntmps - args'.size) undef) := by
            rw [← ha.len]
            exact ha.append (VA.refl_undef _)
          refine calls_of_wp hfn hb (code_sound hm (call_sound hm hok he n) hlc c _ _ H s o1 φ w _ (hok f fn c hfn hb) e1 hw hframe (hf.sub (Nat.le_refl _) (by rw [g4, hs3.1]; exact Nat.le_refl _)) (fun φ' tmC' w' k1 k2 k3 k4 => ?_))
          obtain ⟨v, r1, r2, r3, r4⟩ := results_ok (fn := fn) k3 k2 g1
          have hpost : CallPost P φ H w s ⟨o2.val, o2.H, o2.s, o1.D ++ o2.D, o1.W ++ o2.W⟩ (.returned v) w' := by
            refine ⟨φ', v, rfl, ?_, ?_, ?_, ?_⟩
            · show Nx φ φ' s o2.s
              rw [g4, r4]; exact k1
            · show VR φ' o2.val v
              rw [g2]; exact r2
            · show WR P φ' o2.H w'
              rw [g3, r3]; exact k3
            · show Trn φ H w φ' o2.H w'
              rw [g3, r3]; exact k4
          rcases g5 with hv | hv
          · rw [hv]; exact ⟨rfl, v, r1, hpost⟩
          · rw [hv]; exact ⟨rfl, v, r1, hpost⟩
end
end Go.Proofs.YtlkceignfhnpoaaGreatDoor
namespace Go.Proofs.YtlkceignfhnpoaaGreatDoor
open Go AX

def SeenAt (H : AH) (s s' b : Nat) : Prop := (∃ x, H b = some x) ∨ (s ≤ b ∧ b < s')
def Seen {α : Type} (m : AX α) : Prop := ∀ H s o, m H s = some o → ∀ b, b ∈ o.D → SeenAt H s o.s b
structure LS {α : Type} (m : AX α) : Prop where
  loc : Local m
  seen : Seen m
section
variable {P : Program} {α β : Type}
theorem seen_seq {m : AX α} {H : AH} {s : Nat} {o : Out α} (lm : Local1 m H s o) (sm : ∀ b, b ∈ o.D → SeenAt H s o.s b) {p : Out β} (hp : ∀ b, b ∈ p.D → SeenAt o.H o.s p.s b) (up : o.s ≤ p.s) : ∀ b, b ∈ o.D ++ p.D → SeenAt H s p.s b := by
  intro b hb
  have u := lm.up
  rcases List.mem_append.1 hb with h | h
  · rcases sm b h with k | k
    · exact .inl k
    · exact .inr ⟨k.1, by omega⟩
  · rcases hp b h with ⟨x, k⟩ | k
    · by_cases hw : o.wr s b
      · rcases hw with hw | hw
        · rcases sm b (lm.sub b hw) with k | k
          · exact .inl k
          · exact .inr ⟨k.1, by omega⟩
        · exact .inr ⟨hw.1, by omega⟩
      · rw [lm.keep b hw] at k
        exact .inl ⟨x, k⟩
    · exact .inr ⟨by omega, k.2⟩
theorem LS.ret (a : α) : LS (AX.ret a) := ⟨Local.ret a, fun H s o h b hb => by simp [AX.ret] at h; subst h; cases hb⟩
theorem LS.fail : LS (AX.fail : AX α) := ⟨Local.fail, fun H s o h => by cases h⟩
theorem LS.ofOpt (x : Option α) : LS (AX.ofOpt x) := by
  cases x with
  | none => exact ⟨Local.ofOpt _, fun H s o h => by simp [AX.ofOpt] at h⟩
  | some a => exact LS.ret a
theorem LS.get (b : Nat) : LS (AX.get b) := ⟨Local.get b, fun H s o h k hk => by
  unfold AX.get at h
  cases hb : H b with
  | none => rw [hb] at h; cases h
  | some x =>
    rw [hb] at h
    simp only [Option.some.injEq] at h
    subst h
    simp at hk
    subst hk
    exact .inl ⟨x, hb⟩⟩
theorem LS.new (x : AB) : LS (AX.new x) := ⟨Local.new x, fun H s o h b hb => by simp [AX.new] at h; subst h; cases hb⟩
theorem LS.bind {m : AX α} {f : α → AX β} (hm : LS m) (hf : ∀ a, LS (f a)) : LS (AX.bind m f) :=
  ⟨Local.bind hm.loc fun a => (hf a).loc, fun H s q h b hb => by
    obtain ⟨o, p, h1, h2, rfl⟩ := bind_some h
    exact seen_seq (hm.loc _ _ _ h1) (hm.seen _ _ _ h1) ((hf _).seen _ _ _ h2) ((hf _).loc _ _ _ h2).up b hb⟩
theorem LS.ite {c : Prop} [Decidable c] {m m' : AX α} (h : LS m) (h' : LS m') : LS (if c then m else m') := by split <;> assumption
theorem LS.setAt {γ : Type} {get : AX γ} {b : Nat} (hg : LS get) (hr : ∀ H s o, get H s = some o → (∃ x, H b = some x) ∧ o.H = H ∧ o.s = s) {c : γ → Prop} [∀ x, Decidable (c x)] {g : γ → Option AB} {k : γ → AX β} (hk : ∀ x, LS (k x)) : LS (AX.bind get fun x => if c x then AX.bind (AX.set b (g x)) (fun _ => k x) else AX.fail) := by
  refine ⟨Local.bind hg.loc fun x => Local.ite (Local.bind (Local.set _ _) fun _ => (hk x).loc) Local.fail, fun H s q h b' hb' => ?_⟩
  obtain ⟨o, p, h1, h2, rfl⟩ := bind_some h
  obtain ⟨⟨x, hx⟩, e1, e2⟩ := hr _ _ _ h1
  split at h2
  · obtain ⟨o2, p2, h3, h4, rfl⟩ := bind_some h2
    have hset : o2 = ⟨(), upd o.H b (g o.val), o.s, [b], [b]⟩ := by simp [AX.set] at h3; exact h3.symm
    have hl : Local (AX.bind (AX.set b (g o.val)) (fun _ => k o.val)) := Local.bind (Local.set _ _) fun _ => (hk _).loc
    refine seen_seq (hg.loc _ _ _ h1) (hg.seen _ _ _ h1) ?_ (hl _ _ _ h2).up b' hb'
    intro d hd
    refine seen_seq (m := AX.set b (g o.val)) ((Local.set b (g o.val)) _ _ _ h3) ?_ ((hk _).seen _ _ _ h4) ((hk _).loc _ _ _ h4).up d hd
    intro d hd
    rw [hset] at hd
    simp at hd
    subst hd
    rw [e1]
    exact .inl ⟨x, hx⟩
  · cases h2
theorem LS.setC {b : Nat} {c : List Value × TypeId × Bool → Prop} [∀ x, Decidable (c x)] {g : List Value × TypeId × Bool → Option AB} {k : List Value × TypeId × Bool → AX β} (hk : ∀ x, LS (k x)) : LS (AX.bind (AX.cells b) fun x => if c x then AX.bind (AX.set b (g x)) (fun _ => k x) else AX.fail) := by
  refine LS.setAt (LS.bind (LS.get b) fun x => by cases x; exact LS.ret _; exact LS.fail) (fun H s o h => ?_) hk
  unfold AX.cells at h
  obtain ⟨p, q, h1, h2, rfl⟩ := bind_some h
  unfold AX.get at h1
  cases hb : H b with
  | none => rw [hb] at h1; cases h1
  | some x =>
    rw [hb] at h1
    simp only [Option.some.injEq] at h1
    subst h1
    cases x with
    | cells cs T wr => simp [AX.ret] at h2; subst h2; exact ⟨⟨_, rfl⟩, rfl, rfl⟩
    | map kv => cases h2
theorem LS.setE {b : Nat} {c : List (Value × Value) → Prop} [∀ x, Decidable (c x)] {g : List (Value × Value) → Option AB} {k : List (Value × Value) → AX β} (hk : ∀ x, LS (k x)) : LS (AX.bind (AX.entries b) fun x => if c x then AX.bind (AX.set b (g x)) (fun _ => k x) else AX.fail) := by
  refine LS.setAt (LS.bind (LS.get b) fun x => by cases x; exact LS.fail; exact LS.ret _) (fun H s o h => ?_) hk
  unfold AX.entries at h
  obtain ⟨p, q, h1, h2, rfl⟩ := bind_some h
  unfold AX.get at h1
  cases hb : H b with
  | none => rw [hb] at h1; cases h1
  | some x =>
    rw [hb] at h1
    simp only [Option.some.injEq] at h1
    subst h1
    cases x with
    | cells cs T wr => cases h2
    | map kv => simp [AX.ret] at h2; subst h2; exact ⟨⟨_, rfl⟩, rfl, rfl⟩
theorem ls_cells (b : Nat) : LS (AX.cells b) := LS.bind (LS.get b) fun x => by cases x; exact LS.ret _; exact LS.fail
theorem ls_entries (b : Nat) : LS (AX.entries b) := LS.bind (LS.get b) fun x => by cases x; exact LS.fail; exact LS.ret _
theorem ls_readN (b o n : Nat) : LS (AX.readN b o n) := LS.bind (ls_cells b) fun x => LS.ite (LS.ret _) LS.fail
theorem ls_newC (T : TypeId) (cs : List Value) : LS (AX.newC T cs) := LS.ite (LS.bind (LS.new _) fun b => LS.ret _) LS.fail
theorem ls_aLoad (T : TypeId) (v : Value) : LS (aLoad P T v) := by
  unfold aLoad
  split
  · split
    · split
      · exact LS.bind (ls_readN _ _ _) fun _ => LS.ret _
      · exact LS.fail
    · exact LS.bind (ls_cells _) fun _ => LS.ofOpt _
    · exact LS.fail
  · exact LS.fail
theorem ls_aStore (T : TypeId) (p v : Value) : LS (aStore P T p v) := by
  unfold aStore
  split
  · exact LS.ite (LS.setC fun _ => LS.ret _) LS.fail
  · exact LS.fail
theorem ls_aBuildSlice (T : TypeId) (len : Nat) (ps : Array (Nat × Value)) : LS (aBuildSlice P T len ps) := by
  unfold aBuildSlice
  split
  · split
    · refine LS.ite ?_ LS.fail
      split
      · exact LS.ite (LS.bind (LS.new _) fun _ => LS.ret _) LS.fail
      · exact LS.fail
    · exact LS.fail
  · exact LS.fail
theorem ls_aNilCheck (v : Value) : LS (aNilCheck v) := by
  unfold aNilCheck
  split
  · exact LS.ret _
  · exact LS.ret _
  · exact LS.fail
theorem ls_ofStat (m : Sem Value) : LS (ofStat P m) := by
  unfold ofStat
  split
  · exact LS.ite (LS.ret _) LS.fail
  · exact LS.fail
theorem ls_aBin (op : BinOp) (T : TypeId) (ox oy : Operand) (x y : Value) : LS (aBin P op T ox oy x y) := by
  unfold aBin
  refine LS.ite (ls_ofStat _) ?_
  split
  · exact LS.ite (LS.ret _) LS.fail
  · exact LS.ite (LS.ret _) LS.fail
  · exact LS.ite (LS.ret _) LS.fail
  · exact LS.ite (LS.ret _) LS.fail
  · exact LS.fail
theorem ls_aMakeSlice (T : TypeId) (l c : Value) : LS (aMakeSlice P T l c) := by
  unfold aMakeSlice
  split
  · split
    · split
      · exact LS.ite (LS.ite (LS.bind (LS.new _) fun _ => LS.ret _) LS.fail) LS.fail
      · exact LS.fail
    · exact LS.fail
  · exact LS.fail
theorem ls_aSlice (T : TypeId) (x : Value) (lo hi mx : Option Value) : LS (aSlice P T x lo hi mx) := by
  unfold aSlice
  split
  · exact LS.fail
  · split
    · split
      · exact LS.ite (LS.ret _) LS.fail
      · exact LS.fail
    · split
      · split
        · refine LS.ite ?_ LS.fail
          split
          · exact LS.ret _
          · exact LS.bind (ls_cells _) fun _ => LS.ite (LS.ret _) LS.fail
          · exact LS.fail
        · exact LS.fail
      · exact LS.fail
    · exact LS.fail
theorem ls_aFieldAddr (T : TypeId) (x : Value) (i : Nat) : LS (aFieldAddr P T x i) := by
  unfold aFieldAddr
  split
  · split
    · exact LS.ite LS.fail (LS.ret _)
    · exact LS.fail
  · exact LS.fail
theorem ls_aField (T : TypeId) (x : Value) (i : Nat) : LS (aField P T x i) := by
  unfold aField
  split
  · split
    · exact LS.ofOpt _
    · exact LS.fail
  · exact LS.fail
theorem ls_aIndexAddr (T : TypeId) (x i : Value) : LS (aIndexAddr P T x i) := by
  unfold aIndexAddr
  split
  · split
    · split
      · exact LS.ite (LS.ret _) LS.fail
      · exact LS.fail
    · split
      · exact LS.ite (LS.ret _) LS.fail
      · exact LS.fail
    · exact LS.fail
  · exact LS.fail
theorem ls_aIndex (T : TypeId) (x i : Value) : LS (aIndex P T x i) := by
  unfold aIndex
  split
  · split
    · split
      · exact LS.ite (LS.ofOpt _) LS.fail
      · exact LS.fail
    · exact LS.fail
  · exact ls_ofStat _
  · exact LS.fail
theorem ls_aLookup (T : TypeId) (m k : Value) (ok : Bool) : LS (aLookup P T m k ok) := by
  unfold aLookup
  split
  · refine LS.ite ?_ LS.fail
    split
    · split
      · exact LS.ret _
      · exact LS.fail
    · refine LS.bind (ls_entries _) fun _ => LS.ite ?_ LS.fail
      split
      · exact LS.ret _
      · split
        · exact LS.ret _
        · exact LS.fail
    · exact LS.fail
  · exact LS.fail
theorem ls_aMapUpdate (T : TypeId) (m k v : Value) : LS (aMapUpdate P T m k v) := by
  unfold aMapUpdate
  split
  · refine LS.ite ?_ LS.fail
    split
    · exact LS.setE fun _ => LS.ret _
    · exact LS.fail
  · exact LS.fail
theorem ls_aDelete (T : TypeId) (m k : Value) : LS (aDelete P T m k) := by
  unfold aDelete
  split
  · refine LS.ite ?_ LS.fail
    split
    · exact LS.setE fun _ => LS.ret _
    · exact LS.fail
  · exact LS.fail
theorem ls_aLen (T : TypeId) (v : Value) : LS (aLen P T v) := by
  unfold aLen
  split
  · exact LS.ret _
  · exact LS.ret _
  · exact LS.ret _
  · exact LS.ret _
  · exact LS.bind (ls_entries _) fun _ => LS.ret _
  · exact LS.fail
theorem ls_sliceCells (size : Nat) (x : Value) : LS (sliceCells size x) := by
  unfold sliceCells
  split
  · exact LS.ret _
  · exact LS.ite (LS.ret _) (ls_readN _ _ _)
  · exact LS.fail
theorem ls_aAppend (T T2 : TypeId) (x y : Value) : LS (aAppend P T T2 x y) := by
  unfold aAppend
  split
  · split
    · refine LS.ite LS.fail (LS.ite (LS.ret _) (LS.ite (LS.bind (ls_sliceCells _ _) fun _ => ?_) LS.fail))
      split
      · exact LS.ite (LS.bind (LS.new _) fun _ => LS.ret _) LS.fail
      · exact LS.setC fun _ => LS.bind (LS.new _) fun _ => LS.ret _
      · exact LS.fail
    · exact LS.fail
  · exact LS.fail
theorem ls_aCopy (T : TypeId) (x y : Value) : LS (aCopy P T x y) := by
  unfold aCopy
  split
  · split
    · refine LS.ite (LS.ret _) (LS.ite (LS.bind (ls_sliceCells _ _) fun _ => ?_) LS.fail)
      split
      · exact LS.setC fun _ => LS.ret _
      · exact LS.fail
    · exact LS.fail
  · exact LS.fail
theorem ls_aClear (T : TypeId) (x : Value) : LS (aClear P T x) := by
  unfold aClear
  split
  · split
    · refine LS.ite (LS.ret _) ?_
      split
      · exact LS.setC fun _ => LS.ret _
      · exact LS.fail
    · exact LS.fail
  · exact LS.fail
theorem ls_aBuiltin (b : Builtin) (ts : Array TypeId) (vs : Array Value) : LS (aBuiltin P b ts vs) := by
  unfold aBuiltin
  split
  · exact ls_aLen _ _
  · exact ls_aAppend _ _ _ _
  · exact ls_aCopy _ _ _
  · exact ls_aDelete _ _ _
  · exact ls_aClear _ _
  · exact LS.ite (ls_ofStat _) LS.fail
  · exact LS.ite (ls_ofStat _) LS.fail
  · exact LS.fail
theorem ls_aOp {call : FuncId → Array Value → AX Value} (hc : ∀ f ags, LS (call f ags)) (o : Oper) (tm : Array Value) : LS (aOp P call o tm) := by
  unfold aOp
  refine LS.ite ?_ LS.fail
  split
  · exact LS.ret _
  · exact LS.ret _
  · split
    · exact LS.ret _
    · exact LS.fail
  · split
    · exact ls_newC _ _
    · exact LS.fail
  · exact ls_newC _ _
  · exact LS.ite (LS.ofOpt _) LS.fail
  · exact ls_aBuildSlice _ _ _
  · exact ls_aLoad _ _
  · exact ls_aStore _ _ _
  · exact ls_aNilCheck _
  · exact ls_aBin _ _ _ _ _ _
  · exact LS.ite (ls_ofStat _) LS.fail
  · exact LS.ite (ls_ofStat _) LS.fail
  · split
    · exact LS.ret _
    · exact LS.fail
  · split
    · exact LS.bind (LS.new _) fun _ => LS.ret _
    · split
      · exact LS.bind (LS.new _) fun _ => LS.ret _
      · exact LS.fail
    · exact LS.fail
  · exact ls_aMakeSlice _ _ _
  · exact ls_aSlice _ _ _ _ _
  · exact ls_aFieldAddr _ _ _
  · exact ls_aField _ _ _
  · exact ls_aIndexAddr _ _ _
  · exact ls_aIndex _ _ _
  · exact ls_aLookup _ _ _ _
  · exact ls_aMapUpdate _ _ _ _
  · split
    · exact LS.ofOpt _
    · exact LS.fail
  · split
    · split
      · exact LS.ite (hc _ _) LS.fail
      · exact LS.fail
    · exact ls_aBuiltin _ _ _
    · exact LS.fail
  · exact LS.fail
theorem ls_aVal {call : FuncId → Array Value → AX Value} (hc : ∀ f ags, LS (call f ags)) (ops : Array Oper) (o : Oper) (tm : Array Value) : LS (aVal P call ops o tm) := LS.ite (ls_aOp hc o tm) (LS.ret _)
theorem ls_aSeq {call : FuncId → Array Value → AX Value} (hc : ∀ f ags, LS (call f ags)) (ops : Array Oper) : ∀ (l : List Oper) (tm : Array Value), LS (aSeq P call ops l tm)
  | [], tm => LS.ret _
  | o :: r, tm => ⟨local_aSeq (fun f xs => (hc f xs).loc) ops (o :: r) tm, by
    intro H s q h
    unfold aSeq at h
    cases h1 : aStep P call ops o tm H s with
    | none => rw [h1] at h; cases h
    | some x =>
      rw [h1] at h
      dsimp only at h
      cases h2 : aSeq P call ops r x.val x.H x.s with
      | none => rw [h2] at h; cases h
      | some y =>
        rw [h2] at h
        simp only [Option.some.injEq] at h
        subst h
        have hl : LS (aStep P call ops o tm) := LS.bind (ls_aVal hc ops o tm) fun _ => LS.ret _
        have ih := ls_aSeq hc ops r x.val
        exact seen_seq (hl.loc H s x h1) (hl.seen H s x h1) (ih.seen _ _ _ h2) (ih.loc _ _ _ h2).up⟩
theorem ls_aRegion {call : FuncId → Array Value → AX Value} (hc : ∀ f ags, LS (call f ags)) (ops : Array Oper) (draw : Bool) (tm : Array Value) : LS (aRegion P call ops draw tm) := by
  unfold aRegion
  exact LS.ite (LS.bind (ls_aSeq hc ops _ _) fun _ => LS.ite (LS.ret _) LS.fail) (LS.bind (ls_aSeq hc ops _ _) fun _ => LS.ret _)
theorem ls_aLoop {body : Array Value → AX (AExit × Array Value)} (hb : ∀ tm, LS (body tm)) : ∀ n tm, LS (aLoop body n tm)
  | 0, tm => LS.fail
  | n + 1, tm => LS.bind (hb tm) fun x => by
    split
    · exact ls_aLoop hb n _
    · exact LS.ret _
    · exact LS.ret _
theorem ls_aCode {call : FuncId → Array Value → AX Value} (hc : ∀ f ags, LS (call f ags)) : ∀ (c : Code) (tm : Array Value), LS (aCode P call c tm)
  | .skip, tm => by unfold aCode; exact LS.ret _
  | .label _, tm => by unfold aCode; exact LS.ret _
  | .region _ ops draw, tm => by unfold aCode; exact LS.bind (ls_aRegion hc ops draw tm) fun _ => LS.ret _
  | .seq a b, tm => by
    unfold aCode
    refine LS.bind (ls_aCode hc a tm) fun x => ?_
    split
    · exact ls_aCode hc b _
    · exact LS.ret _
    · exact LS.ret _
  | .cond c a b, tm => by
    unfold aCode
    refine LS.ite LS.fail ?_
    split
    · exact LS.ite (ls_aCode hc a tm) (ls_aCode hc b tm)
    · exact LS.fail
  | .block id c, tm => by
    unfold aCode
    refine LS.bind (ls_aCode hc c tm) fun x => ?_
    split
    · exact LS.ret _
    · exact LS.ite (LS.ret _) (LS.ret _)
    · exact LS.ret _
  | .loop c, tm => by unfold aCode; exact ls_aLoop (ls_aCode hc c) _ _
  | .scope c, tm => by unfold aCode; exact ls_aCode hc c tm
  | .exit id, tm => by unfold aCode; exact LS.ret _
  | .ret, tm => by unfold aCode; exact LS.ret _
  | .rangeFunc .., tm => by unfold aCode; exact LS.fail
  | .goto _, tm => by unfold aCode; exact LS.fail
  | .refuse _, tm => by unfold aCode; exact LS.fail
theorem ls_aResList (tm : Array Value) : ∀ l, LS (aResList P tm l)
  | [] => LS.ret _
  | .tmp t :: r => LS.bind (ls_aResList tm r) fun _ => LS.ret _
  | .cell a t :: r => LS.bind (ls_aLoad _ _) fun _ => LS.bind (ls_aResList tm r) fun _ => LS.ret _
theorem ls_aBody {call : FuncId → Array Value → AX Value} (hc : ∀ f ags, LS (call f ags)) (fn : Func) (args : Array Value) : LS (aBody P call fn args) := by
  unfold aBody
  split
  · refine LS.bind (ls_aCode hc _ _) fun x => ?_
    split
    · exact LS.fail
    · exact LS.bind (ls_aResList _ _) fun _ => LS.ret _
  · exact LS.fail
theorem ls_aCall {ext : FuncId → Option (Array Value → AX Value)} (he : ∀ f g ags, ext f = some g → LS (g ags)) : ∀ n f args, LS (aCall P ext n f args)
  | 0, f, args => LS.fail
  | n + 1, f, args => by
    unfold aCall
    split
    · rename_i g hg; exact he f g args hg
    · split
      · exact ls_aBody (ls_aCall he n) _ _
      · exact LS.fail
end
/-- Nothing lies from s on. -/
def Bd (H : AH) (s : Nat) : Prop := ∀ k, s ≤ k → H k = none
theorem LS.bd {α : Type} {m : AX α} (h : LS m) {H : AH} {s : Nat} {o : Out α} (e : m H s = some o) (hb : Bd H s) : s ≤ o.s ∧ Bd o.H o.s ∧ (∀ b, b ∈ o.D → b < o.s) ∧ ∀ b, b ∈ o.W → b < o.s := by
  have l := h.loc _ _ _ e
  have hD : ∀ b, b ∈ o.D → b < o.s := fun b hm => by
    have u := l.up
    rcases h.seen _ _ _ e b hm with ⟨x, k⟩ | k
    · by_cases hs : s ≤ b
      · rw [hb b hs] at k; cases k
      · omega
    · exact k.2
  refine ⟨l.up, fun k hk => ?_, hD, fun b hm => hD b (l.sub b hm)⟩
  have u := l.up
  rw [l.keep k]
  · exact hb k (by omega)
  · rintro (h1 | h1)
    · have := hD k (l.sub k h1); omega
    · omega
end Go.Proofs.YtlkceignfhnpoaaGreatDoor
