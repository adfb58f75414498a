/-
  Slices of texts, of epochs and of notes that came in, opened as the walks read them.
-/
import Derived.Test.YtanmdmidjeobeaaEpRead
import Derived.Test.YtanmdmidjeobeaaLaw
import Derived.SliceStrings
import Derived.Deep.Slices
import Derived.Deep.Fields
set_option linter.unusedVariables false
set_option linter.unusedSimpArgs false
namespace Go.Proofs.Ytanmdmidjeobeaa
open Go.ChangeShapes Go.WideShapes Go.ChangeAt Go.RowKit

theorem add_at_none {a : Addr} (hs : a.spot = none) (k : Nat) : a.add k = ⟨a.block, a.off + k, none⟩ := by
  cases a; simp_all [Addr.add]
theorem strs_of_trod {H : Type} {enc : TypeId × Value → H} {P : Program} {w : World} {t e : TypeId} {fuel : Nat} {cs : List Value} {x : DataW H × List MemPlace} (ht : P.underlying t = some (.slice e)) (he : P.underlying e = some .string) (hc : P.cellsOf e = 1)
    (h : DataW.trod enc P w 0 (fun _ => true) true fuel t cs = some x) : ∃ v ss, cs = [v] ∧ StrsR w v ss := by
  rcases open_strings ht he hc h with ⟨hcs, hx⟩ | ⟨a, len, cap, zs, hcs, _, hl, hm, hz, hx, hcell, hwz⟩
  · exact ⟨_, [], hcs, none, 0, rfl, by simp, by simp, by simp, by simp⟩
  · simp only [if_true] at hz
    have hll : (zs.take len).length = len := by simp; omega
    refine ⟨_, zs.take len, hcs, some a, cap, by rw [hll], by omega, by unfold maxLen at hm; omega, fun hc0 => ?_, ?_⟩
    · have h0 := hcell 0 (by omega)
      have hs : a.spot = none := World.cell?_spot (by simpa [Addr.add] using h0)
      exact ⟨a.block, a.off, by cases a; simp_all⟩
    · rintro b o hbo j hj
      cases hbo
      rw [hll] at hj
      have h0 := hcell j (by omega)
      rw [add_at_none rfl] at h0
      rw [h0]
      simp [List.getD_eq_getElem?_getD, hj]

/-- The cells of a slice of structs whose fields are one cell each. -/
theorem fields_of_trod {H : Type} {enc : TypeId × Value → H} {P : Program} {w : World} {t e : TypeId} {fs : Array Field} {fuel : Nat} {cs : List Value} {x : DataW H × List MemPlace} (ht : P.underlying t = some (.slice e)) (he : P.underlying e = some (.struct fs))
    (hone : Deep.oneCellFields P fs = true) (hC : P.cellsOf e = fs.size) (h0 : 0 < fs.size) (h : DataW.trod enc P w 0 (fun _ => true) true fuel t cs = some x) :
    (cs = [.slice none 0 0]) ∨ (∃ (a : Addr), cs = [.slice (some a) 0 0]) ∨ (∃ (b o len cap : Nat), cs = [.slice (some ⟨b, o, none⟩) len cap] ∧ len ≤ cap ∧ cap ≤ maxLen ∧ 0 < cap ∧
      ∀ i, i < cap → ∀ (j : Nat) (f : Field), fs[j]? = some f → ∃ (v : Value) (n : Nat) (y : DataW H × List MemPlace), w.cell? ⟨b, o + (i * fs.size + j), none⟩ = some v ∧ DataW.trod enc P w 0 (fun _ => true) true n f.type [v] = some y) := by
  rcases Deep.open_slice ht h with h0 | ⟨a, len, cap, m, n, D, Pl, hcs, hb, hl, hm, hmm, hx, hi⟩
  · exact Or.inl h0.1
  · simp only [if_true] at hmm
    subst hmm
    have key : ∀ i, i < m → ∀ (j : Nat) (f : Field), fs[j]? = some f → ∃ (v : Value) (n : Nat) (y : DataW H × List MemPlace), w.cell? (a.add (i * fs.size + j)) = some v ∧ DataW.trod enc P w 0 (fun _ => true) true n f.type [v] = some y := by
      intro i him j f hj
      obtain ⟨cs', hc, ht'⟩ := hi i him
      rw [hC] at hc
      obtain ⟨ys, n', hn', hy, hlen, hyl, hf⟩ := DataW.trod_struct he ht'
      obtain ⟨_, hcl, hat⟩ := World.cells?_some hc
      obtain ⟨ho, hk⟩ := Deep.hone_of hone j f hj
      have hjl : j < fs.size := (Array.getElem?_eq_some_iff.1 hj).1
      have hcell := hat j hjl
      have hv : cs'[j]? = some (cs'[j]'(by omega)) := List.getElem?_eq_getElem (by omega)
      have h1 := hf j f hj
      rw [ho, hk] at h1
      have hone' : (cs'.drop j).take 1 = [cs'[j]'(by omega)] := by
        rw [List.drop_eq_getElem_cons (by omega)]
        rfl
      rw [hone'] at h1
      have hys : ys[j]? = some (ys[j]'(by omega)) := List.getElem?_eq_getElem (by omega)
      exact ⟨_, n', _, by rw [← Go.Deep.add_add, hcell, hv], h1.trans hys⟩
    by_cases hc0 : m = 0
    · subst hc0
      obtain rfl : len = 0 := by omega
      exact Or.inr (Or.inl ⟨a, hcs⟩)
    · refine Or.inr (Or.inr ⟨a.block, a.off, len, m, ?_⟩)
      obtain ⟨f, hf⟩ : ∃ f, fs[0]? = some f := ⟨fs[0], by simp [h0]⟩
      obtain ⟨v, _, _, hcell, _⟩ := key 0 (by omega) 0 f hf
      have hs : a.spot = none := World.cell?_spot (by simpa [Addr.add] using hcell)
      refine ⟨by rw [hcs]; cases a; simp_all, hl, hm, by omega, fun i hi j f hf => ?_⟩
      obtain ⟨v, n, y, hc, hy⟩ := key i hi j f hf
      rw [add_at_none hs] at hc
      exact ⟨v, n, y, hc, hy⟩

/-- A slice value that reads as these epochs, however many. -/
def EpsB (w : World) (v : Value) (es : List (List ByteArray × List ByteArray)) : Prop :=
  ∃ a c, v = .slice a es.length c ∧ es.length ≤ c ∧ es.length ≤ 9223372036854775807 ∧ (0 < c → ∃ b o, a = some ⟨b, o, none⟩) ∧
    (∀ b o, a = some ⟨b, o, none⟩ → ∀ j (h : j < es.length), ∃ sv gv, w.cell? ⟨b, o + j * 2, none⟩ = some sv ∧ w.cell? ⟨b, o + j * 2 + 1, none⟩ = some gv ∧ StrsR w sv es[j].1 ∧ StrsR w gv es[j].2)

theorem eps_of_trod {H : Type} {enc : TypeId × Value → H} {w : World} {fuel : Nat} {cs : List Value} {x : DataW H × List MemPlace} (h : DataW.trod enc Try.prog w 0 (fun _ => true) true fuel 24 cs = some x) : ∃ v es, cs = [v] ∧ EpsB w v es := by
  rcases fields_of_trod Try.underlying24 Try.underlying49 (by kernel_rfl) (by kernel_rfl) (by decide) h with h0 | ⟨a, hcs⟩ | ⟨b, o, len, cap, hcs, hl, hm, hc0, key⟩
  · exact ⟨_, [], h0, none, 0, rfl, by simp, by simp, by simp, by simp⟩
  · exact ⟨_, [], hcs, some a, 0, rfl, by simp, by simp, by simp, by simp⟩
  · have hlen : (2 : Nat) = 2 := rfl
    have k2 : ∀ i, i < cap → ∃ (p : List ByteArray × List ByteArray), ∃ sv gv, w.cell? ⟨b, o + i * 2, none⟩ = some sv ∧ w.cell? ⟨b, o + i * 2 + 1, none⟩ = some gv ∧ StrsR w sv p.1 ∧ StrsR w gv p.2 := by
      intro i hi
      obtain ⟨v0, n0, y0, c0, t0⟩ := key i hi 0 _ rfl
      obtain ⟨v1, n1, y1, c1, t1⟩ := key i hi 1 _ rfl
      obtain ⟨u0, s0, e0, hs0⟩ := strs_of_trod Try.underlying45 Try.underlying9 (by kernel_rfl) t0
      obtain ⟨u1, s1, e1, hs1⟩ := strs_of_trod Try.underlying45 Try.underlying9 (by kernel_rfl) t1
      simp only [List.cons.injEq, and_true] at e0 e1
      subst e0; subst e1
      exact ⟨(s0, s1), v0, v1, c0, c1, hs0, hs1⟩
    let f : Nat → List ByteArray × List ByteArray := fun i => if hi : i < cap then (k2 i hi).choose else ([], [])
    have hf : ∀ i, i < cap → ∃ sv gv, w.cell? ⟨b, o + i * 2, none⟩ = some sv ∧ w.cell? ⟨b, o + i * 2 + 1, none⟩ = some gv ∧ StrsR w sv (f i).1 ∧ StrsR w gv (f i).2 := by
      intro i hi
      have := (k2 i hi).choose_spec
      simpa [f, hi] using this
    refine ⟨_, (List.range len).map f, hcs, _, cap, by simp, by simpa using hl, by unfold maxLen at hm; simp; omega, fun _ => ⟨b, o, rfl⟩, ?_⟩
    rintro b' o' hbo j hj
    cases hbo
    have hj2 : j < len := by simpa using hj
    obtain ⟨sv, gv, q1, q2, q3, q4⟩ := hf j (by omega)
    exact ⟨sv, gv, q1, q2, by simpa using q3, by simpa using q4⟩

/-- A note. -/
structure Nt where
  en : Int
  what : Int
  how : Int
  data : ByteArray
def NotesR (w : World) (v : Value) (ns : List Nt) : Prop :=
  ∃ a c, v = .slice a ns.length c ∧ ns.length ≤ c ∧ ns.length ≤ 9223372036854775807 ∧ (0 < c → ∃ b o, a = some ⟨b, o, none⟩) ∧
    (∀ b o, a = some ⟨b, o, none⟩ → ∀ j (h : j < ns.length), w.cell? ⟨b, o + j * 4, none⟩ = some (.int .i64 ns[j].en) ∧ w.cell? ⟨b, o + j * 4 + 1, none⟩ = some (.int .i64 ns[j].what) ∧ w.cell? ⟨b, o + j * 4 + 2, none⟩ = some (.int .i64 ns[j].how) ∧ w.cell? ⟨b, o + j * 4 + 3, none⟩ = some (.string ns[j].data))
theorem notes_of_trod {H : Type} {enc : TypeId × Value → H} {w : World} {fuel : Nat} {cs : List Value} {x : DataW H × List MemPlace} (h : DataW.trod enc Try.prog w 0 (fun _ => true) true fuel 22 cs = some x) : ∃ v ns, cs = [v] ∧ NotesR w v ns := by
  rcases fields_of_trod Try.underlying22 Try.underlying31 (by kernel_rfl) (by kernel_rfl) (by decide) h with h0 | ⟨a, hcs⟩ | ⟨b, o, len, cap, hcs, hl, hm, hc0, key⟩
  · exact ⟨_, [], h0, none, 0, rfl, by simp, by simp, by simp, by simp⟩
  · exact ⟨_, [], hcs, some a, 0, rfl, by simp, by simp, by simp, by simp⟩
  · have k2 : ∀ i, i < cap → ∃ (p : Nt), w.cell? ⟨b, o + i * 4, none⟩ = some (.int .i64 p.en) ∧ w.cell? ⟨b, o + i * 4 + 1, none⟩ = some (.int .i64 p.what) ∧ w.cell? ⟨b, o + i * 4 + 2, none⟩ = some (.int .i64 p.how) ∧ w.cell? ⟨b, o + i * 4 + 3, none⟩ = some (.string p.data) := by
      intro i hi
      obtain ⟨v0, n0, y0, c0, t0⟩ := key i hi 0 _ rfl
      obtain ⟨v1, n1, y1, c1, t1⟩ := key i hi 1 _ rfl
      obtain ⟨v2, n2, y2, c2, t2⟩ := key i hi 2 _ rfl
      obtain ⟨v3, n3, y3, c3, t3⟩ := key i hi 3 _ rfl
      obtain ⟨k0, e0, -, -⟩ := DataW.trod_int Try.underlying3 t0
      obtain ⟨k1, e1, -, -⟩ := DataW.trod_int Try.underlying3 t1
      obtain ⟨k2, e2, -, -⟩ := DataW.trod_int Try.underlying3 t2
      obtain ⟨k3, e3, -, -⟩ := DataW.trod_string Try.underlying9 t3
      simp only [List.cons.injEq, and_true] at e0 e1 e2 e3
      subst e0; subst e1; subst e2; subst e3
      exact ⟨⟨k0, k1, k2, k3⟩, c0, c1, c2, c3⟩
    let f : Nat → Nt := fun i => if hi : i < cap then (k2 i hi).choose else ⟨0, 0, 0, ⟨#[]⟩⟩
    have hf : ∀ i, i < cap → w.cell? ⟨b, o + i * 4, none⟩ = some (.int .i64 (f i).en) ∧ w.cell? ⟨b, o + i * 4 + 1, none⟩ = some (.int .i64 (f i).what) ∧ w.cell? ⟨b, o + i * 4 + 2, none⟩ = some (.int .i64 (f i).how) ∧ w.cell? ⟨b, o + i * 4 + 3, none⟩ = some (.string (f i).data) := by
      intro i hi
      have := (k2 i hi).choose_spec
      simpa [f, hi] using this
    refine ⟨_, (List.range len).map f, hcs, _, cap, by simp, by simpa using hl, by unfold maxLen at hm; simp; omega, fun _ => ⟨b, o, rfl⟩, ?_⟩
    rintro b' o' hbo j hj
    cases hbo
    have hj2 : j < len := by simpa using hj
    have := hf j (by omega)
    simpa using this
end Go.Proofs.Ytanmdmidjeobeaa
