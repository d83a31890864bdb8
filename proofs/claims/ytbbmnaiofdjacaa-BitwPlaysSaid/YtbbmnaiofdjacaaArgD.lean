/- Slices of structs of three whole numbers: this session's own reading. -/
import Derived.Test.YtbbmnaiofdjacaaWWords
import Derived.Deep.SlicePairs
import Derived.Lib.SmallJoins
import Derived.ChangeArms
set_option linter.unusedVariables false
set_option linter.unusedSimpArgs false
set_option linter.unusedSectionVars false
namespace Go.Proofs.Ytbbmnaiofdjacaa.Arg
open Go.RowKit Go.ChangeShapes Go.WideShapes Go.Deep Go.Joins Go.Proofs.YtbbmnaiofdjacaaW.PrintWords
section
variable {H : Type} {enc : TypeId × Value → H} {P : Program} {W : World} {base : Nat}
theorem triples {α : Type} (K : α → List Value → Prop) (mk : Int → Int → Int → α) {t e : TypeId} {f0 f1 f2 : Field} {k0 k1 k2 : IntKind} {a : Option Addr} {len cap : Nat} {x : DataW H} {ps : List MemPlace}
    (hK : ∀ x y z, K (mk x y z) [.int k0 x, .int k1 y, .int k2 z])
    (ht : P.underlying t = some (.slice e)) (he : P.underlying e = some (.struct #[f0, f1, f2])) (ce : P.cellsOf e = 3) (o0 : f0.offset = 0) (o1 : f1.offset = 1) (o2 : f2.offset = 2) (c0 : P.cellsOf f0.type = 1) (c1 : P.cellsOf f1.type = 1) (c2 : P.cellsOf f2.type = 1)
    (u0 : P.underlying f0.type = some (.int k0)) (u1 : P.underlying f1.type = some (.int k1)) (u2 : P.underlying f2.type = some (.int k2))
    (h : DataW.Trod enc P W base (fun _ => true) true t (.slice a len cap) x ps) :
    ∃ l : List α, len = l.length ∧ ReadsRow K 3 W a l.length l ∧ l.length ≤ cap ∧ ∀ p ∈ l, ∃ x y z, p = mk x y z ∧ (Lit.int k0 x).wf = true ∧ (Lit.int k1 y).wf = true ∧ (Lit.int k2 z).wf = true := by
  obtain ⟨fuel, hf⟩ := h
  rcases open_slice ht hf with ⟨hcs, _⟩ | ⟨b, l, c, m, n, D, Pl, hcs, hb, hl, hm, hmm, _, hx⟩
  · simp [Value.cells] at hcs
    obtain ⟨rfl, rfl, rfl⟩ := hcs
    exact ⟨[], rfl, ⟨rfl, by simp, fun hn => by simp at hn⟩, by simp, fun p hp => by cases hp⟩
  · simp [Value.cells] at hcs
    obtain ⟨rfl, rfl, rfl⟩ := hcs
    simp only [if_true] at hmm
    subst hmm
    have each : ∀ i, i < m → ∃ q : Int × Int × Int, (W.cell? (b.add (i * 3)) = some (.int k0 q.1) ∧ W.cell? (b.add (i * 3 + 1)) = some (.int k1 q.2.1) ∧ W.cell? (b.add (i * 3 + 2)) = some (.int k2 q.2.2)) ∧ (Lit.int k0 q.1).wf = true ∧ (Lit.int k1 q.2.1).wf = true ∧ (Lit.int k2 q.2.2).wf = true := by
      intro i hi
      obtain ⟨cs', h1, h2⟩ := hx i hi
      rw [ce] at h1
      obtain ⟨_, hlen, hcell⟩ := World.cells?_some h1
      obtain ⟨xs, k, hk, hxy, _, hxl, hf⟩ := DataW.trod_struct he h2
      match xs, hxl, cs', hlen with
      | [y0, y1, y2], _, [v0, v1, v2], _ =>
        have g0 := hf 0 f0 rfl
        have g1 := hf 1 f1 rfl
        have g2 := hf 2 f2 rfl
        simp [o0, o1, o2, c0, c1, c2] at g0 g1 g2
        have e0 := hcell 0 (by omega)
        have e1 := hcell 1 (by omega)
        have e2 := hcell 2 (by omega)
        rw [Go.Deep.add_add] at e0 e1 e2
        obtain ⟨z0, a0, _, w0⟩ := DataW.trod_int u0 g0
        obtain ⟨z1, a1, _, w1⟩ := DataW.trod_int u1 g1
        obtain ⟨z2, a2, _, w2⟩ := DataW.trod_int u2 g2
        simp at a0 a1 a2
        subst a0; subst a1; subst a2
        exact ⟨(z0, z1, z2), ⟨by simpa using e0, by simpa using e1, by simpa using e2⟩, w0, w1, w2⟩
    obtain ⟨q, hq⟩ := choose_lt each
    have hmx : maxLen = 9223372036854775807 := rfl
    have hlen : ((List.range len).map fun i => mk (q i).1 (q i).2.1 (q i).2.2).length = len := by simp
    refine ⟨(List.range len).map fun i => mk (q i).1 (q i).2.1 (q i).2.2, hlen.symm, ⟨rfl, by rw [hlen]; omega, fun _ => ⟨b, rfl, fun j p hj => ?_⟩⟩, by rw [hlen]; exact hl, fun p hp => ?_⟩
    · have hjl : j < len := by
        have := (List.getElem?_eq_some_iff.1 hj).1
        simpa using this
      have hp : mk (q j).1 (q j).2.1 (q j).2.2 = p := by
        rw [List.getElem?_map, List.getElem?_range hjl] at hj
        simpa using hj
      subst hp
      obtain ⟨⟨g0, g1, g2⟩, _⟩ := hq j (by omega)
      refine ⟨[.int k0 (q j).1, .int k1 (q j).2.1, .int k2 (q j).2.2], rfl, hK _ _ _, fun i u hu => ?_⟩
      match i, hu with
      | 0, hu => simp at hu; subst hu; exact g0
      | 1, hu => simp at hu; subst hu; exact g1
      | 2, hu => simp at hu; subst hu; exact g2
    · obtain ⟨i, hi, rfl⟩ := List.mem_map.1 hp
      have := List.mem_range.1 hi
      exact ⟨_, _, _, rfl, (hq i (by omega)).2⟩
end
end Go.Proofs.Ytbbmnaiofdjacaa.Arg
