/- Arguments that are structs of whole numbers, and slices of such: this session's own readings. -/
import Derived.Test.YtbbmnaiofdjacaaWWords
import Derived.Deep.SlicePairs
import Derived.Lib.SmallJoins
import Derived.ChangeArms
set_option linter.unusedVariables false
set_option linter.unusedSimpArgs false
set_option linter.unusedSectionVars false
namespace Go.Proofs.Ytbbmnaiofdjacaa.Arg
open Go.RowKit Go.ChangeShapes Go.WideShapes Go.Deep Go.Joins Go.Proofs.YtbbmnaiofdjacaaW.PrintWords

section
variable {H : Type} {enc : TypeId × Value → H} {P : Program} {W : World} {base : Nat}

/-- A slice of structs of two whole numbers reads as a list. -/
theorem pairs {α : Type} (d : Kd α) (mk : Int → Int → α) {t e : TypeId} {f0 f1 : Field} {k0 k1 : IntKind} {a : Option Addr} {len cap : Nat} {x : DataW H} {ps : List MemPlace}
    (hK : ∀ w x y, d.K w (mk x y) [.int k0 x, .int k1 y]) (hs : d.sz = 2)
    (ht : P.underlying t = some (.slice e)) (he : P.underlying e = some (.struct #[f0, f1])) (ce : P.cellsOf e = 2) (o0 : f0.offset = 0) (o1 : f1.offset = 1) (c0 : P.cellsOf f0.type = 1) (c1 : P.cellsOf f1.type = 1)
    (u0 : P.underlying f0.type = some (.int k0)) (u1 : P.underlying f1.type = some (.int k1))
    (h : DataW.Trod enc P W base (fun _ => true) true t (.slice a len cap) x ps) :
    ∃ l : List α, len = l.length ∧ Kd.C d W a l.length l ∧ l.length ≤ cap := by
  obtain ⟨fuel, hf⟩ := h
  rcases Go.Deep.open_slice_pairs ht he ce o0 o1 c0 c1 hf with ⟨hcs, _⟩ | ⟨b, l, c, m, n, V0, V1, D0, D1, P0, P1, hcs, _, hl, hm, hmm, hx, hcell⟩
  · simp [Value.cells] at hcs
    obtain ⟨rfl, rfl, rfl⟩ := hcs
    exact ⟨[], rfl, ⟨rfl, by simp, fun hn => by simp at hn⟩, by simp⟩
  · simp [Value.cells] at hcs
    obtain ⟨rfl, rfl, rfl⟩ := hcs
    simp only [if_true] at hmm
    subst hmm
    obtain ⟨X, hX⟩ := Go.Deep.choose_lt (α := Int) (p := fun i z => V0 i = .int k0 z) (fun i hi => by
      obtain ⟨z, h1, _, _⟩ := DataW.trod_int u0 (hcell i hi).2.2.1
      exact ⟨z, by simpa using h1⟩)
    obtain ⟨Y, hY⟩ := Go.Deep.choose_lt (α := Int) (p := fun i z => V1 i = .int k1 z) (fun i hi => by
      obtain ⟨z, h1, _, _⟩ := DataW.trod_int u1 (hcell i hi).2.2.2
      exact ⟨z, by simpa using h1⟩)
    have hmx : maxLen = 9223372036854775807 := rfl
    have hlen : ((List.range len).map fun i => mk (X i) (Y i)).length = len := by simp
    refine ⟨(List.range len).map fun i => mk (X i) (Y i), hlen.symm, ⟨rfl, by rw [hlen]; omega, fun _ => ⟨b, rfl, fun j p hj => ?_⟩⟩, by rw [hlen]; exact hl⟩
    have hjl : j < len := by
      have := (List.getElem?_eq_some_iff.1 hj).1
      simpa using this
    have hp : mk (X j) (Y j) = p := by
      rw [List.getElem?_map, List.getElem?_range hjl] at hj
      simpa using hj
    subst hp
    obtain ⟨g0, g1, _, _⟩ := hcell j (by omega)
    rw [hX j (by omega)] at g0
    rw [hY j (by omega)] at g1
    refine ⟨[.int k0 (X j), .int k1 (Y j)], by rw [hs]; rfl, hK _ _ _, fun i u hu => ?_⟩
    rw [hs]
    match i, hu with
    | 0, hu => simp at hu; subst hu; exact g0
    | 1, hu => simp at hu; subst hu; exact g1

/-- A struct of two whole numbers. -/
theorem pair {r : Reach} {b0 : Nat} {t : TypeId} {f0 f1 : Field} {k0 k1 : IntKind} {v : Value} {d : DataW H} {p : List MemPlace} {sp : Nat → Bool} {held : Bool} (hs : P.underlying t = some (.struct #[f0, f1])) (hone : oneCellFields P #[f0, f1] = true) (hC : P.cellsOf t = 2)
    (u0 : P.underlying f0.type = some (.int k0)) (u1 : P.underlying f1.type = some (.int k1))
    (hv : Value.okWide P W r b0 t v) (h : DataW.Trod enc P W base sp held t v d p) : ∃ x y : Int, v = .agg #[.int k0 x, .int k1 y] ∧ (Lit.int k0 x).wf = true ∧ (Lit.int k1 y).wf = true := by
  obtain ⟨v0, v1, y0, y1, n, rfl, _, _, h0, h1⟩ := open_agg2 hs hone hC hv h
  obtain ⟨x, hx, _, wx⟩ := DataW.trod_int u0 h0
  obtain ⟨y, hy, _, wy⟩ := DataW.trod_int u1 h1
  simp at hx hy
  subst hx; subst hy
  exact ⟨x, y, rfl, wx, wy⟩
/-- A struct of three whole numbers. -/
theorem triple {r : Reach} {b0 : Nat} {t : TypeId} {f0 f1 f2 : Field} {k0 k1 k2 : IntKind} {v : Value} {d : DataW H} {p : List MemPlace} {sp : Nat → Bool} {held : Bool} (hs : P.underlying t = some (.struct #[f0, f1, f2])) (hone : oneCellFields P #[f0, f1, f2] = true) (hC : P.cellsOf t = 3)
    (u0 : P.underlying f0.type = some (.int k0)) (u1 : P.underlying f1.type = some (.int k1)) (u2 : P.underlying f2.type = some (.int k2))
    (hv : Value.okWide P W r b0 t v) (h : DataW.Trod enc P W base sp held t v d p) : ∃ x y z : Int, v = .agg #[.int k0 x, .int k1 y, .int k2 z] ∧ (Lit.int k0 x).wf = true ∧ (Lit.int k1 y).wf = true ∧ (Lit.int k2 z).wf = true := by
  obtain ⟨v0, v1, v2, y0, y1, y2, n, rfl, _, _, h0, h1, h2⟩ := open_agg3 hs hone hC hv h
  obtain ⟨x, hx, _, wx⟩ := DataW.trod_int u0 h0
  obtain ⟨y, hy, _, wy⟩ := DataW.trod_int u1 h1
  obtain ⟨z, hz, _, wz⟩ := DataW.trod_int u2 h2
  simp at hx hy hz
  subst hx; subst hy; subst hz
  exact ⟨x, y, z, rfl, wx, wy, wz⟩
end
end Go.Proofs.Ytbbmnaiofdjacaa.Arg
