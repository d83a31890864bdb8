/- Arguments read as lists: this session's own additions beside the kit's readings of slices of whole numbers. -/
import Derived.Test.YtoondlhlcmjniaaZWWords
import Derived.SizedLaws
import Derived.ChangeSlices
import Derived.Deep.Grids
set_option linter.unusedVariables false
set_option linter.unusedSimpArgs false
set_option linter.unusedSectionVars false
namespace Go.Proofs.Ytoondlhlcmjniaa.Arg
open Go.RowKit Go.ChangeShapes Go.WideShapes Go.Proofs.YtoondlhlcmjniaaW.PrintWords

section
variable {H : Type} {enc : TypeId × Value → H} {P : Program} {W : World} {base : Nat} {ts : List TypeId} {ds : List (DataW H)}

/-- A slice of bools that came in reads as a list. -/
theorem bools {t e : TypeId} {a : Option Addr} {len cap : Nat} {d : DataW H} {ps : List MemPlace} {j : Nat}
    (hsz : (DataW.weightsEach P ts ds).all (· ≤ reachBytes) = true) (ht : ts[j]? = some t) (hd : ds[j]? = some d) (hu : P.underlying t = some (.slice e)) (he : P.underlying e = some .bool) (hc : P.cellsOf e = 1) (hB : P.bytesOf e = 1)
    (h : DataW.Trod enc P W base (fun _ => true) true t (.slice a len cap) d ps) :
    ∃ l : List Bool, len = l.length ∧ Kd.C Kd.bool W a l.length l ∧ l.length ≤ cap ∧ l.length ≤ 140737488351232 := by
  obtain ⟨fuel, hf⟩ := h
  rcases Go.Deep.open_bools hu he hc hf with ⟨hcs, _⟩ | ⟨x, l, c, B, hcs, _, hl, hm, hx, hcell⟩
  · simp [Value.cells] at hcs
    obtain ⟨rfl, rfl, rfl⟩ := hcs
    refine ⟨[], rfl, ?_, by simp, by simp⟩
    exact Kd.C_of_reads (d := false) (h1 := fun _ => rfl) ⟨rfl, by simp, fun hn => by simp at hn⟩
  · simp [Value.cells] at hcs
    obtain ⟨rfl, rfl, rfl⟩ := hcs
    obtain ⟨hx, _⟩ := Prod.mk.inj hx
    subst hx
    have z := sized_slice hsz ht hd hu
    rw [hB] at z
    have h1 : ((List.range len).map fun i => (DataW.lit (.bool (B i)) : DataW H)).length = len := by simp
    have h2 : ((List.range (cap - len)).map fun j => (DataW.lit (.bool (B (len + j))) : DataW H)).length = cap - len := by simp
    rw [h1, h2] at z
    have hr : reachBytes = 140737488351232 := rfl
    have hmm : maxLen = 9223372036854775807 := rfl
    have hlen : ((List.range len).map B).length = len := by simp
    refine ⟨(List.range len).map B, hlen.symm, ?_, by rw [hlen]; exact hl, by rw [hlen]; omega⟩
    refine Kd.C_of_reads (d := false) (h1 := fun _ => rfl) ⟨rfl, by rw [hlen]; omega, fun _ => ⟨x, rfl, fun j hj => ?_⟩⟩
    rw [hlen] at hj
    rw [hcell j (by omega)]
    simp [hj]
end
end Go.Proofs.Ytoondlhlcmjniaa.Arg
