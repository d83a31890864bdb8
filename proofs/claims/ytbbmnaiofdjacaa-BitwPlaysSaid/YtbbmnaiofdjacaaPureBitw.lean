/- The plain laws of chapter 1 (bits that are written). -/
import Derived.Test.YtbbmnaiofdjacaaHNone1
import Derived.Test.YtbbmnaiofdjacaaHPlays1
open Go Go.RowKit
set_option linter.unusedVariables false
set_option linter.unusedSimpArgs false
set_option linter.unusedSectionVars false
namespace Go.Proofs.Ytbbmnaiofdjacaa.Pure
theorem BitwPlays (l : List Hd.Dd) (h : ∀ p ∈ l, ∃ x y z, p = (x, y, z) ∧ (Lit.int .i64 x).wf = true ∧ (Lit.int .i64 y).wf = true ∧ (Lit.int .u64 z).wf = true) : (∀ p ∈ l, 0 ≤ p.2.2 ∧ p.2.2 < 18446744073709551616) ∧ true = true := by
  refine ⟨fun p hp => ?_, rfl⟩
  obtain ⟨x, y, z, rfl, _, _, hz⟩ := h p hp
  simp [Lit.wf, IntKind.min, IntKind.max, IntKind.bits, IntKind.signed] at hz
  exact ⟨(by omega : 0 ≤ z), (by omega : z < 18446744073709551616)⟩
theorem BitwParts (x : Int) (hx : (Lit.int .u64 x).wf = true) (n : Int) (hn : (Lit.int .u8 n).wf = true) (k : Int) (hk : (Lit.int .u8 k).wf = true) : (Lit.int .u64 x).wf = true ∧ (Lit.int .u8 n).wf = true ∧ (Lit.int .u8 k).wf = true ∧ true = true := ⟨hx, hn, hk, rfl⟩
theorem BitwNone : true = true := rfl
end Go.Proofs.Ytbbmnaiofdjacaa.Pure
