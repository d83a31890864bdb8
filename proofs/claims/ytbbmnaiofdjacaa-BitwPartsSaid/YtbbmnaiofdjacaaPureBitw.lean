/- The plain laws of chapter 1 (bits that are written). -/
import Derived.Test.YtbbmnaiofdjacaaHNone1
open Go Go.RowKit
set_option linter.unusedVariables false
set_option linter.unusedSimpArgs false
set_option linter.unusedSectionVars false
namespace Go.Proofs.Ytbbmnaiofdjacaa.Pure
theorem BitwParts (x : Int) (hx : (Lit.int .u64 x).wf = true) (n : Int) (hn : (Lit.int .u8 n).wf = true) (k : Int) (hk : (Lit.int .u8 k).wf = true) : (Lit.int .u64 x).wf = true ∧ (Lit.int .u8 n).wf = true ∧ (Lit.int .u8 k).wf = true ∧ true = true := ⟨hx, hn, hk, rfl⟩
theorem BitwNone : true = true := rfl
end Go.Proofs.Ytbbmnaiofdjacaa.Pure
