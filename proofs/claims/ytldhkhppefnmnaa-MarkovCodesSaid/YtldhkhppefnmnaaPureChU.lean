/- The document's chance behind a bit. -/
import Derived.Test.YtldhkhppefnmnaaHMk
import Derived.Test.YtldhkhppefnmnaaPureRgEncA
import Derived.Test.YtldhkhppefnmnaaPx3
set_option linter.unusedVariables false
set_option linter.unusedSimpArgs false
set_option linter.unusedSectionVars false
namespace Go.Proofs.Ytldhkhppefnmnaa.Pure
open Go Go.RowKit Go.Proofs.YtldhkhppefnmnaaW.PrintWords Go.Proofs.YtldhkhppefnmnaaW.PrintMore Go.Proofs.Ytldhkhppefnmnaa.P Go.Proofs.Ytldhkhppefnmnaa.Com Go.Proofs.Ytldhkhppefnmnaa.Rn Go.Proofs.Ytldhkhppefnmnaa.Hd
theorem fits_ok {p : Int} (h1 : 1 ≤ p) (h2 : p ≤ 2047) : gladstoneref44_Fits.f p = some true := by
  rw [fits_f]; unfold badP; rw [decide_eq_false (by omega)]; rfl
theorem update_ok (p : Int) (b : Bool) (h1 : 1 ≤ p) (h2 : p ≤ 2047) : gladstoneref44_Update.f p b = some (upd p b, 0) := by
  unfold gladstoneref44_Update.f
  rw [fits_ok h1 h2]
  simp only [Option.bind_some]
  rw [if_pos trivial, Int.tdiv_eq_ediv_of_nonneg (by omega)]
  cases b with
  | false =>
    rw [if_neg (by decide), w64 (x := 2048 - p) (by omega) (by omega), Int.tdiv_eq_ediv_of_nonneg (by omega), w64 (x := (2048 - p) / 32) (by omega) (by omega), w64 (by omega) (by omega)]
    rfl
  | true =>
    rw [if_pos rfl, w64 (x := p / 32) (by omega) (by omega), w64 (by omega) (by omega)]
    rfl
end Go.Proofs.Ytldhkhppefnmnaa.Pure
