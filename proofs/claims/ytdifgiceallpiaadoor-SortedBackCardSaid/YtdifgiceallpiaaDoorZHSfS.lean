/- suffix: Sort, as the print program calls it. -/
import Derived.Test.YtdifgiceallpiaaDoorZHSa11
set_option linter.unusedVariables false
set_option linter.unusedSimpArgs false
set_option linter.unusedSectionVars false
namespace Go.Proofs.YtdifgiceallpiaaDoor.Hd
open Go Go.RowKit Go.Proofs.YtdifgiceallpiaaDoorW.PrintWords Go.Proofs.YtdifgiceallpiaaDoorW.PrintLast Go.Proofs.YtdifgiceallpiaaDoorW.PrintMore Go.Proofs.YtdifgiceallpiaaDoor.Hw Go.Proofs.YtdifgiceallpiaaDoor.Com Go.Proofs.YtdifgiceallpiaaDoor.Cn  Go.Proofs.YtdifgiceallpiaaDoor.Sais
def suffix_Sort.f (s : ByteArray) : Option (List Int) := if s.size ≤ 1073741824 then some (iN (srtN (nb s))) else none
theorem suffix_Sort.calls (s : ByteArray) (r : List Int) (w : World) (h : suffix_Sort.f s = some r) :
    Calls Tryd.prog 21 #[.string s] w fun e w' => ∃ v0_ : Value, e = .returned (v0_) ∧ Kd.Q (Kd.int .i64) 3 w' w.heap.size (fun _ => True) v0_ r ∧ Below w.heap.size w w' := by
  unfold suffix_Sort.f at h
  split at h
  · rename_i hs
    obtain rfl := Option.some.inj h
    exact sort_ok s w hs
  · cases h
end Go.Proofs.YtdifgiceallpiaaDoor.Hd
