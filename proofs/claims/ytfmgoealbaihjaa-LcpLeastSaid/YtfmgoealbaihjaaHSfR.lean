/- suffix: Ranks, as the print program calls it. -/
import Derived.Test.YtfmgoealbaihjaaHRk
import Derived.Test.YtfmgoealbaihjaaHSfS
set_option linter.unusedVariables false
set_option linter.unusedSimpArgs false
set_option linter.unusedSectionVars false
namespace Go.Proofs.Ytfmgoealbaihjaa.Hd
open Go Go.RowKit Go.Proofs.YtfmgoealbaihjaaW.PrintWords Go.Proofs.YtfmgoealbaihjaaW.PrintLast Go.Proofs.YtfmgoealbaihjaaW.PrintMore Go.Proofs.Ytfmgoealbaihjaa.Hw Go.Proofs.Ytfmgoealbaihjaa.Com Go.Proofs.Ytfmgoealbaihjaa.Cn  Go.Proofs.Ytfmgoealbaihjaa.Sais Go.Proofs.Ytfmgoealbaihjaa.Bk
def suffix_Ranks.f (l : List Int) : Option (List Int) := if l.length ≤ 1073741824 then some (tabn l.length (rkF l.length (upto l l.length))) else none
theorem suffix_Ranks.calls (A0 : Option Addr) (c0 : Nat) (l0 : List Int) (r : List Int) (w : World) (hr0 : Kd.C (Kd.int .i64) w A0 l0.length l0) (hc0 : l0.length ≤ c0) (h : suffix_Ranks.f l0 = some r) :
    Calls Try.prog 12 #[.slice A0 l0.length c0] w fun e w' => ∃ v0_ : Value, e = .returned (v0_) ∧ Kd.R (Kd.int .i64) 3 w' w.heap.size (fun _ => True) v0_ r ∧ Below w.heap.size w w' := by
  unfold suffix_Ranks.f at h
  split at h
  · rename_i hs
    obtain rfl := Option.some.inj h
    refine (ranks_ok A0 c0 l0 w hr0 hs).mono ?_
    rintro e w' ⟨g, rfl, hg, hb, hB⟩
    have hR := hb.R hg (by rw [tabn_length]; simp [maxLen]; omega) (fun _ => True) trivial
    rw [tabn_length] at hR
    exact ⟨_, rfl, hR, hB⟩
  · cases h
end Go.Proofs.Ytfmgoealbaihjaa.Hd
