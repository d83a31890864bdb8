/- suffix: where numbers stand, plainly. -/
import Derived.Test.YtfmgoealbaihjaaHSfR
set_option linter.unusedVariables false
set_option linter.unusedSimpArgs false
set_option linter.unusedSectionVars false
namespace Go.Proofs.Ytfmgoealbaihjaa.Pure
open Go Go.RowKit Go.Proofs.YtfmgoealbaihjaaW.PrintWords Go.Proofs.YtfmgoealbaihjaaW.PrintMore Go.Proofs.Ytfmgoealbaihjaa.P Go.Proofs.Ytfmgoealbaihjaa.Com Go.Proofs.Ytfmgoealbaihjaa.Hd Go.Proofs.Ytfmgoealbaihjaa.Hw Go.Proofs.Ytfmgoealbaihjaa.Cn Go.Proofs.Ytfmgoealbaihjaa.Sais Go.Proofs.Ytfmgoealbaihjaa.Bk
/-- Where a number stands first, among the last so many. -/
def vF (zs : List Int) (y : Nat) : Nat → Int
  | 0 => -1
  | m + 1 => if rd zs ((zs.length - 1 - m : Nat) : Int) = (y : Int) then ((zs.length - 1 - m : Nat) : Int) else vF zs y m
theorem rk_v {zs : List Int} {y : Nat} (hy : y < zs.length) : ∀ m, rkF zs.length (upto zs m) y = vF zs y m := by
  intro m
  induction m with
  | zero => rfl
  | succ m ih =>
    rw [upto_succ, rkF_snoc]
    unfold vF
    rw [rd_nat, List.getD_eq_getElem?_getD]
    generalize zs[zs.length - 1 - m]?.getD 0 = v
    by_cases h : v = (y : Int)
    · rw [if_pos h, h, if_pos ⟨by omega, by omega⟩]
      rw [Int.toNat_natCast, if_pos rfl]
    · rw [if_neg h]
      by_cases hv : 0 ≤ v ∧ v < (zs.length : Int)
      · rw [if_pos hv]
        have : y ≠ v.toNat := by omega
        rw [if_neg this]
        exact ih
      · rw [if_neg hv]
        exact ih
end Go.Proofs.Ytfmgoealbaihjaa.Pure
