/- The document's bits (gladstoneref01), plainly: one bit. -/
import Derived.Test.YtbbmnaiofdjacaaBts
import Derived.Test.YtbbmnaiofdjacaaPx
set_option linter.unusedVariables false
set_option linter.unusedSimpArgs false
set_option linter.unusedSectionVars false
namespace Go.Proofs.Ytbbmnaiofdjacaa.Com
open Go.RowKit Go.Proofs.YtbbmnaiofdjacaaW.PrintWords Go.Proofs.YtbbmnaiofdjacaaW.PrintMore Go.Proofs.Ytbbmnaiofdjacaa.P

theorem bit_f (x i : Nat) (hx : x < 2 ^ 64) (hi : i ≤ 64) : gladstoneref01_bit.f (x : Int) (i : Int) = some (x / 2 ^ i % 2 == 1) := by
  unfold gladstoneref01_bit.f
  rw [wu64 (x := (i : Int)) (by omega) (by omega), if_pos (by omega), shr_nat _ _ hi]
  have h := low_nat (x / 2 ^ i) 1 (Nat.lt_of_le_of_lt (Nat.div_le_self _ _) hx) (by omega)
  have e1 : ((2 ^ 1 - 1 : Nat) : Int) = 1 := rfl
  rw [e1] at h
  rw [h]
  generalize x / 2 ^ i = y
  congr 1
  rw [Bool.eq_iff_iff, beq_iff_eq, beq_iff_eq]; omega

theorem take_snocB (l : List Bool) (i : Nat) (h : i < l.length) : l.take (i + 1) = l.take i ++ [l.getD i false] := by
  rw [List.take_add_one, List.getElem?_eq_getElem h]
  simp [List.getD_eq_getElem?_getD, List.getElem?_eq_getElem h]
end Go.Proofs.Ytbbmnaiofdjacaa.Com
