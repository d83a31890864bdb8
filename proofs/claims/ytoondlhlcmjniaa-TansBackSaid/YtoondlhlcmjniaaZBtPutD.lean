/- Words for writers of bits: what is put, and the text of bits (their definitions). -/
import Derived.Test.YtoondlhlcmjniaaZBts
import Derived.Test.YtoondlhlcmjniaaZHw
import Derived.Test.YtoondlhlcmjniaaZPx0
set_option linter.unusedVariables false
set_option linter.unusedSimpArgs false
set_option linter.unusedSectionVars false
namespace Go.Proofs.Ytoondlhlcmjniaa.Com
open Go Go.RowKit Go.Proofs.YtoondlhlcmjniaaW.PrintWords Go.Proofs.YtoondlhlcmjniaaW.PrintMore
theorem p256 (j : Nat) : 256 ^ j = 2 ^ (8 * j) := by rw [Nat.pow_mul]
theorem info5 : (Try.prog.info? 5).map (fun i => (i.zero, i.size, i.bytes)) = some (some (.int .u8 0), 1, 1) := by kernel_rfl
def okP (x n : Int) : Bool := decide (0 ≤ n ∧ n ≤ 56 ∧ x / 2 ^ n.toNat = 0)
def rput (l : List Bool) (x n : Int) : List Bool × Int := if okP x n then (l ++ nbits n.toNat x.toNat, 0) else (l, 2)
def zb (B : List Nat) : List Int := B.map (fun n : Nat => (n : Int))
def bstr (l : List Bool) : ByteArray := strOfNums (zb (pack l))
theorem nb_bstr (l : List Bool) : nb (bstr l) = pack l := nb_str _ (pack_lt l)
end Go.Proofs.Ytoondlhlcmjniaa.Com
