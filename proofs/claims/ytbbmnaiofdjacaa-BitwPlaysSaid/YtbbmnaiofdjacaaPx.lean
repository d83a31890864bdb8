-- Laid by this session's driver (wip/tools/myprint.py) over the kit's print program.
import Derived.Test.YtbbmnaiofdjacaaPx0
import Derived.Test.YtbbmnaiofdjacaaPx1
namespace Go.Proofs.Ytbbmnaiofdjacaa.P
open Go.RowKit Go.Proofs.YtbbmnaiofdjacaaW.PrintWords Go.Proofs.YtbbmnaiofdjacaaW.PrintLast Go.Proofs.YtbbmnaiofdjacaaW.PrintMore
attribute [local go_sem] max2_int min2_int max_two min_two max_three min_three max_four min_four   -- for this text's walks alone
set_option linter.unusedVariables false
set_option linter.unusedSimpArgs false

end Go.Proofs.Ytbbmnaiofdjacaa.P
