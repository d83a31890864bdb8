-- Laid by this session's driver (wip/tools/myprint.py) over the kit's print program.
import Derived.Test.YtkhiaddkbnpfcaaPx0
import Derived.Test.YtkhiaddkbnpfcaaPx1
import Derived.Test.YtkhiaddkbnpfcaaPx2
import Derived.Test.YtkhiaddkbnpfcaaPx3
import Derived.Test.YtkhiaddkbnpfcaaPx4
import Derived.Test.YtkhiaddkbnpfcaaPx5
import Derived.Test.YtkhiaddkbnpfcaaPx6
namespace Go.Proofs.Ytkhiaddkbnpfcaa.Hd
end Go.Proofs.Ytkhiaddkbnpfcaa.Hd
namespace Go.Proofs.Ytkhiaddkbnpfcaa.P
open Go.RowKit Go.Proofs.Ytkhiaddkbnpfcaa.Hd Go.Proofs.YtkhiaddkbnpfcaaW.PrintWords Go.Proofs.YtkhiaddkbnpfcaaW.PrintLast Go.Proofs.YtkhiaddkbnpfcaaW.PrintMore
attribute [local go_sem] max2_int min2_int max_two min_two max_three min_three max_four min_four   -- for this text's walks alone
set_option linter.unusedVariables false
set_option linter.unusedSimpArgs false

end Go.Proofs.Ytkhiaddkbnpfcaa.P
