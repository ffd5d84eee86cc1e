-- Laid by a program of ours (wip/print) over the kit's print: functions, contracts and walks; Lean checks each.
import Derived.Test.YtleaiojilmkhaaaPWireOpensx0
import Derived.Test.YtleaiojilmkhaaaPWireOpensx1
import Derived.Test.YtleaiojilmkhaaaPWireOpensx2
import Derived.Test.YtleaiojilmkhaaaPWireOpensx3
namespace Go.Proofs.Ytleaiojilmkhaaa.PWireOpens
open Go.RowKit Go.Proofs.YtleaiojilmkhaaaW.PrintWords Go.Proofs.YtleaiojilmkhaaaW.PrintLast Go.Proofs.YtleaiojilmkhaaaW.PrintMore
attribute [local go_sem] max2_int min2_int max_two min_two max_three min_three max_four min_four   -- for this text's walks alone
set_option linter.unusedVariables false
set_option linter.unusedSimpArgs false

end Go.Proofs.Ytleaiojilmkhaaa.PWireOpens
