-- Laid by a program of ours (wip/print) over the kit's print: functions, contracts and walks; Lean checks each.
import Derived.Test.YtjkllkbdmkkndaaPMaskUnpacksx0
import Derived.Test.YtjkllkbdmkkndaaPMaskUnpacksx1
import Derived.Test.YtjkllkbdmkkndaaPMaskUnpacksx2
import Derived.Test.YtjkllkbdmkkndaaPMaskUnpacksx3
import Derived.Test.YtjkllkbdmkkndaaPMaskUnpacksx4
namespace Go.Proofs.Ytjkllkbdmkkndaa.PMaskUnpacks
open Go.RowKit Go.Proofs.YtjkllkbdmkkndaaW.PrintWords Go.Proofs.YtjkllkbdmkkndaaW.PrintLast Go.Proofs.YtjkllkbdmkkndaaW.PrintMore
attribute [local go_sem] max2_int min2_int max_two min_two max_three min_three max_four min_four   -- for this text's walks alone
set_option linter.unusedVariables false
set_option linter.unusedSimpArgs false

end Go.Proofs.Ytjkllkbdmkkndaa.PMaskUnpacks
