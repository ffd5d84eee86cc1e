-- Laid by a program of ours (wip/print) over the kit's print: functions, contracts and walks; Lean checks each.
import Derived.Test.YtleaiojilmkhaaaProg
import Derived.Below
import Derived.Deep.Draws
import Derived.Deep.AppendLies
import Derived.Maps.AppendAt
import Derived.OwnWalk
import Derived.Laws.BytesArg
import Derived.Laws.MakeOwn
import Derived.Laws.OwnMore
import Derived.Deep.OwnRows
import Derived.Tactics
import Derived.Lib.ConvBytes
import Derived.Laws.Slices
import Derived.WalkKit
import Derived.KernelRfl
import Derived.RowKit3
import Derived.Deep.LoopGhost
import Derived.Deep.QuietTactic
import Derived.BigQuiet
import Derived.WideLaws
import Derived.Deep.DeepCutAuto
import Derived.Deep.CutBlock
import Derived.Deep.RegionHeld3
import Derived.Laws.Rows
import Derived.Lib.AppendStr
import Derived.ArgAppend
import Derived.Laws.IdiomCopy
import Derived.OrdersHeld
import Derived.Laws.BitsLemmas
import Derived.RowKit
import Derived.Test.YtleaiojilmkhaaaExt
import Derived.Lib.SliceRun
import Derived.Test.YtleaiojilmkhaaaWWords
import Derived.Test.YtleaiojilmkhaaaWLast
import Derived.Test.YtleaiojilmkhaaaWTab
import Derived.Test.YtleaiojilmkhaaaWFour
import Derived.Test.YtleaiojilmkhaaaWQPut
import Derived.Test.YtleaiojilmkhaaaWApart
import Derived.Test.YtleaiojilmkhaaaWArr
import Derived.Test.YtleaiojilmkhaaaWZeros
import Derived.Test.YtleaiojilmkhaaaWFoot
import Derived.Test.YtleaiojilmkhaaaWKept
import Derived.Test.YtleaiojilmkhaaaWShare
import Derived.Test.YtleaiojilmkhaaaWN
import Derived.Test.YtleaiojilmkhaaaWFootNe
import Derived.Test.YtleaiojilmkhaaaWAt
import Derived.Test.YtleaiojilmkhaaaWEqStruct
import Derived.Test.YtleaiojilmkhaaaWRepsOne
import Derived.Test.YtleaiojilmkhaaaWInv
import Derived.Test.YtleaiojilmkhaaaWInvWords
import Derived.Test.YtleaiojilmkhaaaWGuard
import Derived.Test.YtleaiojilmkhaaaWNEv
import Derived.Test.YtleaiojilmkhaaaWMore
namespace Go.Proofs.Ytleaiojilmkhaaa.PWireBack
open Go.RowKit Go.Proofs.YtleaiojilmkhaaaW.PrintWords Go.Proofs.YtleaiojilmkhaaaW.PrintLast Go.Proofs.YtleaiojilmkhaaaW.PrintMore
attribute [local go_sem] max2_int min2_int max_two min_two max_three min_three max_four min_four   -- for this text's walks alone
set_option linter.unusedVariables false
set_option linter.unusedSimpArgs false



def errW : Option Int → Value
  | none => .nilIface
  | some c => .iface 0 (.int .i64 c)
theorem errW_none : errW none = .nilIface := rfl
theorem errW_some (c : Int) : errW (some c) = .iface 0 (.int .i64 c) := rfl

theorem info5 : (Try.prog.info? 5).map (fun i => (i.zero, i.size, i.bytes)) = some (some (.int .u8 0), 1, 1) := by kernel_rfl
theorem info37 : (Try.prog.info? 37).map (fun i => (i.zero, i.size, i.bytes)) = some (some (.int .u64 0), 1, 8) := by kernel_rfl
-- the values' own types

end Go.Proofs.Ytleaiojilmkhaaa.PWireBack
