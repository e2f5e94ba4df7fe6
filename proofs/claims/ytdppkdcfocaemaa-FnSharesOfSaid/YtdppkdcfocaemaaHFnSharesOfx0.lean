-- Written by wip/hp.py, a program of this session.
import Derived.Test.YtdppkdcfocaemaaProg
import Derived.Below
import Derived.Deep.Draws
import Derived.Deep.AppendLies
import Derived.Maps.AppendAt
import Derived.OwnWalk
import Derived.Laws.BytesArg
import Derived.Laws.MakeOwn
import Derived.Laws.OwnMore
import Derived.Deep.OwnRows
import Derived.Tactics
import Derived.Lib.ConvBytes
import Derived.Laws.Slices
import Derived.WalkKit
import Derived.KernelRfl
import Derived.RowKit3
import Derived.Deep.LoopGhost
import Derived.Deep.QuietTactic
import Derived.BigQuiet
import Derived.WideLaws
import Derived.Deep.DeepCutAuto
import Derived.Deep.CutBlock
import Derived.Deep.RegionHeld3
import Derived.Laws.Rows
import Derived.Lib.AppendStr
import Derived.ArgAppend
import Derived.Laws.IdiomCopy
import Derived.OrdersHeld
import Derived.Laws.BitsLemmas
import Derived.RowKit
import Derived.Lib.SlBy
import Derived.Shelf.Abstract
import Derived.Lib.SliceRun
import Derived.Test.YtdppkdcfocaemaaWWords
import Derived.Test.YtdppkdcfocaemaaWLast
import Derived.Test.YtdppkdcfocaemaaWTab
import Derived.Test.YtdppkdcfocaemaaWFour
import Derived.Test.YtdppkdcfocaemaaWQPut
import Derived.Test.YtdppkdcfocaemaaWApart
import Derived.Test.YtdppkdcfocaemaaWArr
import Derived.Test.YtdppkdcfocaemaaWZeros
import Derived.Test.YtdppkdcfocaemaaWFoot
import Derived.Test.YtdppkdcfocaemaaWKept
import Derived.Test.YtdppkdcfocaemaaWShare
import Derived.Test.YtdppkdcfocaemaaWN
import Derived.Test.YtdppkdcfocaemaaWFootNe
import Derived.Test.YtdppkdcfocaemaaWAt
import Derived.Test.YtdppkdcfocaemaaWEqStruct
import Derived.Test.YtdppkdcfocaemaaWRepsOne
import Derived.Test.YtdppkdcfocaemaaWInv
import Derived.Test.YtdppkdcfocaemaaWInvWords
import Derived.Test.YtdppkdcfocaemaaWGuard
import Derived.Test.YtdppkdcfocaemaaWNEv
import Derived.Test.YtdppkdcfocaemaaWMore
namespace Go.Proofs.Ytdppkdcfocaemaa.HFnSharesOf
open Go.RowKit Go.Proofs.YtdppkdcfocaemaaW.PrintWords Go.Proofs.YtdppkdcfocaemaaW.PrintLast Go.Proofs.YtdppkdcfocaemaaW.PrintMore
attribute [local go_sem] max2_int min2_int max_two min_two max_three min_three max_four min_four   -- for this text's walks alone
set_option linter.unusedVariables false
set_option linter.unusedSimpArgs false



def errW : Option Int → Value
  | none => .nilIface
  | some c => .iface 0 (.int .i64 c)
theorem errW_none : errW none = .nilIface := rfl
theorem errW_some (c : Int) : errW (some c) = .iface 0 (.int .i64 c) := rfl

theorem info3 : (Try.prog.info? 3).map (fun i => (i.zero, i.size, i.bytes)) = some (some (.int .i64 0), 1, 8) := by kernel_rfl
theorem info5 : (Try.prog.info? 5).map (fun i => (i.zero, i.size, i.bytes)) = some (some (.int .u8 0), 1, 1) := by kernel_rfl
-- the values' own types

end Go.Proofs.Ytdppkdcfocaemaa.HFnSharesOf
