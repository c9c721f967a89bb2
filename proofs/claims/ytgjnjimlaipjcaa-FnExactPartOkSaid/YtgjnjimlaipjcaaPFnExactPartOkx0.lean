-- PRINTED BY print.sh 35421559b90ae4d0a3588c463048766b98c2df88dd9212a6774a882060cdf62d: not written by this session
import Derived.Test.YtgjnjimlaipjcaaProg
import Derived.Below
import Derived.Deep.Draws
import Derived.Deep.AppendLies
import Derived.Maps.AppendAt
import Derived.OwnWalk
import Derived.Laws.BytesArg
import Derived.Laws.MakeOwn
import Derived.Laws.OwnMore
import Derived.Deep.OwnRows
import Derived.Tactics
import Derived.Lib.ConvBytes
import Derived.Laws.Slices
import Derived.WalkKit
import Derived.KernelRfl
import Derived.RowKit3
import Derived.Deep.LoopGhost
import Derived.Deep.QuietTactic
import Derived.BigQuiet
import Derived.WideLaws
import Derived.Deep.DeepCutAuto
import Derived.Deep.CutBlock
import Derived.Deep.RegionHeld3
import Derived.Laws.Rows
import Derived.Lib.AppendStr
import Derived.ArgAppend
import Derived.Laws.IdiomCopy
import Derived.OrdersHeld
import Derived.Laws.BitsLemmas
import Derived.RowKit
import Derived.Test.YtgjnjimlaipjcaaWWords
import Derived.Test.YtgjnjimlaipjcaaWLast
import Derived.Test.YtgjnjimlaipjcaaWTab
import Derived.Test.YtgjnjimlaipjcaaWFour
import Derived.Test.YtgjnjimlaipjcaaWQPut
import Derived.Test.YtgjnjimlaipjcaaWApart
import Derived.Test.YtgjnjimlaipjcaaWArr
import Derived.Test.YtgjnjimlaipjcaaWZeros
import Derived.Test.YtgjnjimlaipjcaaWFoot
import Derived.Test.YtgjnjimlaipjcaaWKept
import Derived.Test.YtgjnjimlaipjcaaWShare
import Derived.Test.YtgjnjimlaipjcaaWN
import Derived.Test.YtgjnjimlaipjcaaWFootNe
import Derived.Test.YtgjnjimlaipjcaaWAt
import Derived.Test.YtgjnjimlaipjcaaWEqStruct
import Derived.Test.YtgjnjimlaipjcaaWRepsOne
import Derived.Test.YtgjnjimlaipjcaaWInv
import Derived.Test.YtgjnjimlaipjcaaWInvWords
import Derived.Test.YtgjnjimlaipjcaaWGuard
import Derived.Test.YtgjnjimlaipjcaaWNEv
import Derived.Test.YtgjnjimlaipjcaaWMore
namespace Go.Proofs.Ytgjnjimlaipjcaa.PFnExactPartOk
open Go.RowKit Go.Proofs.YtgjnjimlaipjcaaW.PrintWords Go.Proofs.YtgjnjimlaipjcaaW.PrintLast Go.Proofs.YtgjnjimlaipjcaaW.PrintMore
attribute [local go_sem] max2_int min2_int max_two min_two max_three min_three max_four min_four   -- for this text's walks alone
set_option linter.unusedVariables false
set_option linter.unusedSimpArgs false



def errW : Option Int → Value
  | none => .nilIface
  | some c => .iface 0 (.int .i64 c)
theorem errW_none : errW none = .nilIface := rfl
theorem errW_some (c : Int) : errW (some c) = .iface 0 (.int .i64 c) := rfl

-- the values' own types

end Go.Proofs.Ytgjnjimlaipjcaa.PFnExactPartOk
