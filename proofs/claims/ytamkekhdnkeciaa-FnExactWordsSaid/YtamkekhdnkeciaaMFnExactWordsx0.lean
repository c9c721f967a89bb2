/- Contracts of the functions that the law FnExactWords reaches: walks in the form of the kit's print; the functions that it does not take are walked by hand. -/
import Derived.Test.YtamkekhdnkeciaaProg
import Derived.Below
import Derived.Deep.Draws
import Derived.Deep.AppendLies
import Derived.Maps.AppendAt
import Derived.OwnWalk
import Derived.Laws.BytesArg
import Derived.Laws.MakeOwn
import Derived.Laws.OwnMore
import Derived.Deep.OwnRows
import Derived.Tactics
import Derived.Lib.ConvBytes
import Derived.Laws.Slices
import Derived.WalkKit
import Derived.KernelRfl
import Derived.RowKit3
import Derived.Deep.LoopGhost
import Derived.Deep.QuietTactic
import Derived.BigQuiet
import Derived.WideLaws
import Derived.Deep.DeepCutAuto
import Derived.Deep.CutBlock
import Derived.Deep.RegionHeld3
import Derived.Laws.Rows
import Derived.Lib.AppendStr
import Derived.ArgAppend
import Derived.Laws.IdiomCopy
import Derived.OrdersHeld
import Derived.Laws.BitsLemmas
import Derived.RowKit
import Derived.Test.YtamkekhdnkeciaaWWords
import Derived.Test.YtamkekhdnkeciaaWLast
import Derived.Test.YtamkekhdnkeciaaWTab
import Derived.Test.YtamkekhdnkeciaaWFour
import Derived.Test.YtamkekhdnkeciaaWQPut
import Derived.Test.YtamkekhdnkeciaaWApart
import Derived.Test.YtamkekhdnkeciaaWArr
import Derived.Test.YtamkekhdnkeciaaWZeros
import Derived.Test.YtamkekhdnkeciaaWFoot
import Derived.Test.YtamkekhdnkeciaaWKept
import Derived.Test.YtamkekhdnkeciaaWShare
import Derived.Test.YtamkekhdnkeciaaWN
import Derived.Test.YtamkekhdnkeciaaWFootNe
import Derived.Test.YtamkekhdnkeciaaWAt
import Derived.Test.YtamkekhdnkeciaaWEqStruct
import Derived.Test.YtamkekhdnkeciaaWRepsOne
import Derived.Test.YtamkekhdnkeciaaWInv
import Derived.Test.YtamkekhdnkeciaaWInvWords
import Derived.Test.YtamkekhdnkeciaaWGuard
import Derived.Test.YtamkekhdnkeciaaWNEv
import Derived.Test.YtamkekhdnkeciaaWMore
namespace Go.Proofs.Ytamkekhdnkeciaa.MFnExactWords
open Go.RowKit Go.Proofs.YtamkekhdnkeciaaW.PrintWords Go.Proofs.YtamkekhdnkeciaaW.PrintLast Go.Proofs.YtamkekhdnkeciaaW.PrintMore
attribute [local go_sem] max2_int min2_int max_two min_two max_three min_three max_four min_four   -- for this text's walks alone
set_option linter.unusedVariables false
set_option linter.unusedSimpArgs false



def errW : Option Int → Value
  | none => .nilIface
  | some c => .iface 0 (.int .i64 c)
theorem errW_none : errW none = .nilIface := rfl
theorem errW_some (c : Int) : errW (some c) = .iface 0 (.int .i64 c) := rfl

theorem info5 : (Try.prog.info? 5).map (fun i => (i.zero, i.size, i.bytes)) = some (some (.int .u8 0), 1, 1) := by kernel_rfl
theorem info9 : (Try.prog.info? 9).map (fun i => (i.zero, i.size, i.bytes)) = some (some (.string ⟨#[]⟩), 1, 16) := by kernel_rfl
-- the values' own types

end Go.Proofs.Ytamkekhdnkeciaa.MFnExactWords
