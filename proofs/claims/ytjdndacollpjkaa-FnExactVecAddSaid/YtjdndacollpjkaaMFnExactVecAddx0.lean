/- Contracts of the functions that the law FnExactVecAdd reaches: walks in the form of the kit's print; the functions that it does not take are walked by hand. -/
import Derived.Test.YtjdndacollpjkaaProg
import Derived.Below
import Derived.Deep.Draws
import Derived.Deep.AppendLies
import Derived.Maps.AppendAt
import Derived.OwnWalk
import Derived.Laws.BytesArg
import Derived.Laws.MakeOwn
import Derived.Laws.OwnMore
import Derived.Deep.OwnRows
import Derived.Tactics
import Derived.Lib.ConvBytes
import Derived.Laws.Slices
import Derived.WalkKit
import Derived.KernelRfl
import Derived.RowKit3
import Derived.Deep.LoopGhost
import Derived.Deep.QuietTactic
import Derived.BigQuiet
import Derived.WideLaws
import Derived.Deep.DeepCutAuto
import Derived.Deep.CutBlock
import Derived.Deep.RegionHeld3
import Derived.Laws.Rows
import Derived.Lib.AppendStr
import Derived.ArgAppend
import Derived.Laws.IdiomCopy
import Derived.OrdersHeld
import Derived.Laws.BitsLemmas
import Derived.RowKit
import Derived.Test.YtjdndacollpjkaaWWords
import Derived.Test.YtjdndacollpjkaaWLast
import Derived.Test.YtjdndacollpjkaaWTab
import Derived.Test.YtjdndacollpjkaaWFour
import Derived.Test.YtjdndacollpjkaaWQPut
import Derived.Test.YtjdndacollpjkaaWApart
import Derived.Test.YtjdndacollpjkaaWArr
import Derived.Test.YtjdndacollpjkaaWZeros
import Derived.Test.YtjdndacollpjkaaWFoot
import Derived.Test.YtjdndacollpjkaaWKept
import Derived.Test.YtjdndacollpjkaaWShare
import Derived.Test.YtjdndacollpjkaaWN
import Derived.Test.YtjdndacollpjkaaWFootNe
import Derived.Test.YtjdndacollpjkaaWAt
import Derived.Test.YtjdndacollpjkaaWEqStruct
import Derived.Test.YtjdndacollpjkaaWRepsOne
import Derived.Test.YtjdndacollpjkaaWInv
import Derived.Test.YtjdndacollpjkaaWInvWords
import Derived.Test.YtjdndacollpjkaaWGuard
import Derived.Test.YtjdndacollpjkaaWNEv
import Derived.Test.YtjdndacollpjkaaWMore
namespace Go.Proofs.Ytjdndacollpjkaa.MFnExactVecAdd
open Go.RowKit Go.Proofs.YtjdndacollpjkaaW.PrintWords Go.Proofs.YtjdndacollpjkaaW.PrintLast Go.Proofs.YtjdndacollpjkaaW.PrintMore
attribute [local go_sem] max2_int min2_int max_two min_two max_three min_three max_four min_four   -- for this text's walks alone
set_option linter.unusedVariables false
set_option linter.unusedSimpArgs false



def errW : Option Int → Value
  | none => .nilIface
  | some c => .iface 0 (.int .i64 c)
theorem errW_none : errW none = .nilIface := rfl
theorem errW_some (c : Int) : errW (some c) = .iface 0 (.int .i64 c) := rfl

theorem info3 : (Try.prog.info? 3).map (fun i => (i.zero, i.size, i.bytes)) = some (some (.int .i64 0), 1, 8) := by kernel_rfl
-- the values' own types

end Go.Proofs.Ytjdndacollpjkaa.MFnExactVecAdd
