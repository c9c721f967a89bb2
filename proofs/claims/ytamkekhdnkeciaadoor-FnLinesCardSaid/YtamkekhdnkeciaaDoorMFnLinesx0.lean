/- What the texts of the law FnLines import. -/
import Derived.Test.YtamkekhdnkeciaaDoorProg
import Derived.Below
import Derived.Deep.Draws
import Derived.Deep.AppendLies
import Derived.Maps.AppendAt
import Derived.OwnWalk
import Derived.Laws.BytesArg
import Derived.Laws.MakeOwn
import Derived.Laws.OwnMore
import Derived.Deep.OwnRows
import Derived.Tactics
import Derived.Lib.ConvBytes
import Derived.Laws.Slices
import Derived.WalkKit
import Derived.KernelRfl
import Derived.RowKit3
import Derived.Deep.LoopGhost
import Derived.Deep.QuietTactic
import Derived.BigQuiet
import Derived.WideLaws
import Derived.Deep.DeepCutAuto
import Derived.Deep.CutBlock
import Derived.Deep.RegionHeld3
import Derived.Laws.Rows
import Derived.Lib.AppendStr
import Derived.ArgAppend
import Derived.Laws.IdiomCopy
import Derived.OrdersHeld
import Derived.Laws.BitsLemmas
import Derived.RowKit
import Derived.Test.YtamkekhdnkeciaaDoorWWords
import Derived.Test.YtamkekhdnkeciaaDoorWLast
import Derived.Test.YtamkekhdnkeciaaDoorWTab
import Derived.Test.YtamkekhdnkeciaaDoorWFour
import Derived.Test.YtamkekhdnkeciaaDoorWQPut
import Derived.Test.YtamkekhdnkeciaaDoorWApart
import Derived.Test.YtamkekhdnkeciaaDoorWArr
import Derived.Test.YtamkekhdnkeciaaDoorWZeros
import Derived.Test.YtamkekhdnkeciaaDoorWFoot
import Derived.Test.YtamkekhdnkeciaaDoorWKept
import Derived.Test.YtamkekhdnkeciaaDoorWShare
import Derived.Test.YtamkekhdnkeciaaDoorWN
import Derived.Test.YtamkekhdnkeciaaDoorWFootNe
import Derived.Test.YtamkekhdnkeciaaDoorWAt
import Derived.Test.YtamkekhdnkeciaaDoorWEqStruct
import Derived.Test.YtamkekhdnkeciaaDoorWRepsOne
import Derived.Test.YtamkekhdnkeciaaDoorWInv
import Derived.Test.YtamkekhdnkeciaaDoorWInvWords
import Derived.Test.YtamkekhdnkeciaaDoorWGuard
import Derived.Test.YtamkekhdnkeciaaDoorWNEv
import Derived.Test.YtamkekhdnkeciaaDoorWMore
namespace Go.Proofs.YtamkekhdnkeciaaDoor.MFnLines
open Go.RowKit Go.Proofs.YtamkekhdnkeciaaDoorW.PrintWords Go.Proofs.YtamkekhdnkeciaaDoorW.PrintLast Go.Proofs.YtamkekhdnkeciaaDoorW.PrintMore
attribute [local go_sem] max2_int min2_int max_two min_two max_three min_three max_four min_four   -- for this text's walks alone
set_option linter.unusedVariables false
set_option linter.unusedSimpArgs false



def errW : Option Int → Value
  | none => .nilIface
  | some c => .iface 0 (.int .i64 c)
theorem errW_none : errW none = .nilIface := rfl
theorem errW_some (c : Int) : errW (some c) = .iface 0 (.int .i64 c) := rfl

theorem info9 : (Tryd.prog.info? 9).map (fun i => (i.zero, i.size, i.bytes)) = some (some (.string ⟨#[]⟩), 1, 16) := by kernel_rfl
-- the values' own types

end Go.Proofs.YtamkekhdnkeciaaDoor.MFnLines
