/-
  No cell of these rows narrows 'for every input' (looked for: loops, veiled, ifaces, maps, wideKeys, modest, calm, conditions, laid).
  DERIVED. THE GIVEN ROWS OF THIS SEAT. 9 by the template 'for every input the law returns true; each argument reads behind the call as it read before'; 0 by the template 'total and deterministic' (their statements: YtjdndacollpjkaaTotals.lean).
  GIVEN WITH THE SEED: the statements are not yours to turn. If you find one false, say at which input.
  Laid BY PROGRAM, IN A SANDBOX (cutbox-rows.mjs): the forced cells as the released guide's own fill.sh prints them over the translation 8f7073c4979a357d… (all of the seat's roots in one cut). By AI agents, Wed Nov 11 2026. No macro, syntax, notation, axiom, sorry.
-/
import Derived.Test.YtjdndacollpjkaaChecked
import GoSem.Claim
import GoSem.ClaimJoined
import GoSem.ClaimMapViews
import Derived.JoinedTies
import Derived.KernelRfl
namespace Go.Proofs.Ytjdndacollpjkaa
/- THE CELL 'sum', in the pinned program and in every row, IS THE sha256 OF THE DUMP (.gsa) THAT YtjdndacollpjkaaProg.lean LOADS. Nothing in Lean hashes anything: it is a label: what it is worth is what the hold of that sum in a sandbox is worth. -/
noncomputable def Try.pinned : Pinned := { name := "ytjdndacollpjkaa", sum := "8f7073c4979a357da6c6863f11abb0f6cf6f8cf4c548c3afecdaf9d9ff81d08b", checked := Try.checked }
namespace Rows
def none {H : Type} : Left H := { results := [], args := [] }

/-- 'laws.FnExactVecOk': WHATEVER THE INPUT: true; the input reads as it did. -/
def fnExactVecOkSpec : ChangeSpec := { name := "fnExactVecOk", fn := fun _ => fun
  | [d] => { results := [.lit (.bool true)], args := [d] }
  | _ => none }
def fnExactVecOkRow : OpenClaim := { program := "ytjdndacollpjkaa", sum := "8f7073c4979a357da6c6863f11abb0f6cf6f8cf4c548c3afecdaf9d9ff81d08b", func := "loop.example/g00676/laws.FnExactVecOk", spec := "fnExactVecOk", unfollowed := true, recurses := true, apart := false }
def FnExactVecOkSaid : Prop := fnExactVecOkRow.holds Try.pinned (OpenSpec.ofChange fnExactVecOkSpec)

/-- ITS FALSE NEIGHBOUR: 'it returns false'. Refute it at one input. -/
def fnExactVecOkWrong : ChangeSpec := { name := "fnExactVecOk", fn := fun _ => fun
  | [d] => { results := [.lit (.bool false)], args := [d] }
  | _ => none }
def FnExactVecOkWrongFalsely : Prop := fnExactVecOkRow.holds Try.pinned (OpenSpec.ofChange fnExactVecOkWrong)

/-- 'laws.FnExactVecCmp': WHATEVER THE INPUT: true; the input reads as it did. -/
def fnExactVecCmpSpec : ChangeSpec := { name := "fnExactVecCmp", fn := fun _ => fun
  | [d1, d2] => { results := [.lit (.bool true)], args := [d1, d2] }
  | _ => none }
def fnExactVecCmpRow : OpenClaim := { program := "ytjdndacollpjkaa", sum := "8f7073c4979a357da6c6863f11abb0f6cf6f8cf4c548c3afecdaf9d9ff81d08b", func := "loop.example/g00676/laws.FnExactVecCmp", spec := "fnExactVecCmp", unfollowed := true, recurses := true, apart := false }
def FnExactVecCmpSaid : Prop := fnExactVecCmpRow.holds Try.pinned (OpenSpec.ofChange fnExactVecCmpSpec)

/-- ITS FALSE NEIGHBOUR: 'it returns false'. Refute it at one input. -/
def fnExactVecCmpWrong : ChangeSpec := { name := "fnExactVecCmp", fn := fun _ => fun
  | [d1, d2] => { results := [.lit (.bool false)], args := [d1, d2] }
  | _ => none }
def FnExactVecCmpWrongFalsely : Prop := fnExactVecCmpRow.holds Try.pinned (OpenSpec.ofChange fnExactVecCmpWrong)

/-- 'laws.FnExactVecMake': WHATEVER THE INPUT: true; the input reads as it did. -/
def fnExactVecMakeSpec : ChangeSpec := { name := "fnExactVecMake", fn := fun _ => fun
  | [d1, d2] => { results := [.lit (.bool true)], args := [d1, d2] }
  | _ => none }
def fnExactVecMakeRow : OpenClaim := { program := "ytjdndacollpjkaa", sum := "8f7073c4979a357da6c6863f11abb0f6cf6f8cf4c548c3afecdaf9d9ff81d08b", func := "loop.example/g00676/laws.FnExactVecMake", spec := "fnExactVecMake", unfollowed := true, recurses := true, apart := false }
def FnExactVecMakeSaid : Prop := fnExactVecMakeRow.holds Try.pinned (OpenSpec.ofChange fnExactVecMakeSpec)

/-- ITS FALSE NEIGHBOUR: 'it returns false'. Refute it at one input. -/
def fnExactVecMakeWrong : ChangeSpec := { name := "fnExactVecMake", fn := fun _ => fun
  | [d1, d2] => { results := [.lit (.bool false)], args := [d1, d2] }
  | _ => none }
def FnExactVecMakeWrongFalsely : Prop := fnExactVecMakeRow.holds Try.pinned (OpenSpec.ofChange fnExactVecMakeWrong)

/-- 'laws.FnExactVecAdd': WHATEVER THE INPUT: true; the input reads as it did. -/
def fnExactVecAddSpec : ChangeSpec := { name := "fnExactVecAdd", fn := fun _ => fun
  | [d1, d2] => { results := [.lit (.bool true)], args := [d1, d2] }
  | _ => none }
def fnExactVecAddRow : OpenClaim := { program := "ytjdndacollpjkaa", sum := "8f7073c4979a357da6c6863f11abb0f6cf6f8cf4c548c3afecdaf9d9ff81d08b", func := "loop.example/g00676/laws.FnExactVecAdd", spec := "fnExactVecAdd", unfollowed := true, recurses := true, apart := false }
def FnExactVecAddSaid : Prop := fnExactVecAddRow.holds Try.pinned (OpenSpec.ofChange fnExactVecAddSpec)

/-- ITS FALSE NEIGHBOUR: 'it returns false'. Refute it at one input. -/
def fnExactVecAddWrong : ChangeSpec := { name := "fnExactVecAdd", fn := fun _ => fun
  | [d1, d2] => { results := [.lit (.bool false)], args := [d1, d2] }
  | _ => none }
def FnExactVecAddWrongFalsely : Prop := fnExactVecAddRow.holds Try.pinned (OpenSpec.ofChange fnExactVecAddWrong)

/-- 'laws.FnExactVecScale': WHATEVER THE INPUT: true; the input reads as it did. -/
def fnExactVecScaleSpec : ChangeSpec := { name := "fnExactVecScale", fn := fun _ => fun
  | [d1, d2, d3] => { results := [.lit (.bool true)], args := [d1, d2, d3] }
  | _ => none }
def fnExactVecScaleRow : OpenClaim := { program := "ytjdndacollpjkaa", sum := "8f7073c4979a357da6c6863f11abb0f6cf6f8cf4c548c3afecdaf9d9ff81d08b", func := "loop.example/g00676/laws.FnExactVecScale", spec := "fnExactVecScale", unfollowed := true, recurses := true, apart := false }
def FnExactVecScaleSaid : Prop := fnExactVecScaleRow.holds Try.pinned (OpenSpec.ofChange fnExactVecScaleSpec)

/-- ITS FALSE NEIGHBOUR: 'it returns false'. Refute it at one input. -/
def fnExactVecScaleWrong : ChangeSpec := { name := "fnExactVecScale", fn := fun _ => fun
  | [d1, d2, d3] => { results := [.lit (.bool false)], args := [d1, d2, d3] }
  | _ => none }
def FnExactVecScaleWrongFalsely : Prop := fnExactVecScaleRow.holds Try.pinned (OpenSpec.ofChange fnExactVecScaleWrong)

/-- 'laws.FnVecOrder': WHATEVER THE INPUT: true; the input reads as it did. -/
def fnVecOrderSpec : ChangeSpec := { name := "fnVecOrder", fn := fun _ => fun
  | [d] => { results := [.lit (.bool true)], args := [d] }
  | _ => none }
def fnVecOrderRow : OpenClaim := { program := "ytjdndacollpjkaa", sum := "8f7073c4979a357da6c6863f11abb0f6cf6f8cf4c548c3afecdaf9d9ff81d08b", func := "loop.example/g00676/laws.FnVecOrder", spec := "fnVecOrder", unfollowed := true, recurses := true, apart := false }
def FnVecOrderSaid : Prop := fnVecOrderRow.holds Try.pinned (OpenSpec.ofChange fnVecOrderSpec)

/-- ITS FALSE NEIGHBOUR: 'it returns false'. Refute it at one input. -/
def fnVecOrderWrong : ChangeSpec := { name := "fnVecOrder", fn := fun _ => fun
  | [d] => { results := [.lit (.bool false)], args := [d] }
  | _ => none }
def FnVecOrderWrongFalsely : Prop := fnVecOrderRow.holds Try.pinned (OpenSpec.ofChange fnVecOrderWrong)

/-- 'laws.FnVec': WHATEVER THE INPUT: true; the input reads as it did. -/
def fnVecSpec : ChangeSpec := { name := "fnVec", fn := fun _ => fun
  | [d] => { results := [.lit (.bool true)], args := [d] }
  | _ => none }
def fnVecRow : OpenClaim := { program := "ytjdndacollpjkaa", sum := "8f7073c4979a357da6c6863f11abb0f6cf6f8cf4c548c3afecdaf9d9ff81d08b", func := "loop.example/g00676/laws.FnVec", spec := "fnVec", unfollowed := true, recurses := true, apart := false }
def FnVecSaid : Prop := fnVecRow.holds Try.pinned (OpenSpec.ofChange fnVecSpec)

/-- ITS FALSE NEIGHBOUR: 'it returns false'. Refute it at one input. -/
def fnVecWrong : ChangeSpec := { name := "fnVec", fn := fun _ => fun
  | [d] => { results := [.lit (.bool false)], args := [d] }
  | _ => none }
def FnVecWrongFalsely : Prop := fnVecRow.holds Try.pinned (OpenSpec.ofChange fnVecWrong)

/-- 'laws.FnExactVarAt': WHATEVER THE INPUT: true; the input reads as it did. -/
def fnExactVarAtSpec : ChangeSpec := { name := "fnExactVarAt", fn := fun _ => fun
  | [d1, d2] => { results := [.lit (.bool true)], args := [d1, d2] }
  | _ => none }
def fnExactVarAtRow : OpenClaim := { program := "ytjdndacollpjkaa", sum := "8f7073c4979a357da6c6863f11abb0f6cf6f8cf4c548c3afecdaf9d9ff81d08b", func := "loop.example/g00676/laws.FnExactVarAt", spec := "fnExactVarAt", unfollowed := true, recurses := true, apart := false }
def FnExactVarAtSaid : Prop := fnExactVarAtRow.holds Try.pinned (OpenSpec.ofChange fnExactVarAtSpec)

/-- ITS FALSE NEIGHBOUR: 'it returns false'. Refute it at one input. -/
def fnExactVarAtWrong : ChangeSpec := { name := "fnExactVarAt", fn := fun _ => fun
  | [d1, d2] => { results := [.lit (.bool false)], args := [d1, d2] }
  | _ => none }
def FnExactVarAtWrongFalsely : Prop := fnExactVarAtRow.holds Try.pinned (OpenSpec.ofChange fnExactVarAtWrong)

/-- 'laws.FnVars': WHATEVER THE INPUT: true; the input reads as it did. -/
def fnVarsSpec : ChangeSpec := { name := "fnVars", fn := fun _ => fun
  | [d] => { results := [.lit (.bool true)], args := [d] }
  | _ => none }
def fnVarsRow : OpenClaim := { program := "ytjdndacollpjkaa", sum := "8f7073c4979a357da6c6863f11abb0f6cf6f8cf4c548c3afecdaf9d9ff81d08b", func := "loop.example/g00676/laws.FnVars", spec := "fnVars", unfollowed := true, recurses := true, apart := false }
def FnVarsSaid : Prop := fnVarsRow.holds Try.pinned (OpenSpec.ofChange fnVarsSpec)

/-- ITS FALSE NEIGHBOUR: 'it returns false'. Refute it at one input. -/
def fnVarsWrong : ChangeSpec := { name := "fnVars", fn := fun _ => fun
  | [d] => { results := [.lit (.bool false)], args := [d] }
  | _ => none }
def FnVarsWrongFalsely : Prop := fnVarsRow.holds Try.pinned (OpenSpec.ofChange fnVarsWrong)

/- THE SECOND FORM. 'bulk': how many values and letters a reading holds, each counted each time it is reached (what is shared counts as often as it is met; a slice's spare places count too). A statement '..UptoSaid' is the law's where the arguments, and the package variables that the reading takes, are together of bulk at most 1048576: NARROWER than '..Said'. Prove '..Said' where nothing that the law and all that it calls make is longer than what came in: it says more and counts as full. Else prove '..UptoSaid'. A law counts once. -/
mutual
def uptoBulk {H : Type} : DataW H → Nat
  | .lit (.string bytes) => bytes.length + 1
  | .lit _ => 1
  | .nil => 1
  | .ptr d => uptoBulk d + 1
  | .slice elems spare => uptoBulkAll elems + uptoBulkAll spare + 1
  | .agg parts => uptoBulkAll parts + 1
  | .iface _ d => uptoBulk d + 1
  | .map entries => uptoBulkEntries entries + 1
  | .held _ => 1
def uptoBulkAll {H : Type} : List (DataW H) → Nat
  | [] => 0
  | d :: r => uptoBulk d + uptoBulkAll r
def uptoBulkEntries {H : Type} : List (Lit × DataW H) → Nat
  | [] => 0
  | x :: r => uptoBulkEntry x + uptoBulkEntries r
def uptoBulkEntry {H : Type} : Lit × DataW H → Nat
  | (.string bytes, d) => bytes.length + uptoBulk d + 1
  | (_, d) => uptoBulk d + 1
 end
def uptoSmall : (H : Type) → List (DataW H) → Bool := fun _ ds => decide (uptoBulkAll ds ≤ 1048576)
def OpenSpec.upto (s : _root_.Go.ChangeSpec) : _root_.Go.OpenSpec := { _root_.Go.OpenSpec.ofChange s with cond := some uptoSmall }

/-- 'laws.FnExactVecOk', WHERE WHAT IT READS IS OF BULK AT MOST 1048576: true; the input reads as it did. -/
def fnExactVecOkUptoRow : OpenClaim := { program := "ytjdndacollpjkaa", sum := "8f7073c4979a357da6c6863f11abb0f6cf6f8cf4c548c3afecdaf9d9ff81d08b", func := "loop.example/g00676/laws.FnExactVecOk", spec := "fnExactVecOk", unfollowed := true, recurses := true, apart := false, narrowed := true }
def FnExactVecOkUptoSaid : Prop := fnExactVecOkUptoRow.holds Try.pinned (OpenSpec.upto fnExactVecOkSpec)

/-- 'laws.FnExactVecCmp', WHERE WHAT IT READS IS OF BULK AT MOST 1048576: true; the input reads as it did. -/
def fnExactVecCmpUptoRow : OpenClaim := { program := "ytjdndacollpjkaa", sum := "8f7073c4979a357da6c6863f11abb0f6cf6f8cf4c548c3afecdaf9d9ff81d08b", func := "loop.example/g00676/laws.FnExactVecCmp", spec := "fnExactVecCmp", unfollowed := true, recurses := true, apart := false, narrowed := true }
def FnExactVecCmpUptoSaid : Prop := fnExactVecCmpUptoRow.holds Try.pinned (OpenSpec.upto fnExactVecCmpSpec)

/-- 'laws.FnExactVecMake', WHERE WHAT IT READS IS OF BULK AT MOST 1048576: true; the input reads as it did. -/
def fnExactVecMakeUptoRow : OpenClaim := { program := "ytjdndacollpjkaa", sum := "8f7073c4979a357da6c6863f11abb0f6cf6f8cf4c548c3afecdaf9d9ff81d08b", func := "loop.example/g00676/laws.FnExactVecMake", spec := "fnExactVecMake", unfollowed := true, recurses := true, apart := false, narrowed := true }
def FnExactVecMakeUptoSaid : Prop := fnExactVecMakeUptoRow.holds Try.pinned (OpenSpec.upto fnExactVecMakeSpec)

/-- 'laws.FnExactVecAdd', WHERE WHAT IT READS IS OF BULK AT MOST 1048576: true; the input reads as it did. -/
def fnExactVecAddUptoRow : OpenClaim := { program := "ytjdndacollpjkaa", sum := "8f7073c4979a357da6c6863f11abb0f6cf6f8cf4c548c3afecdaf9d9ff81d08b", func := "loop.example/g00676/laws.FnExactVecAdd", spec := "fnExactVecAdd", unfollowed := true, recurses := true, apart := false, narrowed := true }
def FnExactVecAddUptoSaid : Prop := fnExactVecAddUptoRow.holds Try.pinned (OpenSpec.upto fnExactVecAddSpec)

/-- 'laws.FnExactVecScale', WHERE WHAT IT READS IS OF BULK AT MOST 1048576: true; the input reads as it did. -/
def fnExactVecScaleUptoRow : OpenClaim := { program := "ytjdndacollpjkaa", sum := "8f7073c4979a357da6c6863f11abb0f6cf6f8cf4c548c3afecdaf9d9ff81d08b", func := "loop.example/g00676/laws.FnExactVecScale", spec := "fnExactVecScale", unfollowed := true, recurses := true, apart := false, narrowed := true }
def FnExactVecScaleUptoSaid : Prop := fnExactVecScaleUptoRow.holds Try.pinned (OpenSpec.upto fnExactVecScaleSpec)

/-- 'laws.FnVecOrder', WHERE WHAT IT READS IS OF BULK AT MOST 1048576: true; the input reads as it did. -/
def fnVecOrderUptoRow : OpenClaim := { program := "ytjdndacollpjkaa", sum := "8f7073c4979a357da6c6863f11abb0f6cf6f8cf4c548c3afecdaf9d9ff81d08b", func := "loop.example/g00676/laws.FnVecOrder", spec := "fnVecOrder", unfollowed := true, recurses := true, apart := false, narrowed := true }
def FnVecOrderUptoSaid : Prop := fnVecOrderUptoRow.holds Try.pinned (OpenSpec.upto fnVecOrderSpec)

/-- 'laws.FnVec', WHERE WHAT IT READS IS OF BULK AT MOST 1048576: true; the input reads as it did. -/
def fnVecUptoRow : OpenClaim := { program := "ytjdndacollpjkaa", sum := "8f7073c4979a357da6c6863f11abb0f6cf6f8cf4c548c3afecdaf9d9ff81d08b", func := "loop.example/g00676/laws.FnVec", spec := "fnVec", unfollowed := true, recurses := true, apart := false, narrowed := true }
def FnVecUptoSaid : Prop := fnVecUptoRow.holds Try.pinned (OpenSpec.upto fnVecSpec)

/-- 'laws.FnExactVarAt', WHERE WHAT IT READS IS OF BULK AT MOST 1048576: true; the input reads as it did. -/
def fnExactVarAtUptoRow : OpenClaim := { program := "ytjdndacollpjkaa", sum := "8f7073c4979a357da6c6863f11abb0f6cf6f8cf4c548c3afecdaf9d9ff81d08b", func := "loop.example/g00676/laws.FnExactVarAt", spec := "fnExactVarAt", unfollowed := true, recurses := true, apart := false, narrowed := true }
def FnExactVarAtUptoSaid : Prop := fnExactVarAtUptoRow.holds Try.pinned (OpenSpec.upto fnExactVarAtSpec)

/-- 'laws.FnVars', WHERE WHAT IT READS IS OF BULK AT MOST 1048576: true; the input reads as it did. -/
def fnVarsUptoRow : OpenClaim := { program := "ytjdndacollpjkaa", sum := "8f7073c4979a357da6c6863f11abb0f6cf6f8cf4c548c3afecdaf9d9ff81d08b", func := "loop.example/g00676/laws.FnVars", spec := "fnVars", unfollowed := true, recurses := true, apart := false, narrowed := true }
def FnVarsUptoSaid : Prop := fnVarsUptoRow.holds Try.pinned (OpenSpec.upto fnVarsSpec)

end Rows
end Go.Proofs.Ytjdndacollpjkaa
