/-
  No cell of these rows narrows 'for every input' (looked for: loops, veiled, ifaces, maps, wideKeys, modest, calm, conditions, laid).
  DERIVED. THE GIVEN ROWS OF THIS SEAT. 11 by the template 'for every input the law returns true; each argument reads behind the call as it read before'; 0 by the template 'total and deterministic' (their statements: YtgjnjimlaipjcaaTotals.lean).
  GIVEN WITH THE SEED: the statements are not yours to turn. If you find one false, say at which input.
  Laid BY PROGRAM, IN A SANDBOX (cutbox-rows.mjs): the forced cells as the released guide's own fill.sh prints them over the translation c036e05e78cd35f5… (all of the seat's roots in one cut). By AI agents, Wed Nov 11 2026. No macro, syntax, notation, axiom, sorry.
-/
import Derived.Test.YtgjnjimlaipjcaaChecked
import GoSem.Claim
import GoSem.ClaimJoined
import GoSem.ClaimMapViews
import Derived.JoinedTies
import Derived.KernelRfl
namespace Go.Proofs.Ytgjnjimlaipjcaa
/- THE CELL 'sum', in the pinned program and in every row, IS THE sha256 OF THE DUMP (.gsa) THAT YtgjnjimlaipjcaaProg.lean LOADS. Nothing in Lean hashes anything: it is a label: what it is worth is what the hold of that sum in a sandbox is worth. -/
noncomputable def Try.pinned : Pinned := { name := "ytgjnjimlaipjcaa", sum := "c036e05e78cd35f5af628a7d1a0cee28effa306966376317a2ebc7e548e2939c", checked := Try.checked }
namespace Rows
def none {H : Type} : Left H := { results := [], args := [] }

/-- 'laws.FnExactConstants': WHATEVER THE INPUT: true; the input reads as it did. -/
def fnExactConstantsSpec : ChangeSpec := { name := "fnExactConstants", fn := fun _ => fun
  | [] => { results := [.lit (.bool true)], args := [] }
  | _ => none }
def fnExactConstantsRow : OpenClaim := { program := "ytgjnjimlaipjcaa", sum := "c036e05e78cd35f5af628a7d1a0cee28effa306966376317a2ebc7e548e2939c", func := "loop.example/g00676/laws.FnExactConstants", spec := "fnExactConstants", apart := false }
def FnExactConstantsSaid : Prop := fnExactConstantsRow.holds Try.pinned (OpenSpec.ofChange fnExactConstantsSpec)

/-- ITS FALSE NEIGHBOUR: 'it returns false'. Refute it at one input. -/
def fnExactConstantsWrong : ChangeSpec := { name := "fnExactConstants", fn := fun _ => fun
  | [] => { results := [.lit (.bool false)], args := [] }
  | _ => none }
def FnExactConstantsWrongFalsely : Prop := fnExactConstantsRow.holds Try.pinned (OpenSpec.ofChange fnExactConstantsWrong)

/-- 'laws.FnExactBefore': WHATEVER THE INPUT: true; the input reads as it did. -/
def fnExactBeforeSpec : ChangeSpec := { name := "fnExactBefore", fn := fun _ => fun
  | [d1, d2] => { results := [.lit (.bool true)], args := [d1, d2] }
  | _ => none }
def fnExactBeforeRow : OpenClaim := { program := "ytgjnjimlaipjcaa", sum := "c036e05e78cd35f5af628a7d1a0cee28effa306966376317a2ebc7e548e2939c", func := "loop.example/g00676/laws.FnExactBefore", spec := "fnExactBefore", apart := false }
def FnExactBeforeSaid : Prop := fnExactBeforeRow.holds Try.pinned (OpenSpec.ofChange fnExactBeforeSpec)

/-- ITS FALSE NEIGHBOUR: 'it returns false'. Refute it at one input. -/
def fnExactBeforeWrong : ChangeSpec := { name := "fnExactBefore", fn := fun _ => fun
  | [d1, d2] => { results := [.lit (.bool false)], args := [d1, d2] }
  | _ => none }
def FnExactBeforeWrongFalsely : Prop := fnExactBeforeRow.holds Try.pinned (OpenSpec.ofChange fnExactBeforeWrong)

/-- 'laws.FnExactNameOk': WHATEVER THE INPUT: true; the input reads as it did. -/
def fnExactNameOkSpec : ChangeSpec := { name := "fnExactNameOk", fn := fun _ => fun
  | [d] => { results := [.lit (.bool true)], args := [d] }
  | _ => none }
def fnExactNameOkRow : OpenClaim := { program := "ytgjnjimlaipjcaa", sum := "c036e05e78cd35f5af628a7d1a0cee28effa306966376317a2ebc7e548e2939c", func := "loop.example/g00676/laws.FnExactNameOk", spec := "fnExactNameOk", apart := false }
def FnExactNameOkSaid : Prop := fnExactNameOkRow.holds Try.pinned (OpenSpec.ofChange fnExactNameOkSpec)

/-- ITS FALSE NEIGHBOUR: 'it returns false'. Refute it at one input. -/
def fnExactNameOkWrong : ChangeSpec := { name := "fnExactNameOk", fn := fun _ => fun
  | [d] => { results := [.lit (.bool false)], args := [d] }
  | _ => none }
def FnExactNameOkWrongFalsely : Prop := fnExactNameOkRow.holds Try.pinned (OpenSpec.ofChange fnExactNameOkWrong)

/-- 'laws.FnExactGcd': WHATEVER THE INPUT: true; the input reads as it did. -/
def fnExactGcdSpec : ChangeSpec := { name := "fnExactGcd", fn := fun _ => fun
  | [d1, d2] => { results := [.lit (.bool true)], args := [d1, d2] }
  | _ => none }
def fnExactGcdRow : OpenClaim := { program := "ytgjnjimlaipjcaa", sum := "c036e05e78cd35f5af628a7d1a0cee28effa306966376317a2ebc7e548e2939c", func := "loop.example/g00676/laws.FnExactGcd", spec := "fnExactGcd", apart := false }
def FnExactGcdSaid : Prop := fnExactGcdRow.holds Try.pinned (OpenSpec.ofChange fnExactGcdSpec)

/-- ITS FALSE NEIGHBOUR: 'it returns false'. Refute it at one input. -/
def fnExactGcdWrong : ChangeSpec := { name := "fnExactGcd", fn := fun _ => fun
  | [d1, d2] => { results := [.lit (.bool false)], args := [d1, d2] }
  | _ => none }
def FnExactGcdWrongFalsely : Prop := fnExactGcdRow.holds Try.pinned (OpenSpec.ofChange fnExactGcdWrong)

/-- 'laws.FnExactLcm': WHATEVER THE INPUT: true; the input reads as it did. -/
def fnExactLcmSpec : ChangeSpec := { name := "fnExactLcm", fn := fun _ => fun
  | [d1, d2] => { results := [.lit (.bool true)], args := [d1, d2] }
  | _ => none }
def fnExactLcmRow : OpenClaim := { program := "ytgjnjimlaipjcaa", sum := "c036e05e78cd35f5af628a7d1a0cee28effa306966376317a2ebc7e548e2939c", func := "loop.example/g00676/laws.FnExactLcm", spec := "fnExactLcm", apart := false }
def FnExactLcmSaid : Prop := fnExactLcmRow.holds Try.pinned (OpenSpec.ofChange fnExactLcmSpec)

/-- ITS FALSE NEIGHBOUR: 'it returns false'. Refute it at one input. -/
def fnExactLcmWrong : ChangeSpec := { name := "fnExactLcm", fn := fun _ => fun
  | [d1, d2] => { results := [.lit (.bool false)], args := [d1, d2] }
  | _ => none }
def FnExactLcmWrongFalsely : Prop := fnExactLcmRow.holds Try.pinned (OpenSpec.ofChange fnExactLcmWrong)

/-- 'laws.FnDivisors': WHATEVER THE INPUT: true; the input reads as it did. -/
def fnDivisorsSpec : ChangeSpec := { name := "fnDivisors", fn := fun _ => fun
  | [d] => { results := [.lit (.bool true)], args := [d] }
  | _ => none }
def fnDivisorsRow : OpenClaim := { program := "ytgjnjimlaipjcaa", sum := "c036e05e78cd35f5af628a7d1a0cee28effa306966376317a2ebc7e548e2939c", func := "loop.example/g00676/laws.FnDivisors", spec := "fnDivisors", apart := false }
def FnDivisorsSaid : Prop := fnDivisorsRow.holds Try.pinned (OpenSpec.ofChange fnDivisorsSpec)

/-- ITS FALSE NEIGHBOUR: 'it returns false'. Refute it at one input. -/
def fnDivisorsWrong : ChangeSpec := { name := "fnDivisors", fn := fun _ => fun
  | [d] => { results := [.lit (.bool false)], args := [d] }
  | _ => none }
def FnDivisorsWrongFalsely : Prop := fnDivisorsRow.holds Try.pinned (OpenSpec.ofChange fnDivisorsWrong)

/-- 'laws.FnOrder': WHATEVER THE INPUT: true; the input reads as it did. -/
def fnOrderSpec : ChangeSpec := { name := "fnOrder", fn := fun _ => fun
  | [d] => { results := [.lit (.bool true)], args := [d] }
  | _ => none }
def fnOrderRow : OpenClaim := { program := "ytgjnjimlaipjcaa", sum := "c036e05e78cd35f5af628a7d1a0cee28effa306966376317a2ebc7e548e2939c", func := "loop.example/g00676/laws.FnOrder", spec := "fnOrder", apart := false }
def FnOrderSaid : Prop := fnOrderRow.holds Try.pinned (OpenSpec.ofChange fnOrderSpec)

/-- ITS FALSE NEIGHBOUR: 'it returns false'. Refute it at one input. -/
def fnOrderWrong : ChangeSpec := { name := "fnOrder", fn := fun _ => fun
  | [d] => { results := [.lit (.bool false)], args := [d] }
  | _ => none }
def FnOrderWrongFalsely : Prop := fnOrderRow.holds Try.pinned (OpenSpec.ofChange fnOrderWrong)

/-- 'laws.FnExactBigOk': WHATEVER THE INPUT: true; the input reads as it did. -/
def fnExactBigOkSpec : ChangeSpec := { name := "fnExactBigOk", fn := fun _ => fun
  | [d] => { results := [.lit (.bool true)], args := [d] }
  | _ => none }
def fnExactBigOkRow : OpenClaim := { program := "ytgjnjimlaipjcaa", sum := "c036e05e78cd35f5af628a7d1a0cee28effa306966376317a2ebc7e548e2939c", func := "loop.example/g00676/laws.FnExactBigOk", spec := "fnExactBigOk", apart := false }
def FnExactBigOkSaid : Prop := fnExactBigOkRow.holds Try.pinned (OpenSpec.ofChange fnExactBigOkSpec)

/-- ITS FALSE NEIGHBOUR: 'it returns false'. Refute it at one input. -/
def fnExactBigOkWrong : ChangeSpec := { name := "fnExactBigOk", fn := fun _ => fun
  | [d] => { results := [.lit (.bool false)], args := [d] }
  | _ => none }
def FnExactBigOkWrongFalsely : Prop := fnExactBigOkRow.holds Try.pinned (OpenSpec.ofChange fnExactBigOkWrong)

/-- 'laws.FnExactNought': WHATEVER THE INPUT: true; the input reads as it did. -/
def fnExactNoughtSpec : ChangeSpec := { name := "fnExactNought", fn := fun _ => fun
  | [d] => { results := [.lit (.bool true)], args := [d] }
  | _ => none }
def fnExactNoughtRow : OpenClaim := { program := "ytgjnjimlaipjcaa", sum := "c036e05e78cd35f5af628a7d1a0cee28effa306966376317a2ebc7e548e2939c", func := "loop.example/g00676/laws.FnExactNought", spec := "fnExactNought", apart := false }
def FnExactNoughtSaid : Prop := fnExactNoughtRow.holds Try.pinned (OpenSpec.ofChange fnExactNoughtSpec)

/-- ITS FALSE NEIGHBOUR: 'it returns false'. Refute it at one input. -/
def fnExactNoughtWrong : ChangeSpec := { name := "fnExactNought", fn := fun _ => fun
  | [d] => { results := [.lit (.bool false)], args := [d] }
  | _ => none }
def FnExactNoughtWrongFalsely : Prop := fnExactNoughtRow.holds Try.pinned (OpenSpec.ofChange fnExactNoughtWrong)

/-- 'laws.FnExactUnitVec': WHATEVER THE INPUT: true; the input reads as it did. -/
def fnExactUnitVecSpec : ChangeSpec := { name := "fnExactUnitVec", fn := fun _ => fun
  | [d1, d2] => { results := [.lit (.bool true)], args := [d1, d2] }
  | _ => none }
def fnExactUnitVecRow : OpenClaim := { program := "ytgjnjimlaipjcaa", sum := "c036e05e78cd35f5af628a7d1a0cee28effa306966376317a2ebc7e548e2939c", func := "loop.example/g00676/laws.FnExactUnitVec", spec := "fnExactUnitVec", apart := false }
def FnExactUnitVecSaid : Prop := fnExactUnitVecRow.holds Try.pinned (OpenSpec.ofChange fnExactUnitVecSpec)

/-- ITS FALSE NEIGHBOUR: 'it returns false'. Refute it at one input. -/
def fnExactUnitVecWrong : ChangeSpec := { name := "fnExactUnitVec", fn := fun _ => fun
  | [d1, d2] => { results := [.lit (.bool false)], args := [d1, d2] }
  | _ => none }
def FnExactUnitVecWrongFalsely : Prop := fnExactUnitVecRow.holds Try.pinned (OpenSpec.ofChange fnExactUnitVecWrong)

/-- 'laws.FnExactPartOk': WHATEVER THE INPUT: true; the input reads as it did. -/
def fnExactPartOkSpec : ChangeSpec := { name := "fnExactPartOk", fn := fun _ => fun
  | [d] => { results := [.lit (.bool true)], args := [d] }
  | _ => none }
def fnExactPartOkRow : OpenClaim := { program := "ytgjnjimlaipjcaa", sum := "c036e05e78cd35f5af628a7d1a0cee28effa306966376317a2ebc7e548e2939c", func := "loop.example/g00676/laws.FnExactPartOk", spec := "fnExactPartOk", apart := false }
def FnExactPartOkSaid : Prop := fnExactPartOkRow.holds Try.pinned (OpenSpec.ofChange fnExactPartOkSpec)

/-- ITS FALSE NEIGHBOUR: 'it returns false'. Refute it at one input. -/
def fnExactPartOkWrong : ChangeSpec := { name := "fnExactPartOk", fn := fun _ => fun
  | [d] => { results := [.lit (.bool false)], args := [d] }
  | _ => none }
def FnExactPartOkWrongFalsely : Prop := fnExactPartOkRow.holds Try.pinned (OpenSpec.ofChange fnExactPartOkWrong)

/- THE SECOND FORM. 'bulk': how many values and letters a reading holds, each counted each time it is reached (what is shared counts as often as it is met; a slice's spare places count too). A statement '..UptoSaid' is the law's where the arguments, and the package variables that the reading takes, are together of bulk at most 1048576: NARROWER than '..Said'. Prove '..Said' where nothing that the law and all that it calls make is longer than what came in: it says more and counts as full. Else prove '..UptoSaid'. A law counts once. -/
mutual
def uptoBulk {H : Type} : DataW H → Nat
  | .lit (.string bytes) => bytes.length + 1
  | .lit _ => 1
  | .nil => 1
  | .ptr d => uptoBulk d + 1
  | .slice elems spare => uptoBulkAll elems + uptoBulkAll spare + 1
  | .agg parts => uptoBulkAll parts + 1
  | .iface _ d => uptoBulk d + 1
  | .map entries => uptoBulkEntries entries + 1
  | .held _ => 1
def uptoBulkAll {H : Type} : List (DataW H) → Nat
  | [] => 0
  | d :: r => uptoBulk d + uptoBulkAll r
def uptoBulkEntries {H : Type} : List (Lit × DataW H) → Nat
  | [] => 0
  | x :: r => uptoBulkEntry x + uptoBulkEntries r
def uptoBulkEntry {H : Type} : Lit × DataW H → Nat
  | (.string bytes, d) => bytes.length + uptoBulk d + 1
  | (_, d) => uptoBulk d + 1
 end
def uptoSmall : (H : Type) → List (DataW H) → Bool := fun _ ds => decide (uptoBulkAll ds ≤ 1048576)
def OpenSpec.upto (s : _root_.Go.ChangeSpec) : _root_.Go.OpenSpec := { _root_.Go.OpenSpec.ofChange s with cond := some uptoSmall }

/-- 'laws.FnExactConstants', WHERE WHAT IT READS IS OF BULK AT MOST 1048576: true; the input reads as it did. -/
def fnExactConstantsUptoRow : OpenClaim := { program := "ytgjnjimlaipjcaa", sum := "c036e05e78cd35f5af628a7d1a0cee28effa306966376317a2ebc7e548e2939c", func := "loop.example/g00676/laws.FnExactConstants", spec := "fnExactConstants", apart := false, narrowed := true }
def FnExactConstantsUptoSaid : Prop := fnExactConstantsUptoRow.holds Try.pinned (OpenSpec.upto fnExactConstantsSpec)

/-- 'laws.FnExactBefore', WHERE WHAT IT READS IS OF BULK AT MOST 1048576: true; the input reads as it did. -/
def fnExactBeforeUptoRow : OpenClaim := { program := "ytgjnjimlaipjcaa", sum := "c036e05e78cd35f5af628a7d1a0cee28effa306966376317a2ebc7e548e2939c", func := "loop.example/g00676/laws.FnExactBefore", spec := "fnExactBefore", apart := false, narrowed := true }
def FnExactBeforeUptoSaid : Prop := fnExactBeforeUptoRow.holds Try.pinned (OpenSpec.upto fnExactBeforeSpec)

/-- 'laws.FnExactNameOk', WHERE WHAT IT READS IS OF BULK AT MOST 1048576: true; the input reads as it did. -/
def fnExactNameOkUptoRow : OpenClaim := { program := "ytgjnjimlaipjcaa", sum := "c036e05e78cd35f5af628a7d1a0cee28effa306966376317a2ebc7e548e2939c", func := "loop.example/g00676/laws.FnExactNameOk", spec := "fnExactNameOk", apart := false, narrowed := true }
def FnExactNameOkUptoSaid : Prop := fnExactNameOkUptoRow.holds Try.pinned (OpenSpec.upto fnExactNameOkSpec)

/-- 'laws.FnExactGcd', WHERE WHAT IT READS IS OF BULK AT MOST 1048576: true; the input reads as it did. -/
def fnExactGcdUptoRow : OpenClaim := { program := "ytgjnjimlaipjcaa", sum := "c036e05e78cd35f5af628a7d1a0cee28effa306966376317a2ebc7e548e2939c", func := "loop.example/g00676/laws.FnExactGcd", spec := "fnExactGcd", apart := false, narrowed := true }
def FnExactGcdUptoSaid : Prop := fnExactGcdUptoRow.holds Try.pinned (OpenSpec.upto fnExactGcdSpec)

/-- 'laws.FnExactLcm', WHERE WHAT IT READS IS OF BULK AT MOST 1048576: true; the input reads as it did. -/
def fnExactLcmUptoRow : OpenClaim := { program := "ytgjnjimlaipjcaa", sum := "c036e05e78cd35f5af628a7d1a0cee28effa306966376317a2ebc7e548e2939c", func := "loop.example/g00676/laws.FnExactLcm", spec := "fnExactLcm", apart := false, narrowed := true }
def FnExactLcmUptoSaid : Prop := fnExactLcmUptoRow.holds Try.pinned (OpenSpec.upto fnExactLcmSpec)

/-- 'laws.FnDivisors', WHERE WHAT IT READS IS OF BULK AT MOST 1048576: true; the input reads as it did. -/
def fnDivisorsUptoRow : OpenClaim := { program := "ytgjnjimlaipjcaa", sum := "c036e05e78cd35f5af628a7d1a0cee28effa306966376317a2ebc7e548e2939c", func := "loop.example/g00676/laws.FnDivisors", spec := "fnDivisors", apart := false, narrowed := true }
def FnDivisorsUptoSaid : Prop := fnDivisorsUptoRow.holds Try.pinned (OpenSpec.upto fnDivisorsSpec)

/-- 'laws.FnOrder', WHERE WHAT IT READS IS OF BULK AT MOST 1048576: true; the input reads as it did. -/
def fnOrderUptoRow : OpenClaim := { program := "ytgjnjimlaipjcaa", sum := "c036e05e78cd35f5af628a7d1a0cee28effa306966376317a2ebc7e548e2939c", func := "loop.example/g00676/laws.FnOrder", spec := "fnOrder", apart := false, narrowed := true }
def FnOrderUptoSaid : Prop := fnOrderUptoRow.holds Try.pinned (OpenSpec.upto fnOrderSpec)

/-- 'laws.FnExactBigOk', WHERE WHAT IT READS IS OF BULK AT MOST 1048576: true; the input reads as it did. -/
def fnExactBigOkUptoRow : OpenClaim := { program := "ytgjnjimlaipjcaa", sum := "c036e05e78cd35f5af628a7d1a0cee28effa306966376317a2ebc7e548e2939c", func := "loop.example/g00676/laws.FnExactBigOk", spec := "fnExactBigOk", apart := false, narrowed := true }
def FnExactBigOkUptoSaid : Prop := fnExactBigOkUptoRow.holds Try.pinned (OpenSpec.upto fnExactBigOkSpec)

/-- 'laws.FnExactNought', WHERE WHAT IT READS IS OF BULK AT MOST 1048576: true; the input reads as it did. -/
def fnExactNoughtUptoRow : OpenClaim := { program := "ytgjnjimlaipjcaa", sum := "c036e05e78cd35f5af628a7d1a0cee28effa306966376317a2ebc7e548e2939c", func := "loop.example/g00676/laws.FnExactNought", spec := "fnExactNought", apart := false, narrowed := true }
def FnExactNoughtUptoSaid : Prop := fnExactNoughtUptoRow.holds Try.pinned (OpenSpec.upto fnExactNoughtSpec)

/-- 'laws.FnExactUnitVec', WHERE WHAT IT READS IS OF BULK AT MOST 1048576: true; the input reads as it did. -/
def fnExactUnitVecUptoRow : OpenClaim := { program := "ytgjnjimlaipjcaa", sum := "c036e05e78cd35f5af628a7d1a0cee28effa306966376317a2ebc7e548e2939c", func := "loop.example/g00676/laws.FnExactUnitVec", spec := "fnExactUnitVec", apart := false, narrowed := true }
def FnExactUnitVecUptoSaid : Prop := fnExactUnitVecUptoRow.holds Try.pinned (OpenSpec.upto fnExactUnitVecSpec)

/-- 'laws.FnExactPartOk', WHERE WHAT IT READS IS OF BULK AT MOST 1048576: true; the input reads as it did. -/
def fnExactPartOkUptoRow : OpenClaim := { program := "ytgjnjimlaipjcaa", sum := "c036e05e78cd35f5af628a7d1a0cee28effa306966376317a2ebc7e548e2939c", func := "loop.example/g00676/laws.FnExactPartOk", spec := "fnExactPartOk", apart := false, narrowed := true }
def FnExactPartOkUptoSaid : Prop := fnExactPartOkUptoRow.holds Try.pinned (OpenSpec.upto fnExactPartOkSpec)

end Rows
end Go.Proofs.Ytgjnjimlaipjcaa
