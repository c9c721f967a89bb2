/-
  No cell of these rows narrows 'for every input' (looked for: loops, veiled, ifaces, maps, wideKeys, modest, calm, conditions, laid).
  DERIVED. THE GIVEN ROWS OF THIS SEAT. 5 by the template 'for every input the law returns true; each argument reads behind the call as it read before'; 0 by the template 'total and deterministic' (their statements: YtebkbodkkehmfaaTotals.lean).
  GIVEN WITH THE SEED: the statements are not yours to turn. If you find one false, say at which input.
  Laid BY PROGRAM, IN A SANDBOX (cutbox-rows.mjs): the forced cells as the released guide's own fill.sh prints them over the translation b329d05039ed53c2… (all of the seat's roots in one cut). By AI agents, Wed Nov 11 2026. No macro, syntax, notation, axiom, sorry.
-/
import Derived.Test.YtebkbodkkehmfaaChecked
import GoSem.Claim
import GoSem.ClaimJoined
import GoSem.ClaimMapViews
import Derived.JoinedTies
import Derived.KernelRfl
namespace Go.Proofs.Ytebkbodkkehmfaa
/- THE CELL 'sum', in the pinned program and in every row, IS THE sha256 OF THE DUMP (.gsa) THAT YtebkbodkkehmfaaProg.lean LOADS. Nothing in Lean hashes anything: it is a label: what it is worth is what the hold of that sum in a sandbox is worth. -/
noncomputable def Try.pinned : Pinned := { name := "ytebkbodkkehmfaa", sum := "b329d05039ed53c2a0198bd2f25b2439702c0fe54a701793c022d3808ad00535", checked := Try.checked }
namespace Rows
def none {H : Type} : Left H := { results := [], args := [] }

/-- 'laws.FnExactFloatSum': WHATEVER THE INPUT: true; the input reads as it did. -/
def fnExactFloatSumSpec : ChangeSpec := { name := "fnExactFloatSum", fn := fun _ => fun
  | [d] => { results := [.lit (.bool true)], args := [d] }
  | _ => none }
def fnExactFloatSumRow : OpenClaim := { program := "ytebkbodkkehmfaa", sum := "b329d05039ed53c2a0198bd2f25b2439702c0fe54a701793c022d3808ad00535", func := "loop.example/g00676/laws.FnExactFloatSum", spec := "fnExactFloatSum", apart := false }
def FnExactFloatSumSaid : Prop := fnExactFloatSumRow.holds Try.pinned (OpenSpec.ofChange fnExactFloatSumSpec)

/-- ITS FALSE NEIGHBOUR: 'it returns false'. Refute it at one input. -/
def fnExactFloatSumWrong : ChangeSpec := { name := "fnExactFloatSum", fn := fun _ => fun
  | [d] => { results := [.lit (.bool false)], args := [d] }
  | _ => none }
def FnExactFloatSumWrongFalsely : Prop := fnExactFloatSumRow.holds Try.pinned (OpenSpec.ofChange fnExactFloatSumWrong)

/-- 'laws.FnExactFloatClass': WHATEVER THE INPUT: true; the input reads as it did. -/
def fnExactFloatClassSpec : ChangeSpec := { name := "fnExactFloatClass", fn := fun _ => fun
  | [d] => { results := [.lit (.bool true)], args := [d] }
  | _ => none }
def fnExactFloatClassRow : OpenClaim := { program := "ytebkbodkkehmfaa", sum := "b329d05039ed53c2a0198bd2f25b2439702c0fe54a701793c022d3808ad00535", func := "loop.example/g00676/laws.FnExactFloatClass", spec := "fnExactFloatClass", inPlace := ["math.Float64bits", "math.Float64frombits"], apart := false }
def FnExactFloatClassSaid : Prop := fnExactFloatClassRow.holds Try.pinned (OpenSpec.ofChange fnExactFloatClassSpec)

/-- ITS FALSE NEIGHBOUR: 'it returns false'. Refute it at one input. -/
def fnExactFloatClassWrong : ChangeSpec := { name := "fnExactFloatClass", fn := fun _ => fun
  | [d] => { results := [.lit (.bool false)], args := [d] }
  | _ => none }
def FnExactFloatClassWrongFalsely : Prop := fnExactFloatClassRow.holds Try.pinned (OpenSpec.ofChange fnExactFloatClassWrong)

/-- 'laws.FnExactFloatCmp': WHATEVER THE INPUT: true; the input reads as it did. -/
def fnExactFloatCmpSpec : ChangeSpec := { name := "fnExactFloatCmp", fn := fun _ => fun
  | [d1, d2] => { results := [.lit (.bool true)], args := [d1, d2] }
  | _ => none }
def fnExactFloatCmpRow : OpenClaim := { program := "ytebkbodkkehmfaa", sum := "b329d05039ed53c2a0198bd2f25b2439702c0fe54a701793c022d3808ad00535", func := "loop.example/g00676/laws.FnExactFloatCmp", spec := "fnExactFloatCmp", inPlace := ["math.Float64bits"], apart := false }
def FnExactFloatCmpSaid : Prop := fnExactFloatCmpRow.holds Try.pinned (OpenSpec.ofChange fnExactFloatCmpSpec)

/-- ITS FALSE NEIGHBOUR: 'it returns false'. Refute it at one input. -/
def fnExactFloatCmpWrong : ChangeSpec := { name := "fnExactFloatCmp", fn := fun _ => fun
  | [d1, d2] => { results := [.lit (.bool false)], args := [d1, d2] }
  | _ => none }
def FnExactFloatCmpWrongFalsely : Prop := fnExactFloatCmpRow.holds Try.pinned (OpenSpec.ofChange fnExactFloatCmpWrong)

/-- 'laws.FnExactNextUp': WHATEVER THE INPUT: true; the input reads as it did. -/
def fnExactNextUpSpec : ChangeSpec := { name := "fnExactNextUp", fn := fun _ => fun
  | [d] => { results := [.lit (.bool true)], args := [d] }
  | _ => none }
def fnExactNextUpRow : OpenClaim := { program := "ytebkbodkkehmfaa", sum := "b329d05039ed53c2a0198bd2f25b2439702c0fe54a701793c022d3808ad00535", func := "loop.example/g00676/laws.FnExactNextUp", spec := "fnExactNextUp", inPlace := ["math.Float64bits", "math.Float64frombits"], apart := false }
def FnExactNextUpSaid : Prop := fnExactNextUpRow.holds Try.pinned (OpenSpec.ofChange fnExactNextUpSpec)

/-- ITS FALSE NEIGHBOUR: 'it returns false'. Refute it at one input. -/
def fnExactNextUpWrong : ChangeSpec := { name := "fnExactNextUp", fn := fun _ => fun
  | [d] => { results := [.lit (.bool false)], args := [d] }
  | _ => none }
def FnExactNextUpWrongFalsely : Prop := fnExactNextUpRow.holds Try.pinned (OpenSpec.ofChange fnExactNextUpWrong)

/-- 'laws.FnNext': WHATEVER THE INPUT: true; the input reads as it did. -/
def fnNextSpec : ChangeSpec := { name := "fnNext", fn := fun _ => fun
  | [d] => { results := [.lit (.bool true)], args := [d] }
  | _ => none }
def fnNextRow : OpenClaim := { program := "ytebkbodkkehmfaa", sum := "b329d05039ed53c2a0198bd2f25b2439702c0fe54a701793c022d3808ad00535", func := "loop.example/g00676/laws.FnNext", spec := "fnNext", inPlace := ["math.Float64bits", "math.Float64frombits"], apart := false }
def FnNextSaid : Prop := fnNextRow.holds Try.pinned (OpenSpec.ofChange fnNextSpec)

/-- ITS FALSE NEIGHBOUR: 'it returns false'. Refute it at one input. -/
def fnNextWrong : ChangeSpec := { name := "fnNext", fn := fun _ => fun
  | [d] => { results := [.lit (.bool false)], args := [d] }
  | _ => none }
def FnNextWrongFalsely : Prop := fnNextRow.holds Try.pinned (OpenSpec.ofChange fnNextWrong)

/- THE SECOND FORM. 'bulk': how many values and letters a reading holds, each counted each time it is reached (what is shared counts as often as it is met; a slice's spare places count too). A statement '..UptoSaid' is the law's where the arguments, and the package variables that the reading takes, are together of bulk at most 1048576: NARROWER than '..Said'. Prove '..Said' where nothing that the law and all that it calls make is longer than what came in: it says more and counts as full. Else prove '..UptoSaid'. A law counts once. -/
mutual
def uptoBulk {H : Type} : DataW H → Nat
  | .lit (.string bytes) => bytes.length + 1
  | .lit _ => 1
  | .nil => 1
  | .ptr d => uptoBulk d + 1
  | .slice elems spare => uptoBulkAll elems + uptoBulkAll spare + 1
  | .agg parts => uptoBulkAll parts + 1
  | .iface _ d => uptoBulk d + 1
  | .map entries => uptoBulkEntries entries + 1
  | .held _ => 1
def uptoBulkAll {H : Type} : List (DataW H) → Nat
  | [] => 0
  | d :: r => uptoBulk d + uptoBulkAll r
def uptoBulkEntries {H : Type} : List (Lit × DataW H) → Nat
  | [] => 0
  | x :: r => uptoBulkEntry x + uptoBulkEntries r
def uptoBulkEntry {H : Type} : Lit × DataW H → Nat
  | (.string bytes, d) => bytes.length + uptoBulk d + 1
  | (_, d) => uptoBulk d + 1
 end
def uptoSmall : (H : Type) → List (DataW H) → Bool := fun _ ds => decide (uptoBulkAll ds ≤ 1048576)
def OpenSpec.upto (s : _root_.Go.ChangeSpec) : _root_.Go.OpenSpec := { _root_.Go.OpenSpec.ofChange s with cond := some uptoSmall }

/-- 'laws.FnExactFloatSum', WHERE WHAT IT READS IS OF BULK AT MOST 1048576: true; the input reads as it did. -/
def fnExactFloatSumUptoRow : OpenClaim := { program := "ytebkbodkkehmfaa", sum := "b329d05039ed53c2a0198bd2f25b2439702c0fe54a701793c022d3808ad00535", func := "loop.example/g00676/laws.FnExactFloatSum", spec := "fnExactFloatSum", apart := false, narrowed := true }
def FnExactFloatSumUptoSaid : Prop := fnExactFloatSumUptoRow.holds Try.pinned (OpenSpec.upto fnExactFloatSumSpec)

/-- 'laws.FnExactFloatClass', WHERE WHAT IT READS IS OF BULK AT MOST 1048576: true; the input reads as it did. -/
def fnExactFloatClassUptoRow : OpenClaim := { program := "ytebkbodkkehmfaa", sum := "b329d05039ed53c2a0198bd2f25b2439702c0fe54a701793c022d3808ad00535", func := "loop.example/g00676/laws.FnExactFloatClass", spec := "fnExactFloatClass", inPlace := ["math.Float64bits", "math.Float64frombits"], apart := false, narrowed := true }
def FnExactFloatClassUptoSaid : Prop := fnExactFloatClassUptoRow.holds Try.pinned (OpenSpec.upto fnExactFloatClassSpec)

/-- 'laws.FnExactFloatCmp', WHERE WHAT IT READS IS OF BULK AT MOST 1048576: true; the input reads as it did. -/
def fnExactFloatCmpUptoRow : OpenClaim := { program := "ytebkbodkkehmfaa", sum := "b329d05039ed53c2a0198bd2f25b2439702c0fe54a701793c022d3808ad00535", func := "loop.example/g00676/laws.FnExactFloatCmp", spec := "fnExactFloatCmp", inPlace := ["math.Float64bits"], apart := false, narrowed := true }
def FnExactFloatCmpUptoSaid : Prop := fnExactFloatCmpUptoRow.holds Try.pinned (OpenSpec.upto fnExactFloatCmpSpec)

/-- 'laws.FnExactNextUp', WHERE WHAT IT READS IS OF BULK AT MOST 1048576: true; the input reads as it did. -/
def fnExactNextUpUptoRow : OpenClaim := { program := "ytebkbodkkehmfaa", sum := "b329d05039ed53c2a0198bd2f25b2439702c0fe54a701793c022d3808ad00535", func := "loop.example/g00676/laws.FnExactNextUp", spec := "fnExactNextUp", inPlace := ["math.Float64bits", "math.Float64frombits"], apart := false, narrowed := true }
def FnExactNextUpUptoSaid : Prop := fnExactNextUpUptoRow.holds Try.pinned (OpenSpec.upto fnExactNextUpSpec)

/-- 'laws.FnNext', WHERE WHAT IT READS IS OF BULK AT MOST 1048576: true; the input reads as it did. -/
def fnNextUptoRow : OpenClaim := { program := "ytebkbodkkehmfaa", sum := "b329d05039ed53c2a0198bd2f25b2439702c0fe54a701793c022d3808ad00535", func := "loop.example/g00676/laws.FnNext", spec := "fnNext", inPlace := ["math.Float64bits", "math.Float64frombits"], apart := false, narrowed := true }
def FnNextUptoSaid : Prop := fnNextUptoRow.holds Try.pinned (OpenSpec.upto fnNextSpec)

end Rows
end Go.Proofs.Ytebkbodkkehmfaa
