/-
  No cell of these rows narrows 'for every input' (looked for: loops, veiled, ifaces, maps, wideKeys, modest, calm, conditions, laid).
  DERIVED. THE GIVEN ROWS OF THIS SEAT. 10 by the template 'for every input the law returns true; each argument reads behind the call as it read before'; 0 by the template 'total and deterministic' (their statements: YtpndacfbchdmmaaTotals.lean).
  GIVEN WITH THE SEED: the statements are not yours to turn. If you find one false, say at which input.
  Laid BY PROGRAM, IN A SANDBOX (cutbox-rows.mjs): the forced cells as the released guide's own fill.sh prints them over the translation 8fc62db145b13055… (all of the seat's roots in one cut). By AI agents, Wed Nov 11 2026. No macro, syntax, notation, axiom, sorry.
-/
import Derived.Test.YtpndacfbchdmmaaChecked
import GoSem.Claim
import GoSem.ClaimJoined
import GoSem.ClaimMapViews
import Derived.JoinedTies
import Derived.KernelRfl
namespace Go.Proofs.Ytpndacfbchdmmaa
/- THE CELL 'sum', in the pinned program and in every row, IS THE sha256 OF THE DUMP (.gsa) THAT YtpndacfbchdmmaaProg.lean LOADS. Nothing in Lean hashes anything: it is a label: what it is worth is what the hold of that sum in a sandbox is worth. -/
noncomputable def Try.pinned : Pinned := { name := "ytpndacfbchdmmaa", sum := "8fc62db145b13055872b1165b10e0893ed1c46c6205d4554f1b4f23434d07698", checked := Try.checked }
namespace Rows
def none {H : Type} : Left H := { results := [], args := [] }

/-- 'laws.FnExactPathCount': WHATEVER THE INPUT: true; the input reads as it did. -/
def fnExactPathCountSpec : ChangeSpec := { name := "fnExactPathCount", fn := fun _ => fun
  | [d1, d2] => { results := [.lit (.bool true)], args := [d1, d2] }
  | _ => none }
def fnExactPathCountRow : OpenClaim := { program := "ytpndacfbchdmmaa", sum := "8fc62db145b13055872b1165b10e0893ed1c46c6205d4554f1b4f23434d07698", func := "loop.example/g01131/laws.FnExactPathCount", spec := "fnExactPathCount", unfollowed := true, recurses := true, plainKeys := false, apart := false }
def FnExactPathCountSaid : Prop := fnExactPathCountRow.holds Try.pinned (OpenSpec.ofChange fnExactPathCountSpec)

/-- ITS FALSE NEIGHBOUR: 'it returns false'. Refute it at one input. -/
def fnExactPathCountWrong : ChangeSpec := { name := "fnExactPathCount", fn := fun _ => fun
  | [d1, d2] => { results := [.lit (.bool false)], args := [d1, d2] }
  | _ => none }
def FnExactPathCountWrongFalsely : Prop := fnExactPathCountRow.holds Try.pinned (OpenSpec.ofChange fnExactPathCountWrong)

/-- 'laws.FnExactPathsAbove': WHATEVER THE INPUT: true; the input reads as it did. -/
def fnExactPathsAboveSpec : ChangeSpec := { name := "fnExactPathsAbove", fn := fun _ => fun
  | [d1, d2, d3] => { results := [.lit (.bool true)], args := [d1, d2, d3] }
  | _ => none }
def fnExactPathsAboveRow : OpenClaim := { program := "ytpndacfbchdmmaa", sum := "8fc62db145b13055872b1165b10e0893ed1c46c6205d4554f1b4f23434d07698", func := "loop.example/g01131/laws.FnExactPathsAbove", spec := "fnExactPathsAbove", unfollowed := true, recurses := true, plainKeys := false, apart := false }
def FnExactPathsAboveSaid : Prop := fnExactPathsAboveRow.holds Try.pinned (OpenSpec.ofChange fnExactPathsAboveSpec)

/-- ITS FALSE NEIGHBOUR: 'it returns false'. Refute it at one input. -/
def fnExactPathsAboveWrong : ChangeSpec := { name := "fnExactPathsAbove", fn := fun _ => fun
  | [d1, d2, d3] => { results := [.lit (.bool false)], args := [d1, d2, d3] }
  | _ => none }
def FnExactPathsAboveWrongFalsely : Prop := fnExactPathsAboveRow.holds Try.pinned (OpenSpec.ofChange fnExactPathsAboveWrong)

/-- 'laws.FnExactTieCount': WHATEVER THE INPUT: true; the input reads as it did. -/
def fnExactTieCountSpec : ChangeSpec := { name := "fnExactTieCount", fn := fun _ => fun
  | [d1, d2] => { results := [.lit (.bool true)], args := [d1, d2] }
  | _ => none }
def fnExactTieCountRow : OpenClaim := { program := "ytpndacfbchdmmaa", sum := "8fc62db145b13055872b1165b10e0893ed1c46c6205d4554f1b4f23434d07698", func := "loop.example/g01131/laws.FnExactTieCount", spec := "fnExactTieCount", unfollowed := true, recurses := true, plainKeys := false, apart := false }
def FnExactTieCountSaid : Prop := fnExactTieCountRow.holds Try.pinned (OpenSpec.ofChange fnExactTieCountSpec)

/-- ITS FALSE NEIGHBOUR: 'it returns false'. Refute it at one input. -/
def fnExactTieCountWrong : ChangeSpec := { name := "fnExactTieCount", fn := fun _ => fun
  | [d1, d2] => { results := [.lit (.bool false)], args := [d1, d2] }
  | _ => none }
def FnExactTieCountWrongFalsely : Prop := fnExactTieCountRow.holds Try.pinned (OpenSpec.ofChange fnExactTieCountWrong)

/-- 'laws.FnExactFirstPassages': WHATEVER THE INPUT: true; the input reads as it did. -/
def fnExactFirstPassagesSpec : ChangeSpec := { name := "fnExactFirstPassages", fn := fun _ => fun
  | [d1, d2] => { results := [.lit (.bool true)], args := [d1, d2] }
  | _ => none }
def fnExactFirstPassagesRow : OpenClaim := { program := "ytpndacfbchdmmaa", sum := "8fc62db145b13055872b1165b10e0893ed1c46c6205d4554f1b4f23434d07698", func := "loop.example/g01131/laws.FnExactFirstPassages", spec := "fnExactFirstPassages", unfollowed := true, recurses := true, plainKeys := false, apart := false }
def FnExactFirstPassagesSaid : Prop := fnExactFirstPassagesRow.holds Try.pinned (OpenSpec.ofChange fnExactFirstPassagesSpec)

/-- ITS FALSE NEIGHBOUR: 'it returns false'. Refute it at one input. -/
def fnExactFirstPassagesWrong : ChangeSpec := { name := "fnExactFirstPassages", fn := fun _ => fun
  | [d1, d2] => { results := [.lit (.bool false)], args := [d1, d2] }
  | _ => none }
def FnExactFirstPassagesWrongFalsely : Prop := fnExactFirstPassagesRow.holds Try.pinned (OpenSpec.ofChange fnExactFirstPassagesWrong)

/-- 'laws.FnExactBallotCount': WHATEVER THE INPUT: true; the input reads as it did. -/
def fnExactBallotCountSpec : ChangeSpec := { name := "fnExactBallotCount", fn := fun _ => fun
  | [d1, d2] => { results := [.lit (.bool true)], args := [d1, d2] }
  | _ => none }
def fnExactBallotCountRow : OpenClaim := { program := "ytpndacfbchdmmaa", sum := "8fc62db145b13055872b1165b10e0893ed1c46c6205d4554f1b4f23434d07698", func := "loop.example/g01131/laws.FnExactBallotCount", spec := "fnExactBallotCount", unfollowed := true, recurses := true, plainKeys := false, apart := false }
def FnExactBallotCountSaid : Prop := fnExactBallotCountRow.holds Try.pinned (OpenSpec.ofChange fnExactBallotCountSpec)

/-- ITS FALSE NEIGHBOUR: 'it returns false'. Refute it at one input. -/
def fnExactBallotCountWrong : ChangeSpec := { name := "fnExactBallotCount", fn := fun _ => fun
  | [d1, d2] => { results := [.lit (.bool false)], args := [d1, d2] }
  | _ => none }
def FnExactBallotCountWrongFalsely : Prop := fnExactBallotCountRow.holds Try.pinned (OpenSpec.ofChange fnExactBallotCountWrong)

/-- 'laws.FnExactRuinSteps': WHATEVER THE INPUT: true; the input reads as it did. -/
def fnExactRuinStepsSpec : ChangeSpec := { name := "fnExactRuinSteps", fn := fun _ => fun
  | [d1, d2, d3, d4, d5] => { results := [.lit (.bool true)], args := [d1, d2, d3, d4, d5] }
  | _ => none }
def fnExactRuinStepsRow : OpenClaim := { program := "ytpndacfbchdmmaa", sum := "8fc62db145b13055872b1165b10e0893ed1c46c6205d4554f1b4f23434d07698", func := "loop.example/g01131/laws.FnExactRuinSteps", spec := "fnExactRuinSteps", plainKeys := false, apart := false }
def FnExactRuinStepsSaid : Prop := fnExactRuinStepsRow.holds Try.pinned (OpenSpec.ofChange fnExactRuinStepsSpec)

/-- ITS FALSE NEIGHBOUR: 'it returns false'. Refute it at one input. -/
def fnExactRuinStepsWrong : ChangeSpec := { name := "fnExactRuinSteps", fn := fun _ => fun
  | [d1, d2, d3, d4, d5] => { results := [.lit (.bool false)], args := [d1, d2, d3, d4, d5] }
  | _ => none }
def FnExactRuinStepsWrongFalsely : Prop := fnExactRuinStepsRow.holds Try.pinned (OpenSpec.ofChange fnExactRuinStepsWrong)

/-- 'laws.FnExactLeadCounts': WHATEVER THE INPUT: true; the input reads as it did. -/
def fnExactLeadCountsSpec : ChangeSpec := { name := "fnExactLeadCounts", fn := fun _ => fun
  | [d] => { results := [.lit (.bool true)], args := [d] }
  | _ => none }
def fnExactLeadCountsRow : OpenClaim := { program := "ytpndacfbchdmmaa", sum := "8fc62db145b13055872b1165b10e0893ed1c46c6205d4554f1b4f23434d07698", func := "loop.example/g01131/laws.FnExactLeadCounts", spec := "fnExactLeadCounts", unfollowed := true, recurses := true, plainKeys := false, apart := false }
def FnExactLeadCountsSaid : Prop := fnExactLeadCountsRow.holds Try.pinned (OpenSpec.ofChange fnExactLeadCountsSpec)

/-- ITS FALSE NEIGHBOUR: 'it returns false'. Refute it at one input. -/
def fnExactLeadCountsWrong : ChangeSpec := { name := "fnExactLeadCounts", fn := fun _ => fun
  | [d] => { results := [.lit (.bool false)], args := [d] }
  | _ => none }
def FnExactLeadCountsWrongFalsely : Prop := fnExactLeadCountsRow.holds Try.pinned (OpenSpec.ofChange fnExactLeadCountsWrong)

/-- 'laws.FnExactReturnCounts': WHATEVER THE INPUT: true; the input reads as it did. -/
def fnExactReturnCountsSpec : ChangeSpec := { name := "fnExactReturnCounts", fn := fun _ => fun
  | [d] => { results := [.lit (.bool true)], args := [d] }
  | _ => none }
def fnExactReturnCountsRow : OpenClaim := { program := "ytpndacfbchdmmaa", sum := "8fc62db145b13055872b1165b10e0893ed1c46c6205d4554f1b4f23434d07698", func := "loop.example/g01131/laws.FnExactReturnCounts", spec := "fnExactReturnCounts", unfollowed := true, recurses := true, plainKeys := false, apart := false }
def FnExactReturnCountsSaid : Prop := fnExactReturnCountsRow.holds Try.pinned (OpenSpec.ofChange fnExactReturnCountsSpec)

/-- ITS FALSE NEIGHBOUR: 'it returns false'. Refute it at one input. -/
def fnExactReturnCountsWrong : ChangeSpec := { name := "fnExactReturnCounts", fn := fun _ => fun
  | [d] => { results := [.lit (.bool false)], args := [d] }
  | _ => none }
def FnExactReturnCountsWrongFalsely : Prop := fnExactReturnCountsRow.holds Try.pinned (OpenSpec.ofChange fnExactReturnCountsWrong)

/-- 'laws.FnPaths': WHATEVER THE INPUT: true; the input reads as it did. -/
def fnPathsSpec : ChangeSpec := { name := "fnPaths", fn := fun _ => fun
  | [d] => { results := [.lit (.bool true)], args := [d] }
  | _ => none }
def fnPathsRow : OpenClaim := { program := "ytpndacfbchdmmaa", sum := "8fc62db145b13055872b1165b10e0893ed1c46c6205d4554f1b4f23434d07698", func := "loop.example/g01131/laws.FnPaths", spec := "fnPaths", unfollowed := true, recurses := true, plainKeys := false, apart := false }
def FnPathsSaid : Prop := fnPathsRow.holds Try.pinned (OpenSpec.ofChange fnPathsSpec)

/-- ITS FALSE NEIGHBOUR: 'it returns false'. Refute it at one input. -/
def fnPathsWrong : ChangeSpec := { name := "fnPaths", fn := fun _ => fun
  | [d] => { results := [.lit (.bool false)], args := [d] }
  | _ => none }
def FnPathsWrongFalsely : Prop := fnPathsRow.holds Try.pinned (OpenSpec.ofChange fnPathsWrong)

/-- 'laws.FnReturns': WHATEVER THE INPUT: true; the input reads as it did. -/
def fnReturnsSpec : ChangeSpec := { name := "fnReturns", fn := fun _ => fun
  | [d] => { results := [.lit (.bool true)], args := [d] }
  | _ => none }
def fnReturnsRow : OpenClaim := { program := "ytpndacfbchdmmaa", sum := "8fc62db145b13055872b1165b10e0893ed1c46c6205d4554f1b4f23434d07698", func := "loop.example/g01131/laws.FnReturns", spec := "fnReturns", unfollowed := true, recurses := true, plainKeys := false, apart := false }
def FnReturnsSaid : Prop := fnReturnsRow.holds Try.pinned (OpenSpec.ofChange fnReturnsSpec)

/-- ITS FALSE NEIGHBOUR: 'it returns false'. Refute it at one input. -/
def fnReturnsWrong : ChangeSpec := { name := "fnReturns", fn := fun _ => fun
  | [d] => { results := [.lit (.bool false)], args := [d] }
  | _ => none }
def FnReturnsWrongFalsely : Prop := fnReturnsRow.holds Try.pinned (OpenSpec.ofChange fnReturnsWrong)

/- THE SECOND FORM. 'bulk': how many values and letters a reading holds, each counted each time it is reached (what is shared counts as often as it is met; a slice's spare places count too). A statement '..UptoSaid' is the law's where the arguments, and the package variables that the reading takes, are together of bulk at most 1048576: NARROWER than '..Said'. Prove '..Said' where nothing that the law and all that it calls make is longer than what came in: it says more and counts as full. Else prove '..UptoSaid'. A law counts once. -/
mutual
def uptoBulk {H : Type} : DataW H → Nat
  | .lit (.string bytes) => bytes.length + 1
  | .lit _ => 1
  | .nil => 1
  | .ptr d => uptoBulk d + 1
  | .slice elems spare => uptoBulkAll elems + uptoBulkAll spare + 1
  | .agg parts => uptoBulkAll parts + 1
  | .iface _ d => uptoBulk d + 1
  | .map entries => uptoBulkEntries entries + 1
  | .held _ => 1
def uptoBulkAll {H : Type} : List (DataW H) → Nat
  | [] => 0
  | d :: r => uptoBulk d + uptoBulkAll r
def uptoBulkEntries {H : Type} : List (Lit × DataW H) → Nat
  | [] => 0
  | x :: r => uptoBulkEntry x + uptoBulkEntries r
def uptoBulkEntry {H : Type} : Lit × DataW H → Nat
  | (.string bytes, d) => bytes.length + uptoBulk d + 1
  | (_, d) => uptoBulk d + 1
 end
def uptoSmall : (H : Type) → List (DataW H) → Bool := fun _ ds => decide (uptoBulkAll ds ≤ 1048576)
def OpenSpec.upto (s : _root_.Go.ChangeSpec) : _root_.Go.OpenSpec := { _root_.Go.OpenSpec.ofChange s with cond := some uptoSmall }

/-- 'laws.FnExactPathCount', WHERE WHAT IT READS IS OF BULK AT MOST 1048576: true; the input reads as it did. -/
def fnExactPathCountUptoRow : OpenClaim := { program := "ytpndacfbchdmmaa", sum := "8fc62db145b13055872b1165b10e0893ed1c46c6205d4554f1b4f23434d07698", func := "loop.example/g01131/laws.FnExactPathCount", spec := "fnExactPathCount", unfollowed := true, recurses := true, plainKeys := false, apart := false, narrowed := true }
def FnExactPathCountUptoSaid : Prop := fnExactPathCountUptoRow.holds Try.pinned (OpenSpec.upto fnExactPathCountSpec)

/-- 'laws.FnExactPathsAbove', WHERE WHAT IT READS IS OF BULK AT MOST 1048576: true; the input reads as it did. -/
def fnExactPathsAboveUptoRow : OpenClaim := { program := "ytpndacfbchdmmaa", sum := "8fc62db145b13055872b1165b10e0893ed1c46c6205d4554f1b4f23434d07698", func := "loop.example/g01131/laws.FnExactPathsAbove", spec := "fnExactPathsAbove", unfollowed := true, recurses := true, plainKeys := false, apart := false, narrowed := true }
def FnExactPathsAboveUptoSaid : Prop := fnExactPathsAboveUptoRow.holds Try.pinned (OpenSpec.upto fnExactPathsAboveSpec)

/-- 'laws.FnExactTieCount', WHERE WHAT IT READS IS OF BULK AT MOST 1048576: true; the input reads as it did. -/
def fnExactTieCountUptoRow : OpenClaim := { program := "ytpndacfbchdmmaa", sum := "8fc62db145b13055872b1165b10e0893ed1c46c6205d4554f1b4f23434d07698", func := "loop.example/g01131/laws.FnExactTieCount", spec := "fnExactTieCount", unfollowed := true, recurses := true, plainKeys := false, apart := false, narrowed := true }
def FnExactTieCountUptoSaid : Prop := fnExactTieCountUptoRow.holds Try.pinned (OpenSpec.upto fnExactTieCountSpec)

/-- 'laws.FnExactFirstPassages', WHERE WHAT IT READS IS OF BULK AT MOST 1048576: true; the input reads as it did. -/
def fnExactFirstPassagesUptoRow : OpenClaim := { program := "ytpndacfbchdmmaa", sum := "8fc62db145b13055872b1165b10e0893ed1c46c6205d4554f1b4f23434d07698", func := "loop.example/g01131/laws.FnExactFirstPassages", spec := "fnExactFirstPassages", unfollowed := true, recurses := true, plainKeys := false, apart := false, narrowed := true }
def FnExactFirstPassagesUptoSaid : Prop := fnExactFirstPassagesUptoRow.holds Try.pinned (OpenSpec.upto fnExactFirstPassagesSpec)

/-- 'laws.FnExactBallotCount', WHERE WHAT IT READS IS OF BULK AT MOST 1048576: true; the input reads as it did. -/
def fnExactBallotCountUptoRow : OpenClaim := { program := "ytpndacfbchdmmaa", sum := "8fc62db145b13055872b1165b10e0893ed1c46c6205d4554f1b4f23434d07698", func := "loop.example/g01131/laws.FnExactBallotCount", spec := "fnExactBallotCount", unfollowed := true, recurses := true, plainKeys := false, apart := false, narrowed := true }
def FnExactBallotCountUptoSaid : Prop := fnExactBallotCountUptoRow.holds Try.pinned (OpenSpec.upto fnExactBallotCountSpec)

/-- 'laws.FnExactRuinSteps', WHERE WHAT IT READS IS OF BULK AT MOST 1048576: true; the input reads as it did. -/
def fnExactRuinStepsUptoRow : OpenClaim := { program := "ytpndacfbchdmmaa", sum := "8fc62db145b13055872b1165b10e0893ed1c46c6205d4554f1b4f23434d07698", func := "loop.example/g01131/laws.FnExactRuinSteps", spec := "fnExactRuinSteps", plainKeys := false, apart := false, narrowed := true }
def FnExactRuinStepsUptoSaid : Prop := fnExactRuinStepsUptoRow.holds Try.pinned (OpenSpec.upto fnExactRuinStepsSpec)

/-- 'laws.FnExactLeadCounts', WHERE WHAT IT READS IS OF BULK AT MOST 1048576: true; the input reads as it did. -/
def fnExactLeadCountsUptoRow : OpenClaim := { program := "ytpndacfbchdmmaa", sum := "8fc62db145b13055872b1165b10e0893ed1c46c6205d4554f1b4f23434d07698", func := "loop.example/g01131/laws.FnExactLeadCounts", spec := "fnExactLeadCounts", unfollowed := true, recurses := true, plainKeys := false, apart := false, narrowed := true }
def FnExactLeadCountsUptoSaid : Prop := fnExactLeadCountsUptoRow.holds Try.pinned (OpenSpec.upto fnExactLeadCountsSpec)

/-- 'laws.FnExactReturnCounts', WHERE WHAT IT READS IS OF BULK AT MOST 1048576: true; the input reads as it did. -/
def fnExactReturnCountsUptoRow : OpenClaim := { program := "ytpndacfbchdmmaa", sum := "8fc62db145b13055872b1165b10e0893ed1c46c6205d4554f1b4f23434d07698", func := "loop.example/g01131/laws.FnExactReturnCounts", spec := "fnExactReturnCounts", unfollowed := true, recurses := true, plainKeys := false, apart := false, narrowed := true }
def FnExactReturnCountsUptoSaid : Prop := fnExactReturnCountsUptoRow.holds Try.pinned (OpenSpec.upto fnExactReturnCountsSpec)

/-- 'laws.FnPaths', WHERE WHAT IT READS IS OF BULK AT MOST 1048576: true; the input reads as it did. -/
def fnPathsUptoRow : OpenClaim := { program := "ytpndacfbchdmmaa", sum := "8fc62db145b13055872b1165b10e0893ed1c46c6205d4554f1b4f23434d07698", func := "loop.example/g01131/laws.FnPaths", spec := "fnPaths", unfollowed := true, recurses := true, plainKeys := false, apart := false, narrowed := true }
def FnPathsUptoSaid : Prop := fnPathsUptoRow.holds Try.pinned (OpenSpec.upto fnPathsSpec)

/-- 'laws.FnReturns', WHERE WHAT IT READS IS OF BULK AT MOST 1048576: true; the input reads as it did. -/
def fnReturnsUptoRow : OpenClaim := { program := "ytpndacfbchdmmaa", sum := "8fc62db145b13055872b1165b10e0893ed1c46c6205d4554f1b4f23434d07698", func := "loop.example/g01131/laws.FnReturns", spec := "fnReturns", unfollowed := true, recurses := true, plainKeys := false, apart := false, narrowed := true }
def FnReturnsUptoSaid : Prop := fnReturnsUptoRow.holds Try.pinned (OpenSpec.upto fnReturnsSpec)

end Rows
end Go.Proofs.Ytpndacfbchdmmaa
