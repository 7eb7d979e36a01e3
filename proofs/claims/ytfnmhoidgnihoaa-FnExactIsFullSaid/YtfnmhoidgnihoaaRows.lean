/-
  No cell of these rows narrows 'for every input' (looked for: loops, veiled, ifaces, maps, wideKeys, modest, calm, conditions, laid).
  DERIVED. THE GIVEN ROWS OF THIS SEAT. 12 by the template 'for every input the law returns true; each argument reads behind the call as it read before'; 0 by the template 'total and deterministic' (their statements: YtfnmhoidgnihoaaTotals.lean).
  GIVEN WITH THE SEED: the statements are not yours to turn. If you find one false, say at which input.
  Laid BY PROGRAM, IN A SANDBOX (cutbox-rows.mjs): the forced cells as the released guide's own fill.sh prints them over the translation 80a197a804e4bd2b… (all of the seat's roots in one cut). By AI agents, Wed Nov 11 2026. No macro, syntax, notation, axiom, sorry.
-/
import Derived.Test.YtfnmhoidgnihoaaChecked
import GoSem.Claim
import GoSem.ClaimJoined
import GoSem.ClaimMapViews
import Derived.JoinedTies
import Derived.KernelRfl
namespace Go.Proofs.Ytfnmhoidgnihoaa
/- THE CELL 'sum', in the pinned program and in every row, IS THE sha256 OF THE DUMP (.gsa) THAT YtfnmhoidgnihoaaProg.lean LOADS. Nothing in Lean hashes anything: it is a label: what it is worth is what the hold of that sum in a sandbox is worth. -/
noncomputable def Try.pinned : Pinned := { name := "ytfnmhoidgnihoaa", sum := "80a197a804e4bd2b0e2c7efd3f464a155f7e05fb34e66cf09489dae5b60ac144", checked := Try.checked }
namespace Rows
def none {H : Type} : Left H := { results := [], args := [] }

/-- 'laws.FnExactIsMarket': WHATEVER THE INPUT: true; the input reads as it did. -/
def fnExactIsMarketSpec : ChangeSpec := { name := "fnExactIsMarket", fn := fun _ => fun
  | [d] => { results := [.lit (.bool true)], args := [d] }
  | _ => none }
def fnExactIsMarketRow : OpenClaim := { program := "ytfnmhoidgnihoaa", sum := "80a197a804e4bd2b0e2c7efd3f464a155f7e05fb34e66cf09489dae5b60ac144", func := "loop.example/g01131/laws.FnExactIsMarket", spec := "fnExactIsMarket", apart := false }
def FnExactIsMarketSaid : Prop := fnExactIsMarketRow.holds Try.pinned (OpenSpec.ofChange fnExactIsMarketSpec)

/-- ITS FALSE NEIGHBOUR: 'it returns false'. Refute it at one input. -/
def fnExactIsMarketWrong : ChangeSpec := { name := "fnExactIsMarket", fn := fun _ => fun
  | [d] => { results := [.lit (.bool false)], args := [d] }
  | _ => none }
def FnExactIsMarketWrongFalsely : Prop := fnExactIsMarketRow.holds Try.pinned (OpenSpec.ofChange fnExactIsMarketWrong)

/-- 'laws.FnExactDoCover': WHATEVER THE INPUT: true; the input reads as it did. -/
def fnExactDoCoverSpec : ChangeSpec := { name := "fnExactDoCover", fn := fun _ => fun
  | [d1, d2, d3] => { results := [.lit (.bool true)], args := [d1, d2, d3] }
  | _ => none }
def fnExactDoCoverRow : OpenClaim := { program := "ytfnmhoidgnihoaa", sum := "80a197a804e4bd2b0e2c7efd3f464a155f7e05fb34e66cf09489dae5b60ac144", func := "loop.example/g01131/laws.FnExactDoCover", spec := "fnExactDoCover", apart := false }
def FnExactDoCoverSaid : Prop := fnExactDoCoverRow.holds Try.pinned (OpenSpec.ofChange fnExactDoCoverSpec)

/-- ITS FALSE NEIGHBOUR: 'it returns false'. Refute it at one input. -/
def fnExactDoCoverWrong : ChangeSpec := { name := "fnExactDoCover", fn := fun _ => fun
  | [d1, d2, d3] => { results := [.lit (.bool false)], args := [d1, d2, d3] }
  | _ => none }
def FnExactDoCoverWrongFalsely : Prop := fnExactDoCoverRow.holds Try.pinned (OpenSpec.ofChange fnExactDoCoverWrong)

/-- 'laws.FnExactCostlySteps': WHATEVER THE INPUT: true; the input reads as it did. -/
def fnExactCostlyStepsSpec : ChangeSpec := { name := "fnExactCostlySteps", fn := fun _ => fun
  | [d1, d2, d3] => { results := [.lit (.bool true)], args := [d1, d2, d3] }
  | _ => none }
def fnExactCostlyStepsRow : OpenClaim := { program := "ytfnmhoidgnihoaa", sum := "80a197a804e4bd2b0e2c7efd3f464a155f7e05fb34e66cf09489dae5b60ac144", func := "loop.example/g01131/laws.FnExactCostlySteps", spec := "fnExactCostlySteps", apart := false }
def FnExactCostlyStepsSaid : Prop := fnExactCostlyStepsRow.holds Try.pinned (OpenSpec.ofChange fnExactCostlyStepsSpec)

/-- ITS FALSE NEIGHBOUR: 'it returns false'. Refute it at one input. -/
def fnExactCostlyStepsWrong : ChangeSpec := { name := "fnExactCostlySteps", fn := fun _ => fun
  | [d1, d2, d3] => { results := [.lit (.bool false)], args := [d1, d2, d3] }
  | _ => none }
def FnExactCostlyStepsWrongFalsely : Prop := fnExactCostlyStepsRow.holds Try.pinned (OpenSpec.ofChange fnExactCostlyStepsWrong)

/-- 'laws.FnExactIsBalanced': WHATEVER THE INPUT: true; the input reads as it did. -/
def fnExactIsBalancedSpec : ChangeSpec := { name := "fnExactIsBalanced", fn := fun _ => fun
  | [d1, d2] => { results := [.lit (.bool true)], args := [d1, d2] }
  | _ => none }
def fnExactIsBalancedRow : OpenClaim := { program := "ytfnmhoidgnihoaa", sum := "80a197a804e4bd2b0e2c7efd3f464a155f7e05fb34e66cf09489dae5b60ac144", func := "loop.example/g01131/laws.FnExactIsBalanced", spec := "fnExactIsBalanced", apart := false }
def FnExactIsBalancedSaid : Prop := fnExactIsBalancedRow.holds Try.pinned (OpenSpec.ofChange fnExactIsBalancedSpec)

/-- ITS FALSE NEIGHBOUR: 'it returns false'. Refute it at one input. -/
def fnExactIsBalancedWrong : ChangeSpec := { name := "fnExactIsBalanced", fn := fun _ => fun
  | [d1, d2] => { results := [.lit (.bool false)], args := [d1, d2] }
  | _ => none }
def FnExactIsBalancedWrongFalsely : Prop := fnExactIsBalancedRow.holds Try.pinned (OpenSpec.ofChange fnExactIsBalancedWrong)

/-- 'laws.FnExactUnevenNode': WHATEVER THE INPUT: true; the input reads as it did. -/
def fnExactUnevenNodeSpec : ChangeSpec := { name := "fnExactUnevenNode", fn := fun _ => fun
  | [d] => { results := [.lit (.bool true)], args := [d] }
  | _ => none }
def fnExactUnevenNodeRow : OpenClaim := { program := "ytfnmhoidgnihoaa", sum := "80a197a804e4bd2b0e2c7efd3f464a155f7e05fb34e66cf09489dae5b60ac144", func := "loop.example/g01131/laws.FnExactUnevenNode", spec := "fnExactUnevenNode", apart := false }
def FnExactUnevenNodeSaid : Prop := fnExactUnevenNodeRow.holds Try.pinned (OpenSpec.ofChange fnExactUnevenNodeSpec)

/-- ITS FALSE NEIGHBOUR: 'it returns false'. Refute it at one input. -/
def fnExactUnevenNodeWrong : ChangeSpec := { name := "fnExactUnevenNode", fn := fun _ => fun
  | [d] => { results := [.lit (.bool false)], args := [d] }
  | _ => none }
def FnExactUnevenNodeWrongFalsely : Prop := fnExactUnevenNodeRow.holds Try.pinned (OpenSpec.ofChange fnExactUnevenNodeWrong)

/-- 'laws.FnExactShareClaims': WHATEVER THE INPUT: true; the input reads as it did. -/
def fnExactShareClaimsSpec : ChangeSpec := { name := "fnExactShareClaims", fn := fun _ => fun
  | [d] => { results := [.lit (.bool true)], args := [d] }
  | _ => none }
def fnExactShareClaimsRow : OpenClaim := { program := "ytfnmhoidgnihoaa", sum := "80a197a804e4bd2b0e2c7efd3f464a155f7e05fb34e66cf09489dae5b60ac144", func := "loop.example/g01131/laws.FnExactShareClaims", spec := "fnExactShareClaims", unfollowed := true, recurses := true, apart := false }
def FnExactShareClaimsSaid : Prop := fnExactShareClaimsRow.holds Try.pinned (OpenSpec.ofChange fnExactShareClaimsSpec)

/-- ITS FALSE NEIGHBOUR: 'it returns false'. Refute it at one input. -/
def fnExactShareClaimsWrong : ChangeSpec := { name := "fnExactShareClaims", fn := fun _ => fun
  | [d] => { results := [.lit (.bool false)], args := [d] }
  | _ => none }
def FnExactShareClaimsWrongFalsely : Prop := fnExactShareClaimsRow.holds Try.pinned (OpenSpec.ofChange fnExactShareClaimsWrong)

/-- 'laws.FnExactLeastCaps': WHATEVER THE INPUT: true; the input reads as it did. -/
def fnExactLeastCapsSpec : ChangeSpec := { name := "fnExactLeastCaps", fn := fun _ => fun
  | [d1, d2] => { results := [.lit (.bool true)], args := [d1, d2] }
  | _ => none }
def fnExactLeastCapsRow : OpenClaim := { program := "ytfnmhoidgnihoaa", sum := "80a197a804e4bd2b0e2c7efd3f464a155f7e05fb34e66cf09489dae5b60ac144", func := "loop.example/g01131/laws.FnExactLeastCaps", spec := "fnExactLeastCaps", apart := false }
def FnExactLeastCapsSaid : Prop := fnExactLeastCapsRow.holds Try.pinned (OpenSpec.ofChange fnExactLeastCapsSpec)

/-- ITS FALSE NEIGHBOUR: 'it returns false'. Refute it at one input. -/
def fnExactLeastCapsWrong : ChangeSpec := { name := "fnExactLeastCaps", fn := fun _ => fun
  | [d1, d2] => { results := [.lit (.bool false)], args := [d1, d2] }
  | _ => none }
def FnExactLeastCapsWrongFalsely : Prop := fnExactLeastCapsRow.holds Try.pinned (OpenSpec.ofChange fnExactLeastCapsWrong)

/-- 'laws.FnExactIsFull': WHATEVER THE INPUT: true; the input reads as it did. -/
def fnExactIsFullSpec : ChangeSpec := { name := "fnExactIsFull", fn := fun _ => fun
  | [d] => { results := [.lit (.bool true)], args := [d] }
  | _ => none }
def fnExactIsFullRow : OpenClaim := { program := "ytfnmhoidgnihoaa", sum := "80a197a804e4bd2b0e2c7efd3f464a155f7e05fb34e66cf09489dae5b60ac144", func := "loop.example/g01131/laws.FnExactIsFull", spec := "fnExactIsFull", apart := false }
def FnExactIsFullSaid : Prop := fnExactIsFullRow.holds Try.pinned (OpenSpec.ofChange fnExactIsFullSpec)

/-- ITS FALSE NEIGHBOUR: 'it returns false'. Refute it at one input. -/
def fnExactIsFullWrong : ChangeSpec := { name := "fnExactIsFull", fn := fun _ => fun
  | [d] => { results := [.lit (.bool false)], args := [d] }
  | _ => none }
def FnExactIsFullWrongFalsely : Prop := fnExactIsFullRow.holds Try.pinned (OpenSpec.ofChange fnExactIsFullWrong)

/-- 'laws.FnExactThresholdRule': WHATEVER THE INPUT: true; the input reads as it did. -/
def fnExactThresholdRuleSpec : ChangeSpec := { name := "fnExactThresholdRule", fn := fun _ => fun
  | [d1, d2, d3] => { results := [.lit (.bool true)], args := [d1, d2, d3] }
  | _ => none }
def fnExactThresholdRuleRow : OpenClaim := { program := "ytfnmhoidgnihoaa", sum := "80a197a804e4bd2b0e2c7efd3f464a155f7e05fb34e66cf09489dae5b60ac144", func := "loop.example/g01131/laws.FnExactThresholdRule", spec := "fnExactThresholdRule", apart := false }
def FnExactThresholdRuleSaid : Prop := fnExactThresholdRuleRow.holds Try.pinned (OpenSpec.ofChange fnExactThresholdRuleSpec)

/-- ITS FALSE NEIGHBOUR: 'it returns false'. Refute it at one input. -/
def fnExactThresholdRuleWrong : ChangeSpec := { name := "fnExactThresholdRule", fn := fun _ => fun
  | [d1, d2, d3] => { results := [.lit (.bool false)], args := [d1, d2, d3] }
  | _ => none }
def FnExactThresholdRuleWrongFalsely : Prop := fnExactThresholdRuleRow.holds Try.pinned (OpenSpec.ofChange fnExactThresholdRuleWrong)

/-- 'laws.FnExactCallClaims': WHATEVER THE INPUT: true; the input reads as it did. -/
def fnExactCallClaimsSpec : ChangeSpec := { name := "fnExactCallClaims", fn := fun _ => fun
  | [d1, d2] => { results := [.lit (.bool true)], args := [d1, d2] }
  | _ => none }
def fnExactCallClaimsRow : OpenClaim := { program := "ytfnmhoidgnihoaa", sum := "80a197a804e4bd2b0e2c7efd3f464a155f7e05fb34e66cf09489dae5b60ac144", func := "loop.example/g01131/laws.FnExactCallClaims", spec := "fnExactCallClaims", unfollowed := true, recurses := true, apart := false }
def FnExactCallClaimsSaid : Prop := fnExactCallClaimsRow.holds Try.pinned (OpenSpec.ofChange fnExactCallClaimsSpec)

/-- ITS FALSE NEIGHBOUR: 'it returns false'. Refute it at one input. -/
def fnExactCallClaimsWrong : ChangeSpec := { name := "fnExactCallClaims", fn := fun _ => fun
  | [d1, d2] => { results := [.lit (.bool false)], args := [d1, d2] }
  | _ => none }
def FnExactCallClaimsWrongFalsely : Prop := fnExactCallClaimsRow.holds Try.pinned (OpenSpec.ofChange fnExactCallClaimsWrong)

/-- 'laws.FnExactPutClaims': WHATEVER THE INPUT: true; the input reads as it did. -/
def fnExactPutClaimsSpec : ChangeSpec := { name := "fnExactPutClaims", fn := fun _ => fun
  | [d1, d2] => { results := [.lit (.bool true)], args := [d1, d2] }
  | _ => none }
def fnExactPutClaimsRow : OpenClaim := { program := "ytfnmhoidgnihoaa", sum := "80a197a804e4bd2b0e2c7efd3f464a155f7e05fb34e66cf09489dae5b60ac144", func := "loop.example/g01131/laws.FnExactPutClaims", spec := "fnExactPutClaims", unfollowed := true, recurses := true, apart := false }
def FnExactPutClaimsSaid : Prop := fnExactPutClaimsRow.holds Try.pinned (OpenSpec.ofChange fnExactPutClaimsSpec)

/-- ITS FALSE NEIGHBOUR: 'it returns false'. Refute it at one input. -/
def fnExactPutClaimsWrong : ChangeSpec := { name := "fnExactPutClaims", fn := fun _ => fun
  | [d1, d2] => { results := [.lit (.bool false)], args := [d1, d2] }
  | _ => none }
def FnExactPutClaimsWrongFalsely : Prop := fnExactPutClaimsRow.holds Try.pinned (OpenSpec.ofChange fnExactPutClaimsWrong)

/-- 'laws.FnExactGoingOn': WHATEVER THE INPUT: true; the input reads as it did. -/
def fnExactGoingOnSpec : ChangeSpec := { name := "fnExactGoingOn", fn := fun _ => fun
  | [d1, d2, d3] => { results := [.lit (.bool true)], args := [d1, d2, d3] }
  | _ => none }
def fnExactGoingOnRow : OpenClaim := { program := "ytfnmhoidgnihoaa", sum := "80a197a804e4bd2b0e2c7efd3f464a155f7e05fb34e66cf09489dae5b60ac144", func := "loop.example/g01131/laws.FnExactGoingOn", spec := "fnExactGoingOn", apart := false }
def FnExactGoingOnSaid : Prop := fnExactGoingOnRow.holds Try.pinned (OpenSpec.ofChange fnExactGoingOnSpec)

/-- ITS FALSE NEIGHBOUR: 'it returns false'. Refute it at one input. -/
def fnExactGoingOnWrong : ChangeSpec := { name := "fnExactGoingOn", fn := fun _ => fun
  | [d1, d2, d3] => { results := [.lit (.bool false)], args := [d1, d2, d3] }
  | _ => none }
def FnExactGoingOnWrongFalsely : Prop := fnExactGoingOnRow.holds Try.pinned (OpenSpec.ofChange fnExactGoingOnWrong)

/- THE SECOND FORM. 'bulk': how many values and letters a reading holds, each counted each time it is reached (what is shared counts as often as it is met; a slice's spare places count too). A statement '..UptoSaid' is the law's where the arguments, and the package variables that the reading takes, are together of bulk at most 1048576: NARROWER than '..Said'. Prove '..Said' where nothing that the law and all that it calls make is longer than what came in: it says more and counts as full. Else prove '..UptoSaid'. A law counts once. -/
mutual
def uptoBulk {H : Type} : DataW H → Nat
  | .lit (.string bytes) => bytes.length + 1
  | .lit _ => 1
  | .nil => 1
  | .ptr d => uptoBulk d + 1
  | .slice elems spare => uptoBulkAll elems + uptoBulkAll spare + 1
  | .agg parts => uptoBulkAll parts + 1
  | .iface _ d => uptoBulk d + 1
  | .map entries => uptoBulkEntries entries + 1
  | .held _ => 1
def uptoBulkAll {H : Type} : List (DataW H) → Nat
  | [] => 0
  | d :: r => uptoBulk d + uptoBulkAll r
def uptoBulkEntries {H : Type} : List (Lit × DataW H) → Nat
  | [] => 0
  | x :: r => uptoBulkEntry x + uptoBulkEntries r
def uptoBulkEntry {H : Type} : Lit × DataW H → Nat
  | (.string bytes, d) => bytes.length + uptoBulk d + 1
  | (_, d) => uptoBulk d + 1
 end
def uptoSmall : (H : Type) → List (DataW H) → Bool := fun _ ds => decide (uptoBulkAll ds ≤ 1048576)
def OpenSpec.upto (s : _root_.Go.ChangeSpec) : _root_.Go.OpenSpec := { _root_.Go.OpenSpec.ofChange s with cond := some uptoSmall }

/-- 'laws.FnExactIsMarket', WHERE WHAT IT READS IS OF BULK AT MOST 1048576: true; the input reads as it did. -/
def fnExactIsMarketUptoRow : OpenClaim := { program := "ytfnmhoidgnihoaa", sum := "80a197a804e4bd2b0e2c7efd3f464a155f7e05fb34e66cf09489dae5b60ac144", func := "loop.example/g01131/laws.FnExactIsMarket", spec := "fnExactIsMarket", apart := false, narrowed := true }
def FnExactIsMarketUptoSaid : Prop := fnExactIsMarketUptoRow.holds Try.pinned (OpenSpec.upto fnExactIsMarketSpec)

/-- 'laws.FnExactDoCover', WHERE WHAT IT READS IS OF BULK AT MOST 1048576: true; the input reads as it did. -/
def fnExactDoCoverUptoRow : OpenClaim := { program := "ytfnmhoidgnihoaa", sum := "80a197a804e4bd2b0e2c7efd3f464a155f7e05fb34e66cf09489dae5b60ac144", func := "loop.example/g01131/laws.FnExactDoCover", spec := "fnExactDoCover", apart := false, narrowed := true }
def FnExactDoCoverUptoSaid : Prop := fnExactDoCoverUptoRow.holds Try.pinned (OpenSpec.upto fnExactDoCoverSpec)

/-- 'laws.FnExactCostlySteps', WHERE WHAT IT READS IS OF BULK AT MOST 1048576: true; the input reads as it did. -/
def fnExactCostlyStepsUptoRow : OpenClaim := { program := "ytfnmhoidgnihoaa", sum := "80a197a804e4bd2b0e2c7efd3f464a155f7e05fb34e66cf09489dae5b60ac144", func := "loop.example/g01131/laws.FnExactCostlySteps", spec := "fnExactCostlySteps", apart := false, narrowed := true }
def FnExactCostlyStepsUptoSaid : Prop := fnExactCostlyStepsUptoRow.holds Try.pinned (OpenSpec.upto fnExactCostlyStepsSpec)

/-- 'laws.FnExactIsBalanced', WHERE WHAT IT READS IS OF BULK AT MOST 1048576: true; the input reads as it did. -/
def fnExactIsBalancedUptoRow : OpenClaim := { program := "ytfnmhoidgnihoaa", sum := "80a197a804e4bd2b0e2c7efd3f464a155f7e05fb34e66cf09489dae5b60ac144", func := "loop.example/g01131/laws.FnExactIsBalanced", spec := "fnExactIsBalanced", apart := false, narrowed := true }
def FnExactIsBalancedUptoSaid : Prop := fnExactIsBalancedUptoRow.holds Try.pinned (OpenSpec.upto fnExactIsBalancedSpec)

/-- 'laws.FnExactUnevenNode', WHERE WHAT IT READS IS OF BULK AT MOST 1048576: true; the input reads as it did. -/
def fnExactUnevenNodeUptoRow : OpenClaim := { program := "ytfnmhoidgnihoaa", sum := "80a197a804e4bd2b0e2c7efd3f464a155f7e05fb34e66cf09489dae5b60ac144", func := "loop.example/g01131/laws.FnExactUnevenNode", spec := "fnExactUnevenNode", apart := false, narrowed := true }
def FnExactUnevenNodeUptoSaid : Prop := fnExactUnevenNodeUptoRow.holds Try.pinned (OpenSpec.upto fnExactUnevenNodeSpec)

/-- 'laws.FnExactShareClaims', WHERE WHAT IT READS IS OF BULK AT MOST 1048576: true; the input reads as it did. -/
def fnExactShareClaimsUptoRow : OpenClaim := { program := "ytfnmhoidgnihoaa", sum := "80a197a804e4bd2b0e2c7efd3f464a155f7e05fb34e66cf09489dae5b60ac144", func := "loop.example/g01131/laws.FnExactShareClaims", spec := "fnExactShareClaims", unfollowed := true, recurses := true, apart := false, narrowed := true }
def FnExactShareClaimsUptoSaid : Prop := fnExactShareClaimsUptoRow.holds Try.pinned (OpenSpec.upto fnExactShareClaimsSpec)

/-- 'laws.FnExactLeastCaps', WHERE WHAT IT READS IS OF BULK AT MOST 1048576: true; the input reads as it did. -/
def fnExactLeastCapsUptoRow : OpenClaim := { program := "ytfnmhoidgnihoaa", sum := "80a197a804e4bd2b0e2c7efd3f464a155f7e05fb34e66cf09489dae5b60ac144", func := "loop.example/g01131/laws.FnExactLeastCaps", spec := "fnExactLeastCaps", apart := false, narrowed := true }
def FnExactLeastCapsUptoSaid : Prop := fnExactLeastCapsUptoRow.holds Try.pinned (OpenSpec.upto fnExactLeastCapsSpec)

/-- 'laws.FnExactIsFull', WHERE WHAT IT READS IS OF BULK AT MOST 1048576: true; the input reads as it did. -/
def fnExactIsFullUptoRow : OpenClaim := { program := "ytfnmhoidgnihoaa", sum := "80a197a804e4bd2b0e2c7efd3f464a155f7e05fb34e66cf09489dae5b60ac144", func := "loop.example/g01131/laws.FnExactIsFull", spec := "fnExactIsFull", apart := false, narrowed := true }
def FnExactIsFullUptoSaid : Prop := fnExactIsFullUptoRow.holds Try.pinned (OpenSpec.upto fnExactIsFullSpec)

/-- 'laws.FnExactThresholdRule', WHERE WHAT IT READS IS OF BULK AT MOST 1048576: true; the input reads as it did. -/
def fnExactThresholdRuleUptoRow : OpenClaim := { program := "ytfnmhoidgnihoaa", sum := "80a197a804e4bd2b0e2c7efd3f464a155f7e05fb34e66cf09489dae5b60ac144", func := "loop.example/g01131/laws.FnExactThresholdRule", spec := "fnExactThresholdRule", apart := false, narrowed := true }
def FnExactThresholdRuleUptoSaid : Prop := fnExactThresholdRuleUptoRow.holds Try.pinned (OpenSpec.upto fnExactThresholdRuleSpec)

/-- 'laws.FnExactCallClaims', WHERE WHAT IT READS IS OF BULK AT MOST 1048576: true; the input reads as it did. -/
def fnExactCallClaimsUptoRow : OpenClaim := { program := "ytfnmhoidgnihoaa", sum := "80a197a804e4bd2b0e2c7efd3f464a155f7e05fb34e66cf09489dae5b60ac144", func := "loop.example/g01131/laws.FnExactCallClaims", spec := "fnExactCallClaims", unfollowed := true, recurses := true, apart := false, narrowed := true }
def FnExactCallClaimsUptoSaid : Prop := fnExactCallClaimsUptoRow.holds Try.pinned (OpenSpec.upto fnExactCallClaimsSpec)

/-- 'laws.FnExactPutClaims', WHERE WHAT IT READS IS OF BULK AT MOST 1048576: true; the input reads as it did. -/
def fnExactPutClaimsUptoRow : OpenClaim := { program := "ytfnmhoidgnihoaa", sum := "80a197a804e4bd2b0e2c7efd3f464a155f7e05fb34e66cf09489dae5b60ac144", func := "loop.example/g01131/laws.FnExactPutClaims", spec := "fnExactPutClaims", unfollowed := true, recurses := true, apart := false, narrowed := true }
def FnExactPutClaimsUptoSaid : Prop := fnExactPutClaimsUptoRow.holds Try.pinned (OpenSpec.upto fnExactPutClaimsSpec)

/-- 'laws.FnExactGoingOn', WHERE WHAT IT READS IS OF BULK AT MOST 1048576: true; the input reads as it did. -/
def fnExactGoingOnUptoRow : OpenClaim := { program := "ytfnmhoidgnihoaa", sum := "80a197a804e4bd2b0e2c7efd3f464a155f7e05fb34e66cf09489dae5b60ac144", func := "loop.example/g01131/laws.FnExactGoingOn", spec := "fnExactGoingOn", apart := false, narrowed := true }
def FnExactGoingOnUptoSaid : Prop := fnExactGoingOnUptoRow.holds Try.pinned (OpenSpec.upto fnExactGoingOnSpec)

end Rows
end Go.Proofs.Ytfnmhoidgnihoaa
