/-
  No cell of these rows narrows 'for every input' (looked for: loops, veiled, ifaces, maps, wideKeys, modest, calm, conditions, laid).
  DERIVED. THE GIVEN ROWS OF THIS SEAT. 12 by the template 'for every input the law returns true; each argument reads behind the call as it read before'; 0 by the template 'total and deterministic' (their statements: YtjkkfjipgomkdaaTotals.lean).
  GIVEN WITH THE SEED: the statements are not yours to turn. If you find one false, say at which input.
  Laid BY PROGRAM, IN A SANDBOX (cutbox-rows.mjs): the forced cells as the released guide's own fill.sh prints them over the translation cdd1e626490aef41… (all of the seat's roots in one cut). By AI agents, Wed Nov 11 2026. No macro, syntax, notation, axiom, sorry.
-/
import Derived.Test.YtjkkfjipgomkdaaChecked
import GoSem.Claim
import GoSem.ClaimJoined
import GoSem.ClaimMapViews
import Derived.JoinedTies
import Derived.KernelRfl
namespace Go.Proofs.Ytjkkfjipgomkdaa
/- THE CELL 'sum', in the pinned program and in every row, IS THE sha256 OF THE DUMP (.gsa) THAT YtjkkfjipgomkdaaProg.lean LOADS. Nothing in Lean hashes anything: it is a label: what it is worth is what the hold of that sum in a sandbox is worth. -/
noncomputable def Try.pinned : Pinned := { name := "ytjkkfjipgomkdaa", sum := "cdd1e626490aef4171a602b2ea541ae5e70dea046873fd20a2c8fdabc0e10522", checked := Try.checked }
namespace Rows
def none {H : Type} : Left H := { results := [], args := [] }

/-- 'laws.FnExactIsRule': WHATEVER THE INPUT: true; the input reads as it did. -/
def fnExactIsRuleSpec : ChangeSpec := { name := "fnExactIsRule", fn := fun _ => fun
  | [d1, d2] => { results := [.lit (.bool true)], args := [d1, d2] }
  | _ => none }
def fnExactIsRuleRow : OpenClaim := { program := "ytjkkfjipgomkdaa", sum := "cdd1e626490aef4171a602b2ea541ae5e70dea046873fd20a2c8fdabc0e10522", func := "loop.example/g01131/laws.FnExactIsRule", spec := "fnExactIsRule", apart := false }
def FnExactIsRuleSaid : Prop := fnExactIsRuleRow.holds Try.pinned (OpenSpec.ofChange fnExactIsRuleSpec)

/-- ITS FALSE NEIGHBOUR: 'it returns false'. Refute it at one input. -/
def fnExactIsRuleWrong : ChangeSpec := { name := "fnExactIsRule", fn := fun _ => fun
  | [d1, d2] => { results := [.lit (.bool false)], args := [d1, d2] }
  | _ => none }
def FnExactIsRuleWrongFalsely : Prop := fnExactIsRuleRow.holds Try.pinned (OpenSpec.ofChange fnExactIsRuleWrong)

/-- 'laws.FnExactSeerMean': WHATEVER THE INPUT: true; the input reads as it did. -/
def fnExactSeerMeanSpec : ChangeSpec := { name := "fnExactSeerMean", fn := fun _ => fun
  | [d1, d2] => { results := [.lit (.bool true)], args := [d1, d2] }
  | _ => none }
def fnExactSeerMeanRow : OpenClaim := { program := "ytjkkfjipgomkdaa", sum := "cdd1e626490aef4171a602b2ea541ae5e70dea046873fd20a2c8fdabc0e10522", func := "loop.example/g01131/laws.FnExactSeerMean", spec := "fnExactSeerMean", apart := false }
def FnExactSeerMeanSaid : Prop := fnExactSeerMeanRow.holds Try.pinned (OpenSpec.ofChange fnExactSeerMeanSpec)

/-- ITS FALSE NEIGHBOUR: 'it returns false'. Refute it at one input. -/
def fnExactSeerMeanWrong : ChangeSpec := { name := "fnExactSeerMean", fn := fun _ => fun
  | [d1, d2] => { results := [.lit (.bool false)], args := [d1, d2] }
  | _ => none }
def FnExactSeerMeanWrongFalsely : Prop := fnExactSeerMeanRow.holds Try.pinned (OpenSpec.ofChange fnExactSeerMeanWrong)

/-- 'laws.FnExactEnvelopeOf': WHATEVER THE INPUT: true; the input reads as it did. -/
def fnExactEnvelopeOfSpec : ChangeSpec := { name := "fnExactEnvelopeOf", fn := fun _ => fun
  | [d1, d2] => { results := [.lit (.bool true)], args := [d1, d2] }
  | _ => none }
def fnExactEnvelopeOfRow : OpenClaim := { program := "ytjkkfjipgomkdaa", sum := "cdd1e626490aef4171a602b2ea541ae5e70dea046873fd20a2c8fdabc0e10522", func := "loop.example/g01131/laws.FnExactEnvelopeOf", spec := "fnExactEnvelopeOf", apart := false }
def FnExactEnvelopeOfSaid : Prop := fnExactEnvelopeOfRow.holds Try.pinned (OpenSpec.ofChange fnExactEnvelopeOfSpec)

/-- ITS FALSE NEIGHBOUR: 'it returns false'. Refute it at one input. -/
def fnExactEnvelopeOfWrong : ChangeSpec := { name := "fnExactEnvelopeOf", fn := fun _ => fun
  | [d1, d2] => { results := [.lit (.bool false)], args := [d1, d2] }
  | _ => none }
def FnExactEnvelopeOfWrongFalsely : Prop := fnExactEnvelopeOfRow.holds Try.pinned (OpenSpec.ofChange fnExactEnvelopeOfWrong)

/-- 'laws.FnExactBestRule': WHATEVER THE INPUT: true; the input reads as it did. -/
def fnExactBestRuleSpec : ChangeSpec := { name := "fnExactBestRule", fn := fun _ => fun
  | [d1, d2] => { results := [.lit (.bool true)], args := [d1, d2] }
  | _ => none }
def fnExactBestRuleRow : OpenClaim := { program := "ytjkkfjipgomkdaa", sum := "cdd1e626490aef4171a602b2ea541ae5e70dea046873fd20a2c8fdabc0e10522", func := "loop.example/g01131/laws.FnExactBestRule", spec := "fnExactBestRule", unfollowed := true, recurses := true, apart := false }
def FnExactBestRuleSaid : Prop := fnExactBestRuleRow.holds Try.pinned (OpenSpec.ofChange fnExactBestRuleSpec)

/-- ITS FALSE NEIGHBOUR: 'it returns false'. Refute it at one input. -/
def fnExactBestRuleWrong : ChangeSpec := { name := "fnExactBestRule", fn := fun _ => fun
  | [d1, d2] => { results := [.lit (.bool false)], args := [d1, d2] }
  | _ => none }
def FnExactBestRuleWrongFalsely : Prop := fnExactBestRuleRow.holds Try.pinned (OpenSpec.ofChange fnExactBestRuleWrong)

/-- 'laws.FnExactLatestRule': WHATEVER THE INPUT: true; the input reads as it did. -/
def fnExactLatestRuleSpec : ChangeSpec := { name := "fnExactLatestRule", fn := fun _ => fun
  | [d1, d2] => { results := [.lit (.bool true)], args := [d1, d2] }
  | _ => none }
def fnExactLatestRuleRow : OpenClaim := { program := "ytjkkfjipgomkdaa", sum := "cdd1e626490aef4171a602b2ea541ae5e70dea046873fd20a2c8fdabc0e10522", func := "loop.example/g01131/laws.FnExactLatestRule", spec := "fnExactLatestRule", unfollowed := true, recurses := true, apart := false }
def FnExactLatestRuleSaid : Prop := fnExactLatestRuleRow.holds Try.pinned (OpenSpec.ofChange fnExactLatestRuleSpec)

/-- ITS FALSE NEIGHBOUR: 'it returns false'. Refute it at one input. -/
def fnExactLatestRuleWrong : ChangeSpec := { name := "fnExactLatestRule", fn := fun _ => fun
  | [d1, d2] => { results := [.lit (.bool false)], args := [d1, d2] }
  | _ => none }
def FnExactLatestRuleWrongFalsely : Prop := fnExactLatestRuleRow.holds Try.pinned (OpenSpec.ofChange fnExactLatestRuleWrong)

/-- 'laws.FnExactLookAhead': WHATEVER THE INPUT: true; the input reads as it did. -/
def fnExactLookAheadSpec : ChangeSpec := { name := "fnExactLookAhead", fn := fun _ => fun
  | [d1, d2, d3] => { results := [.lit (.bool true)], args := [d1, d2, d3] }
  | _ => none }
def fnExactLookAheadRow : OpenClaim := { program := "ytjkkfjipgomkdaa", sum := "cdd1e626490aef4171a602b2ea541ae5e70dea046873fd20a2c8fdabc0e10522", func := "loop.example/g01131/laws.FnExactLookAhead", spec := "fnExactLookAhead", unfollowed := true, recurses := true, apart := false }
def FnExactLookAheadSaid : Prop := fnExactLookAheadRow.holds Try.pinned (OpenSpec.ofChange fnExactLookAheadSpec)

/-- ITS FALSE NEIGHBOUR: 'it returns false'. Refute it at one input. -/
def fnExactLookAheadWrong : ChangeSpec := { name := "fnExactLookAhead", fn := fun _ => fun
  | [d1, d2, d3] => { results := [.lit (.bool false)], args := [d1, d2, d3] }
  | _ => none }
def FnExactLookAheadWrongFalsely : Prop := fnExactLookAheadRow.holds Try.pinned (OpenSpec.ofChange fnExactLookAheadWrong)

/-- 'laws.FnExactBalanceBound': WHATEVER THE INPUT: true; the input reads as it did. -/
def fnExactBalanceBoundSpec : ChangeSpec := { name := "fnExactBalanceBound", fn := fun _ => fun
  | [d1, d2, d3] => { results := [.lit (.bool true)], args := [d1, d2, d3] }
  | _ => none }
def fnExactBalanceBoundRow : OpenClaim := { program := "ytjkkfjipgomkdaa", sum := "cdd1e626490aef4171a602b2ea541ae5e70dea046873fd20a2c8fdabc0e10522", func := "loop.example/g01131/laws.FnExactBalanceBound", spec := "fnExactBalanceBound", apart := false }
def FnExactBalanceBoundSaid : Prop := fnExactBalanceBoundRow.holds Try.pinned (OpenSpec.ofChange fnExactBalanceBoundSpec)

/-- ITS FALSE NEIGHBOUR: 'it returns false'. Refute it at one input. -/
def fnExactBalanceBoundWrong : ChangeSpec := { name := "fnExactBalanceBound", fn := fun _ => fun
  | [d1, d2, d3] => { results := [.lit (.bool false)], args := [d1, d2, d3] }
  | _ => none }
def FnExactBalanceBoundWrongFalsely : Prop := fnExactBalanceBoundRow.holds Try.pinned (OpenSpec.ofChange fnExactBalanceBoundWrong)

/-- 'laws.FnExactRuleMean': WHATEVER THE INPUT: true; the input reads as it did. -/
def fnExactRuleMeanSpec : ChangeSpec := { name := "fnExactRuleMean", fn := fun _ => fun
  | [d1, d2, d3] => { results := [.lit (.bool true)], args := [d1, d2, d3] }
  | _ => none }
def fnExactRuleMeanRow : OpenClaim := { program := "ytjkkfjipgomkdaa", sum := "cdd1e626490aef4171a602b2ea541ae5e70dea046873fd20a2c8fdabc0e10522", func := "loop.example/g01131/laws.FnExactRuleMean", spec := "fnExactRuleMean", apart := false }
def FnExactRuleMeanSaid : Prop := fnExactRuleMeanRow.holds Try.pinned (OpenSpec.ofChange fnExactRuleMeanSpec)

/-- ITS FALSE NEIGHBOUR: 'it returns false'. Refute it at one input. -/
def fnExactRuleMeanWrong : ChangeSpec := { name := "fnExactRuleMean", fn := fun _ => fun
  | [d1, d2, d3] => { results := [.lit (.bool false)], args := [d1, d2, d3] }
  | _ => none }
def FnExactRuleMeanWrongFalsely : Prop := fnExactRuleMeanRow.holds Try.pinned (OpenSpec.ofChange fnExactRuleMeanWrong)

/-- 'laws.FnExactBestLevel': WHATEVER THE INPUT: true; the input reads as it did. -/
def fnExactBestLevelSpec : ChangeSpec := { name := "fnExactBestLevel", fn := fun _ => fun
  | [d1, d2] => { results := [.lit (.bool true)], args := [d1, d2] }
  | _ => none }
def fnExactBestLevelRow : OpenClaim := { program := "ytjkkfjipgomkdaa", sum := "cdd1e626490aef4171a602b2ea541ae5e70dea046873fd20a2c8fdabc0e10522", func := "loop.example/g01131/laws.FnExactBestLevel", spec := "fnExactBestLevel", apart := false }
def FnExactBestLevelSaid : Prop := fnExactBestLevelRow.holds Try.pinned (OpenSpec.ofChange fnExactBestLevelSpec)

/-- ITS FALSE NEIGHBOUR: 'it returns false'. Refute it at one input. -/
def fnExactBestLevelWrong : ChangeSpec := { name := "fnExactBestLevel", fn := fun _ => fun
  | [d1, d2] => { results := [.lit (.bool false)], args := [d1, d2] }
  | _ => none }
def FnExactBestLevelWrongFalsely : Prop := fnExactBestLevelRow.holds Try.pinned (OpenSpec.ofChange fnExactBestLevelWrong)

/-- 'laws.FnExactIsNoLater': WHATEVER THE INPUT: true; the input reads as it did. -/
def fnExactIsNoLaterSpec : ChangeSpec := { name := "fnExactIsNoLater", fn := fun _ => fun
  | [d1, d2, d3] => { results := [.lit (.bool true)], args := [d1, d2, d3] }
  | _ => none }
def fnExactIsNoLaterRow : OpenClaim := { program := "ytjkkfjipgomkdaa", sum := "cdd1e626490aef4171a602b2ea541ae5e70dea046873fd20a2c8fdabc0e10522", func := "loop.example/g01131/laws.FnExactIsNoLater", spec := "fnExactIsNoLater", recurses := true, apart := false }
def FnExactIsNoLaterSaid : Prop := fnExactIsNoLaterRow.holds Try.pinned (OpenSpec.ofChange fnExactIsNoLaterSpec)

/-- ITS FALSE NEIGHBOUR: 'it returns false'. Refute it at one input. -/
def fnExactIsNoLaterWrong : ChangeSpec := { name := "fnExactIsNoLater", fn := fun _ => fun
  | [d1, d2, d3] => { results := [.lit (.bool false)], args := [d1, d2, d3] }
  | _ => none }
def FnExactIsNoLaterWrongFalsely : Prop := fnExactIsNoLaterRow.holds Try.pinned (OpenSpec.ofChange fnExactIsNoLaterWrong)

/-- 'laws.FnExactEarlierRule': WHATEVER THE INPUT: true; the input reads as it did. -/
def fnExactEarlierRuleSpec : ChangeSpec := { name := "fnExactEarlierRule", fn := fun _ => fun
  | [d1, d2, d3] => { results := [.lit (.bool true)], args := [d1, d2, d3] }
  | _ => none }
def fnExactEarlierRuleRow : OpenClaim := { program := "ytjkkfjipgomkdaa", sum := "cdd1e626490aef4171a602b2ea541ae5e70dea046873fd20a2c8fdabc0e10522", func := "loop.example/g01131/laws.FnExactEarlierRule", spec := "fnExactEarlierRule", recurses := true, apart := false }
def FnExactEarlierRuleSaid : Prop := fnExactEarlierRuleRow.holds Try.pinned (OpenSpec.ofChange fnExactEarlierRuleSpec)

/-- ITS FALSE NEIGHBOUR: 'it returns false'. Refute it at one input. -/
def fnExactEarlierRuleWrong : ChangeSpec := { name := "fnExactEarlierRule", fn := fun _ => fun
  | [d1, d2, d3] => { results := [.lit (.bool false)], args := [d1, d2, d3] }
  | _ => none }
def FnExactEarlierRuleWrongFalsely : Prop := fnExactEarlierRuleRow.holds Try.pinned (OpenSpec.ofChange fnExactEarlierRuleWrong)

/-- 'laws.FnExactLaterRule': WHATEVER THE INPUT: true; the input reads as it did. -/
def fnExactLaterRuleSpec : ChangeSpec := { name := "fnExactLaterRule", fn := fun _ => fun
  | [d1, d2, d3] => { results := [.lit (.bool true)], args := [d1, d2, d3] }
  | _ => none }
def fnExactLaterRuleRow : OpenClaim := { program := "ytjkkfjipgomkdaa", sum := "cdd1e626490aef4171a602b2ea541ae5e70dea046873fd20a2c8fdabc0e10522", func := "loop.example/g01131/laws.FnExactLaterRule", spec := "fnExactLaterRule", recurses := true, apart := false }
def FnExactLaterRuleSaid : Prop := fnExactLaterRuleRow.holds Try.pinned (OpenSpec.ofChange fnExactLaterRuleSpec)

/-- ITS FALSE NEIGHBOUR: 'it returns false'. Refute it at one input. -/
def fnExactLaterRuleWrong : ChangeSpec := { name := "fnExactLaterRule", fn := fun _ => fun
  | [d1, d2, d3] => { results := [.lit (.bool false)], args := [d1, d2, d3] }
  | _ => none }
def FnExactLaterRuleWrongFalsely : Prop := fnExactLaterRuleRow.holds Try.pinned (OpenSpec.ofChange fnExactLaterRuleWrong)

/- THE SECOND FORM. 'bulk': how many values and letters a reading holds, each counted each time it is reached (what is shared counts as often as it is met; a slice's spare places count too). A statement '..UptoSaid' is the law's where the arguments, and the package variables that the reading takes, are together of bulk at most 1048576: NARROWER than '..Said'. Prove '..Said' where nothing that the law and all that it calls make is longer than what came in: it says more and counts as full. Else prove '..UptoSaid'. A law counts once. -/
mutual
def uptoBulk {H : Type} : DataW H → Nat
  | .lit (.string bytes) => bytes.length + 1
  | .lit _ => 1
  | .nil => 1
  | .ptr d => uptoBulk d + 1
  | .slice elems spare => uptoBulkAll elems + uptoBulkAll spare + 1
  | .agg parts => uptoBulkAll parts + 1
  | .iface _ d => uptoBulk d + 1
  | .map entries => uptoBulkEntries entries + 1
  | .held _ => 1
def uptoBulkAll {H : Type} : List (DataW H) → Nat
  | [] => 0
  | d :: r => uptoBulk d + uptoBulkAll r
def uptoBulkEntries {H : Type} : List (Lit × DataW H) → Nat
  | [] => 0
  | x :: r => uptoBulkEntry x + uptoBulkEntries r
def uptoBulkEntry {H : Type} : Lit × DataW H → Nat
  | (.string bytes, d) => bytes.length + uptoBulk d + 1
  | (_, d) => uptoBulk d + 1
 end
def uptoSmall : (H : Type) → List (DataW H) → Bool := fun _ ds => decide (uptoBulkAll ds ≤ 1048576)
def OpenSpec.upto (s : _root_.Go.ChangeSpec) : _root_.Go.OpenSpec := { _root_.Go.OpenSpec.ofChange s with cond := some uptoSmall }

/-- 'laws.FnExactIsRule', WHERE WHAT IT READS IS OF BULK AT MOST 1048576: true; the input reads as it did. -/
def fnExactIsRuleUptoRow : OpenClaim := { program := "ytjkkfjipgomkdaa", sum := "cdd1e626490aef4171a602b2ea541ae5e70dea046873fd20a2c8fdabc0e10522", func := "loop.example/g01131/laws.FnExactIsRule", spec := "fnExactIsRule", apart := false, narrowed := true }
def FnExactIsRuleUptoSaid : Prop := fnExactIsRuleUptoRow.holds Try.pinned (OpenSpec.upto fnExactIsRuleSpec)

/-- 'laws.FnExactSeerMean', WHERE WHAT IT READS IS OF BULK AT MOST 1048576: true; the input reads as it did. -/
def fnExactSeerMeanUptoRow : OpenClaim := { program := "ytjkkfjipgomkdaa", sum := "cdd1e626490aef4171a602b2ea541ae5e70dea046873fd20a2c8fdabc0e10522", func := "loop.example/g01131/laws.FnExactSeerMean", spec := "fnExactSeerMean", apart := false, narrowed := true }
def FnExactSeerMeanUptoSaid : Prop := fnExactSeerMeanUptoRow.holds Try.pinned (OpenSpec.upto fnExactSeerMeanSpec)

/-- 'laws.FnExactEnvelopeOf', WHERE WHAT IT READS IS OF BULK AT MOST 1048576: true; the input reads as it did. -/
def fnExactEnvelopeOfUptoRow : OpenClaim := { program := "ytjkkfjipgomkdaa", sum := "cdd1e626490aef4171a602b2ea541ae5e70dea046873fd20a2c8fdabc0e10522", func := "loop.example/g01131/laws.FnExactEnvelopeOf", spec := "fnExactEnvelopeOf", apart := false, narrowed := true }
def FnExactEnvelopeOfUptoSaid : Prop := fnExactEnvelopeOfUptoRow.holds Try.pinned (OpenSpec.upto fnExactEnvelopeOfSpec)

/-- 'laws.FnExactBestRule', WHERE WHAT IT READS IS OF BULK AT MOST 1048576: true; the input reads as it did. -/
def fnExactBestRuleUptoRow : OpenClaim := { program := "ytjkkfjipgomkdaa", sum := "cdd1e626490aef4171a602b2ea541ae5e70dea046873fd20a2c8fdabc0e10522", func := "loop.example/g01131/laws.FnExactBestRule", spec := "fnExactBestRule", unfollowed := true, recurses := true, apart := false, narrowed := true }
def FnExactBestRuleUptoSaid : Prop := fnExactBestRuleUptoRow.holds Try.pinned (OpenSpec.upto fnExactBestRuleSpec)

/-- 'laws.FnExactLatestRule', WHERE WHAT IT READS IS OF BULK AT MOST 1048576: true; the input reads as it did. -/
def fnExactLatestRuleUptoRow : OpenClaim := { program := "ytjkkfjipgomkdaa", sum := "cdd1e626490aef4171a602b2ea541ae5e70dea046873fd20a2c8fdabc0e10522", func := "loop.example/g01131/laws.FnExactLatestRule", spec := "fnExactLatestRule", unfollowed := true, recurses := true, apart := false, narrowed := true }
def FnExactLatestRuleUptoSaid : Prop := fnExactLatestRuleUptoRow.holds Try.pinned (OpenSpec.upto fnExactLatestRuleSpec)

/-- 'laws.FnExactLookAhead', WHERE WHAT IT READS IS OF BULK AT MOST 1048576: true; the input reads as it did. -/
def fnExactLookAheadUptoRow : OpenClaim := { program := "ytjkkfjipgomkdaa", sum := "cdd1e626490aef4171a602b2ea541ae5e70dea046873fd20a2c8fdabc0e10522", func := "loop.example/g01131/laws.FnExactLookAhead", spec := "fnExactLookAhead", unfollowed := true, recurses := true, apart := false, narrowed := true }
def FnExactLookAheadUptoSaid : Prop := fnExactLookAheadUptoRow.holds Try.pinned (OpenSpec.upto fnExactLookAheadSpec)

/-- 'laws.FnExactBalanceBound', WHERE WHAT IT READS IS OF BULK AT MOST 1048576: true; the input reads as it did. -/
def fnExactBalanceBoundUptoRow : OpenClaim := { program := "ytjkkfjipgomkdaa", sum := "cdd1e626490aef4171a602b2ea541ae5e70dea046873fd20a2c8fdabc0e10522", func := "loop.example/g01131/laws.FnExactBalanceBound", spec := "fnExactBalanceBound", apart := false, narrowed := true }
def FnExactBalanceBoundUptoSaid : Prop := fnExactBalanceBoundUptoRow.holds Try.pinned (OpenSpec.upto fnExactBalanceBoundSpec)

/-- 'laws.FnExactRuleMean', WHERE WHAT IT READS IS OF BULK AT MOST 1048576: true; the input reads as it did. -/
def fnExactRuleMeanUptoRow : OpenClaim := { program := "ytjkkfjipgomkdaa", sum := "cdd1e626490aef4171a602b2ea541ae5e70dea046873fd20a2c8fdabc0e10522", func := "loop.example/g01131/laws.FnExactRuleMean", spec := "fnExactRuleMean", apart := false, narrowed := true }
def FnExactRuleMeanUptoSaid : Prop := fnExactRuleMeanUptoRow.holds Try.pinned (OpenSpec.upto fnExactRuleMeanSpec)

/-- 'laws.FnExactBestLevel', WHERE WHAT IT READS IS OF BULK AT MOST 1048576: true; the input reads as it did. -/
def fnExactBestLevelUptoRow : OpenClaim := { program := "ytjkkfjipgomkdaa", sum := "cdd1e626490aef4171a602b2ea541ae5e70dea046873fd20a2c8fdabc0e10522", func := "loop.example/g01131/laws.FnExactBestLevel", spec := "fnExactBestLevel", apart := false, narrowed := true }
def FnExactBestLevelUptoSaid : Prop := fnExactBestLevelUptoRow.holds Try.pinned (OpenSpec.upto fnExactBestLevelSpec)

/-- 'laws.FnExactIsNoLater', WHERE WHAT IT READS IS OF BULK AT MOST 1048576: true; the input reads as it did. -/
def fnExactIsNoLaterUptoRow : OpenClaim := { program := "ytjkkfjipgomkdaa", sum := "cdd1e626490aef4171a602b2ea541ae5e70dea046873fd20a2c8fdabc0e10522", func := "loop.example/g01131/laws.FnExactIsNoLater", spec := "fnExactIsNoLater", recurses := true, apart := false, narrowed := true }
def FnExactIsNoLaterUptoSaid : Prop := fnExactIsNoLaterUptoRow.holds Try.pinned (OpenSpec.upto fnExactIsNoLaterSpec)

/-- 'laws.FnExactEarlierRule', WHERE WHAT IT READS IS OF BULK AT MOST 1048576: true; the input reads as it did. -/
def fnExactEarlierRuleUptoRow : OpenClaim := { program := "ytjkkfjipgomkdaa", sum := "cdd1e626490aef4171a602b2ea541ae5e70dea046873fd20a2c8fdabc0e10522", func := "loop.example/g01131/laws.FnExactEarlierRule", spec := "fnExactEarlierRule", recurses := true, apart := false, narrowed := true }
def FnExactEarlierRuleUptoSaid : Prop := fnExactEarlierRuleUptoRow.holds Try.pinned (OpenSpec.upto fnExactEarlierRuleSpec)

/-- 'laws.FnExactLaterRule', WHERE WHAT IT READS IS OF BULK AT MOST 1048576: true; the input reads as it did. -/
def fnExactLaterRuleUptoRow : OpenClaim := { program := "ytjkkfjipgomkdaa", sum := "cdd1e626490aef4171a602b2ea541ae5e70dea046873fd20a2c8fdabc0e10522", func := "loop.example/g01131/laws.FnExactLaterRule", spec := "fnExactLaterRule", recurses := true, apart := false, narrowed := true }
def FnExactLaterRuleUptoSaid : Prop := fnExactLaterRuleUptoRow.holds Try.pinned (OpenSpec.upto fnExactLaterRuleSpec)

end Rows
end Go.Proofs.Ytjkkfjipgomkdaa
