/-
  No cell of these rows narrows 'for every input' (looked for: loops, veiled, ifaces, maps, wideKeys, modest, calm, conditions, laid).
  DERIVED. THE GIVEN ROWS OF THIS SEAT. 12 by the template 'for every input the law returns true; each argument reads behind the call as it read before'; 0 by the template 'total and deterministic' (their statements: YtehmaedifbnnhaaTotals.lean).
  GIVEN WITH THE SEED: the statements are not yours to turn. If you find one false, say at which input.
  Laid BY PROGRAM, IN A SANDBOX (cutbox-rows.mjs): the forced cells as the released guide's own fill.sh prints them over the translation 43470dc3b7b37c09… (all of the seat's roots in one cut). By AI agents, Wed Nov 11 2026. No macro, syntax, notation, axiom, sorry.
-/
import Derived.Test.YtehmaedifbnnhaaChecked
import GoSem.Claim
import GoSem.ClaimJoined
import GoSem.ClaimMapViews
import Derived.JoinedTies
import Derived.KernelRfl
namespace Go.Proofs.Ytehmaedifbnnhaa
/- THE CELL 'sum', in the pinned program and in every row, IS THE sha256 OF THE DUMP (.gsa) THAT YtehmaedifbnnhaaProg.lean LOADS. Nothing in Lean hashes anything: it is a label: what it is worth is what the hold of that sum in a sandbox is worth. -/
noncomputable def Try.pinned : Pinned := { name := "ytehmaedifbnnhaa", sum := "43470dc3b7b37c0959b3941e346d8757b05afd59e066257c4e9eecdd0c479a61", checked := Try.checked }
namespace Rows
def none {H : Type} : Left H := { results := [], args := [] }

/-- 'laws.FnExactRuinChance': WHATEVER THE INPUT: true; the input reads as it did. -/
def fnExactRuinChanceSpec : ChangeSpec := { name := "fnExactRuinChance", fn := fun _ => fun
  | [d1, d2, d3, d4] => { results := [.lit (.bool true)], args := [d1, d2, d3, d4] }
  | _ => none }
def fnExactRuinChanceRow : OpenClaim := { program := "ytehmaedifbnnhaa", sum := "43470dc3b7b37c0959b3941e346d8757b05afd59e066257c4e9eecdd0c479a61", func := "loop.example/g01131/laws.FnExactRuinChance", spec := "fnExactRuinChance", apart := false }
def FnExactRuinChanceSaid : Prop := fnExactRuinChanceRow.holds Try.pinned (OpenSpec.ofChange fnExactRuinChanceSpec)

/-- ITS FALSE NEIGHBOUR: 'it returns false'. Refute it at one input. -/
def fnExactRuinChanceWrong : ChangeSpec := { name := "fnExactRuinChance", fn := fun _ => fun
  | [d1, d2, d3, d4] => { results := [.lit (.bool false)], args := [d1, d2, d3, d4] }
  | _ => none }
def FnExactRuinChanceWrongFalsely : Prop := fnExactRuinChanceRow.holds Try.pinned (OpenSpec.ofChange fnExactRuinChanceWrong)

/-- 'laws.FnExactRuinMean': WHATEVER THE INPUT: true; the input reads as it did. -/
def fnExactRuinMeanSpec : ChangeSpec := { name := "fnExactRuinMean", fn := fun _ => fun
  | [d1, d2, d3, d4] => { results := [.lit (.bool true)], args := [d1, d2, d3, d4] }
  | _ => none }
def fnExactRuinMeanRow : OpenClaim := { program := "ytehmaedifbnnhaa", sum := "43470dc3b7b37c0959b3941e346d8757b05afd59e066257c4e9eecdd0c479a61", func := "loop.example/g01131/laws.FnExactRuinMean", spec := "fnExactRuinMean", apart := false }
def FnExactRuinMeanSaid : Prop := fnExactRuinMeanRow.holds Try.pinned (OpenSpec.ofChange fnExactRuinMeanSpec)

/-- ITS FALSE NEIGHBOUR: 'it returns false'. Refute it at one input. -/
def fnExactRuinMeanWrong : ChangeSpec := { name := "fnExactRuinMean", fn := fun _ => fun
  | [d1, d2, d3, d4] => { results := [.lit (.bool false)], args := [d1, d2, d3, d4] }
  | _ => none }
def FnExactRuinMeanWrongFalsely : Prop := fnExactRuinMeanRow.holds Try.pinned (OpenSpec.ofChange fnExactRuinMeanWrong)

/-- 'laws.FnExactBoldTable': WHATEVER THE INPUT: true; the input reads as it did. -/
def fnExactBoldTableSpec : ChangeSpec := { name := "fnExactBoldTable", fn := fun _ => fun
  | [d1, d2, d3, d4] => { results := [.lit (.bool true)], args := [d1, d2, d3, d4] }
  | _ => none }
def fnExactBoldTableRow : OpenClaim := { program := "ytehmaedifbnnhaa", sum := "43470dc3b7b37c0959b3941e346d8757b05afd59e066257c4e9eecdd0c479a61", func := "loop.example/g01131/laws.FnExactBoldTable", spec := "fnExactBoldTable", unfollowed := true, recurses := true, apart := false }
def FnExactBoldTableSaid : Prop := fnExactBoldTableRow.holds Try.pinned (OpenSpec.ofChange fnExactBoldTableSpec)

/-- ITS FALSE NEIGHBOUR: 'it returns false'. Refute it at one input. -/
def fnExactBoldTableWrong : ChangeSpec := { name := "fnExactBoldTable", fn := fun _ => fun
  | [d1, d2, d3, d4] => { results := [.lit (.bool false)], args := [d1, d2, d3, d4] }
  | _ => none }
def FnExactBoldTableWrongFalsely : Prop := fnExactBoldTableRow.holds Try.pinned (OpenSpec.ofChange fnExactBoldTableWrong)

/-- 'laws.FnExactTimidTable': WHATEVER THE INPUT: true; the input reads as it did. -/
def fnExactTimidTableSpec : ChangeSpec := { name := "fnExactTimidTable", fn := fun _ => fun
  | [d1, d2, d3, d4] => { results := [.lit (.bool true)], args := [d1, d2, d3, d4] }
  | _ => none }
def fnExactTimidTableRow : OpenClaim := { program := "ytehmaedifbnnhaa", sum := "43470dc3b7b37c0959b3941e346d8757b05afd59e066257c4e9eecdd0c479a61", func := "loop.example/g01131/laws.FnExactTimidTable", spec := "fnExactTimidTable", unfollowed := true, recurses := true, apart := false }
def FnExactTimidTableSaid : Prop := fnExactTimidTableRow.holds Try.pinned (OpenSpec.ofChange fnExactTimidTableSpec)

/-- ITS FALSE NEIGHBOUR: 'it returns false'. Refute it at one input. -/
def fnExactTimidTableWrong : ChangeSpec := { name := "fnExactTimidTable", fn := fun _ => fun
  | [d1, d2, d3, d4] => { results := [.lit (.bool false)], args := [d1, d2, d3, d4] }
  | _ => none }
def FnExactTimidTableWrongFalsely : Prop := fnExactTimidTableRow.holds Try.pinned (OpenSpec.ofChange fnExactTimidTableWrong)

/-- 'laws.FnExactBestStakeTable': WHATEVER THE INPUT: true; the input reads as it did. -/
def fnExactBestStakeTableSpec : ChangeSpec := { name := "fnExactBestStakeTable", fn := fun _ => fun
  | [d1, d2, d3, d4] => { results := [.lit (.bool true)], args := [d1, d2, d3, d4] }
  | _ => none }
def fnExactBestStakeTableRow : OpenClaim := { program := "ytehmaedifbnnhaa", sum := "43470dc3b7b37c0959b3941e346d8757b05afd59e066257c4e9eecdd0c479a61", func := "loop.example/g01131/laws.FnExactBestStakeTable", spec := "fnExactBestStakeTable", unfollowed := true, recurses := true, apart := false }
def FnExactBestStakeTableSaid : Prop := fnExactBestStakeTableRow.holds Try.pinned (OpenSpec.ofChange fnExactBestStakeTableSpec)

/-- ITS FALSE NEIGHBOUR: 'it returns false'. Refute it at one input. -/
def fnExactBestStakeTableWrong : ChangeSpec := { name := "fnExactBestStakeTable", fn := fun _ => fun
  | [d1, d2, d3, d4] => { results := [.lit (.bool false)], args := [d1, d2, d3, d4] }
  | _ => none }
def FnExactBestStakeTableWrongFalsely : Prop := fnExactBestStakeTableRow.holds Try.pinned (OpenSpec.ofChange fnExactBestStakeTableWrong)

/-- 'laws.FnExactStakeProof': WHATEVER THE INPUT: true; the input reads as it did. -/
def fnExactStakeProofSpec : ChangeSpec := { name := "fnExactStakeProof", fn := fun _ => fun
  | [d1, d2, d3, d4] => { results := [.lit (.bool true)], args := [d1, d2, d3, d4] }
  | _ => none }
def fnExactStakeProofRow : OpenClaim := { program := "ytehmaedifbnnhaa", sum := "43470dc3b7b37c0959b3941e346d8757b05afd59e066257c4e9eecdd0c479a61", func := "loop.example/g01131/laws.FnExactStakeProof", spec := "fnExactStakeProof", apart := false }
def FnExactStakeProofSaid : Prop := fnExactStakeProofRow.holds Try.pinned (OpenSpec.ofChange fnExactStakeProofSpec)

/-- ITS FALSE NEIGHBOUR: 'it returns false'. Refute it at one input. -/
def fnExactStakeProofWrong : ChangeSpec := { name := "fnExactStakeProof", fn := fun _ => fun
  | [d1, d2, d3, d4] => { results := [.lit (.bool false)], args := [d1, d2, d3, d4] }
  | _ => none }
def FnExactStakeProofWrongFalsely : Prop := fnExactStakeProofRow.holds Try.pinned (OpenSpec.ofChange fnExactStakeProofWrong)

/-- 'laws.FnBoldPlay': WHATEVER THE INPUT: true; the input reads as it did. -/
def fnBoldPlaySpec : ChangeSpec := { name := "fnBoldPlay", fn := fun _ => fun
  | [d] => { results := [.lit (.bool true)], args := [d] }
  | _ => none }
def fnBoldPlayRow : OpenClaim := { program := "ytehmaedifbnnhaa", sum := "43470dc3b7b37c0959b3941e346d8757b05afd59e066257c4e9eecdd0c479a61", func := "loop.example/g01131/laws.FnBoldPlay", spec := "fnBoldPlay", unfollowed := true, recurses := true, apart := false }
def FnBoldPlaySaid : Prop := fnBoldPlayRow.holds Try.pinned (OpenSpec.ofChange fnBoldPlaySpec)

/-- ITS FALSE NEIGHBOUR: 'it returns false'. Refute it at one input. -/
def fnBoldPlayWrong : ChangeSpec := { name := "fnBoldPlay", fn := fun _ => fun
  | [d] => { results := [.lit (.bool false)], args := [d] }
  | _ => none }
def FnBoldPlayWrongFalsely : Prop := fnBoldPlayRow.holds Try.pinned (OpenSpec.ofChange fnBoldPlayWrong)

/-- 'laws.FnRuin': WHATEVER THE INPUT: true; the input reads as it did. -/
def fnRuinSpec : ChangeSpec := { name := "fnRuin", fn := fun _ => fun
  | [d] => { results := [.lit (.bool true)], args := [d] }
  | _ => none }
def fnRuinRow : OpenClaim := { program := "ytehmaedifbnnhaa", sum := "43470dc3b7b37c0959b3941e346d8757b05afd59e066257c4e9eecdd0c479a61", func := "loop.example/g01131/laws.FnRuin", spec := "fnRuin", unfollowed := true, recurses := true, apart := false }
def FnRuinSaid : Prop := fnRuinRow.holds Try.pinned (OpenSpec.ofChange fnRuinSpec)

/-- ITS FALSE NEIGHBOUR: 'it returns false'. Refute it at one input. -/
def fnRuinWrong : ChangeSpec := { name := "fnRuin", fn := fun _ => fun
  | [d] => { results := [.lit (.bool false)], args := [d] }
  | _ => none }
def FnRuinWrongFalsely : Prop := fnRuinRow.holds Try.pinned (OpenSpec.ofChange fnRuinWrong)

/-- 'laws.FnExactRowHolding': WHATEVER THE INPUT: true; the input reads as it did. -/
def fnExactRowHoldingSpec : ChangeSpec := { name := "fnExactRowHolding", fn := fun _ => fun
  | [d1, d2, d3, d4] => { results := [.lit (.bool true)], args := [d1, d2, d3, d4] }
  | _ => none }
def fnExactRowHoldingRow : OpenClaim := { program := "ytehmaedifbnnhaa", sum := "43470dc3b7b37c0959b3941e346d8757b05afd59e066257c4e9eecdd0c479a61", func := "loop.example/g01131/laws.FnExactRowHolding", spec := "fnExactRowHolding", recurses := true, apart := false }
def FnExactRowHoldingSaid : Prop := fnExactRowHoldingRow.holds Try.pinned (OpenSpec.ofChange fnExactRowHoldingSpec)

/-- ITS FALSE NEIGHBOUR: 'it returns false'. Refute it at one input. -/
def fnExactRowHoldingWrong : ChangeSpec := { name := "fnExactRowHolding", fn := fun _ => fun
  | [d1, d2, d3, d4] => { results := [.lit (.bool false)], args := [d1, d2, d3, d4] }
  | _ => none }
def FnExactRowHoldingWrongFalsely : Prop := fnExactRowHoldingRow.holds Try.pinned (OpenSpec.ofChange fnExactRowHoldingWrong)

/-- 'laws.FnExactRowValue': WHATEVER THE INPUT: true; the input reads as it did. -/
def fnExactRowValueSpec : ChangeSpec := { name := "fnExactRowValue", fn := fun _ => fun
  | [d1, d2, d3, d4] => { results := [.lit (.bool true)], args := [d1, d2, d3, d4] }
  | _ => none }
def fnExactRowValueRow : OpenClaim := { program := "ytehmaedifbnnhaa", sum := "43470dc3b7b37c0959b3941e346d8757b05afd59e066257c4e9eecdd0c479a61", func := "loop.example/g01131/laws.FnExactRowValue", spec := "fnExactRowValue", recurses := true, apart := false }
def FnExactRowValueSaid : Prop := fnExactRowValueRow.holds Try.pinned (OpenSpec.ofChange fnExactRowValueSpec)

/-- ITS FALSE NEIGHBOUR: 'it returns false'. Refute it at one input. -/
def fnExactRowValueWrong : ChangeSpec := { name := "fnExactRowValue", fn := fun _ => fun
  | [d1, d2, d3, d4] => { results := [.lit (.bool false)], args := [d1, d2, d3, d4] }
  | _ => none }
def FnExactRowValueWrongFalsely : Prop := fnExactRowValueRow.holds Try.pinned (OpenSpec.ofChange fnExactRowValueWrong)

/-- 'laws.FnExactRowMarket': WHATEVER THE INPUT: true; the input reads as it did. -/
def fnExactRowMarketSpec : ChangeSpec := { name := "fnExactRowMarket", fn := fun _ => fun
  | [d1, d2, d3, d4] => { results := [.lit (.bool true)], args := [d1, d2, d3, d4] }
  | _ => none }
def fnExactRowMarketRow : OpenClaim := { program := "ytehmaedifbnnhaa", sum := "43470dc3b7b37c0959b3941e346d8757b05afd59e066257c4e9eecdd0c479a61", func := "loop.example/g01131/laws.FnExactRowMarket", spec := "fnExactRowMarket", apart := false }
def FnExactRowMarketSaid : Prop := fnExactRowMarketRow.holds Try.pinned (OpenSpec.ofChange fnExactRowMarketSpec)

/-- ITS FALSE NEIGHBOUR: 'it returns false'. Refute it at one input. -/
def fnExactRowMarketWrong : ChangeSpec := { name := "fnExactRowMarket", fn := fun _ => fun
  | [d1, d2, d3, d4] => { results := [.lit (.bool false)], args := [d1, d2, d3, d4] }
  | _ => none }
def FnExactRowMarketWrongFalsely : Prop := fnExactRowMarketRow.holds Try.pinned (OpenSpec.ofChange fnExactRowMarketWrong)

/-- 'laws.FnExactRowEarly': WHATEVER THE INPUT: true; the input reads as it did. -/
def fnExactRowEarlySpec : ChangeSpec := { name := "fnExactRowEarly", fn := fun _ => fun
  | [d1, d2, d3, d4] => { results := [.lit (.bool true)], args := [d1, d2, d3, d4] }
  | _ => none }
def fnExactRowEarlyRow : OpenClaim := { program := "ytehmaedifbnnhaa", sum := "43470dc3b7b37c0959b3941e346d8757b05afd59e066257c4e9eecdd0c479a61", func := "loop.example/g01131/laws.FnExactRowEarly", spec := "fnExactRowEarly", apart := false }
def FnExactRowEarlySaid : Prop := fnExactRowEarlyRow.holds Try.pinned (OpenSpec.ofChange fnExactRowEarlySpec)

/-- ITS FALSE NEIGHBOUR: 'it returns false'. Refute it at one input. -/
def fnExactRowEarlyWrong : ChangeSpec := { name := "fnExactRowEarly", fn := fun _ => fun
  | [d1, d2, d3, d4] => { results := [.lit (.bool false)], args := [d1, d2, d3, d4] }
  | _ => none }
def FnExactRowEarlyWrongFalsely : Prop := fnExactRowEarlyRow.holds Try.pinned (OpenSpec.ofChange fnExactRowEarlyWrong)

/- THE SECOND FORM. 'bulk': how many values and letters a reading holds, each counted each time it is reached (what is shared counts as often as it is met; a slice's spare places count too). A statement '..UptoSaid' is the law's where the arguments, and the package variables that the reading takes, are together of bulk at most 1048576: NARROWER than '..Said'. Prove '..Said' where nothing that the law and all that it calls make is longer than what came in: it says more and counts as full. Else prove '..UptoSaid'. A law counts once. -/
mutual
def uptoBulk {H : Type} : DataW H → Nat
  | .lit (.string bytes) => bytes.length + 1
  | .lit _ => 1
  | .nil => 1
  | .ptr d => uptoBulk d + 1
  | .slice elems spare => uptoBulkAll elems + uptoBulkAll spare + 1
  | .agg parts => uptoBulkAll parts + 1
  | .iface _ d => uptoBulk d + 1
  | .map entries => uptoBulkEntries entries + 1
  | .held _ => 1
def uptoBulkAll {H : Type} : List (DataW H) → Nat
  | [] => 0
  | d :: r => uptoBulk d + uptoBulkAll r
def uptoBulkEntries {H : Type} : List (Lit × DataW H) → Nat
  | [] => 0
  | x :: r => uptoBulkEntry x + uptoBulkEntries r
def uptoBulkEntry {H : Type} : Lit × DataW H → Nat
  | (.string bytes, d) => bytes.length + uptoBulk d + 1
  | (_, d) => uptoBulk d + 1
 end
def uptoSmall : (H : Type) → List (DataW H) → Bool := fun _ ds => decide (uptoBulkAll ds ≤ 1048576)
def OpenSpec.upto (s : _root_.Go.ChangeSpec) : _root_.Go.OpenSpec := { _root_.Go.OpenSpec.ofChange s with cond := some uptoSmall }

/-- 'laws.FnExactRuinChance', WHERE WHAT IT READS IS OF BULK AT MOST 1048576: true; the input reads as it did. -/
def fnExactRuinChanceUptoRow : OpenClaim := { program := "ytehmaedifbnnhaa", sum := "43470dc3b7b37c0959b3941e346d8757b05afd59e066257c4e9eecdd0c479a61", func := "loop.example/g01131/laws.FnExactRuinChance", spec := "fnExactRuinChance", apart := false, narrowed := true }
def FnExactRuinChanceUptoSaid : Prop := fnExactRuinChanceUptoRow.holds Try.pinned (OpenSpec.upto fnExactRuinChanceSpec)

/-- 'laws.FnExactRuinMean', WHERE WHAT IT READS IS OF BULK AT MOST 1048576: true; the input reads as it did. -/
def fnExactRuinMeanUptoRow : OpenClaim := { program := "ytehmaedifbnnhaa", sum := "43470dc3b7b37c0959b3941e346d8757b05afd59e066257c4e9eecdd0c479a61", func := "loop.example/g01131/laws.FnExactRuinMean", spec := "fnExactRuinMean", apart := false, narrowed := true }
def FnExactRuinMeanUptoSaid : Prop := fnExactRuinMeanUptoRow.holds Try.pinned (OpenSpec.upto fnExactRuinMeanSpec)

/-- 'laws.FnExactBoldTable', WHERE WHAT IT READS IS OF BULK AT MOST 1048576: true; the input reads as it did. -/
def fnExactBoldTableUptoRow : OpenClaim := { program := "ytehmaedifbnnhaa", sum := "43470dc3b7b37c0959b3941e346d8757b05afd59e066257c4e9eecdd0c479a61", func := "loop.example/g01131/laws.FnExactBoldTable", spec := "fnExactBoldTable", unfollowed := true, recurses := true, apart := false, narrowed := true }
def FnExactBoldTableUptoSaid : Prop := fnExactBoldTableUptoRow.holds Try.pinned (OpenSpec.upto fnExactBoldTableSpec)

/-- 'laws.FnExactTimidTable', WHERE WHAT IT READS IS OF BULK AT MOST 1048576: true; the input reads as it did. -/
def fnExactTimidTableUptoRow : OpenClaim := { program := "ytehmaedifbnnhaa", sum := "43470dc3b7b37c0959b3941e346d8757b05afd59e066257c4e9eecdd0c479a61", func := "loop.example/g01131/laws.FnExactTimidTable", spec := "fnExactTimidTable", unfollowed := true, recurses := true, apart := false, narrowed := true }
def FnExactTimidTableUptoSaid : Prop := fnExactTimidTableUptoRow.holds Try.pinned (OpenSpec.upto fnExactTimidTableSpec)

/-- 'laws.FnExactBestStakeTable', WHERE WHAT IT READS IS OF BULK AT MOST 1048576: true; the input reads as it did. -/
def fnExactBestStakeTableUptoRow : OpenClaim := { program := "ytehmaedifbnnhaa", sum := "43470dc3b7b37c0959b3941e346d8757b05afd59e066257c4e9eecdd0c479a61", func := "loop.example/g01131/laws.FnExactBestStakeTable", spec := "fnExactBestStakeTable", unfollowed := true, recurses := true, apart := false, narrowed := true }
def FnExactBestStakeTableUptoSaid : Prop := fnExactBestStakeTableUptoRow.holds Try.pinned (OpenSpec.upto fnExactBestStakeTableSpec)

/-- 'laws.FnExactStakeProof', WHERE WHAT IT READS IS OF BULK AT MOST 1048576: true; the input reads as it did. -/
def fnExactStakeProofUptoRow : OpenClaim := { program := "ytehmaedifbnnhaa", sum := "43470dc3b7b37c0959b3941e346d8757b05afd59e066257c4e9eecdd0c479a61", func := "loop.example/g01131/laws.FnExactStakeProof", spec := "fnExactStakeProof", apart := false, narrowed := true }
def FnExactStakeProofUptoSaid : Prop := fnExactStakeProofUptoRow.holds Try.pinned (OpenSpec.upto fnExactStakeProofSpec)

/-- 'laws.FnBoldPlay', WHERE WHAT IT READS IS OF BULK AT MOST 1048576: true; the input reads as it did. -/
def fnBoldPlayUptoRow : OpenClaim := { program := "ytehmaedifbnnhaa", sum := "43470dc3b7b37c0959b3941e346d8757b05afd59e066257c4e9eecdd0c479a61", func := "loop.example/g01131/laws.FnBoldPlay", spec := "fnBoldPlay", unfollowed := true, recurses := true, apart := false, narrowed := true }
def FnBoldPlayUptoSaid : Prop := fnBoldPlayUptoRow.holds Try.pinned (OpenSpec.upto fnBoldPlaySpec)

/-- 'laws.FnRuin', WHERE WHAT IT READS IS OF BULK AT MOST 1048576: true; the input reads as it did. -/
def fnRuinUptoRow : OpenClaim := { program := "ytehmaedifbnnhaa", sum := "43470dc3b7b37c0959b3941e346d8757b05afd59e066257c4e9eecdd0c479a61", func := "loop.example/g01131/laws.FnRuin", spec := "fnRuin", unfollowed := true, recurses := true, apart := false, narrowed := true }
def FnRuinUptoSaid : Prop := fnRuinUptoRow.holds Try.pinned (OpenSpec.upto fnRuinSpec)

/-- 'laws.FnExactRowHolding', WHERE WHAT IT READS IS OF BULK AT MOST 1048576: true; the input reads as it did. -/
def fnExactRowHoldingUptoRow : OpenClaim := { program := "ytehmaedifbnnhaa", sum := "43470dc3b7b37c0959b3941e346d8757b05afd59e066257c4e9eecdd0c479a61", func := "loop.example/g01131/laws.FnExactRowHolding", spec := "fnExactRowHolding", recurses := true, apart := false, narrowed := true }
def FnExactRowHoldingUptoSaid : Prop := fnExactRowHoldingUptoRow.holds Try.pinned (OpenSpec.upto fnExactRowHoldingSpec)

/-- 'laws.FnExactRowValue', WHERE WHAT IT READS IS OF BULK AT MOST 1048576: true; the input reads as it did. -/
def fnExactRowValueUptoRow : OpenClaim := { program := "ytehmaedifbnnhaa", sum := "43470dc3b7b37c0959b3941e346d8757b05afd59e066257c4e9eecdd0c479a61", func := "loop.example/g01131/laws.FnExactRowValue", spec := "fnExactRowValue", recurses := true, apart := false, narrowed := true }
def FnExactRowValueUptoSaid : Prop := fnExactRowValueUptoRow.holds Try.pinned (OpenSpec.upto fnExactRowValueSpec)

/-- 'laws.FnExactRowMarket', WHERE WHAT IT READS IS OF BULK AT MOST 1048576: true; the input reads as it did. -/
def fnExactRowMarketUptoRow : OpenClaim := { program := "ytehmaedifbnnhaa", sum := "43470dc3b7b37c0959b3941e346d8757b05afd59e066257c4e9eecdd0c479a61", func := "loop.example/g01131/laws.FnExactRowMarket", spec := "fnExactRowMarket", apart := false, narrowed := true }
def FnExactRowMarketUptoSaid : Prop := fnExactRowMarketUptoRow.holds Try.pinned (OpenSpec.upto fnExactRowMarketSpec)

/-- 'laws.FnExactRowEarly', WHERE WHAT IT READS IS OF BULK AT MOST 1048576: true; the input reads as it did. -/
def fnExactRowEarlyUptoRow : OpenClaim := { program := "ytehmaedifbnnhaa", sum := "43470dc3b7b37c0959b3941e346d8757b05afd59e066257c4e9eecdd0c479a61", func := "loop.example/g01131/laws.FnExactRowEarly", spec := "fnExactRowEarly", apart := false, narrowed := true }
def FnExactRowEarlyUptoSaid : Prop := fnExactRowEarlyUptoRow.holds Try.pinned (OpenSpec.upto fnExactRowEarlySpec)

end Rows
end Go.Proofs.Ytehmaedifbnnhaa
