/-
  No cell of these rows narrows 'for every input' (looked for: loops, veiled, ifaces, maps, wideKeys, modest, calm, conditions, laid).
  DERIVED. THE GIVEN ROWS OF THIS SEAT. 5 by the template 'for every input the law returns true; each argument reads behind the call as it read before'; 0 by the template 'total and deterministic' (their statements: YtcoakeedgngogaaTotals.lean).
  GIVEN WITH THE SEED: the statements are not yours to turn. If you find one false, say at which input.
  Laid BY PROGRAM, IN A SANDBOX (cutbox-rows.mjs): the forced cells as the released guide's own fill.sh prints them over the translation 65a228eb52f27962… (all of the seat's roots in one cut). By AI agents, Wed Nov 11 2026. No macro, syntax, notation, axiom, sorry.
-/
import Derived.Test.YtcoakeedgngogaaChecked
import GoSem.Claim
import GoSem.ClaimJoined
import GoSem.ClaimMapViews
import Derived.JoinedTies
import Derived.KernelRfl
namespace Go.Proofs.Ytcoakeedgngogaa
/- THE CELL 'sum', in the pinned program and in every row, IS THE sha256 OF THE DUMP (.gsa) THAT YtcoakeedgngogaaProg.lean LOADS. Nothing in Lean hashes anything: it is a label: what it is worth is what the hold of that sum in a sandbox is worth. -/
noncomputable def Try.pinned : Pinned := { name := "ytcoakeedgngogaa", sum := "65a228eb52f27962ecc9158e6cac87363168b00106430cc4ed6b9cd0b20c2d67", checked := Try.checked }
namespace Rows
def none {H : Type} : Left H := { results := [], args := [] }

/-- 'laws.FnExactRowEarly': WHATEVER THE INPUT: true; the input reads as it did. -/
def fnExactRowEarlySpec : ChangeSpec := { name := "fnExactRowEarly", fn := fun _ => fun
  | [d1, d2, d3, d4] => { results := [.lit (.bool true)], args := [d1, d2, d3, d4] }
  | _ => none }
def fnExactRowEarlyRow : OpenClaim := { program := "ytcoakeedgngogaa", sum := "65a228eb52f27962ecc9158e6cac87363168b00106430cc4ed6b9cd0b20c2d67", func := "loop.example/g01131/laws.FnExactRowEarly", spec := "fnExactRowEarly", plainKeys := false, apart := false }
def FnExactRowEarlySaid : Prop := fnExactRowEarlyRow.holds Try.pinned (OpenSpec.ofChange fnExactRowEarlySpec)

/-- ITS FALSE NEIGHBOUR: 'it returns false'. Refute it at one input. -/
def fnExactRowEarlyWrong : ChangeSpec := { name := "fnExactRowEarly", fn := fun _ => fun
  | [d1, d2, d3, d4] => { results := [.lit (.bool false)], args := [d1, d2, d3, d4] }
  | _ => none }
def FnExactRowEarlyWrongFalsely : Prop := fnExactRowEarlyRow.holds Try.pinned (OpenSpec.ofChange fnExactRowEarlyWrong)

/-- 'laws.FnExactRowMarket': WHATEVER THE INPUT: true; the input reads as it did. -/
def fnExactRowMarketSpec : ChangeSpec := { name := "fnExactRowMarket", fn := fun _ => fun
  | [d1, d2, d3, d4] => { results := [.lit (.bool true)], args := [d1, d2, d3, d4] }
  | _ => none }
def fnExactRowMarketRow : OpenClaim := { program := "ytcoakeedgngogaa", sum := "65a228eb52f27962ecc9158e6cac87363168b00106430cc4ed6b9cd0b20c2d67", func := "loop.example/g01131/laws.FnExactRowMarket", spec := "fnExactRowMarket", plainKeys := false, apart := false }
def FnExactRowMarketSaid : Prop := fnExactRowMarketRow.holds Try.pinned (OpenSpec.ofChange fnExactRowMarketSpec)

/-- ITS FALSE NEIGHBOUR: 'it returns false'. Refute it at one input. -/
def fnExactRowMarketWrong : ChangeSpec := { name := "fnExactRowMarket", fn := fun _ => fun
  | [d1, d2, d3, d4] => { results := [.lit (.bool false)], args := [d1, d2, d3, d4] }
  | _ => none }
def FnExactRowMarketWrongFalsely : Prop := fnExactRowMarketRow.holds Try.pinned (OpenSpec.ofChange fnExactRowMarketWrong)

/-- 'laws.FnExactIsBalanced': WHATEVER THE INPUT: true; the input reads as it did. -/
def fnExactIsBalancedSpec : ChangeSpec := { name := "fnExactIsBalanced", fn := fun _ => fun
  | [d1, d2] => { results := [.lit (.bool true)], args := [d1, d2] }
  | _ => none }
def fnExactIsBalancedRow : OpenClaim := { program := "ytcoakeedgngogaa", sum := "65a228eb52f27962ecc9158e6cac87363168b00106430cc4ed6b9cd0b20c2d67", func := "loop.example/g01131/laws.FnExactIsBalanced", spec := "fnExactIsBalanced", plainKeys := false, apart := false }
def FnExactIsBalancedSaid : Prop := fnExactIsBalancedRow.holds Try.pinned (OpenSpec.ofChange fnExactIsBalancedSpec)

/-- ITS FALSE NEIGHBOUR: 'it returns false'. Refute it at one input. -/
def fnExactIsBalancedWrong : ChangeSpec := { name := "fnExactIsBalanced", fn := fun _ => fun
  | [d1, d2] => { results := [.lit (.bool false)], args := [d1, d2] }
  | _ => none }
def FnExactIsBalancedWrongFalsely : Prop := fnExactIsBalancedRow.holds Try.pinned (OpenSpec.ofChange fnExactIsBalancedWrong)

/-- 'laws.FnExactLeadCounts': WHATEVER THE INPUT: true; the input reads as it did. -/
def fnExactLeadCountsSpec : ChangeSpec := { name := "fnExactLeadCounts", fn := fun _ => fun
  | [d] => { results := [.lit (.bool true)], args := [d] }
  | _ => none }
def fnExactLeadCountsRow : OpenClaim := { program := "ytcoakeedgngogaa", sum := "65a228eb52f27962ecc9158e6cac87363168b00106430cc4ed6b9cd0b20c2d67", func := "loop.example/g01131/laws.FnExactLeadCounts", spec := "fnExactLeadCounts", unfollowed := true, recurses := true, plainKeys := false, apart := false }
def FnExactLeadCountsSaid : Prop := fnExactLeadCountsRow.holds Try.pinned (OpenSpec.ofChange fnExactLeadCountsSpec)

/-- ITS FALSE NEIGHBOUR: 'it returns false'. Refute it at one input. -/
def fnExactLeadCountsWrong : ChangeSpec := { name := "fnExactLeadCounts", fn := fun _ => fun
  | [d] => { results := [.lit (.bool false)], args := [d] }
  | _ => none }
def FnExactLeadCountsWrongFalsely : Prop := fnExactLeadCountsRow.holds Try.pinned (OpenSpec.ofChange fnExactLeadCountsWrong)

/-- 'laws.FnExactReturnCounts': WHATEVER THE INPUT: true; the input reads as it did. -/
def fnExactReturnCountsSpec : ChangeSpec := { name := "fnExactReturnCounts", fn := fun _ => fun
  | [d] => { results := [.lit (.bool true)], args := [d] }
  | _ => none }
def fnExactReturnCountsRow : OpenClaim := { program := "ytcoakeedgngogaa", sum := "65a228eb52f27962ecc9158e6cac87363168b00106430cc4ed6b9cd0b20c2d67", func := "loop.example/g01131/laws.FnExactReturnCounts", spec := "fnExactReturnCounts", unfollowed := true, recurses := true, plainKeys := false, apart := false }
def FnExactReturnCountsSaid : Prop := fnExactReturnCountsRow.holds Try.pinned (OpenSpec.ofChange fnExactReturnCountsSpec)

/-- ITS FALSE NEIGHBOUR: 'it returns false'. Refute it at one input. -/
def fnExactReturnCountsWrong : ChangeSpec := { name := "fnExactReturnCounts", fn := fun _ => fun
  | [d] => { results := [.lit (.bool false)], args := [d] }
  | _ => none }
def FnExactReturnCountsWrongFalsely : Prop := fnExactReturnCountsRow.holds Try.pinned (OpenSpec.ofChange fnExactReturnCountsWrong)

/- THE SECOND FORM. 'bulk': how many values and letters a reading holds, each counted each time it is reached (what is shared counts as often as it is met; a slice's spare places count too). A statement '..UptoSaid' is the law's where the arguments, and the package variables that the reading takes, are together of bulk at most 1048576: NARROWER than '..Said'. Prove '..Said' where nothing that the law and all that it calls make is longer than what came in: it says more and counts as full. Else prove '..UptoSaid'. A law counts once. -/
mutual
def uptoBulk {H : Type} : DataW H → Nat
  | .lit (.string bytes) => bytes.length + 1
  | .lit _ => 1
  | .nil => 1
  | .ptr d => uptoBulk d + 1
  | .slice elems spare => uptoBulkAll elems + uptoBulkAll spare + 1
  | .agg parts => uptoBulkAll parts + 1
  | .iface _ d => uptoBulk d + 1
  | .map entries => uptoBulkEntries entries + 1
  | .held _ => 1
def uptoBulkAll {H : Type} : List (DataW H) → Nat
  | [] => 0
  | d :: r => uptoBulk d + uptoBulkAll r
def uptoBulkEntries {H : Type} : List (Lit × DataW H) → Nat
  | [] => 0
  | x :: r => uptoBulkEntry x + uptoBulkEntries r
def uptoBulkEntry {H : Type} : Lit × DataW H → Nat
  | (.string bytes, d) => bytes.length + uptoBulk d + 1
  | (_, d) => uptoBulk d + 1
 end
def uptoSmall : (H : Type) → List (DataW H) → Bool := fun _ ds => decide (uptoBulkAll ds ≤ 1048576)
def OpenSpec.upto (s : _root_.Go.ChangeSpec) : _root_.Go.OpenSpec := { _root_.Go.OpenSpec.ofChange s with cond := some uptoSmall }

/-- 'laws.FnExactRowEarly', WHERE WHAT IT READS IS OF BULK AT MOST 1048576: true; the input reads as it did. -/
def fnExactRowEarlyUptoRow : OpenClaim := { program := "ytcoakeedgngogaa", sum := "65a228eb52f27962ecc9158e6cac87363168b00106430cc4ed6b9cd0b20c2d67", func := "loop.example/g01131/laws.FnExactRowEarly", spec := "fnExactRowEarly", plainKeys := false, apart := false, narrowed := true }
def FnExactRowEarlyUptoSaid : Prop := fnExactRowEarlyUptoRow.holds Try.pinned (OpenSpec.upto fnExactRowEarlySpec)

/-- 'laws.FnExactRowMarket', WHERE WHAT IT READS IS OF BULK AT MOST 1048576: true; the input reads as it did. -/
def fnExactRowMarketUptoRow : OpenClaim := { program := "ytcoakeedgngogaa", sum := "65a228eb52f27962ecc9158e6cac87363168b00106430cc4ed6b9cd0b20c2d67", func := "loop.example/g01131/laws.FnExactRowMarket", spec := "fnExactRowMarket", plainKeys := false, apart := false, narrowed := true }
def FnExactRowMarketUptoSaid : Prop := fnExactRowMarketUptoRow.holds Try.pinned (OpenSpec.upto fnExactRowMarketSpec)

/-- 'laws.FnExactIsBalanced', WHERE WHAT IT READS IS OF BULK AT MOST 1048576: true; the input reads as it did. -/
def fnExactIsBalancedUptoRow : OpenClaim := { program := "ytcoakeedgngogaa", sum := "65a228eb52f27962ecc9158e6cac87363168b00106430cc4ed6b9cd0b20c2d67", func := "loop.example/g01131/laws.FnExactIsBalanced", spec := "fnExactIsBalanced", plainKeys := false, apart := false, narrowed := true }
def FnExactIsBalancedUptoSaid : Prop := fnExactIsBalancedUptoRow.holds Try.pinned (OpenSpec.upto fnExactIsBalancedSpec)

/-- 'laws.FnExactLeadCounts', WHERE WHAT IT READS IS OF BULK AT MOST 1048576: true; the input reads as it did. -/
def fnExactLeadCountsUptoRow : OpenClaim := { program := "ytcoakeedgngogaa", sum := "65a228eb52f27962ecc9158e6cac87363168b00106430cc4ed6b9cd0b20c2d67", func := "loop.example/g01131/laws.FnExactLeadCounts", spec := "fnExactLeadCounts", unfollowed := true, recurses := true, plainKeys := false, apart := false, narrowed := true }
def FnExactLeadCountsUptoSaid : Prop := fnExactLeadCountsUptoRow.holds Try.pinned (OpenSpec.upto fnExactLeadCountsSpec)

/-- 'laws.FnExactReturnCounts', WHERE WHAT IT READS IS OF BULK AT MOST 1048576: true; the input reads as it did. -/
def fnExactReturnCountsUptoRow : OpenClaim := { program := "ytcoakeedgngogaa", sum := "65a228eb52f27962ecc9158e6cac87363168b00106430cc4ed6b9cd0b20c2d67", func := "loop.example/g01131/laws.FnExactReturnCounts", spec := "fnExactReturnCounts", unfollowed := true, recurses := true, plainKeys := false, apart := false, narrowed := true }
def FnExactReturnCountsUptoSaid : Prop := fnExactReturnCountsUptoRow.holds Try.pinned (OpenSpec.upto fnExactReturnCountsSpec)

end Rows
end Go.Proofs.Ytcoakeedgngogaa
