/-
  No cell of these rows narrows 'for every input' (looked for: loops, veiled, ifaces, maps, wideKeys, modest, calm, conditions, laid).
  DERIVED. THE GIVEN ROWS OF THIS SEAT. 7 by the template 'for every input the law returns true; each argument reads behind the call as it read before'; 0 by the template 'total and deterministic' (their statements: YtnbomleieianoaaTotals.lean).
  GIVEN WITH THE SEED: the statements are not yours to turn. If you find one false, say at which input.
  Laid BY PROGRAM, IN A SANDBOX (cutbox-rows.mjs): the forced cells as the released guide's own fill.sh prints them over the translation 1ebf078b4b5775ad… (all of the seat's roots in one cut). By AI agents, Wed Nov 11 2026. No macro, syntax, notation, axiom, sorry.
-/
import Derived.Test.YtnbomleieianoaaChecked
import GoSem.Claim
import GoSem.ClaimJoined
import GoSem.ClaimMapViews
import Derived.JoinedTies
import Derived.KernelRfl
namespace Go.Proofs.Ytnbomleieianoaa
/- THE CELL 'sum', in the pinned program and in every row, IS THE sha256 OF THE DUMP (.gsa) THAT YtnbomleieianoaaProg.lean LOADS. Nothing in Lean hashes anything: it is a label: what it is worth is what the hold of that sum in a sandbox is worth. -/
noncomputable def Try.pinned : Pinned := { name := "ytnbomleieianoaa", sum := "1ebf078b4b5775addc2554512abecf2b49375cea5434078d9d0180c63b25aab4", checked := Try.checked }
namespace Rows
def none {H : Type} : Left H := { results := [], args := [] }

/-- 'laws.FnEntries': WHATEVER THE INPUT: true; the input reads as it did. -/
def fnEntriesSpec : ChangeSpec := { name := "fnEntries", fn := fun _ => fun
  | [d] => { results := [.lit (.bool true)], args := [d] }
  | _ => none }
def fnEntriesRow : OpenClaim := { program := "ytnbomleieianoaa", sum := "1ebf078b4b5775addc2554512abecf2b49375cea5434078d9d0180c63b25aab4", func := "loop.example/g01131/laws.FnEntries", spec := "fnEntries", apart := false }
def FnEntriesSaid : Prop := fnEntriesRow.holds Try.pinned (OpenSpec.ofChange fnEntriesSpec)

/-- ITS FALSE NEIGHBOUR: 'it returns false'. Refute it at one input. -/
def fnEntriesWrong : ChangeSpec := { name := "fnEntries", fn := fun _ => fun
  | [d] => { results := [.lit (.bool false)], args := [d] }
  | _ => none }
def FnEntriesWrongFalsely : Prop := fnEntriesRow.holds Try.pinned (OpenSpec.ofChange fnEntriesWrong)

/-- 'laws.FnDoob': WHATEVER THE INPUT: true; the input reads as it did. -/
def fnDoobSpec : ChangeSpec := { name := "fnDoob", fn := fun _ => fun
  | [d] => { results := [.lit (.bool true)], args := [d] }
  | _ => none }
def fnDoobRow : OpenClaim := { program := "ytnbomleieianoaa", sum := "1ebf078b4b5775addc2554512abecf2b49375cea5434078d9d0180c63b25aab4", func := "loop.example/g01131/laws.FnDoob", spec := "fnDoob", apart := false }
def FnDoobSaid : Prop := fnDoobRow.holds Try.pinned (OpenSpec.ofChange fnDoobSpec)

/-- ITS FALSE NEIGHBOUR: 'it returns false'. Refute it at one input. -/
def fnDoobWrong : ChangeSpec := { name := "fnDoob", fn := fun _ => fun
  | [d] => { results := [.lit (.bool false)], args := [d] }
  | _ => none }
def FnDoobWrongFalsely : Prop := fnDoobRow.holds Try.pinned (OpenSpec.ofChange fnDoobWrong)

/-- 'laws.FnDrifts': WHATEVER THE INPUT: true; the input reads as it did. -/
def fnDriftsSpec : ChangeSpec := { name := "fnDrifts", fn := fun _ => fun
  | [d] => { results := [.lit (.bool true)], args := [d] }
  | _ => none }
def fnDriftsRow : OpenClaim := { program := "ytnbomleieianoaa", sum := "1ebf078b4b5775addc2554512abecf2b49375cea5434078d9d0180c63b25aab4", func := "loop.example/g01131/laws.FnDrifts", spec := "fnDrifts", apart := false }
def FnDriftsSaid : Prop := fnDriftsRow.holds Try.pinned (OpenSpec.ofChange fnDriftsSpec)

/-- ITS FALSE NEIGHBOUR: 'it returns false'. Refute it at one input. -/
def fnDriftsWrong : ChangeSpec := { name := "fnDrifts", fn := fun _ => fun
  | [d] => { results := [.lit (.bool false)], args := [d] }
  | _ => none }
def FnDriftsWrongFalsely : Prop := fnDriftsRow.holds Try.pinned (OpenSpec.ofChange fnDriftsWrong)

/-- 'laws.FnBounds': WHATEVER THE INPUT: true; the input reads as it did. -/
def fnBoundsSpec : ChangeSpec := { name := "fnBounds", fn := fun _ => fun
  | [d] => { results := [.lit (.bool true)], args := [d] }
  | _ => none }
def fnBoundsRow : OpenClaim := { program := "ytnbomleieianoaa", sum := "1ebf078b4b5775addc2554512abecf2b49375cea5434078d9d0180c63b25aab4", func := "loop.example/g01131/laws.FnBounds", spec := "fnBounds", apart := false }
def FnBoundsSaid : Prop := fnBoundsRow.holds Try.pinned (OpenSpec.ofChange fnBoundsSpec)

/-- ITS FALSE NEIGHBOUR: 'it returns false'. Refute it at one input. -/
def fnBoundsWrong : ChangeSpec := { name := "fnBounds", fn := fun _ => fun
  | [d] => { results := [.lit (.bool false)], args := [d] }
  | _ => none }
def FnBoundsWrongFalsely : Prop := fnBoundsRow.holds Try.pinned (OpenSpec.ofChange fnBoundsWrong)

/-- 'laws.FnStakes': WHATEVER THE INPUT: true; the input reads as it did. -/
def fnStakesSpec : ChangeSpec := { name := "fnStakes", fn := fun _ => fun
  | [d] => { results := [.lit (.bool true)], args := [d] }
  | _ => none }
def fnStakesRow : OpenClaim := { program := "ytnbomleieianoaa", sum := "1ebf078b4b5775addc2554512abecf2b49375cea5434078d9d0180c63b25aab4", func := "loop.example/g01131/laws.FnStakes", spec := "fnStakes", apart := false }
def FnStakesSaid : Prop := fnStakesRow.holds Try.pinned (OpenSpec.ofChange fnStakesSpec)

/-- ITS FALSE NEIGHBOUR: 'it returns false'. Refute it at one input. -/
def fnStakesWrong : ChangeSpec := { name := "fnStakes", fn := fun _ => fun
  | [d] => { results := [.lit (.bool false)], args := [d] }
  | _ => none }
def FnStakesWrongFalsely : Prop := fnStakesRow.holds Try.pinned (OpenSpec.ofChange fnStakesWrong)

/-- 'laws.FnExactEarlierStop': WHATEVER THE INPUT: true; the input reads as it did. -/
def fnExactEarlierStopSpec : ChangeSpec := { name := "fnExactEarlierStop", fn := fun _ => fun
  | [d1, d2, d3] => { results := [.lit (.bool true)], args := [d1, d2, d3] }
  | _ => none }
def fnExactEarlierStopRow : OpenClaim := { program := "ytnbomleieianoaa", sum := "1ebf078b4b5775addc2554512abecf2b49375cea5434078d9d0180c63b25aab4", func := "loop.example/g01131/laws.FnExactEarlierStop", spec := "fnExactEarlierStop", recurses := true, apart := false }
def FnExactEarlierStopSaid : Prop := fnExactEarlierStopRow.holds Try.pinned (OpenSpec.ofChange fnExactEarlierStopSpec)

/-- ITS FALSE NEIGHBOUR: 'it returns false'. Refute it at one input. -/
def fnExactEarlierStopWrong : ChangeSpec := { name := "fnExactEarlierStop", fn := fun _ => fun
  | [d1, d2, d3] => { results := [.lit (.bool false)], args := [d1, d2, d3] }
  | _ => none }
def FnExactEarlierStopWrongFalsely : Prop := fnExactEarlierStopRow.holds Try.pinned (OpenSpec.ofChange fnExactEarlierStopWrong)

/-- 'laws.FnExactLaterStop': WHATEVER THE INPUT: true; the input reads as it did. -/
def fnExactLaterStopSpec : ChangeSpec := { name := "fnExactLaterStop", fn := fun _ => fun
  | [d1, d2, d3] => { results := [.lit (.bool true)], args := [d1, d2, d3] }
  | _ => none }
def fnExactLaterStopRow : OpenClaim := { program := "ytnbomleieianoaa", sum := "1ebf078b4b5775addc2554512abecf2b49375cea5434078d9d0180c63b25aab4", func := "loop.example/g01131/laws.FnExactLaterStop", spec := "fnExactLaterStop", recurses := true, apart := false }
def FnExactLaterStopSaid : Prop := fnExactLaterStopRow.holds Try.pinned (OpenSpec.ofChange fnExactLaterStopSpec)

/-- ITS FALSE NEIGHBOUR: 'it returns false'. Refute it at one input. -/
def fnExactLaterStopWrong : ChangeSpec := { name := "fnExactLaterStop", fn := fun _ => fun
  | [d1, d2, d3] => { results := [.lit (.bool false)], args := [d1, d2, d3] }
  | _ => none }
def FnExactLaterStopWrongFalsely : Prop := fnExactLaterStopRow.holds Try.pinned (OpenSpec.ofChange fnExactLaterStopWrong)

/- THE SECOND FORM. 'bulk': how many values and letters a reading holds, each counted each time it is reached (what is shared counts as often as it is met; a slice's spare places count too). A statement '..UptoSaid' is the law's where the arguments, and the package variables that the reading takes, are together of bulk at most 1048576: NARROWER than '..Said'. Prove '..Said' where nothing that the law and all that it calls make is longer than what came in: it says more and counts as full. Else prove '..UptoSaid'. A law counts once. -/
mutual
def uptoBulk {H : Type} : DataW H → Nat
  | .lit (.string bytes) => bytes.length + 1
  | .lit _ => 1
  | .nil => 1
  | .ptr d => uptoBulk d + 1
  | .slice elems spare => uptoBulkAll elems + uptoBulkAll spare + 1
  | .agg parts => uptoBulkAll parts + 1
  | .iface _ d => uptoBulk d + 1
  | .map entries => uptoBulkEntries entries + 1
  | .held _ => 1
def uptoBulkAll {H : Type} : List (DataW H) → Nat
  | [] => 0
  | d :: r => uptoBulk d + uptoBulkAll r
def uptoBulkEntries {H : Type} : List (Lit × DataW H) → Nat
  | [] => 0
  | x :: r => uptoBulkEntry x + uptoBulkEntries r
def uptoBulkEntry {H : Type} : Lit × DataW H → Nat
  | (.string bytes, d) => bytes.length + uptoBulk d + 1
  | (_, d) => uptoBulk d + 1
 end
def uptoSmall : (H : Type) → List (DataW H) → Bool := fun _ ds => decide (uptoBulkAll ds ≤ 1048576)
def OpenSpec.upto (s : _root_.Go.ChangeSpec) : _root_.Go.OpenSpec := { _root_.Go.OpenSpec.ofChange s with cond := some uptoSmall }

/-- 'laws.FnEntries', WHERE WHAT IT READS IS OF BULK AT MOST 1048576: true; the input reads as it did. -/
def fnEntriesUptoRow : OpenClaim := { program := "ytnbomleieianoaa", sum := "1ebf078b4b5775addc2554512abecf2b49375cea5434078d9d0180c63b25aab4", func := "loop.example/g01131/laws.FnEntries", spec := "fnEntries", apart := false, narrowed := true }
def FnEntriesUptoSaid : Prop := fnEntriesUptoRow.holds Try.pinned (OpenSpec.upto fnEntriesSpec)

/-- 'laws.FnDoob', WHERE WHAT IT READS IS OF BULK AT MOST 1048576: true; the input reads as it did. -/
def fnDoobUptoRow : OpenClaim := { program := "ytnbomleieianoaa", sum := "1ebf078b4b5775addc2554512abecf2b49375cea5434078d9d0180c63b25aab4", func := "loop.example/g01131/laws.FnDoob", spec := "fnDoob", apart := false, narrowed := true }
def FnDoobUptoSaid : Prop := fnDoobUptoRow.holds Try.pinned (OpenSpec.upto fnDoobSpec)

/-- 'laws.FnDrifts', WHERE WHAT IT READS IS OF BULK AT MOST 1048576: true; the input reads as it did. -/
def fnDriftsUptoRow : OpenClaim := { program := "ytnbomleieianoaa", sum := "1ebf078b4b5775addc2554512abecf2b49375cea5434078d9d0180c63b25aab4", func := "loop.example/g01131/laws.FnDrifts", spec := "fnDrifts", apart := false, narrowed := true }
def FnDriftsUptoSaid : Prop := fnDriftsUptoRow.holds Try.pinned (OpenSpec.upto fnDriftsSpec)

/-- 'laws.FnBounds', WHERE WHAT IT READS IS OF BULK AT MOST 1048576: true; the input reads as it did. -/
def fnBoundsUptoRow : OpenClaim := { program := "ytnbomleieianoaa", sum := "1ebf078b4b5775addc2554512abecf2b49375cea5434078d9d0180c63b25aab4", func := "loop.example/g01131/laws.FnBounds", spec := "fnBounds", apart := false, narrowed := true }
def FnBoundsUptoSaid : Prop := fnBoundsUptoRow.holds Try.pinned (OpenSpec.upto fnBoundsSpec)

/-- 'laws.FnStakes', WHERE WHAT IT READS IS OF BULK AT MOST 1048576: true; the input reads as it did. -/
def fnStakesUptoRow : OpenClaim := { program := "ytnbomleieianoaa", sum := "1ebf078b4b5775addc2554512abecf2b49375cea5434078d9d0180c63b25aab4", func := "loop.example/g01131/laws.FnStakes", spec := "fnStakes", apart := false, narrowed := true }
def FnStakesUptoSaid : Prop := fnStakesUptoRow.holds Try.pinned (OpenSpec.upto fnStakesSpec)

/-- 'laws.FnExactEarlierStop', WHERE WHAT IT READS IS OF BULK AT MOST 1048576: true; the input reads as it did. -/
def fnExactEarlierStopUptoRow : OpenClaim := { program := "ytnbomleieianoaa", sum := "1ebf078b4b5775addc2554512abecf2b49375cea5434078d9d0180c63b25aab4", func := "loop.example/g01131/laws.FnExactEarlierStop", spec := "fnExactEarlierStop", recurses := true, apart := false, narrowed := true }
def FnExactEarlierStopUptoSaid : Prop := fnExactEarlierStopUptoRow.holds Try.pinned (OpenSpec.upto fnExactEarlierStopSpec)

/-- 'laws.FnExactLaterStop', WHERE WHAT IT READS IS OF BULK AT MOST 1048576: true; the input reads as it did. -/
def fnExactLaterStopUptoRow : OpenClaim := { program := "ytnbomleieianoaa", sum := "1ebf078b4b5775addc2554512abecf2b49375cea5434078d9d0180c63b25aab4", func := "loop.example/g01131/laws.FnExactLaterStop", spec := "fnExactLaterStop", recurses := true, apart := false, narrowed := true }
def FnExactLaterStopUptoSaid : Prop := fnExactLaterStopUptoRow.holds Try.pinned (OpenSpec.upto fnExactLaterStopSpec)

end Rows
end Go.Proofs.Ytnbomleieianoaa
