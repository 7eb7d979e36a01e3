/-
  No cell of these rows narrows 'for every input' (looked for: loops, veiled, ifaces, maps, wideKeys, modest, calm, conditions, laid).
  DERIVED. THE GIVEN ROWS OF THIS SEAT. 3 by the template 'for every input the law returns true; each argument reads behind the call as it read before'; 0 by the template 'total and deterministic' (their statements: YtnbomleieianoaaGreatTotals.lean).
  GIVEN WITH THE SEED: the statements are not yours to turn. If you find one false, say at which input.
  Laid BY PROGRAM, IN A SANDBOX (cutbox-rows.mjs): the forced cells as the released guide's own fill.sh prints them over the translation f8b367035046ffa6… (all of the seat's roots in one cut). By AI agents, Wed Nov 11 2026. No macro, syntax, notation, axiom, sorry.
-/
import Derived.Test.YtnbomleieianoaaGreatChecked
import GoSem.Claim
import GoSem.ClaimJoined
import GoSem.ClaimMapViews
import Derived.JoinedTies
import Derived.KernelRfl
namespace Go.Proofs.YtnbomleieianoaaGreat
/- THE CELL 'sum', in the pinned program and in every row, IS THE sha256 OF THE DUMP (.gsa) THAT YtnbomleieianoaaGreatProg.lean LOADS. Nothing in Lean hashes anything: it is a label: what it is worth is what the hold of that sum in a sandbox is worth. -/
noncomputable def Tryz.pinned : Pinned := { name := "ytnbomleieianoaagreat", sum := "f8b367035046ffa6031d9109c339ce4699aa85ee448f01c41cd82f079f1fad97", checked := Tryz.checked }
namespace Rows
def none {H : Type} : Left H := { results := [], args := [] }

/-- 'laws.FnStoppedMeans': WHATEVER THE INPUT: true; the input reads as it did. -/
def fnStoppedMeansSpec : ChangeSpec := { name := "fnStoppedMeans", fn := fun _ => fun
  | [d] => { results := [.lit (.bool true)], args := [d] }
  | _ => none }
def fnStoppedMeansRow : OpenClaim := { program := "ytnbomleieianoaagreat", sum := "f8b367035046ffa6031d9109c339ce4699aa85ee448f01c41cd82f079f1fad97", func := "loop.example/g01131/laws.FnStoppedMeans", spec := "fnStoppedMeans", recurses := true, apart := false }
def FnStoppedMeansSaid : Prop := fnStoppedMeansRow.holds Tryz.pinned (OpenSpec.ofChange fnStoppedMeansSpec)

/-- ITS FALSE NEIGHBOUR: 'it returns false'. Refute it at one input. -/
def fnStoppedMeansWrong : ChangeSpec := { name := "fnStoppedMeans", fn := fun _ => fun
  | [d] => { results := [.lit (.bool false)], args := [d] }
  | _ => none }
def FnStoppedMeansWrongFalsely : Prop := fnStoppedMeansRow.holds Tryz.pinned (OpenSpec.ofChange fnStoppedMeansWrong)

/-- 'laws.FnEnvelopes': WHATEVER THE INPUT: true; the input reads as it did. -/
def fnEnvelopesSpec : ChangeSpec := { name := "fnEnvelopes", fn := fun _ => fun
  | [d] => { results := [.lit (.bool true)], args := [d] }
  | _ => none }
def fnEnvelopesRow : OpenClaim := { program := "ytnbomleieianoaagreat", sum := "f8b367035046ffa6031d9109c339ce4699aa85ee448f01c41cd82f079f1fad97", func := "loop.example/g01131/laws.FnEnvelopes", spec := "fnEnvelopes", unfollowed := true, recurses := true, apart := false }
def FnEnvelopesSaid : Prop := fnEnvelopesRow.holds Tryz.pinned (OpenSpec.ofChange fnEnvelopesSpec)

/-- ITS FALSE NEIGHBOUR: 'it returns false'. Refute it at one input. -/
def fnEnvelopesWrong : ChangeSpec := { name := "fnEnvelopes", fn := fun _ => fun
  | [d] => { results := [.lit (.bool false)], args := [d] }
  | _ => none }
def FnEnvelopesWrongFalsely : Prop := fnEnvelopesRow.holds Tryz.pinned (OpenSpec.ofChange fnEnvelopesWrong)

/-- 'laws.FnRules': WHATEVER THE INPUT: true; the input reads as it did. -/
def fnRulesSpec : ChangeSpec := { name := "fnRules", fn := fun _ => fun
  | [d] => { results := [.lit (.bool true)], args := [d] }
  | _ => none }
def fnRulesRow : OpenClaim := { program := "ytnbomleieianoaagreat", sum := "f8b367035046ffa6031d9109c339ce4699aa85ee448f01c41cd82f079f1fad97", func := "loop.example/g01131/laws.FnRules", spec := "fnRules", unfollowed := true, recurses := true, apart := false }
def FnRulesSaid : Prop := fnRulesRow.holds Tryz.pinned (OpenSpec.ofChange fnRulesSpec)

/-- ITS FALSE NEIGHBOUR: 'it returns false'. Refute it at one input. -/
def fnRulesWrong : ChangeSpec := { name := "fnRules", fn := fun _ => fun
  | [d] => { results := [.lit (.bool false)], args := [d] }
  | _ => none }
def FnRulesWrongFalsely : Prop := fnRulesRow.holds Tryz.pinned (OpenSpec.ofChange fnRulesWrong)

/- THE SECOND FORM. 'bulk': how many values and letters a reading holds, each counted each time it is reached (what is shared counts as often as it is met; a slice's spare places count too). A statement '..UptoSaid' is the law's where the arguments, and the package variables that the reading takes, are together of bulk at most 1048576: NARROWER than '..Said'. Prove '..Said' where nothing that the law and all that it calls make is longer than what came in: it says more and counts as full. Else prove '..UptoSaid'. A law counts once. -/
mutual
def uptoBulk {H : Type} : DataW H → Nat
  | .lit (.string bytes) => bytes.length + 1
  | .lit _ => 1
  | .nil => 1
  | .ptr d => uptoBulk d + 1
  | .slice elems spare => uptoBulkAll elems + uptoBulkAll spare + 1
  | .agg parts => uptoBulkAll parts + 1
  | .iface _ d => uptoBulk d + 1
  | .map entries => uptoBulkEntries entries + 1
  | .held _ => 1
def uptoBulkAll {H : Type} : List (DataW H) → Nat
  | [] => 0
  | d :: r => uptoBulk d + uptoBulkAll r
def uptoBulkEntries {H : Type} : List (Lit × DataW H) → Nat
  | [] => 0
  | x :: r => uptoBulkEntry x + uptoBulkEntries r
def uptoBulkEntry {H : Type} : Lit × DataW H → Nat
  | (.string bytes, d) => bytes.length + uptoBulk d + 1
  | (_, d) => uptoBulk d + 1
 end
def uptoSmall : (H : Type) → List (DataW H) → Bool := fun _ ds => decide (uptoBulkAll ds ≤ 1048576)
def OpenSpec.upto (s : _root_.Go.ChangeSpec) : _root_.Go.OpenSpec := { _root_.Go.OpenSpec.ofChange s with cond := some uptoSmall }

/-- 'laws.FnStoppedMeans', WHERE WHAT IT READS IS OF BULK AT MOST 1048576: true; the input reads as it did. -/
def fnStoppedMeansUptoRow : OpenClaim := { program := "ytnbomleieianoaagreat", sum := "f8b367035046ffa6031d9109c339ce4699aa85ee448f01c41cd82f079f1fad97", func := "loop.example/g01131/laws.FnStoppedMeans", spec := "fnStoppedMeans", recurses := true, apart := false, narrowed := true }
def FnStoppedMeansUptoSaid : Prop := fnStoppedMeansUptoRow.holds Tryz.pinned (OpenSpec.upto fnStoppedMeansSpec)

/-- 'laws.FnEnvelopes', WHERE WHAT IT READS IS OF BULK AT MOST 1048576: true; the input reads as it did. -/
def fnEnvelopesUptoRow : OpenClaim := { program := "ytnbomleieianoaagreat", sum := "f8b367035046ffa6031d9109c339ce4699aa85ee448f01c41cd82f079f1fad97", func := "loop.example/g01131/laws.FnEnvelopes", spec := "fnEnvelopes", unfollowed := true, recurses := true, apart := false, narrowed := true }
def FnEnvelopesUptoSaid : Prop := fnEnvelopesUptoRow.holds Tryz.pinned (OpenSpec.upto fnEnvelopesSpec)

/-- 'laws.FnRules', WHERE WHAT IT READS IS OF BULK AT MOST 1048576: true; the input reads as it did. -/
def fnRulesUptoRow : OpenClaim := { program := "ytnbomleieianoaagreat", sum := "f8b367035046ffa6031d9109c339ce4699aa85ee448f01c41cd82f079f1fad97", func := "loop.example/g01131/laws.FnRules", spec := "fnRules", unfollowed := true, recurses := true, apart := false, narrowed := true }
def FnRulesUptoSaid : Prop := fnRulesUptoRow.holds Tryz.pinned (OpenSpec.upto fnRulesSpec)

end Rows
end Go.Proofs.YtnbomleieianoaaGreat
