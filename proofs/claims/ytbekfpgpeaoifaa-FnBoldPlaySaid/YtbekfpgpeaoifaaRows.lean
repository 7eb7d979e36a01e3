/-
  No cell of these rows narrows 'for every input' (looked for: loops, veiled, ifaces, maps, wideKeys, modest, calm, conditions, laid).
  DERIVED. THE GIVEN ROWS OF THIS SEAT. 4 by the template 'for every input the law returns true; each argument reads behind the call as it read before'; 0 by the template 'total and deterministic' (their statements: YtbekfpgpeaoifaaTotals.lean).
  GIVEN WITH THE SEED: the statements are not yours to turn. If you find one false, say at which input.
  Laid BY PROGRAM, IN A SANDBOX (cutbox-rows.mjs): the forced cells as the released guide's own fill.sh prints them over the translation 2a21d595a244ce5f… (all of the seat's roots in one cut). By AI agents, Wed Nov 11 2026. No macro, syntax, notation, axiom, sorry.
-/
import Derived.Test.YtbekfpgpeaoifaaChecked
import GoSem.Claim
import GoSem.ClaimJoined
import GoSem.ClaimMapViews
import Derived.JoinedTies
import Derived.KernelRfl
namespace Go.Proofs.Ytbekfpgpeaoifaa
/- THE CELL 'sum', in the pinned program and in every row, IS THE sha256 OF THE DUMP (.gsa) THAT YtbekfpgpeaoifaaProg.lean LOADS. Nothing in Lean hashes anything: it is a label: what it is worth is what the hold of that sum in a sandbox is worth. -/
noncomputable def Try.pinned : Pinned := { name := "ytbekfpgpeaoifaa", sum := "2a21d595a244ce5fb09a4295d119b218802b173f841ec143a13470925c814b48", checked := Try.checked }
namespace Rows
def none {H : Type} : Left H := { results := [], args := [] }

/-- 'laws.FnBoldPlay': WHATEVER THE INPUT: true; the input reads as it did. -/
def fnBoldPlaySpec : ChangeSpec := { name := "fnBoldPlay", fn := fun _ => fun
  | [d] => { results := [.lit (.bool true)], args := [d] }
  | _ => none }
def fnBoldPlayRow : OpenClaim := { program := "ytbekfpgpeaoifaa", sum := "2a21d595a244ce5fb09a4295d119b218802b173f841ec143a13470925c814b48", func := "loop.example/g01131/laws.FnBoldPlay", spec := "fnBoldPlay", unfollowed := true, recurses := true, plainKeys := false, apart := false }
def FnBoldPlaySaid : Prop := fnBoldPlayRow.holds Try.pinned (OpenSpec.ofChange fnBoldPlaySpec)

/-- ITS FALSE NEIGHBOUR: 'it returns false'. Refute it at one input. -/
def fnBoldPlayWrong : ChangeSpec := { name := "fnBoldPlay", fn := fun _ => fun
  | [d] => { results := [.lit (.bool false)], args := [d] }
  | _ => none }
def FnBoldPlayWrongFalsely : Prop := fnBoldPlayRow.holds Try.pinned (OpenSpec.ofChange fnBoldPlayWrong)

/-- 'laws.FnPaths': WHATEVER THE INPUT: true; the input reads as it did. -/
def fnPathsSpec : ChangeSpec := { name := "fnPaths", fn := fun _ => fun
  | [d] => { results := [.lit (.bool true)], args := [d] }
  | _ => none }
def fnPathsRow : OpenClaim := { program := "ytbekfpgpeaoifaa", sum := "2a21d595a244ce5fb09a4295d119b218802b173f841ec143a13470925c814b48", func := "loop.example/g01131/laws.FnPaths", spec := "fnPaths", unfollowed := true, recurses := true, plainKeys := false, apart := false }
def FnPathsSaid : Prop := fnPathsRow.holds Try.pinned (OpenSpec.ofChange fnPathsSpec)

/-- ITS FALSE NEIGHBOUR: 'it returns false'. Refute it at one input. -/
def fnPathsWrong : ChangeSpec := { name := "fnPaths", fn := fun _ => fun
  | [d] => { results := [.lit (.bool false)], args := [d] }
  | _ => none }
def FnPathsWrongFalsely : Prop := fnPathsRow.holds Try.pinned (OpenSpec.ofChange fnPathsWrong)

/-- 'laws.FnReturns': WHATEVER THE INPUT: true; the input reads as it did. -/
def fnReturnsSpec : ChangeSpec := { name := "fnReturns", fn := fun _ => fun
  | [d] => { results := [.lit (.bool true)], args := [d] }
  | _ => none }
def fnReturnsRow : OpenClaim := { program := "ytbekfpgpeaoifaa", sum := "2a21d595a244ce5fb09a4295d119b218802b173f841ec143a13470925c814b48", func := "loop.example/g01131/laws.FnReturns", spec := "fnReturns", unfollowed := true, recurses := true, plainKeys := false, apart := false }
def FnReturnsSaid : Prop := fnReturnsRow.holds Try.pinned (OpenSpec.ofChange fnReturnsSpec)

/-- ITS FALSE NEIGHBOUR: 'it returns false'. Refute it at one input. -/
def fnReturnsWrong : ChangeSpec := { name := "fnReturns", fn := fun _ => fun
  | [d] => { results := [.lit (.bool false)], args := [d] }
  | _ => none }
def FnReturnsWrongFalsely : Prop := fnReturnsRow.holds Try.pinned (OpenSpec.ofChange fnReturnsWrong)

/-- 'laws.FnRuin': WHATEVER THE INPUT: true; the input reads as it did. -/
def fnRuinSpec : ChangeSpec := { name := "fnRuin", fn := fun _ => fun
  | [d] => { results := [.lit (.bool true)], args := [d] }
  | _ => none }
def fnRuinRow : OpenClaim := { program := "ytbekfpgpeaoifaa", sum := "2a21d595a244ce5fb09a4295d119b218802b173f841ec143a13470925c814b48", func := "loop.example/g01131/laws.FnRuin", spec := "fnRuin", unfollowed := true, recurses := true, plainKeys := false, apart := false }
def FnRuinSaid : Prop := fnRuinRow.holds Try.pinned (OpenSpec.ofChange fnRuinSpec)

/-- ITS FALSE NEIGHBOUR: 'it returns false'. Refute it at one input. -/
def fnRuinWrong : ChangeSpec := { name := "fnRuin", fn := fun _ => fun
  | [d] => { results := [.lit (.bool false)], args := [d] }
  | _ => none }
def FnRuinWrongFalsely : Prop := fnRuinRow.holds Try.pinned (OpenSpec.ofChange fnRuinWrong)

/- THE SECOND FORM. 'bulk': how many values and letters a reading holds, each counted each time it is reached (what is shared counts as often as it is met; a slice's spare places count too). A statement '..UptoSaid' is the law's where the arguments, and the package variables that the reading takes, are together of bulk at most 1048576: NARROWER than '..Said'. Prove '..Said' where nothing that the law and all that it calls make is longer than what came in: it says more and counts as full. Else prove '..UptoSaid'. A law counts once. -/
mutual
def uptoBulk {H : Type} : DataW H → Nat
  | .lit (.string bytes) => bytes.length + 1
  | .lit _ => 1
  | .nil => 1
  | .ptr d => uptoBulk d + 1
  | .slice elems spare => uptoBulkAll elems + uptoBulkAll spare + 1
  | .agg parts => uptoBulkAll parts + 1
  | .iface _ d => uptoBulk d + 1
  | .map entries => uptoBulkEntries entries + 1
  | .held _ => 1
def uptoBulkAll {H : Type} : List (DataW H) → Nat
  | [] => 0
  | d :: r => uptoBulk d + uptoBulkAll r
def uptoBulkEntries {H : Type} : List (Lit × DataW H) → Nat
  | [] => 0
  | x :: r => uptoBulkEntry x + uptoBulkEntries r
def uptoBulkEntry {H : Type} : Lit × DataW H → Nat
  | (.string bytes, d) => bytes.length + uptoBulk d + 1
  | (_, d) => uptoBulk d + 1
 end
def uptoSmall : (H : Type) → List (DataW H) → Bool := fun _ ds => decide (uptoBulkAll ds ≤ 1048576)
def OpenSpec.upto (s : _root_.Go.ChangeSpec) : _root_.Go.OpenSpec := { _root_.Go.OpenSpec.ofChange s with cond := some uptoSmall }

/-- 'laws.FnBoldPlay', WHERE WHAT IT READS IS OF BULK AT MOST 1048576: true; the input reads as it did. -/
def fnBoldPlayUptoRow : OpenClaim := { program := "ytbekfpgpeaoifaa", sum := "2a21d595a244ce5fb09a4295d119b218802b173f841ec143a13470925c814b48", func := "loop.example/g01131/laws.FnBoldPlay", spec := "fnBoldPlay", unfollowed := true, recurses := true, plainKeys := false, apart := false, narrowed := true }
def FnBoldPlayUptoSaid : Prop := fnBoldPlayUptoRow.holds Try.pinned (OpenSpec.upto fnBoldPlaySpec)

/-- 'laws.FnPaths', WHERE WHAT IT READS IS OF BULK AT MOST 1048576: true; the input reads as it did. -/
def fnPathsUptoRow : OpenClaim := { program := "ytbekfpgpeaoifaa", sum := "2a21d595a244ce5fb09a4295d119b218802b173f841ec143a13470925c814b48", func := "loop.example/g01131/laws.FnPaths", spec := "fnPaths", unfollowed := true, recurses := true, plainKeys := false, apart := false, narrowed := true }
def FnPathsUptoSaid : Prop := fnPathsUptoRow.holds Try.pinned (OpenSpec.upto fnPathsSpec)

/-- 'laws.FnReturns', WHERE WHAT IT READS IS OF BULK AT MOST 1048576: true; the input reads as it did. -/
def fnReturnsUptoRow : OpenClaim := { program := "ytbekfpgpeaoifaa", sum := "2a21d595a244ce5fb09a4295d119b218802b173f841ec143a13470925c814b48", func := "loop.example/g01131/laws.FnReturns", spec := "fnReturns", unfollowed := true, recurses := true, plainKeys := false, apart := false, narrowed := true }
def FnReturnsUptoSaid : Prop := fnReturnsUptoRow.holds Try.pinned (OpenSpec.upto fnReturnsSpec)

/-- 'laws.FnRuin', WHERE WHAT IT READS IS OF BULK AT MOST 1048576: true; the input reads as it did. -/
def fnRuinUptoRow : OpenClaim := { program := "ytbekfpgpeaoifaa", sum := "2a21d595a244ce5fb09a4295d119b218802b173f841ec143a13470925c814b48", func := "loop.example/g01131/laws.FnRuin", spec := "fnRuin", unfollowed := true, recurses := true, plainKeys := false, apart := false, narrowed := true }
def FnRuinUptoSaid : Prop := fnRuinUptoRow.holds Try.pinned (OpenSpec.upto fnRuinSpec)

end Rows
end Go.Proofs.Ytbekfpgpeaoifaa
