/- Contracts of the helpers of the laws on arguments that are slices of ints: their size, a copy of them. -/
import Derived.Test.YtbekfpgpeaoifaaLawS
namespace Go.Proofs.Ytbekfpgpeaoifaa
open Go.RowKit

/-- A size that is left: below 0, or P holds. -/
def IsLeft (e : Ending) (left : Int) (P : Prop) : Prop := ∃ z : Int, e = .returned (.int .i64 z) ∧ (0 ≤ z → P) ∧ -1 ≤ z ∧ z ≤ left
theorem isLeft_mk {e : Ending} {left z : Int} {P : Prop} (he : e = .returned (.int .i64 z)) (h : 0 ≤ z → P) (h1 : -1 ≤ z) (h2 : z ≤ left) : IsLeft e left P := ⟨z, he, h, h1, h2⟩
end Go.Proofs.Ytbekfpgpeaoifaa
