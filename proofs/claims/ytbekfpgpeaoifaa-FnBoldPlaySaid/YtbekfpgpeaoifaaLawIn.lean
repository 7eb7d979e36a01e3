/- Contracts of the helpers of the laws on arguments that are slices of slices of ints: their size, a copy of them, comparing them. -/
import Derived.Test.YtbekfpgpeaoifaaLawSS
import Derived.Test.YtbekfpgpeaoifaaLawI
namespace Go.Proofs.Ytbekfpgpeaoifaa
open Go.RowKit

/-- Small enough to be copied and compared. -/
def Mid (xss : List (List Int)) : Prop := xss.length ≤ 4294967296 ∧ ∀ i, i < xss.length → (row xss i).length ≤ 4294967296
end Go.Proofs.Ytbekfpgpeaoifaa
