/- Contracts: the least caps, of the program and of the reference. -/
import Derived.Test.YtjkkfjipgomkdaaWorth
import Derived.Test.YtjkkfjipgomkdaaCaps
namespace Go.Proofs.Ytjkkfjipgomkdaa
open Go.RowKit

def lcV (ps ws l : List Int) : List Int := if paysB ps ws l then capW ps ws l else []
theorem lcV_no {ps ws l : List Int} (h : paysB ps ws l = false) : lcV ps ws l = [] := by rw [lcV, h]; rfl
theorem lcV_yes {ps ws l : List Int} (h : paysB ps ws l = true) : lcV ps ws l = capW ps ws l := by rw [lcV, h]; rfl
theorem lcV_len {ps ws l : List Int} : (lcV ps ws l).length ≤ 1048576 := by
  cases h : paysB ps ws l
  · rw [lcV_no h]; simp
  · rw [lcV_yes h, capW_length]; have := (paysB_t h).1.n24; omega
end Go.Proofs.Ytjkkfjipgomkdaa
