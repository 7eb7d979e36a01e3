/- Contracts: do caps cover payments, by the reference. -/
import Derived.Test.YtjkkfjipgomkdaaCover
namespace Go.Proofs.Ytjkkfjipgomkdaa
open Go.RowKit

theorem w_zero {ps ws : List Int} (h : Tr ps ws) {x : Nat} (hx : x < ps.length) : (nth ws x == 0) = !endB ps x := by
  cases he : endB ps x
  · rw [h.inner x hx he]; rfl
  · have := h.leaf x hx he
    have : (nth ws x == 0) = false := by rw [beq_eq_false_iff_ne]; omega
    rw [this]; rfl
end Go.Proofs.Ytjkkfjipgomkdaa
