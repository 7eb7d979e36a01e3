/- Contracts: the value of a row and its holding, of the program and of the reference, whole. -/
import Derived.Test.YtcoakeedgngogaaRow2
namespace Go.Proofs.Ytcoakeedgngogaa
open Go.RowKit

/-- What RowValue returns. -/
def rvN (n u d : Int) (xs : List Int) : Int := if rowOkB n u d xs then lowN (rowV u d xs) (powI (u + d) n.toNat) else 0
def rvD (n u d : Int) (xs : List Int) : Int := if rowOkB n u d xs then lowD (rowV u d xs) (powI (u + d) n.toNat) else 0
def rvB (n u d : Int) (xs : List Int) : Bool := rowOkB n u d xs && lowB (rowV u d xs) (powI (u + d) n.toNat)
theorem rv_no {n u d : Int} {xs : List Int} (h : rowOkB n u d xs = false) : rvN n u d xs = 0 ∧ rvD n u d xs = 0 ∧ rvB n u d xs = false := by
  unfold rvN rvD rvB; rw [h]; exact ⟨rfl, rfl, rfl⟩
theorem rv_yes {n u d : Int} {xs : List Int} (h : rowOkB n u d xs = true) : rvN n u d xs = lowN (rowV u d xs) (powI (u + d) n.toNat) ∧ rvD n u d xs = lowD (rowV u d xs) (powI (u + d) n.toNat) ∧ rvB n u d xs = lowB (rowV u d xs) (powI (u + d) n.toNat) := by
  unfold rvN rvD rvB; rw [h]; exact ⟨rfl, rfl, rfl⟩
theorem pow_row {n u d : Int} (h : rowB n u d = true) : 1 ≤ powI (u + d) n.toNat ∧ powI (u + d) n.toNat ≤ 4096000000000000 := by
  have := rowB_t h
  exact powI_bd20 (by omega) (by omega) _ (by omega)
end Go.Proofs.Ytcoakeedgngogaa
