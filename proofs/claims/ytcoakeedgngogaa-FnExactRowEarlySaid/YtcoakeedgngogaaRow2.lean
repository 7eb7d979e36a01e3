/- Contracts: the value of a row and its holding, of the program and of the reference. -/
import Derived.Test.YtcoakeedgngogaaRow1
import Derived.RegionTactic
import Derived.Deep.RegionWith
import Derived.Test.YtcoakeedgngogaaB3
namespace Go.Proofs.Ytcoakeedgngogaa
open Go.RowKit

def rowOkB (n u d : Int) (xs : List Int) : Bool := rowB n u d && valsB xs (n + 1)
theorem rowOkB_t {n u d : Int} {xs : List Int} (h : rowOkB n u d xs = true) : rowB n u d = true ∧ valsB xs (n + 1) = true ∧ (xs.length : Int) = n + 1 ∧ Abs 999 xs ∧ allIn xs (-999) 999 = true := by
  simp only [rowOkB, Bool.and_eq_true] at h
  have h2 := h.2
  simp only [valsB, Bool.and_eq_true, beq_iff_eq] at h2
  exact ⟨h.1, h.2, h2.2, Abs.of_all (by omega) fun i hi => inB_t (all_get h2.1 hi), h2.1⟩
theorem kept_low {a b : Int} (hb : b ≠ 0) : (if fracB (nm a b) (dn a b) then nm a b else 0) = lowN a b ∧ (if fracB (nm a b) (dn a b) then dn a b else 0) = lowD a b ∧ fracB (nm a b) (dn a b) = lowB a b := by
  rw [fracB_quot _ _ hb]; exact ⟨rfl, rfl, rfl⟩
end Go.Proofs.Ytcoakeedgngogaa
