/- An argument that is a slice of ints, opened: it reads as a list. -/
import Derived.Test.YtbekfpgpeaoifaaBase
import Derived.ChangeSlices
import Derived.OpenShut
import Derived.RowKit
namespace Go.Proofs.Ytbekfpgpeaoifaa
open Go.ChangeShapes Go.WideShapes Go.ChangeAt Go.RowKit

theorem laidS : laidOutB Try.prog = true := by kernel_rfl
theorem cells_intS : Try.prog.cellsOf 3 = 1 := by kernel_rfl
theorem addr_plainS {w : World} {a : Addr} {v : Value} (h : w.cell? (a.add 0) = some v) : a = ⟨a.block, a.off, none⟩ := by
  obtain ⟨b, o, sp⟩ := a
  have : sp = none := by simpa [Addr.add] using World.cell?_spot h
  rw [this]
theorem addr_atS {w : World} {a : Addr} {u v : Value} {j : Nat} (h : w.cell? (a.add 0) = some u) (hj : w.cell? (a.add j) = some v) : w.cell? ⟨a.block, a.off + j, none⟩ = some v := by
  obtain ⟨b, o, sp⟩ := a
  have : sp = none := by simpa [Addr.add] using World.cell?_spot h
  subst this
  rwa [show (⟨b, o, none⟩ : Addr).add j = ⟨b, o + j, none⟩ by unfold Addr.add; split <;> simp_all] at hj
set_option maxRecDepth 100000 in
/-- A cell that reads as a slice of ints. -/
theorem open_intS_cell {H : Type} {enc : TypeId × Value → H} {w : World} {v : Value} {fuel : Nat} {y : DataW H × List MemPlace} (h : DataW.trod enc Try.prog w 0 (fun _ => true) true fuel 35 [v] = some y) :
    ∃ (a : Option Addr) (n cap : Nat) (xs : List Int), v = .slice a n cap ∧ n ≤ maxLen ∧ (n ≤ cap ∧ cap ≤ maxLen ∧ (a = none → cap = 0)) ∧ Ints w a n xs := by
  rcases open_ints Try.underlying35 Try.underlying3 cells_intS h with ⟨hcs, -⟩ | ⟨a, len, cap, zs, hcs, -, hl, hm, hzl, -, hcell, -⟩
  · simp at hcs
    exact ⟨none, 0, 0, [], hcs, Nat.zero_le _, ⟨Nat.le_refl _, Nat.zero_le _, fun _ => rfl⟩, rfl, fun h => by omega⟩
  · simp at hcs
    simp only [if_true] at hzl
    refine ⟨some a, len, cap, zs.take len, hcs, by omega, ⟨hl, hm, (fun h => by cases h)⟩, by rw [List.length_take]; omega, fun h0 => ?_⟩
    have h1 := hcell 0 (by omega)
    refine ⟨a.block, a.off, by rw [← addr_plainS h1], ?_, fun j hj => ?_⟩
    · have := World.block_lt_of_cell? _ _ h1
      simpa [Addr.add] using this
    · have := addr_atS h1 (hcell j (by omega))
      have e : nth (zs.take len) j = zs.getD j 0 := by unfold nth; simp [List.getD, hj]
      rw [e]; exact this
set_option maxRecDepth 100000 in
theorem open_intS {H : Type} {enc : TypeId × Value → H} {w : World} {base : Nat} {v : Value} {d : DataW H} {p : List MemPlace} (hv : Value.okWide Try.prog w .any base 35 v) (h : DataW.Trod enc Try.prog w 0 (fun _ => true) true 35 v d p) :
    ∃ (a : Option Addr) (n cap : Nat) (xs : List Int), v = .slice a n cap ∧ n ≤ maxLen ∧ (n ≤ cap ∧ cap ≤ maxLen ∧ (a = none → cap = 0)) ∧ Ints w a n xs := by
  obtain ⟨a0, len, cap, rfl⟩ := okWide_slice Try.underlying35 hv
  obtain ⟨fuel, hf⟩ := h
  exact open_intS_cell (v := .slice a0 len cap) (by simpa [Value.cells] using hf)
end Go.Proofs.Ytbekfpgpeaoifaa
