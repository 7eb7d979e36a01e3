/- An argument that is a slice of bytes, opened: it reads as bytes. -/
import Derived.Test.YtbekfpgpeaoifaaOpenS
import Derived.Test.YtbekfpgpeaoifaaCur
namespace Go.Proofs.Ytbekfpgpeaoifaa
open Go.ChangeShapes Go.WideShapes Go.ChangeAt Go.RowKit

/-- The slice (a, n) reads as bytes, however many. -/
def Bytes0 (w : World) (a : Option Addr) (n : Nat) : Prop :=
  0 < n → ∃ b off, a = some ⟨b, off, none⟩ ∧ b < w.heap.size ∧ ∀ j, j < n → ∃ x : Int, w.cell? ⟨b, off + j, none⟩ = some (.int .u8 x) ∧ 0 ≤ x ∧ x ≤ 255
theorem Bytes0.few {w : World} {a : Option Addr} {n : Nat} (h : Bytes0 w a n) (hn : n ≤ 70000) : Bytes w a n := ⟨hn, h⟩
theorem cells_byteS : Try.prog.cellsOf 5 = 1 := by kernel_rfl
set_option maxRecDepth 100000 in
theorem open_bytes {H : Type} {enc : TypeId × Value → H} {w : World} {base : Nat} {v : Value} {d : DataW H} {p : List MemPlace} (hv : Value.okWide Try.prog w .any base 22 v) (h : DataW.Trod enc Try.prog w 0 (fun _ => true) true 22 v d p) :
    ∃ (a : Option Addr) (n cap : Nat), v = .slice a n cap ∧ n ≤ maxLen ∧ (n ≤ cap ∧ cap ≤ maxLen ∧ (a = none → cap = 0)) ∧ Bytes0 w a n := by
  obtain ⟨a0, len, cap, rfl⟩ := okWide_slice Try.underlying22 hv
  obtain ⟨fuel, hf⟩ := h
  rcases open_ints Try.underlying22 Try.underlying5 cells_byteS (cs := [.slice a0 len cap]) (by simpa [Value.cells] using hf) with ⟨hcs, -⟩ | ⟨a, len', cap', zs, hcs, -, hl, hm, hzl, -, hcell, hwf⟩
  · simp at hcs
    obtain ⟨rfl, rfl, rfl⟩ := hcs
    exact ⟨none, 0, 0, rfl, Nat.zero_le _, ⟨Nat.le_refl _, Nat.zero_le _, fun _ => rfl⟩, fun h => by omega⟩
  · simp at hcs
    obtain ⟨rfl, rfl, rfl⟩ := hcs
    simp only [if_true] at hzl
    refine ⟨some a, len, cap, rfl, by omega, ⟨hl, hm, (fun h => by cases h)⟩, fun h0 => ?_⟩
    have h1 := hcell 0 (by omega)
    refine ⟨a.block, a.off, by rw [← addr_plainS h1], ?_, fun j hj => ?_⟩
    · have := World.block_lt_of_cell? _ _ h1
      simpa [Addr.add] using this
    · have h2 := addr_atS h1 (hcell j (by omega))
      have h3 : zs.getD j 0 ∈ zs := by simp [List.getD, show j < zs.length by omega]
      have h4 := hwf _ h3
      have h5 : IntKind.u8.min = 0 := rfl
      have h6 : IntKind.u8.max = 255 := rfl
      have h7 : (decide (IntKind.u8.min ≤ zs.getD j 0) && decide (zs.getD j 0 ≤ IntKind.u8.max)) = true := h4
      rw [h5, h6] at h7
      simp only [Bool.and_eq_true, decide_eq_true_eq] at h7
      exact ⟨_, h2, h7⟩
end Go.Proofs.Ytbekfpgpeaoifaa
