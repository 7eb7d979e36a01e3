/- An argument that is a slice of slices of ints, opened: it reads as a list of lists; whatever rows share. -/
import Derived.Test.YtcoakeedgngogaaSS
import Derived.Deep.Matrix
import Derived.OpenShut
import Derived.RowKit
namespace Go.Proofs.Ytcoakeedgngogaa
open Go.ChangeShapes Go.WideShapes Go.ChangeAt Go.RowKit Go.Deep

theorem laid : laidOutB Try.prog = true := by kernel_rfl
theorem cells_ints : Try.prog.cellsOf 31 = 1 := by kernel_rfl
theorem cells_int : Try.prog.cellsOf 3 = 1 := by kernel_rfl
theorem addr_plain {w : World} {a : Addr} {v : Value} (h : w.cell? (a.add 0) = some v) : a = ⟨a.block, a.off, none⟩ := by
  obtain ⟨b, o, sp⟩ := a
  have : sp = none := by simpa [Addr.add] using World.cell?_spot h
  rw [this]
theorem addr_at {w : World} {a : Addr} {u v : Value} {j : Nat} (h : w.cell? (a.add 0) = some u) (hj : w.cell? (a.add j) = some v) : w.cell? ⟨a.block, a.off + j, none⟩ = some v := by
  obtain ⟨b, o, sp⟩ := a
  have : sp = none := by simpa [Addr.add] using World.cell?_spot h
  subst this
  rwa [add_plain] at hj
set_option maxRecDepth 100000 in
theorem open_intSS {H : Type} {enc : TypeId × Value → H} {w : World} {base : Nat} {v : Value} {d : DataW H} {p : List MemPlace} (hv : Value.okWide Try.prog w .any base 22 v) (h : DataW.Trod enc Try.prog w 0 (fun _ => true) true 22 v d p) :
    ∃ (a : Option Addr) (n cap : Nat) (xss : List (List Int)), v = .slice a n cap ∧ n ≤ maxLen ∧ (∀ j, j < n → (row xss j).length ≤ maxLen) ∧ IntsSS w a n xss := by
  obtain ⟨a0, len, cap, rfl⟩ := okWide_slice Try.underlying22 hv
  obtain ⟨fuel, hf⟩ := h
  rcases open_int_rows Try.underlying22 Try.underlying31 Try.underlying3 cells_ints cells_int hf with ⟨hcs0, -⟩ | ⟨a, len', cap', A, L, C, Z, hcs0, _, hl, hm, -, hrows⟩
  · simp [Value.cells] at hcs0
    obtain ⟨rfl, rfl, rfl⟩ := hcs0
    exact ⟨none, 0, 0, [], rfl, Nat.zero_le _, fun j hj => by omega, rfl, fun h => by omega⟩
  · simp [Value.cells] at hcs0
    obtain ⟨rfl, rfl, rfl⟩ := hcs0
    have hrow : ∀ j, j < len → row ((List.range len).map fun r => (Z r).take (L r)) j = (Z j).take (L j) := fun j hj => row_map_range hj
    have hlen : ∀ j, j < len → ((Z j).take (L j)).length = L j := fun j hj => by
      obtain ⟨_, h1, _, h3, _⟩ := hrows j (by omega)
      rw [List.length_take]; omega
    refine ⟨_, _, _, (List.range len).map fun r => (Z r).take (L r), rfl, by omega, fun j hj => ?_, by simp, fun h0 => ?_⟩
    · rw [hrow j hj, hlen j hj]
      obtain ⟨_, h1, h2, _⟩ := hrows j (by omega)
      omega
    · have ha := addr_plain (hrows 0 (by omega)).1
      refine ⟨a.block, a.off, by rw [← ha], ?_, fun j hj => ?_⟩
      · have := World.block_lt_of_cell? _ _ (hrows 0 (by omega)).1
        simpa [Addr.add] using this
      · obtain ⟨hc, h1, h2, h3, h4, h5, h6⟩ := hrows j (by omega)
        refine ⟨A j, C j, ?_, ?_⟩
        · rw [hrow j hj, hlen j hj]
          exact addr_at (hrows 0 (by omega)).1 hc
        · rw [hrow j hj, hlen j hj]
          refine ⟨hlen j hj, fun hp => ?_⟩
          cases hA : A j with
          | none => have := h5 hA; omega
          | some a' =>
            obtain ⟨-, hcell⟩ := h6 a' hA
            have ha' := addr_plain (hcell 0 (by omega))
            refine ⟨a'.block, a'.off, by rw [← ha'], ?_, fun k hk => ?_⟩
            · have := World.block_lt_of_cell? _ _ (hcell 0 (by omega))
              simpa [Addr.add] using this
            · have := addr_at (hcell 0 (by omega)) (hcell k (by omega))
              have e : nth ((Z j).take (L j)) k = (Z j).getD k 0 := by
                unfold nth; simp [List.getD, hk]
              rw [e]
              exact this
end Go.Proofs.Ytcoakeedgngogaa
