/- Contracts of the helpers of the laws on slices of slices of ints. -/
import Derived.Test.YtbekfpgpeaoifaaLawS
import Derived.Test.YtbekfpgpeaoifaaSS
namespace Go.Proofs.Ytbekfpgpeaoifaa
open Go.RowKit

/-- How many numbers the first i rows hold. -/
def pre (xss : List (List Int)) : Nat → Nat
  | 0 => 0
  | i + 1 => pre xss i + (row xss i).length
/-- Row i with its marks. -/
def markR (k : Int) (xss : List (List Int)) (i : Nat) : List Int := marks (k + pre xss i) (row xss i).length
/-- The first i rows with their marks, the others as they were. -/
def mkSS (k : Int) (xss : List (List Int)) (i : Nat) : List (List Int) := (List.range xss.length).map fun (j : Nat) => if j < i then markR k xss j else row xss j
theorem mkSS_length (k : Int) (xss : List (List Int)) (i : Nat) : (mkSS k xss i).length = xss.length := by simp [mkSS]
theorem row_mkSS (k : Int) (xss : List (List Int)) (i j : Nat) (h : j < xss.length) : row (mkSS k xss i) j = if j < i then markR k xss j else row xss j := by unfold mkSS; rw [row_map_range h]
theorem mkSS_zero (k : Int) (xss : List (List Int)) : mkSS k xss 0 = xss := ext_row (mkSS_length _ _ _) fun i hi => by rw [mkSS_length] at hi; rw [row_mkSS _ _ _ _ hi]; simp
theorem row_mkSS_len (k : Int) (xss : List (List Int)) (i j : Nat) (h : j < xss.length) : (row (mkSS k xss i) j).length = (row xss j).length := by
  rw [row_mkSS _ _ _ _ h]; split
  · exact marks_length _ _
  · rfl
theorem pre_le (xss : List (List Int)) (L : Nat) (h : ∀ i, i < xss.length → (row xss i).length ≤ L) (i : Nat) (hi : i ≤ xss.length) : pre xss i ≤ i * L := by
  induction i with
  | zero => simp [pre]
  | succ i ih => have := ih (by omega); have := h i (by omega); rw [pre, Nat.add_mul]; omega
/-- Small enough to be marked. -/
def Small (xss : List (List Int)) : Prop := xss.length ≤ 4096 ∧ ∀ i, i < xss.length → (row xss i).length ≤ 4096
theorem Small.pre {xss : List (List Int)} (h : Small xss) {i : Nat} (hi : i ≤ xss.length) : pre xss i ≤ 16777216 := by
  have h1 := pre_le xss 4096 h.2 i hi
  have h2 := h.1
  have : i * 4096 ≤ 4096 * 4096 := Nat.mul_le_mul_right _ (by omega)
  omega

end Go.Proofs.Ytbekfpgpeaoifaa
