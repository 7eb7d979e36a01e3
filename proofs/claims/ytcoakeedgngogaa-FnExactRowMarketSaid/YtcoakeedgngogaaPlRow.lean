/- Plain numbers: values of rows, by steps back and by parting. Nothing of the program. -/
import Derived.Test.YtcoakeedgngogaaBase
namespace Go.Proofs.Ytcoakeedgngogaa

/-- One step back in a row. -/
def stepR (u d : Int) (xs : List Int) : List Int := (List.range (xs.length - 1)).map fun i => nth xs (i + 1) * d + nth xs i * u
theorem stepR_length (u d : Int) (xs : List Int) : (stepR u d xs).length = xs.length - 1 := by simp [stepR]
theorem nth_stepR {u d : Int} {xs : List Int} {i : Nat} (h : i + 1 < xs.length) : nth (stepR u d xs) i = nth xs (i + 1) * d + nth xs i * u := by
  rw [stepR, nth_map_range (by omega)]
/-- Some steps back. -/
def rowL (u d : Int) (xs : List Int) : Nat → List Int
  | 0 => xs
  | k + 1 => stepR u d (rowL u d xs k)
theorem rowL_length (u d : Int) (xs : List Int) : ∀ k, (rowL u d xs k).length = xs.length - k
  | 0 => rfl
  | k + 1 => by rw [rowL, stepR_length, rowL_length u d xs k]; omega
theorem rowL_head (u d : Int) (xs : List Int) : ∀ k, rowL u d (stepR u d xs) k = rowL u d xs (k + 1)
  | 0 => rfl
  | k + 1 => by rw [rowL, rowL_head u d xs k]; rfl
/-- All numbers lie within a bound on both sides. -/
def Abs (B : Int) (xs : List Int) : Prop := ∀ i, -B ≤ nth xs i ∧ nth xs i ≤ B
theorem mul_abs {x B u U : Int} (h : -B ≤ x ∧ x ≤ B) (hu : 0 ≤ u ∧ u ≤ U) (hB : 0 ≤ B) : -(B * U) ≤ x * u ∧ x * u ≤ B * U := by
  have h1 := Int.mul_le_mul_of_nonneg_right h.2 hu.1
  have h2 := Int.mul_le_mul_of_nonneg_left hu.2 hB
  have h3 := Int.mul_le_mul_of_nonneg_right h.1 hu.1
  rw [Int.neg_mul] at h3
  omega
theorem Abs.step {u d B : Int} {xs : List Int} (h : Abs B xs) (hB : 0 ≤ B) (hu : 0 ≤ u ∧ u ≤ 9) (hd : 0 ≤ d ∧ d ≤ 9) : Abs (B * 18) (stepR u d xs) := fun i => by
  by_cases hi : i + 1 < xs.length
  · rw [nth_stepR hi]
    have h1 := mul_abs (h (i + 1)) hd hB
    have h2 := mul_abs (h i) hu hB
    omega
  · rw [nth_ge (by rw [stepR_length]; omega)]; omega
theorem Abs.rowL {u d B : Int} {xs : List Int} (h : Abs B xs) (hB : 0 ≤ B) (hu : 0 ≤ u ∧ u ≤ 9) (hd : 0 ≤ d ∧ d ≤ 9) : ∀ k : Nat, 0 ≤ B * 18 ^ k ∧ Abs (B * 18 ^ k) (rowL u d xs k)
  | 0 => ⟨by simpa using hB, fun i => by have := h i; simp only [Int.pow_zero, Int.mul_one]; exact this⟩
  | k + 1 => by
    have ih := Abs.rowL h hB hu hd k
    rw [show B * (18 : Int) ^ (k + 1) = B * 18 ^ k * 18 by rw [Int.pow_succ, Int.mul_assoc]]
    exact ⟨by omega, ih.2.step ih.1 hu hd⟩
theorem Abs.row4 {u d : Int} {xs : List Int} (h : Abs 999 xs) (hu : 0 ≤ u ∧ u ≤ 9) (hd : 0 ≤ d ∧ d ≤ 9) (k : Nat) (hk : k ≤ 4) : Abs 104871024 (Go.Proofs.Ytcoakeedgngogaa.rowL u d xs k) := fun i => by
  have := (Abs.rowL h (by omega) hu hd k).2 i
  have hk : k = 0 ∨ k = 1 ∨ k = 2 ∨ k = 3 ∨ k = 4 := by omega
  rcases hk with rfl | rfl | rfl | rfl | rfl <;> (simp at this ⊢; omega)
/-- The value of a row. -/
def rowV (u d : Int) (xs : List Int) : Int := nth (rowL u d xs (xs.length - 1)) 0
/-- The value of a row, by parting. -/
def partV (u d : Int) : Nat → List Int → Int
  | 0, xs => nth xs 0
  | k + 1, xs => d * partV u d k xs.tail + u * partV u d k xs.dropLast
theorem nth_tail (xs : List Int) (i : Nat) : nth xs.tail i = nth xs (i + 1) := by
  cases xs with
  | nil => simp [nth, List.getD]
  | cons x xs => simp [nth, List.getD]
theorem nth_dropLast (xs : List Int) (i : Nat) (h : i + 1 < xs.length) : nth xs.dropLast i = nth xs i := by
  rw [nth_lt (by simp; omega), nth_lt (by omega), List.getElem_dropLast]
theorem stepR_tail (u d : Int) (xs : List Int) : stepR u d xs.tail = (stepR u d xs).tail := by
  refine ext_nth (by simp [stepR_length]) fun i hi => ?_
  rw [stepR_length, List.length_tail] at hi
  rw [nth_tail, nth_stepR (by simp; omega), nth_stepR (by omega), nth_tail, nth_tail]
theorem stepR_dropLast (u d : Int) (xs : List Int) : stepR u d xs.dropLast = (stepR u d xs).dropLast := by
  refine ext_nth (by simp [stepR_length]) fun i hi => ?_
  rw [stepR_length, List.length_dropLast] at hi
  rw [nth_dropLast _ _ (by rw [stepR_length]; omega), nth_stepR (by simp; omega), nth_stepR (by omega), nth_dropLast _ _ (by omega), nth_dropLast _ _ (by omega)]
theorem partV_step (u d : Int) : ∀ (k : Nat) (xs : List Int), xs.length = k + 2 → partV u d (k + 1) xs = partV u d k (stepR u d xs)
  | 0, xs, h => by
    rw [partV, partV, partV, partV, nth_stepR (by omega), nth_tail, nth_dropLast _ _ (by omega), Int.mul_comm d, Int.mul_comm u]
  | k + 1, xs, h => by
    rw [partV, partV_step u d k xs.tail (by simp; omega), partV_step u d k xs.dropLast (by simp; omega), stepR_tail, stepR_dropLast, partV]
theorem rowV_part (u d : Int) : ∀ (k : Nat) (xs : List Int), xs.length = k + 1 → rowV u d xs = partV u d k xs
  | 0, xs, h => by rw [rowV, h]; rfl
  | k + 1, xs, h => by
    rw [partV_step u d k xs h, ← rowV_part u d k _ (by rw [stepR_length]; omega), rowV, rowV, stepR_length, rowL_head]
    congr 2; omega
theorem rowV_bd {u d : Int} {xs : List Int} (h : Abs 999 xs) (hu : 0 ≤ u ∧ u ≤ 9) (hd : 0 ≤ d ∧ d ≤ 9) (hl : xs.length ≤ 5) : -104871024 ≤ rowV u d xs ∧ rowV u d xs ≤ 104871024 :=
  h.row4 hu hd _ (by omega) 0
theorem Abs.tail {B : Int} {xs : List Int} (h : Abs B xs) : Abs B xs.tail := fun i => by rw [nth_tail]; exact h _
theorem Abs.dropLast {B : Int} {xs : List Int} (h : Abs B xs) (hB : 0 ≤ B) : Abs B xs.dropLast := fun i => by
  by_cases hi : i + 1 < xs.length
  · rw [nth_dropLast _ _ hi]; exact h i
  · rw [nth_ge (by simp; omega)]; omega
theorem Abs.of_all {B : Int} {xs : List Int} (hB : 0 ≤ B) (h : ∀ i, i < xs.length → -B ≤ nth xs i ∧ nth xs i ≤ B) : Abs B xs := fun i => by
  by_cases hi : i < xs.length
  · exact h i hi
  · rw [nth_ge (by omega)]; omega
end Go.Proofs.Ytcoakeedgngogaa
