/- Plain numbers: a row that may be ended early. Nothing of the program. -/
import Derived.Test.YtcoakeedgngogaaPlRow
import Derived.Test.YtcoakeedgngogaaPlRu
import Derived.Test.YtcoakeedgngogaaSS
namespace Go.Proofs.Ytcoakeedgngogaa

/-- Some steps back from the end of a row that may be ended early. -/
def earlyL (u d : Int) (xss : List (List Int)) (n : Nat) : Nat → List Int
  | 0 => row xss n
  | k + 1 => (List.range (n - k)).map fun i => max (nth (row xss (n - 1 - k)) i * powI (u + d) (k + 1)) (nth (earlyL u d xss n k) (i + 1) * d + nth (earlyL u d xss n k) i * u)
theorem earlyL_length {u d : Int} {xss : List (List Int)} {n : Nat} (h : (row xss n).length = n + 1) : ∀ k, k ≤ n → (earlyL u d xss n k).length = n + 1 - k
  | 0, _ => by rw [earlyL, h]; omega
  | k + 1, hk => by rw [earlyL, List.length_map, List.length_range]; omega
theorem pow18 {a : Int} (h : 1 ≤ a ∧ a ≤ 18) : ∀ k : Nat, 1 ≤ powI a k ∧ powI a k ≤ 18 ^ k
  | 0 => by simp [powI]
  | k + 1 => by
    have ih := pow18 h k
    rw [powI_succ, Int.pow_succ]
    have h1 := Int.mul_le_mul ih.2 h.2 (by omega) (by omega)
    have h2 := Int.mul_le_mul ih.1 h.1 (by omega) (by omega)
    omega
theorem earlyL_abs {u d : Int} {xss : List (List Int)} {n : Nat} (hu : 1 ≤ u ∧ u ≤ 9) (hd : 1 ≤ d ∧ d ≤ 9) (hx : ∀ t, t ≤ n → Abs 999 (row xss t)) : ∀ k : Nat, k ≤ n → 0 ≤ 999 * (18 : Int) ^ k ∧ Abs (999 * 18 ^ k) (earlyL u d xss n k)
  | 0, _ => ⟨by simp, fun i => by have := hx n (Nat.le_refl _) i; simp only [Int.pow_zero, Int.mul_one]; exact this⟩
  | k + 1, hk => by
    have ih := earlyL_abs hu hd hx k (by omega)
    have hp := pow18 (a := u + d) (by omega) (k + 1)
    have e : (999 : Int) * 18 ^ (k + 1) = 999 * 18 ^ k * 18 := by rw [Int.pow_succ, Int.mul_assoc]
    refine ⟨by omega, fun i => ?_⟩
    by_cases hi : i < n - k
    · rw [earlyL, nth_map_range hi]
      have h1 := mul_abs (hx (n - 1 - k) (by omega) i) (show 0 ≤ powI (u + d) (k + 1) ∧ powI (u + d) (k + 1) ≤ 18 ^ (k + 1) by omega) (by omega)
      have h2 := mul_abs (ih.2 (i + 1)) (show 0 ≤ d ∧ d ≤ 9 by omega) ih.1
      have h3 := mul_abs (ih.2 i) (show 0 ≤ u ∧ u ≤ 9 by omega) ih.1
      omega
    · rw [nth_ge (by rw [earlyL, List.length_map, List.length_range]; omega)]; omega
theorem pow18_4 {k : Nat} (h : k ≤ 4) : (18 : Int) ^ k ≤ 104976 := by
  have : k = 0 ∨ k = 1 ∨ k = 2 ∨ k = 3 ∨ k = 4 := by omega
  rcases this with rfl | rfl | rfl | rfl | rfl <;> simp
theorem early_bd {u d : Int} {xss : List (List Int)} {n : Nat} (hu : 1 ≤ u ∧ u ≤ 9) (hd : 1 ≤ d ∧ d ≤ 9) (hx : ∀ t, t ≤ n → Abs 999 (row xss t)) {k : Nat} (hk : k ≤ n) (hn : n ≤ 4) : Abs 104871024 (earlyL u d xss n k) := fun i => by
  have h1 := (earlyL_abs hu hd hx k hk).2 i
  have h2 := pow18_4 (k := k) (by omega)
  omega
end Go.Proofs.Ytcoakeedgngogaa
