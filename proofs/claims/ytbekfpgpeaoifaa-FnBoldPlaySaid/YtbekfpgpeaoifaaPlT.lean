/- Plain lists: tables of greatest chances with some stakes at each fortune. Nothing of the program. -/
import Derived.Test.YtbekfpgpeaoifaaPlR
import Derived.Test.YtbekfpgpeaoifaaSS
namespace Go.Proofs.Ytbekfpgpeaoifaa

/-- The number of a fortune and a stake by the list with one roll fewer left. -/
def aft (a b : Int) (prev : List Int) (i : Nat) (s : Int) : Int := a * nth prev ((i : Int) + s).toNat + b * nth prev ((i : Int) - s).toNat
/-- The greatest of these over some stakes, 0 at least. -/
def bestL (f : Int → Int) : List Int → Int → Int
  | [], m => m
  | s :: st, m => bestL f st (max m (f s))
theorem bestL_append (f : Int → Int) (xs : List Int) (s m : Int) : bestL f (xs ++ [s]) m = max (bestL f xs m) (f s) := by
  induction xs generalizing m with
  | nil => rfl
  | cons x xs ih => simp only [List.cons_append, bestL]; exact ih _
def rowN (st : Nat → List Int) (a b : Int) (n : Nat) (prev : List Int) : List Int := (List.range (n + 1)).map fun (i : Nat) => bestL (aft a b prev i) (st i) 0
def tabRow (st : Nat → List Int) (a b : Int) (n : Nat) : Nat → List Int
  | 0 => (List.replicate (n + 1) 0).set n 1
  | j + 1 => rowN st a b n (tabRow st a b n j)
def tabL (st : Nat → List Int) (a b : Int) (n k : Nat) : List (List Int) := (List.range (k + 1)).map (tabRow st a b n)
theorem rowN_length (st : Nat → List Int) (a b : Int) (n : Nat) (prev : List Int) : (rowN st a b n prev).length = n + 1 := by simp [rowN]
theorem tabRow_length (st : Nat → List Int) (a b : Int) (n j : Nat) : (tabRow st a b n j).length = n + 1 := by
  cases j with
  | zero => simp [tabRow]
  | succ j => exact rowN_length _ _ _ _ _
theorem tabL_length (st : Nat → List Int) (a b : Int) (n k : Nat) : (tabL st a b n k).length = k + 1 := by simp [tabL]
theorem row_tabL (st : Nat → List Int) (a b : Int) (n k j : Nat) (h : j ≤ k) : row (tabL st a b n k) j = tabRow st a b n j := row_map_range (by omega)
theorem tabL_succ (st : Nat → List Int) (a b : Int) (n k : Nat) : tabL st a b n (k + 1) = tabL st a b n k ++ [tabRow st a b n (k + 1)] := by
  unfold tabL
  rw [List.range_succ (n := k + 1), List.map_append]; rfl
/-- Numbers between 0 and M. -/
def In0 (M : Int) (xs : List Int) : Prop := ∀ i, 0 ≤ nth xs i ∧ nth xs i ≤ M
theorem aft_bd {a b M : Int} {prev : List Int} (ha : 0 ≤ a) (hb : 0 ≤ b) (h : In0 M prev) (i : Nat) (s : Int) :
    (0 ≤ a * nth prev ((i : Int) + s).toNat ∧ a * nth prev ((i : Int) + s).toNat ≤ a * M) ∧ (0 ≤ b * nth prev ((i : Int) - s).toNat ∧ b * nth prev ((i : Int) - s).toNat ≤ b * M) ∧
    0 ≤ aft a b prev i s ∧ aft a b prev i s ≤ (a + b) * M := by
  have h1 := h ((i : Int) + s).toNat
  have h2 := h ((i : Int) - s).toNat
  have e1 := Int.mul_nonneg ha h1.1
  have e2 := Int.mul_nonneg hb h2.1
  have e3 := Int.mul_le_mul_of_nonneg_left h1.2 ha
  have e4 := Int.mul_le_mul_of_nonneg_left h2.2 hb
  unfold aft
  rw [Int.add_mul]
  omega
theorem bestL_bd {f : Int → Int} {N : Int} (h : ∀ s, 0 ≤ f s ∧ f s ≤ N) (st : List Int) (m : Int) (hm : 0 ≤ m ∧ m ≤ N) : 0 ≤ bestL f st m ∧ bestL f st m ≤ N := by
  induction st generalizing m with
  | nil => exact hm
  | cons s st ih => have := h s; exact ih _ (by omega)
theorem rowN_bd {st : Nat → List Int} {a b M : Int} {n : Nat} {prev : List Int} (ha : 0 ≤ a) (hb : 0 ≤ b) (hM : 0 ≤ M) (h : In0 M prev) : In0 ((a + b) * M) (rowN st a b n prev) := by
  have h0 : 0 ≤ (a + b) * M := Int.mul_nonneg (by omega) hM
  intro i
  by_cases hi : i < n + 1
  · unfold rowN
    rw [nth_map_range hi]
    exact bestL_bd (fun s => (aft_bd ha hb h i s).2.2) _ _ ⟨Int.le_refl _, h0⟩
  · rw [nth_ge (by rw [rowN_length]; omega)]; omega
theorem tabRow_bd {st : Nat → List Int} {a b : Int} {n : Nat} (ha : 0 ≤ a) (hb : 0 ≤ b) (j : Nat) : In0 (powI (a + b) j) (tabRow st a b n j) ∧ 0 ≤ powI (a + b) j := by
  induction j with
  | zero =>
    refine ⟨fun i => ?_, by simp [powI]⟩
    rw [tabRow, powI, nth_set (by simp), nth_replicate]
    split <;> omega
  | succ j ih =>
    rw [tabRow, powI, Int.mul_comm]
    exact ⟨rowN_bd ha hb ih.2 ih.1, Int.mul_nonneg (by omega) ih.2⟩
theorem tabRow_small {st : Nat → List Int} {a b : Int} {n : Nat} (ha : 0 ≤ a) (hb : 0 ≤ b) (h : a + b ≤ 40) (j : Nat) (hj : j ≤ 8) : In0 6553600000000 (tabRow st a b n j) := fun i => by
  have h1 := (tabRow_bd (st := st) (n := n) ha hb j).1 i
  have h2 := powI_bd (a + b) (by omega) h j
  have h3 := powI40 j hj
  omega
end Go.Proofs.Ytbekfpgpeaoifaa
