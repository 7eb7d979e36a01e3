/- Plain lists: the numbers of walks by places, step by step. Nothing of the program. -/
import Derived.Test.YtbekfpgpeaoifaaBase
namespace Go.Proofs.Ytbekfpgpeaoifaa

/-- Element i - 1 of a list, 0 if there is none. -/
def lft (xs : List Int) : Nat → Int
  | 0 => 0
  | i + 1 => nth xs i
def stepL (may : Int → Bool) (xs : List Int) : List Int :=
  (List.range 61).map fun (j : Nat) => if may ((j : Int) - 30) then lft xs j + nth xs (j + 1) else 0
def walk0 : List Int := (List.replicate 61 0).set 30 1
def walkL (may : Int → Int → Bool) : Nat → List Int
  | 0 => walk0
  | k + 1 => stepL (may ((k : Int) + 1)) (walkL may k)

theorem stepL_length (may : Int → Bool) (xs : List Int) : (stepL may xs).length = 61 := by simp [stepL]
theorem walkL_length (may : Int → Int → Bool) (k : Nat) : (walkL may k).length = 61 := by
  cases k with
  | zero => simp [walkL, walk0]
  | succ k => exact stepL_length _ _
theorem nth_stepL (may : Int → Bool) (xs : List Int) (j : Nat) (h : j < 61) : nth (stepL may xs) j = if may ((j : Int) - 30) then lft xs j + nth xs (j + 1) else 0 := by
  unfold stepL; rw [nth_map_range h]
theorem nth_stepL_ge (may : Int → Bool) (xs : List Int) (j : Nat) (h : 61 ≤ j) : nth (stepL may xs) j = 0 := nth_ge (by rw [stepL_length]; exact h)
theorem nth_walk0 (j : Nat) : nth walk0 j = if 30 = j then 1 else 0 := by
  unfold walk0
  rw [nth_set (by simp), nth_replicate]

/-- Between 0 and M everywhere, and 0 further than d from the middle. -/
def Nar (d : Nat) (M : Int) (xs : List Int) : Prop := ∀ i, 0 ≤ nth xs i ∧ nth xs i ≤ M ∧ (nth xs i ≠ 0 → 30 ≤ i + d ∧ i ≤ 30 + d)
theorem nar_step {may : Int → Bool} {d : Nat} {M : Int} {xs : List Int} (h : Nar d M xs) : Nar (d + 1) (2 * M) (stepL may xs) := by
  intro j
  have hM : 0 ≤ M := by have := h 0; omega
  by_cases hj : j < 61
  · rw [nth_stepL _ _ _ hj]
    have h1 := h (j + 1)
    cases j with
    | zero => simp only [lft]; split <;> omega
    | succ j => have h2 := h j; simp only [lft]; split <;> omega
  · rw [nth_stepL_ge _ _ _ (by omega)]; omega
def pow2 : Nat → Int
  | 0 => 1
  | k + 1 => 2 * pow2 k
theorem pow2_mono (k : Nat) (h : k ≤ 30) : 1 ≤ pow2 k ∧ pow2 k ≤ 1073741824 := by
  have : ∀ k, k ≤ 30 → 1 ≤ pow2 k ∧ pow2 k ≤ 1073741824 := by decide
  exact this k h
theorem nar_walk (may : Int → Int → Bool) (k : Nat) : Nar k (pow2 k) (walkL may k) := by
  induction k with
  | zero => intro i; simp only [walkL, pow2, nth_walk0]; split <;> omega
  | succ k ih => exact nar_step ih

/-- The next list when the first k places have been handed on. -/
def partL (may : Int → Bool) (xs : List Int) (k : Nat) : List Int := stepL may (xs.take k)
theorem nth_take (xs : List Int) (k i : Nat) : nth (xs.take k) i = if i < k then nth xs i else 0 := by
  unfold nth; simp only [List.getD_eq_getElem?_getD, List.getElem?_take]; split <;> rfl
theorem lft_take (xs : List Int) (k i : Nat) : lft (xs.take k) i = if i ≤ k then lft xs i else 0 := by
  cases i with
  | zero => simp [lft]
  | succ i => simp only [lft, nth_take]; rfl
theorem partL_zero (may : Int → Bool) (xs : List Int) : partL may xs 0 = List.replicate 61 0 := by
  apply ext_nth (by simp [partL, stepL_length])
  intro i hi
  rw [partL, stepL_length] at hi
  rw [partL, nth_stepL _ _ _ hi, nth_replicate, lft_take, nth_take]
  cases i with
  | zero => simp [lft]
  | succ i => simp
theorem partL_all (may : Int → Bool) (xs : List Int) (h : xs.length = 61) : partL may xs 61 = stepL may xs := by rw [partL, List.take_of_length_le (by omega)]
theorem partL_length (may : Int → Bool) (xs : List Int) (k : Nat) : (partL may xs k).length = 61 := stepL_length _ _
theorem partL_skip (may : Int → Bool) (xs : List Int) (k : Nat) (h0 : nth xs k = 0) : partL may xs (k + 1) = partL may xs k := by
  apply ext_nth (by simp [partL_length])
  intro i hi
  rw [partL_length] at hi
  rw [partL, partL, nth_stepL _ _ _ hi, nth_stepL _ _ _ hi, lft_take, lft_take, nth_take, nth_take]
  have g : ∀ a b a' b' : Int, a = a' → b = b' → (if may ((i : Int) - 30) then a + b else 0) = if may ((i : Int) - 30) then a' + b' else 0 := fun _ _ _ _ e e' => by rw [e, e']
  apply g
  · by_cases e1 : i = k + 1
    · subst e1; simp [lft, h0]
    · by_cases e2 : i ≤ k
      · rw [if_pos e2, if_pos (by omega)]
      · rw [if_neg e2, if_neg (by omega)]
  · by_cases e1 : i + 1 = k
    · rw [e1, h0]; simp
    · by_cases e2 : i + 1 < k
      · rw [if_pos e2, if_pos (by omega)]
      · rw [if_neg e2, if_neg (by omega)]
def upd (b : Bool) (xs : List Int) (i : Nat) (c : Int) : List Int := if b then xs.set i (nth xs i + c) else xs
theorem upd_length (b : Bool) (xs : List Int) (i : Nat) (c : Int) : (upd b xs i c).length = xs.length := by unfold upd; split <;> simp
theorem nth_upd (b : Bool) (xs : List Int) (i : Nat) (c : Int) (j : Nat) (h : i < xs.length) : nth (upd b xs i c) j = nth xs j + if b = true ∧ i = j then c else 0 := by
  unfold upd
  cases b
  · simp
  · simp only [if_true, true_and]
    rw [nth_set h]
    split
    · rename_i e; subst e; rfl
    · omega
theorem partL_next (may : Int → Bool) (xs : List Int) (k : Nat) (h1 : 1 ≤ k) (h2 : k ≤ 59) :
    partL may xs (k + 1) = upd (may ((k : Int) - 29)) (upd (may ((k : Int) - 31)) (partL may xs k) (k - 1) (nth xs k)) (k + 1) (nth xs k) := by
  apply ext_nth (by simp [partL_length, upd_length])
  intro i hi
  rw [partL_length] at hi
  rw [nth_upd _ _ _ _ _ (by rw [upd_length, partL_length]; omega), nth_upd _ _ _ _ _ (by rw [partL_length]; omega), partL, partL, nth_stepL _ _ _ hi, nth_stepL _ _ _ hi, lft_take, lft_take, nth_take, nth_take]
  by_cases e1 : i = k + 1
  · subst e1
    have ec : ((k + 1 : Nat) : Int) - 30 = (k : Int) - 29 := by omega
    rw [ec]
    simp only [lft]
    rw [if_neg (show ¬ k + 1 ≤ k by omega), if_neg (show ¬ k + 1 + 1 < k + 1 by omega), if_neg (show ¬ k + 1 + 1 < k by omega), if_pos (show k + 1 ≤ k + 1 by omega), if_neg (show ¬ (_ ∧ k - 1 = k + 1) by omega)]
    cases may ((k : Int) - 29) <;> simp
  · by_cases e2 : i + 1 = k
    · subst e2
      have ec : ((i + 1 : Nat) : Int) - 31 = (i : Int) - 30 := by omega
      rw [ec]
      rw [if_pos (show i ≤ i + 1 + 1 by omega), if_pos (show i ≤ i + 1 by omega), if_pos (show i + 1 < i + 1 + 1 by omega), if_neg (show ¬ i + 1 < i + 1 by omega), if_neg (show ¬ (_ ∧ i + 1 + 1 = i) by omega)]
      cases may ((i : Int) - 30) <;> simp
    · rw [if_neg (show ¬ (_ ∧ k + 1 = i) by omega), if_neg (show ¬ (_ ∧ k - 1 = i) by omega)]
      by_cases e3 : i ≤ k
      · rw [if_pos (show i ≤ k + 1 by omega), if_pos e3]
        by_cases e4 : i + 1 < k
        · rw [if_pos (show i + 1 < k + 1 by omega), if_pos e4]; simp
        · rw [if_neg (show ¬ i + 1 < k + 1 by omega), if_neg e4]; simp
      · rw [if_neg (show ¬ i ≤ k + 1 by omega), if_neg e3, if_neg (show ¬ i + 1 < k + 1 by omega), if_neg (show ¬ i + 1 < k by omega)]; simp
theorem nar_part {may : Int → Bool} {d : Nat} {M : Int} {xs : List Int} (h : Nar d M xs) (k : Nat) : Nar (d + 1) (2 * M) (partL may xs k) := by
  apply nar_step
  intro i
  rw [nth_take]
  have := h i
  split <;> omega
/-- The next list within place k: j of its two neighbours have been served. -/
def midL (may : Int → Bool) (xs : List Int) (k : Nat) (c : Int) : Nat → List Int
  | 0 => partL may xs k
  | j + 1 => upd (may ((k : Int) - 31 + 2 * (j : Int))) (midL may xs k c j) (k - 1 + 2 * j) c
theorem midL_length (may : Int → Bool) (xs : List Int) (k : Nat) (c : Int) (j : Nat) : (midL may xs k c j).length = 61 := by
  induction j with
  | zero => exact partL_length _ _ _
  | succ j ih => rw [midL, upd_length]; exact ih
theorem midL_two (may : Int → Bool) (xs : List Int) (k : Nat) (c : Int) (hc : c = nth xs k) (h1 : 1 ≤ k) (h2 : k ≤ 59) : midL may xs k c 2 = partL may xs (k + 1) := by
  rw [partL_next _ _ _ h1 h2, ← hc]
  simp only [midL]
  have e1 : (k : Int) - 31 + 2 * ((0 : Nat) : Int) = (k : Int) - 31 := by omega
  have e2 : (k : Int) - 31 + 2 * ((1 : Nat) : Int) = (k : Int) - 29 := by omega
  rw [e1, e2, show k - 1 + 2 * 0 = k - 1 from rfl, show k - 1 + 2 * 1 = k + 1 by omega]
theorem midL_bd {may : Int → Bool} {xs : List Int} {k d : Nat} {M c : Int} (h : Nar d M xs) (h1 : 1 ≤ k) (h2 : k ≤ 59) (j : Nat) (hj : j ≤ 1) :
    0 ≤ nth (midL may xs k c j) (k - 1 + 2 * j) ∧ nth (midL may xs k c j) (k - 1 + 2 * j) ≤ 2 * M := by
  have hp := nar_part (may := may) h k
  have : j = 0 ∨ j = 1 := by omega
  rcases this with rfl | rfl
  · have := hp (k - 1 + 2 * 0); exact ⟨this.1, this.2.1⟩
  · rw [show midL may xs k c 1 = upd (may ((k : Int) - 31 + 2 * ((0 : Nat) : Int))) (partL may xs k) (k - 1 + 2 * 0) c from rfl]
    rw [nth_upd _ _ _ _ _ (by rw [partL_length]; omega), if_neg (by omega)]
    have := hp (k - 1 + 2 * 1); omega
end Go.Proofs.Ytbekfpgpeaoifaa
