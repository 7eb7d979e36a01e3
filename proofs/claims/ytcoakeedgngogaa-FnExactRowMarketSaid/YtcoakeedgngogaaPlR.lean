/- Plain lists: sums, and the chances of fortunes behind some rolls. Nothing of the program. -/
import Derived.Test.YtcoakeedgngogaaBase
namespace Go.Proofs.Ytcoakeedgngogaa

def sumL : List Int → Int
  | [] => 0
  | x :: xs => x + sumL xs
theorem sumL_append (xs ys : List Int) : sumL (xs ++ ys) = sumL xs + sumL ys := by
  induction xs with
  | nil => simp [sumL]
  | cons x xs ih => simp only [List.cons_append, sumL, ih]; omega
theorem sumL_replicate (n : Nat) : sumL (List.replicate n 0) = 0 := by
  induction n with
  | zero => rfl
  | succ n ih => simp only [List.replicate_succ, sumL, ih]; rfl
theorem nth_cons_zero (x : Int) (xs : List Int) : nth (x :: xs) 0 = x := rfl
theorem nth_cons_succ (x : Int) (xs : List Int) (i : Nat) : nth (x :: xs) (i + 1) = nth xs i := by simp [nth, List.getD]
theorem sumL_set : ∀ (xs : List Int) (i : Nat) (v : Int), i < xs.length → sumL (xs.set i v) = sumL xs - nth xs i + v
  | [], i, _, h => by simp at h
  | x :: xs, 0, v, _ => by simp only [List.set_cons_zero, sumL, nth_cons_zero]; omega
  | x :: xs, i + 1, v, h => by
    simp only [List.set_cons_succ, sumL, nth_cons_succ]
    rw [sumL_set xs i v (by simpa using h)]; omega
theorem sumL_take_succ (xs : List Int) (i : Nat) (h : i < xs.length) : sumL (xs.take (i + 1)) = sumL (xs.take i) + nth xs i := by
  rw [take_succ_nth h, sumL_append]; simp [sumL]
def NN (xs : List Int) : Prop := ∀ i, 0 ≤ nth xs i
theorem NN.tail {x : Int} {xs : List Int} (h : NN (x :: xs)) : NN xs := fun i => by have := h (i + 1); rwa [nth_cons_succ] at this
theorem sumL_nn : ∀ {xs : List Int}, NN xs → 0 ≤ sumL xs
  | [], _ => by simp [sumL]
  | x :: xs, h => by have h0 := h 0; have := sumL_nn h.tail; rw [nth_cons_zero] at h0; simp only [sumL]; omega
theorem nth_le_sumL : ∀ {xs : List Int}, NN xs → ∀ i, nth xs i ≤ sumL xs
  | [], _, i => by rw [nth_ge (by simp)]; simp [sumL]
  | x :: xs, h, 0 => by have := sumL_nn h.tail; rw [nth_cons_zero]; simp only [sumL]; omega
  | x :: xs, h, i + 1 => by have h0 := h 0; have := nth_le_sumL h.tail i; rw [nth_cons_zero] at h0; rw [nth_cons_succ]; simp only [sumL]; omega
theorem NN.take {xs : List Int} (h : NN xs) (k : Nat) : NN (xs.take k) := fun i => by
  have := h i
  unfold nth at this ⊢
  simp only [List.getD_eq_getElem?_getD, List.getElem?_take] at this ⊢
  split
  · exact this
  · simp
theorem NN.set {xs : List Int} (h : NN xs) {i : Nat} {v : Int} (hi : i < xs.length) (hv : 0 ≤ v) : NN (xs.set i v) := fun j => by
  rw [nth_set hi]
  split
  · exact hv
  · exact h j
theorem NN.zeros (n : Nat) : NN (List.replicate n 0) := fun i => by rw [nth_replicate]; exact Int.le_refl 0
theorem sumL_take_le {xs : List Int} (h : NN xs) (k : Nat) : sumL (xs.take k) ≤ sumL xs := by
  have : sumL xs = sumL (xs.take k) + sumL (xs.drop k) := by rw [← sumL_append, List.take_append_drop]
  have h2 : NN (xs.drop k) := fun i => by
    have := h (k + i)
    unfold nth at this ⊢
    simpa only [List.getD_eq_getElem?_getD, List.getElem?_drop] using this
  have := sumL_nn h2
  omega

/-- One place's part of a roll. -/
def roll1 (a b : Int) (now o : List Int) (i : Nat) : List Int :=
  if i = 0 ∨ i + 1 = now.length then o.set i (nth o i + (a + b) * nth now i)
  else
    let o1 := o.set (i + 1) (nth o (i + 1) + a * nth now i)
    o1.set (i - 1) (nth o1 (i - 1) + b * nth now i)
def rollP (a b : Int) (now : List Int) : Nat → List Int
  | 0 => List.replicate now.length 0
  | i + 1 => roll1 a b now (rollP a b now i) i
def rollK (a b : Int) (n i : Nat) : Nat → List Int
  | 0 => (List.replicate (n + 1) 0).set i 1
  | k + 1 => rollP a b (rollK a b n i k) (n + 1)
theorem roll1_length (a b : Int) (now o : List Int) (i : Nat) : (roll1 a b now o i).length = o.length := by unfold roll1; split <;> simp
theorem rollP_length (a b : Int) (now : List Int) (i : Nat) : (rollP a b now i).length = now.length := by
  induction i with
  | zero => simp [rollP]
  | succ i ih => rw [rollP, roll1_length, ih]
theorem rollK_length (a b : Int) (n i k : Nat) : (rollK a b n i k).length = n + 1 := by
  induction k with
  | zero => simp [rollK]
  | succ k ih => rw [rollK, rollP_length, ih]
theorem roll1_sum (a b : Int) (now o : List Int) (i : Nat) (ho : o.length = now.length) (hi : i < now.length) : sumL (roll1 a b now o i) = sumL o + (a + b) * nth now i := by
  unfold roll1
  split
  · rw [sumL_set _ _ _ (by omega)]; omega
  · rw [sumL_set _ _ _ (by simp; omega), sumL_set _ _ _ (by omega), Int.add_mul]; omega
theorem roll1_nn {a b : Int} {now o : List Int} {i : Nat} (ha : 0 ≤ a) (hb : 0 ≤ b) (hn : NN now) (ho : NN o) (hl : o.length = now.length) (hi : i < now.length) : NN (roll1 a b now o i) := by
  have hc := hn i
  have h1 : 0 ≤ a * nth now i := Int.mul_nonneg ha hc
  have h2 : 0 ≤ b * nth now i := Int.mul_nonneg hb hc
  have h3 : 0 ≤ (a + b) * nth now i := Int.mul_nonneg (by omega) hc
  unfold roll1
  split
  · exact ho.set (by omega) (by have := ho i; omega)
  · have hs := ho.set (i := i + 1) (v := nth o (i + 1) + a * nth now i) (by omega) (by have := ho (i + 1); omega)
    exact hs.set (by simp; omega) (by have := hs (i - 1); omega)
theorem rollP_sum (a b : Int) (now : List Int) (i : Nat) (hi : i ≤ now.length) : sumL (rollP a b now i) = (a + b) * sumL (now.take i) := by
  induction i with
  | zero => rw [rollP, sumL_replicate]; simp [sumL]
  | succ i ih => rw [rollP, roll1_sum _ _ _ _ _ (rollP_length _ _ _ _) (by omega), ih (by omega), sumL_take_succ _ _ (by omega), Int.mul_add]
theorem rollP_nn {a b : Int} {now : List Int} (ha : 0 ≤ a) (hb : 0 ≤ b) (hn : NN now) (i : Nat) (hi : i ≤ now.length) : NN (rollP a b now i) := by
  induction i with
  | zero => exact NN.zeros _
  | succ i ih => exact roll1_nn ha hb hn (ih (by omega)) (rollP_length _ _ _ _) (by omega)
def powI (a : Int) : Nat → Int
  | 0 => 1
  | k + 1 => powI a k * a
theorem rollK_nn {a b : Int} (ha : 0 ≤ a) (hb : 0 ≤ b) (n i k : Nat) : NN (rollK a b n i k) := by
  induction k with
  | zero => intro j; rw [rollK]; by_cases h : i < n + 1
            · rw [nth_set (by simpa using h), nth_replicate]; split <;> omega
            · rw [List.set_eq_of_length_le (by simp; omega), nth_replicate]; omega
  | succ k ih => exact rollP_nn ha hb ih _ (by rw [rollK_length]; exact Nat.le_refl _)
theorem rollK_sum (a b : Int) (n i k : Nat) (hi : i ≤ n) : sumL (rollK a b n i k) = powI (a + b) k := by
  induction k with
  | zero => rw [rollK, sumL_set _ _ _ (by simp; omega), sumL_replicate, nth_replicate]; rfl
  | succ k ih => rw [rollK, rollP_sum _ _ _ _ (by rw [rollK_length]; exact Nat.le_refl _), List.take_of_length_le (by rw [rollK_length]; exact Nat.le_refl _), ih, powI, Int.mul_comm]
theorem powI_bd (a : Int) (h0 : 0 ≤ a) (h1 : a ≤ 40) (k : Nat) : 0 ≤ powI a k ∧ powI a k ≤ powI 40 k := by
  induction k with
  | zero => simp [powI]
  | succ k ih => simp only [powI]; exact ⟨Int.mul_nonneg ih.1 h0, Int.mul_le_mul ih.2 h1 h0 (by omega)⟩
theorem powI40 (k : Nat) (h : k ≤ 8) : powI 40 k ≤ 6553600000000 := by
  have : ∀ k, k ≤ 8 → powI 40 k ≤ 6553600000000 := by decide
  exact this k h
theorem rollK_bd {a b : Int} (ha : 0 ≤ a) (hb : 0 ≤ b) (h : a + b ≤ 40) (n i k : Nat) (hi : i ≤ n) (hk : k ≤ 8) : NN (rollK a b n i k) ∧ sumL (rollK a b n i k) ≤ 6553600000000 := by
  refine ⟨rollK_nn ha hb n i k, ?_⟩
  rw [rollK_sum _ _ _ _ _ hi]
  have := powI_bd (a + b) (by omega) h k
  have := powI40 k hk
  omega
/-- What is added and held within a roll stays small. -/
theorem roll_bd {a b : Int} {now : List Int} {M : Int} (ha : 0 ≤ a) (hb : 0 ≤ b) (h : a + b ≤ 40) (hn : NN now) (hM : sumL now ≤ M) (i : Nat) (hi : i < now.length) :
    NN (rollP a b now i) ∧ 0 ≤ nth now i ∧ nth now i ≤ M ∧ 0 ≤ a * nth now i ∧ 0 ≤ b * nth now i ∧ (a + b) * nth now i = a * nth now i + b * nth now i ∧ sumL (rollP a b now i) + (a + b) * nth now i ≤ 40 * M := by
  have h1 := nth_le_sumL hn i
  have h2 := rollP_sum a b now (i + 1) (by omega)
  rw [rollP, roll1_sum _ _ _ _ _ (rollP_length _ _ _ _) hi] at h2
  have h3 := sumL_take_le hn (i + 1)
  have h4 := sumL_nn (hn.take (i + 1))
  have h5 : (a + b) * sumL (now.take (i + 1)) ≤ 40 * M := Int.mul_le_mul h (by omega) h4 (by omega)
  refine ⟨rollP_nn ha hb hn i (by omega), hn i, by omega, Int.mul_nonneg ha (hn i), Int.mul_nonneg hb (hn i), Int.add_mul _ _ _, by omega⟩
end Go.Proofs.Ytcoakeedgngogaa
