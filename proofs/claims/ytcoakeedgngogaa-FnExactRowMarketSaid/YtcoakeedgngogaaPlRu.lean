/- Plain numbers: powers, sums of products of powers, the chance of ruin as a quotient. Nothing of the program. -/
import Derived.Test.YtcoakeedgngogaaPlF
import Derived.Test.YtcoakeedgngogaaPlR
namespace Go.Proofs.Ytcoakeedgngogaa

def termS (a b : Int) (k : Nat) : Nat → Int
  | 0 => 0
  | j + 1 => termS a b k j + powI a j * powI b (k - 1 - j)
theorem powI_succ (a : Int) (k : Nat) : powI a (k + 1) = powI a k * a := rfl
theorem termS_id (a b : Int) (k m : Nat) (h : m ≤ k) : (a - b) * termS a b k m = powI b (k - m) * (powI a m - powI b m) := by
  induction m with
  | zero => simp [termS, powI]
  | succ m ih =>
    have ih := ih (by omega)
    obtain ⟨r, hr⟩ : ∃ r, k = m + 1 + r := ⟨k - (m + 1), by omega⟩
    subst hr
    rw [show m + 1 + r - m = r + 1 by omega] at ih
    rw [termS, show m + 1 + r - 1 - m = r by omega, show m + 1 + r - (m + 1) = r by omega, Int.mul_add, ih, powI_succ, powI_succ, powI_succ]
    grind
theorem terms_id (a b : Int) (k : Nat) : (a - b) * termS a b k k = powI a k - powI b k := by
  rw [termS_id a b k k (Nat.le_refl _)]; simp [powI]
theorem powI_add (a : Int) (j k : Nat) : powI a (j + k) = powI a j * powI a k := by
  induction k with
  | zero => simp [powI]
  | succ k ih => rw [show j + (k + 1) = j + k + 1 by omega, powI_succ, powI_succ, ih, Int.mul_assoc]
theorem powI_pos {a : Int} (h : 1 ≤ a) (k : Nat) : 1 ≤ powI a k := by
  induction k with
  | zero => simp [powI]
  | succ k ih => rw [powI_succ]; have := Int.mul_le_mul ih h (by omega) (by omega); omega
theorem powI_le {a c : Int} (h0 : 0 ≤ a) (h1 : a ≤ c) (k : Nat) : 0 ≤ powI a k ∧ powI a k ≤ powI c k := by
  induction k with
  | zero => simp [powI]
  | succ k ih => simp only [powI]; exact ⟨Int.mul_nonneg ih.1 h0, Int.mul_le_mul ih.2 h1 h0 (by omega)⟩
theorem pow20 (k : Nat) (h : k ≤ 12) : 1 ≤ powI 20 k ∧ powI 20 k ≤ 4096000000000000 := by
  have : ∀ k, k ≤ 12 → 1 ≤ powI 20 k ∧ powI 20 k ≤ 4096000000000000 := by decide
  exact this k h
theorem powI_bd20 {a : Int} (h0 : 1 ≤ a) (h1 : a ≤ 20) (k : Nat) (hk : k ≤ 12) : 1 ≤ powI a k ∧ powI a k ≤ 4096000000000000 := by
  have h2 := powI_pos h0 k
  have h3 := powI_le (c := 20) (by omega) h1 k
  have h4 := pow20 k hk
  omega
theorem prod_bd20 {a b : Int} (ha : 1 ≤ a ∧ a ≤ 20) (hb : 1 ≤ b ∧ b ≤ 20) (j k : Nat) : 1 ≤ powI a j * powI b k ∧ powI a j * powI b k ≤ powI 20 (j + k) := by
  have h1 := powI_pos ha.1 j
  have h2 := powI_pos hb.1 k
  have h3 := powI_le (c := 20) (a := a) (by omega) ha.2 j
  have h4 := powI_le (c := 20) (a := b) (by omega) hb.2 k
  refine ⟨?_, ?_⟩
  · have := Int.mul_le_mul h1 h2 (by omega) (by omega); omega
  · rw [powI_add]; exact Int.mul_le_mul h3.2 h4.2 (by omega) (by omega)
theorem termS_bd {a b : Int} (ha : 1 ≤ a ∧ a ≤ 20) (hb : 1 ≤ b ∧ b ≤ 20) (k m : Nat) (h : m ≤ k) : (m : Int) ≤ termS a b k m ∧ termS a b k m ≤ m * powI 20 (k - 1) := by
  induction m with
  | zero => simp [termS]
  | succ m ih =>
    have ih := ih (by omega)
    have := prod_bd20 ha hb m (k - 1 - m)
    rw [show m + (k - 1 - m) = k - 1 by omega] at this
    rw [termS]
    have e : ((m + 1 : Nat) : Int) * powI 20 (k - 1) = m * powI 20 (k - 1) + powI 20 (k - 1) := by
      rw [Int.natCast_add, Int.add_mul]; simp
    omega
theorem termS_bd12 {a b : Int} (ha : 1 ≤ a ∧ a ≤ 20) (hb : 1 ≤ b ∧ b ≤ 20) (k m : Nat) (h : m ≤ k) (hk : k ≤ 12) : (m : Int) ≤ termS a b k m ∧ termS a b k m ≤ 49152000000000000 := by
  have h1 := termS_bd ha hb k m h
  have h2 := pow20 (k - 1) (by omega)
  have h3 : (m : Int) * powI 20 (k - 1) ≤ 12 * 4096000000000000 := Int.mul_le_mul (by omega) h2.2 (by omega) (by omega)
  omega
/-- The chance of timid play as the program has it: top and bottom. -/
def ruT (a b : Int) (i n : Nat) : Int := if a = b then (i : Int) else powI a (n - i) * (powI a i - powI b i)
def ruB (a b : Int) (n : Nat) : Int := if a = b then (n : Int) else powI a n - powI b n
/-- The same as the reference has it. -/
def chT (a b : Int) (i n : Nat) : Int := if a = b then (i : Int) else powI a (n - i) * termS a b i i
def chB (a b : Int) (n : Nat) : Int := if a = b then (n : Int) else termS a b n n
theorem chB_pos {a b : Int} (ha : 1 ≤ a ∧ a ≤ 20) (hb : 1 ≤ b ∧ b ≤ 20) (n : Nat) (hn : 1 ≤ n) : 1 ≤ chB a b n := by
  unfold chB
  split
  · omega
  · have := (termS_bd ha hb n n (Nat.le_refl _)).1; omega
theorem ru_ch {a b : Int} (i n : Nat) (h : a ≠ b) : ruT a b i n = (a - b) * chT a b i n ∧ ruB a b n = (a - b) * chB a b n := by
  unfold ruT ruB chT chB
  rw [if_neg h, if_neg h, if_neg h, if_neg h, terms_id, ← terms_id a b i]
  exact ⟨by grind, rfl⟩
/-- Both quotients are one. -/
theorem ru_eq {a b : Int} (ha : 1 ≤ a ∧ a ≤ 20) (hb : 1 ≤ b ∧ b ≤ 20) (i n : Nat) (hn : 1 ≤ n) :
    nm (ruT a b i n) (ruB a b n) = nm (chT a b i n) (chB a b n) ∧ dn (ruT a b i n) (ruB a b n) = dn (chT a b i n) (chB a b n) ∧ ruB a b n ≠ 0 := by
  have hc := chB_pos ha hb n hn
  by_cases h : a = b
  · unfold ruT ruB chT chB
    rw [if_pos h, if_pos h, if_pos h, if_pos h]; exact ⟨rfl, rfl, by omega⟩
  · have := ru_ch i n h
    rw [this.1, this.2]
    have h2 := nm_scale (k := a - b) (x := chT a b i n) (y := chB a b n) (by omega) (by omega)
    exact ⟨h2.1, h2.2, Int.mul_ne_zero (by omega) (by omega)⟩
theorem ruT_bd {a b : Int} (ha : 1 ≤ a ∧ a ≤ 20) (hb : 1 ≤ b ∧ b ≤ 20) (i n : Nat) (hi : i ≤ n) (hn : n ≤ 12) : -4096000000000000 ≤ ruT a b i n ∧ ruT a b i n ≤ 4096000000000000 := by
  unfold ruT
  split
  · omega
  · have h1 := prod_bd20 ha ha (n - i) i
    have h2 := prod_bd20 ha hb (n - i) i
    have h3 := pow20 (n - i + i) (by omega)
    rw [Int.mul_sub]; omega
theorem ruB_bd {a b : Int} (ha : 1 ≤ a ∧ a ≤ 20) (hb : 1 ≤ b ∧ b ≤ 20) (n : Nat) (hn : n ≤ 12) : -4096000000000000 ≤ ruB a b n ∧ ruB a b n ≤ 4096000000000000 := by
  unfold ruB
  split
  · omega
  · have := powI_bd20 ha.1 ha.2 n hn
    have := powI_bd20 hb.1 hb.2 n hn
    omega
theorem chT_bd {a b : Int} (ha : 1 ≤ a ∧ a ≤ 20) (hb : 1 ≤ b ∧ b ≤ 20) (i n : Nat) (hi : i ≤ n) (hn : n ≤ 12) : 0 ≤ chT a b i n ∧ chT a b i n ≤ 49152000000000000 := by
  unfold chT
  split
  · omega
  · by_cases h0 : i = 0
    · subst h0; simp [termS]
    · have h1 := powI_le (c := 20) (a := a) (by omega) ha.2 (n - i)
      have h2 := termS_bd ha hb i i (Nat.le_refl _)
      have h3 : powI a (n - i) * termS a b i i ≤ powI 20 (n - i) * (i * powI 20 (i - 1)) := Int.mul_le_mul h1.2 h2.2 (by omega) (by omega)
      have h4 : powI 20 (n - i) * ((i : Int) * powI 20 (i - 1)) = i * powI 20 (n - i + (i - 1)) := by rw [powI_add]; grind
      have h5 := pow20 (n - i + (i - 1)) (by omega)
      have h6 : (i : Int) * powI 20 (n - i + (i - 1)) ≤ 12 * 4096000000000000 := Int.mul_le_mul (by omega) h5.2 (by omega) (by omega)
      have h7 := Int.mul_nonneg h1.1 (show 0 ≤ termS a b i i by omega)
      omega
end Go.Proofs.Ytcoakeedgngogaa
