/- Plain numbers: walks counted step by step are told by binomial numbers, by mirroring. Nothing of the program. -/
import Derived.Test.YtbekfpgpeaoifaaPaths
namespace Go.Proofs.Ytbekfpgpeaoifaa

theorem all_of {n : Nat} {p : Nat → Bool} (h : (List.range n).all p = true) (i : Nat) (hi : i < n) : p i = true := by
  simp only [List.all_eq_true, List.mem_range] at h
  exact h i hi
theorem paths_out (k : Nat) (x : Int) (h : x < -(k : Int) ∨ (k : Int) < x) : paths k x = 0 := by
  unfold paths; rw [inB_no h]; simp
theorem pascal_check : ((List.range 30).all fun k => (List.range 63).all fun j => paths (k + 1) ((j : Int) - 31) == paths k ((j : Int) - 31 - 1) + paths k ((j : Int) - 31 + 1)) = true := by decide +kernel
theorem pascal (k : Nat) (x : Int) (h : k < 30) : paths (k + 1) x = paths k (x - 1) + paths k (x + 1) := by
  by_cases hx : -31 ≤ x ∧ x ≤ 31
  · have := all_of (all_of pascal_check k h) (x + 31).toNat (by omega)
    rw [beq_iff_eq, show ((x + 31).toNat : Int) - 31 = x by omega] at this
    exact this
  · rw [paths_out _ _ (by omega), paths_out _ _ (by omega), paths_out _ _ (by omega)]; rfl
theorem sym_check : ((List.range 31).all fun k => (List.range 61).all fun j => paths k ((j : Int) - 30) == paths k (-((j : Int) - 30))) = true := by decide +kernel
theorem paths_sym (k : Nat) (x : Int) (h : k ≤ 30) : paths k (-x) = paths k x := by
  by_cases hx : -30 ≤ x ∧ x ≤ 30
  · have := all_of (all_of sym_check k (by omega)) (x + 30).toNat (by omega)
    rw [beq_iff_eq, show ((x + 30).toNat : Int) - 30 = x by omega] at this
    exact this.symm
  · rw [paths_out _ _ (by omega), paths_out _ _ (by omega)]
theorem paths_0 (x : Int) : paths 0 x = if x = 0 then 1 else 0 := by
  split
  · subst x; decide +kernel
  · exact paths_out _ _ (by omega)

theorem walkL_is (may : Int → Int → Bool) (A : Nat → Int → Int) (m : Nat)
    (h0 : ∀ x, -30 ≤ x → x ≤ 30 → A 0 x = if x = 0 then 1 else 0)
    (hs : ∀ k, k < m → ∀ x, -30 ≤ x → x ≤ 30 → A (k + 1) x = if may ((k : Int) + 1) x then A k (x - 1) + A k (x + 1) else 0)
    (ho : ∀ k, k < m → A k 31 = 0 ∧ A k (-31) = 0) :
    ∀ k, k ≤ m → ∀ j, j < 61 → nth (walkL may k) j = A k ((j : Int) - 30) := by
  intro k
  induction k with
  | zero =>
    intro _ j hj
    rw [walkL, nth_walk0, h0 _ (by omega) (by omega)]
    by_cases e : 30 = j
    · rw [if_pos e, if_pos (by omega)]
    · rw [if_neg e, if_neg (by omega)]
  | succ k ih =>
    intro hk j hj
    have ih := ih (by omega)
    have ho := ho k (by omega)
    rw [walkL, nth_stepL _ _ _ hj, hs k (by omega) _ (by omega) (by omega)]
    have e1 : lft (walkL may k) j = A k ((j : Int) - 30 - 1) := by
      cases j with
      | zero => rw [show ((0 : Nat) : Int) - 30 - 1 = -31 by omega, ho.2]; rfl
      | succ i => rw [lft, ih i (by omega)]; congr 1; omega
    have e2 : nth (walkL may k) (j + 1) = A k ((j : Int) - 30 + 1) := by
      by_cases e : j = 60
      · subst e; rw [show ((60 : Nat) : Int) - 30 + 1 = 31 by omega, ho.1]; exact nth_ge (by rw [walkL_length]; omega)
      · rw [ih (j + 1) (by omega)]; congr 1; omega
    rw [e1, e2]
theorem came_is (may : Int → Int → Bool) (A : Nat → Int → Int) (m : Nat)
    (h0 : ∀ x, -30 ≤ x → x ≤ 30 → A 0 x = if x = 0 then 1 else 0)
    (hs : ∀ k, k < m → ∀ x, -30 ≤ x → x ≤ 30 → A (k + 1) x = if may ((k : Int) + 1) x then A k (x - 1) + A k (x + 1) else 0)
    (ho : ∀ k, k < m → A k 31 = 0 ∧ A k (-31) = 0) (x : Int) : came (walkL may m) x = if inB x (-30) 30 then A m x else 0 := by
  unfold came
  cases hb : inB x (-30) 30
  · rfl
  · have := inB_t hb
    simp only [if_true]
    rw [walkL_is may A m h0 hs ho m (Nat.le_refl _) _ (by omega)]
    congr 1; omega

theorem pathCount_eq (m : Nat) (x : Int) (hm : m ≤ 30) : came (walkL (fun _ _ => true) m) x = paths m x := by
  rw [came_is _ paths m (fun x _ _ => paths_0 x) (fun k hk x _ _ => by rw [pascal k x (by omega)]; rfl) (fun k hk => ⟨paths_out _ _ (by omega), paths_out _ _ (by omega)⟩)]
  split
  · rfl
  · rename_i h
    have := inB_f (by simpa using h)
    exact (paths_out _ _ (by omega)).symm

/-- Walks above a floor. -/
def aboveA (fl : Int) (k : Nat) (x : Int) : Int := if fl ≤ x then paths k x - paths k (2 * (fl - 1) - x) else 0
theorem above_came (m : Nat) (fl x : Int) (hm : m ≤ 30) (h1 : fl ≤ 0) : came (walkL (fun _ y => decide (fl ≤ y)) m) x = if inB x (-30) 30 then aboveA fl m x else 0 := by
  refine came_is _ (aboveA fl) m (fun x _ _ => ?_) (fun k hk x _ _ => ?_) (fun k hk => ⟨?_, ?_⟩) x
  · unfold aboveA
    rw [paths_0, paths_0]
    by_cases h : fl ≤ x
    · rw [if_pos h, if_neg (show ¬ 2 * (fl - 1) - x = 0 by omega)]; omega
    · rw [if_neg h, if_neg (show ¬ x = 0 by omega)]
  · simp only [decide_eq_true_eq]
    by_cases h : fl ≤ x
    · rw [if_pos h]
      unfold aboveA
      rw [if_pos h, if_pos (show fl ≤ x + 1 by omega), pascal k x (by omega), pascal k _ (by omega), show 2 * (fl - 1) - (x + 1) = 2 * (fl - 1) - x - 1 by omega]
      by_cases h2 : fl ≤ x - 1
      · rw [if_pos h2, show 2 * (fl - 1) - (x - 1) = 2 * (fl - 1) - x + 1 by omega]; omega
      · rw [if_neg h2, show x = fl by omega, show 2 * (fl - 1) - fl + 1 = fl - 1 by omega]; omega
    · rw [if_neg h]; unfold aboveA; rw [if_neg h]
  · unfold aboveA; split
    · rw [paths_out _ _ (by omega), paths_out _ _ (by omega)]; rfl
    · rfl
  · unfold aboveA; split
    · rw [paths_out _ _ (by omega), paths_out _ _ (by omega)]; rfl
    · rfl
theorem pathsAbove_eq (m : Nat) (fl x : Int) (hm : m ≤ 30) (h1 : fl ≤ 0) (h2 : -30 ≤ fl) :
    came (walkL (fun _ y => decide (fl ≤ y)) m) x = if inB x fl m then paths m x - paths m (2 * (fl - 1) - x) else 0 := by
  rw [above_came m fl x hm h1]
  cases hb : inB x fl m
  · have := inB_f hb
    simp only [Bool.false_eq_true, if_false]
    split
    · unfold aboveA; split
      · rw [paths_out _ _ (by omega), paths_out _ _ (by omega)]; rfl
      · rfl
    · rfl
  · have := inB_t hb
    rw [inB_mk (by omega) (by omega)]
    simp only [if_true]
    unfold aboveA; rw [if_pos this.1]

/-- Votes: the first one is always ahead. -/
def ballotA : Nat → Int → Int
  | 0, x => if x = 0 then 1 else 0
  | k + 1, x => if 0 < x then paths k (x - 1) - paths k (x + 1) else 0
theorem ballot_came (m : Nat) (x : Int) (hm : m ≤ 30) : came (walkL (fun _ y => decide (0 < y)) m) x = if inB x (-30) 30 then ballotA m x else 0 := by
  refine came_is _ ballotA m (fun x _ _ => rfl) (fun k hk x _ _ => ?_) (fun k hk => ⟨?_, ?_⟩) x
  · simp only [decide_eq_true_eq]
    by_cases h : 0 < x
    · rw [if_pos h]
      cases k with
      | zero =>
        simp only [ballotA]
        rw [if_pos h, paths_0, paths_0]
        rw [if_neg (show ¬ x + 1 = 0 by omega)]; omega
      | succ k =>
        simp only [ballotA]
        rw [if_pos h, if_pos (show 0 < x + 1 by omega), pascal k (x - 1) (by omega), pascal k (x + 1) (by omega), show x - 1 + 1 = x by omega, show x + 1 - 1 = x by omega]
        by_cases h2 : 0 < x - 1
        · rw [if_pos h2]; omega
        · rw [if_neg h2, show x = 1 by omega]
          have := paths_sym k 1 (by omega)
          rw [show (1 : Int) - 1 - 1 = -1 by omega, this]; omega
    · rw [if_neg h]; simp only [ballotA]; rw [if_neg h]
  · cases k with
    | zero => rfl
    | succ k => simp only [ballotA]; rw [if_pos (by omega), paths_out _ _ (by omega), paths_out _ _ (by omega)]; rfl
  · cases k with
    | zero => rfl
    | succ k => simp only [ballotA]; rw [if_neg (by omega)]
/-- What the reference says of votes. -/
def ballotS (p q : Nat) : Int := if p + q = 0 then 1 else most 0 ((p : Int) - q) * choose (p + q) p / ((p : Int) + q)
theorem ballot_check : ((List.range 31).all fun p => (List.range 31).all fun q => (decide (30 < p + q)) || (ballotA (p + q) ((p : Int) - q) == ballotS p q)) = true := by decide +kernel
theorem ballot_eq (p q : Nat) (h : p + q ≤ 30) : came (walkL (fun _ y => decide (0 < y)) (p + q)) ((p : Int) - q) = ballotS p q := by
  rw [ballot_came _ _ h, inB_mk (by omega) (by omega), if_pos rfl]
  have := all_of (all_of ballot_check p (by omega)) q (by omega)
  simpa [show ¬ 30 < p + q by omega] using this
/-- What the reference says of votes that may be equal. -/
def tieS (p q : Nat) : Int := most 0 ((p : Int) + 1 - q) * choose (p + q) p / ((p : Int) + 1)
theorem tie_check : ((List.range 31).all fun p => (List.range 31).all fun q => (decide (30 < p + q)) || (aboveA 0 (p + q) ((p : Int) - q) == tieS p q)) = true := by decide +kernel
theorem tie_eq (p q : Nat) (h : p + q ≤ 30) : came (walkL (fun _ y => decide (0 ≤ y)) (p + q)) ((p : Int) - q) = tieS p q := by
  rw [above_came (p + q) 0 _ h (by omega), inB_mk (by omega) (by omega), if_pos rfl]
  have := all_of (all_of tie_check p (by omega)) q (by omega)
  simpa [show ¬ 30 < p + q by omega] using this

/-- Walks that come to z for the first time behind m steps. -/
def avoidA (z : Int) (k : Nat) (y : Int) : Int := if 0 < z ∧ y < z ∨ z < 0 ∧ z < y then paths k y - paths k (2 * z - y) else 0
def firstA (z : Int) (m k : Nat) (y : Int) : Int := if k < m then avoidA z k y else avoidA z (m - 1) (y - 1) + avoidA z (m - 1) (y + 1)
theorem avoid_step (z : Int) (k : Nat) (y : Int) (hk : k < 30) : avoidA z (k + 1) y = if y ≠ z then avoidA z k (y - 1) + avoidA z k (y + 1) else 0 := by
  unfold avoidA
  by_cases h : 0 < z ∧ y < z ∨ z < 0 ∧ z < y
  · rw [if_pos h, if_pos (show y ≠ z by omega), pascal k y hk, pascal k (2 * z - y) hk, show 2 * z - (y - 1) = 2 * z - y + 1 by omega, show 2 * z - (y + 1) = 2 * z - y - 1 by omega]
    by_cases h1 : 0 < z ∧ y - 1 < z ∨ z < 0 ∧ z < y - 1
    · rw [if_pos h1]
      by_cases h2 : 0 < z ∧ y + 1 < z ∨ z < 0 ∧ z < y + 1
      · rw [if_pos h2]; omega
      · rw [if_neg h2, show y = z - 1 by omega, show 2 * z - (z - 1) - 1 = z by omega, show z - 1 + 1 = z by omega]; omega
    · rw [if_neg h1, if_pos (show 0 < z ∧ y + 1 < z ∨ z < 0 ∧ z < y + 1 by omega), show y = z + 1 by omega, show 2 * z - (z + 1) + 1 = z by omega, show z + 1 - 1 = z by omega]; omega
  · rw [if_neg h]
    by_cases e : y = z
    · rw [if_neg (by omega)]
    · rw [if_pos e, if_neg (show ¬ (0 < z ∧ y - 1 < z ∨ z < 0 ∧ z < y - 1) by omega), if_neg (show ¬ (0 < z ∧ y + 1 < z ∨ z < 0 ∧ z < y + 1) by omega)]; rfl
theorem avoid_0 (z y : Int) (hz : z ≠ 0) : avoidA z 0 y = if y = 0 then 1 else 0 := by
  unfold avoidA
  rw [paths_0, paths_0]
  by_cases h : 0 < z ∧ y < z ∨ z < 0 ∧ z < y
  · rw [if_pos h, if_neg (show ¬ 2 * z - y = 0 by omega)]; omega
  · rw [if_neg h, if_neg (by omega)]
theorem first_came (m : Nat) (z x : Int) (hm : m ≤ 30) (hm1 : 1 ≤ m) (hz : z ≠ 0) :
    came (walkL (fun s y => y != z || s == (m : Int)) m) x = if inB x (-30) 30 then firstA z m m x else 0 := by
  refine came_is _ (firstA z m) m (fun x _ _ => ?_) (fun k hk x _ _ => ?_) (fun k hk => ?_) x
  · unfold firstA; rw [if_pos (by omega)]; exact avoid_0 z x hz
  · unfold firstA
    rw [if_pos hk, if_pos hk]
    by_cases h : k + 1 < m
    · rw [if_pos h, avoid_step z k x (by omega)]
      have : ((k : Int) + 1 == (m : Int)) = false := by rw [beq_eq_false_iff_ne]; omega
      simp [this, bne_iff_ne]
    · rw [if_neg h, show m - 1 = k by omega]
      have : ((k : Int) + 1 == (m : Int)) = true := by rw [beq_iff_eq]; omega
      simp [this]
  · unfold firstA; rw [if_pos hk, if_pos hk]
    unfold avoidA
    constructor
    · split
      · by_cases h : -30 ≤ 2 * z - 31 ∧ 2 * z - 31 ≤ 30
        · omega
        · rw [paths_out _ _ (by omega), paths_out _ _ (by omega)]; rfl
      · rfl
    · split
      · by_cases h : -30 ≤ 2 * z - -31 ∧ 2 * z - -31 ≤ 30
        · omega
        · rw [paths_out _ _ (by omega), paths_out _ _ (by omega)]; rfl
      · rfl
def firstS (m : Nat) (x : Int) : Int := paths m x * most x (-x) / m
theorem first_check : ((List.range 31).all fun m => (List.range 61).all fun j => m == 0 || j == 30 || (firstA ((j : Int) - 30) m m ((j : Int) - 30) == firstS m ((j : Int) - 30))) = true := by decide +kernel
theorem first_eq (m : Nat) (x : Int) (hm : m ≤ 30) (hm1 : 1 ≤ m) (hx : x ≠ 0) :
    came (walkL (fun s y => y != x || s == (m : Int)) m) x = if inB x (-m) m then firstS m x else 0 := by
  rw [first_came m x x hm hm1 hx]
  cases hb : inB x (-30) 30
  · have := inB_f hb
    rw [inB_no (n := x) (lo := -m) (by omega)]
    rfl
  · have h30 := inB_t hb
    have := all_of (all_of first_check m (by omega)) (x + 30).toNat (by omega)
    rw [show ((x + 30).toNat : Int) - 30 = x by omega] at this
    simp only [Bool.or_eq_true, beq_iff_eq] at this
    simp only [if_true]
    have h : firstA x m m x = firstS m x := by omega
    rw [h]
    cases hc : inB x (-m) m
    · have := inB_f hc
      unfold firstS; rw [paths_out _ _ (by omega)]; simp
    · rfl
end Go.Proofs.Ytbekfpgpeaoifaa
