/- Plain numbers: the mean number of rolls of timid play as a quotient; both ways to reckon it agree. Nothing of the program. -/
import Derived.Test.YtbekfpgpeaoifaaPlRu
namespace Go.Proofs.Ytbekfpgpeaoifaa

theorem nm_mul (a b : Int) (hb : b ≠ 0) : nm a b * b = a * dn a b := by
  have hp := gcdI_pos (a := a) hb
  obtain ⟨q1, h1⟩ := gcdI_dvd_l a b
  obtain ⟨q2, h2⟩ := gcdI_dvd_r a b
  have e1 : a / gcdI a b = q1 := by
    have := Int.mul_ediv_cancel_left q1 (show gcdI a b ≠ 0 by omega)
    rwa [← h1] at this
  have e2 : b / gcdI a b = q2 := by
    have := Int.mul_ediv_cancel_left q2 (show gcdI a b ≠ 0 by omega)
    rwa [← h2] at this
  have h3 : q1 * b = a * q2 := by
    have hh : q1 * (gcdI a b * q2) = gcdI a b * q1 * q2 := by grind
    rw [← h1, ← h2] at hh; exact hh
  unfold nm dn
  rw [e1, e2]
  split
  · rw [Int.neg_mul, Int.mul_neg, h3]
  · exact h3
theorem powI_mul (d a : Int) (k : Nat) : powI (d * a) k = powI d k * powI a k := by
  induction k with
  | zero => simp [powI]
  | succ k ih => rw [powI_succ, powI_succ, powI_succ, ih]; grind
/-- Weights of one ratio have one chance. -/
theorem ru_ratio {d a b : Int} (hd : d ≠ 0) (hab : a ≠ b) (i n : Nat) (hi : i ≤ n) :
    ruT (d * a) (d * b) i n = powI d n * ruT a b i n ∧ ruB (d * a) (d * b) n = powI d n * ruB a b n := by
  have h : d * a ≠ d * b := fun e => hab (Int.eq_of_mul_eq_mul_left hd e)
  unfold ruT ruB
  rw [if_neg h, if_neg hab, if_neg h, if_neg hab, powI_mul, powI_mul, powI_mul, powI_mul, powI_mul]
  constructor
  · have e : powI d n = powI d (n - i) * powI d i := by rw [← powI_add]; congr 1; omega
    rw [e]; grind
  · grind
theorem powI_ne {d : Int} (hd : 1 ≤ d) (k : Nat) : powI d k ≠ 0 := by have := powI_pos hd k; omega
/-- The program's pair of chances, whatever common divisor has been struck from it, is in the ratio of the reference's. -/
theorem ratio_cross {d a b t s c : Int} (hd : 1 ≤ d) (hab : a ≠ b) (ha : 1 ≤ d * a ∧ d * a ≤ 20) (hb : 1 ≤ d * b ∧ d * b ≤ 20) (i n : Nat) (hi : i ≤ n) (hn : 1 ≤ n)
    (ht : ruT a b i n = c * t) (hs : ruB a b n = c * s) (hc : c ≠ 0) :
    t * dn (chT (d * a) (d * b) i n) (chB (d * a) (d * b) n) = nm (chT (d * a) (d * b) i n) (chB (d * a) (d * b) n) * s := by
  have h1 := ru_eq ha hb i n hn
  have h2 := ru_ratio (show d ≠ 0 by omega) hab i n hi
  have h3 := nm_mul (ruT (d * a) (d * b) i n) (ruB (d * a) (d * b) n) h1.2.2
  rw [h1.1, h1.2.1, h2.1, h2.2, ht, hs] at h3
  generalize nm (chT (d * a) (d * b) i n) (chB (d * a) (d * b) n) = x at *
  generalize dn (chT (d * a) (d * b) i n) (chB (d * a) (d * b) n) = y at *
  have hp := powI_ne hd n
  have h4 : (powI d n * c) * (x * s) = (powI d n * c) * (t * y) := by grind
  exact (Int.eq_of_mul_eq_mul_left (Int.mul_ne_zero hp hc) h4).symm
/-- Top and bottom of the mean, out of a pair p, q that is the chance. -/
def mnT (a b i n p q : Int) : Int := (a + b) * (i * q - n * p)
def mnB (a b q : Int) : Int := (b - a) * q
theorem mean_eq {d a b i n p q t s : Int} (hd : 1 ≤ d) (hab : a ≠ b) (hq : q ≠ 0) (hs : s ≠ 0) (h : t * q = p * s) :
    nm (mnT a b i n t s) (mnB a b s) = nm (mnT (d * a) (d * b) i n p q) (mnB (d * a) (d * b) q) ∧ dn (mnT a b i n t s) (mnB a b s) = dn (mnT (d * a) (d * b) i n p q) (mnB (d * a) (d * b) q) := by
  have hba : b - a ≠ 0 := by omega
  have hbd : d * b - d * a ≠ 0 := fun e => hab (Int.eq_of_mul_eq_mul_left (show d ≠ 0 by omega) (by omega))
  apply nm_cross
  · exact Int.mul_ne_zero hba hs
  · exact Int.mul_ne_zero hbd hq
  · unfold mnT mnB
    have e1 : n * (t * q) = n * (p * s) := by rw [h]
    grind
theorem chT_bd2 {a b : Int} (ha : 1 ≤ a ∧ a ≤ 20) (hb : 1 ≤ b ∧ b ≤ 20) (i n : Nat) (hi : i ≤ n) (hn1 : 1 ≤ n) (hn : n ≤ 12) : 0 ≤ chT a b i n ∧ chT a b i n ≤ 2457600000000000 := by
  unfold chT
  split
  · omega
  · by_cases h0 : i = 0
    · subst h0; simp [termS]
    · have h1 := powI_le (c := 20) (a := a) (by omega) ha.2 (n - i)
      have h2 := termS_bd ha hb i i (Nat.le_refl _)
      have h3 : powI a (n - i) * termS a b i i ≤ powI 20 (n - i) * (i * powI 20 (i - 1)) := Int.mul_le_mul h1.2 h2.2 (by omega) (by omega)
      have h4 : powI 20 (n - i) * ((i : Int) * powI 20 (i - 1)) = i * powI 20 (n - 1) := by rw [show n - 1 = n - i + (i - 1) by omega, powI_add]; grind
      have h5 : 1 ≤ powI 20 (n - 1) ∧ powI 20 (n - 1) ≤ 204800000000000 := by
        have : ∀ k, k ≤ 11 → 1 ≤ powI 20 k ∧ powI 20 k ≤ 204800000000000 := by decide
        exact this (n - 1) (by omega)
      have h6 : (i : Int) * powI 20 (n - 1) ≤ 12 * 204800000000000 := Int.mul_le_mul (by omega) h5.2 (by omega) (by omega)
      have h7 := Int.mul_nonneg h1.1 (show 0 ≤ termS a b i i by omega)
      omega
theorem chB_bd2 {a b : Int} (ha : 1 ≤ a ∧ a ≤ 20) (hb : 1 ≤ b ∧ b ≤ 20) (n : Nat) (hn1 : 1 ≤ n) (hn : n ≤ 12) : 1 ≤ chB a b n ∧ chB a b n ≤ 2457600000000000 := by
  refine ⟨chB_pos ha hb n hn1, ?_⟩
  unfold chB
  split
  · omega
  · have h2 := termS_bd ha hb n n (Nat.le_refl _)
    have h5 : 1 ≤ powI 20 (n - 1) ∧ powI 20 (n - 1) ≤ 204800000000000 := by
      have : ∀ k, k ≤ 11 → 1 ≤ powI 20 k ∧ powI 20 k ≤ 204800000000000 := by decide
      exact this (n - 1) (by omega)
    have h6 : (n : Int) * powI 20 (n - 1) ≤ 12 * 204800000000000 := Int.mul_le_mul (by omega) h5.2 (by omega) (by omega)
    omega
theorem nm_abs (a b : Int) : (nm a b).natAbs ≤ a.natAbs ∧ (dn a b).natAbs ≤ b.natAbs := by
  by_cases h : b < 0
  · have := nm_neg (a := a) h
    rw [this.1, this.2]; exact ⟨tdiv_abs_le _ _, tdiv_abs_le _ _⟩
  · have := nm_pos (a := a) h
    rw [this.1, this.2]; exact ⟨tdiv_abs_le _ _, tdiv_abs_le _ _⟩
/-- What both RuinMean return. -/
def rmX (a b i n : Int) : Int := mnT a b i n (nm (chT a b i.toNat n.toNat) (chB a b n.toNat)) (dn (chT a b i.toNat n.toNat) (chB a b n.toNat))
def rmY (a b i n : Int) : Int := mnB a b (dn (chT a b i.toNat n.toNat) (chB a b n.toNat))
theorem mul_abs_le {a b M N : Int} (h1 : -M ≤ a ∧ a ≤ M) (h2 : -N ≤ b ∧ b ≤ N) : -(M * N) ≤ a * b ∧ a * b ≤ M * N := by
  have e1 : a.natAbs * b.natAbs ≤ M.natAbs * N.natAbs := Nat.mul_le_mul (by omega) (by omega)
  have e2 : (a * b).natAbs = a.natAbs * b.natAbs := Int.natAbs_mul a b
  have e3 : (M * N).natAbs = M.natAbs * N.natAbs := Int.natAbs_mul M N
  have e4 : 0 ≤ M * N := Int.mul_nonneg (by omega) (by omega)
  omega
/-- Bounds of all that is reckoned on the way to the mean. -/
theorem mean_bd {a b i n p q : Int} (ha : 1 ≤ a ∧ a ≤ 20) (hb : 1 ≤ b ∧ b ≤ 20) (hi : 0 ≤ i ∧ i ≤ 12) (hn : 0 ≤ n ∧ n ≤ 12) (hp : -4096000000000000 ≤ p ∧ p ≤ 4096000000000000) (hq : -4096000000000000 ≤ q ∧ q ≤ 4096000000000000) :
    (-49152000000000000 ≤ i * q ∧ i * q ≤ 49152000000000000) ∧ (-49152000000000000 ≤ n * p ∧ n * p ≤ 49152000000000000) ∧
    (-3932160000000000000 ≤ mnT a b i n p q ∧ mnT a b i n p q ≤ 3932160000000000000) ∧ (-81920000000000000 ≤ mnB a b q ∧ mnB a b q ≤ 81920000000000000) := by
  have h1 := mul_abs_le (a := i) (b := q) (M := 12) (N := 4096000000000000) (by omega) (by omega)
  have h2 := mul_abs_le (a := n) (b := p) (M := 12) (N := 4096000000000000) (by omega) (by omega)
  have h3 := mul_abs_le (a := a + b) (b := i * q - n * p) (M := 40) (N := 98304000000000000) (by omega) (by omega)
  have h4 := mul_abs_le (a := b - a) (b := q) (M := 20) (N := 4096000000000000) (by omega) (by omega)
  unfold mnT mnB
  omega
theorem nm_one (x : Int) : nm x 1 = x ∧ dn x 1 = 1 := by
  have h : gcdI x 1 = 1 := by simp [gcdI]
  unfold nm dn
  rw [h]; simp
theorem low_one {x : Int} (h : -1000000000 ≤ x ∧ x ≤ 1000000000) : lowN x 1 = x ∧ lowD x 1 = 1 ∧ lowB x 1 = true := by
  have h1 := nm_one x
  have h2 : okF x 1 = true := by unfold okF; rw [inB_mk h.1 h.2]; rfl
  unfold lowN lowD lowB
  rw [h1.1, h1.2, h2]; simp
end Go.Proofs.Ytbekfpgpeaoifaa
