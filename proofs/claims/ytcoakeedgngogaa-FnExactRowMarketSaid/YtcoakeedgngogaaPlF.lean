/- Plain numbers: greatest common divisors and quotients in lowest terms. Nothing of the program. -/
import Derived.Test.YtcoakeedgngogaaNum
namespace Go.Proofs.Ytcoakeedgngogaa

/-- The greatest common divisor, as an Int. -/
def gcdI (a b : Int) : Int := (Int.gcd a b : Int)
theorem gcdI_step (a b : Int) : gcdI b (a.tmod b) = gcdI a b := by
  unfold gcdI Int.gcd
  rw [Int.natAbs_tmod, Nat.gcd_comm a.natAbs b.natAbs, Nat.gcd_rec b.natAbs a.natAbs, Nat.gcd_comm]
theorem gcdI_zero (a : Int) : gcdI a 0 = (a.natAbs : Int) := by simp [gcdI]
theorem gcdI_nn (a b : Int) : 0 ≤ gcdI a b := Int.natCast_nonneg _
theorem gcdI_pos {a b : Int} (h : b ≠ 0) : 0 < gcdI a b := by
  have : 0 < Int.gcd a b := Int.gcd_pos_of_ne_zero_right a h
  unfold gcdI; omega
theorem gcdI_pos_l {a b : Int} (h : a ≠ 0) : 0 < gcdI a b := by
  have : 0 < Int.gcd a b := Int.gcd_pos_of_ne_zero_left b h
  unfold gcdI; omega
theorem gcdI_dvd_l (a b : Int) : gcdI a b ∣ a := Int.gcd_dvd_left ..
theorem gcdI_dvd_r (a b : Int) : gcdI a b ∣ b := Int.gcd_dvd_right ..
theorem gcdI_le_r {a b : Int} (h : b ≠ 0) : gcdI a b ≤ (b.natAbs : Int) := by
  unfold gcdI
  have : Int.gcd a b ≤ b.natAbs := Nat.gcd_le_right _ (by omega)
  omega
theorem gcdI_abs (a b : Int) : gcdI (most a (-a)) b = gcdI a b := by
  unfold gcdI most
  split
  · rfl
  · unfold Int.gcd; rw [Int.natAbs_neg]
/-- Top and bottom of a quotient in lowest terms. -/
def nm (a b : Int) : Int := if b < 0 then -(a / gcdI a b) else a / gcdI a b
def dn (a b : Int) : Int := if b < 0 then -(b / gcdI a b) else b / gcdI a b
theorem tdiv_abs_le (a g : Int) : (a.tdiv g).natAbs ≤ a.natAbs := by rw [Int.natAbs_tdiv]; exact Nat.div_le_self _ _
theorem quot_bd (a b : Int) (hb0 : b ≠ 0) (ha : -4611686018427387904 ≤ a ∧ a ≤ 4611686018427387904) (hb : 1 ≤ b ∧ b ≤ 4611686018427387904) :
    (-4611686018427387904 ≤ nm a b ∧ nm a b ≤ 4611686018427387904) ∧ 1 ≤ dn a b ∧ dn a b ≤ 4611686018427387904 := by
  unfold nm dn
  rw [if_neg (by omega), if_neg (by omega)]
  have h1 := tdiv_abs_le a (gcdI a b)
  rw [Int.tdiv_eq_ediv_of_dvd (gcdI_dvd_l a b)] at h1
  have hp := gcdI_pos (a := a) hb0
  obtain ⟨q, hq⟩ := gcdI_dvd_r a b
  have h2 : b / gcdI a b = q := by
    have := Int.mul_ediv_cancel_left q (show gcdI a b ≠ 0 by omega)
    rwa [← hq] at this
  rw [h2]
  have h3 : 1 ≤ q := by
    rcases Int.lt_or_le 0 q with h | h
    · omega
    · have := Int.mul_nonpos_of_nonneg_of_nonpos (Int.le_of_lt hp) h; omega
  have h4 : q ≤ b := by
    have := Int.mul_le_mul_of_nonneg_right (show 1 ≤ gcdI a b by omega) (show 0 ≤ q by omega)
    omega
  omega
def okF (n d : Int) : Bool := inB n (-1000000000) 1000000000 && decide (d ≤ 1000000)
theorem nm_pos {a b : Int} (h : ¬ b < 0) : nm a b = a.tdiv (gcdI a b) ∧ dn a b = b.tdiv (gcdI a b) := by
  unfold nm dn
  rw [if_neg h, if_neg h]
  exact ⟨(Int.tdiv_eq_ediv_of_dvd (gcdI_dvd_l a b)).symm, (Int.tdiv_eq_ediv_of_dvd (gcdI_dvd_r a b)).symm⟩
theorem nm_neg {a b : Int} (h : b < 0) : nm a b = a.tdiv (-gcdI a b) ∧ dn a b = b.tdiv (-gcdI a b) := by
  unfold nm dn
  rw [if_pos h, if_pos h, Int.tdiv_neg, Int.tdiv_neg]
  exact ⟨by rw [Int.tdiv_eq_ediv_of_dvd (gcdI_dvd_l a b)], by rw [Int.tdiv_eq_ediv_of_dvd (gcdI_dvd_r a b)]⟩
theorem gcdI_neg_r (a b : Int) : gcdI a (-b) = gcdI a b := by unfold gcdI Int.gcd; rw [Int.natAbs_neg]
theorem gcdI_neg_l (a b : Int) : gcdI (-a) b = gcdI a b := by unfold gcdI Int.gcd; rw [Int.natAbs_neg]
theorem nm_flip (a b : Int) (h : b ≠ 0) : nm (-a) (-b) = nm a b ∧ dn (-a) (-b) = dn a b := by
  unfold nm dn
  rw [gcdI_neg_l, gcdI_neg_r]
  have h1 := Int.neg_ediv_of_dvd (gcdI_dvd_l a b)
  have h2 := Int.neg_ediv_of_dvd (gcdI_dvd_r a b)
  rw [h1, h2]
  by_cases hb : b < 0
  · rw [if_pos hb, if_neg (by omega), if_pos hb, if_neg (by omega)]; exact ⟨rfl, rfl⟩
  · rw [if_neg hb, if_pos (by omega), if_neg hb, if_pos (by omega)]; omega
theorem quot_bd' (a b : Int) (hb0 : b ≠ 0) (ha : -4611686018427387904 ≤ a ∧ a ≤ 4611686018427387904) (hb : -4611686018427387904 ≤ b ∧ b ≤ 4611686018427387904) :
    (-4611686018427387904 ≤ nm a b ∧ nm a b ≤ 4611686018427387904) ∧ 1 ≤ dn a b ∧ dn a b ≤ 4611686018427387904 := by
  by_cases h : b < 0
  · have := nm_flip a b hb0
    rw [← this.1, ← this.2]
    exact quot_bd (-a) (-b) (by omega) (by omega) (by omega)
  · exact quot_bd a b hb0 ha (by omega)
/-- Is the pair (x, y) a fraction? -/
def fracB (x y : Int) : Bool := inB x (-1000000000) 1000000000 && inB y 1 1000000 && (gcdI x y == 1)
theorem gcdI_scale (k x y : Int) : gcdI (k * x) (k * y) = (k.natAbs : Int) * gcdI x y := by
  unfold gcdI
  rw [Int.gcd_mul_left]
  simp
theorem nm_scale_pos {k x y : Int} (hk : 0 < k) : nm (k * x) (k * y) = nm x y ∧ dn (k * x) (k * y) = dn x y := by
  have hg : gcdI (k * x) (k * y) = k * gcdI x y := by rw [gcdI_scale]; congr 1; omega
  have hs : (k * y < 0) ↔ y < 0 := by
    constructor
    · intro h; rcases Int.lt_or_le y 0 with h1 | h1
      · exact h1
      · have := Int.mul_nonneg (Int.le_of_lt hk) h1; omega
    · intro h; have := Int.mul_neg_of_pos_of_neg hk h; omega
  unfold nm dn
  rw [hg, Int.mul_ediv_mul_of_pos _ _ hk, Int.mul_ediv_mul_of_pos _ _ hk]
  by_cases h : y < 0
  · rw [if_pos (hs.2 h), if_pos h, if_pos (hs.2 h), if_pos h]; exact ⟨rfl, rfl⟩
  · rw [if_neg (fun h' => h (hs.1 h')), if_neg h, if_neg (fun h' => h (hs.1 h')), if_neg h]; exact ⟨rfl, rfl⟩
theorem nm_scale {k x y : Int} (hk : k ≠ 0) (hy : y ≠ 0) : nm (k * x) (k * y) = nm x y ∧ dn (k * x) (k * y) = dn x y := by
  rcases Int.lt_or_le 0 k with h | h
  · exact nm_scale_pos h
  · have h1 := nm_scale_pos (k := -k) (x := x) (y := y) (by omega)
    have h2 := nm_flip (k * x) (k * y) (Int.mul_ne_zero hk hy)
    rw [← Int.neg_mul, ← Int.neg_mul] at h2
    exact ⟨h2.1.symm.trans h1.1, h2.2.symm.trans h1.2⟩
theorem nm_cross {x y x' y' : Int} (hy : y ≠ 0) (hy' : y' ≠ 0) (h : x * y' = x' * y) : nm x y = nm x' y' ∧ dn x y = dn x' y' := by
  have h1 := nm_scale (x := x) hy' hy
  have h2 := nm_scale (x := x') hy hy'
  rw [show y' * x = y * x' by rw [Int.mul_comm, h, Int.mul_comm], Int.mul_comm y' y] at h1
  exact ⟨h1.1.symm.trans h2.1, h1.2.symm.trans h2.2⟩
theorem gcdI_quot (a b : Int) (hb : b ≠ 0) : gcdI (nm a b) (dn a b) = 1 := by
  have hp := gcdI_pos (a := a) hb
  have h : Int.gcd (a / gcdI a b) (b / gcdI a b) = 1 := by
    have := Int.gcd_ediv_gcd_ediv_gcd (i := a) (j := b) (by unfold gcdI at hp; omega)
    exact this
  unfold nm dn
  split
  · rw [gcdI_neg_l, gcdI_neg_r]; unfold gcdI at h ⊢; rw [h]; rfl
  · unfold gcdI at h ⊢; rw [h]; rfl
theorem dn_pos (a b : Int) (hb : b ≠ 0) : 1 ≤ dn a b := by
  have hp := gcdI_pos (a := a) hb
  obtain ⟨q, hq⟩ := gcdI_dvd_r a b
  have h2 : b / gcdI a b = q := by
    have := Int.mul_ediv_cancel_left q (show gcdI a b ≠ 0 by omega)
    rwa [← hq] at this
  unfold dn
  rw [h2]
  have hq0 : q ≠ 0 := by rintro rfl; omega
  split
  · rcases Int.lt_or_le q 0 with h | h
    · omega
    · have := Int.mul_nonneg (Int.le_of_lt hp) h; omega
  · rcases Int.lt_or_le 0 q with h | h
    · omega
    · have := Int.mul_neg_of_pos_of_neg hp (show q < 0 by omega); omega
/-- What the reference keeps of a pair in lowest terms is what the program takes for a fraction. -/
theorem fracB_quot (a b : Int) (hb : b ≠ 0) : fracB (nm a b) (dn a b) = okF (nm a b) (dn a b) := by
  unfold fracB okF
  rw [gcdI_quot a b hb]
  have := dn_pos a b hb
  simp [inB, this]
/-- The quotient in lowest terms where it is a fraction, else the pair of zeros. -/
def lowN (a b : Int) : Int := if okF (nm a b) (dn a b) then nm a b else 0
def lowD (a b : Int) : Int := if okF (nm a b) (dn a b) then dn a b else 0
def lowB (a b : Int) : Bool := okF (nm a b) (dn a b)
end Go.Proofs.Ytcoakeedgngogaa
