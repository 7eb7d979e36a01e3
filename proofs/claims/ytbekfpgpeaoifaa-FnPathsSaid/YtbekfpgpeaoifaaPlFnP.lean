/- Plain numbers and contracts for the law FnPaths: walks above a floor, first passages and votes. No conditions but those stated. -/
import Derived.Test.YtbekfpgpeaoifaaPlP
import Derived.Test.YtbekfpgpeaoifaaPathsTop
namespace Go.Proofs.Ytbekfpgpeaoifaa
open Go.RowKit

def aB (m fl : Int) : Bool := inB m 0 30 && inB fl (-30) 0
def aV (m x fl : Int) : Int := if inB m 0 30 && inB fl (-30) 0 then (if inB x fl m then paths m.toNat x - paths m.toNat (2 * (fl - 1) - x) else 0) else 0
def cV (m x : Int) : Int := if inB m 0 30 then paths m.toNat x else 0
def fB (m x : Int) : Bool := inB m 1 30 && x != 0
def fV (m x : Int) : Int := if inB m 1 30 && x != 0 then (if inB x (-m) m then paths m.toNat x * most x (-x) / m else 0) else 0
def bV (p q : Int) : Int := if votes p q then (if p + q = 0 then 1 else most 0 (p - q) * choose (p + q).toNat p / (p + q)) else 0
def tV (p q : Int) : Int := if votes p q then most 0 (p + 1 - q) * choose (p + q).toNat p / (p + 1) else 0
theorem a_heq (m x fl : Int) : (if inB m 0 30 && inB fl (-30) 0 then came (walkL (fun _ y => decide (fl ≤ y)) m.toNat) x else 0) = aV m x fl := by
  unfold aV
  cases h : inB m 0 30
  · rfl
  · cases h2 : inB fl (-30) 0
    · rfl
    · have := inB_t h
      have := inB_t h2
      simp only [Bool.and_self, if_true]
      rw [pathsAbove_eq _ _ _ (by omega) (by omega) (by omega), show ((m.toNat : Nat) : Int) = m by omega]
theorem c_heq (m x : Int) : (if inB m 0 30 then came (walkL (fun _ _ => true) m.toNat) x else 0) = cV m x := by
  unfold cV
  cases h : inB m 0 30
  · rfl
  · have := inB_t h
    simp only [if_true]
    exact pathCount_eq _ _ (by omega)
theorem f_heq (m x : Int) : (if inB m 1 30 && x != 0 then came (walkL (fun s y => y != x || s == m) m.toNat) x else 0) = fV m x := by
  unfold fV
  cases h : inB m 1 30
  · rfl
  · have := inB_t h
    by_cases hx : x = 0
    · subst hx; rfl
    · obtain ⟨k, rfl⟩ : ∃ k : Nat, m = k := ⟨m.toNat, by omega⟩
      rw [show (x != 0) = true by simpa using hx]
      simp only [Bool.and_self, if_true]
      rw [show (k : Int).toNat = k by omega, first_eq k x (by omega) (by omega) hx, firstS]
theorem b_heq (p q : Int) : (if votes p q then came (walkL (fun _ y => decide (0 < y)) (p + q).toNat) (p - q) else 0) = bV p q := by
  unfold bV
  cases h : votes p q
  · rfl
  · have hv := votes_t h
    obtain ⟨p, rfl⟩ : ∃ k : Nat, p = k := ⟨p.toNat, by omega⟩
    obtain ⟨q, rfl⟩ : ∃ k : Nat, q = k := ⟨q.toNat, by omega⟩
    simp only [if_true]
    rw [show ((p : Int) + q).toNat = p + q by omega, ballot_eq p q (by omega), ballotS]
    by_cases h0 : p + q = 0
    · rw [if_pos h0, if_pos (by omega)]
    · rw [if_neg h0, if_neg (by omega)]
theorem t_heq (p q : Int) : (if votes p q then came (walkL (fun _ y => decide (0 ≤ y)) (p + q).toNat) (p - q) else 0) = tV p q := by
  unfold tV
  cases h : votes p q
  · rfl
  · have hv := votes_t h
    obtain ⟨p, rfl⟩ : ∃ k : Nat, p = k := ⟨p.toNat, by omega⟩
    obtain ⟨q, rfl⟩ : ∃ k : Nat, q = k := ⟨q.toNat, by omega⟩
    simp only [if_true]
    rw [show ((p : Int) + q).toNat = p + q by omega, tie_eq p q (by omega), tieS]
theorem iA (m x fl : Int) (W : World) : Calls Try.prog 21 #[.int .i64 m, .int .i64 x, .int .i64 fl] W fun e w' => e = .returned (.tuple #[.int .i64 (aV m x fl), .bool (aB m fl)]) ∧ Below W.heap.size W w' := by rw [← a_heq]; exact impl_PathsAbove m x fl W
theorem sA (m x fl : Int) (W : World) : Calls Try.prog 22 #[.int .i64 m, .int .i64 x, .int .i64 fl] W fun e w' => e = .returned (.tuple #[.int .i64 (aV m x fl), .bool (aB m fl)]) ∧ W = w' := spec_PathsAbove m x fl W
theorem iC (m x : Int) (W : World) : Calls Try.prog 23 #[.int .i64 m, .int .i64 x] W fun e w' => e = .returned (.tuple #[.int .i64 (cV m x), .bool (inB m 0 30)]) ∧ Below W.heap.size W w' := by rw [← c_heq]; exact impl_PathCount m x W
theorem sC (m x : Int) (W : World) : Calls Try.prog 24 #[.int .i64 m, .int .i64 x] W fun e w' => e = .returned (.tuple #[.int .i64 (cV m x), .bool (inB m 0 30)]) ∧ W = w' := spec_PathCount m x W
theorem iF (m x : Int) (W : World) : Calls Try.prog 26 #[.int .i64 m, .int .i64 x] W fun e w' => e = .returned (.tuple #[.int .i64 (fV m x), .bool (fB m x)]) ∧ Below W.heap.size W w' := by rw [← f_heq]; exact impl_FirstPassages m x W
theorem sF (m x : Int) (W : World) : Calls Try.prog 27 #[.int .i64 m, .int .i64 x] W fun e w' => e = .returned (.tuple #[.int .i64 (fV m x), .bool (fB m x)]) ∧ W = w' := spec_FirstPassages m x W
theorem iB (p q : Int) (W : World) : Calls Try.prog 29 #[.int .i64 p, .int .i64 q] W fun e w' => e = .returned (.tuple #[.int .i64 (bV p q), .bool (votes p q)]) ∧ Below W.heap.size W w' := by rw [← b_heq]; exact impl_BallotCount p q W
theorem sB (p q : Int) (W : World) : Calls Try.prog 30 #[.int .i64 p, .int .i64 q] W fun e w' => e = .returned (.tuple #[.int .i64 (bV p q), .bool (votes p q)]) ∧ W = w' := spec_BallotCount p q W
theorem iT (p q : Int) (W : World) : Calls Try.prog 31 #[.int .i64 p, .int .i64 q] W fun e w' => e = .returned (.tuple #[.int .i64 (tV p q), .bool (votes p q)]) ∧ Below W.heap.size W w' := by rw [← t_heq]; exact impl_TieCount p q W
theorem sT (p q : Int) (W : World) : Calls Try.prog 32 #[.int .i64 p, .int .i64 q] W fun e w' => e = .returned (.tuple #[.int .i64 (tV p q), .bool (votes p q)]) ∧ W = w' := spec_TieCount p q W
theorem aB_t {m fl : Int} (h : aB m fl = true) : (0 ≤ m ∧ m ≤ 30) ∧ -30 ≤ fl ∧ fl ≤ 0 ∧ inB m 0 30 = true := by
  simp only [aB, Bool.and_eq_true] at h
  have h1 := inB_t h.1
  have h2 := inB_t h.2
  exact ⟨⟨by omega, by omega⟩, by omega, by omega, h.1⟩
theorem aV_eq {m x fl : Int} (h : aB m fl = true) (hx : fl ≤ x ∧ x ≤ m) : aV m x fl = paths m.toNat x - paths m.toNat (2 * (fl - 1) - x) := by
  unfold aV
  rw [show (inB m 0 30 && inB fl (-30) 0) = true from h, inB_mk hx.1 hx.2]
  rfl
theorem aV_le {m x fl : Int} (h : aB m fl = true) : aV m x fl ≤ cV m x := by
  have hb := aB_t h
  have h1 : cV m x = paths m.toNat x := by rw [cV, hb.2.2.2]; rfl
  have h2 := paths_bd m.toNat x (by omega)
  by_cases hx : fl ≤ x ∧ x ≤ m
  · rw [aV_eq h hx, h1]
    have h3 := paths_bd m.toNat (2 * (fl - 1) - x) (by omega)
    omega
  · unfold aV
    rw [show (inB m 0 30 && inB fl (-30) 0) = true from h]
    have h3 : inB x fl m = false := by
      cases hh : inB x fl m
      · rfl
      · exact absurd (inB_t hh) hx
    rw [h3]
    simp
    omega
theorem aV_nn {m x fl : Int} (h : aB m fl = true) : 0 ≤ aV m x fl := by
  rw [← a_heq, show (inB m 0 30 && inB fl (-30) 0) = true from h]
  simp only [if_true]
  unfold came
  split
  · have := nar_walk (fun _ y => decide (fl ≤ y)) m.toNat (x + 30).toNat
    exact this.1
  · omega
theorem aV_mirror {m x fl : Int} (h : aB m fl = true) (hx : fl ≤ x ∧ x ≤ m) : aV m x fl = cV m x - cV m (2 * (fl - 1) - x) := by
  have hb := aB_t h
  rw [aV_eq h hx, cV, cV, hb.2.2.2]; rfl
theorem aB_prev {m fl : Int} (h : aB m fl = true) (hm : 0 < m) : aB (m - 1) fl = true := by
  have hb := aB_t h
  unfold aB
  rw [inB_mk (by omega) (by omega), inB_mk (by omega) (by omega)]; rfl
theorem aV_ext {m x fl : Int} (h : aB m fl = true) (hx : fl - 1 ≤ x) : aV m x fl = paths m.toNat x - paths m.toNat (2 * (fl - 1) - x) := by
  have hb := aB_t h
  by_cases h1 : fl ≤ x ∧ x ≤ m
  · exact aV_eq h h1
  · unfold aV
    rw [show (inB m 0 30 && inB fl (-30) 0) = true from h]
    have h3 : inB x fl m = false := by
      cases hh : inB x fl m
      · rfl
      · exact absurd (inB_t hh) h1
    rw [h3]
    simp only [Bool.false_eq_true, if_false, if_true]
    by_cases h2 : x = fl - 1
    · rw [h2, show 2 * (fl - 1) - (fl - 1) = fl - 1 by omega]; omega
    · rw [paths_out _ _ (by omega), paths_out _ _ (by omega)]; rfl
theorem aV_step {m x fl : Int} (h : aB m fl = true) (hm : 0 < m) (hx : fl ≤ x ∧ x ≤ m) : aV m x fl = aV (m - 1) (x - 1) fl + aV (m - 1) (x + 1) fl := by
  have hb := aB_t h
  rw [aV_ext h (by omega), aV_ext (aB_prev h hm) (by omega), aV_ext (aB_prev h hm) (by omega)]
  obtain ⟨k, rfl⟩ : ∃ k : Nat, m = (k : Int) + 1 := ⟨(m - 1).toNat, by omega⟩
  rw [show ((k : Int) + 1).toNat = k + 1 by omega, show ((k : Int) + 1 - 1).toNat = k by omega, pascal k x (by omega), pascal k (2 * (fl - 1) - x) (by omega), show 2 * (fl - 1) - (x - 1) = 2 * (fl - 1) - x + 1 by omega, show 2 * (fl - 1) - (x + 1) = 2 * (fl - 1) - x - 1 by omega]
  omega
theorem aV_bd {m x fl : Int} : -1000000000 ≤ aV m x fl ∧ aV m x fl ≤ 1000000000 := by
  unfold aV
  split
  · rename_i h
    have hb := aB_t h
    split
    · have h1 := paths_bd m.toNat x (by omega)
      have h2 := paths_bd m.toNat (2 * (fl - 1) - x) (by omega)
      omega
    · omega
  · omega
theorem cV_bd (m x : Int) : 0 ≤ cV m x ∧ cV m x ≤ 1000000000 := by
  unfold cV
  split
  · rename_i h
    have := inB_t h
    exact paths_bd _ _ (by omega)
  · omega
theorem fB_t {k y : Int} (h : fB k y = true) : 1 ≤ k ∧ k ≤ 30 := by
  simp only [fB, Bool.and_eq_true] at h
  exact inB_t h.1
theorem votes_mk {p q : Int} (h : 0 ≤ p ∧ 0 ≤ q ∧ p + q ≤ 30) : votes p q = true := by
  simp only [votes, Bool.and_eq_true, decide_eq_true_eq]
  exact ⟨⟨inB_mk (by omega) (by omega), inB_mk (by omega) (by omega)⟩, by omega⟩
theorem turn_check : ((List.range 31).all fun k => (List.range 31).all fun y => k == 0 || y == 0 || decide (k < y) || (if (k + y) % 2 == 0 then bV (((k + y) / 2 : Nat) : Int) (((k - y) / 2 : Nat) : Int) == fV (k : Int) (y : Int) else fV (k : Int) (y : Int) == 0)) = true := by decide +kernel
theorem turn {k y : Int} (hk : 1 ≤ k ∧ k ≤ 30) (hy : 1 ≤ y ∧ y ≤ k) : ((k + y) % 2 = 0 → bV ((k + y) / 2) ((k - y) / 2) = fV k y) ∧ ((k + y) % 2 ≠ 0 → fV k y = 0) := by
  obtain ⟨k, rfl⟩ : ∃ n : Nat, k = n := ⟨k.toNat, by omega⟩
  obtain ⟨y, rfl⟩ : ∃ n : Nat, y = n := ⟨y.toNat, by omega⟩
  have h1 := all_of (all_of turn_check k (by omega)) y (by omega)
  have e1 : (k == 0) = false := by simp; omega
  have e2 : (y == 0) = false := by simp; omega
  have e3 : decide (k < y) = false := by simp; omega
  rw [e1, e2, e3] at h1
  simp only [Bool.false_or] at h1
  by_cases hp : (k + y) % 2 = 0
  · rw [show ((k + y) % 2 == 0) = true by simp [hp]] at h1
    simp only [if_true, beq_iff_eq] at h1
    refine ⟨fun _ => ?_, fun h => absurd (by omega) h⟩
    rw [← h1]
    congr 1 <;> omega
  · rw [show ((k + y) % 2 == 0) = false by simp [hp]] at h1
    simp only [Bool.false_eq_true, if_false, beq_iff_eq] at h1
    exact ⟨fun h => absurd h (by omega), fun _ => h1⟩
theorem tie_check2 : ((List.range 31).all fun p => (List.range 31).all fun q => decide (30 < p + q) || ((tV (p : Int) (q : Int) == aV ((p : Int) + (q : Int)) ((p : Int) - (q : Int)) 0) && (if p == 0 then bV 0 (q : Int) == 0 || q == 0 else bV (p : Int) (q : Int) == tV ((p : Int) - 1) (q : Int)))) = true := by decide +kernel
theorem ties {p q : Int} (h : 0 ≤ p ∧ 0 ≤ q ∧ p + q ≤ 30) : tV p q = aV (p + q) (p - q) 0 ∧ (0 < p → bV p q = tV (p - 1) q) ∧ (p = 0 → q ≠ 0 → bV p q = 0) := by
  obtain ⟨p, rfl⟩ : ∃ n : Nat, p = n := ⟨p.toNat, by omega⟩
  obtain ⟨q, rfl⟩ : ∃ n : Nat, q = n := ⟨q.toNat, by omega⟩
  have h1 := all_of (all_of tie_check2 p (by omega)) q (by omega)
  have e1 : decide (30 < p + q) = false := by simp; omega
  rw [e1] at h1
  simp only [Bool.false_or, Bool.and_eq_true, beq_iff_eq] at h1
  refine ⟨h1.1, fun hp => ?_, fun hp hq => ?_⟩
  · have h2 := h1.2
    have hp0 : ¬ p = 0 := by omega
    simp only [hp0, if_false, beq_iff_eq] at h2
    exact h2
  · have h2 := h1.2
    obtain rfl : p = 0 := by omega
    simp at h2
    rcases h2 with h2 | h2
    · exact h2
    · omega
end Go.Proofs.Ytbekfpgpeaoifaa
