/- Plain lists: a table that proves a stake plan, as a Bool. Nothing of the program. -/
import Derived.Test.YtbekfpgpeaoifaaPlT
import Derived.Test.YtbekfpgpeaoifaaGame
import Derived.Test.YtbekfpgpeaoifaaPlAll
namespace Go.Proofs.Ytbekfpgpeaoifaa

def rowOk (n : Nat) (r : List Int) : Bool := (r.length == n + 1) && allIn r 0 1000000000000000
def rowsOk (n : Nat) (xss : List (List Int)) : Bool := (List.range xss.length).all fun j => rowOk n (row xss j)
theorem rowOk_t {n : Nat} {r : List Int} (h : rowOk n r = true) : r.length = n + 1 ∧ In0 1000000000000000 r := by
  simp only [rowOk, Bool.and_eq_true, beq_iff_eq] at h
  refine ⟨h.1, fun i => ?_⟩
  by_cases hi : i < r.length
  · have := inB_t (all_get h.2 hi); omega
  · rw [nth_ge (by omega)]; omega
theorem bestL_le (f : Int → Int) (st : List Int) (m c : Int) : bestL f st m ≤ c ↔ m ≤ c ∧ ∀ k, k < st.length → f (nth st k) ≤ c := by
  induction st generalizing m with
  | nil => simp [bestL]
  | cons s st ih =>
    rw [bestL, ih]
    constructor
    · rintro ⟨h1, h2⟩
      refine ⟨by omega, fun k hk => ?_⟩
      cases k with
      | zero => show f s ≤ c; omega
      | succ k => exact h2 k (by simpa using hk)
    · rintro ⟨h1, h2⟩
      have h0 : f s ≤ c := h2 0 (by simp)
      exact ⟨by omega, fun k hk => h2 (k + 1) (by simpa using hk)⟩
/-- Is number i of row j no less than what the best stake makes of row j - 1? -/
def goodAt (st : Nat → List Int) (a b : Int) (xss : List (List Int)) (j i : Nat) : Bool := decide (bestL (aft a b (row xss (j - 1)) i) (st i) 0 ≤ nth (row xss j) i)
def goodRow (st : Nat → List Int) (a b : Int) (n : Nat) (xss : List (List Int)) (j : Nat) : Bool := (List.range (n + 1)).all fun i => goodAt st a b xss j i
def goodRows (st : Nat → List Int) (a b : Int) (n : Nat) (xss : List (List Int)) : Bool := (List.range (xss.length - 1)).all fun j => goodRow st a b n xss (j + 1)
def stakeOk (st : Nat → List Int) (a b : Int) (n : Nat) (xss : List (List Int)) : Bool := (inB (xss.length : Int) 1 9 && rowsOk n xss) && (decide (1 ≤ nth (row xss 0) n) && goodRows st a b n xss)
def stakeV (st : Nat → Nat → List Int) (a b n : Int) (xss : List (List Int)) : Bool := game a b n && stakeOk (st n.toNat) a b n.toNat xss
theorem stakeV_no {st : Nat → Nat → List Int} {a b n : Int} {xss : List (List Int)} (h : game a b n = false) : stakeV st a b n xss = false := by simp [stakeV, h]
theorem stake_len {st : Nat → List Int} {a b : Int} {n : Nat} {xss : List (List Int)} (h : inB (xss.length : Int) 1 9 = false) : stakeOk st a b n xss = false := by simp [stakeOk, h]
theorem stake_rows {st : Nat → List Int} {a b : Int} {n : Nat} {xss : List (List Int)} (h : rowsOk n xss = false) : stakeOk st a b n xss = false := by simp [stakeOk, h]
theorem stake_one {st : Nat → List Int} {a b : Int} {n : Nat} {xss : List (List Int)} (h : ¬ 1 ≤ nth (row xss 0) n) : stakeOk st a b n xss = false := by simp [stakeOk, h]
theorem stake_good {st : Nat → List Int} {a b : Int} {n : Nat} {xss : List (List Int)} (h : goodRows st a b n xss = false) : stakeOk st a b n xss = false := by simp [stakeOk, h]
theorem stake_yes {st : Nat → List Int} {a b : Int} {n : Nat} {xss : List (List Int)} (h1 : inB (xss.length : Int) 1 9 = true) (h2 : rowsOk n xss = true) (h3 : 1 ≤ nth (row xss 0) n) (h4 : goodRows st a b n xss = true) : stakeOk st a b n xss = true := by simp [stakeOk, h1, h2, h3, h4]
theorem bad_at {st : Nat → List Int} {a b : Int} {n : Nat} {xss : List (List Int)} {j i : Nat} (hj : 1 ≤ j) (hj2 : j < xss.length) (hi : i ≤ n) (h : goodAt st a b xss j i = false) : goodRows st a b n xss = false := by
  refine all_f (i := j - 1) (by omega) ?_
  rw [show j - 1 + 1 = j by omega]
  exact all_f (i := i) (by omega) h
end Go.Proofs.Ytbekfpgpeaoifaa
