/- Contracts of functions of numbers alone, each called for many others: bounds, greatest, least. Each returns the plain Lean value and leaves the world as it is, for all arguments. -/
import Derived.Test.YtcoakeedgngogaaBase
namespace Go.Proofs.Ytcoakeedgngogaa
open Go.RowKit

/-- Is n between lo and hi? -/
def inB (n lo hi : Int) : Bool := decide (lo ≤ n) && decide (n ≤ hi)
theorem inB_t {n lo hi : Int} (h : inB n lo hi = true) : lo ≤ n ∧ n ≤ hi := by simpa [inB] using h
theorem inB_f {n lo hi : Int} (h : inB n lo hi = false) : n < lo ∨ hi < n := by
  unfold inB at h
  rw [Bool.and_eq_false_iff] at h
  rcases h with h | h
  · exact .inl (by simpa using h)
  · exact .inr (by simpa using h)
theorem inB_mk {n lo hi : Int} (h1 : lo ≤ n) (h2 : n ≤ hi) : inB n lo hi = true := by simp [inB, h1, h2]
theorem inB_no {n lo hi : Int} (h : n < lo ∨ hi < n) : inB n lo hi = false := by
  cases hb : inB n lo hi
  · rfl
  · have := inB_t hb; omega

theorem impl_within (n lo hi : Int) (w : World) :
    Calls Try.prog 49 #[.int .i64 n, .int .i64 lo, .int .i64 hi] w fun e w' => e = .returned (.bool (inB n lo hi)) ∧ w = w' := by
  by_cases h1 : lo ≤ n <;> by_cases h2 : n ≤ hi
  all_goals
    go_enter Try.func49, Try.ntmps49
    go_wp2
    go_ret
    exact ⟨by simp [inB, h1, h2], rfl⟩
theorem spec_l1In (n lo hi : Int) (w : World) :
    Calls Try.prog 45 #[.int .i64 n, .int .i64 lo, .int .i64 hi] w fun e w' => e = .returned (.bool (inB n lo hi)) ∧ w = w' := by
  by_cases h1 : lo ≤ n <;> by_cases h2 : n ≤ hi
  all_goals
    go_enter Try.func45, Try.ntmps45
    go_wp2
    go_ret
    exact ⟨by simp [inB, h1, h2], rfl⟩
def most (a b : Int) : Int := if b < a then a else b
def least (a b : Int) : Int := if a < b then a else b
theorem most_l {a b : Int} (h : b < a) : most a b = a := if_pos h
theorem most_r {a b : Int} (h : ¬ b < a) : most a b = b := if_neg h
theorem least_l {a b : Int} (h : a < b) : least a b = a := if_pos h
theorem least_r {a b : Int} (h : ¬ a < b) : least a b = b := if_neg h
theorem most_eq (a b : Int) : most a b = max a b := by unfold most; omega
theorem least_eq (a b : Int) : least a b = min a b := by unfold least; omega
theorem spec_l1Most (a b : Int) (w : World) :
    Calls Try.prog 36 #[.int .i64 a, .int .i64 b] w fun e w' => e = .returned (.int .i64 (most a b)) ∧ w = w' := by
  by_cases h : b < a
  all_goals
    go_enter Try.func36, Try.ntmps36
    go_wp2
    go_ret
    exact ⟨ri (by unfold most; omega), rfl⟩
theorem spec_l1Least (a b : Int) (w : World) :
    Calls Try.prog 46 #[.int .i64 a, .int .i64 b] w fun e w' => e = .returned (.int .i64 (least a b)) ∧ w = w' := by
  by_cases h : a < b
  all_goals
    go_enter Try.func46, Try.ntmps46
    go_wp2
    go_ret
    exact ⟨ri (by unfold least; omega), rfl⟩
end Go.Proofs.Ytcoakeedgngogaa
