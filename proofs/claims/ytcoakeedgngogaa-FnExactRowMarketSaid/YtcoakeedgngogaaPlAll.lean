/- Plain lists: what holds of all numbers below a bound, as a Bool. Nothing of the program. -/
import Derived.Test.YtcoakeedgngogaaNum
namespace Go.Proofs.Ytcoakeedgngogaa

theorem all_t {n : Nat} {f : Nat → Bool} (h : ∀ i, i < n → f i = true) : (List.range n).all f = true := by
  rw [List.all_eq_true]; intro i hi; exact h i (List.mem_range.1 hi)
theorem all_f {n i : Nat} {f : Nat → Bool} (hi : i < n) (h : f i = false) : (List.range n).all f = false := by
  cases hb : (List.range n).all f
  · rfl
  · rw [List.all_eq_true] at hb
    have := hb i (List.mem_range.2 hi)
    rw [h] at this; cases this
theorem all_get {n i : Nat} {f : Nat → Bool} (h : (List.range n).all f = true) (hi : i < n) : f i = true := by
  rw [List.all_eq_true] at h; exact h i (List.mem_range.2 hi)
def allIn (xs : List Int) (lo hi : Int) : Bool := (List.range xs.length).all fun i => inB (nth xs i) lo hi
end Go.Proofs.Ytcoakeedgngogaa
