/- Contracts of the reference: the first node on a way, the rule of a list of stops. -/
import Derived.Test.YtnbomleieianoaaWay
import Derived.Test.YtnbomleieianoaaPut
namespace Go.Proofs.Ytnbomleieianoaa
open Go.RowKit

/-- What a list of bools says of a node. -/
def bS (bs : List Bool) (y : Int) : Bool := decide (0 ≤ y) && Bo.nth bs y.toNat
theorem has_filt {bs : List Bool} {k : Nat} {y : Int} (h : y < k) : hasB (filt (Bo.nth bs) k) y = bS bs y := by
  unfold hasB bS
  rw [Bool.eq_iff_iff, List.any_eq_true]
  constructor
  · rintro ⟨z, hz, he⟩
    obtain ⟨i, hi, hb, rfl⟩ := mem_filt.1 hz
    obtain rfl : (i : Int) = y := by simpa using he
    simp [hb]
  · intro hb
    simp only [Bool.and_eq_true, decide_eq_true_eq] at hb
    exact ⟨y, mem_filt.2 ⟨y.toNat, by omega, hb.2, by omega⟩, by simp⟩
theorem stopL_congr {S S' : Int → Bool} : ∀ {xs : List Int}, (∀ y, y ∈ xs → S y = S' y) → stopL S xs = stopL S' xs
  | [], _ => rfl
  | x :: xs, h => by rw [stopL, stopL, h x (by simp), stopL_congr fun y hy => h y (by simp [hy])]
theorem stop_congr {ps : List Int} (h : Pa ps) {S S' : Int → Bool} (hS : ∀ y : Nat, y < ps.length → S y = S' y) {x : Nat} (hx : x < ps.length) : stop ps S x = stop ps S' x := stopL_congr fun y hy => by
  obtain ⟨j, hj, rfl⟩ := way_mem h x hx y hy
  exact hS j (by omega)
theorem isStop_nil (ps : List Int) (S : Int → Bool) (k : Nat) : filt (isStop ps S []) k = [] := filt_none fun _ _ => rfl
theorem isStop_app (ps : List Int) (S : Int → Bool) (es : List Int) (e : Int) (y : Nat) : isStop ps S (es ++ [e]) y = (isStop ps S es y || stop ps S e.toNat == (y : Int)) := by
  unfold isStop; rw [List.any_append]; simp
theorem stop_end {ps : List Int} (h : Pa ps) (S : Int → Bool) {x : Nat} (hx : x < ps.length) (hS : S x = true) : 0 ≤ stop ps S x := by
  have h2 : behB ps S x = true := by
    by_cases h0 : x = 0
    · subst h0; rw [(beh_zero ps S).1]; exact hS
    · have := beh_up h S (x := x) (by omega) hx
      cases hb : behB ps S (par ps x)
      · rw [(this.2 hb).1]; exact hS
      · exact (this.1 hb).1
  exact of_decide_eq_true h2
end Go.Proofs.Ytnbomleieianoaa
