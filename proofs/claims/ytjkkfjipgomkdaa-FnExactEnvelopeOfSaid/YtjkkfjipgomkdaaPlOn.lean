/- Plain lists: numbers of children added to their parents'. Nothing of the program. -/
import Derived.Test.YtjkkfjipgomkdaaPlTree
namespace Go.Proofs.Ytjkkfjipgomkdaa

theorem Pa.upN2 {ps : List Int} (h : Pa ps) {x : Nat} (h1 : 1 ≤ x) (h2 : x < ps.length) : nth ps x = (par ps x : Int) ∧ par ps x < x := h.upN h1 h2
theorem mul_abs {x B u U : Int} (h : -B ≤ x ∧ x ≤ B) (hu : 0 ≤ u ∧ u ≤ U) (hB : 0 ≤ B) : -(B * U) ≤ x * u ∧ x * u ≤ B * U := by
  have h1 := Int.mul_le_mul_of_nonneg_right h.2 hu.1
  have h2 := Int.mul_le_mul_of_nonneg_left hu.2 hB
  have h3 := Int.mul_le_mul_of_nonneg_right h.1 hu.1
  rw [Int.neg_mul] at h3
  omega

theorem kidSum_abs {ps : List Int} {f : Nat → Int} {B : Int} (hB : 0 ≤ B) (hf : ∀ y, -B ≤ f y ∧ f y ≤ B) (x : Nat) : ∀ k : Nat, -(B * k) ≤ kidSum ps f x k ∧ kidSum ps f x k ≤ B * k
  | 0 => by simp [kidSum]
  | k + 1 => by
    have ih := kidSum_abs (ps := ps) hB hf x k
    have hm : B * ((k + 1 : Nat) : Int) = B * k + B := by rw [Int.natCast_add, Int.mul_add]; simp
    have := hf k
    rw [hm]
    by_cases e : nth ps k = x
    · rw [kidSum_t e]; omega
    · rw [kidSum_f e]; omega
/-- What lies at each node when the numbers of the nodes above k have been added to their parents'. -/
def onS (ps caps : List Int) (k : Nat) : List Int := (List.range ps.length).map fun x => kidSum ps (fun y => nth caps y) x ps.length - kidSum ps (fun y => nth caps y) x (k + 1)
theorem onS_length (ps caps : List Int) (k : Nat) : (onS ps caps k).length = ps.length := by simp [onS]
theorem onS_start (ps caps : List Int) : onS ps caps (ps.length - 1) = List.replicate ps.length 0 := ext_nth (by simp [onS]) fun x hx => by
  rw [onS_length] at hx
  rw [onS, nth_map_range hx, nth_replicate, show ps.length - 1 + 1 = ps.length by omega]; omega
theorem onS_step {ps caps : List Int} (h : Pa ps) {k : Nat} (hk : k + 1 < ps.length) : onS ps caps k = (onS ps caps (k + 1)).set (par ps (k + 1)) (nth (onS ps caps (k + 1)) (par ps (k + 1)) + nth caps (k + 1)) := by
  have hp := h.upN (x := k + 1) (by omega) hk
  refine ext_nth (by simp [onS]) fun x hx => ?_
  rw [onS_length] at hx
  rw [nth_set (by rw [onS_length]; omega), onS, onS, nth_map_range hx, nth_map_range (by omega), nth_map_range hx]
  by_cases e : par ps (k + 1) = x
  · rw [if_pos e, kidSum_t (k := k + 1) (by omega), e]; omega
  · rw [if_neg e, kidSum_f (k := k + 1) (by omega)]
theorem onS_end {ps caps : List Int} (h : Pa ps) {x : Nat} (hx : x < ps.length) : nth (onS ps caps 0) x = kidSum ps (fun y => nth caps y) x ps.length := by
  have := h.root x
  rw [onS, nth_map_range hx, kidSum_f (k := 0) (by simpa using this)]; simp [kidSum]
theorem onS_bd {ps caps : List Int} {B : Int} (hB : 0 ≤ B ∧ B ≤ 1000000000) (hc : ∀ i, -B ≤ nth caps i ∧ nth caps i ≤ B) (hn : ps.length ≤ 24) (k x : Nat) (hk : k < ps.length) : -60000000000 ≤ nth (onS ps caps k) x ∧ nth (onS ps caps k) x ≤ 60000000000 := by
  by_cases hx : x < ps.length
  · rw [onS, nth_map_range hx]
    have h1 := kidSum_abs hB.1 (f := fun y => nth caps y) hc (ps := ps) x ps.length
    have h3 : B * (ps.length : Int) ≤ B * 24 := Int.mul_le_mul_of_nonneg_left (by omega) hB.1
    have h2 := kidSum_abs hB.1 (f := fun y => nth caps y) hc (ps := ps) x (k + 1)
    have h4 : B * ((k + 1 : Nat) : Int) ≤ B * 24 := Int.mul_le_mul_of_nonneg_left (by omega) hB.1
    omega
  · rw [nth_ge (by rw [onS_length]; omega)]; omega
end Go.Proofs.Ytjkkfjipgomkdaa
