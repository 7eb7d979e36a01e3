/- Contracts of the helpers of the laws on slices of ints: equal lists are found equal, marks are laid and found again. -/
import Derived.Test.YtbekfpgpeaoifaaBase
import Derived.Deep.QuietTactic
import Derived.BigQuiet
import Derived.WalkSmall
import Derived.Deep.Draws
namespace Go.Proofs.Ytbekfpgpeaoifaa
open Go.RowKit

/-- The marks k, k + 1, .. -/
def marks (k : Int) (n : Nat) : List Int := (List.range n).map fun (i : Nat) => k + (i : Int)
theorem marks_length (k : Int) (n : Nat) : (marks k n).length = n := by simp [marks]
theorem nth_marks (k : Int) (n i : Nat) (h : i < n) : nth (marks k n) i = k + i := by unfold marks; rw [nth_map_range h]
/-- i marks, then the list as it was. -/
def mk (k : Int) (xs : List Int) (i : Nat) : List Int := (List.range xs.length).map fun (j : Nat) => if j < i then k + (j : Int) else nth xs j
theorem mk_length (k : Int) (xs : List Int) (i : Nat) : (mk k xs i).length = xs.length := by simp [mk]
theorem nth_mk (k : Int) (xs : List Int) (i j : Nat) (h : j < xs.length) : nth (mk k xs i) j = if j < i then k + (j : Int) else nth xs j := by unfold mk; rw [nth_map_range h]
theorem mk_zero (k : Int) (xs : List Int) : mk k xs 0 = xs := ext_nth (mk_length _ _ _) fun i hi => by rw [mk_length] at hi; rw [nth_mk _ _ _ _ hi]; simp
theorem mk_all (k : Int) (xs : List Int) : mk k xs xs.length = marks k xs.length := ext_nth (by rw [mk_length, marks_length]) fun i hi => by rw [mk_length] at hi; rw [nth_mk _ _ _ _ hi, nth_marks _ _ _ hi, if_pos hi]
theorem mk_succ (k : Int) (xs : List Int) (i : Nat) (h : i < xs.length) : mk k xs (i + 1) = (mk k xs i).set i (k + (i : Int)) := ext_nth (by simp [mk_length]) fun j hj => by
  rw [mk_length] at hj
  rw [nth_set (by rw [mk_length]; exact h), nth_mk _ _ _ _ hj, nth_mk _ _ _ _ hj]
  by_cases e : i = j
  · subst e; rw [if_pos (by omega), if_pos rfl]
  · rw [if_neg e]
    by_cases e2 : j < i
    · rw [if_pos e2, if_pos (by omega)]
    · rw [if_neg e2, if_neg (by omega)]

/-- What grew in one row of the call's own from base on is Below base. -/
theorem below_of_grown {w w' : World} {base : Nat} {v : Value} {xs : List Int} (h : Own w base v xs) (hg : w.grownBy w' v.ownBlock) (hb : base ≤ w.heap.size) : Below base w w' :=
  (Below.refl _ _).grown hg hb fun k hk => (World.ownsRow.lt h k hk).1
end Go.Proofs.Ytbekfpgpeaoifaa
