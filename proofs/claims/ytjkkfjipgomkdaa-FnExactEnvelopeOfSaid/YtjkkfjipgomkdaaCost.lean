/- Contracts: payments less a cost of each step, of the program and of the reference. -/
import Derived.Test.YtjkkfjipgomkdaaTree7
import Derived.Test.YtjkkfjipgomkdaaB3
namespace Go.Proofs.Ytjkkfjipgomkdaa
open Go.RowKit

def costL (ps l : List Int) (c : Int) : List Int := (List.range ps.length).map fun x => nth l x - c * dep ps x
theorem costL_length (ps l : List Int) (c : Int) : (costL ps l c).length = ps.length := by simp [costL]
def costB (ps ws l : List Int) (c : Int) : Bool := paysB ps ws l && (inB c 0 999 && procB ps.length (costL ps l c))
def costV (ps ws l : List Int) (c : Int) : List Int := if costB ps ws l c then costL ps l c else []
theorem cost_no1 {ps ws l : List Int} {c : Int} (h : paysB ps ws l = false) : costB ps ws l c = false := by rw [costB, h]; rfl
theorem cost_no2 {ps ws l : List Int} {c : Int} (h : inB c 0 999 = false) : costB ps ws l c = false := by rw [costB, h]; simp
theorem cost_no3 {ps ws l : List Int} {c : Int} (h : procB ps.length (costL ps l c) = false) : costB ps ws l c = false := by rw [costB, h]; simp
theorem cost_yes {ps ws l : List Int} {c : Int} (h1 : paysB ps ws l = true) (h2 : inB c 0 999 = true) (h3 : procB ps.length (costL ps l c) = true) : costB ps ws l c = true := by rw [costB, h1, h2, h3]; rfl
theorem costV_no {ps ws l : List Int} {c : Int} (h : costB ps ws l c = false) : costV ps ws l c = [] := by rw [costV, h]; rfl
theorem costV_yes {ps ws l : List Int} {c : Int} (h : costB ps ws l c = true) : costV ps ws l c = costL ps l c := by rw [costV, h]; rfl
theorem paysB_t {ps ws l : List Int} (h : paysB ps ws l = true) : Tr ps ws ∧ treeB ps ws = true ∧ procB ps.length l = true ∧ l.length = ps.length ∧ ∀ i, -999 ≤ nth l i ∧ nth l i ≤ 999 := by
  simp only [paysB, Bool.and_eq_true] at h
  exact ⟨treeB_t h.1, h.1, h.2, procB_t h.2⟩
theorem pays_no1 {ps ws l : List Int} (h : treeB ps ws = false) : paysB ps ws l = false := by rw [paysB, h]; rfl
theorem pays_no2 {ps ws l : List Int} (h : procB ps.length l = false) : paysB ps ws l = false := by rw [paysB, h]; simp
theorem pays_both {ps ws l : List Int} (h : treeB ps ws = true) (h2 : procB ps.length l = true) : paysB ps ws l = true := by rw [paysB, h, h2]; rfl
/-- The first i numbers less their costs, then the numbers. -/
def costP (ps l : List Int) (c : Int) (i : Nat) : List Int := (List.range l.length).map fun x => if x < i then nth l x - c * dep ps x else nth l x
theorem costP_length (ps l : List Int) (c : Int) (i : Nat) : (costP ps l c i).length = l.length := by simp [costP]
theorem costP_zero (ps l : List Int) (c : Int) : costP ps l c 0 = l := ext_nth (costP_length _ _ _ _) fun i hi => by
  rw [costP_length] at hi
  rw [costP, nth_map_range hi]; simp
theorem costP_succ (ps l : List Int) (c : Int) (i : Nat) (h : i < l.length) : costP ps l c (i + 1) = (costP ps l c i).set i (nth l i - c * dep ps i) := ext_nth (by simp [costP_length]) fun j hj => by
  rw [costP_length] at hj
  rw [nth_set (by rw [costP_length]; exact h), costP, costP, nth_map_range hj, nth_map_range hj]
  by_cases e : i = j
  · subst e; rw [if_pos (by omega), if_pos rfl]
  · rw [if_neg e]
    by_cases e2 : j < i
    · rw [if_pos e2, if_pos (by omega)]
    · rw [if_neg e2, if_neg (by omega)]
theorem nth_costP_ge {ps l : List Int} {c : Int} {i : Nat} (h : i < l.length) : nth (costP ps l c i) i = nth l i := by rw [costP, nth_map_range h, if_neg (by omega)]
theorem costP_all {ps l : List Int} (c : Int) (h : l.length = ps.length) : costP ps l c l.length = costL ps l c := ext_nth (by rw [costP_length, costL_length, h]) fun i hi => by
  rw [costP_length] at hi
  rw [costP, costL, nth_map_range hi, nth_map_range (by omega), if_pos hi]
end Go.Proofs.Ytjkkfjipgomkdaa
