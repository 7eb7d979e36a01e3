/- Plain numbers: walks by a tally of them: the recursion that the program's maps follow, and a table of it that the kernel can reckon. No conditions but those stated. -/
import Derived.Test.YtbekfpgpeaoifaaLead
namespace Go.Proofs.Ytbekfpgpeaoifaa
open Go.RowKit

/-- The number of walks of k steps to x with the tally t. -/
def tw (tal : Int → Int → Int) : Nat → Int → Int → Int
  | 0, x, t => if x = 0 ∧ t = 0 then 1 else 0
  | k + 1, x, t => tw tal k (x - 1) (t - tal (x - 1) x) + tw tal k (x + 1) (t - tal (x + 1) x)
/-- Tallies change by 0 or 1. -/
def Tal (tal : Int → Int → Int) : Prop := ∀ a b, tal a b = 0 ∨ tal a b = 1
theorem tw_out {tal : Int → Int → Int} (h : Tal tal) : ∀ (k : Nat) (x t : Int), x < -(k : Int) ∨ (k : Int) < x ∨ t < 0 ∨ (k : Int) < t → tw tal k x t = 0
  | 0, x, t, hx => by
    rw [tw, if_neg]
    rintro ⟨rfl, rfl⟩
    omega
  | k + 1, x, t, hx => by
    have h1 := h (x - 1) x
    have h2 := h (x + 1) x
    rw [tw, tw_out h k _ _ (by omega), tw_out h k _ _ (by omega)]; rfl
theorem tw_nn {tal : Int → Int → Int} : ∀ (k : Nat) (x t : Int), 0 ≤ tw tal k x t ∧ tw tal k x t ≤ 2 ^ k
  | 0, x, t => by rw [tw]; split <;> simp
  | k + 1, x, t => by
    have h1 := tw_nn (tal := tal) k (x - 1) (t - tal (x - 1) x)
    have h2 := tw_nn (tal := tal) k (x + 1) (t - tal (x + 1) x)
    rw [tw, Int.pow_succ]; omega
/-- What is told so far, when some of the states are still to come. -/
def twL (tal : Int → Int → Int) (F : Int → Int → Int) (left : Int → Int → Bool) (x t : Int) : Int :=
  (if left (x - 1) (t - tal (x - 1) x) then 0 else F (x - 1) (t - tal (x - 1) x)) + (if left (x + 1) (t - tal (x + 1) x) then 0 else F (x + 1) (t - tal (x + 1) x))
theorem twL_done {tal : Int → Int → Int} {k : Nat} {left : Int → Int → Bool} (h : ∀ x t, left x t = false) (x t : Int) : twL tal (tw tal k) left x t = tw tal (k + 1) x t := by
  rw [twL, h, h, tw]; rfl
/-- A state is told: two numbers grow. -/
theorem twL_step {tal F : Int → Int → Int} {left : Int → Int → Bool} {x0 t0 : Int} (h0 : left x0 t0 = true) (x t : Int) :
    twL tal F (fun a b => left a b && !(decide (a = x0) && decide (b = t0))) x t = twL tal F left x t + (if x = x0 - 1 ∧ t = t0 + tal x0 (x0 - 1) then F x0 t0 else 0) + (if x = x0 + 1 ∧ t = t0 + tal x0 (x0 + 1) then F x0 t0 else 0) := by
  unfold twL
  by_cases h1 : x = x0 - 1
  · subst h1
    have e1 : x0 - 1 + 1 = x0 := by omega
    have e2 : ¬ (x0 - 1 - 1 = x0) := by omega
    have e3 : ¬ (x0 - 1 = x0 + 1) := by omega
    rw [e1]
    simp only [e2, e3, decide_false, Bool.false_and, Bool.not_false, Bool.and_true, false_and, if_false, decide_true, Bool.true_and, true_and]
    by_cases h2 : t = t0 + tal x0 (x0 - 1)
    · have e4 : t - tal x0 (x0 - 1) = t0 := by omega
      rw [e4, h0]
      simp [h2]
    · have e4 : ¬ (t - tal x0 (x0 - 1) = t0) := by omega
      simp only [e4, decide_false, Bool.not_false, Bool.and_true, if_neg h2]
      omega
  · by_cases h2 : x = x0 + 1
    · subst h2
      have e1 : x0 + 1 - 1 = x0 := by omega
      have e2 : ¬ (x0 + 1 + 1 = x0) := by omega
      rw [e1]
      simp only [e2, h1, decide_false, Bool.false_and, Bool.not_false, Bool.and_true, false_and, if_false, decide_true, Bool.true_and, true_and]
      by_cases h3 : t = t0 + tal x0 (x0 + 1)
      · have e4 : t - tal x0 (x0 + 1) = t0 := by omega
        rw [e4, h0]
        simp [h3]; omega
      · have e4 : ¬ (t - tal x0 (x0 + 1) = t0) := by omega
        simp only [e4, decide_false, Bool.not_false, Bool.and_true, if_neg h3]
        omega
    · have e1 : ¬ (x - 1 = x0) := by omega
      have e2 : ¬ (x + 1 = x0) := by omega
      simp only [e1, e2, h1, h2, decide_false, Bool.false_and, Bool.not_false, Bool.and_true, false_and, if_false]
      omega
/-- Two lists of numbers, added. -/
def addL : List Int → List Int → List Int
  | [], ys => ys
  | xs, [] => xs
  | x :: xs, y :: ys => (x + y) :: addL xs ys
theorem nth_addL : ∀ (xs ys : List Int) (i : Nat), nth (addL xs ys) i = nth xs i + nth ys i
  | [], ys, i => by simp [addL, nth]
  | x :: xs, [], i => by simp [addL, nth]
  | x :: xs, y :: ys, 0 => by simp [addL, nth]
  | x :: xs, y :: ys, i + 1 => by
    have := nth_addL xs ys i
    simpa [addL, nth] using this
/-- A row whose tallies grow, or do not. -/
def shL (b : Int) (r : List Int) : List Int := if b = 1 then 0 :: r else r
theorem nth_shL {b : Int} (hb : b = 0 ∨ b = 1) (r : List Int) (i : Nat) : nth (shL b r) i = if (i : Int) < b then 0 else nth r ((i : Int) - b).toNat := by
  rcases hb with rfl | rfl
  · rw [shL, if_neg (by omega), if_neg (by omega)]; simp
  · rw [shL, if_pos rfl]
    cases i with
    | zero => simp [nth]
    | succ i =>
      rw [if_neg (by omega)]
      have : ((i + 1 : Nat) : Int) - 1 = (i : Int) := by omega
      rw [this, Int.toNat_natCast]
      simp [nth]
/-- The table of k steps: a row for each place from -31 on. -/
def tb (tal : Int → Int → Int) : Nat → List (List Int)
  | 0 => (List.range 63).map fun i => if i = 31 then [1] else []
  | k + 1 => (fun L : List (List Int) => (List.range 63).map fun (i : Nat) => addL (shL (tal ((i : Int) - 32) ((i : Int) - 31)) (if i = 0 then [] else L.getD (i - 1) [])) (shL (tal ((i : Int) - 30) ((i : Int) - 31)) (L.getD (i + 1) []))) (tb tal k)
theorem tb_eq {tal : Int → Int → Int} (h : Tal tal) : ∀ k : Nat, k ≤ 30 → ∀ i t : Nat, i < 63 → nth ((tb tal k).getD i []) t = tw tal k ((i : Int) - 31) (t : Int)
  | 0, _, i, t, hi => by
    rw [tb, List.getD_eq_getElem?_getD]
    simp only [List.getElem?_map, List.getElem?_range hi, Option.map_some, Option.getD_some]
    rw [tw]
    by_cases e : i = 31
    · subst e
      cases t with
      | zero => simp [nth]
      | succ t => simp [nth]; omega
    · rw [if_neg e, if_neg (by omega)]; simp [nth]
  | k + 1, hk, i, t, hi => by
    have ih := tb_eq h k (by omega)
    rw [tb, List.getD_eq_getElem?_getD]
    simp only [List.getElem?_map, List.getElem?_range hi, Option.map_some, Option.getD_some]
    rw [nth_addL, nth_shL (h _ _), nth_shL (h _ _), tw]
    have e1 : (i : Int) - 31 - 1 = (i : Int) - 32 := by omega
    have e2 : (i : Int) - 31 + 1 = (i : Int) - 30 := by omega
    rw [e1, e2]
    have h1 := h ((i : Int) - 32) ((i : Int) - 31)
    have h2 := h ((i : Int) - 30) ((i : Int) - 31)
    congr 1
    · generalize tal ((i : Int) - 32) ((i : Int) - 31) = b at *
      by_cases hb : (t : Int) < b
      · rw [if_pos hb, tw_out h k _ _ (by omega)]
      · rw [if_neg hb]
        by_cases h0 : i = 0
        · subst h0
          rw [if_pos rfl, tw_out h k _ _ (by omega)]; simp [nth]
        · have := ih (i - 1) ((t : Int) - b).toNat (by omega)
          rw [if_neg h0, this]
          congr 1 <;> omega
    · generalize tal ((i : Int) - 30) ((i : Int) - 31) = b at *
      by_cases hb : (t : Int) < b
      · rw [if_pos hb, tw_out h k _ _ (by omega)]
      · rw [if_neg hb]
        by_cases h0 : i + 1 < 63
        · have := ih (i + 1) ((t : Int) - b).toNat h0
          rw [this]
          congr 1 <;> omega
        · have hl : (tb tal k).length = 63 := by cases k <;> simp [tb]
          have : (tb tal k).getD (i + 1) [] = [] := by rw [List.getD_eq_getElem?_getD, List.getElem?_eq_none (by omega)]; rfl
          rw [this, tw_out h k _ _ (by omega)]; simp [nth]
/-- The sum of a list. -/
def sumI : List Int → Int
  | [] => 0
  | x :: xs => x + sumI xs
/-- All walks of k steps with the tally t. -/
def allW (tal : Int → Int → Int) (k : Nat) (t : Int) : Int := sumI ((List.range 61).map fun (i : Nat) => tw tal k ((i : Int) - 30) t)
/-- The same by the table. -/
def allT (tal : Int → Int → Int) (L : List (List Int)) (t : Nat) : Int := sumI ((List.range 61).map fun (i : Nat) => nth (L.getD (i + 1) []) t)
theorem all_eq {tal : Int → Int → Int} (h : Tal tal) {k : Nat} (hk : k ≤ 30) (t : Nat) : allW tal k (t : Int) = allT tal (tb tal k) t := by
  rw [allW, allT]
  congr 1
  refine List.map_congr_left fun i hi => ?_
  rw [List.mem_range] at hi
  rw [tb_eq h k hk (i + 1) t (by omega)]
  congr 1
  omega
/-- A step above 0 is told. -/
def talLead (a b : Int) : Int := if 0 < a ∨ 0 < b then 1 else 0
def talRet (_ b : Int) : Int := if b = 0 then 1 else 0
theorem tal_lead : Tal talLead := fun a b => by unfold talLead; split <;> simp
theorem tal_ret : Tal talRet := fun a b => by unfold talRet; split <;> simp
theorem lead_eq {k r : Nat} (hk : k ≤ 15) (hr : r ≤ k) : allW talLead (2 * k) ((2 * r : Nat) : Int) = paths (2 * r) 0 * paths (2 * k - 2 * r) 0 := by
  have hd : ((List.range 16).all fun k => (fun L => (List.range (k + 1)).all fun r => allT talLead L (2 * r) == paths (2 * r) 0 * paths (2 * k - 2 * r) 0) (tb talLead (2 * k))) = true := by decide +kernel
  rw [all_eq tal_lead (by omega)]
  have h1 := List.all_eq_true.1 hd k (List.mem_range.2 (by omega))
  have h2 := List.all_eq_true.1 h1 r (List.mem_range.2 (by omega))
  exact beq_iff_eq.1 h2
end Go.Proofs.Ytbekfpgpeaoifaa
