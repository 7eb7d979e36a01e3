/- Plain numbers: walks by their returns, told place by place. No conditions but those stated. -/
import Derived.Test.YtbekfpgpeaoifaaTally
namespace Go.Proofs.Ytbekfpgpeaoifaa
open Go.RowKit

theorem ret_out : ∀ (k : Nat) (x t : Int), (k : Int) < 2 * t + x ∨ (k : Int) < 2 * t - x → tw talRet k x t = 0
  | 0, x, t, h => by
    rw [tw, if_neg]
    rintro ⟨rfl, rfl⟩
    omega
  | k + 1, x, t, h => by
    rw [tw]
    have ht : talRet (x - 1) x = talRet (x + 1) x := rfl
    have hv : (x = 0 ∧ talRet (x + 1) x = 1) ∨ (x ≠ 0 ∧ talRet (x + 1) x = 0) := by
      unfold talRet
      by_cases e : x = 0
      · exact .inl ⟨e, if_pos e⟩
      · exact .inr ⟨e, if_neg e⟩
    rw [ht]
    generalize talRet (x + 1) x = b at *
    rw [ret_out k _ _ (by omega), ret_out k _ _ (by omega)]; rfl
/-- Still to come: all behind place a and tally r. -/
def lB (m : Int) (a r : Nat) (x t : Int) : Bool := decide ((a : Int) ≤ x + m) && !(decide (x + m = (a : Int)) && decide (t < (r : Int)))
theorem lB_here (m : Int) (a r : Nat) : lB m a r ((a : Int) - m) (r : Int) = true := by
  unfold lB
  have h1 : (a : Int) ≤ (a : Int) - m + m := by omega
  have h2 : ¬ ((r : Int) < (r : Int)) := by omega
  simp [h1, h2]
theorem lB_next (m : Int) (a r : Nat) : (fun p q => lB m a r p q && !(decide (p = (a : Int) - m) && decide (q = (r : Int)))) = lB m a (r + 1) := by
  funext p q
  unfold lB
  by_cases h1 : p = (a : Int) - m
  · subst h1
    have e1 : (a : Int) ≤ (a : Int) - m + m := by omega
    have e2 : (a : Int) - m + m = (a : Int) := by omega
    by_cases h2 : q = (r : Int)
    · subst h2; simp [e1, e2]; omega
    · by_cases h3 : q < (r : Int)
      · have h4 : q < (r : Int) + 1 := by omega
        simp [e2, h2, h3, h4]
      · have h4 : ¬ q < (r : Int) + 1 := by omega
        simp [e1, e2, h2, h3]; omega
  · have e2 : ¬ (p + m = (a : Int)) := by omega
    simp [h1, e2]
theorem twL_congr {tal F : Int → Int → Int} {l l' : Int → Int → Bool} (h : ∀ x t, l x t ≠ l' x t → F x t = 0) (x t : Int) : twL tal F l x t = twL tal F l' x t := by
  have h1 : ∀ x t, (if l x t then 0 else F x t) = (if l' x t then 0 else F x t) := fun x t => by
    by_cases e : l x t = l' x t
    · rw [e]
    · rw [h x t e]; simp
  unfold twL
  rw [h1, h1]
theorem partA_congr {F : Int → Int → Int} {l l' : Int → Int → Bool} (h : ∀ x t, l x t ≠ l' x t → F x t = 0) (t : Int) : partA F l t = partA F l' t := by
  have h1 : ∀ x t, (if l x t then 0 else F x t) = (if l' x t then 0 else F x t) := fun x t => by
    by_cases e : l x t = l' x t
    · rw [e]
    · rw [h x t e]; simp
  unfold partA
  congr 1
  exact List.map_congr_left fun i _ => h1 _ _
theorem outL_congr {F : Int → Int → Int} {l l' : Int → Int → Bool} (h : ∀ x t, l x t ≠ l' x t → F x t = 0) (m : Nat) : outL F l m = outL F l' m := by
  unfold outL
  exact List.map_congr_left fun t _ => partA_congr h _
/-- A row of places is told whole. -/
theorem lB_row {s k : Nat} {m : Int} (hs : s ≤ 2 * k) (a : Nat) (x t : Int) (h : lB m a (k + 1) x t ≠ lB m (a + 1) 0 x t) : tw talRet s x t = 0 := by
  by_cases h1 : (k : Int) < t
  · rcases (show 0 ≤ x ∨ x ≤ 0 by omega) with h2 | h2
    · exact ret_out s x t (.inl (by omega))
    · exact ret_out s x t (.inr (by omega))
  · by_cases h2 : t < 0
    · exact tw_out tal_ret s x t (by omega)
    · refine absurd ?_ h
      unfold lB
      have e1 : t < ((k + 1 : Nat) : Int) := by omega
      have e2 : ¬ t < ((0 : Nat) : Int) := by omega
      simp only [e1, e2, decide_true, decide_false, Bool.and_true, Bool.and_false, Bool.not_false]
      by_cases h3 : x + m = (a : Int)
      · simp [h3]; omega
      · by_cases h4 : (a : Int) ≤ x + m
        · have h5 : (a : Int) + 1 ≤ x + m := by omega
          simp [h3, h4, h5]
        · simp [h4]; omega
theorem lB_start {s a : Nat} {m : Int} (h : (a : Int) + s ≤ m) (x t : Int) (hl : lB m a 0 x t = false) : tw talRet s x t = 0 := by
  by_cases h2 : t < 0
  · exact tw_out tal_ret s x t (by omega)
  · refine tw_out tal_ret s x t (.inl ?_)
    unfold lB at hl
    have e2 : ¬ t < ((0 : Nat) : Int) := by omega
    simp [e2] at hl
    omega
theorem lB_end {s a : Nat} {m : Int} (h : m + s < a) (x t : Int) (hl : lB m a 0 x t ≠ false) : tw talRet s x t = 0 := by
  refine tw_out tal_ret s x t (.inr (.inl ?_))
  unfold lB at hl
  simp at hl
  omega
/-- The walks of 2k steps by their returns. -/
def retL (k : Nat) : List Int := (List.range (k + 1)).map fun (t : Nat) => allW talRet (2 * k) (t : Int)
def retV (m : Int) : List Int := if evB m then retL (m.toNat / 2) else []
theorem retV_no {m : Int} (h : evB m = false) : retV m = [] := by rw [retV, h]; rfl
theorem retV_yes {k : Nat} (h : evB ((2 * k : Nat) : Int) = true) : retV ((2 * k : Nat) : Int) = retL k := by
  rw [retV, h]
  simp only [if_true]
  congr 1
  omega
theorem retL_length (k : Nat) : (retL k).length = k + 1 := by simp [retL]
theorem outL_ret {k : Nat} {l : Int → Int → Bool} (h : ∀ x t, l x t ≠ false → tw talRet (2 * k) x t = 0) : outL (tw talRet (2 * k)) l k = retL k := by
  rw [outL_congr (l' := fun _ _ => false) h]
  unfold outL retL
  refine List.map_congr_left fun i _ => ?_
  rw [partA_done (fun _ _ => rfl), allW]
theorem allL_take (k : Nat) : (allL talRet (2 * k)).take (k + 1) = retL k := by
  refine ext_nth (by rw [List.length_take, retL_length]; simp [allL]; omega) fun i hi => ?_
  rw [List.length_take] at hi
  have e : nth ((allL talRet (2 * k)).take (k + 1)) i = nth (allL talRet (2 * k)) i := by unfold nth; simp [List.getD, show i < k + 1 by omega]
  rw [e, allL, nth_map_range (by omega), retL, nth_map_range (by omega)]
end Go.Proofs.Ytbekfpgpeaoifaa
