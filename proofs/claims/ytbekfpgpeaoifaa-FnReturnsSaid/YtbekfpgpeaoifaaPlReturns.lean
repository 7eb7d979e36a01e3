/- Plain numbers: walks counted by returns and by steps above 0 are all walks. No conditions but those stated. -/
import Derived.Test.YtbekfpgpeaoifaaPlRet
import Derived.Test.YtbekfpgpeaoifaaLead
import Derived.Test.YtbekfpgpeaoifaaPlP
namespace Go.Proofs.Ytbekfpgpeaoifaa
open Go.RowKit

/-- The sum of the first n values. -/
def upTo (f : Nat → Int) (n : Nat) : Int := sumI ((List.range n).map f)
theorem upTo_zero (f : Nat → Int) : upTo f 0 = 0 := rfl
theorem upTo_succ (f : Nat → Int) (n : Nat) : upTo f (n + 1) = upTo f n + f n := by
  unfold upTo
  rw [List.range_succ, List.map_append, sumI_append]
  simp [sumI]
theorem upTo_bd {f : Nat → Int} {B : Int} (n : Nat) (h : ∀ i, i < n → 0 ≤ f i ∧ f i ≤ B) : 0 ≤ upTo f n ∧ upTo f n ≤ n * B := by
  have := sumI_bd B ((List.range n).map f) (fun x hx => by
    obtain ⟨i, hi, rfl⟩ := List.mem_map.1 hx
    exact h i (List.mem_range.1 hi))
  simpa [upTo] using this
/-- All walks of 2k steps. -/
def allP (k : Nat) (i : Nat) : Int := paths (2 * k) ((i : Int) - 2 * (k : Int))
def retN (k : Nat) (r : Nat) : Int := nth (retL k) r
def leadN (k : Nat) (r : Nat) : Int := nth (leadL k) r
theorem retN_eq {k r : Nat} (h : r ≤ k) : retN k r = allW talRet (2 * k) (r : Int) := by rw [retN, retL, nth_map_range (by omega)]
theorem leadN_eq {k r : Nat} (h : r ≤ k) : leadN k r = paths (2 * r) 0 * paths (2 * k - 2 * r) 0 := by rw [leadN, leadL, nth_map_range (by omega)]
theorem lead_sym {k r : Nat} (h : r ≤ k) : leadN k r = leadN k (k - r) := by
  rw [leadN_eq h, leadN_eq (by omega), show 2 * (k - r) = 2 * k - 2 * r by omega, show 2 * k - (2 * k - 2 * r) = 2 * r by omega, Int.mul_comm]
theorem ret_table : ∀ k, k ≤ 15 → upTo (fun t => allT talRet (tb talRet (2 * k)) t) (k + 1) = upTo (allP k) (4 * k + 1) ∧ allT talRet (tb talRet (2 * k)) 0 = paths (2 * k) 0 ∧ upTo (fun r => paths (2 * r) 0 * paths (2 * k - 2 * r) 0) (k + 1) = upTo (allP k) (4 * k + 1) := by
  have hd : ((List.range 16).all fun k => (fun L => (upTo (fun t => allT talRet L t) (k + 1) == upTo (allP k) (4 * k + 1)) && (allT talRet L 0 == paths (2 * k) 0) && (upTo (fun r => paths (2 * r) 0 * paths (2 * k - 2 * r) 0) (k + 1) == upTo (allP k) (4 * k + 1))) (tb talRet (2 * k))) = true := by decide +kernel
  intro k hk
  have h1 := List.all_eq_true.1 hd k (List.mem_range.2 (by omega))
  simp only [Bool.and_eq_true, beq_iff_eq] at h1
  exact ⟨h1.1.1, h1.1.2, h1.2⟩
theorem upTo_congr {f g : Nat → Int} (n : Nat) (h : ∀ i, i < n → f i = g i) : upTo f n = upTo g n := by
  unfold upTo
  congr 1
  exact List.map_congr_left fun i hi => h i (List.mem_range.1 hi)
theorem ret_sum {k : Nat} (hk : k ≤ 15) : upTo (retN k) (k + 1) = upTo (allP k) (4 * k + 1) := by
  rw [← (ret_table k hk).1]
  refine upTo_congr _ fun i hi => ?_
  rw [retN_eq (by omega), all_eq tal_ret (by omega)]
theorem lead_sum {k : Nat} (hk : k ≤ 15) : upTo (leadN k) (k + 1) = upTo (allP k) (4 * k + 1) := by
  rw [← (ret_table k hk).2.2]
  exact upTo_congr _ fun i hi => leadN_eq (by omega)
theorem ret_home {k : Nat} (hk : k ≤ 15) : retN k 0 = paths (2 * k) 0 := by
  rw [← (ret_table k hk).2.1, retN_eq (Nat.zero_le _)]
  exact all_eq tal_ret (by omega) 0
theorem allP_bd {k : Nat} (hk : k ≤ 15) (i : Nat) : 0 ≤ allP k i ∧ allP k i ≤ 1000000000 := paths_bd _ _ (by omega)
theorem leadN_bd {k r : Nat} (hk : k ≤ 15) (h : r ≤ k) : 0 ≤ leadN k r ∧ leadN k r ≤ 155117520 * 155117520 := by rw [leadN_eq h]; exact lead_prod hk h
theorem retN_bd {k r : Nat} (hk : k ≤ 15) (h : r ≤ k) : 0 ≤ retN k r ∧ retN k r ≤ 61 * 1073741824 := by
  rw [retN_eq h]
  have h1 := sumI_bd 1073741824 ((List.range 61).map fun (i : Nat) => tw talRet (2 * k) ((i : Int) - 30) (r : Int)) (fun x hx => by
    obtain ⟨i, _, rfl⟩ := List.mem_map.1 hx
    have h1 := tw_nn (tal := talRet) (2 * k) ((i : Int) - 30) (r : Int)
    have h2 : (2 : Int) ^ (2 * k) = ((2 ^ (2 * k) : Nat) : Int) := by simp
    have h3 := Nat.pow_le_pow_right (n := 2) (by omega) (show 2 * k ≤ 30 by omega)
    omega)
  simpa [allW] using h1
end Go.Proofs.Ytbekfpgpeaoifaa
