/- Contracts and plain laws for the statement FnEntries, part 15. No conditions but those stated in each. -/
import Derived.Test.YtnbomleieianoaaBnFnEntries11
import Derived.Test.YtnbomleieianoaaBnFnEntries12
import Derived.Test.YtnbomleieianoaaBnFnEntries5
import Derived.Test.YtnbomleieianoaaBnFnEntries13
/- Contracts: the mean of a rule, of the program and of the reference. -/
namespace Go.Proofs.Ytnbomleieianoaa
open Go.RowKit

/-- The sum of the first k numbers at the nodes of a rule, each times its node's sum. -/
def mS (s l rule : List Int) : Nat → Int
  | 0 => 0
  | k + 1 => mS s l rule k + nth s (nth rule k).toNat * nth l (nth rule k).toNat
theorem mS_bd {ps ws l rule : List Int} (h : Tr ps ws) (hl : ∀ i, -999 ≤ nth l i ∧ nth l i ≤ 999) : ∀ k : Nat, -(479520 * (k : Int)) ≤ mS (sums ps ws) l rule k ∧ mS (sums ps ws) l rule k ≤ 479520 * (k : Int)
  | 0 => by simp [mS]
  | k + 1 => by
    have ih := mS_bd (rule := rule) h hl k
    have h1 := mul_abs (B := 999) (U := 480) (hl (nth rule k).toNat) (sums_bd h (nth rule k).toNat) (by omega)
    rw [Int.mul_comm (nth l (nth rule k).toNat)] at h1
    rw [mS, Int.natCast_add, Int.mul_add]; simp only [Int.natCast_one, Int.mul_one]; omega
theorem ris_ge {l : List Int} (h : risB l = true) (h0 : ∀ i, i < l.length → 0 ≤ nth l i) : ∀ i : Nat, i < l.length → (i : Int) ≤ nth l i
  | 0, hi => h0 0 hi
  | i + 1, hi => by
    have ih := ris_ge h h0 i (by omega)
    have := ris_get h (i := i + 1) (by omega) hi
    rw [show i + 1 - 1 = i by omega] at this
    omega
theorem stop_len {ps rule : List Int} (h : stopB ps rule = true) : rule.length ≤ ps.length ∧ (∀ i, i < rule.length → 0 ≤ nth rule i ∧ nth rule i < (ps.length : Int)) := by
  have ha : allIn rule 0 ((ps.length : Int) - 1) = true := by
    cases ha : allIn rule 0 ((ps.length : Int) - 1)
    · rw [stop_no2 ha] at h; cases h
    · rfl
  have hr : risB rule = true := by
    cases hr : risB rule
    · rw [stop_no1 hr] at h; cases h
    · rfl
  have hb := fun i hi => all_in (l := rule) ha (i := i) hi
  refine ⟨?_, fun i hi => by have := hb i hi; omega⟩
  rcases Nat.eq_zero_or_pos rule.length with h0 | h0
  · omega
  · have h1 := ris_ge hr (fun i hi => (hb i hi).1) (rule.length - 1) (by omega)
    have h2 := hb (rule.length - 1) (by omega)
    omega
def rmB (ps ws l rule : List Int) : Bool := paysB ps ws l && stopB ps rule
def rmS (ps ws l rule : List Int) : Int := mS (sums ps ws) l rule rule.length
def rmN (ps ws l rule : List Int) : Int := if rmB ps ws l rule then nm (rmS ps ws l rule) (nth (sums ps ws) 0) else 0
def rmD (ps ws l rule : List Int) : Int := if rmB ps ws l rule then dn (rmS ps ws l rule) (nth (sums ps ws) 0) else 0
theorem rm_no {ps ws l rule : List Int} (h : rmB ps ws l rule = false) : rmN ps ws l rule = 0 ∧ rmD ps ws l rule = 0 := by unfold rmN rmD; rw [h]; exact ⟨rfl, rfl⟩
theorem rm_yes {ps ws l rule : List Int} (h : rmB ps ws l rule = true) : rmN ps ws l rule = nm (rmS ps ws l rule) (nth (sums ps ws) 0) ∧ rmD ps ws l rule = dn (rmS ps ws l rule) (nth (sums ps ws) 0) := by unfold rmN rmD; rw [h]; exact ⟨rfl, rfl⟩
theorem rmB_no1 {ps ws l rule : List Int} (h : paysB ps ws l = false) : rmB ps ws l rule = false := by rw [rmB, h]; rfl
theorem rmB_no2 {ps ws l rule : List Int} (h : stopB ps rule = false) : rmB ps ws l rule = false := by rw [rmB, h]; simp
theorem rmB_yes {ps ws l rule : List Int} (h1 : paysB ps ws l = true) (h2 : stopB ps rule = true) : rmB ps ws l rule = true := by rw [rmB, h1, h2]; rfl
end Go.Proofs.Ytnbomleieianoaa

/- Contracts: the mean of a rule: RuleMean. -/
namespace Go.Proofs.Ytnbomleieianoaa
open Go.RowKit

end Go.Proofs.Ytnbomleieianoaa
