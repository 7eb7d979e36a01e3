/- Contracts: is a list a rule, by the program and by the reference. -/
import Derived.Test.YtnbomleieianoaaRule
import Derived.Test.YtnbomleieianoaaTree7
namespace Go.Proofs.Ytnbomleieianoaa
open Go.RowKit

theorem rule_no1 {ps rule : List Int} (h : (risB rule && allIn rule 0 ((ps.length : Int) - 1)) = false) : ruleB ps rule = false := by rw [ruleB, h]; simp
theorem rule_no2 {ps rule : List Int} {i e : Nat} (hi : i < (ends ps).length) (he : nth (ends ps) i = (e : Int)) (h : ¬ 0 ≤ stop ps (hasB rule) e) : ruleB ps rule = false := by
  rw [ruleB, all_f (n := (ends ps).length) hi (by rw [he, Int.toNat_natCast, decide_eq_false_iff_not]; exact h)]; simp
theorem rule_no3 {ps rule : List Int} {i x : Nat} (hi : i < rule.length) (he : nth rule i = (x : Int)) (h : ¬ stop ps (hasB rule) x = (x : Int)) : ruleB ps rule = false := by
  rw [ruleB, all_f (n := rule.length) hi (by rw [he, Int.toNat_natCast, beq_eq_false_iff_ne]; exact h)]; simp
theorem rule_yes {ps rule : List Int} (h1 : (risB rule && allIn rule 0 ((ps.length : Int) - 1)) = true) (h2 : ∀ i e : Nat, i < (ends ps).length → nth (ends ps) i = (e : Int) → 0 ≤ stop ps (hasB rule) e) (h3 : ∀ i x : Nat, i < rule.length → nth rule i = (x : Int) → stop ps (hasB rule) x = (x : Int)) : ruleB ps rule = true := by
  have ha : allIn rule 0 ((ps.length : Int) - 1) = true := by
    rw [Bool.and_eq_true] at h1; exact h1.2
  rw [ruleB, h1, all_t fun i hi => by
    obtain ⟨e, he1, he2, he3⟩ := end_nth hi
    rw [he3, Int.toNat_natCast, decide_eq_true_iff]; exact h2 i e hi he3, all_t fun i hi => by
    have := all_in ha hi
    have h4 := h3 i (nth rule i).toNat hi (by omega)
    rw [beq_iff_eq]; omega]; rfl
end Go.Proofs.Ytnbomleieianoaa
