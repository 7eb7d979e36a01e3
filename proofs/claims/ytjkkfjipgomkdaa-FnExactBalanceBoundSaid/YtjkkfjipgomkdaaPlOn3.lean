/- Plain law: the nodes of a stopping on the way to an end, gathered from the stopping itself. No conditions but those stated. -/
import Derived.Test.YtjkkfjipgomkdaaPlMerge
namespace Go.Proofs.Ytjkkfjipgomkdaa
open Go.RowKit

theorem way_asc {ps : List Int} (hp : Pa ps) : ∀ n x : Nat, x < n → x < ps.length → (way ps x).Pairwise (· < ·)
  | 0, x, h, _ => by omega
  | n + 1, x, h, hx => by
    rcases Nat.eq_zero_or_pos x with rfl | h0
    · rw [way_zero]; exact List.pairwise_singleton _ _
    · have hpar := hp.upN (x := x) (by omega) hx
      rw [way_up hp h0 hx, List.pairwise_append]
      refine ⟨way_asc hp n (par ps x) (by omega) (by omega), List.pairwise_singleton _ _, fun y hy z hz => ?_⟩
      obtain ⟨j, hj, rfl⟩ := way_mem hp (par ps x) (by omega) y hy
      rw [List.mem_singleton] at hz
      subst hz
      omega
theorem has_mem {l : List Int} {y : Int} : hasB l y = true ↔ y ∈ l := by
  rw [← has_contains, List.contains_iff_mem]
theorem on_eq {ps rule : List Int} (hp : Pa ps) (hr : risB rule = true) {x : Nat} (hx : x < ps.length) : rule.filter (hasB (way ps x)) = onR ps rule x := by
  refine asc_ext ((ris_asc hr).filter _) ((way_asc hp _ x (Nat.lt_succ_self _) hx).filter _) fun z => ?_
  rw [onR, List.mem_filter, List.mem_filter, has_mem, has_mem]
  exact And.comm
theorem on_stop {ps rule : List Int} (hp : Pa ps) (h : stopB ps rule = true) {x : Nat} (hx : x < ps.length) (hx2 : endB ps x = true) : rule.filter (hasB (way ps x)) = [stop ps (hasB rule) x] := by
  rw [on_eq hp (stop_parts h).1 hx, sole h hx hx2]
theorem l3_cut {ps rule : List Int} (hp : Pa ps) {i x : Nat} (hi : i < (ends ps).length) (hx : nth (ends ps) i = (x : Int)) (h : (rule.filter (hasB (way ps x))).length ≠ 1) : stopB ps rule = false := by
  cases hs : stopB ps rule
  · rfl
  · obtain ⟨e, h1, h2, h3⟩ := end_nth hi
    obtain rfl : e = x := by omega
    rw [on_stop hp hs h1 h2] at h
    exact absurd rfl h
theorem l3_all {ps rule : List Int} (hp : Pa ps) (h : ∀ i, i < (ends ps).length → ∀ x : Nat, nth (ends ps) i = (x : Int) → (rule.filter (hasB (way ps x))).length = 1) : (risB rule && allIn rule 0 ((ps.length : Int) - 1)) = stopB ps rule := by
  cases hr : risB rule
  · rw [stopB, hr]; rfl
  · rw [stopB, hr]
    have : ((List.range (ends ps).length).all fun i => (onR ps rule (nth (ends ps) i).toNat).length == 1) = true := all_t fun i hi => by
      obtain ⟨e, h1, h2, h3⟩ := end_nth hi
      rw [h3, Int.toNat_natCast, ← on_eq hp hr h1, h i hi e h3]
      rfl
    rw [this]; simp
end Go.Proofs.Ytjkkfjipgomkdaa
