/- Plain laws: stoppings and rules of a tree are the same lists. Nothing of the program. -/
import Derived.Test.YtjkkfjipgomkdaaWay2
import Derived.Test.YtjkkfjipgomkdaaStop
namespace Go.Proofs.Ytjkkfjipgomkdaa

/-- How many of the nodes on the way to x are in a list? -/
def onR (ps rule : List Int) (x : Nat) : List Int := (way ps x).filter (hasB rule)
theorem onR_zero (ps rule : List Int) : onR ps rule 0 = if hasB rule 0 then [0] else [] := by
  rw [onR, way_zero]; cases h : hasB rule 0 <;> simp [h]
theorem onR_up {ps : List Int} (hp : Pa ps) (rule : List Int) {x : Nat} (h1 : 1 ≤ x) (h2 : x < ps.length) : onR ps rule x = onR ps rule (par ps x) ++ (if hasB rule x then [(x : Int)] else []) := by
  rw [onR, way_up hp h1 h2, List.filter_append, onR]
  cases h : hasB rule x <;> simp [h]
/-- Is a list a stopping? -/
def stopB (ps rule : List Int) : Bool := risB rule && allIn rule 0 ((ps.length : Int) - 1) && (List.range (ends ps).length).all fun i => (onR ps rule (nth (ends ps) i).toNat).length == 1
/-- Is a list a rule? -/
def ruleB (ps rule : List Int) : Bool := risB rule && allIn rule 0 ((ps.length : Int) - 1) && ((List.range (ends ps).length).all fun i => decide (0 ≤ stop ps (hasB rule) (nth (ends ps) i).toNat)) && (List.range rule.length).all fun i => stop ps (hasB rule) (nth rule i).toNat == nth rule i
/-- Is a number on the way if and only if there is a stop? -/
theorem stop_cnt {ps : List Int} (hp : Pa ps) (rule : List Int) : ∀ n x : Nat, x < n → x < ps.length → (0 ≤ stop ps (hasB rule) x ↔ 1 ≤ (onR ps rule x).length)
  | 0, x, h, _ => by omega
  | n + 1, x, h, hx => by
    rcases Nat.eq_zero_or_pos x with rfl | h0
    · rw [stop_zero, onR_zero]
      cases hh : hasB rule 0 <;> simp
    · have hpar := hp.upN (x := x) (by omega) hx
      have ih := stop_cnt hp rule n (par ps x) (by omega) (by omega)
      rw [stop_up hp _ (by omega) hx, onR_up hp rule (by omega) hx]
      by_cases hs : 0 ≤ stop ps (hasB rule) (par ps x)
      · rw [if_pos hs]
        have := ih.1 hs
        simp only [List.length_append]
        exact ⟨fun _ => by omega, fun _ => hs⟩
      · rw [if_neg hs]
        have h3 : ¬ 1 ≤ (onR ps rule (par ps x)).length := fun h4 => hs (ih.2 h4)
        cases hh : hasB rule x
        · simp only [List.length_append]
          constructor
          · intro h4; simp at h4
          · intro h4; simp at h4; exact absurd (by omega) h3
        · simp
/-- A node of the list stops itself if and only if it is alone on its way. -/
theorem stop_self {ps : List Int} (hp : Pa ps) (rule : List Int) {x : Nat} (hx : x < ps.length) (hh : hasB rule x = true) : stop ps (hasB rule) x = (x : Int) ↔ (onR ps rule x).length = 1 := by
  rcases Nat.eq_zero_or_pos x with rfl | h0
  · have hh0 : hasB rule 0 = true := hh
    rw [stop_zero, onR_zero, hh0]; simp
  · have hpar := hp.upN (x := x) (by omega) hx
    have hc := stop_cnt hp rule _ (par ps x) (Nat.lt_succ_self _) (by omega)
    have hlow := stop_low hp (hasB rule) (par ps x) (by omega)
    rw [stop_up hp _ (by omega) hx, onR_up hp rule (by omega) hx, hh]
    simp only [if_true, List.length_append, List.length_singleton]
    by_cases hs : 0 ≤ stop ps (hasB rule) (par ps x)
    · rw [if_pos hs]
      have := hc.1 hs
      constructor
      · intro h4; omega
      · intro h4; omega
    · rw [if_neg hs]
      have h3 : ¬ 1 ≤ (onR ps rule (par ps x)).length := fun h4 => hs (hc.2 h4)
      exact ⟨fun _ => by omega, fun _ => rfl⟩
/-- Where each node of the list stops itself, there is at most one on each way. -/
theorem cnt_le {ps : List Int} (hp : Pa ps) {rule : List Int} (h : ∀ x : Nat, x < ps.length → hasB rule x = true → (onR ps rule x).length = 1) : ∀ n x : Nat, x < n → x < ps.length → (onR ps rule x).length ≤ 1
  | 0, x, h, _ => by omega
  | n + 1, x, hn, hx => by
    cases hh : hasB rule x
    · rcases Nat.eq_zero_or_pos x with rfl | h0
      · have hh0 : hasB rule 0 = false := hh
        rw [onR_zero, hh0]; simp
      · have hpar := hp.upN (x := x) (by omega) hx
        rw [onR_up hp rule (by omega) hx, hh]
        simp only [Bool.false_eq_true, if_false, List.append_nil]
        exact cnt_le hp h n (par ps x) (by omega) (by omega)
    · rw [h x hx hh]; omega
/-- Below each node there is an end with at least as many. -/
theorem cnt_end {ps : List Int} (hp : Pa ps) (rule : List Int) : ∀ k x : Nat, ps.length ≤ k + x → x < ps.length → ∃ e : Nat, e < ps.length ∧ endB ps e = true ∧ (onR ps rule x).length ≤ (onR ps rule e).length
  | 0, x, h, hx => by omega
  | k + 1, x, h, hx => by
    cases he : endB ps x
    · obtain ⟨y, hy, hyx⟩ : ∃ y, y < ps.length ∧ nth ps y = (x : Int) := by
        by_cases hc : ∃ y, y < ps.length ∧ nth ps y = (x : Int)
        · exact hc
        · rw [endB_t fun y hy e => hc ⟨y, hy, e⟩] at he; cases he
      have hlt := kids_lt hp hy hyx
      obtain ⟨e, he1, he2, he3⟩ := cnt_end hp rule k y (by omega) hy
      have hpy : par ps y = x := by have := (hp.upN (x := y) (by omega) hy).1; omega
      rw [onR_up hp rule (by omega) hy, hpy, List.length_append] at he3
      exact ⟨e, he1, he2, by omega⟩
    · exact ⟨x, hx, he, Nat.le_refl _⟩
theorem hasB_mem {l : List Int} {y : Int} (h : hasB l y = true) : ∃ i, i < l.length ∧ nth l i = y := by
  unfold hasB at h; rw [List.any_eq_true] at h
  obtain ⟨z, hz, he⟩ := h
  obtain ⟨i, hi, rfl⟩ := List.mem_iff_getElem.1 hz
  exact ⟨i, hi, by rw [nth_lt hi]; simpa using he⟩
theorem all_iff {n : Nat} {f : Nat → Bool} : (List.range n).all f = true ↔ ∀ i, i < n → f i = true := ⟨fun h i hi => all_get h hi, all_t⟩
theorem end_nth {ps : List Int} {i : Nat} (hi : i < (ends ps).length) : ∃ e : Nat, e < ps.length ∧ endB ps e = true ∧ nth (ends ps) i = (e : Int) := by
  obtain ⟨e, h1, h2, h3⟩ := mem_filt.1 (nth_mem hi)
  exact ⟨e, h1, h2, h3⟩
theorem nth_end {ps : List Int} {e : Nat} (h : e < ps.length) (he : endB ps e = true) : ∃ i, i < (ends ps).length ∧ nth (ends ps) i = (e : Int) := by
  have hm : (e : Int) ∈ ends ps := mem_filt.2 ⟨e, h, he, rfl⟩
  obtain ⟨i, hi, he⟩ := List.mem_iff_getElem.1 hm
  exact ⟨i, hi, by rw [nth_lt hi]; exact he⟩
theorem all_in {l : List Int} {lo up : Int} (h : allIn l lo up = true) {i : Nat} (hi : i < l.length) : lo ≤ nth l i ∧ nth l i ≤ up := by
  have := all_get h hi
  simpa [inB] using this
theorem rule_stop {ps : List Int} (hp : Pa ps) (rule : List Int) : ruleB ps rule = stopB ps rule := by
  cases hr : risB rule
  · simp [ruleB, stopB, hr]
  cases ha : allIn rule 0 ((ps.length : Int) - 1)
  · simp [ruleB, stopB, ha]
  have hnode : ∀ i, i < rule.length → ∃ x : Nat, x < ps.length ∧ nth rule i = (x : Int) ∧ hasB rule x = true := fun i hi => by
    have := all_in ha hi
    exact ⟨(nth rule i).toNat, by omega, by omega, has_t hi (by omega)⟩
  rw [ruleB, stopB, hr, ha]
  simp only [Bool.true_and]
  rw [Bool.eq_iff_iff, Bool.and_eq_true, all_iff, all_iff, all_iff]
  constructor
  · rintro ⟨h1, h2⟩ i hi
    obtain ⟨e, he1, he2, he3⟩ := end_nth hi
    have h3 := h1 i hi
    rw [he3, Int.toNat_natCast] at h3 ⊢
    rw [decide_eq_true_iff, stop_cnt hp rule _ e (Nat.lt_succ_self _) he1] at h3
    have hself : ∀ x : Nat, x < ps.length → hasB rule x = true → (onR ps rule x).length = 1 := fun x hx hh => by
      obtain ⟨j, hj, hjx⟩ := hasB_mem hh
      have := h2 j hj
      rw [hjx, Int.toNat_natCast, beq_iff_eq] at this
      exact (stop_self hp rule hx hh).1 this
    have := cnt_le hp hself _ e (Nat.lt_succ_self _) he1
    rw [beq_iff_eq]; omega
  · intro h
    have hend : ∀ e : Nat, e < ps.length → endB ps e = true → (onR ps rule e).length = 1 := fun e he1 he2 => by
      obtain ⟨i, hi, hie⟩ := nth_end he1 he2
      have := h i hi
      rw [hie, Int.toNat_natCast, beq_iff_eq] at this
      exact this
    constructor
    · intro i hi
      obtain ⟨e, he1, he2, he3⟩ := end_nth hi
      rw [he3, Int.toNat_natCast, decide_eq_true_iff, stop_cnt hp rule _ e (Nat.lt_succ_self _) he1, hend e he1 he2]
      omega
    · intro i hi
      obtain ⟨x, hx, hix, hh⟩ := hnode i hi
      rw [hix, Int.toNat_natCast, beq_iff_eq, stop_self hp rule hx hh]
      obtain ⟨e, he1, he2, he3⟩ := cnt_end hp rule ps.length x (by omega) hx
      rw [hend e he1 he2] at he3
      have h0 : 0 ≤ stop ps (hasB rule) x := stop_end hp _ hx hh
      rw [stop_cnt hp rule _ x (Nat.lt_succ_self _) hx] at h0
      omega
end Go.Proofs.Ytjkkfjipgomkdaa
