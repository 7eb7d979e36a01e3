/- Plain laws: the earlier and the later one of two stoppings. Nothing of the program. -/
import Derived.Test.YtjkkfjipgomkdaaPlStop
namespace Go.Proofs.Ytjkkfjipgomkdaa

/-- Ascending lists with the same members are the same. -/
theorem asc_ext : ∀ {xs ys : List Int}, xs.Pairwise (· < ·) → ys.Pairwise (· < ·) → (∀ z, z ∈ xs ↔ z ∈ ys) → xs = ys
  | [], [], _, _, _ => rfl
  | [], y :: ys, _, _, h => by have := (h y).2 (by simp); simp at this
  | x :: xs, [], _, _, h => by have := (h x).1 (by simp); simp at this
  | x :: xs, y :: ys, h1, h2, h => by
    rw [List.pairwise_cons] at h1 h2
    have hxy : x = y := by
      have e1 := (h x).1 (by simp)
      have e2 := (h y).2 (by simp)
      rw [List.mem_cons] at e1 e2
      rcases e1 with e1 | e1
      · exact e1
      · rcases e2 with e2 | e2
        · exact e2.symm
        · have := h1.1 y e2; have := h2.1 x e1; omega
    subst hxy
    congr 1
    refine asc_ext h1.2 h2.2 fun z => ?_
    have hz := h z
    rw [List.mem_cons, List.mem_cons] at hz
    constructor
    · intro hm
      rcases hz.1 (.inr hm) with e | e
      · subst e; have := h1.1 _ hm; omega
      · exact e
    · intro hm
      rcases hz.2 (.inr hm) with e | e
      · subst e; have := h2.1 _ hm; omega
      · exact e
theorem filt_asc (p : Nat → Bool) : ∀ k, (filt p k).Pairwise (· < ·)
  | 0 => by simp [filt]
  | k + 1 => by
    cases h : p k
    · rw [filt_f h]; exact filt_asc p k
    · rw [filt_t h, List.pairwise_append]
      refine ⟨filt_asc p k, by simp, fun x hx y hy => ?_⟩
      obtain ⟨i, hi, _, rfl⟩ := mem_filt.1 hx
      have : y = (k : Int) := by simpa using hy
      omega
theorem compactUpTo_asc (d : Array Int) (hd : ∀ i j, i ≤ j → j < d.size → d[i]! ≤ d[j]!) : ∀ m, m ≤ d.size → (Lib.compactUpTo d m).Pairwise (· < ·) ∧ (∀ z, z ∈ Lib.compactUpTo d m ↔ ∃ j, j < m ∧ z = d[j]!)
  | 0, _ => by simp [Lib.compactUpTo]
  | m + 1, hm => by
    obtain ⟨ih1, ih2⟩ := compactUpTo_asc d hd m (by omega)
    rw [Lib.compactUpTo_succ]
    rcases Nat.eq_zero_or_pos m with rfl | h0
    · have hk : Lib.keeps d 0 = true := by simp [Lib.keeps]
      rw [hk]
      simp only [if_true]
      refine ⟨by simp [Lib.compactUpTo], fun z => ?_⟩
      simp [Lib.compactUpTo]
    · by_cases e : d[m]! = d[m - 1]!
      · rw [Lib.keeps_neg h0 e]
        simp only [Bool.false_eq_true, if_false, List.append_nil]
        refine ⟨ih1, fun z => (ih2 z).trans ⟨fun ⟨j, hj, hz⟩ => ⟨j, by omega, hz⟩, fun ⟨j, hj, hz⟩ => ?_⟩⟩
        by_cases ej : j = m
        · exact ⟨m - 1, by omega, by rw [hz, ej, e]⟩
        · exact ⟨j, by omega, hz⟩
      · rw [Lib.keeps_pos e]
        simp only [if_true]
        refine ⟨?_, fun z => ?_⟩
        · rw [List.pairwise_append]
          refine ⟨ih1, by simp, fun x hx y hy => ?_⟩
          obtain ⟨j, hj, rfl⟩ := (ih2 x).1 hx
          have hy' : y = d[m]! := by simpa using hy
          rw [hy']
          have h1 := hd j (m - 1) (by omega) (by omega)
          have h2 := hd (m - 1) m (by omega) (by omega)
          omega
        · rw [List.mem_append, ih2 z]
          constructor
          · rintro (⟨j, hj, hz⟩ | hz)
            · exact ⟨j, by omega, hz⟩
            · exact ⟨m, by omega, by simpa using hz⟩
          · rintro ⟨j, hj, hz⟩
            by_cases ej : j = m
            · right; rw [hz, ej]; simp
            · left; exact ⟨j, by omega, hz⟩
theorem get_bang (zs : List Int) (i : Nat) (h : i < zs.length) : zs.toArray[i]! = zs[i] := by
  simp [getElem!_pos, h]
/-- What is left of a sorted list: an ascending one with the same members. -/
theorem compact_sorted (zs : List Int) : (compactI (sorted zs)).Pairwise (· < ·) ∧ (∀ z, z ∈ compactI (sorted zs) ↔ z ∈ zs) := by
  have hp : (sorted zs).Pairwise (fun a b => decide (a ≤ b) = true) := List.pairwise_mergeSort (fun a b c h1 h2 => by simp at *; omega) (fun a b => by simp; omega) zs
  have hd : ∀ i j, i ≤ j → j < (sorted zs).toArray.size → (sorted zs).toArray[i]! ≤ (sorted zs).toArray[j]! := fun i j hij hj => by
    have hj' : j < (sorted zs).length := by simpa using hj
    rw [get_bang _ i (by omega), get_bang _ j hj']
    by_cases e : i = j
    · subst e; exact Int.le_refl _
    · have := List.pairwise_iff_getElem.1 hp i j (by omega) hj' (by omega)
      simpa using this
  obtain ⟨h1, h2⟩ := compactUpTo_asc (sorted zs).toArray hd (sorted zs).length (by simp)
  refine ⟨h1, fun z => (h2 z).trans ?_⟩
  have hm : z ∈ zs ↔ z ∈ sorted zs := by unfold sorted; rw [List.mem_mergeSort]
  rw [hm]
  constructor
  · rintro ⟨j, hj, rfl⟩
    rw [get_bang _ j hj]; exact List.getElem_mem hj
  · intro h
    obtain ⟨j, hj, rfl⟩ := List.mem_iff_getElem.1 h
    exact ⟨j, hj, by rw [get_bang _ j hj]⟩
/-- One of two numbers: the smaller one if early, otherwise the greater one. -/
def pickI (early : Bool) (x y : Int) : Int := if decide (y < x) == early then y else x
/-- Is z the earlier (the later) stop on the way to one of these ends? -/
def mergeP (ps a b : List Int) (early : Bool) (es : List Int) (z : Nat) : Bool := es.any fun e => pickI early (stop ps (hasB a) e.toNat) (stop ps (hasB b) e.toNat) == (z : Int)
/-- The earlier (the later) one of two stoppings. -/
def mergeV (ps a b : List Int) (early : Bool) : List Int := filt (mergeP ps a b early (ends ps)) ps.length
theorem mergeP_nil (ps a b : List Int) (early : Bool) (k : Nat) : filt (mergeP ps a b early []) k = [] := filt_none fun _ _ => rfl
theorem mergeP_app (ps a b : List Int) (early : Bool) (es : List Int) (e : Int) (z : Nat) : mergeP ps a b early (es ++ [e]) z = (mergeP ps a b early es z || pickI early (stop ps (hasB a) e.toNat) (stop ps (hasB b) e.toNat) == (z : Int)) := by
  simp [mergeP, List.any_append]
theorem stopL_filter (S : Int → Bool) : ∀ xs : List Int, stopL S xs = (xs.filter S).headD (-1)
  | [] => rfl
  | x :: xs => by
    rw [stopL]
    cases h : S x
    · rw [if_neg Bool.false_ne_true, stopL_filter S xs, List.filter_cons_of_neg (by simp [h])]
    · rw [if_pos rfl, List.filter_cons_of_pos h]; rfl
/-- The one node of a stopping on the way to an end. -/
theorem sole {ps rule : List Int} (h : stopB ps rule = true) {e : Nat} (he : e < ps.length) (he2 : endB ps e = true) : onR ps rule e = [stop ps (hasB rule) e] := by
  obtain ⟨i, hi, hie⟩ := nth_end he he2
  have h1 : (onR ps rule e).length = 1 := by
    rw [stopB, Bool.and_eq_true] at h
    have := all_get h.2 hi
    rw [hie, Int.toNat_natCast, beq_iff_eq] at this
    exact this
  have h2 : stop ps (hasB rule) e = (onR ps rule e).headD (-1) := stopL_filter _ _
  obtain ⟨y, hy⟩ := List.length_eq_one_iff.1 h1
  rw [h2, hy]; rfl
theorem sole_mem {ps rule : List Int} (h : stopB ps rule = true) (hp : Pa ps) {e : Nat} (he : e < ps.length) (he2 : endB ps e = true) : ∃ s : Nat, s ≤ e ∧ stop ps (hasB rule) e = (s : Int) ∧ hasB rule (s : Int) = true ∧ (s : Int) ∈ way ps e := by
  have hs := sole h he he2
  have hm : stop ps (hasB rule) e ∈ onR ps rule e := by rw [hs]; simp
  rw [onR, List.mem_filter] at hm
  obtain ⟨j, hj, hje⟩ := way_mem hp e he _ hm.1
  exact ⟨j, hj, hje, hje ▸ hm.2, hje ▸ hm.1⟩
theorem pick_is (early : Bool) (x y : Int) : pickI early x y = x ∨ pickI early x y = y := by
  unfold pickI; split
  · exact .inr rfl
  · exact .inl rfl
/-- What the program makes of the stops is what the reference gathers. -/
theorem merge_eq {ps a b : List Int} (hp : Pa ps) (ha : stopB ps a = true) (hb : stopB ps b = true) (early : Bool) :
    compactI (sorted ((ends ps).map fun e => pickI early (stop ps (hasB a) e.toNat) (stop ps (hasB b) e.toNat))) = mergeV ps a b early := by
  obtain ⟨h1, h2⟩ := compact_sorted ((ends ps).map fun e => pickI early (stop ps (hasB a) e.toNat) (stop ps (hasB b) e.toNat))
  refine asc_ext h1 (filt_asc _ _) fun z => (h2 z).trans ?_
  rw [mergeV, List.mem_map, mem_filt]
  constructor
  · rintro ⟨e, he, rfl⟩
    obtain ⟨i, hi, hie⟩ := List.mem_iff_getElem.1 he
    obtain ⟨x, hx1, hx2, hx3⟩ := end_nth hi
    rw [nth_lt hi, hie] at hx3
    subst hx3
    rw [Int.toNat_natCast]
    obtain ⟨s, hs1, hs2, _⟩ := sole_mem ha hp hx1 hx2
    obtain ⟨t, ht1, ht2, _⟩ := sole_mem hb hp hx1 hx2
    rw [hs2, ht2]
    have hpk : ∃ q : Nat, q ≤ x ∧ pickI early (s : Int) (t : Int) = (q : Int) := by
      rcases pick_is early (s : Int) (t : Int) with e | e
      · exact ⟨s, hs1, e⟩
      · exact ⟨t, ht1, e⟩
    obtain ⟨q, hq, hqe⟩ := hpk
    refine ⟨q, by omega, ?_, hqe⟩
    rw [mergeP, List.any_eq_true]
    exact ⟨(x : Int), he, by rw [Int.toNat_natCast, hs2, ht2, hqe]; simp⟩
  · rintro ⟨q, hq, hm, rfl⟩
    rw [mergeP, List.any_eq_true] at hm
    obtain ⟨e, he, hpk⟩ := hm
    exact ⟨e, he, by simpa using hpk⟩
/-- Two nodes of a stopping on the way to an end are one. -/
theorem sole_one {ps rule : List Int} (h : stopB ps rule = true) {e : Nat} (he : e < ps.length) (he2 : endB ps e = true) {y : Int} (hy : y ∈ way ps e) (hr : hasB rule y = true) : y = stop ps (hasB rule) e := by
  have hm : y ∈ onR ps rule e := List.mem_filter.2 ⟨hy, hr⟩
  rw [sole h he he2] at hm
  simpa using hm
theorem ris_asc {l : List Int} (h : risB l = true) : l.Pairwise (· < ·) := by
  rw [List.pairwise_iff_getElem]
  intro i j hi hj hij
  have : ∀ k, i + k + 1 < l.length → nth l i < nth l (i + k + 1) := fun k => by
    induction k with
    | zero => intro hk; have := ris_get h (i := i + 0 + 1) (by omega) hk; simpa using this
    | succ k ih =>
      intro hk
      have h1 := ih (by omega)
      have h2 := ris_get h (i := i + (k + 1) + 1) (by omega) hk
      rw [show i + (k + 1) + 1 - 1 = i + k + 1 by omega] at h2
      omega
  have h1 := this (j - i - 1) (by omega)
  rw [show i + (j - i - 1) + 1 = j by omega, nth_lt hi, nth_lt hj] at h1
  exact h1
theorem stop_parts {ps rule : List Int} (h : stopB ps rule = true) : risB rule = true ∧ allIn rule 0 ((ps.length : Int) - 1) = true := by
  rw [stopB, Bool.and_eq_true, Bool.and_eq_true] at h
  exact h.1
/-- The earlier one of two stoppings is the first one if and only if that is nowhere later. -/
def noLaterB (ps a b : List Int) : Bool := (List.range (ends ps).length).all fun i => decide (stop ps (hasB a) (nth (ends ps) i).toNat ≤ stop ps (hasB b) (nth (ends ps) i).toNat)
theorem pick_t (x y : Int) : pickI true x y = if y < x then y else x := by
  unfold pickI
  by_cases h : y < x <;> simp [h]
theorem pick_f (x y : Int) : pickI false x y = if x ≤ y then y else x := by
  unfold pickI
  by_cases h : y < x
  · rw [if_neg (by simp [h]), if_neg (by omega)]
  · rw [if_pos (by simp [h]), if_pos (by omega)]
theorem noLater_eq {ps a b : List Int} (hp : Pa ps) (ha : stopB ps a = true) (hb : stopB ps b = true) : (mergeV ps a b true == a) = noLaterB ps a b := by
  rw [Bool.eq_iff_iff, beq_iff_eq, noLaterB, all_iff]
  constructor
  · intro heq i hi
    obtain ⟨e, he1, he2, hie⟩ := end_nth hi
    rw [hie, Int.toNat_natCast, decide_eq_true_iff]
    obtain ⟨t, ht1, ht2, ht3, ht4⟩ := sole_mem hb hp he1 he2
    apply Classical.byContradiction
    intro hlt
    have hpk : pickI true (stop ps (hasB a) e) (stop ps (hasB b) e) = (t : Int) := by rw [pick_t, if_pos (by omega), ht2]
    have hm : (t : Int) ∈ mergeV ps a b true := by
      rw [mergeV, mem_filt]
      refine ⟨t, by omega, ?_, rfl⟩
      rw [mergeP, List.any_eq_true]
      exact ⟨nth (ends ps) i, nth_mem hi, by rw [hie, Int.toNat_natCast, hpk]; simp⟩
    rw [heq] at hm
    obtain ⟨j, hj, hjt⟩ := List.mem_iff_getElem.1 hm
    have hh : hasB a (t : Int) = true := has_t hj (by rw [nth_lt hj]; exact hjt)
    have := sole_one ha he1 he2 ht4 hh
    omega
  · intro h
    have hmin : ∀ e : Nat, e < ps.length → endB ps e = true → pickI true (stop ps (hasB a) e) (stop ps (hasB b) e) = stop ps (hasB a) e := fun e he1 he2 => by
      obtain ⟨i, hi, hie⟩ := nth_end he1 he2
      have := h i hi
      rw [hie, Int.toNat_natCast, decide_eq_true_iff] at this
      rw [pick_t, if_neg (by omega)]
    refine asc_ext (filt_asc _ _) (ris_asc (stop_parts ha).1) fun z => ?_
    rw [mergeV, mem_filt]
    constructor
    · rintro ⟨q, hq, hm, rfl⟩
      rw [mergeP, List.any_eq_true] at hm
      obtain ⟨e, he, hpk⟩ := hm
      obtain ⟨i, hi, hie⟩ := List.mem_iff_getElem.1 he
      obtain ⟨x, hx1, hx2, hx3⟩ := end_nth hi
      rw [nth_lt hi, hie] at hx3
      subst hx3
      rw [Int.toNat_natCast, hmin x hx1 hx2, beq_iff_eq] at hpk
      obtain ⟨s, _, hs2, hs3, _⟩ := sole_mem ha hp hx1 hx2
      obtain ⟨j, hj, hjs⟩ := hasB_mem hs3
      rw [← hpk, hs2, ← hjs]; exact nth_mem hj
    · intro hz
      obtain ⟨j, hj, hjz⟩ := List.mem_iff_getElem.1 hz
      have hnj : nth a j = z := by rw [nth_lt hj]; exact hjz
      have hb2 := all_in (stop_parts ha).2 hj
      obtain ⟨x, hx⟩ : ∃ x : Nat, z = (x : Int) := ⟨z.toNat, by omega⟩
      subst hx
      have hxn : x < ps.length := by omega
      have hh : hasB a (x : Int) = true := has_t hj hnj
      -- the node stops itself: it is alone on its way
      have hone : (onR ps a x).length = 1 := by
        have h1 := (stop_cnt hp a _ x (Nat.lt_succ_self _) hxn).1 (stop_end hp _ hxn hh)
        obtain ⟨e, he1, he2, he3⟩ := cnt_end hp a ps.length x (by omega) hxn
        rw [sole ha he1 he2] at he3
        simp at he3
        omega
      have hself := (stop_self hp a hxn hh).2 hone
      obtain ⟨e, he1, he2, he3⟩ := end_below hp (hasB a) x hxn
      have hes : stop ps (hasB a) e = (x : Int) := by rw [he3 (by omega)]; exact hself
      refine ⟨x, hxn, ?_, rfl⟩
      rw [mergeP, List.any_eq_true]
      exact ⟨(e : Int), mem_filt.2 ⟨e, he1, he2, rfl⟩, by rw [Int.toNat_natCast, hmin e he1 he2, hes]; simp⟩
end Go.Proofs.Ytjkkfjipgomkdaa
