/- Contracts and plain laws for the statement FnEnvelopes, part 18. No conditions but those stated in each. -/
import Derived.Test.YtnbomleieianoaaGreatBnFnEnvelopes17
import Derived.Test.YtnbomleieianoaaGreatBnFnEnvelopes15
import Derived.Test.YtnbomleieianoaaGreatBnFnEnvelopes11
import Derived.Test.YtnbomleieianoaaGreatBnFnEnvelopes12
import Derived.Test.YtnbomleieianoaaGreatBnFnEnvelopes19
import Derived.Test.YtnbomleieianoaaGreatBnFnEnvelopes9
import Derived.Test.YtnbomleieianoaaGreatBnFnEnvelopes2
import Derived.Test.YtnbomleieianoaaGreatBnFnEnvelopes5
import Derived.Test.YtnbomleieianoaaGreatBnFnEnvelopes6
/- Plain law behind FnEnvelopes: the best rules have the envelope as their mean, no rule has more, caps that cover are no less than the least ones. No conditions but those stated. -/
namespace Go.Proofs.YtnbomleieianoaaGreat

/-- The envelope against what its children have together, and what stopping has. -/
theorem cap_inner {ps ws l : List Int} (h : Tr ps ws) {x : Nat} (hx : x < ps.length) (he : endB ps x = false) : kidSum ps (fun y => nth (capW ps ws l) y) x ps.length ≤ nth (capW ps ws l) x ∧ ownW ps ws l x ≤ nth (capW ps ws l) x ∧ (nth (capW ps ws l) x = ownW ps ws l x ∨ nth (capW ps ws l) x = kidSum ps (fun y => nth (capW ps ws l) y) x ps.length) := by
  have := nth_capW (l := l) h hx
  rw [stepA, he] at this
  simp only [Bool.false_eq_true, if_false] at this
  omega
theorem cap_end {ps ws l : List Int} (h : Tr ps ws) {x : Nat} (hx : x < ps.length) (he : endB ps x = true) : nth (capW ps ws l) x = ownW ps ws l x := by
  have := nth_capW (l := l) h hx
  rwa [stepA, he, if_pos rfl] at this
theorem cap_own {ps ws l : List Int} (h : Tr ps ws) {x : Nat} (hx : x < ps.length) : ownW ps ws l x ≤ nth (capW ps ws l) x := by
  cases he : endB ps x
  · exact (cap_inner h hx he).2.1
  · rw [cap_end h hx he]; exact Int.le_refl _
theorem cover_t {ps ws l caps : List Int} (h : coverV ps ws l caps = true) : paysB ps ws l = true ∧ caps.length = ps.length ∧ ∀ x, x < ps.length → capOk ps ws l caps x = true := by
  simp only [coverV, Bool.and_eq_true] at h
  exact ⟨h.1, by simpa using h.2.1.1, fun x hx => all_get h.2.2 hx⟩
/-- Caps that cover are no less than the least ones. -/
theorem cover_least {ps ws l caps : List Int} (h : coverV ps ws l caps = true) : ∀ x, x < ps.length → nth (capW ps ws l) x ≤ nth caps x := by
  obtain ⟨h1, h2, h3⟩ := cover_t h
  have hT := (paysB_t h1).1
  refine hT.toPa.below ?_
  intro x hx ih
  have hk := h3 x hx
  simp only [capOk, Bool.not_eq_true', Bool.or_eq_false_iff, Bool.and_eq_false_iff, decide_eq_false_iff_not] at hk
  have h4 : nth (sums ps ws) x * nth l x = ownW ps ws l x := rfl
  cases he : endB ps x
  · rw [he] at hk
    have h5 := kidSum_le (ps := ps) (f := fun y => nth (capW ps ws l) y) (g := fun y => nth caps y) (x := x) (k := ps.length) fun y hy e => ih y hy e
    have h6 := cap_inner (l := l) hT hx he
    have h7 := hk.2
    simp at h7
    omega
  · rw [cap_end hT hx he]; omega
theorem least_cover {ps ws l : List Int} (h : paysB ps ws l = true) : coverV ps ws l (capW ps ws l) = true := by
  have hpt := paysB_t h
  have hT := hpt.1
  refine coverV_yes h (capW_length _ _ _) (all_t fun i hi => ?_) fun x hx => ?_
  · have := worth_abs (l := l) hT hpt.2.2.2.2 24 i
    exact inB_mk (by unfold capW; omega) (by unfold capW; omega)
  · have h4 : nth (sums ps ws) x * nth l x = ownW ps ws l x := rfl
    have h5 := cap_own (l := l) hT hx
    simp only [capOk, Bool.not_eq_true', Bool.or_eq_false_iff, Bool.and_eq_false_iff, decide_eq_false_iff_not]
    refine ⟨by omega, ?_⟩
    cases he : endB ps x
    · have := (cap_inner (l := l) hT hx he).1
      exact .inr (by omega)
    · exact .inl rfl
theorem best_beh {ps ws l : List Int} (h : Tr ps ws) {x : Nat} (hx : x < ps.length) (hb : bestB ps ws l x = false) : kidSum ps (fun y => nth (capW ps ws l) y) x ps.length = nth (capW ps ws l) x := by
  have hne : ¬ ownW ps ws l x = nth (capW ps ws l) x := by simpa [bestB] using hb
  cases he : endB ps x
  · have := cap_inner (l := l) h hx he; omega
  · exact absurd (cap_end h hx he).symm hne
theorem best_mean {ps ws l : List Int} (h : paysB ps ws l = true) : rmS ps ws l (bestV ps ws l) = nth (capW ps ws l) 0 := by
  have hT := (paysB_t h).1
  rw [bestV_yes h, rm_firsts]
  rw [stS_congr (g := fun x => nth (capW ps ws l) x) fun x hx hf => by
    have := fir_S hT.toPa hx hf
    simpa [fS, bestB] using this]
  exact stS_eq hT.toPa fun x hx hb => best_beh hT hx (by simpa [fS] using beh_S hT.toPa hx hb)
theorem late_mean {ps ws l : List Int} (h : paysB ps ws l = true) : rmS ps ws l (lateV ps ws l) = nth (capW ps ws l) 0 := by
  have hT := (paysB_t h).1
  rw [lateV_yes h, rm_firsts]
  rw [stS_congr (g := fun x => nth (capW ps ws l) x) fun x hx hf => by
    have h1 := fir_S hT.toPa hx hf
    simp only [fS, lateB, Int.toNat_natCast, Bool.or_eq_true, decide_eq_true_eq] at h1
    cases he : endB ps x
    · rw [he] at h1
      have := cap_inner (l := l) hT hx he
      rcases h1 with h1 | h1
      · cases h1
      · omega
    · exact (cap_end hT hx he).symm]
  refine stS_eq hT.toPa fun x hx hb => ?_
  have h1 := beh_S hT.toPa hx hb
  simp only [fS, lateB, Int.toNat_natCast, Bool.or_eq_false_iff, decide_eq_false_iff_not] at h1
  have := cap_inner (l := l) hT hx h1.1
  omega
theorem best_end {ps ws l : List Int} (h : Tr ps ws) {x : Nat} (hx : x < ps.length) (he : endB ps x = true) : bestB ps ws l x = true := by
  simp [bestB, cap_end h hx he]
theorem best_stop {ps ws l : List Int} (h : paysB ps ws l = true) : stopB ps (bestV ps ws l) = true := by
  have hT := (paysB_t h).1
  rw [bestV_yes h]
  exact firsts_stop hT.toPa fun x hx he => by simpa [fS] using best_end hT hx he
theorem late_stop {ps ws l : List Int} (h : paysB ps ws l = true) : stopB ps (lateV ps ws l) = true := by
  have hT := (paysB_t h).1
  rw [lateV_yes h]
  exact firsts_stop hT.toPa fun x hx he => by simp [fS, lateB, he]
/-- What stops only where S does is no earlier than the rule of S. -/
theorem sooner_of {ps ws rule : List Int} {S : Int → Bool} (h : treeB ps ws = true) (h1 : stopB ps (firsts ps S) = true) (h2 : stopB ps rule = true) (hS : ∀ y : Nat, y < ps.length → hasB rule y = true → S y = true) : noLV ps ws (firsts ps S) rule = true := by
  have hp := (treeB_t h).toPa
  rw [noLV, twoB, h, h1, h2, noLaterB]
  simp only [Bool.true_and]
  refine all_t fun i hi => ?_
  obtain ⟨e, h3, h4, h5⟩ := end_nth hi
  rw [h5, Int.toNat_natCast, stop_firsts hp S h3]
  have hb := rule_end hp h2 h3 h4
  exact decide_eq_true (stop_mono hp hS e h3 (of_decide_eq_true hb)).2
theorem best_late {ps ws l : List Int} (h : paysB ps ws l = true) : noLV ps ws (bestV ps ws l) (lateV ps ws l) = true := by
  have hpt := paysB_t h
  have hT := hpt.1
  have h1 := best_stop h
  have h2 := late_stop h
  have htr : treeB ps ws = true := by simp only [paysB, Bool.and_eq_true] at h; exact h.1
  rw [bestV_yes h] at h1 ⊢
  refine sooner_of htr h1 h2 fun y hy hh => ?_
  rw [lateV_yes h, has_mem, firsts, mem_filt] at hh
  obtain ⟨i, hi, hf, he⟩ := hh
  obtain rfl : y = i := by omega
  have h3 := fir_S hT.toPa hi hf
  simp only [fS, lateB, Int.toNat_natCast, Bool.or_eq_true, decide_eq_true_eq] at h3
  cases hen : endB ps y
  · rw [hen] at h3
    have := cap_inner (l := l) hT hi hen
    rcases h3 with h3 | h3
    · cases h3
    · simp only [fS, Int.toNat_natCast, bestB, beq_iff_eq]; omega
  · simpa [fS] using best_end hT hi hen
/-- No rule has a greater mean than the envelope. -/
theorem any_le {ps ws l rule : List Int} (h : rmB ps ws l rule = true) : rmS ps ws l rule ≤ nth (capW ps ws l) 0 := by
  simp only [rmB, Bool.and_eq_true] at h
  have hT := (paysB_t h.1).1
  rw [rm_rule hT.toPa h.2]
  have h1 := stS_mono (ps := ps) (S := hasB rule) (f := ownW ps ws l) (g := fun x => nth (capW ps ws l) x) fun x hx _ => cap_own hT hx
  have h2 := stS_le hT.toPa (S := hasB rule) (f := fun x => nth (capW ps ws l) x) fun x hx hb => (cap_inner (l := l) hT hx (rule_inner hT.toPa h.2 hx hb)).1
  exact Int.le_trans h1 h2
/-- A rule with the greatest mean stops only where stopping is best. -/
theorem any_late {ps ws l rule : List Int} (h : rmB ps ws l rule = true) (he : rmS ps ws l rule = nth (capW ps ws l) 0) : noLV ps ws (bestV ps ws l) rule = true := by
  have h0 := h
  simp only [rmB, Bool.and_eq_true] at h
  have hT := (paysB_t h.1).1
  have hb := best_stop h.1
  have htr : treeB ps ws = true := by have := h.1; simp only [paysB, Bool.and_eq_true] at this; exact this.1
  rw [bestV_yes h.1] at hb ⊢
  refine sooner_of htr hb h.2 fun y hy hh => ?_
  rw [rm_rule hT.toPa h.2] at he
  have h1 := stS_mono (ps := ps) (S := hasB rule) (f := ownW ps ws l) (g := fun x => nth (capW ps ws l) x) fun x hx _ => cap_own hT hx
  have h2 := stS_le hT.toPa (S := hasB rule) (f := fun x => nth (capW ps ws l) x) fun x hx hb => (cap_inner (l := l) hT hx (rule_inner hT.toPa h.2 hx hb)).1
  have h3 : stS ps (hasB rule) (ownW ps ws l) = stS ps (hasB rule) (fun x => nth (capW ps ws l) x) := by omega
  have hm := has_mem.1 hh
  rw [rule_firsts hT.toPa h.2, firsts, mem_filt] at hm
  obtain ⟨i, hi, hf, hie⟩ := hm
  obtain rfl : y = i := by omega
  have := stS_same (fun x hx _ => cap_own hT hx) h3 hi hf
  simpa [fS, bestB] using this
/-- Means as fractions. -/
theorem mean_lt {ps ws : List Int} (h : Tr ps ws) (a b : Int) : (nm a (nth (sums ps ws) 0) * dn b (nth (sums ps ws) 0) < nm b (nth (sums ps ws) 0) * dn a (nth (sums ps ws) 0)) ↔ a < b := cut_lt a b (by have := sums_pos h 0 (by have := h.n1; omega); omega)
end Go.Proofs.YtnbomleieianoaaGreat

/- Plain law behind FnBounds: the bound of a balanced list and what a seer has are no less than the envelope, and costs take away. No conditions but those stated. -/
namespace Go.Proofs.YtnbomleieianoaaGreat

/-- Numbers of the ends, gathered at each node. -/
def enL (ps : List Int) (V : Nat → Int) : List Int := (List.range ps.length).map fun x => if endB ps x then V x else 0
def enG (ps : List Int) (V : Nat → Int) (x : Nat) : Int := nth (gathA ps (enL ps V)) x
theorem enL_length (ps : List Int) (V : Nat → Int) : (enL ps V).length = ps.length := by simp [enL]
theorem enG_end {ps : List Int} (h : Pa ps) (V : Nat → Int) {x : Nat} (hx : x < ps.length) (he : endB ps x = true) : enG ps V x = V x := by
  rw [enG, gathA_kids h (enL_length ps V), kidSum_end he (Nat.le_refl _), enL, nth_map_range hx, if_pos he]; omega
theorem enG_inner {ps : List Int} (h : Pa ps) (V : Nat → Int) {x : Nat} (hx : x < ps.length) (he : endB ps x = false) : enG ps V x = kidSum ps (enG ps V) x ps.length := by
  have h1 := gathA_kids h (enL_length ps V) x
  have h2 : nth (enL ps V) x = 0 := by rw [enL, nth_map_range hx, he]; rfl
  rw [h2, Int.zero_add] at h1
  exact h1
theorem enG_root {ps : List Int} (h : Pa ps) (V : Nat → Int) : enG ps V 0 = sumOf (fun e => V e.toNat) (ends ps) := by
  rw [enG, gathA_root h (enL_length ps V), ends, sumOf_filt]
  exact sumR_congr fun x _ => by rw [Int.toNat_natCast]
theorem s_end {ps ws : List Int} (h : Tr ps ws) {x : Nat} (he : endB ps x = true) : nth (sums ps ws) x = nth ws x := by
  rw [sums_kids h, kidSum_end he (Nat.le_refl _)]; omega
theorem s_inner {ps ws : List Int} (h : Tr ps ws) {x : Nat} (hx : x < ps.length) (he : endB ps x = false) : nth (sums ps ws) x = kidSum ps (fun y => nth (sums ps ws) y) x ps.length := by
  have h1 := sums_kids h x
  rw [h.inner x hx he, Int.zero_add] at h1
  exact h1
theorem bdE_self {ps pay num : List Int} (hp : Pa ps) {x : Nat} (hx : x < ps.length) : exc pay num x ≤ bdE ps pay num x ∧ (1 ≤ x → bdE ps pay num (par ps x) ≤ bdE ps pay num x) := by
  by_cases h0 : x = 0
  · subst h0
    refine ⟨?_, fun h => by omega⟩
    rw [bdE, way_zero]
    exact Int.le_of_eq (mxT_one rfl).symm
  · have hpar := hp.upN (x := x) (by omega) hx
    have hl := (way_length hp (par ps x) (by omega)).1
    have hw := way_up hp (x := x) (by omega) hx
    have e1 : bdE ps pay num x = max (bdE ps pay num (par ps x)) (exc pay num x) := by
      rw [bdE, hw, List.length_append, List.length_singleton, mxT]
      have e2 : nth (way ps (par ps x) ++ [(x : Int)]) (way ps (par ps x)).length = x := nth_append_r
      have e3 : ∀ k, k ≤ (way ps (par ps x)).length → mxT (exc pay num) (way ps (par ps x) ++ [(x : Int)]) k = mxT (exc pay num) (way ps (par ps x)) k := fun k => by
        induction k with
        | zero => intro _; rfl
        | succ k ih => intro hk; rw [mxT, mxT, ih (by omega), nth_append_l (by omega)]
      rw [e2, e3 _ (Nat.le_refl _)]; rfl
    rw [e1]
    exact ⟨by omega, fun _ => by omega⟩
/-- The greatest excess on the way to a node, times its sum, is no more than those of the ends below it together. -/
theorem bd_below {ps ws pay num : List Int} (h : Tr ps ws) : ∀ x, x < ps.length → nth (sums ps ws) x * bdE ps pay num x ≤ enG ps (fun e => bdE ps pay num e * nth ws e) x := by
  refine h.toPa.below ?_
  intro x hx ih
  cases he : endB ps x
  · rw [enG_inner h.toPa _ hx he, s_inner h hx he]
    have h1 := kidSum_le (ps := ps) (f := fun y => bdE ps pay num x * nth (sums ps ws) y) (g := enG ps (fun e => bdE ps pay num e * nth ws e)) (x := x) (k := ps.length) fun y hy e => by
      have hk := kid_par h.toPa hy e
      have h2 := (bdE_self (pay := pay) (num := num) h.toPa hy).2 hk.1
      rw [hk.2] at h2
      have h3 := Int.mul_le_mul_of_nonneg_left h2 (sums_nn h y)
      have h4 := ih y hy e
      rw [Int.mul_comm (bdE ps pay num x)]
      omega
    rw [kidSum_mul ps (fun y => nth (sums ps ws) y)] at h1
    rw [Int.mul_comm]
    exact h1
  · rw [enG_end h.toPa _ hx he, s_end h he, Int.mul_comm]
    exact Int.le_refl _
/-- Balanced: a node's number times its sum is what its children have together. -/
theorem bal_kids {ps ws num : List Int} (h : Tr ps ws) {x : Nat} (hx : x < ps.length) (he : endB ps x = false) (hb : drA ps ws num x = 0) : kidSum ps (fun y => nth (sums ps ws) y * nth num y) x ps.length = nth (sums ps ws) x * nth num x := by
  rcases (dr_bal (l := num) h hx).1 hb with e | e
  · rw [he] at e; cases e
  · exact e.symm
theorem bound_cap {ps ws pay num : List Int} (h : Tr ps ws) (hb : ∀ x, x < ps.length → drA ps ws num x = 0) : ∀ x, x < ps.length → nth (capW ps ws pay) x ≤ enG ps (fun e => bdE ps pay num e * nth ws e) x + nth (sums ps ws) x * nth num x := by
  refine h.toPa.below ?_
  intro x hx ih
  have hown : ownW ps ws pay x ≤ enG ps (fun e => bdE ps pay num e * nth ws e) x + nth (sums ps ws) x * nth num x := by
    have h1 := bd_below (pay := pay) (num := num) h x hx
    have h2 := Int.mul_le_mul_of_nonneg_left (bdE_self (pay := pay) (num := num) h.toPa hx).1 (sums_nn h x)
    have h3 : nth (sums ps ws) x * exc pay num x = ownW ps ws pay x - nth (sums ps ws) x * nth num x := by
      rw [exc, Int.toNat_natCast, Int.mul_sub]; rfl
    omega
  cases he : endB ps x
  · have hc := cap_inner (l := pay) h hx he
    have hk := bal_kids h hx he (hb x hx)
    have h1 := kidSum_le (ps := ps) (f := fun y => nth (capW ps ws pay) y) (g := fun y => enG ps (fun e => bdE ps pay num e * nth ws e) y + nth (sums ps ws) y * nth num y) (x := x) (k := ps.length) fun y hy e => ih y hy e
    rw [kidSum_add ps (enG ps (fun e => bdE ps pay num e * nth ws e)) (fun y => nth (sums ps ws) y * nth num y), ← enG_inner h.toPa _ hx he, hk] at h1
    omega
  · rw [cap_end h hx he]; exact hown
theorem bound_le {ps ws pay num : List Int} (h : Tr ps ws) (hb : ∀ x, x < ps.length → drA ps ws num x = 0) : nth (capW ps ws pay) 0 ≤ bndS ps ws pay num := by
  have h1 := bound_cap (pay := pay) h hb 0 (by have := h.n1; omega)
  rw [enG_root h.toPa] at h1
  rw [bndS, Int.mul_comm]
  have : sumOf (bdT ps ws pay num) (ends ps) = sumOf (fun e => bdE ps pay num e.toNat * nth ws e.toNat) (ends ps) := rfl
  omega
theorem seer_le {ps ws pay : List Int} (h : Tr ps ws) : nth (capW ps ws pay) 0 ≤ bndS ps ws pay (zeL ps) := bound_le h fun x _ => by
  rw [drA]
  exact kidSum_zero fun y _ _ => by rw [zeL, nth_replicate, nth_replicate]; simp
theorem bal_t {ps ws num : List Int} (h : balB ps ws num = true) : ∀ x, x < ps.length → drA ps ws num x = 0 := fun x hx => by simpa using all_get h hx
/-- Less payments, less envelope. -/
theorem cap_mono {ps ws l l' : List Int} (h : Tr ps ws) (hl : ∀ x, x < ps.length → nth l' x ≤ nth l x) : ∀ x, x < ps.length → nth (capW ps ws l') x ≤ nth (capW ps ws l) x := by
  refine h.toPa.below ?_
  intro x hx ih
  have hown : ownW ps ws l' x ≤ ownW ps ws l x := Int.mul_le_mul_of_nonneg_left (hl x hx) (sums_nn h x)
  cases he : endB ps x
  · have h1 := kidSum_le (ps := ps) (f := fun y => nth (capW ps ws l') y) (g := fun y => nth (capW ps ws l) y) (x := x) (k := ps.length) fun y hy e => ih y hy e
    have h2 := cap_inner (l := l') h hx he
    have h3 := cap_inner (l := l) h hx he
    omega
  · rw [cap_end h hx he, cap_end h hx he]; exact hown
theorem cost_cap {ps ws l : List Int} {c : Int} (h : costB ps ws l c = true) : nth (capW ps ws (costL ps l c)) 0 ≤ nth (capW ps ws l) 0 := by
  simp only [costB, Bool.and_eq_true] at h
  have hT := (paysB_t h.1).1
  have hc := inB_t h.2.1
  refine cap_mono hT (fun x hx => ?_) 0 (by have := hT.n1; omega)
  rw [costL, nth_map_range hx]
  have := Int.mul_nonneg (show 0 ≤ c by omega) (dep_bd hT.toPa x hx).1
  omega
end Go.Proofs.YtnbomleieianoaaGreat

/- Plain law behind FnBounds: what the law compares, as fractions. No conditions but those stated. -/
namespace Go.Proofs.YtnbomleieianoaaGreat

theorem enG_bd {ps ws : List Int} (h : Tr ps ws) {V : Nat → Int} {B : Int} (hV : ∀ x, x < ps.length → endB ps x = true → -(B * nth ws x) ≤ V x ∧ V x ≤ B * nth ws x) : ∀ x, x < ps.length → -(B * nth (sums ps ws) x) ≤ enG ps V x ∧ enG ps V x ≤ B * nth (sums ps ws) x := by
  refine h.toPa.below ?_
  intro x hx ih
  cases he : endB ps x
  · have h1 := kidSum_le (ps := ps) (f := enG ps V) (g := fun y => B * nth (sums ps ws) y) (x := x) (k := ps.length) fun y hy e => (ih y hy e).2
    have h2 := kidSum_le (ps := ps) (f := fun y => (-B) * nth (sums ps ws) y) (g := enG ps V) (x := x) (k := ps.length) fun y hy e => by have := (ih y hy e).1; rw [Int.neg_mul]; exact this
    rw [kidSum_mul ps (fun y => nth (sums ps ws) y), ← s_inner h hx he] at h1 h2
    rw [enG_inner h.toPa _ hx he]
    rw [Int.neg_mul] at h2
    exact ⟨h2, h1⟩
  · rw [enG_end h.toPa _ hx he, s_end h he]
    exact hV x hx he
theorem bnd_bd {ps ws pay num : List Int} (h : Tr ps ws) (h1 : ∀ i, -999 ≤ nth pay i ∧ nth pay i ≤ 999) (h2 : ∀ i, -999 ≤ nth num i ∧ nth num i ≤ 999) : -11508480 ≤ bndS ps ws pay num ∧ bndS ps ws pay num ≤ 11508480 := by
  have h3 := enG_bd h (V := fun e => bdE ps pay num e * nth ws e) (B := 1998) (fun x _ _ => by
    have hb := bdE_bd (ps := ps) h1 h2 x
    have hw := (h.w0 x).1
    have e1 := Int.mul_le_mul_of_nonneg_right hb.1 hw
    have e2 := Int.mul_le_mul_of_nonneg_right hb.2 hw
    rw [Int.neg_mul] at e1
    exact ⟨e1, e2⟩) 0 (by have := h.n1; omega)
  rw [enG_root h.toPa] at h3
  have h4 := mul_abs (B := 999) (U := 480) (h2 0) (sums_bd h 0) (by omega)
  have h5 := sums_bd h 0
  have h6 : sumOf (bdT ps ws pay num) (ends ps) = sumOf (fun e => bdE ps pay num e.toNat * nth ws e.toNat) (ends ps) := rfl
  rw [bndS, h6]
  omega
theorem s0_pos {ps ws : List Int} (h : Tr ps ws) : 0 < nth (sums ps ws) 0 := by have := sums_pos h 0 (by have := h.n1; omega); omega
theorem env_at {ps ws l : List Int} (h : paysB ps ws l = true) : Fr.at1 (envV ps ws l) 0 = nm (nth (capW ps ws l) 0) (nth (sums ps ws) 0) ∧ Fr.at2 (envV ps ws l) 0 = dn (nth (capW ps ws l) 0) (nth (sums ps ws) 0) ∧ (envV ps ws l).length ≤ 24 ∧ 1 ≤ (envV ps ws l).length := by
  have hT := (paysB_t h).1
  have h0 : 0 < ps.length := by have := hT.n1; omega
  rw [envV_yes h, envL_length]
  have e1 : Fr.at1 (envL ps ws l) 0 = nm (nth (capW ps ws l) 0) (nth (sums ps ws) 0) := by
    unfold Fr.at1 envL; simp [List.getD, h0]
  have e2 : Fr.at2 (envL ps ws l) 0 = dn (nth (capW ps ws l) 0) (nth (sums ps ws) 0) := by
    unfold Fr.at2 envL; simp [List.getD, h0]
  exact ⟨e1, e2, hT.n24, hT.n1⟩
theorem cap_abs {ps ws l : List Int} (h : paysB ps ws l = true) : -11508480 ≤ nth (capW ps ws l) 0 ∧ nth (capW ps ws l) 0 ≤ 11508480 := by
  have hp := paysB_t h
  have := worth_abs hp.1 hp.2.2.2.2 24 0
  unfold capW; omega
theorem frac_cmp {ps ws : List Int} (h : Tr ps ws) {a b : Int} (ha : -11508480 ≤ a ∧ a ≤ 11508480) (hb : -11508480 ≤ b ∧ b ≤ 11508480) (hle : b ≤ a) :
    (-4611686018427387904 ≤ nm a (nth (sums ps ws) 0) * dn b (nth (sums ps ws) 0) ∧ nm a (nth (sums ps ws) 0) * dn b (nth (sums ps ws) 0) ≤ 4611686018427387904) ∧ (-4611686018427387904 ≤ nm b (nth (sums ps ws) 0) * dn a (nth (sums ps ws) 0) ∧ nm b (nth (sums ps ws) 0) * dn a (nth (sums ps ws) 0) ≤ 4611686018427387904) ∧ decide (nm a (nth (sums ps ws) 0) * dn b (nth (sums ps ws) 0) < nm b (nth (sums ps ws) 0) * dn a (nth (sums ps ws) 0)) = false := by
  have hs := s0_pos h
  have hs2 := (sums_bd h 0).2
  have e1 := cut_prod (a := a) (b := b) hs hs2 ha
  have e2 := cut_prod (a := b) (b := a) hs hs2 hb
  refine ⟨by omega, by omega, decide_eq_false fun hlt => ?_⟩
  have := (cut_lt a b hs).1 hlt
  omega
theorem zeL_bd (ps : List Int) : ∀ i, -999 ≤ nth (zeL ps) i ∧ nth (zeL ps) i ≤ 999 := fun i => by rw [zeL, nth_replicate]; omega
/-- What the seer has against the envelope. -/
theorem seer_cmp {ps ws pay : List Int} (h : paysB ps ws pay = true) : (envV ps ws pay).length ≤ 24 ∧ 1 ≤ (envV ps ws pay).length ∧ (-4611686018427387904 ≤ boN (paysB ps ws pay) ps ws pay (zeL ps) * Fr.at2 (envV ps ws pay) 0 ∧ boN (paysB ps ws pay) ps ws pay (zeL ps) * Fr.at2 (envV ps ws pay) 0 ≤ 4611686018427387904) ∧ (-4611686018427387904 ≤ Fr.at1 (envV ps ws pay) 0 * boD (paysB ps ws pay) ps ws pay (zeL ps) ∧ Fr.at1 (envV ps ws pay) 0 * boD (paysB ps ws pay) ps ws pay (zeL ps) ≤ 4611686018427387904) ∧ decide (boN (paysB ps ws pay) ps ws pay (zeL ps) * Fr.at2 (envV ps ws pay) 0 < Fr.at1 (envV ps ws pay) 0 * boD (paysB ps ws pay) ps ws pay (zeL ps)) = false := by
  have hp := paysB_t h
  obtain ⟨e1, e2, e3, e4⟩ := env_at h
  rw [e1, e2, boN, boD, h, if_pos rfl, if_pos rfl]
  exact ⟨e3, e4, frac_cmp hp.1 (bnd_bd hp.1 hp.2.2.2.2 (zeL_bd ps)) (cap_abs h) (seer_le hp.1)⟩
theorem bound_cmp {ps ws pay num : List Int} (h : bbB ps ws pay num = true) : (-4611686018427387904 ≤ boN (bbB ps ws pay num) ps ws pay num * Fr.at2 (envV ps ws pay) 0 ∧ boN (bbB ps ws pay num) ps ws pay num * Fr.at2 (envV ps ws pay) 0 ≤ 4611686018427387904) ∧ (-4611686018427387904 ≤ Fr.at1 (envV ps ws pay) 0 * boD (bbB ps ws pay num) ps ws pay num ∧ Fr.at1 (envV ps ws pay) 0 * boD (bbB ps ws pay num) ps ws pay num ≤ 4611686018427387904) ∧ decide (boN (bbB ps ws pay num) ps ws pay num * Fr.at2 (envV ps ws pay) 0 < Fr.at1 (envV ps ws pay) 0 * boD (bbB ps ws pay num) ps ws pay num) = false := by
  have h0 := h
  simp only [bbB, balV, Bool.and_eq_true] at h
  have hp := paysB_t h.2
  have hn := paysB_t h.1.1
  obtain ⟨e1, e2, e3, e4⟩ := env_at h.2
  rw [e1, e2, boN, boD, h0, if_pos rfl, if_pos rfl]
  exact frac_cmp hp.1 (bnd_bd hp.1 hp.2.2.2.2 hn.2.2.2.2) (cap_abs h.2) (bound_le hp.1 (bal_t h.1.2))
theorem three_t {ps ws l : List Int} {c : Int} (h : costB ps ws l c = true) : paysB ps ws l = true ∧ paysB ps ws (costV ps ws l c) = true ∧ ((envV ps ws l).length ≤ 24 ∧ 1 ≤ (envV ps ws l).length) ∧ ((envV ps ws (costV ps ws l c)).length ≤ 24 ∧ 1 ≤ (envV ps ws (costV ps ws l c)).length) ∧ (-4611686018427387904 ≤ Fr.at1 (envV ps ws l) 0 * Fr.at2 (envV ps ws (costV ps ws l c)) 0 ∧ Fr.at1 (envV ps ws l) 0 * Fr.at2 (envV ps ws (costV ps ws l c)) 0 ≤ 4611686018427387904) ∧ (-4611686018427387904 ≤ Fr.at1 (envV ps ws (costV ps ws l c)) 0 * Fr.at2 (envV ps ws l) 0 ∧ Fr.at1 (envV ps ws (costV ps ws l c)) 0 * Fr.at2 (envV ps ws l) 0 ≤ 4611686018427387904) ∧ decide (Fr.at1 (envV ps ws l) 0 * Fr.at2 (envV ps ws (costV ps ws l c)) 0 < Fr.at1 (envV ps ws (costV ps ws l c)) 0 * Fr.at2 (envV ps ws l) 0) = false := by
  have h0 := h
  simp only [costB, Bool.and_eq_true] at h
  have hp := paysB_t h.1
  have hq : paysB ps ws (costL ps l c) = true := pays_both hp.2.1 h.2.2
  rw [costV_yes h0]
  obtain ⟨e1, e2, e3, e4⟩ := env_at h.1
  obtain ⟨f1, f2, f3, f4⟩ := env_at hq
  rw [e1, e2, f1, f2]
  exact ⟨h.1, hq, ⟨e3, e4⟩, ⟨f3, f4⟩, frac_cmp hp.1 (cap_abs h.1) (cap_abs hq) (cost_cap h0)⟩
end Go.Proofs.YtnbomleieianoaaGreat

/- Plain law behind FnEnvelopes and FnRules: what the laws compare. No conditions but those stated. -/
namespace Go.Proofs.YtnbomleieianoaaGreat

theorem rm_abs {ps ws l rule : List Int} (h : rmB ps ws l rule = true) : -11508480 ≤ rmS ps ws l rule ∧ rmS ps ws l rule ≤ 11508480 := by
  simp only [rmB, Bool.and_eq_true] at h
  obtain ⟨hp, hs⟩ := h
  have hT := (paysB_t hp).1
  have hl := (paysB_t hp).2.2.2.2
  rw [rm_rule hT.toPa hs]
  have hsb := sums_bd hT
  have hb : ∀ x, -999 * nth (sums ps ws) x ≤ ownW ps ws l x ∧ ownW ps ws l x ≤ 999 * nth (sums ps ws) x := fun x => by
    have h1 := hl x
    have h2 := (hsb x).1
    unfold ownW
    have e1 := Int.mul_le_mul_of_nonneg_left h1.1 h2
    have e2 := Int.mul_le_mul_of_nonneg_left h1.2 h2
    rw [Int.mul_comm] at e1
    rw [Int.mul_comm _ 999] at e2
    exact ⟨e1, e2⟩
  have hk : ∀ c : Int, ∀ x, x < ps.length → behB ps (hasB rule) x = false → kidSum ps (fun y => c * nth (sums ps ws) y) x ps.length = c * nth (sums ps ws) x := fun c x hx hbb => by
    rw [kidSum_mul ps (fun y => nth (sums ps ws) y), ← s_inner hT hx (rule_inner hT.toPa hs hx hbb)]
  have h1 := stS_mono (ps := ps) (S := hasB rule) (f := ownW ps ws l) (g := fun x => 999 * nth (sums ps ws) x) fun x _ _ => (hb x).2
  have h2 := stS_mono (ps := ps) (S := hasB rule) (g := ownW ps ws l) (f := fun x => -999 * nth (sums ps ws) x) fun x _ _ => (hb x).1
  rw [stS_eq hT.toPa (hk 999)] at h1
  rw [stS_eq hT.toPa (hk (-999))] at h2
  have := hsb 0
  omega
theorem nm_inj {ps ws : List Int} (h : Tr ps ws) {a b : Int} (h1 : nm a (nth (sums ps ws) 0) = nm b (nth (sums ps ws) 0)) (h2 : dn a (nth (sums ps ws) 0) = dn b (nth (sums ps ws) 0)) : a = b := by
  have e1 := mean_lt h a b
  have e2 := mean_lt h b a
  rw [h1, h2] at e1 e2
  omega
/-- What holds if the payments are good: the two rules and the least caps. -/
theorem env_one {ps ws l : List Int} (h : paysB ps ws l = true) : ((envV ps ws l).length ≤ 24 ∧ 1 ≤ (envV ps ws l).length) ∧ (rmB ps ws l (bestV ps ws l) = true ∧ rmN ps ws l (bestV ps ws l) = Fr.at1 (envV ps ws l) 0 ∧ rmD ps ws l (bestV ps ws l) = Fr.at2 (envV ps ws l) 0) ∧ (rmB ps ws l (lateV ps ws l) = true ∧ rmN ps ws l (lateV ps ws l) = Fr.at1 (envV ps ws l) 0 ∧ rmD ps ws l (lateV ps ws l) = Fr.at2 (envV ps ws l) 0) ∧ coverV ps ws l (lcV ps ws l) = true ∧ noLV ps ws (bestV ps ws l) (lateV ps ws l) = true ∧ twoB ps ws (bestV ps ws l) (lateV ps ws l) = true := by
  obtain ⟨e1, e2, e3, e4⟩ := env_at h
  have hb : rmB ps ws l (bestV ps ws l) = true := by rw [rmB, h, best_stop h]; rfl
  have hl : rmB ps ws l (lateV ps ws l) = true := by rw [rmB, h, late_stop h]; rfl
  have hn := best_late h
  refine ⟨⟨e3, e4⟩, ⟨hb, ?_, ?_⟩, ⟨hl, ?_, ?_⟩, by rw [lcV_yes h]; exact least_cover h, hn, ?_⟩
  · rw [(rm_yes hb).1, best_mean h, e1]
  · rw [(rm_yes hb).2, best_mean h, e2]
  · rw [(rm_yes hl).1, late_mean h, e1]
  · rw [(rm_yes hl).2, late_mean h, e2]
  · rw [noLV, Bool.and_eq_true] at hn; exact hn.1
/-- A rule's mean against the envelope. -/
theorem env_rule {ps ws l rule : List Int} (h : rmB ps ws l rule = true) : (rmN ps ws l rule = Fr.at1 (envV ps ws l) 0 → rmD ps ws l rule = Fr.at2 (envV ps ws l) 0 → noLV ps ws (bestV ps ws l) rule = true ∧ twoB ps ws (bestV ps ws l) rule = true) ∧ (-4611686018427387904 ≤ Fr.at1 (envV ps ws l) 0 * rmD ps ws l rule ∧ Fr.at1 (envV ps ws l) 0 * rmD ps ws l rule ≤ 4611686018427387904) ∧ (-4611686018427387904 ≤ rmN ps ws l rule * Fr.at2 (envV ps ws l) 0 ∧ rmN ps ws l rule * Fr.at2 (envV ps ws l) 0 ≤ 4611686018427387904) ∧ decide (Fr.at1 (envV ps ws l) 0 * rmD ps ws l rule < rmN ps ws l rule * Fr.at2 (envV ps ws l) 0) = false := by
  have h0 := h
  simp only [rmB, Bool.and_eq_true] at h0
  have hT := (paysB_t h0.1).1
  obtain ⟨e1, e2, e3, e4⟩ := env_at h0.1
  rw [e1, e2, (rm_yes h).1, (rm_yes h).2]
  refine ⟨fun h1 h2 => ?_, frac_cmp hT (cap_abs h0.1) (rm_abs h) (any_le h)⟩
  have hn := any_late h (nm_inj hT h1 h2)
  exact ⟨hn, by rw [noLV, Bool.and_eq_true] at hn; exact hn.1⟩
theorem cover_low {ps ws l caps : List Int} (h : coverV ps ws l caps = true) : paysB ps ws l = true ∧ (lcV ps ws l).length = caps.length ∧ ∀ i, i < (lcV ps ws l).length → nth (lcV ps ws l) i ≤ nth caps i := by
  have hc := cover_t h
  have hl : (lcV ps ws l).length = ps.length := by rw [lcV_yes hc.1, capW_length]
  refine ⟨hc.1, by omega, fun i hi => ?_⟩
  rw [lcV_yes hc.1]
  exact cover_least h i (by omega)
end Go.Proofs.YtnbomleieianoaaGreat

/- Contracts of the small words of the laws on rules and fractions. No conditions but those stated. -/
namespace Go.Proofs.YtnbomleieianoaaGreat
open Go.RowKit

theorem laws_vBig (a : Option Addr) (n cap : Nat) (w : World) :
    Calls Tryz.prog 6 #[.slice a n cap] w fun e w' => e = .returned (.bool (decide ((n : Int) > 65536))) ∧ w = w' := by
  by_cases h : (n : Int) > 65536
  all_goals
    go_enter Tryz.func6, Tryz.ntmps6
    go_wp2_with fail
    go_ret
    exact ⟨by simp [h], rfl⟩
set_option maxHeartbeats 400000 in
/-- Two slices that read alike are found equal. -/
theorem laws_vInts_q (a b : Option Addr) (n ca cb : Nat) (xs : List Int) (w : World) (hn : n ≤ 4294967296) (ha : Ints w a n xs) (hb : Ints w b n xs) :
    Calls Tryz.prog 21 #[.slice a n ca, .slice b n cb] w fun e w' => e = .returned (.bool true) ∧ ∃ m, w' = w.drewN m := by
  have Ha := Lib.hid ha
  have Hb := Lib.hid hb
  clear ha hb
  go_enter Tryz.func21, Tryz.ntmps21
  go_wp2_with fail
  go_loopw [5] (fun v5 wr => ∃ i m : Nat, i ≤ n ∧ v5 = .int .i64 i ∧ wr = w.drewN m) (fun v5 _ => n - (intOf v5).toNat)
  case atStart => exact ⟨0, 0, Nat.zero_le _, rfl, rfl⟩
  case round =>
    obtain ⟨i, m, hi, rfl, hwr⟩ := hrel
    have hbel : Below w.heap.size w wr := by rw [hwr]; exact below_drewN (Below.refl _ _) m
    have Hwr := Lib.hid hwr
    clear hwr
    by_cases hlt : (i : Int) < n
    · obtain ⟨ba, oa, rfl, hba, hca⟩ := Ha.out.2 (by omega)
      obtain ⟨bb, ob, rfl, hbb, hcb⟩ := Hb.out.2 (by omega)
      have h1 := (hbel.cell (p := ⟨ba, oa + i, none⟩) hba).trans (hca i (by omega))
      have h2 := (hbel.cell (p := ⟨bb, ob + i, none⟩) hbb).trans (hcb i (by omega))
      clear hca hcb hbel
      generalize nth xs i = c at h1 h2
      go_wp2_with fail
      go_quiet (fail)
      go_wp2_with fail
      go_roundw
      case rel => exact ⟨i + 1, _, by omega, by go_num, by rw [Hwr.out, World.drewN_drewN]⟩
      case measure => simp [intOf]; omega
    · go_wp2_with fail
      go_ret
      exact ⟨rfl, m, Hwr.out⟩
theorem laws_vInts (a b : Option Addr) (n ca cb : Nat) (xs : List Int) (w : World) (hn : n ≤ 4294967296) (ha : Ints w a n xs) (hb : Ints w b n xs) :
    Calls Tryz.prog 21 #[.slice a n ca, .slice b n cb] w fun e w' => e = .returned (.bool true) ∧ Below w.heap.size w w' :=
  (laws_vInts_q a b n ca cb xs w hn ha hb).mono fun _ _ ⟨he, m, hm⟩ => ⟨he, by rw [hm]; exact below_drewN (Below.refl _ _) m⟩
theorem laws_rBig (a : Option Addr) (n cap : Nat) (w : World) :
    Calls Tryz.prog 29 #[.slice a n cap] w fun e w' => e = .returned (.bool (decide ((n : Int) > 65536))) ∧ w = w' := by
  by_cases h : (n : Int) > 65536
  all_goals
    go_enter Tryz.func29, Tryz.ntmps29
    go_wp2_with fail
    go_ret
    exact ⟨by simp [h], rfl⟩
set_option maxHeartbeats 400000 in
/-- Two slices that read alike are found equal. -/
theorem laws_rInts_q (a b : Option Addr) (n ca cb : Nat) (xs : List Int) (w : World) (hn : n ≤ 4294967296) (ha : Ints w a n xs) (hb : Ints w b n xs) :
    Calls Tryz.prog 38 #[.slice a n ca, .slice b n cb] w fun e w' => e = .returned (.bool true) ∧ ∃ m, w' = w.drewN m := by
  have Ha := Lib.hid ha
  have Hb := Lib.hid hb
  clear ha hb
  go_enter Tryz.func38, Tryz.ntmps38
  go_wp2_with fail
  go_loopw [5] (fun v5 wr => ∃ i m : Nat, i ≤ n ∧ v5 = .int .i64 i ∧ wr = w.drewN m) (fun v5 _ => n - (intOf v5).toNat)
  case atStart => exact ⟨0, 0, Nat.zero_le _, rfl, rfl⟩
  case round =>
    obtain ⟨i, m, hi, rfl, hwr⟩ := hrel
    have hbel : Below w.heap.size w wr := by rw [hwr]; exact below_drewN (Below.refl _ _) m
    have Hwr := Lib.hid hwr
    clear hwr
    by_cases hlt : (i : Int) < n
    · obtain ⟨ba, oa, rfl, hba, hca⟩ := Ha.out.2 (by omega)
      obtain ⟨bb, ob, rfl, hbb, hcb⟩ := Hb.out.2 (by omega)
      have h1 := (hbel.cell (p := ⟨ba, oa + i, none⟩) hba).trans (hca i (by omega))
      have h2 := (hbel.cell (p := ⟨bb, ob + i, none⟩) hbb).trans (hcb i (by omega))
      clear hca hcb hbel
      generalize nth xs i = c at h1 h2
      go_wp2_with fail
      go_quiet (fail)
      go_wp2_with fail
      go_roundw
      case rel => exact ⟨i + 1, _, by omega, by go_num, by rw [Hwr.out, World.drewN_drewN]⟩
      case measure => simp [intOf]; omega
    · go_wp2_with fail
      go_ret
      exact ⟨rfl, m, Hwr.out⟩
theorem laws_rInts (a b : Option Addr) (n ca cb : Nat) (xs : List Int) (w : World) (hn : n ≤ 4294967296) (ha : Ints w a n xs) (hb : Ints w b n xs) :
    Calls Tryz.prog 38 #[.slice a n ca, .slice b n cb] w fun e w' => e = .returned (.bool true) ∧ Below w.heap.size w w' :=
  (laws_rInts_q a b n ca cb xs w hn ha hb).mono fun _ _ ⟨he, m, hm⟩ => ⟨he, by rw [hm]; exact below_drewN (Below.refl _ _) m⟩
set_option maxHeartbeats 400000 in
/-- Two slices of pairs that read alike are found equal. -/
theorem laws_rFracs_q (a b : Option Addr) (n ca cb : Nat) (xs : List (Int × Int)) (w : World) (hn : n ≤ 4294967296) (ha : Fr.Ints w a n xs) (hb : Fr.Ints w b n xs) :
    Calls Tryz.prog 35 #[.slice a n ca, .slice b n cb] w fun e w' => e = .returned (.bool true) ∧ ∃ m, w' = w.drewN m := by
  have Ha := Lib.hid ha
  have Hb := Lib.hid hb
  clear ha hb
  go_enter Tryz.func35, Tryz.ntmps35
  go_wp2_with fail
  go_loopw [5] (fun v5 wr => ∃ i m : Nat, i ≤ n ∧ v5 = .int .i64 i ∧ wr = w.drewN m) (fun v5 _ => n - (intOf v5).toNat)
  case atStart => exact ⟨0, 0, Nat.zero_le _, rfl, rfl⟩
  case round =>
    obtain ⟨i, m, hi, rfl, hwr⟩ := hrel
    have hbel : Below w.heap.size w wr := by rw [hwr]; exact below_drewN (Below.refl _ _) m
    have Hwr := Lib.hid hwr
    clear hwr
    by_cases hlt : (i : Int) < n
    · obtain ⟨ba, oa, rfl, hba, hca⟩ := Ha.out.2 (by omega)
      obtain ⟨bb, ob, rfl, hbb, hcb⟩ := Hb.out.2 (by omega)
      have h1 := (hbel.cell (p := ⟨ba, oa + i * 2, none⟩) hba).trans (hca i (by omega)).1
      have h2 := (hbel.cell (p := ⟨ba, oa + i * 2 + 1, none⟩) hba).trans (hca i (by omega)).2
      have h3 := (hbel.cell (p := ⟨bb, ob + i * 2, none⟩) hbb).trans (hcb i (by omega)).1
      have h4 := (hbel.cell (p := ⟨bb, ob + i * 2 + 1, none⟩) hbb).trans (hcb i (by omega)).2
      clear hca hcb hbel
      generalize Fr.at1 xs i = c at h1 h3
      generalize Fr.at2 xs i = d at h2 h4
      have hqA : ∀ W, (Op.equalIn 10000 29 (.agg #[.int .i64 c, .int .i64 d]) (.agg #[.int .i64 c, .int .i64 d])).run Tryz.prog W = .ok true W := fun W => by rw [eqA2]; simp
      go_wp2_with fail
      go_quiet (fail)
      go_wp2_with fail
      go_roundw
      case rel => exact ⟨i + 1, _, by omega, by go_num, by rw [Hwr.out, World.drewN_drewN]⟩
      case measure => simp [intOf]; omega
    · go_wp2_with fail
      go_ret
      exact ⟨rfl, m, Hwr.out⟩
theorem laws_rFracs (a b : Option Addr) (n ca cb : Nat) (xs : List (Int × Int)) (w : World) (hn : n ≤ 4294967296) (ha : Fr.Ints w a n xs) (hb : Fr.Ints w b n xs) :
    Calls Tryz.prog 35 #[.slice a n ca, .slice b n cb] w fun e w' => e = .returned (.bool true) ∧ Below w.heap.size w w' :=
  (laws_rFracs_q a b n ca cb xs w hn ha hb).mono fun _ _ ⟨he, m, hm⟩ => ⟨he, by rw [hm]; exact below_drewN (Below.refl _ _) m⟩
set_option maxHeartbeats 400000 in
theorem laws_rLess (a b c d : Int) (w : World) (h1 : -4611686018427387904 ≤ a * d ∧ a * d ≤ 4611686018427387904) (h2 : -4611686018427387904 ≤ c * b ∧ c * b ≤ 4611686018427387904) :
    Calls Tryz.prog 49 #[.agg #[.int .i64 a, .int .i64 b], .agg #[.int .i64 c, .int .i64 d]] w fun e w' => e = .returned (.bool (decide (a * d < c * b))) ∧ Below w.heap.size w w' := by
  have hbb : Below w.heap.size w ((w.alloc (.cells #[.int .i64 a, .int .i64 b] 29)).alloc (.cells #[.int .i64 c, .int .i64 d] 29)) := (below_new w _).alloc (by simp) _
  have hp := (Pair.new w (.int .i64 a) (.int .i64 b) 29).alloc (.cells #[.int .i64 c, .int .i64 d] 29)
  have hq := Pair.new (w.alloc (.cells #[.int .i64 a, .int .i64 b] 29)) (.int .i64 c) (.int .i64 d) 29
  rw [show (w.alloc (.cells #[.int .i64 a, .int .i64 b] 29)).heap.size = w.heap.size + 1 by simp] at hq
  have c0 := hp.c0
  have c1 := hp.c1
  have d0 := hq.c0
  have d1 := hq.c1
  have k1 : IntKind.i64.wrap (a * d) = a * d := IntWalk.i64_in _ (by omega)
  have k2 : IntKind.i64.wrap (c * b) = c * b := IntWalk.i64_in _ (by omega)
  clear hp hq h1 h2
  have HB := Lib.hid hbb
  clear hbb
  go_enter Tryz.func49, Tryz.ntmps49
  go_wp2_with fail
  go_ret
  exact ⟨rfl, HB.out⟩
set_option maxHeartbeats 400000 in
theorem laws_vLess (a b c d : Int) (w : World) (h1 : -4611686018427387904 ≤ a * d ∧ a * d ≤ 4611686018427387904) (h2 : -4611686018427387904 ≤ c * b ∧ c * b ≤ 4611686018427387904) :
    Calls Tryz.prog 26 #[.agg #[.int .i64 a, .int .i64 b], .agg #[.int .i64 c, .int .i64 d]] w fun e w' => e = .returned (.bool (decide (a * d < c * b))) ∧ Below w.heap.size w w' := by
  have hbb : Below w.heap.size w ((w.alloc (.cells #[.int .i64 a, .int .i64 b] 29)).alloc (.cells #[.int .i64 c, .int .i64 d] 29)) := (below_new w _).alloc (by simp) _
  have hp := (Pair.new w (.int .i64 a) (.int .i64 b) 29).alloc (.cells #[.int .i64 c, .int .i64 d] 29)
  have hq := Pair.new (w.alloc (.cells #[.int .i64 a, .int .i64 b] 29)) (.int .i64 c) (.int .i64 d) 29
  rw [show (w.alloc (.cells #[.int .i64 a, .int .i64 b] 29)).heap.size = w.heap.size + 1 by simp] at hq
  have c0 := hp.c0
  have c1 := hp.c1
  have d0 := hq.c0
  have d1 := hq.c1
  have k1 : IntKind.i64.wrap (a * d) = a * d := IntWalk.i64_in _ (by omega)
  have k2 : IntKind.i64.wrap (c * b) = c * b := IntWalk.i64_in _ (by omega)
  clear hp hq h1 h2
  have HB := Lib.hid hbb
  clear hbb
  go_enter Tryz.func26, Tryz.ntmps26
  go_wp2_with fail
  go_ret
  exact ⟨rfl, HB.out⟩
end Go.Proofs.YtnbomleieianoaaGreat
