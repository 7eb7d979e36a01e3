/- Contracts and plain laws for the statement FnRules, part 16. No conditions but those stated in each. -/
import Derived.Test.YtnbomleieianoaaGreatBnFnRules15
import Derived.Test.YtnbomleieianoaaGreatBnFnRules13
import Derived.Test.YtnbomleieianoaaGreatBnFnRules11
import Derived.Test.YtnbomleieianoaaGreatBnFnRules17
import Derived.Test.YtnbomleieianoaaGreatBnFnRules2
import Derived.Test.YtnbomleieianoaaGreatBnFnRules9
import Derived.Test.YtnbomleieianoaaGreatBnFnRules5
import Derived.Test.YtnbomleieianoaaGreatBnFnRules10
import Derived.Test.YtnbomleieianoaaGreatBnFnRules6
import Derived.Deep.QuietTactic
/- Plain law behind FnEnvelopes: the best rules have the envelope as their mean, no rule has more, caps that cover are no less than the least ones. No conditions but those stated. -/
namespace Go.Proofs.YtnbomleieianoaaGreat

/-- The envelope against what its children have together, and what stopping has. -/
theorem cap_inner {ps ws l : List Int} (h : Tr ps ws) {x : Nat} (hx : x < ps.length) (he : endB ps x = false) : kidSum ps (fun y => nth (capW ps ws l) y) x ps.length ≤ nth (capW ps ws l) x ∧ ownW ps ws l x ≤ nth (capW ps ws l) x ∧ (nth (capW ps ws l) x = ownW ps ws l x ∨ nth (capW ps ws l) x = kidSum ps (fun y => nth (capW ps ws l) y) x ps.length) := by
  have := nth_capW (l := l) h hx
  rw [stepA, he] at this
  simp only [Bool.false_eq_true, if_false] at this
  omega
theorem cap_end {ps ws l : List Int} (h : Tr ps ws) {x : Nat} (hx : x < ps.length) (he : endB ps x = true) : nth (capW ps ws l) x = ownW ps ws l x := by
  have := nth_capW (l := l) h hx
  rwa [stepA, he, if_pos rfl] at this
theorem cap_own {ps ws l : List Int} (h : Tr ps ws) {x : Nat} (hx : x < ps.length) : ownW ps ws l x ≤ nth (capW ps ws l) x := by
  cases he : endB ps x
  · exact (cap_inner h hx he).2.1
  · rw [cap_end h hx he]; exact Int.le_refl _
theorem cover_t {ps ws l caps : List Int} (h : coverV ps ws l caps = true) : paysB ps ws l = true ∧ caps.length = ps.length ∧ ∀ x, x < ps.length → capOk ps ws l caps x = true := by
  simp only [coverV, Bool.and_eq_true] at h
  exact ⟨h.1, by simpa using h.2.1.1, fun x hx => all_get h.2.2 hx⟩
/-- Caps that cover are no less than the least ones. -/
theorem cover_least {ps ws l caps : List Int} (h : coverV ps ws l caps = true) : ∀ x, x < ps.length → nth (capW ps ws l) x ≤ nth caps x := by
  obtain ⟨h1, h2, h3⟩ := cover_t h
  have hT := (paysB_t h1).1
  refine hT.toPa.below ?_
  intro x hx ih
  have hk := h3 x hx
  simp only [capOk, Bool.not_eq_true', Bool.or_eq_false_iff, Bool.and_eq_false_iff, decide_eq_false_iff_not] at hk
  have h4 : nth (sums ps ws) x * nth l x = ownW ps ws l x := rfl
  cases he : endB ps x
  · rw [he] at hk
    have h5 := kidSum_le (ps := ps) (f := fun y => nth (capW ps ws l) y) (g := fun y => nth caps y) (x := x) (k := ps.length) fun y hy e => ih y hy e
    have h6 := cap_inner (l := l) hT hx he
    have h7 := hk.2
    simp at h7
    omega
  · rw [cap_end hT hx he]; omega
theorem least_cover {ps ws l : List Int} (h : paysB ps ws l = true) : coverV ps ws l (capW ps ws l) = true := by
  have hpt := paysB_t h
  have hT := hpt.1
  refine coverV_yes h (capW_length _ _ _) (all_t fun i hi => ?_) fun x hx => ?_
  · have := worth_abs (l := l) hT hpt.2.2.2.2 24 i
    exact inB_mk (by unfold capW; omega) (by unfold capW; omega)
  · have h4 : nth (sums ps ws) x * nth l x = ownW ps ws l x := rfl
    have h5 := cap_own (l := l) hT hx
    simp only [capOk, Bool.not_eq_true', Bool.or_eq_false_iff, Bool.and_eq_false_iff, decide_eq_false_iff_not]
    refine ⟨by omega, ?_⟩
    cases he : endB ps x
    · have := (cap_inner (l := l) hT hx he).1
      exact .inr (by omega)
    · exact .inl rfl
theorem best_beh {ps ws l : List Int} (h : Tr ps ws) {x : Nat} (hx : x < ps.length) (hb : bestB ps ws l x = false) : kidSum ps (fun y => nth (capW ps ws l) y) x ps.length = nth (capW ps ws l) x := by
  have hne : ¬ ownW ps ws l x = nth (capW ps ws l) x := by simpa [bestB] using hb
  cases he : endB ps x
  · have := cap_inner (l := l) h hx he; omega
  · exact absurd (cap_end h hx he).symm hne
theorem best_mean {ps ws l : List Int} (h : paysB ps ws l = true) : rmS ps ws l (bestV ps ws l) = nth (capW ps ws l) 0 := by
  have hT := (paysB_t h).1
  rw [bestV_yes h, rm_firsts]
  rw [stS_congr (g := fun x => nth (capW ps ws l) x) fun x hx hf => by
    have := fir_S hT.toPa hx hf
    simpa [fS, bestB] using this]
  exact stS_eq hT.toPa fun x hx hb => best_beh hT hx (by simpa [fS] using beh_S hT.toPa hx hb)
theorem late_mean {ps ws l : List Int} (h : paysB ps ws l = true) : rmS ps ws l (lateV ps ws l) = nth (capW ps ws l) 0 := by
  have hT := (paysB_t h).1
  rw [lateV_yes h, rm_firsts]
  rw [stS_congr (g := fun x => nth (capW ps ws l) x) fun x hx hf => by
    have h1 := fir_S hT.toPa hx hf
    simp only [fS, lateB, Int.toNat_natCast, Bool.or_eq_true, decide_eq_true_eq] at h1
    cases he : endB ps x
    · rw [he] at h1
      have := cap_inner (l := l) hT hx he
      rcases h1 with h1 | h1
      · cases h1
      · omega
    · exact (cap_end hT hx he).symm]
  refine stS_eq hT.toPa fun x hx hb => ?_
  have h1 := beh_S hT.toPa hx hb
  simp only [fS, lateB, Int.toNat_natCast, Bool.or_eq_false_iff, decide_eq_false_iff_not] at h1
  have := cap_inner (l := l) hT hx h1.1
  omega
theorem best_end {ps ws l : List Int} (h : Tr ps ws) {x : Nat} (hx : x < ps.length) (he : endB ps x = true) : bestB ps ws l x = true := by
  simp [bestB, cap_end h hx he]
theorem best_stop {ps ws l : List Int} (h : paysB ps ws l = true) : stopB ps (bestV ps ws l) = true := by
  have hT := (paysB_t h).1
  rw [bestV_yes h]
  exact firsts_stop hT.toPa fun x hx he => by simpa [fS] using best_end hT hx he
theorem late_stop {ps ws l : List Int} (h : paysB ps ws l = true) : stopB ps (lateV ps ws l) = true := by
  have hT := (paysB_t h).1
  rw [lateV_yes h]
  exact firsts_stop hT.toPa fun x hx he => by simp [fS, lateB, he]
/-- What stops only where S does is no earlier than the rule of S. -/
theorem sooner_of {ps ws rule : List Int} {S : Int → Bool} (h : treeB ps ws = true) (h1 : stopB ps (firsts ps S) = true) (h2 : stopB ps rule = true) (hS : ∀ y : Nat, y < ps.length → hasB rule y = true → S y = true) : noLV ps ws (firsts ps S) rule = true := by
  have hp := (treeB_t h).toPa
  rw [noLV, twoB, h, h1, h2, noLaterB]
  simp only [Bool.true_and]
  refine all_t fun i hi => ?_
  obtain ⟨e, h3, h4, h5⟩ := end_nth hi
  rw [h5, Int.toNat_natCast, stop_firsts hp S h3]
  have hb := rule_end hp h2 h3 h4
  exact decide_eq_true (stop_mono hp hS e h3 (of_decide_eq_true hb)).2
theorem best_late {ps ws l : List Int} (h : paysB ps ws l = true) : noLV ps ws (bestV ps ws l) (lateV ps ws l) = true := by
  have hpt := paysB_t h
  have hT := hpt.1
  have h1 := best_stop h
  have h2 := late_stop h
  have htr : treeB ps ws = true := by simp only [paysB, Bool.and_eq_true] at h; exact h.1
  rw [bestV_yes h] at h1 ⊢
  refine sooner_of htr h1 h2 fun y hy hh => ?_
  rw [lateV_yes h, has_mem, firsts, mem_filt] at hh
  obtain ⟨i, hi, hf, he⟩ := hh
  obtain rfl : y = i := by omega
  have h3 := fir_S hT.toPa hi hf
  simp only [fS, lateB, Int.toNat_natCast, Bool.or_eq_true, decide_eq_true_eq] at h3
  cases hen : endB ps y
  · rw [hen] at h3
    have := cap_inner (l := l) hT hi hen
    rcases h3 with h3 | h3
    · cases h3
    · simp only [fS, Int.toNat_natCast, bestB, beq_iff_eq]; omega
  · simpa [fS] using best_end hT hi hen
/-- No rule has a greater mean than the envelope. -/
theorem any_le {ps ws l rule : List Int} (h : rmB ps ws l rule = true) : rmS ps ws l rule ≤ nth (capW ps ws l) 0 := by
  simp only [rmB, Bool.and_eq_true] at h
  have hT := (paysB_t h.1).1
  rw [rm_rule hT.toPa h.2]
  have h1 := stS_mono (ps := ps) (S := hasB rule) (f := ownW ps ws l) (g := fun x => nth (capW ps ws l) x) fun x hx _ => cap_own hT hx
  have h2 := stS_le hT.toPa (S := hasB rule) (f := fun x => nth (capW ps ws l) x) fun x hx hb => (cap_inner (l := l) hT hx (rule_inner hT.toPa h.2 hx hb)).1
  exact Int.le_trans h1 h2
/-- A rule with the greatest mean stops only where stopping is best. -/
theorem any_late {ps ws l rule : List Int} (h : rmB ps ws l rule = true) (he : rmS ps ws l rule = nth (capW ps ws l) 0) : noLV ps ws (bestV ps ws l) rule = true := by
  have h0 := h
  simp only [rmB, Bool.and_eq_true] at h
  have hT := (paysB_t h.1).1
  have hb := best_stop h.1
  have htr : treeB ps ws = true := by have := h.1; simp only [paysB, Bool.and_eq_true] at this; exact this.1
  rw [bestV_yes h.1] at hb ⊢
  refine sooner_of htr hb h.2 fun y hy hh => ?_
  rw [rm_rule hT.toPa h.2] at he
  have h1 := stS_mono (ps := ps) (S := hasB rule) (f := ownW ps ws l) (g := fun x => nth (capW ps ws l) x) fun x hx _ => cap_own hT hx
  have h2 := stS_le hT.toPa (S := hasB rule) (f := fun x => nth (capW ps ws l) x) fun x hx hb => (cap_inner (l := l) hT hx (rule_inner hT.toPa h.2 hx hb)).1
  have h3 : stS ps (hasB rule) (ownW ps ws l) = stS ps (hasB rule) (fun x => nth (capW ps ws l) x) := by omega
  have hm := has_mem.1 hh
  rw [rule_firsts hT.toPa h.2, firsts, mem_filt] at hm
  obtain ⟨i, hi, hf, hie⟩ := hm
  obtain rfl : y = i := by omega
  have := stS_same (fun x hx _ => cap_own hT hx) h3 hi hf
  simpa [fS, bestB] using this
/-- Means as fractions. -/
theorem mean_lt {ps ws : List Int} (h : Tr ps ws) (a b : Int) : (nm a (nth (sums ps ws) 0) * dn b (nth (sums ps ws) 0) < nm b (nth (sums ps ws) 0) * dn a (nth (sums ps ws) 0)) ↔ a < b := cut_lt a b (by have := sums_pos h 0 (by have := h.n1; omega); omega)
end Go.Proofs.YtnbomleieianoaaGreat

/- Plain law behind FnBounds: the bound of a balanced list and what a seer has are no less than the envelope, and costs take away. No conditions but those stated. -/
namespace Go.Proofs.YtnbomleieianoaaGreat

theorem bdE_self {ps pay num : List Int} (hp : Pa ps) {x : Nat} (hx : x < ps.length) : exc pay num x ≤ bdE ps pay num x ∧ (1 ≤ x → bdE ps pay num (par ps x) ≤ bdE ps pay num x) := by
  by_cases h0 : x = 0
  · subst h0
    refine ⟨?_, fun h => by omega⟩
    rw [bdE, way_zero]
    exact Int.le_of_eq (mxT_one rfl).symm
  · have hpar := hp.upN (x := x) (by omega) hx
    have hl := (way_length hp (par ps x) (by omega)).1
    have hw := way_up hp (x := x) (by omega) hx
    have e1 : bdE ps pay num x = max (bdE ps pay num (par ps x)) (exc pay num x) := by
      rw [bdE, hw, List.length_append, List.length_singleton, mxT]
      have e2 : nth (way ps (par ps x) ++ [(x : Int)]) (way ps (par ps x)).length = x := nth_append_r
      have e3 : ∀ k, k ≤ (way ps (par ps x)).length → mxT (exc pay num) (way ps (par ps x) ++ [(x : Int)]) k = mxT (exc pay num) (way ps (par ps x)) k := fun k => by
        induction k with
        | zero => intro _; rfl
        | succ k ih => intro hk; rw [mxT, mxT, ih (by omega), nth_append_l (by omega)]
      rw [e2, e3 _ (Nat.le_refl _)]; rfl
    rw [e1]
    exact ⟨by omega, fun _ => by omega⟩
/-- The greatest excess on the way to a node, times its sum, is no more than those of the ends below it together. -/
theorem bd_below {ps ws pay num : List Int} (h : Tr ps ws) : ∀ x, x < ps.length → nth (sums ps ws) x * bdE ps pay num x ≤ enG ps (fun e => bdE ps pay num e * nth ws e) x := by
  refine h.toPa.below ?_
  intro x hx ih
  cases he : endB ps x
  · rw [enG_inner h.toPa _ hx he, s_inner h hx he]
    have h1 := kidSum_le (ps := ps) (f := fun y => bdE ps pay num x * nth (sums ps ws) y) (g := enG ps (fun e => bdE ps pay num e * nth ws e)) (x := x) (k := ps.length) fun y hy e => by
      have hk := kid_par h.toPa hy e
      have h2 := (bdE_self (pay := pay) (num := num) h.toPa hy).2 hk.1
      rw [hk.2] at h2
      have h3 := Int.mul_le_mul_of_nonneg_left h2 (sums_nn h y)
      have h4 := ih y hy e
      rw [Int.mul_comm (bdE ps pay num x)]
      omega
    rw [kidSum_mul ps (fun y => nth (sums ps ws) y)] at h1
    rw [Int.mul_comm]
    exact h1
  · rw [enG_end h.toPa _ hx he, s_end h he, Int.mul_comm]
    exact Int.le_refl _
/-- Balanced: a node's number times its sum is what its children have together. -/
theorem bal_kids {ps ws num : List Int} (h : Tr ps ws) {x : Nat} (hx : x < ps.length) (he : endB ps x = false) (hb : drA ps ws num x = 0) : kidSum ps (fun y => nth (sums ps ws) y * nth num y) x ps.length = nth (sums ps ws) x * nth num x := by
  rcases (dr_bal (l := num) h hx).1 hb with e | e
  · rw [he] at e; cases e
  · exact e.symm
theorem bound_cap {ps ws pay num : List Int} (h : Tr ps ws) (hb : ∀ x, x < ps.length → drA ps ws num x = 0) : ∀ x, x < ps.length → nth (capW ps ws pay) x ≤ enG ps (fun e => bdE ps pay num e * nth ws e) x + nth (sums ps ws) x * nth num x := by
  refine h.toPa.below ?_
  intro x hx ih
  have hown : ownW ps ws pay x ≤ enG ps (fun e => bdE ps pay num e * nth ws e) x + nth (sums ps ws) x * nth num x := by
    have h1 := bd_below (pay := pay) (num := num) h x hx
    have h2 := Int.mul_le_mul_of_nonneg_left (bdE_self (pay := pay) (num := num) h.toPa hx).1 (sums_nn h x)
    have h3 : nth (sums ps ws) x * exc pay num x = ownW ps ws pay x - nth (sums ps ws) x * nth num x := by
      rw [exc, Int.toNat_natCast, Int.mul_sub]; rfl
    omega
  cases he : endB ps x
  · have hc := cap_inner (l := pay) h hx he
    have hk := bal_kids h hx he (hb x hx)
    have h1 := kidSum_le (ps := ps) (f := fun y => nth (capW ps ws pay) y) (g := fun y => enG ps (fun e => bdE ps pay num e * nth ws e) y + nth (sums ps ws) y * nth num y) (x := x) (k := ps.length) fun y hy e => ih y hy e
    rw [kidSum_add ps (enG ps (fun e => bdE ps pay num e * nth ws e)) (fun y => nth (sums ps ws) y * nth num y), ← enG_inner h.toPa _ hx he, hk] at h1
    omega
  · rw [cap_end h hx he]; exact hown
theorem bound_le {ps ws pay num : List Int} (h : Tr ps ws) (hb : ∀ x, x < ps.length → drA ps ws num x = 0) : nth (capW ps ws pay) 0 ≤ bndS ps ws pay num := by
  have h1 := bound_cap (pay := pay) h hb 0 (by have := h.n1; omega)
  rw [enG_root h.toPa] at h1
  rw [bndS, Int.mul_comm]
  have : sumOf (bdT ps ws pay num) (ends ps) = sumOf (fun e => bdE ps pay num e.toNat * nth ws e.toNat) (ends ps) := rfl
  omega
theorem seer_le {ps ws pay : List Int} (h : Tr ps ws) : nth (capW ps ws pay) 0 ≤ bndS ps ws pay (zeL ps) := bound_le h fun x _ => by
  rw [drA]
  exact kidSum_zero fun y _ _ => by rw [zeL, nth_replicate, nth_replicate]; simp
/-- Less payments, less envelope. -/
theorem cap_mono {ps ws l l' : List Int} (h : Tr ps ws) (hl : ∀ x, x < ps.length → nth l' x ≤ nth l x) : ∀ x, x < ps.length → nth (capW ps ws l') x ≤ nth (capW ps ws l) x := by
  refine h.toPa.below ?_
  intro x hx ih
  have hown : ownW ps ws l' x ≤ ownW ps ws l x := Int.mul_le_mul_of_nonneg_left (hl x hx) (sums_nn h x)
  cases he : endB ps x
  · have h1 := kidSum_le (ps := ps) (f := fun y => nth (capW ps ws l') y) (g := fun y => nth (capW ps ws l) y) (x := x) (k := ps.length) fun y hy e => ih y hy e
    have h2 := cap_inner (l := l') h hx he
    have h3 := cap_inner (l := l) h hx he
    omega
  · rw [cap_end h hx he, cap_end h hx he]; exact hown
theorem cost_cap {ps ws l : List Int} {c : Int} (h : costB ps ws l c = true) : nth (capW ps ws (costL ps l c)) 0 ≤ nth (capW ps ws l) 0 := by
  simp only [costB, Bool.and_eq_true] at h
  have hT := (paysB_t h.1).1
  have hc := inB_t h.2.1
  refine cap_mono hT (fun x hx => ?_) 0 (by have := hT.n1; omega)
  rw [costL, nth_map_range hx]
  have := Int.mul_nonneg (show 0 ≤ c by omega) (dep_bd hT.toPa x hx).1
  omega
end Go.Proofs.YtnbomleieianoaaGreat

/- Plain law behind FnBounds: what the law compares, as fractions. No conditions but those stated. -/
namespace Go.Proofs.YtnbomleieianoaaGreat

theorem enG_bd {ps ws : List Int} (h : Tr ps ws) {V : Nat → Int} {B : Int} (hV : ∀ x, x < ps.length → endB ps x = true → -(B * nth ws x) ≤ V x ∧ V x ≤ B * nth ws x) : ∀ x, x < ps.length → -(B * nth (sums ps ws) x) ≤ enG ps V x ∧ enG ps V x ≤ B * nth (sums ps ws) x := by
  refine h.toPa.below ?_
  intro x hx ih
  cases he : endB ps x
  · have h1 := kidSum_le (ps := ps) (f := enG ps V) (g := fun y => B * nth (sums ps ws) y) (x := x) (k := ps.length) fun y hy e => (ih y hy e).2
    have h2 := kidSum_le (ps := ps) (f := fun y => (-B) * nth (sums ps ws) y) (g := enG ps V) (x := x) (k := ps.length) fun y hy e => by have := (ih y hy e).1; rw [Int.neg_mul]; exact this
    rw [kidSum_mul ps (fun y => nth (sums ps ws) y), ← s_inner h hx he] at h1 h2
    rw [enG_inner h.toPa _ hx he]
    rw [Int.neg_mul] at h2
    exact ⟨h2, h1⟩
  · rw [enG_end h.toPa _ hx he, s_end h he]
    exact hV x hx he
theorem bnd_bd {ps ws pay num : List Int} (h : Tr ps ws) (h1 : ∀ i, -999 ≤ nth pay i ∧ nth pay i ≤ 999) (h2 : ∀ i, -999 ≤ nth num i ∧ nth num i ≤ 999) : -11508480 ≤ bndS ps ws pay num ∧ bndS ps ws pay num ≤ 11508480 := by
  have h3 := enG_bd h (V := fun e => bdE ps pay num e * nth ws e) (B := 1998) (fun x _ _ => by
    have hb := bdE_bd (ps := ps) h1 h2 x
    have hw := (h.w0 x).1
    have e1 := Int.mul_le_mul_of_nonneg_right hb.1 hw
    have e2 := Int.mul_le_mul_of_nonneg_right hb.2 hw
    rw [Int.neg_mul] at e1
    exact ⟨e1, e2⟩) 0 (by have := h.n1; omega)
  rw [enG_root h.toPa] at h3
  have h4 := mul_abs (B := 999) (U := 480) (h2 0) (sums_bd h 0) (by omega)
  have h5 := sums_bd h 0
  have h6 : sumOf (bdT ps ws pay num) (ends ps) = sumOf (fun e => bdE ps pay num e.toNat * nth ws e.toNat) (ends ps) := rfl
  rw [bndS, h6]
  omega
theorem s0_pos {ps ws : List Int} (h : Tr ps ws) : 0 < nth (sums ps ws) 0 := by have := sums_pos h 0 (by have := h.n1; omega); omega
theorem env_at {ps ws l : List Int} (h : paysB ps ws l = true) : Fr.at1 (envV ps ws l) 0 = nm (nth (capW ps ws l) 0) (nth (sums ps ws) 0) ∧ Fr.at2 (envV ps ws l) 0 = dn (nth (capW ps ws l) 0) (nth (sums ps ws) 0) ∧ (envV ps ws l).length ≤ 24 ∧ 1 ≤ (envV ps ws l).length := by
  have hT := (paysB_t h).1
  have h0 : 0 < ps.length := by have := hT.n1; omega
  rw [envV_yes h, envL_length]
  have e1 : Fr.at1 (envL ps ws l) 0 = nm (nth (capW ps ws l) 0) (nth (sums ps ws) 0) := by
    unfold Fr.at1 envL; simp [List.getD, h0]
  have e2 : Fr.at2 (envL ps ws l) 0 = dn (nth (capW ps ws l) 0) (nth (sums ps ws) 0) := by
    unfold Fr.at2 envL; simp [List.getD, h0]
  exact ⟨e1, e2, hT.n24, hT.n1⟩
theorem cap_abs {ps ws l : List Int} (h : paysB ps ws l = true) : -11508480 ≤ nth (capW ps ws l) 0 ∧ nth (capW ps ws l) 0 ≤ 11508480 := by
  have hp := paysB_t h
  have := worth_abs hp.1 hp.2.2.2.2 24 0
  unfold capW; omega
theorem frac_cmp {ps ws : List Int} (h : Tr ps ws) {a b : Int} (ha : -11508480 ≤ a ∧ a ≤ 11508480) (hb : -11508480 ≤ b ∧ b ≤ 11508480) (hle : b ≤ a) :
    (-4611686018427387904 ≤ nm a (nth (sums ps ws) 0) * dn b (nth (sums ps ws) 0) ∧ nm a (nth (sums ps ws) 0) * dn b (nth (sums ps ws) 0) ≤ 4611686018427387904) ∧ (-4611686018427387904 ≤ nm b (nth (sums ps ws) 0) * dn a (nth (sums ps ws) 0) ∧ nm b (nth (sums ps ws) 0) * dn a (nth (sums ps ws) 0) ≤ 4611686018427387904) ∧ decide (nm a (nth (sums ps ws) 0) * dn b (nth (sums ps ws) 0) < nm b (nth (sums ps ws) 0) * dn a (nth (sums ps ws) 0)) = false := by
  have hs := s0_pos h
  have hs2 := (sums_bd h 0).2
  have e1 := cut_prod (a := a) (b := b) hs hs2 ha
  have e2 := cut_prod (a := b) (b := a) hs hs2 hb
  refine ⟨by omega, by omega, decide_eq_false fun hlt => ?_⟩
  have := (cut_lt a b hs).1 hlt
  omega
theorem zeL_bd (ps : List Int) : ∀ i, -999 ≤ nth (zeL ps) i ∧ nth (zeL ps) i ≤ 999 := fun i => by rw [zeL, nth_replicate]; omega
/-- What the seer has against the envelope. -/
theorem seer_cmp {ps ws pay : List Int} (h : paysB ps ws pay = true) : (envV ps ws pay).length ≤ 24 ∧ 1 ≤ (envV ps ws pay).length ∧ (-4611686018427387904 ≤ boN (paysB ps ws pay) ps ws pay (zeL ps) * Fr.at2 (envV ps ws pay) 0 ∧ boN (paysB ps ws pay) ps ws pay (zeL ps) * Fr.at2 (envV ps ws pay) 0 ≤ 4611686018427387904) ∧ (-4611686018427387904 ≤ Fr.at1 (envV ps ws pay) 0 * boD (paysB ps ws pay) ps ws pay (zeL ps) ∧ Fr.at1 (envV ps ws pay) 0 * boD (paysB ps ws pay) ps ws pay (zeL ps) ≤ 4611686018427387904) ∧ decide (boN (paysB ps ws pay) ps ws pay (zeL ps) * Fr.at2 (envV ps ws pay) 0 < Fr.at1 (envV ps ws pay) 0 * boD (paysB ps ws pay) ps ws pay (zeL ps)) = false := by
  have hp := paysB_t h
  obtain ⟨e1, e2, e3, e4⟩ := env_at h
  rw [e1, e2, boN, boD, h, if_pos rfl, if_pos rfl]
  exact ⟨e3, e4, frac_cmp hp.1 (bnd_bd hp.1 hp.2.2.2.2 (zeL_bd ps)) (cap_abs h) (seer_le hp.1)⟩
theorem bound_cmp {ps ws pay num : List Int} (h : bbB ps ws pay num = true) : (-4611686018427387904 ≤ boN (bbB ps ws pay num) ps ws pay num * Fr.at2 (envV ps ws pay) 0 ∧ boN (bbB ps ws pay num) ps ws pay num * Fr.at2 (envV ps ws pay) 0 ≤ 4611686018427387904) ∧ (-4611686018427387904 ≤ Fr.at1 (envV ps ws pay) 0 * boD (bbB ps ws pay num) ps ws pay num ∧ Fr.at1 (envV ps ws pay) 0 * boD (bbB ps ws pay num) ps ws pay num ≤ 4611686018427387904) ∧ decide (boN (bbB ps ws pay num) ps ws pay num * Fr.at2 (envV ps ws pay) 0 < Fr.at1 (envV ps ws pay) 0 * boD (bbB ps ws pay num) ps ws pay num) = false := by
  have h0 := h
  simp only [bbB, balV, Bool.and_eq_true] at h
  have hp := paysB_t h.2
  have hn := paysB_t h.1.1
  obtain ⟨e1, e2, e3, e4⟩ := env_at h.2
  rw [e1, e2, boN, boD, h0, if_pos rfl, if_pos rfl]
  exact frac_cmp hp.1 (bnd_bd hp.1 hp.2.2.2.2 hn.2.2.2.2) (cap_abs h.2) (bound_le hp.1 (bal_t h.1.2))
theorem three_t {ps ws l : List Int} {c : Int} (h : costB ps ws l c = true) : paysB ps ws l = true ∧ paysB ps ws (costV ps ws l c) = true ∧ ((envV ps ws l).length ≤ 24 ∧ 1 ≤ (envV ps ws l).length) ∧ ((envV ps ws (costV ps ws l c)).length ≤ 24 ∧ 1 ≤ (envV ps ws (costV ps ws l c)).length) ∧ (-4611686018427387904 ≤ Fr.at1 (envV ps ws l) 0 * Fr.at2 (envV ps ws (costV ps ws l c)) 0 ∧ Fr.at1 (envV ps ws l) 0 * Fr.at2 (envV ps ws (costV ps ws l c)) 0 ≤ 4611686018427387904) ∧ (-4611686018427387904 ≤ Fr.at1 (envV ps ws (costV ps ws l c)) 0 * Fr.at2 (envV ps ws l) 0 ∧ Fr.at1 (envV ps ws (costV ps ws l c)) 0 * Fr.at2 (envV ps ws l) 0 ≤ 4611686018427387904) ∧ decide (Fr.at1 (envV ps ws l) 0 * Fr.at2 (envV ps ws (costV ps ws l c)) 0 < Fr.at1 (envV ps ws (costV ps ws l c)) 0 * Fr.at2 (envV ps ws l) 0) = false := by
  have h0 := h
  simp only [costB, Bool.and_eq_true] at h
  have hp := paysB_t h.1
  have hq : paysB ps ws (costL ps l c) = true := pays_both hp.2.1 h.2.2
  rw [costV_yes h0]
  obtain ⟨e1, e2, e3, e4⟩ := env_at h.1
  obtain ⟨f1, f2, f3, f4⟩ := env_at hq
  rw [e1, e2, f1, f2]
  exact ⟨h.1, hq, ⟨e3, e4⟩, ⟨f3, f4⟩, frac_cmp hp.1 (cap_abs h.1) (cap_abs hq) (cost_cap h0)⟩
end Go.Proofs.YtnbomleieianoaaGreat

/- Plain law behind FnEnvelopes and FnRules: what the laws compare. No conditions but those stated. -/
namespace Go.Proofs.YtnbomleieianoaaGreat

theorem rm_abs {ps ws l rule : List Int} (h : rmB ps ws l rule = true) : -11508480 ≤ rmS ps ws l rule ∧ rmS ps ws l rule ≤ 11508480 := by
  simp only [rmB, Bool.and_eq_true] at h
  obtain ⟨hp, hs⟩ := h
  have hT := (paysB_t hp).1
  have hl := (paysB_t hp).2.2.2.2
  rw [rm_rule hT.toPa hs]
  have hsb := sums_bd hT
  have hb : ∀ x, -999 * nth (sums ps ws) x ≤ ownW ps ws l x ∧ ownW ps ws l x ≤ 999 * nth (sums ps ws) x := fun x => by
    have h1 := hl x
    have h2 := (hsb x).1
    unfold ownW
    have e1 := Int.mul_le_mul_of_nonneg_left h1.1 h2
    have e2 := Int.mul_le_mul_of_nonneg_left h1.2 h2
    rw [Int.mul_comm] at e1
    rw [Int.mul_comm _ 999] at e2
    exact ⟨e1, e2⟩
  have hk : ∀ c : Int, ∀ x, x < ps.length → behB ps (hasB rule) x = false → kidSum ps (fun y => c * nth (sums ps ws) y) x ps.length = c * nth (sums ps ws) x := fun c x hx hbb => by
    rw [kidSum_mul ps (fun y => nth (sums ps ws) y), ← s_inner hT hx (rule_inner hT.toPa hs hx hbb)]
  have h1 := stS_mono (ps := ps) (S := hasB rule) (f := ownW ps ws l) (g := fun x => 999 * nth (sums ps ws) x) fun x _ _ => (hb x).2
  have h2 := stS_mono (ps := ps) (S := hasB rule) (g := ownW ps ws l) (f := fun x => -999 * nth (sums ps ws) x) fun x _ _ => (hb x).1
  rw [stS_eq hT.toPa (hk 999)] at h1
  rw [stS_eq hT.toPa (hk (-999))] at h2
  have := hsb 0
  omega
theorem nm_inj {ps ws : List Int} (h : Tr ps ws) {a b : Int} (h1 : nm a (nth (sums ps ws) 0) = nm b (nth (sums ps ws) 0)) (h2 : dn a (nth (sums ps ws) 0) = dn b (nth (sums ps ws) 0)) : a = b := by
  have e1 := mean_lt h a b
  have e2 := mean_lt h b a
  rw [h1, h2] at e1 e2
  omega
/-- What holds if the payments are good: the two rules and the least caps. -/
theorem env_one {ps ws l : List Int} (h : paysB ps ws l = true) : ((envV ps ws l).length ≤ 24 ∧ 1 ≤ (envV ps ws l).length) ∧ (rmB ps ws l (bestV ps ws l) = true ∧ rmN ps ws l (bestV ps ws l) = Fr.at1 (envV ps ws l) 0 ∧ rmD ps ws l (bestV ps ws l) = Fr.at2 (envV ps ws l) 0) ∧ (rmB ps ws l (lateV ps ws l) = true ∧ rmN ps ws l (lateV ps ws l) = Fr.at1 (envV ps ws l) 0 ∧ rmD ps ws l (lateV ps ws l) = Fr.at2 (envV ps ws l) 0) ∧ coverV ps ws l (lcV ps ws l) = true ∧ noLV ps ws (bestV ps ws l) (lateV ps ws l) = true ∧ twoB ps ws (bestV ps ws l) (lateV ps ws l) = true := by
  obtain ⟨e1, e2, e3, e4⟩ := env_at h
  have hb : rmB ps ws l (bestV ps ws l) = true := by rw [rmB, h, best_stop h]; rfl
  have hl : rmB ps ws l (lateV ps ws l) = true := by rw [rmB, h, late_stop h]; rfl
  have hn := best_late h
  refine ⟨⟨e3, e4⟩, ⟨hb, ?_, ?_⟩, ⟨hl, ?_, ?_⟩, by rw [lcV_yes h]; exact least_cover h, hn, ?_⟩
  · rw [(rm_yes hb).1, best_mean h, e1]
  · rw [(rm_yes hb).2, best_mean h, e2]
  · rw [(rm_yes hl).1, late_mean h, e1]
  · rw [(rm_yes hl).2, late_mean h, e2]
  · rw [noLV, Bool.and_eq_true] at hn; exact hn.1
/-- A rule's mean against the envelope. -/
theorem env_rule {ps ws l rule : List Int} (h : rmB ps ws l rule = true) : (rmN ps ws l rule = Fr.at1 (envV ps ws l) 0 → rmD ps ws l rule = Fr.at2 (envV ps ws l) 0 → noLV ps ws (bestV ps ws l) rule = true ∧ twoB ps ws (bestV ps ws l) rule = true) ∧ (-4611686018427387904 ≤ Fr.at1 (envV ps ws l) 0 * rmD ps ws l rule ∧ Fr.at1 (envV ps ws l) 0 * rmD ps ws l rule ≤ 4611686018427387904) ∧ (-4611686018427387904 ≤ rmN ps ws l rule * Fr.at2 (envV ps ws l) 0 ∧ rmN ps ws l rule * Fr.at2 (envV ps ws l) 0 ≤ 4611686018427387904) ∧ decide (Fr.at1 (envV ps ws l) 0 * rmD ps ws l rule < rmN ps ws l rule * Fr.at2 (envV ps ws l) 0) = false := by
  have h0 := h
  simp only [rmB, Bool.and_eq_true] at h0
  have hT := (paysB_t h0.1).1
  obtain ⟨e1, e2, e3, e4⟩ := env_at h0.1
  rw [e1, e2, (rm_yes h).1, (rm_yes h).2]
  refine ⟨fun h1 h2 => ?_, frac_cmp hT (cap_abs h0.1) (rm_abs h) (any_le h)⟩
  have hn := any_late h (nm_inj hT h1 h2)
  exact ⟨hn, by rw [noLV, Bool.and_eq_true] at hn; exact hn.1⟩
theorem cover_low {ps ws l caps : List Int} (h : coverV ps ws l caps = true) : paysB ps ws l = true ∧ (lcV ps ws l).length = caps.length ∧ ∀ i, i < (lcV ps ws l).length → nth (lcV ps ws l) i ≤ nth caps i := by
  have hc := cover_t h
  have hl : (lcV ps ws l).length = ps.length := by rw [lcV_yes hc.1, capW_length]
  refine ⟨hc.1, by omega, fun i hi => ?_⟩
  rw [lcV_yes hc.1]
  exact cover_least h i (by omega)
end Go.Proofs.YtnbomleieianoaaGreat

/- Plain law: the earlier and the later one of two stoppings are stoppings, and have together what both have. Nothing of the program. -/
namespace Go.Proofs.YtnbomleieianoaaGreat

theorem firsts_stop2 {ps : List Int} (hp : Pa ps) {S : Int → Bool} (hS : ∀ x : Nat, x < ps.length → endB ps x = true → 0 ≤ stop ps S x) : stopB ps (firsts ps S) = true := by
  have h1 : risB (firsts ps S) = true := asc_ris (filt_asc _ _)
  rw [← rule_stop hp, ruleB, h1]
  have h2 : allIn (firsts ps S) 0 ((ps.length : Int) - 1) = true := all_t fun i hi => by
    obtain ⟨j, h1, _, h3⟩ := nth_filt hi
    rw [firsts] at *
    rw [h3]
    exact inB_mk (by omega) (by omega)
  have h3 : ((List.range (ends ps).length).all fun i => decide (0 ≤ stop ps (hasB (firsts ps S)) (nth (ends ps) i).toNat)) = true := all_t fun i hi => by
    obtain ⟨e, h1, h2, h3⟩ := end_nth hi
    rw [h3, Int.toNat_natCast, stop_firsts hp S h1]
    exact decide_eq_true (hS e h1 h2)
  have h4 : ((List.range (firsts ps S).length).all fun i => stop ps (hasB (firsts ps S)) (nth (firsts ps S) i).toNat == nth (firsts ps S) i) = true := all_t fun i hi => by
    obtain ⟨j, h1, h2, h3⟩ := nth_filt hi
    have h3' : nth (firsts ps S) i = (j : Int) := h3
    rw [h3', Int.toNat_natCast, stop_firsts hp S h1]
    exact h2
  rw [h2, h3, h4]; rfl
/-- Stops of the one or the other. -/
def orS (S T : Int → Bool) (y : Int) : Bool := S y || T y
/-- Stops of the one behind those of the other. -/
def andS (ps : List Int) (S T : Int → Bool) (y : Int) : Bool := (S y && decide (0 ≤ stop ps T y.toNat)) || (T y && decide (0 ≤ stop ps S y.toNat))
def minI (s t : Int) : Int := if s < 0 then t else if t < 0 then s else min s t
def maxI (s t : Int) : Int := if s < 0 then -1 else if t < 0 then -1 else max s t
theorem minI_pos {s t : Int} (h : 0 ≤ s) (h2 : 0 ≤ t) : minI s t = min s t := by rw [minI, if_neg (by omega), if_neg (by omega)]
theorem maxI_pos {s t : Int} (h : 0 ≤ s) (h2 : 0 ≤ t) : maxI s t = max s t := by rw [maxI, if_neg (by omega), if_neg (by omega)]
theorem stop_or {ps : List Int} (h : Pa ps) (S T : Int → Bool) : ∀ x, x < ps.length → stop ps (orS S T) x = minI (stop ps S x) (stop ps T x) := by
  refine h.above ?_ ?_
  · rw [stop_zero, stop_zero, stop_zero, orS]
    cases S 0 <;> cases T 0 <;> rfl
  · intro x h1 h2 ih
    have hpar := (h.upN h1 h2).2
    have l1 := stop_low h S (par ps x) (by omega)
    have l2 := stop_low h T (par ps x) (by omega)
    rw [stop_up h _ h1 h2, stop_up h S h1 h2, stop_up h T h1 h2, ih, orS]
    generalize stop ps S (par ps x) = s at *
    generalize stop ps T (par ps x) = t at *
    unfold minI
    cases S (x : Int) <;> cases T (x : Int) <;> simp only [Bool.or_true, Bool.or_false, Bool.false_eq_true, if_true, if_false] <;> (repeat' split) <;> omega
theorem stop_and {ps : List Int} (h : Pa ps) (S T : Int → Bool) : ∀ x, x < ps.length → stop ps (andS ps S T) x = maxI (stop ps S x) (stop ps T x) := by
  refine h.above ?_ ?_
  · have e1 := stop_zero ps S
    have e2 := stop_zero ps T
    rw [stop_zero, andS, Int.toNat_zero, e1, e2]
    cases S 0 <;> cases T 0 <;> rfl
  · intro x h1 h2 ih
    have hpar := (h.upN h1 h2).2
    have l1 := stop_low h S (par ps x) (by omega)
    have l2 := stop_low h T (par ps x) (by omega)
    have e1 := stop_up h S h1 h2
    have e2 := stop_up h T h1 h2
    rw [stop_up h _ h1 h2, ih, andS, Int.toNat_natCast, e1, e2]
    generalize stop ps S (par ps x) = s at *
    generalize stop ps T (par ps x) = t at *
    clear e1 e2 ih
    unfold maxI
    cases S (x : Int) <;> cases T (x : Int) <;> simp only [Bool.true_and, Bool.false_and, Bool.or_false, Bool.false_or, Bool.false_eq_true, if_true, if_false, Bool.or_eq_true, decide_eq_true_eq] <;> (repeat' split) <;> omega
theorem merge_early {ps a b : List Int} (hp : Pa ps) (ha : stopB ps a = true) (hb : stopB ps b = true) : mergeV ps a b true = firsts ps (orS (hasB a) (hasB b)) := filt_congr fun y hy => by
  rw [← isStop_ends hp _ hy, mergeP, isStop, Bool.eq_iff_iff, List.any_eq_true, List.any_eq_true]
  have key : ∀ e, e ∈ ends ps → pickI true (stop ps (hasB a) e.toNat) (stop ps (hasB b) e.toNat) = stop ps (orS (hasB a) (hasB b)) e.toNat := fun e he => by
    obtain ⟨i, hi, hie, rfl⟩ := mem_filt.1 he
    rw [Int.toNat_natCast, stop_or hp _ _ i hi]
    have h1 := of_decide_eq_true (rule_end hp ha hi hie)
    have h2 := of_decide_eq_true (rule_end hp hb hi hie)
    rw [minI_pos h1 h2, pick_t]
    by_cases h3 : stop ps (hasB b) i < stop ps (hasB a) i
    · rw [if_pos h3]; omega
    · rw [if_neg h3]; omega
  constructor
  · rintro ⟨e, he, h⟩; exact ⟨e, he, by rw [← key e he]; exact h⟩
  · rintro ⟨e, he, h⟩; exact ⟨e, he, by rw [key e he]; exact h⟩
theorem merge_late {ps a b : List Int} (hp : Pa ps) (ha : stopB ps a = true) (hb : stopB ps b = true) : mergeV ps a b false = firsts ps (andS ps (hasB a) (hasB b)) := filt_congr fun y hy => by
  rw [← isStop_ends hp _ hy, mergeP, isStop, Bool.eq_iff_iff, List.any_eq_true, List.any_eq_true]
  have key : ∀ e, e ∈ ends ps → pickI false (stop ps (hasB a) e.toNat) (stop ps (hasB b) e.toNat) = stop ps (andS ps (hasB a) (hasB b)) e.toNat := fun e he => by
    obtain ⟨i, hi, hie, rfl⟩ := mem_filt.1 he
    rw [Int.toNat_natCast, stop_and hp _ _ i hi]
    have h1 := of_decide_eq_true (rule_end hp ha hi hie)
    have h2 := of_decide_eq_true (rule_end hp hb hi hie)
    rw [maxI_pos h1 h2, pick_f]
    by_cases h3 : stop ps (hasB a) i ≤ stop ps (hasB b) i
    · rw [if_pos h3]; omega
    · rw [if_neg h3]; omega
  constructor
  · rintro ⟨e, he, h⟩; exact ⟨e, he, by rw [← key e he]; exact h⟩
  · rintro ⟨e, he, h⟩; exact ⟨e, he, by rw [key e he]; exact h⟩
theorem both_end {ps a b : List Int} (hp : Pa ps) (ha : stopB ps a = true) (hb : stopB ps b = true) {x : Nat} (hx : x < ps.length) (he : endB ps x = true) :
    0 ≤ stop ps (hasB a) x ∧ 0 ≤ stop ps (hasB b) x := ⟨of_decide_eq_true (rule_end hp ha hx he), of_decide_eq_true (rule_end hp hb hx he)⟩
theorem early_stop {ps a b : List Int} (hp : Pa ps) (ha : stopB ps a = true) (hb : stopB ps b = true) : stopB ps (mergeV ps a b true) = true := by
  rw [merge_early hp ha hb]
  refine firsts_stop2 hp fun x hx he => ?_
  have := both_end hp ha hb hx he
  rw [stop_or hp _ _ x hx, minI, if_neg (by omega), if_neg (by omega)]; omega
theorem late_stop2 {ps a b : List Int} (hp : Pa ps) (ha : stopB ps a = true) (hb : stopB ps b = true) : stopB ps (mergeV ps a b false) = true := by
  rw [merge_late hp ha hb]
  refine firsts_stop2 hp fun x hx he => ?_
  have := both_end hp ha hb hx he
  rw [stop_and hp _ _ x hx, maxI, if_neg (by omega), if_neg (by omega)]; omega
theorem early_late {ps a b : List Int} (hp : Pa ps) (ha : stopB ps a = true) (hb : stopB ps b = true) : noLaterB ps (mergeV ps a b true) (mergeV ps a b false) = true := by
  rw [merge_early hp ha hb, merge_late hp ha hb]
  refine all_t fun i hi => ?_
  obtain ⟨e, h3, h4, h5⟩ := end_nth hi
  have := both_end hp ha hb h3 h4
  rw [h5, Int.toNat_natCast, stop_firsts hp _ h3, stop_firsts hp _ h3, stop_or hp _ _ e h3, stop_and hp _ _ e h3, minI_pos this.1 this.2, maxI_pos this.1 this.2]
  exact decide_eq_true (by omega)
/-- What two stoppings have together, the earlier and the later one of both have together. -/
theorem two_sum {ps : List Int} (hp : Pa ps) (S T : Int → Bool) (f : Nat → Int) : stS ps (orS S T) f + stS ps (andS ps S T) f = stS ps S f + stS ps T f := by
  unfold stS
  rw [← sumR_add, ← sumR_add]
  refine sumR_congr fun x hx => ?_
  have l1 := stop_low hp S x hx
  have l2 := stop_low hp T x hx
  unfold atF firB
  rw [stop_or hp S T x hx, stop_and hp S T x hx]
  generalize stop ps S x = s at *
  generalize stop ps T x = t at *
  unfold minI maxI
  simp only [beq_iff_eq]
  (repeat' split) <;> omega
theorem merge_sum {ps ws l a b : List Int} (hp : Pa ps) (ha : stopB ps a = true) (hb : stopB ps b = true) : rmS ps ws l (mergeV ps a b true) + rmS ps ws l (mergeV ps a b false) = rmS ps ws l a + rmS ps ws l b := by
  rw [merge_early hp ha hb, merge_late hp ha hb, rm_firsts, rm_firsts, rm_rule hp ha, rm_rule hp hb]
  exact two_sum hp _ _ _
end Go.Proofs.YtnbomleieianoaaGreat

/- Contracts: IsFraction and AddFractions on what are fractions. No conditions but those stated. -/
namespace Go.Proofs.YtnbomleieianoaaGreat
open Go.RowKit

set_option maxRecDepth 100000 in
theorem impl_IsFraction_t (x y : Int) (w : World) (h1 : inB x (-1000000000) 1000000000 = true) (h2 : inB y 1 1000000 = true) (hx : -1000000000 ≤ x ∧ x ≤ 1000000000) (hy : 1 ≤ y ∧ y ≤ 1000000) (h3 : gcdI x y = 1) :
    Calls Tryz.prog 150 #[.agg #[.int .i64 x, .int .i64 y]] w fun e w' => e = .returned (.bool true) ∧ Below w.heap.size w w' := by
  have hp := Pair.new w (.int .i64 x) (.int .i64 y) 29
  have hb := below_new w (.cells #[.int .i64 x, .int .i64 y] 29)
  have c0 := hp.c0
  have c1 := hp.c1
  have Hb := Lib.hid hb
  have H3 := Lib.hid h3
  clear hp hb h3
  go_enter Tryz.func150, Tryz.ntmps150
  go_wp2_with (fail)
  generalize (w.alloc (.cells #[.int .i64 x, .int .i64 y] 29)) = w1 at *
  refine (impl_within _ _ _ _).mono ?_
  rintro e w2 ⟨rfl, rfl⟩
  rw [h1]
  go_wp2_with fail
  refine (impl_within _ _ _ _).mono ?_
  rintro e w2 ⟨rfl, rfl⟩
  rw [h2]
  go_wp2_with fail
  refine (impl_commonDivisor _ _ _ (by omega) (by omega)).mono ?_
  rintro e w2 ⟨rfl, n, rfl⟩
  rw [H3.out]
  go_wp2_with fail
  go_ret
  exact ⟨rfl, below_drewN Hb.out _⟩

def FrOk (f : Int × Int) : Prop := inB f.1 (-1000000000) 1000000000 = true ∧ inB f.2 1 1000000 = true ∧ (-1000000000 ≤ f.1 ∧ f.1 ≤ 1000000000) ∧ (1 ≤ f.2 ∧ f.2 ≤ 1000000) ∧ gcdI f.1 f.2 = 1
set_option maxRecDepth 100000 in
theorem impl_areFractions_t (a : Option Addr) (n c : Nat) (xs : List (Int × Int)) (w : World) (hn : n ≤ 1048576) (h : Fr.Ints w a n xs) (hF : ∀ i, i < n → FrOk (Fr.at1 xs i, Fr.at2 xs i)) :
    Calls Tryz.prog 126 #[.slice a n c] w fun e w' => e = .returned (.bool true) ∧ Below w.heap.size w w' := by
  have Ha := Lib.hid h
  have HF := Lib.hid hF
  clear h hF
  go_enter Tryz.func126, Tryz.ntmps126
  go_wp2_with fail
  go_loopw [7] (fun v7 wr => ∃ i : Nat, i ≤ n ∧ v7 = .int .i64 i ∧ Below w.heap.size w wr) (fun v7 _ => n - (intOf v7).toNat)
  case atStart => exact ⟨0, Nat.zero_le _, rfl, Below.refl _ _⟩
  case round =>
    obtain ⟨i, hi, rfl, hbr⟩ := hrel
    have HBR := Lib.hid hbr
    clear hbr
    by_cases hlt : (i : Int) < n
    · have hX := Ha.out.below HBR.out
      obtain ⟨ba, oa, rfl, hba, hca⟩ := hX.2 (by omega)
      have h1 := (hca i (by omega)).1
      have h2 := (hca i (by omega)).2
      have hok := HF.out i (by omega)
      clear hca hX
      generalize Fr.at1 xs i = x at *
      generalize Fr.at2 xs i = y at *
      have Hok := Lib.hid hok
      clear hok
      have hp := Pair.new wr (.int .i64 x) (.int .i64 y) 29
      have hb := below_new wr (.cells #[.int .i64 x, .int .i64 y] 29)
      have zz := Pair.new wr (.int .i64 0) (.int .i64 0) 29
      have zz0 := zz.c0
      have zz1 := zz.c1
      have zz2 := zz.f0
      have zz3 := zz.f1
      have c0 := hp.c0
      have c1 := hp.c1
      have Hb := Lib.hid hb
      clear hp hb zz
      go_wp2_with fail
      generalize (wr.alloc (.cells #[.int .i64 x, .int .i64 y] 29)) = wz at *
      refine (impl_IsFraction_t x y wz Hok.out.1 Hok.out.2.1 Hok.out.2.2.1 Hok.out.2.2.2.1 Hok.out.2.2.2.2).mono ?_
      rintro e w5 ⟨rfl, b5⟩
      have BB := Lib.hid (HBR.out.trans ((Hb.out.trans (b5.mono Hb.out.size)).mono HBR.out.size))
      clear b5 c0 c1 zz0 zz1 zz2 zz3
      go_wp2_with fail
      go_roundw
      case rel => exact ⟨i + 1, by omega, by go_num, BB.out⟩
      case measure => simp [intOf]; omega
    · go_wp2_with fail
      go_ret
      exact ⟨rfl, HBR.out⟩
theorem fr_two (w : World) (x y u v : Int) : Fr.Ints (w.alloc (.cells #[.int .i64 x, .int .i64 y, .int .i64 u, .int .i64 v] 29)) (some ⟨w.heap.size, 0, none⟩) 2 [(x, y), (u, v)] := by
  refine ⟨rfl, fun _ => ⟨w.heap.size, 0, rfl, by simp, fun j hj => ?_⟩⟩
  rcases (show j = 0 ∨ j = 1 by omega) with rfl | rfl <;> exact ⟨by rw [World.cell?_alloc_at _ _ _ _ rfl]; rfl, by rw [World.cell?_alloc_at _ _ _ _ rfl]; rfl⟩
theorem mul_in {x v A B : Int} (hx : -A ≤ x ∧ x ≤ A) (hv : 0 ≤ v ∧ v ≤ B) (hA : 0 ≤ A) : -(A * B) ≤ x * v ∧ x * v ≤ A * B := by
  have h1 := Int.mul_le_mul_of_nonneg_right hx.2 hv.1
  have h2 := Int.mul_le_mul_of_nonneg_right hx.1 hv.1
  have h3 := Int.mul_le_mul_of_nonneg_left hv.2 hA
  rw [Int.neg_mul] at h2
  omega
set_option maxRecDepth 100000 in
theorem impl_AddFractions_t (x y u v : Int) (w : World) (h1 : FrOk (x, y)) (h2 : FrOk (u, v)) :
    Calls Tryz.prog 68 #[.agg #[.int .i64 x, .int .i64 y], .agg #[.int .i64 u, .int .i64 v]] w fun e w' => e = .returned (.tuple #[.agg #[.int .i64 (lowN (x * v + u * y) (y * v)), .int .i64 (lowD (x * v + u * y) (y * v))], .bool (lowB (x * v + u * y) (y * v))]) ∧ Below w.heap.size w w' := by
  have H1 := Lib.hid h1
  have H2 := Lib.hid h2
  clear h1 h2
  go_enter Tryz.func68, Tryz.ntmps68
  have p1 := Pair.new w (.int .i64 x) (.int .i64 y) 29
  have b1 := below_new w (.cells #[.int .i64 x, .int .i64 y] 29)
  have p1 := (p1.alloc (.cells #[.int .i64 u, .int .i64 v] 29)).alloc (.cells #[.int .i64 0, .int .i64 0] 29)
  have p2 := (Pair.new (w.alloc (.cells #[.int .i64 x, .int .i64 y] 29)) (.int .i64 u) (.int .i64 v) 29).alloc (.cells #[.int .i64 0, .int .i64 0] 29)
  have p3 := Pair.new ((w.alloc (.cells #[.int .i64 x, .int .i64 y] 29)).alloc (.cells #[.int .i64 u, .int .i64 v] 29)) (.int .i64 0) (.int .i64 0) 29
  have b3 : Below w.heap.size w (((w.alloc (.cells #[.int .i64 x, .int .i64 y] 29)).alloc (.cells #[.int .i64 u, .int .i64 v] 29)).alloc (.cells #[.int .i64 0, .int .i64 0] 29)) := (b1.alloc (by simp) _).alloc (by simp; omega) _
  rw [show (w.alloc (.cells #[.int .i64 x, .int .i64 y] 29)).heap.size = w.heap.size + 1 by simp] at p2
  rw [show ((w.alloc (.cells #[.int .i64 x, .int .i64 y] 29)).alloc (.cells #[.int .i64 u, .int .i64 v] 29)).heap.size = w.heap.size + 1 + 1 by simp] at p3
  have B3 := Lib.hid b3
  have c0 := p1.c0
  have c1 := p1.c1
  have d0 := p2.c0
  have d1 := p2.c1
  have HP1 := Lib.hid p1
  have HP2 := Lib.hid p2
  have HP3 := Lib.hid p3
  clear b1 b3 p1 p2 p3
  go_wp2_with fail
  have hsz : (((w.alloc (.cells #[.int .i64 x, .int .i64 y] 29)).alloc (.cells #[.int .i64 u, .int .i64 v] 29)).alloc (.cells #[.int .i64 0, .int .i64 0] 29)).heap.size = w.heap.size + 1 + 1 + 1 := by simp
  generalize (((w.alloc (.cells #[.int .i64 x, .int .i64 y] 29)).alloc (.cells #[.int .i64 u, .int .i64 v] 29)).alloc (.cells #[.int .i64 0, .int .i64 0] 29)) = wA at *
  rw [← hsz]
  refine (impl_areFractions_t (some ⟨wA.heap.size, 0, none⟩) 2 2 [(x, y), (u, v)] _ (by omega) (fr_two wA x y u v) (fun i hi => by rcases (show i = 0 ∨ i = 1 by omega) with rfl | rfl <;> first | exact H1.out | exact H2.out)).mono ?_
  rintro e w5 ⟨rfl, b5⟩
  have bb := (below_new wA (.cells #[.int .i64 x, .int .i64 y, .int .i64 u, .int .i64 v] 29)).trans (b5.mono (by simp))
  clear b5 c0 c1 d0 d1 hsz
  have c0 := (HP1.out.below bb).c0
  have c1 := (HP1.out.below bb).c1
  have d0 := (HP2.out.below bb).c0
  have d1 := (HP2.out.below bb).c1
  have e0 := (HP3.out.below bb).c0
  have e1 := (HP3.out.below bb).c1
  have g0 := (HP3.out.below bb).f0
  have g1 := (HP3.out.below bb).f1
  have HP3 := Lib.hid (HP3.out.below bb)
  have BB := Lib.hid (B3.out.trans (bb.mono B3.out.size))
  have m1 := mul_in H1.out.2.2.1 (v := v) (B := 1000000) (by have := H2.out.2.2.2.1; simp only at this; omega) (by omega)
  have m2 := mul_in H2.out.2.2.1 (v := y) (B := 1000000) (by have := H1.out.2.2.2.1; simp only at this; omega) (by omega)
  have m3 := mul_in (x := y) (A := 1000000) (v := v) (B := 1000000) (by have := H1.out.2.2.2.1; simp only at this; omega) (by have := H2.out.2.2.2.1; simp only at this; omega) (by omega)
  have m4 : 0 < y * v := Int.mul_pos (by have := H1.out.2.2.2.1; simp only at this; omega) (by have := H2.out.2.2.2.1; simp only at this; omega)
  clear bb B3 HP1 HP2
  simp only at m1 m2
  go_wp2_with fail
  refine (impl_lowest _ _ _ (by omega) (by omega) (by omega)).mono ?_
  rintro e w6 ⟨rfl, b6⟩
  have hp := HP3.out.below b6
  have HB := Lib.hid (BB.out.trans (b6.mono BB.out.size))
  clear c0 c1 d0 d1 e0 e1 g0 g1 b6 m1 m2 m3 m4
  have c0 := hp.c0
  have c1 := hp.c1
  have f0 := hp.f0
  have f1 := hp.f1
  have hr := two_cells c0 c1 (.int .i64 (lowN (x * v + u * y) (y * v))) (.int .i64 (lowD (x * v + u * y) (y * v)))
  clear hp
  go_wp2_with fail
  exact bodyPost_ret (v := .tuple #[.agg #[.int .i64 (lowN (x * v + u * y) (y * v)), .int .i64 (lowD (x * v + u * y) (y * v))], .bool (lowB (x * v + u * y) (y * v))]) (by simp [results, Tryz.results68, go_sem, hr.1, hr.2]) rfl ⟨rfl, (HB.out.setCell (by simp; omega) _).setCell (by simp; omega) _⟩
end Go.Proofs.YtnbomleieianoaaGreat

/- Plain law behind FnRules: thresholds and looks ahead against the best level and the envelope, sums of fractions. No conditions but those stated. -/
namespace Go.Proofs.YtnbomleieianoaaGreat

theorem lv_same {ps ws l : List Int} (hp : Pa ps) {a b : Int} (h : ∀ y : Nat, y < ps.length → (nth l y ≥ a ↔ nth l y ≥ b)) : lvT ps ws l a = lvT ps ws l b := by
  unfold lvT
  rw [firB_congr hp (S := fS (levB ps l a)) (S' := fS (levB ps l b)) fun y hy => by
    simp only [fS, levB, Int.toNat_natCast]
    rw [decide_eq_decide.2 (h y hy)]]
theorem lv_top (l : List Int) (lev : Int) : ∀ k : Nat, (∀ x, x < k → lev ≤ nth l x) ∨ ∃ x, x < k ∧ nth l x < lev ∧ ∀ y, y < k → nth l y < lev → nth l y ≤ nth l x
  | 0 => Or.inl fun x hx => by omega
  | k + 1 => by
    rcases lv_top l lev k with h | ⟨x, hx, h1, h2⟩
    · by_cases hk : lev ≤ nth l k
      · exact Or.inl fun x hx => by
          rcases Nat.lt_succ_iff_lt_or_eq.1 hx with h3 | rfl
          · exact h x h3
          · exact hk
      · exact Or.inr ⟨k, by omega, by omega, fun y hy h3 => by
          rcases Nat.lt_succ_iff_lt_or_eq.1 hy with h4 | rfl
          · have := h y h4; omega
          · omega⟩
    · by_cases hk : nth l k < lev ∧ nth l x < nth l k
      · exact Or.inr ⟨k, by omega, hk.1, fun y hy h3 => by
          rcases Nat.lt_succ_iff_lt_or_eq.1 hy with h4 | rfl
          · have := h2 y h4 h3; omega
          · omega⟩
      · exact Or.inr ⟨x, by omega, h1, fun y hy h3 => by
          rcases Nat.lt_succ_iff_lt_or_eq.1 hy with h4 | rfl
          · exact h2 y h4 h3
          · omega⟩
theorem lv_small {ps ws l : List Int} (h : paysB ps ws l = true) {lev : Int} (hl : lev ≤ 999) : lvT ps ws l lev ≤ lvT ps ws l (lvV ps ws l) := by
  have hp := paysB_t h
  have hb := slL_best (lvT ps ws l) l l.length
  rw [(lv_yes h).1]
  have hlen : l.length = ps.length := by have := hp.2; omega
  rcases lv_top l lev l.length with h1 | ⟨x, hx, h1, h2⟩
  · have he : lvT ps ws l lev = lvT ps ws l (-999) := lv_same hp.1.toPa fun y hy => by
      have e1 := h1 y (by omega)
      have e2 := hp.2.2.2.2 y
      omega
    have := hb.2 (-999) (Or.inl rfl)
    omega
  · have he : lvT ps ws l lev = lvT ps ws l (nth l x + 1) := lv_same hp.1.toPa fun y hy => by
      have e1 := h2 y (by omega)
      omega
    have := hb.2 (nth l x + 1) (Or.inr ⟨x, hx, rfl, by omega⟩)
    omega
theorem lv_big {ps ws l : List Int} (h : paysB ps ws l = true) {lev : Int} (hl : 1000 ≤ lev) : lvT ps ws l lev ≤ lvT ps ws l 999 := by
  have hp := paysB_t h
  have hT := hp.1
  have hP := hT.toPa
  have hbd := hp.2.2.2.2
  have hS : ∀ (c : Int) (x : Nat), fS (levB ps l c) x = (endB ps x || decide (nth l x ≥ c)) := fun c x => by rw [fS, Int.toNat_natCast, levB]
  have hfe : ∀ x, x < ps.length → endB ps x = true → enG ps (ownW ps ws l) x = ownW ps ws l x := fun x hx he => enG_end hP _ hx he
  have hq : ∀ (c : Int), stS ps (fS (levB ps l c)) (enG ps (ownW ps ws l)) = enG ps (ownW ps ws l) 0 := fun c => stS_eq hP fun x hx hb => by
    have h1 := beh_S hP hx hb
    rw [hS, Bool.or_eq_false_iff] at h1
    exact (enG_inner hP _ hx h1.1).symm
  have hbb := enG_bd hT (V := ownW ps ws l) (B := 999) fun x hx he => by
    have e1 : ownW ps ws l x = nth ws x * nth l x := by rw [← s_end hT he]; rfl
    have hw := (hT.w0 x).1
    have e2 := Int.mul_le_mul_of_nonneg_left (hbd x).1 hw
    have e3 := Int.mul_le_mul_of_nonneg_left (hbd x).2 hw
    rw [Int.mul_comm _ (-999), Int.neg_mul] at e2
    rw [Int.mul_comm _ 999] at e3
    rw [e1]
    exact ⟨e2, e3⟩
  have h1 : stS ps (fS (levB ps l lev)) (ownW ps ws l) = stS ps (fS (levB ps l lev)) (enG ps (ownW ps ws l)) := stS_congr fun x hx hf => by
    have h2 := fir_S hP hx hf
    rw [hS, Bool.or_eq_true, decide_eq_true_eq] at h2
    rcases h2 with h2 | h2
    · exact (hfe x hx h2).symm
    · have := (hbd x).2; omega
  have h3 : stS ps (fS (levB ps l 999)) (enG ps (ownW ps ws l)) ≤ stS ps (fS (levB ps l 999)) (ownW ps ws l) := stS_mono fun x hx hf => by
    have h2 := fir_S hP hx hf
    rw [hS, Bool.or_eq_true, decide_eq_true_eq] at h2
    rcases h2 with h2 | h2
    · rw [hfe x hx h2]; exact Int.le_refl _
    · have e1 : nth l x = 999 := by have := (hbd x).2; omega
      have e2 : ownW ps ws l x = 999 * nth (sums ps ws) x := by
        show nth (sums ps ws) x * nth l x = _
        rw [e1, Int.mul_comm]
      rw [e2]; exact (hbb x hx).2
  unfold lvT
  rw [rm_firsts, rm_firsts, h1, hq lev]
  rw [hq 999] at h3
  exact h3
theorem lv_any {ps ws l : List Int} (h : paysB ps ws l = true) (lev : Int) : lvT ps ws l lev ≤ lvT ps ws l (lvV ps ws l) := by
  by_cases hl : lev ≤ 999
  · exact lv_small h hl
  · exact Int.le_trans (lv_big h (by omega)) (lv_small h (Int.le_refl _))
theorem lv_rm {ps ws l : List Int} (h : paysB ps ws l = true) (lev : Int) : rmB ps ws l (firsts ps (fS (levB ps l lev))) = true := by
  rw [rmB, h, lev_stop (paysB_t h).1.toPa lev]; rfl
/-- A threshold's rule against the best level, and that against the envelope. -/
theorem thr_cmp {ps ws l : List Int} (h : paysB ps ws l = true) (lev : Int) : rmB ps ws l (entryV ps ws l lev) = true ∧
    ((-4611686018427387904 ≤ lvN ps ws l * rmD ps ws l (entryV ps ws l lev) ∧ lvN ps ws l * rmD ps ws l (entryV ps ws l lev) ≤ 4611686018427387904) ∧ (-4611686018427387904 ≤ rmN ps ws l (entryV ps ws l lev) * lvD ps ws l ∧ rmN ps ws l (entryV ps ws l lev) * lvD ps ws l ≤ 4611686018427387904) ∧ decide (lvN ps ws l * rmD ps ws l (entryV ps ws l lev) < rmN ps ws l (entryV ps ws l lev) * lvD ps ws l) = false) ∧
    (-4611686018427387904 ≤ Fr.at1 (envV ps ws l) 0 * lvD ps ws l ∧ Fr.at1 (envV ps ws l) 0 * lvD ps ws l ≤ 4611686018427387904) ∧ (-4611686018427387904 ≤ lvN ps ws l * Fr.at2 (envV ps ws l) 0 ∧ lvN ps ws l * Fr.at2 (envV ps ws l) 0 ≤ 4611686018427387904) ∧ decide (Fr.at1 (envV ps ws l) 0 * lvD ps ws l < lvN ps ws l * Fr.at2 (envV ps ws l) 0) = false := by
  have hT := (paysB_t h).1
  have hr := lv_rm h lev
  rw [entryV_yes h]
  obtain ⟨e1, e2, -, -⟩ := env_at h
  rw [e1, e2, (rm_yes hr).1, (rm_yes hr).2, (lv_yes h).2.1, (lv_yes h).2.2]
  have ha : lvT ps ws l lev = rmS ps ws l (firsts ps (fS (levB ps l lev))) := rfl
  rw [← ha]
  exact ⟨hr, frac_cmp hT (lvT_bd h _) (lvT_bd h _) (lv_any h lev), frac_cmp hT (cap_abs h) (lvT_bd h _) (any_le (lv_rm h _))⟩
theorem worth_end {ps ws l : List Int} {x : Nat} (hx : x < ps.length) (he : endB ps x = true) : ∀ k, nth (worthL ps ws l k) x = ownW ps ws l x
  | 0 => nth_worth0 hx
  | k + 1 => by rw [nth_worthS hx, stepA, he, if_pos rfl]
/-- A look ahead: its rule is one, its mean is no more than the envelope, and the longest one is the best rule. -/
theorem look_cmp {ps ws l : List Int} {k : Int} (h : lookOk ps ws l k = true) : paysB ps ws l = true ∧ rmB ps ws l (lookV ps ws l k) = true ∧ lookOk ps ws l 24 = true ∧ lookV ps ws l 24 = bestV ps ws l := by
  have hp : paysB ps ws l = true := by rw [lookOk, Bool.and_eq_true] at h; exact h.1
  have h24 : lookOk ps ws l 24 = true := look_yes hp (by decide)
  refine ⟨hp, ?_, h24, ?_⟩
  · rw [rmB, hp, lookV, h, if_pos rfl]
    exact firsts_stop (paysB_t hp).1.toPa fun x hx he => by
      rw [fS, Int.toNat_natCast, lookB, worth_end hx he]; simp
  · rw [lookV, h24, if_pos rfl, bestV_yes hp]; rfl

theorem fr_ok {ps ws : List Int} (h : Tr ps ws) {a : Int} (ha : -11508480 ≤ a ∧ a ≤ 11508480) : FrOk (nm a (nth (sums ps ws) 0), dn a (nth (sums ps ws) 0)) := by
  have hs := s0_pos h
  have hs2 := (sums_bd h 0).2
  have hb := gcdI_quot a (nth (sums ps ws) 0) (by omega)
  obtain ⟨g, hg, h1, h2⟩ := cut_parts a hs
  have hd := dn_pos a (nth (sums ps ws) 0) (by omega)
  generalize nm a (nth (sums ps ws) 0) = x at *
  generalize dn a (nth (sums ps ws) 0) = y at *
  generalize nth (sums ps ws) 0 = s at *
  have e1 : y ≤ s := by
    have := Int.mul_le_mul_of_nonneg_right (show (1 : Int) ≤ g by omega) (show 0 ≤ y by omega)
    omega
  have e2 : -11508480 ≤ x ∧ x ≤ 11508480 := by
    rcases Int.le_total 0 x with hx | hx
    · have := Int.mul_le_mul_of_nonneg_right (show (1 : Int) ≤ g by omega) hx
      omega
    · have := Int.mul_le_mul_of_nonpos_right (show (1 : Int) ≤ g by omega) hx
      omega
  exact ⟨inB_mk (by simp only; omega) (by simp only; omega), inB_mk (by simp only; omega) (by simp only; omega), by simp only; omega, by simp only; omega, hb⟩
theorem cut_mul (a : Int) {s : Int} (hs : 0 < s) : nm a s * s = a * dn a s := by
  obtain ⟨g, hg, h1, h2⟩ := cut_parts a hs
  generalize nm a s = x at *
  generalize dn a s = y at *
  rw [h1, h2]; grind
/-- Two sums of fractions over one whole are the same. -/
theorem add_same {s a b f l : Int} (hs : 0 < s) (h : a + b = f + l) :
    lowN (nm a s * dn b s + nm b s * dn a s) (dn a s * dn b s) = lowN (nm f s * dn l s + nm l s * dn f s) (dn f s * dn l s) ∧ lowD (nm a s * dn b s + nm b s * dn a s) (dn a s * dn b s) = lowD (nm f s * dn l s + nm l s * dn f s) (dn f s * dn l s) ∧ lowB (nm a s * dn b s + nm b s * dn a s) (dn a s * dn b s) = lowB (nm f s * dn l s + nm l s * dn f s) (dn f s * dn l s) := by
  have h1 := cut_mul a hs
  have h2 := cut_mul b hs
  have h3 := cut_mul f hs
  have h4 := cut_mul l hs
  have d1 := dn_pos a s (by omega)
  have d2 := dn_pos b s (by omega)
  have d3 := dn_pos f s (by omega)
  have d4 := dn_pos l s (by omega)
  have hc := nm_cross (x := nm a s * dn b s + nm b s * dn a s) (y := dn a s * dn b s) (x' := nm f s * dn l s + nm l s * dn f s) (y' := dn f s * dn l s) (by have := Int.mul_pos (show 0 < dn a s by omega) (show 0 < dn b s by omega); omega) (by have := Int.mul_pos (show 0 < dn f s by omega) (show 0 < dn l s by omega); omega) (by
    generalize nm a s = x1 at *
    generalize dn a s = y1 at *
    generalize nm b s = x2 at *
    generalize dn b s = y2 at *
    generalize nm f s = x3 at *
    generalize dn f s = y3 at *
    generalize nm l s = x4 at *
    generalize dn l s = y4 at *
    have e1 : (x1 * y2 + x2 * y1) * (y3 * y4) * s = (a + b) * (y1 * y2 * (y3 * y4)) := by grind
    have e2 : (x3 * y4 + x4 * y3) * (y1 * y2) * s = (f + l) * (y1 * y2 * (y3 * y4)) := by grind
    exact Int.eq_of_mul_eq_mul_right (show s ≠ 0 by omega) (by rw [e1, e2, h]))
  unfold lowN lowD lowB
  rw [hc.1, hc.2]
  exact ⟨rfl, rfl, rfl⟩
/-- The numbers that the law puts on a tree. -/
def numAt (x : Nat) : Int := ((x : Int) * x * 7).tmod 31 - 10
def numL (n : Nat) : List Int := (List.range n).map numAt
theorem numL_length (n : Nat) : (numL n).length = n := by simp [numL]
theorem numL_succ (n : Nat) : numL (n + 1) = numL n ++ [numAt n] := by rw [numL, numL, List.range_succ, List.map_append]; rfl
theorem numAt_bd (x : Nat) : -10 ≤ numAt x ∧ numAt x ≤ 20 := by
  have h0 : (0 : Int) ≤ (x : Int) * x * 7 := Int.mul_nonneg (Int.mul_nonneg (by omega) (by omega)) (by omega)
  have h1 := Int.emod_nonneg ((x : Int) * x * 7) (show (31 : Int) ≠ 0 by omega)
  have h2 := Int.emod_lt_of_pos ((x : Int) * x * 7) (show (0 : Int) < 31 by omega)
  rw [numAt, Int.tmod_eq_emod_of_nonneg h0]
  omega
theorem numL_pays {ps ws : List Int} (h : treeB ps ws = true) : paysB ps ws (numL ps.length) = true := by
  rw [pays_yes (all_t fun i hi => by
    rw [numL_length] at hi
    rw [numL, nth_map_range hi]
    have := numAt_bd i
    exact inB_mk (by omega) (by omega)), h, numL_length]
  simp
/-- The means of two rules, and of the earlier and the later one of both, as sums of fractions. -/
theorem rules_sum {ps ws a b num : List Int} (h : twoB ps ws a b = true) (hn : num = numL ps.length) :
    (rmB ps ws num a = true ∧ rmB ps ws num b = true ∧ rmB ps ws num (erlV ps ws a b true) = true ∧ rmB ps ws num (erlV ps ws a b false) = true) ∧
    (FrOk (rmN ps ws num a, rmD ps ws num a) ∧ FrOk (rmN ps ws num b, rmD ps ws num b) ∧ FrOk (rmN ps ws num (erlV ps ws a b true), rmD ps ws num (erlV ps ws a b true)) ∧ FrOk (rmN ps ws num (erlV ps ws a b false), rmD ps ws num (erlV ps ws a b false))) ∧
    lowN (rmN ps ws num a * rmD ps ws num b + rmN ps ws num b * rmD ps ws num a) (rmD ps ws num a * rmD ps ws num b) = lowN (rmN ps ws num (erlV ps ws a b true) * rmD ps ws num (erlV ps ws a b false) + rmN ps ws num (erlV ps ws a b false) * rmD ps ws num (erlV ps ws a b true)) (rmD ps ws num (erlV ps ws a b true) * rmD ps ws num (erlV ps ws a b false)) ∧
    lowD (rmN ps ws num a * rmD ps ws num b + rmN ps ws num b * rmD ps ws num a) (rmD ps ws num a * rmD ps ws num b) = lowD (rmN ps ws num (erlV ps ws a b true) * rmD ps ws num (erlV ps ws a b false) + rmN ps ws num (erlV ps ws a b false) * rmD ps ws num (erlV ps ws a b true)) (rmD ps ws num (erlV ps ws a b true) * rmD ps ws num (erlV ps ws a b false)) ∧
    lowB (rmN ps ws num a * rmD ps ws num b + rmN ps ws num b * rmD ps ws num a) (rmD ps ws num a * rmD ps ws num b) = lowB (rmN ps ws num (erlV ps ws a b true) * rmD ps ws num (erlV ps ws a b false) + rmN ps ws num (erlV ps ws a b false) * rmD ps ws num (erlV ps ws a b true)) (rmD ps ws num (erlV ps ws a b true) * rmD ps ws num (erlV ps ws a b false)) := by
  have h0 := h
  simp only [twoB, Bool.and_eq_true] at h0
  obtain ⟨ht, ha, hb⟩ := h0
  have hpy : paysB ps ws num = true := by rw [hn]; exact numL_pays ht
  have hT := (paysB_t hpy).1
  rw [erl_yes h, erl_yes h]
  have r1 : rmB ps ws num a = true := by rw [rmB, hpy, ha]; rfl
  have r2 : rmB ps ws num b = true := by rw [rmB, hpy, hb]; rfl
  have r3 : rmB ps ws num (mergeV ps a b true) = true := by rw [rmB, hpy, early_stop hT.toPa ha hb]; rfl
  have r4 : rmB ps ws num (mergeV ps a b false) = true := by rw [rmB, hpy, late_stop2 hT.toPa ha hb]; rfl
  have hs := merge_sum (ws := ws) (l := num) hT.toPa ha hb
  rw [(rm_yes r1).1, (rm_yes r1).2, (rm_yes r2).1, (rm_yes r2).2, (rm_yes r3).1, (rm_yes r3).2, (rm_yes r4).1, (rm_yes r4).2]
  exact ⟨⟨r1, r2, r3, r4⟩, ⟨fr_ok hT (rm_abs r1), fr_ok hT (rm_abs r2), fr_ok hT (rm_abs r3), fr_ok hT (rm_abs r4)⟩, add_same (s0_pos hT) hs.symm⟩
end Go.Proofs.YtnbomleieianoaaGreat

/- Contracts of the small words of the laws on rules and fractions. No conditions but those stated. -/
namespace Go.Proofs.YtnbomleieianoaaGreat
open Go.RowKit

theorem laws_vBig (a : Option Addr) (n cap : Nat) (w : World) :
    Calls Tryz.prog 6 #[.slice a n cap] w fun e w' => e = .returned (.bool (decide ((n : Int) > 65536))) ∧ w = w' := by
  by_cases h : (n : Int) > 65536
  all_goals
    go_enter Tryz.func6, Tryz.ntmps6
    go_wp2_with fail
    go_ret
    exact ⟨by simp [h], rfl⟩
set_option maxHeartbeats 400000 in
/-- Two slices that read alike are found equal. -/
theorem laws_vInts_q (a b : Option Addr) (n ca cb : Nat) (xs : List Int) (w : World) (hn : n ≤ 4294967296) (ha : Ints w a n xs) (hb : Ints w b n xs) :
    Calls Tryz.prog 21 #[.slice a n ca, .slice b n cb] w fun e w' => e = .returned (.bool true) ∧ ∃ m, w' = w.drewN m := by
  have Ha := Lib.hid ha
  have Hb := Lib.hid hb
  clear ha hb
  go_enter Tryz.func21, Tryz.ntmps21
  go_wp2_with fail
  go_loopw [5] (fun v5 wr => ∃ i m : Nat, i ≤ n ∧ v5 = .int .i64 i ∧ wr = w.drewN m) (fun v5 _ => n - (intOf v5).toNat)
  case atStart => exact ⟨0, 0, Nat.zero_le _, rfl, rfl⟩
  case round =>
    obtain ⟨i, m, hi, rfl, hwr⟩ := hrel
    have hbel : Below w.heap.size w wr := by rw [hwr]; exact below_drewN (Below.refl _ _) m
    have Hwr := Lib.hid hwr
    clear hwr
    by_cases hlt : (i : Int) < n
    · obtain ⟨ba, oa, rfl, hba, hca⟩ := Ha.out.2 (by omega)
      obtain ⟨bb, ob, rfl, hbb, hcb⟩ := Hb.out.2 (by omega)
      have h1 := (hbel.cell (p := ⟨ba, oa + i, none⟩) hba).trans (hca i (by omega))
      have h2 := (hbel.cell (p := ⟨bb, ob + i, none⟩) hbb).trans (hcb i (by omega))
      clear hca hcb hbel
      generalize nth xs i = c at h1 h2
      go_wp2_with fail
      go_quiet (fail)
      go_wp2_with fail
      go_roundw
      case rel => exact ⟨i + 1, _, by omega, by go_num, by rw [Hwr.out, World.drewN_drewN]⟩
      case measure => simp [intOf]; omega
    · go_wp2_with fail
      go_ret
      exact ⟨rfl, m, Hwr.out⟩
theorem laws_vInts (a b : Option Addr) (n ca cb : Nat) (xs : List Int) (w : World) (hn : n ≤ 4294967296) (ha : Ints w a n xs) (hb : Ints w b n xs) :
    Calls Tryz.prog 21 #[.slice a n ca, .slice b n cb] w fun e w' => e = .returned (.bool true) ∧ Below w.heap.size w w' :=
  (laws_vInts_q a b n ca cb xs w hn ha hb).mono fun _ _ ⟨he, m, hm⟩ => ⟨he, by rw [hm]; exact below_drewN (Below.refl _ _) m⟩
theorem laws_rBig (a : Option Addr) (n cap : Nat) (w : World) :
    Calls Tryz.prog 29 #[.slice a n cap] w fun e w' => e = .returned (.bool (decide ((n : Int) > 65536))) ∧ w = w' := by
  by_cases h : (n : Int) > 65536
  all_goals
    go_enter Tryz.func29, Tryz.ntmps29
    go_wp2_with fail
    go_ret
    exact ⟨by simp [h], rfl⟩
set_option maxHeartbeats 400000 in
/-- Two slices that read alike are found equal. -/
theorem laws_rInts_q (a b : Option Addr) (n ca cb : Nat) (xs : List Int) (w : World) (hn : n ≤ 4294967296) (ha : Ints w a n xs) (hb : Ints w b n xs) :
    Calls Tryz.prog 38 #[.slice a n ca, .slice b n cb] w fun e w' => e = .returned (.bool true) ∧ ∃ m, w' = w.drewN m := by
  have Ha := Lib.hid ha
  have Hb := Lib.hid hb
  clear ha hb
  go_enter Tryz.func38, Tryz.ntmps38
  go_wp2_with fail
  go_loopw [5] (fun v5 wr => ∃ i m : Nat, i ≤ n ∧ v5 = .int .i64 i ∧ wr = w.drewN m) (fun v5 _ => n - (intOf v5).toNat)
  case atStart => exact ⟨0, 0, Nat.zero_le _, rfl, rfl⟩
  case round =>
    obtain ⟨i, m, hi, rfl, hwr⟩ := hrel
    have hbel : Below w.heap.size w wr := by rw [hwr]; exact below_drewN (Below.refl _ _) m
    have Hwr := Lib.hid hwr
    clear hwr
    by_cases hlt : (i : Int) < n
    · obtain ⟨ba, oa, rfl, hba, hca⟩ := Ha.out.2 (by omega)
      obtain ⟨bb, ob, rfl, hbb, hcb⟩ := Hb.out.2 (by omega)
      have h1 := (hbel.cell (p := ⟨ba, oa + i, none⟩) hba).trans (hca i (by omega))
      have h2 := (hbel.cell (p := ⟨bb, ob + i, none⟩) hbb).trans (hcb i (by omega))
      clear hca hcb hbel
      generalize nth xs i = c at h1 h2
      go_wp2_with fail
      go_quiet (fail)
      go_wp2_with fail
      go_roundw
      case rel => exact ⟨i + 1, _, by omega, by go_num, by rw [Hwr.out, World.drewN_drewN]⟩
      case measure => simp [intOf]; omega
    · go_wp2_with fail
      go_ret
      exact ⟨rfl, m, Hwr.out⟩
theorem laws_rInts (a b : Option Addr) (n ca cb : Nat) (xs : List Int) (w : World) (hn : n ≤ 4294967296) (ha : Ints w a n xs) (hb : Ints w b n xs) :
    Calls Tryz.prog 38 #[.slice a n ca, .slice b n cb] w fun e w' => e = .returned (.bool true) ∧ Below w.heap.size w w' :=
  (laws_rInts_q a b n ca cb xs w hn ha hb).mono fun _ _ ⟨he, m, hm⟩ => ⟨he, by rw [hm]; exact below_drewN (Below.refl _ _) m⟩
set_option maxHeartbeats 400000 in
/-- Two slices of pairs that read alike are found equal. -/
theorem laws_rFracs_q (a b : Option Addr) (n ca cb : Nat) (xs : List (Int × Int)) (w : World) (hn : n ≤ 4294967296) (ha : Fr.Ints w a n xs) (hb : Fr.Ints w b n xs) :
    Calls Tryz.prog 35 #[.slice a n ca, .slice b n cb] w fun e w' => e = .returned (.bool true) ∧ ∃ m, w' = w.drewN m := by
  have Ha := Lib.hid ha
  have Hb := Lib.hid hb
  clear ha hb
  go_enter Tryz.func35, Tryz.ntmps35
  go_wp2_with fail
  go_loopw [5] (fun v5 wr => ∃ i m : Nat, i ≤ n ∧ v5 = .int .i64 i ∧ wr = w.drewN m) (fun v5 _ => n - (intOf v5).toNat)
  case atStart => exact ⟨0, 0, Nat.zero_le _, rfl, rfl⟩
  case round =>
    obtain ⟨i, m, hi, rfl, hwr⟩ := hrel
    have hbel : Below w.heap.size w wr := by rw [hwr]; exact below_drewN (Below.refl _ _) m
    have Hwr := Lib.hid hwr
    clear hwr
    by_cases hlt : (i : Int) < n
    · obtain ⟨ba, oa, rfl, hba, hca⟩ := Ha.out.2 (by omega)
      obtain ⟨bb, ob, rfl, hbb, hcb⟩ := Hb.out.2 (by omega)
      have h1 := (hbel.cell (p := ⟨ba, oa + i * 2, none⟩) hba).trans (hca i (by omega)).1
      have h2 := (hbel.cell (p := ⟨ba, oa + i * 2 + 1, none⟩) hba).trans (hca i (by omega)).2
      have h3 := (hbel.cell (p := ⟨bb, ob + i * 2, none⟩) hbb).trans (hcb i (by omega)).1
      have h4 := (hbel.cell (p := ⟨bb, ob + i * 2 + 1, none⟩) hbb).trans (hcb i (by omega)).2
      clear hca hcb hbel
      generalize Fr.at1 xs i = c at h1 h3
      generalize Fr.at2 xs i = d at h2 h4
      have hqA : ∀ W, (Op.equalIn 10000 29 (.agg #[.int .i64 c, .int .i64 d]) (.agg #[.int .i64 c, .int .i64 d])).run Tryz.prog W = .ok true W := fun W => by rw [eqA2]; simp
      go_wp2_with fail
      go_quiet (fail)
      go_wp2_with fail
      go_roundw
      case rel => exact ⟨i + 1, _, by omega, by go_num, by rw [Hwr.out, World.drewN_drewN]⟩
      case measure => simp [intOf]; omega
    · go_wp2_with fail
      go_ret
      exact ⟨rfl, m, Hwr.out⟩
theorem laws_rFracs (a b : Option Addr) (n ca cb : Nat) (xs : List (Int × Int)) (w : World) (hn : n ≤ 4294967296) (ha : Fr.Ints w a n xs) (hb : Fr.Ints w b n xs) :
    Calls Tryz.prog 35 #[.slice a n ca, .slice b n cb] w fun e w' => e = .returned (.bool true) ∧ Below w.heap.size w w' :=
  (laws_rFracs_q a b n ca cb xs w hn ha hb).mono fun _ _ ⟨he, m, hm⟩ => ⟨he, by rw [hm]; exact below_drewN (Below.refl _ _) m⟩
set_option maxHeartbeats 400000 in
theorem laws_rLess (a b c d : Int) (w : World) (h1 : -4611686018427387904 ≤ a * d ∧ a * d ≤ 4611686018427387904) (h2 : -4611686018427387904 ≤ c * b ∧ c * b ≤ 4611686018427387904) :
    Calls Tryz.prog 49 #[.agg #[.int .i64 a, .int .i64 b], .agg #[.int .i64 c, .int .i64 d]] w fun e w' => e = .returned (.bool (decide (a * d < c * b))) ∧ Below w.heap.size w w' := by
  have hbb : Below w.heap.size w ((w.alloc (.cells #[.int .i64 a, .int .i64 b] 29)).alloc (.cells #[.int .i64 c, .int .i64 d] 29)) := (below_new w _).alloc (by simp) _
  have hp := (Pair.new w (.int .i64 a) (.int .i64 b) 29).alloc (.cells #[.int .i64 c, .int .i64 d] 29)
  have hq := Pair.new (w.alloc (.cells #[.int .i64 a, .int .i64 b] 29)) (.int .i64 c) (.int .i64 d) 29
  rw [show (w.alloc (.cells #[.int .i64 a, .int .i64 b] 29)).heap.size = w.heap.size + 1 by simp] at hq
  have c0 := hp.c0
  have c1 := hp.c1
  have d0 := hq.c0
  have d1 := hq.c1
  have k1 : IntKind.i64.wrap (a * d) = a * d := IntWalk.i64_in _ (by omega)
  have k2 : IntKind.i64.wrap (c * b) = c * b := IntWalk.i64_in _ (by omega)
  clear hp hq h1 h2
  have HB := Lib.hid hbb
  clear hbb
  go_enter Tryz.func49, Tryz.ntmps49
  go_wp2_with fail
  go_ret
  exact ⟨rfl, HB.out⟩
set_option maxHeartbeats 400000 in
theorem laws_vLess (a b c d : Int) (w : World) (h1 : -4611686018427387904 ≤ a * d ∧ a * d ≤ 4611686018427387904) (h2 : -4611686018427387904 ≤ c * b ∧ c * b ≤ 4611686018427387904) :
    Calls Tryz.prog 26 #[.agg #[.int .i64 a, .int .i64 b], .agg #[.int .i64 c, .int .i64 d]] w fun e w' => e = .returned (.bool (decide (a * d < c * b))) ∧ Below w.heap.size w w' := by
  have hbb : Below w.heap.size w ((w.alloc (.cells #[.int .i64 a, .int .i64 b] 29)).alloc (.cells #[.int .i64 c, .int .i64 d] 29)) := (below_new w _).alloc (by simp) _
  have hp := (Pair.new w (.int .i64 a) (.int .i64 b) 29).alloc (.cells #[.int .i64 c, .int .i64 d] 29)
  have hq := Pair.new (w.alloc (.cells #[.int .i64 a, .int .i64 b] 29)) (.int .i64 c) (.int .i64 d) 29
  rw [show (w.alloc (.cells #[.int .i64 a, .int .i64 b] 29)).heap.size = w.heap.size + 1 by simp] at hq
  have c0 := hp.c0
  have c1 := hp.c1
  have d0 := hq.c0
  have d1 := hq.c1
  have k1 : IntKind.i64.wrap (a * d) = a * d := IntWalk.i64_in _ (by omega)
  have k2 : IntKind.i64.wrap (c * b) = c * b := IntWalk.i64_in _ (by omega)
  clear hp hq h1 h2
  have HB := Lib.hid hbb
  clear hbb
  go_enter Tryz.func26, Tryz.ntmps26
  go_wp2_with fail
  go_ret
  exact ⟨rfl, HB.out⟩
end Go.Proofs.YtnbomleieianoaaGreat
