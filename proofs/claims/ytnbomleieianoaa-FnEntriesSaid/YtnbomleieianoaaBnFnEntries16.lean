/- Contracts and plain laws for the statement FnEntries, part 16. No conditions but those stated in each. -/
import Derived.Test.YtnbomleieianoaaBnFnEntries11
import Derived.Test.YtnbomleieianoaaBnFnEntries15
import Derived.Test.YtnbomleieianoaaBnFnEntries14
import Derived.ChangeKeysEq
import Derived.Test.YtnbomleieianoaaBnFnEntries13
import Derived.Test.YtnbomleieianoaaBnFnEntries18
import Derived.Test.YtnbomleieianoaaBnFnEntries2
import Derived.Test.YtnbomleieianoaaBnFnEntries19
import Derived.Test.YtnbomleieianoaaBnFnEntries6
/- Plain laws and contracts: the level with the greatest mean, by the program and by the reference. No conditions but those stated. -/
namespace Go.Proofs.Ytnbomleieianoaa
open Go.RowKit

theorem stop_fir {ps : List Int} (hp : Pa ps) (S : Int → Bool) : ∀ x, x < ps.length → stop ps (fun y => firB ps S y.toNat) x = stop ps S x := by
  refine hp.above ?_ ?_
  · rw [stop_zero, stop_zero]
    have := (beh_zero ps S).2
    simp only [Int.toNat_zero, this]
  · intro x h1 h2 ih
    rw [stop_up hp _ h1 h2, stop_up hp S h1 h2, ih]
    by_cases hb : 0 ≤ stop ps S (par ps x)
    · rw [if_pos hb, if_pos hb]
    · rw [if_neg hb, if_neg hb, Int.toNat_natCast, ((beh_up hp S h1 h2).2 (decide_eq_false hb)).2]
theorem asc_ris {l : List Int} (h : l.Pairwise (· < ·)) : risB l = true := ris_t fun i h1 hi => by
  rw [List.pairwise_iff_getElem] at h
  rw [nth_lt hi, nth_lt (by omega)]
  exact h (i - 1) i (by omega) hi (by omega)
theorem firsts_stop {ps : List Int} (hp : Pa ps) {S : Int → Bool} (hS : ∀ x : Nat, x < ps.length → endB ps x = true → S (x : Int) = true) : stopB ps (firsts ps S) = true := by
  have hh : ∀ x, x < ps.length → stop ps (hasB (firsts ps S)) x = stop ps S x := fun x hx => by
    rw [← stop_fir hp S x hx]
    refine stop_congr hp (fun y hy => ?_) hx
    rw [Int.toNat_natCast, Bool.eq_iff_iff, has_mem, firsts, mem_filt]
    constructor
    · rintro ⟨i, _, h2, h3⟩
      obtain rfl : i = y := by omega
      exact h2
    · intro h
      exact ⟨y, hy, h, rfl⟩
  have h1 : risB (firsts ps S) = true := asc_ris (filt_asc _ _)
  rw [← rule_stop hp, ruleB, h1]
  have h2 : allIn (firsts ps S) 0 ((ps.length : Int) - 1) = true := all_t fun i hi => by
    obtain ⟨j, h1, _, h3⟩ := nth_filt hi
    rw [firsts] at *
    rw [h3]
    exact inB_mk (by omega) (by omega)
  have h3 : ((List.range (ends ps).length).all fun i => decide (0 ≤ stop ps (hasB (firsts ps S)) (nth (ends ps) i).toNat)) = true := all_t fun i hi => by
    obtain ⟨e, h1, h2, h3⟩ := end_nth hi
    rw [h3, Int.toNat_natCast, hh e h1]
    exact decide_eq_true (stop_end hp S h1 (hS e h1 h2))
  have h4 : ((List.range (firsts ps S).length).all fun i => stop ps (hasB (firsts ps S)) (nth (firsts ps S) i).toNat == nth (firsts ps S) i) = true := all_t fun i hi => by
    obtain ⟨j, h1, h2, h3⟩ := nth_filt hi
    have h3' : nth (firsts ps S) i = (j : Int) := h3
    rw [h3', Int.toNat_natCast, hh j h1]
    exact h2
  rw [h2, h3, h4]; rfl
/-- Fractions in lowest terms of one denominator. -/
theorem cut_parts (a : Int) {s : Int} (hs : 0 < s) : ∃ g : Int, 0 < g ∧ a = g * nm a s ∧ s = g * dn a s := by
  have hg := gcdI_pos (a := a) (b := s) (by omega)
  refine ⟨gcdI a s, hg, ?_, ?_⟩
  · rw [nm, if_neg (by omega)]; exact (Int.mul_ediv_cancel' (gcdI_dvd_l a s)).symm
  · rw [dn, if_neg (by omega)]; exact (Int.mul_ediv_cancel' (gcdI_dvd_r a s)).symm
theorem cut_lt (a b : Int) {s : Int} (hs : 0 < s) : (nm a s * dn b s < nm b s * dn a s) ↔ a < b := by
  obtain ⟨g, hg, ha, hs1⟩ := cut_parts a hs
  obtain ⟨h, hh, hb, hs2⟩ := cut_parts b hs
  generalize nm a s = A at *
  generalize dn a s = D at *
  generalize nm b s = B at *
  generalize dn b s = E at *
  have hgh : 0 < g * h := Int.mul_pos hg hh
  have e1 : A * E * (g * h) = a * s := by rw [show A * E * (g * h) = (g * A) * (h * E) by grind, ← ha, ← hs2]
  have e2 : B * D * (g * h) = b * s := by rw [show B * D * (g * h) = (h * B) * (g * D) by grind, ← hb, ← hs1]
  constructor
  · intro hl
    have := Int.mul_lt_mul_of_pos_right hl hgh
    rw [e1, e2] at this
    exact Int.lt_of_mul_lt_mul_right this (by omega)
  · intro hl
    have := Int.mul_lt_mul_of_pos_right hl hs
    rw [← e1, ← e2] at this
    exact Int.lt_of_mul_lt_mul_right this (by omega)
theorem cut_eq {a b s : Int} (hs : 0 < s) (h1 : nm a s = nm b s) (h2 : dn a s = dn b s) : a = b := by
  have hab := cut_lt a b hs
  have hba := cut_lt b a hs
  rw [h1, h2] at hab
  rw [h1, h2] at hba
  omega
/-- The best one of the levels that the program looks at, before the j-th. -/
def blL (T : Int → Int) (l : List Int) : Nat → Int
  | 0 => -999
  | j + 1 => if hasB l ((j : Int) - 1000) && decide (T (blL T l j) < T ((j : Int) - 999)) then (j : Int) - 999 else blL T l j
/-- The best one of the levels of the first payments. -/
def slL (T : Int → Int) (l : List Int) : Nat → Int
  | 0 => -999
  | x + 1 => if decide (nth l x + 1 ≤ 999) && (decide (T (slL T l x) < T (nth l x + 1)) || (decide (T (nth l x + 1) = T (slL T l x)) && decide (nth l x + 1 < slL T l x))) then nth l x + 1 else slL T l x
def BestOf (T : Int → Int) (C : Int → Prop) (b : Int) : Prop := C b ∧ ∀ c, C c → T c < T b ∨ (T c = T b ∧ b ≤ c)
theorem best_one {T : Int → Int} {C : Int → Prop} {a b : Int} (ha : BestOf T C a) (hb : BestOf T C b) : a = b := by
  have h1 := ha.2 b hb.1
  have h2 := hb.2 a ha.1
  omega
theorem best_iff {T : Int → Int} {C D : Int → Prop} {a : Int} (h : BestOf T C a) (hc : ∀ x, C x ↔ D x) : BestOf T D a := ⟨(hc a).1 h.1, fun c hd => h.2 c ((hc c).2 hd)⟩
theorem blL_best (T : Int → Int) (l : List Int) : ∀ j : Nat, BestOf T (fun c => c = -999 ∨ (-999 ≤ c ∧ c < (j : Int) - 999 ∧ hasB l (c - 1) = true)) (blL T l j)
  | 0 => ⟨.inl rfl, fun c hc => by
    rcases hc with rfl | h
    · exact .inr ⟨rfl, by rw [blL]; omega⟩
    · omega⟩
  | j + 1 => by
    have ih := blL_best T l j
    rw [blL]
    by_cases hh : hasB l ((j : Int) - 1000) = true
    · by_cases hlt : T (blL T l j) < T ((j : Int) - 999)
      · rw [if_pos (by rw [hh, decide_eq_true hlt]; rfl)]
        refine ⟨.inr ⟨by omega, by omega, by rw [show (j : Int) - 999 - 1 = (j : Int) - 1000 by omega]; exact hh⟩, fun c hc => ?_⟩
        rcases hc with rfl | ⟨h1, h2, h3⟩
        · have := ih.2 (-999) (.inl rfl); omega
        · by_cases e : c = (j : Int) - 999
          · subst e; exact .inr ⟨rfl, Int.le_refl _⟩
          · have := ih.2 c (.inr ⟨h1, by omega, h3⟩); omega
      · rw [if_neg (by rw [decide_eq_false hlt]; simp)]
        refine ⟨?_, fun c hc => ?_⟩
        · rcases ih.1 with h | ⟨h1, h2, h3⟩
          · exact .inl h
          · exact .inr ⟨h1, by omega, h3⟩
        · rcases hc with rfl | ⟨h1, h2, h3⟩
          · exact ih.2 (-999) (.inl rfl)
          · by_cases e : c = (j : Int) - 999
            · subst e
              rcases Int.lt_or_eq_of_le (Int.not_lt.1 hlt) with h | h
              · exact .inl h
              · refine .inr ⟨h, ?_⟩
                rcases ih.1 with h | ⟨_, h2, _⟩ <;> omega
            · exact ih.2 c (.inr ⟨h1, by omega, h3⟩)
    · have hh := Bool.eq_false_iff.2 hh
      rw [if_neg (by rw [hh]; simp)]
      refine best_iff ih fun c => ?_
      constructor
      · rintro (h | ⟨h1, h2, h3⟩)
        · exact .inl h
        · exact .inr ⟨h1, by omega, h3⟩
      · rintro (h | ⟨h1, h2, h3⟩)
        · exact .inl h
        · refine .inr ⟨h1, ?_, h3⟩
          by_cases e : c = (j : Int) - 999
          · subst e
            rw [show (j : Int) - 999 - 1 = (j : Int) - 1000 by omega, hh] at h3; cases h3
          · omega
theorem slL_best (T : Int → Int) (l : List Int) : ∀ k : Nat, BestOf T (fun c => c = -999 ∨ (∃ x : Nat, x < k ∧ c = nth l x + 1 ∧ c ≤ 999)) (slL T l k)
  | 0 => ⟨.inl rfl, fun c hc => by
    rcases hc with rfl | ⟨x, h, _⟩
    · exact .inr ⟨rfl, by rw [slL]; omega⟩
    · omega⟩
  | k + 1 => by
    have ih := slL_best T l k
    rw [slL]
    by_cases h9 : nth l k + 1 ≤ 999
    · by_cases hw : T (slL T l k) < T (nth l k + 1) ∨ (T (nth l k + 1) = T (slL T l k) ∧ nth l k + 1 < slL T l k)
      · rw [if_pos (by rw [decide_eq_true h9]; simpa using hw)]
        refine ⟨.inr ⟨k, by omega, rfl, h9⟩, fun c hc => ?_⟩
        rcases hc with rfl | ⟨x, h1, h2, h3⟩
        · have := ih.2 (-999) (.inl rfl); omega
        · by_cases e : x = k
          · subst e; subst h2; exact .inr ⟨rfl, Int.le_refl _⟩
          · have := ih.2 c (.inr ⟨x, by omega, h2, h3⟩); omega
      · rw [if_neg (by rw [decide_eq_true h9]; simpa using hw)]
        refine ⟨?_, fun c hc => ?_⟩
        · rcases ih.1 with h | ⟨x, h1, h2⟩
          · exact .inl h
          · exact .inr ⟨x, by omega, h2⟩
        · rcases hc with rfl | ⟨x, h1, h2, h3⟩
          · exact ih.2 (-999) (.inl rfl)
          · by_cases e : x = k
            · subst e; subst h2; omega
            · exact ih.2 c (.inr ⟨x, by omega, h2, h3⟩)
    · rw [if_neg (by rw [decide_eq_false h9]; simp)]
      refine best_iff ih fun c => ?_
      constructor
      · rintro (h | ⟨x, h1, h2⟩)
        · exact .inl h
        · exact .inr ⟨x, by omega, h2⟩
      · rintro (h | ⟨x, h1, h2, h3⟩)
        · exact .inl h
        · by_cases e : x = k
          · subst e; omega
          · exact .inr ⟨x, by omega, h2, h3⟩
theorem best_same (T : Int → Int) {l : List Int} (hl : ∀ i, -999 ≤ nth l i ∧ nth l i ≤ 999) : blL T l 1999 = slL T l l.length := by
  refine best_one (best_iff (blL_best T l 1999) fun c => ?_) (slL_best T l l.length)
  constructor
  · rintro (h | ⟨h1, h2, h3⟩)
    · exact .inl h
    · obtain ⟨i, hi, hie⟩ := hasB_mem h3
      exact .inr ⟨i, hi, by omega, by omega⟩
  · rintro (h | ⟨x, h1, h2, h3⟩)
    · exact .inl h
    · have := hl x
      exact .inr ⟨by omega, by omega, has_t h1 (by omega)⟩
/-- The sum behind the mean of the rule of a level. -/
def lvT (ps ws l : List Int) (lev : Int) : Int := rmS ps ws l (firsts ps (fS (levB ps l lev)))
theorem lev_stop {ps l : List Int} (hp : Pa ps) (lev : Int) : stopB ps (firsts ps (fS (levB ps l lev))) = true := firsts_stop hp fun x _ he => by
  rw [fS, Int.toNat_natCast, levB, he]; rfl
def lvV (ps ws l : List Int) : Int := if paysB ps ws l then slL (lvT ps ws l) l l.length else 0
def lvN (ps ws l : List Int) : Int := if paysB ps ws l then nm (lvT ps ws l (lvV ps ws l)) (nth (sums ps ws) 0) else 0
def lvD (ps ws l : List Int) : Int := if paysB ps ws l then dn (lvT ps ws l (lvV ps ws l)) (nth (sums ps ws) 0) else 0
theorem lv_no {ps ws l : List Int} (h : paysB ps ws l = false) : lvV ps ws l = 0 ∧ lvN ps ws l = 0 ∧ lvD ps ws l = 0 := by
  unfold lvN lvD; rw [lvV, h]; exact ⟨rfl, rfl, rfl⟩
theorem lv_yes {ps ws l : List Int} (h : paysB ps ws l = true) : lvV ps ws l = slL (lvT ps ws l) l l.length ∧ lvN ps ws l = nm (lvT ps ws l (lvV ps ws l)) (nth (sums ps ws) 0) ∧ lvD ps ws l = dn (lvT ps ws l (lvV ps ws l)) (nth (sums ps ws) 0) := by
  unfold lvN lvD; rw [lvV, h]; exact ⟨rfl, rfl, rfl⟩
theorem lvT_bd {ps ws l : List Int} (h : paysB ps ws l = true) (lev : Int) : -11508480 ≤ lvT ps ws l lev ∧ lvT ps ws l lev ≤ 11508480 := by
  obtain ⟨hT, _, _, _, hl⟩ := paysB_t h
  have h1 := mS_bd (rule := firsts ps (fS (levB ps l lev))) hT hl (firsts ps (fS (levB ps l lev))).length
  have h2 := firsts_length ps (fS (levB ps l lev))
  have h3 := hT.toPa.n24
  rw [lvT, rmS]
  omega
theorem eqA2 (a b c d : Int) (w : World) : (Op.equalIn 10000 48 (.agg #[.int .i64 a, .int .i64 b]) (.agg #[.int .i64 c, .int .i64 d])).run Try.prog w = .ok (a == c && b == d) w := by
  have hu : Try.prog.underlying 48 = some (.array 2 3) := by kernel_rfl
  have hi : Try.prog.underlying 3 = some (.int .i64) := by kernel_rfl
  have hc : Try.prog.cellsOf 3 = 1 := by kernel_rfl
  have hp : Try.prog.plainKey 3 = true := by kernel_rfl
  obtain ⟨i, hinfo⟩ : ∃ i, Try.prog.info? 3 = some i := by
    have h := info_int
    cases h2 : Try.prog.info? 3 with
    | none => rw [h2] at h; cases h
    | some i => exact ⟨i, rfl⟩
  rw [show (10000 : Nat) = 9999 + 1 from rfl, run_equalIn_array w 9999 _ _ hu hinfo, hc, show List.range 2 = [0, 1] from rfl]
  have e1 : ∀ W, (Op.equalIn 9999 3 (.int .i64 a) (.int .i64 c)).run Try.prog W = .ok (a == c) W := fun W => run_equalIn_int W 9998 _ _ _ _ _ hi
  have e2 : ∀ W, (Op.equalIn 9999 3 (.int .i64 b) (.int .i64 d)).run Try.prog W = .ok (b == d) W := fun W => run_equalIn_int W 9998 _ _ _ _ _ hi
  have p1 : ∀ (x y : Int) W, (part 3 #[.int .i64 x, .int .i64 y] (0 * 1)).run Try.prog W = .ok (.int .i64 x) W := fun x y W => run_part_plain W hp rfl
  have p2 : ∀ (x y : Int) W, (part 3 #[.int .i64 x, .int .i64 y] (1 * 1)).run Try.prog W = .ok (.int .i64 y) W := fun x y W => run_part_plain W hp rfl
  generalize (a == c) = r1 at *
  generalize (b == d) = r2 at *
  cases r1
  · simp only [Op.eqItems, Sem.run_bind, p1, e1, Result.andThen_ok, Sem.run_ite, Bool.not_false, if_true, Sem.run_pure, Bool.false_and]
  · cases r2
    · simp only [Op.eqItems, Sem.run_bind, p1, p2, e1, e2, Result.andThen_ok, Sem.run_ite, Bool.not_true, Bool.not_false, Bool.false_eq_true, if_true, if_false, Sem.run_pure, Bool.true_and]
    · simp only [Op.eqItems, Sem.run_bind, p1, p2, e1, e2, Result.andThen_ok, Sem.run_ite, Bool.not_true, Bool.false_eq_true, if_false, Sem.run_pure, Bool.true_and]
theorem Pair.st2 {w : World} {g : Nat} {x y : Value} (h : Pair w g x y) (x' y' : Value) : Pair ((w.setCell ⟨g, 0, none⟩ x').setCell ⟨g, 1, none⟩ y') g x' y' :=
  ⟨(h.set x' y').1, (h.set x' y').2, by simpa using h.f0, by simpa using h.f1⟩
theorem Pair.fr2 {w : World} {g b : Nat} {x y : Value} (h : Pair w g x y) (hne : b ≠ g) (x' y' : Value) : Pair ((w.setCell ⟨b, 0, none⟩ x').setCell ⟨b, 1, none⟩ y') g x y := (h.far hne x').far hne y'
theorem cut_bd (a : Int) {s : Int} (hs : 0 < s) : (nm a s).natAbs ≤ a.natAbs ∧ 1 ≤ dn a s ∧ dn a s ≤ s := by
  obtain ⟨g, hg, h1, h2⟩ := cut_parts a hs
  have h3 := dn_pos a s (by omega)
  refine ⟨?_, h3, ?_⟩
  · have : a.natAbs = g.natAbs * (nm a s).natAbs := by rw [← Int.natAbs_mul, ← h1]
    rw [this]
    exact Nat.le_mul_of_pos_left _ (by omega)
  · have : 1 * dn a s ≤ g * dn a s := Int.mul_le_mul_of_nonneg_right (by omega) (by omega)
    omega
theorem cut_prod {a b s : Int} (hs : 0 < s) (hs2 : s ≤ 480) (ha : -11508480 ≤ a ∧ a ≤ 11508480) : -1000000000000 ≤ nm a s * dn b s ∧ nm a s * dn b s ≤ 1000000000000 := by
  obtain ⟨h1, _, _⟩ := cut_bd a hs
  obtain ⟨_, h2, h3⟩ := cut_bd b hs
  have := mul_abs (B := 11508480) (U := 480) (x := nm a s) (u := dn b s) (by omega) (by omega) (by omega)
  omega
def cmpI (x y : Int) : Int := if x < y then -1 else if x > y then 1 else 0
theorem cmp_gt {x y : Int} : (cmpI x y > 0) ↔ y < x := by
  unfold cmpI
  split
  · omega
  · split <;> omega
theorem KeepR.set2 {u w : World} {g : Nat} {x y : Value} (h : KeepR u w) (hg : u.heap.size ≤ g) : KeepR u ((w.setCell ⟨g, 0, none⟩ x).setCell ⟨g, 1, none⟩ y) := (Below.setCell h hg x).setCell hg y
end Go.Proofs.Ytnbomleieianoaa

/- Plain law: what a number on the nodes of a tree is together at the nodes of a stopping, against what it is at the root. Nothing of the program. -/
namespace Go.Proofs.Ytnbomleieianoaa

theorem kidSum_zero {ps : List Int} {f : Nat → Int} {x : Nat} : ∀ {k : Nat}, (∀ y, y < k → nth ps y = x → f y = 0) → kidSum ps f x k = 0
  | 0, _ => rfl
  | k + 1, h => by
    have ih := kidSum_zero (k := k) fun y hy => h y (by omega)
    by_cases e : nth ps k = x
    · rw [kidSum_t e, ih, h k (by omega) e]; rfl
    · rw [kidSum_f e, ih]
theorem kid_par {ps : List Int} (h : Pa ps) {x y : Nat} (hy : y < ps.length) (e : nth ps y = x) : 1 ≤ y ∧ par ps y = x := by
  have := kids_lt h hy e
  exact ⟨by omega, by unfold par; rw [e]; simp⟩
/-- Sums over the numbers below n. -/
def sumR (F : Nat → Int) (n : Nat) : Int := sumOf id ((List.range n).map F)
theorem sumR_zero (F : Nat → Int) : sumR F 0 = 0 := rfl
theorem sumR_succ (F : Nat → Int) (n : Nat) : sumR F (n + 1) = sumR F n + F n := by
  unfold sumR; rw [List.range_succ, List.map_append, sumOf_append]; simp [sumOf]
theorem sumR_le {F G : Nat → Int} : ∀ {n : Nat}, (∀ x, x < n → F x ≤ G x) → sumR F n ≤ sumR G n
  | 0, _ => Int.le_refl _
  | n + 1, h => by
    have ih := sumR_le (n := n) fun x hx => h x (by omega)
    have := h n (by omega)
    rw [sumR_succ, sumR_succ]; omega
theorem sumR_congr {F G : Nat → Int} : ∀ {n : Nat}, (∀ x, x < n → F x = G x) → sumR F n = sumR G n
  | 0, _ => rfl
  | n + 1, h => by rw [sumR_succ, sumR_succ, sumR_congr (n := n) fun x hx => h x (by omega), h n (by omega)]
theorem sumR_add (F G : Nat → Int) : ∀ n : Nat, sumR (fun x => F x + G x) n = sumR F n + sumR G n
  | 0 => rfl
  | n + 1 => by rw [sumR_succ, sumR_succ, sumR_succ, sumR_add F G n]; omega
theorem sumR_eq {F G : Nat → Int} : ∀ {n : Nat}, (∀ x, x < n → F x ≤ G x) → sumR F n = sumR G n → ∀ x, x < n → F x = G x
  | 0, _, _, x, hx => by omega
  | n + 1, h, he, x, hx => by
    have h1 := sumR_le (n := n) fun x hx => h x (by omega)
    have h2 := h n (by omega)
    rw [sumR_succ, sumR_succ] at he
    by_cases e : x = n
    · subst e; omega
    · exact sumR_eq (n := n) (fun x hx => h x (by omega)) (by omega) x (by omega)
theorem sumOf_filt (f : Int → Int) (p : Nat → Bool) : ∀ n : Nat, sumOf f (filt p n) = sumR (fun x => if p x then f x else 0) n
  | 0 => rfl
  | n + 1 => by
    rw [sumR_succ, ← sumOf_filt f p n]
    cases hp : p n
    · rw [filt_f hp]; simp
    · rw [filt_t hp, sumOf_append]; simp [sumOf]
/-- f where S is so for the first time, 0 elsewhere. -/
def atF (ps : List Int) (S : Int → Bool) (f : Nat → Int) (x : Nat) : Int := if firB ps S x then f x else 0
def atL (ps : List Int) (S : Int → Bool) (f : Nat → Int) : List Int := (List.range ps.length).map (atF ps S f)
/-- The sum of f over the nodes at which S is so for the first time. -/
def stS (ps : List Int) (S : Int → Bool) (f : Nat → Int) : Int := sumR (atF ps S f) ps.length
theorem atL_length (ps : List Int) (S : Int → Bool) (f : Nat → Int) : (atL ps S f).length = ps.length := by simp [atL]
theorem nth_atL {ps : List Int} {S : Int → Bool} {f : Nat → Int} {x : Nat} (h : x < ps.length) : nth (atL ps S f) x = atF ps S f x := by rw [atL, nth_map_range h]
theorem atG_beh {ps : List Int} {S : Int → Bool} {f : Nat → Int} (h : Pa ps) : ∀ x, x < ps.length → 1 ≤ x → behB ps S (par ps x) = true → nth (gathA ps (atL ps S f)) x = 0 := by
  refine h.below ?_
  intro x hx ih h1 hb
  have hu := (beh_up h S h1 hx).1 hb
  rw [gathA_kids h (atL_length ps S f), nth_atL hx, atF, hu.2, kidSum_zero]
  · rfl
  · intro y hy e
    have hk := kid_par h hy e
    exact ih y hy e hk.1 (by rw [hk.2]; exact hu.1)
theorem beh_fir {ps : List Int} (h : Pa ps) (S : Int → Bool) {x : Nat} (hx : x < ps.length) (hc : x = 0 ∨ behB ps S (par ps x) = false) : behB ps S x = S x ∧ firB ps S x = S x := by
  by_cases h0 : x = 0
  · subst h0; exact beh_zero ps S
  · rcases hc with hc | hc
    · omega
    · exact (beh_up h S (by omega) hx).2 hc
theorem beh_S {ps : List Int} (h : Pa ps) {S : Int → Bool} {x : Nat} (hx : x < ps.length) (hb : behB ps S x = false) : S x = false := by
  by_cases h0 : x = 0
  · subst h0; rw [← hb]; exact (beh_zero ps S).1.symm
  · cases hp : behB ps S (par ps x)
    · rw [← hb]; exact ((beh_up h S (by omega) hx).2 hp).1.symm
    · have := ((beh_up h S (by omega) hx).1 hp).1
      rw [hb] at this; cases this
theorem fir_S {ps : List Int} (h : Pa ps) {S : Int → Bool} {x : Nat} (hx : x < ps.length) (hb : firB ps S x = true) : S x = true := by
  by_cases h0 : x = 0
  · subst h0; rw [← hb]; exact (beh_zero ps S).2.symm
  · cases hp : behB ps S (par ps x)
    · rw [← hb]; exact ((beh_up h S (by omega) hx).2 hp).2.symm
    · have := ((beh_up h S (by omega) hx).1 hp).2
      rw [hb] at this; cases this
theorem stS_root {ps : List Int} (h : Pa ps) (S : Int → Bool) (f : Nat → Int) : stS ps S f = nth (gathA ps (atL ps S f)) 0 := by
  rw [gathA_root h (atL_length _ _ _)]; rfl
/-- Where f is no less than what its children have together, it is no less at the root than at a stopping. -/
theorem stS_le {ps : List Int} (h : Pa ps) {S : Int → Bool} {f : Nat → Int} (hf : ∀ x, x < ps.length → behB ps S x = false → kidSum ps f x ps.length ≤ f x) : stS ps S f ≤ f 0 := by
  rw [stS_root h]
  refine h.below (P := fun x => (x = 0 ∨ behB ps S (par ps x) = false) → nth (gathA ps (atL ps S f)) x ≤ f x) ?_ 0 (by have := h.n1; omega) (.inl rfl)
  intro x hx ih hc
  have hbf := beh_fir h S hx hc
  rw [gathA_kids h (atL_length _ _ _), nth_atL hx, atF, hbf.2]
  cases hS : S x
  · have h1 := hf x hx (hbf.1.trans hS)
    have h2 := kidSum_le (ps := ps) (f := fun y => nth (gathA ps (atL ps S f)) y) (g := f) (x := x) (k := ps.length) fun y hy e => ih y hy e (.inr (by rw [(kid_par h hy e).2, hbf.1, hS]))
    simp only [Bool.false_eq_true, if_false]; omega
  · rw [kidSum_zero fun y hy e => atG_beh h y hy (kid_par h hy e).1 (by rw [(kid_par h hy e).2, hbf.1, hS])]
    simp
theorem stS_ge {ps : List Int} (h : Pa ps) {S : Int → Bool} {f : Nat → Int} (hf : ∀ x, x < ps.length → behB ps S x = false → f x ≤ kidSum ps f x ps.length) : f 0 ≤ stS ps S f := by
  rw [stS_root h]
  refine h.below (P := fun x => (x = 0 ∨ behB ps S (par ps x) = false) → f x ≤ nth (gathA ps (atL ps S f)) x) ?_ 0 (by have := h.n1; omega) (.inl rfl)
  intro x hx ih hc
  have hbf := beh_fir h S hx hc
  rw [gathA_kids h (atL_length _ _ _), nth_atL hx, atF, hbf.2]
  cases hS : S x
  · have h1 := hf x hx (hbf.1.trans hS)
    have h2 := kidSum_le (ps := ps) (f := f) (g := fun y => nth (gathA ps (atL ps S f)) y) (x := x) (k := ps.length) fun y hy e => ih y hy e (.inr (by rw [(kid_par h hy e).2, hbf.1, hS]))
    simp only [Bool.false_eq_true, if_false]; omega
  · rw [kidSum_zero fun y hy e => atG_beh h y hy (kid_par h hy e).1 (by rw [(kid_par h hy e).2, hbf.1, hS])]
    simp
theorem stS_eq {ps : List Int} (h : Pa ps) {S : Int → Bool} {f : Nat → Int} (hf : ∀ x, x < ps.length → behB ps S x = false → kidSum ps f x ps.length = f x) : stS ps S f = f 0 :=
  Int.le_antisymm (stS_le h fun x hx hb => Int.le_of_eq (hf x hx hb)) (stS_ge h fun x hx hb => Int.le_of_eq (hf x hx hb).symm)
theorem stS_mono {ps : List Int} {S : Int → Bool} {f g : Nat → Int} (hf : ∀ x, x < ps.length → firB ps S x = true → f x ≤ g x) : stS ps S f ≤ stS ps S g := sumR_le fun x hx => by
  unfold atF
  cases hb : firB ps S x
  · simp
  · simpa using hf x hx hb
theorem stS_congr {ps : List Int} {S : Int → Bool} {f g : Nat → Int} (hf : ∀ x, x < ps.length → firB ps S x = true → f x = g x) : stS ps S f = stS ps S g := sumR_congr fun x hx => by
  unfold atF
  cases hb : firB ps S x
  · simp
  · simpa using hf x hx hb
theorem stS_same {ps : List Int} {S : Int → Bool} {f g : Nat → Int} (hf : ∀ x, x < ps.length → firB ps S x = true → f x ≤ g x) (he : stS ps S f = stS ps S g) {x : Nat} (hx : x < ps.length) (hb : firB ps S x = true) : f x = g x := by
  have := sumR_eq (F := atF ps S f) (G := atF ps S g) (n := ps.length) (fun x hx => by
    unfold atF
    cases hb : firB ps S x
    · simp
    · simpa using hf x hx hb) he x hx
  unfold atF at this
  rw [hb] at this
  simpa using this
/-- The stops of a rule that is gathered from S are those of S. -/
theorem stop_firsts {ps : List Int} (hp : Pa ps) (S : Int → Bool) {x : Nat} (hx : x < ps.length) : stop ps (hasB (firsts ps S)) x = stop ps S x := by
  rw [← stop_fir hp S x hx]
  refine stop_congr hp (fun y hy => ?_) hx
  rw [Int.toNat_natCast, Bool.eq_iff_iff, has_mem, firsts, mem_filt]
  constructor
  · rintro ⟨i, _, h2, h3⟩
    obtain rfl : i = y := by omega
    exact h2
  · intro h
    exact ⟨y, hy, h, rfl⟩
theorem stopL_has {S : Int → Bool} : ∀ xs : List Int, stopL S xs = -1 ∨ S (stopL S xs) = true
  | [] => .inl rfl
  | x :: xs => by
    rw [stopL]
    cases h : S x
    · rw [if_neg Bool.false_ne_true]; exact stopL_has xs
    · rw [if_pos rfl]; exact .inr h
theorem stop_has {ps : List Int} {S : Int → Bool} {x : Nat} (h : 0 ≤ stop ps S x) : S (stop ps S x) = true := by
  rcases stopL_has (S := S) (way ps x) with e | e
  · have : stop ps S x = -1 := e
    omega
  · exact e
theorem rule_end {ps rule : List Int} (hp : Pa ps) (h : stopB ps rule = true) {x : Nat} (hx : x < ps.length) (he : endB ps x = true) : behB ps (hasB rule) x = true := by
  obtain ⟨s, _, h2, _⟩ := sole_mem h hp hx he
  exact decide_eq_true (by rw [h2]; omega)
theorem rule_inner {ps rule : List Int} (hp : Pa ps) (h : stopB ps rule = true) {x : Nat} (hx : x < ps.length) (hb : behB ps (hasB rule) x = false) : endB ps x = false := by
  cases he : endB ps x
  · rfl
  · rw [rule_end hp h hx he] at hb; cases hb
/-- A rule is the list of the nodes at which it stops first. -/
theorem rule_firsts {ps rule : List Int} (hp : Pa ps) (h : stopB ps rule = true) : rule = firsts ps (hasB rule) := by
  have h0 := h
  rw [← rule_stop hp, ruleB, Bool.and_eq_true] at h0
  have hpt := stop_parts h
  refine asc_ext (ris_asc hpt.1) (filt_asc _ _) fun z => ?_
  rw [firsts, mem_filt]
  constructor
  · intro hz
    obtain ⟨i, hi, rfl⟩ := List.mem_iff_getElem.1 hz
    have h1 := all_get h0.2 hi
    have h2 := all_in hpt.2 hi
    rw [← nth_lt hi]
    refine ⟨(nth rule i).toNat, by omega, ?_, by omega⟩
    rw [firB, Int.toNat_of_nonneg h2.1]
    exact h1
  · rintro ⟨i, hi, hf, rfl⟩
    have hs : stop ps (hasB rule) i = i := by simpa [firB] using hf
    have := stop_has (S := hasB rule) (ps := ps) (x := i) (by omega)
    rw [hs] at this
    exact has_mem.1 this
theorem mS_take (s l rule : List Int) : ∀ k : Nat, k ≤ rule.length → mS s l rule k = sumOf (fun x => nth s x.toNat * nth l x.toNat) (rule.take k)
  | 0, _ => rfl
  | k + 1, hk => by rw [mS, mS_take s l rule k (by omega), sumOf_take_succ _ _ _ (by omega)]
/-- The sum behind the mean of a rule. -/
theorem rm_firsts (ps ws l : List Int) (S : Int → Bool) : rmS ps ws l (firsts ps S) = stS ps S (ownW ps ws l) := by
  rw [rmS, mS_take _ _ _ _ (Nat.le_refl _), List.take_length, firsts, sumOf_filt]
  exact sumR_congr fun x _ => by rw [Int.toNat_natCast]; rfl
theorem rm_rule {ps ws l rule : List Int} (hp : Pa ps) (h : stopB ps rule = true) : rmS ps ws l rule = stS ps (hasB rule) (ownW ps ws l) := by
  have := rm_firsts ps ws l (hasB rule)
  rwa [← rule_firsts hp h] at this
/-- What stops at more nodes stops no later. -/
theorem stop_mono {ps : List Int} (h : Pa ps) {S S' : Int → Bool} (hS : ∀ y : Nat, y < ps.length → S' y = true → S y = true) : ∀ x, x < ps.length → 0 ≤ stop ps S' x → 0 ≤ stop ps S x ∧ stop ps S x ≤ stop ps S' x := by
  refine h.above ?_ ?_
  · intro h0
    rw [stop_zero] at h0 ⊢
    rw [stop_zero]
    have h1 := hS 0 (by have := h.n1; omega)
    cases hs : S' 0
    · rw [hs] at h0; simp at h0
    · have h2 : S 0 = true := h1 hs
      rw [h2]; simp
  · intro x h1 h2 ih h0
    have hlow := stop_low h S (par ps x) (by have := (h.upN h1 h2).2; omega)
    have hpar := (h.upN h1 h2).2
    rw [stop_up h S' h1 h2] at h0 ⊢
    rw [stop_up h S h1 h2]
    by_cases ha : 0 ≤ stop ps S' (par ps x)
    · have := ih ha
      rw [if_pos ha, if_pos this.1]; exact this
    · rw [if_neg ha] at h0 ⊢
      cases hs : S' x
      · rw [hs] at h0; simp at h0
      · rw [if_pos rfl]
        by_cases hb : 0 ≤ stop ps S (par ps x)
        · rw [if_pos hb]; omega
        · rw [if_neg hb, hS x h2 hs, if_pos rfl]; omega
end Go.Proofs.Ytnbomleieianoaa

/- Plain law behind FnEnvelopes: the best rules have the envelope as their mean, no rule has more, caps that cover are no less than the least ones. No conditions but those stated. -/
namespace Go.Proofs.Ytnbomleieianoaa

/-- The envelope against what its children have together, and what stopping has. -/
theorem cap_inner {ps ws l : List Int} (h : Tr ps ws) {x : Nat} (hx : x < ps.length) (he : endB ps x = false) : kidSum ps (fun y => nth (capW ps ws l) y) x ps.length ≤ nth (capW ps ws l) x ∧ ownW ps ws l x ≤ nth (capW ps ws l) x ∧ (nth (capW ps ws l) x = ownW ps ws l x ∨ nth (capW ps ws l) x = kidSum ps (fun y => nth (capW ps ws l) y) x ps.length) := by
  have := nth_capW (l := l) h hx
  rw [stepA, he] at this
  simp only [Bool.false_eq_true, if_false] at this
  omega
theorem cap_end {ps ws l : List Int} (h : Tr ps ws) {x : Nat} (hx : x < ps.length) (he : endB ps x = true) : nth (capW ps ws l) x = ownW ps ws l x := by
  have := nth_capW (l := l) h hx
  rwa [stepA, he, if_pos rfl] at this
theorem cap_own {ps ws l : List Int} (h : Tr ps ws) {x : Nat} (hx : x < ps.length) : ownW ps ws l x ≤ nth (capW ps ws l) x := by
  cases he : endB ps x
  · exact (cap_inner h hx he).2.1
  · rw [cap_end h hx he]; exact Int.le_refl _
theorem cover_t {ps ws l caps : List Int} (h : coverV ps ws l caps = true) : paysB ps ws l = true ∧ caps.length = ps.length ∧ ∀ x, x < ps.length → capOk ps ws l caps x = true := by
  simp only [coverV, Bool.and_eq_true] at h
  exact ⟨h.1, by simpa using h.2.1.1, fun x hx => all_get h.2.2 hx⟩
/-- Caps that cover are no less than the least ones. -/
theorem cover_least {ps ws l caps : List Int} (h : coverV ps ws l caps = true) : ∀ x, x < ps.length → nth (capW ps ws l) x ≤ nth caps x := by
  obtain ⟨h1, h2, h3⟩ := cover_t h
  have hT := (paysB_t h1).1
  refine hT.toPa.below ?_
  intro x hx ih
  have hk := h3 x hx
  simp only [capOk, Bool.not_eq_true', Bool.or_eq_false_iff, Bool.and_eq_false_iff, decide_eq_false_iff_not] at hk
  have h4 : nth (sums ps ws) x * nth l x = ownW ps ws l x := rfl
  cases he : endB ps x
  · rw [he] at hk
    have h5 := kidSum_le (ps := ps) (f := fun y => nth (capW ps ws l) y) (g := fun y => nth caps y) (x := x) (k := ps.length) fun y hy e => ih y hy e
    have h6 := cap_inner (l := l) hT hx he
    have h7 := hk.2
    simp at h7
    omega
  · rw [cap_end hT hx he]; omega
theorem least_cover {ps ws l : List Int} (h : paysB ps ws l = true) : coverV ps ws l (capW ps ws l) = true := by
  have hpt := paysB_t h
  have hT := hpt.1
  refine coverV_yes h (capW_length _ _ _) (all_t fun i hi => ?_) fun x hx => ?_
  · have := worth_abs (l := l) hT hpt.2.2.2.2 24 i
    exact inB_mk (by unfold capW; omega) (by unfold capW; omega)
  · have h4 : nth (sums ps ws) x * nth l x = ownW ps ws l x := rfl
    have h5 := cap_own (l := l) hT hx
    simp only [capOk, Bool.not_eq_true', Bool.or_eq_false_iff, Bool.and_eq_false_iff, decide_eq_false_iff_not]
    refine ⟨by omega, ?_⟩
    cases he : endB ps x
    · have := (cap_inner (l := l) hT hx he).1
      exact .inr (by omega)
    · exact .inl rfl
theorem best_beh {ps ws l : List Int} (h : Tr ps ws) {x : Nat} (hx : x < ps.length) (hb : bestB ps ws l x = false) : kidSum ps (fun y => nth (capW ps ws l) y) x ps.length = nth (capW ps ws l) x := by
  have hne : ¬ ownW ps ws l x = nth (capW ps ws l) x := by simpa [bestB] using hb
  cases he : endB ps x
  · have := cap_inner (l := l) h hx he; omega
  · exact absurd (cap_end h hx he).symm hne
theorem best_mean {ps ws l : List Int} (h : paysB ps ws l = true) : rmS ps ws l (bestV ps ws l) = nth (capW ps ws l) 0 := by
  have hT := (paysB_t h).1
  rw [bestV_yes h, rm_firsts]
  rw [stS_congr (g := fun x => nth (capW ps ws l) x) fun x hx hf => by
    have := fir_S hT.toPa hx hf
    simpa [fS, bestB] using this]
  exact stS_eq hT.toPa fun x hx hb => best_beh hT hx (by simpa [fS] using beh_S hT.toPa hx hb)
theorem late_mean {ps ws l : List Int} (h : paysB ps ws l = true) : rmS ps ws l (lateV ps ws l) = nth (capW ps ws l) 0 := by
  have hT := (paysB_t h).1
  rw [lateV_yes h, rm_firsts]
  rw [stS_congr (g := fun x => nth (capW ps ws l) x) fun x hx hf => by
    have h1 := fir_S hT.toPa hx hf
    simp only [fS, lateB, Int.toNat_natCast, Bool.or_eq_true, decide_eq_true_eq] at h1
    cases he : endB ps x
    · rw [he] at h1
      have := cap_inner (l := l) hT hx he
      rcases h1 with h1 | h1
      · cases h1
      · omega
    · exact (cap_end hT hx he).symm]
  refine stS_eq hT.toPa fun x hx hb => ?_
  have h1 := beh_S hT.toPa hx hb
  simp only [fS, lateB, Int.toNat_natCast, Bool.or_eq_false_iff, decide_eq_false_iff_not] at h1
  have := cap_inner (l := l) hT hx h1.1
  omega
theorem best_end {ps ws l : List Int} (h : Tr ps ws) {x : Nat} (hx : x < ps.length) (he : endB ps x = true) : bestB ps ws l x = true := by
  simp [bestB, cap_end h hx he]
theorem best_stop {ps ws l : List Int} (h : paysB ps ws l = true) : stopB ps (bestV ps ws l) = true := by
  have hT := (paysB_t h).1
  rw [bestV_yes h]
  exact firsts_stop hT.toPa fun x hx he => by simpa [fS] using best_end hT hx he
theorem late_stop {ps ws l : List Int} (h : paysB ps ws l = true) : stopB ps (lateV ps ws l) = true := by
  have hT := (paysB_t h).1
  rw [lateV_yes h]
  exact firsts_stop hT.toPa fun x hx he => by simp [fS, lateB, he]
/-- What stops only where S does is no earlier than the rule of S. -/
theorem sooner_of {ps ws rule : List Int} {S : Int → Bool} (h : treeB ps ws = true) (h1 : stopB ps (firsts ps S) = true) (h2 : stopB ps rule = true) (hS : ∀ y : Nat, y < ps.length → hasB rule y = true → S y = true) : noLV ps ws (firsts ps S) rule = true := by
  have hp := (treeB_t h).toPa
  rw [noLV, twoB, h, h1, h2, noLaterB]
  simp only [Bool.true_and]
  refine all_t fun i hi => ?_
  obtain ⟨e, h3, h4, h5⟩ := end_nth hi
  rw [h5, Int.toNat_natCast, stop_firsts hp S h3]
  have hb := rule_end hp h2 h3 h4
  exact decide_eq_true (stop_mono hp hS e h3 (of_decide_eq_true hb)).2
theorem best_late {ps ws l : List Int} (h : paysB ps ws l = true) : noLV ps ws (bestV ps ws l) (lateV ps ws l) = true := by
  have hpt := paysB_t h
  have hT := hpt.1
  have h1 := best_stop h
  have h2 := late_stop h
  have htr : treeB ps ws = true := by simp only [paysB, Bool.and_eq_true] at h; exact h.1
  rw [bestV_yes h] at h1 ⊢
  refine sooner_of htr h1 h2 fun y hy hh => ?_
  rw [lateV_yes h, has_mem, firsts, mem_filt] at hh
  obtain ⟨i, hi, hf, he⟩ := hh
  obtain rfl : y = i := by omega
  have h3 := fir_S hT.toPa hi hf
  simp only [fS, lateB, Int.toNat_natCast, Bool.or_eq_true, decide_eq_true_eq] at h3
  cases hen : endB ps y
  · rw [hen] at h3
    have := cap_inner (l := l) hT hi hen
    rcases h3 with h3 | h3
    · cases h3
    · simp only [fS, Int.toNat_natCast, bestB, beq_iff_eq]; omega
  · simpa [fS] using best_end hT hi hen
/-- No rule has a greater mean than the envelope. -/
theorem any_le {ps ws l rule : List Int} (h : rmB ps ws l rule = true) : rmS ps ws l rule ≤ nth (capW ps ws l) 0 := by
  simp only [rmB, Bool.and_eq_true] at h
  have hT := (paysB_t h.1).1
  rw [rm_rule hT.toPa h.2]
  have h1 := stS_mono (ps := ps) (S := hasB rule) (f := ownW ps ws l) (g := fun x => nth (capW ps ws l) x) fun x hx _ => cap_own hT hx
  have h2 := stS_le hT.toPa (S := hasB rule) (f := fun x => nth (capW ps ws l) x) fun x hx hb => (cap_inner (l := l) hT hx (rule_inner hT.toPa h.2 hx hb)).1
  exact Int.le_trans h1 h2
/-- A rule with the greatest mean stops only where stopping is best. -/
theorem any_late {ps ws l rule : List Int} (h : rmB ps ws l rule = true) (he : rmS ps ws l rule = nth (capW ps ws l) 0) : noLV ps ws (bestV ps ws l) rule = true := by
  have h0 := h
  simp only [rmB, Bool.and_eq_true] at h
  have hT := (paysB_t h.1).1
  have hb := best_stop h.1
  have htr : treeB ps ws = true := by have := h.1; simp only [paysB, Bool.and_eq_true] at this; exact this.1
  rw [bestV_yes h.1] at hb ⊢
  refine sooner_of htr hb h.2 fun y hy hh => ?_
  rw [rm_rule hT.toPa h.2] at he
  have h1 := stS_mono (ps := ps) (S := hasB rule) (f := ownW ps ws l) (g := fun x => nth (capW ps ws l) x) fun x hx _ => cap_own hT hx
  have h2 := stS_le hT.toPa (S := hasB rule) (f := fun x => nth (capW ps ws l) x) fun x hx hb => (cap_inner (l := l) hT hx (rule_inner hT.toPa h.2 hx hb)).1
  have h3 : stS ps (hasB rule) (ownW ps ws l) = stS ps (hasB rule) (fun x => nth (capW ps ws l) x) := by omega
  have hm := has_mem.1 hh
  rw [rule_firsts hT.toPa h.2, firsts, mem_filt] at hm
  obtain ⟨i, hi, hf, hie⟩ := hm
  obtain rfl : y = i := by omega
  have := stS_same (fun x hx _ => cap_own hT hx) h3 hi hf
  simpa [fS, bestB] using this
/-- Means as fractions. -/
theorem mean_lt {ps ws : List Int} (h : Tr ps ws) (a b : Int) : (nm a (nth (sums ps ws) 0) * dn b (nth (sums ps ws) 0) < nm b (nth (sums ps ws) 0) * dn a (nth (sums ps ws) 0)) ↔ a < b := cut_lt a b (by have := sums_pos h 0 (by have := h.n1; omega); omega)
end Go.Proofs.Ytnbomleieianoaa

/- Plain law behind FnBounds: the bound of a balanced list and what a seer has are no less than the envelope, and costs take away. No conditions but those stated. -/
namespace Go.Proofs.Ytnbomleieianoaa

/-- Numbers of the ends, gathered at each node. -/
def enL (ps : List Int) (V : Nat → Int) : List Int := (List.range ps.length).map fun x => if endB ps x then V x else 0
def enG (ps : List Int) (V : Nat → Int) (x : Nat) : Int := nth (gathA ps (enL ps V)) x
theorem enL_length (ps : List Int) (V : Nat → Int) : (enL ps V).length = ps.length := by simp [enL]
theorem enG_end {ps : List Int} (h : Pa ps) (V : Nat → Int) {x : Nat} (hx : x < ps.length) (he : endB ps x = true) : enG ps V x = V x := by
  rw [enG, gathA_kids h (enL_length ps V), kidSum_end he (Nat.le_refl _), enL, nth_map_range hx, if_pos he]; omega
theorem enG_inner {ps : List Int} (h : Pa ps) (V : Nat → Int) {x : Nat} (hx : x < ps.length) (he : endB ps x = false) : enG ps V x = kidSum ps (enG ps V) x ps.length := by
  have h1 := gathA_kids h (enL_length ps V) x
  have h2 : nth (enL ps V) x = 0 := by rw [enL, nth_map_range hx, he]; rfl
  rw [h2, Int.zero_add] at h1
  exact h1
theorem enG_root {ps : List Int} (h : Pa ps) (V : Nat → Int) : enG ps V 0 = sumOf (fun e => V e.toNat) (ends ps) := by
  rw [enG, gathA_root h (enL_length ps V), ends, sumOf_filt]
  exact sumR_congr fun x _ => by rw [Int.toNat_natCast]
theorem s_end {ps ws : List Int} (h : Tr ps ws) {x : Nat} (he : endB ps x = true) : nth (sums ps ws) x = nth ws x := by
  rw [sums_kids h, kidSum_end he (Nat.le_refl _)]; omega
theorem s_inner {ps ws : List Int} (h : Tr ps ws) {x : Nat} (hx : x < ps.length) (he : endB ps x = false) : nth (sums ps ws) x = kidSum ps (fun y => nth (sums ps ws) y) x ps.length := by
  have h1 := sums_kids h x
  rw [h.inner x hx he, Int.zero_add] at h1
  exact h1
theorem bdE_self {ps pay num : List Int} (hp : Pa ps) {x : Nat} (hx : x < ps.length) : exc pay num x ≤ bdE ps pay num x ∧ (1 ≤ x → bdE ps pay num (par ps x) ≤ bdE ps pay num x) := by
  by_cases h0 : x = 0
  · subst h0
    refine ⟨?_, fun h => by omega⟩
    rw [bdE, way_zero]
    exact Int.le_of_eq (mxT_one rfl).symm
  · have hpar := hp.upN (x := x) (by omega) hx
    have hl := (way_length hp (par ps x) (by omega)).1
    have hw := way_up hp (x := x) (by omega) hx
    have e1 : bdE ps pay num x = max (bdE ps pay num (par ps x)) (exc pay num x) := by
      rw [bdE, hw, List.length_append, List.length_singleton, mxT]
      have e2 : nth (way ps (par ps x) ++ [(x : Int)]) (way ps (par ps x)).length = x := nth_append_r
      have e3 : ∀ k, k ≤ (way ps (par ps x)).length → mxT (exc pay num) (way ps (par ps x) ++ [(x : Int)]) k = mxT (exc pay num) (way ps (par ps x)) k := fun k => by
        induction k with
        | zero => intro _; rfl
        | succ k ih => intro hk; rw [mxT, mxT, ih (by omega), nth_append_l (by omega)]
      rw [e2, e3 _ (Nat.le_refl _)]; rfl
    rw [e1]
    exact ⟨by omega, fun _ => by omega⟩
/-- The greatest excess on the way to a node, times its sum, is no more than those of the ends below it together. -/
theorem bd_below {ps ws pay num : List Int} (h : Tr ps ws) : ∀ x, x < ps.length → nth (sums ps ws) x * bdE ps pay num x ≤ enG ps (fun e => bdE ps pay num e * nth ws e) x := by
  refine h.toPa.below ?_
  intro x hx ih
  cases he : endB ps x
  · rw [enG_inner h.toPa _ hx he, s_inner h hx he]
    have h1 := kidSum_le (ps := ps) (f := fun y => bdE ps pay num x * nth (sums ps ws) y) (g := enG ps (fun e => bdE ps pay num e * nth ws e)) (x := x) (k := ps.length) fun y hy e => by
      have hk := kid_par h.toPa hy e
      have h2 := (bdE_self (pay := pay) (num := num) h.toPa hy).2 hk.1
      rw [hk.2] at h2
      have h3 := Int.mul_le_mul_of_nonneg_left h2 (sums_nn h y)
      have h4 := ih y hy e
      rw [Int.mul_comm (bdE ps pay num x)]
      omega
    rw [kidSum_mul ps (fun y => nth (sums ps ws) y)] at h1
    rw [Int.mul_comm]
    exact h1
  · rw [enG_end h.toPa _ hx he, s_end h he, Int.mul_comm]
    exact Int.le_refl _
/-- Balanced: a node's number times its sum is what its children have together. -/
theorem bal_kids {ps ws num : List Int} (h : Tr ps ws) {x : Nat} (hx : x < ps.length) (he : endB ps x = false) (hb : drA ps ws num x = 0) : kidSum ps (fun y => nth (sums ps ws) y * nth num y) x ps.length = nth (sums ps ws) x * nth num x := by
  rcases (dr_bal (l := num) h hx).1 hb with e | e
  · rw [he] at e; cases e
  · exact e.symm
theorem bound_cap {ps ws pay num : List Int} (h : Tr ps ws) (hb : ∀ x, x < ps.length → drA ps ws num x = 0) : ∀ x, x < ps.length → nth (capW ps ws pay) x ≤ enG ps (fun e => bdE ps pay num e * nth ws e) x + nth (sums ps ws) x * nth num x := by
  refine h.toPa.below ?_
  intro x hx ih
  have hown : ownW ps ws pay x ≤ enG ps (fun e => bdE ps pay num e * nth ws e) x + nth (sums ps ws) x * nth num x := by
    have h1 := bd_below (pay := pay) (num := num) h x hx
    have h2 := Int.mul_le_mul_of_nonneg_left (bdE_self (pay := pay) (num := num) h.toPa hx).1 (sums_nn h x)
    have h3 : nth (sums ps ws) x * exc pay num x = ownW ps ws pay x - nth (sums ps ws) x * nth num x := by
      rw [exc, Int.toNat_natCast, Int.mul_sub]; rfl
    omega
  cases he : endB ps x
  · have hc := cap_inner (l := pay) h hx he
    have hk := bal_kids h hx he (hb x hx)
    have h1 := kidSum_le (ps := ps) (f := fun y => nth (capW ps ws pay) y) (g := fun y => enG ps (fun e => bdE ps pay num e * nth ws e) y + nth (sums ps ws) y * nth num y) (x := x) (k := ps.length) fun y hy e => ih y hy e
    rw [kidSum_add ps (enG ps (fun e => bdE ps pay num e * nth ws e)) (fun y => nth (sums ps ws) y * nth num y), ← enG_inner h.toPa _ hx he, hk] at h1
    omega
  · rw [cap_end h hx he]; exact hown
theorem bound_le {ps ws pay num : List Int} (h : Tr ps ws) (hb : ∀ x, x < ps.length → drA ps ws num x = 0) : nth (capW ps ws pay) 0 ≤ bndS ps ws pay num := by
  have h1 := bound_cap (pay := pay) h hb 0 (by have := h.n1; omega)
  rw [enG_root h.toPa] at h1
  rw [bndS, Int.mul_comm]
  have : sumOf (bdT ps ws pay num) (ends ps) = sumOf (fun e => bdE ps pay num e.toNat * nth ws e.toNat) (ends ps) := rfl
  omega
theorem seer_le {ps ws pay : List Int} (h : Tr ps ws) : nth (capW ps ws pay) 0 ≤ bndS ps ws pay (zeL ps) := bound_le h fun x _ => by
  rw [drA]
  exact kidSum_zero fun y _ _ => by rw [zeL, nth_replicate, nth_replicate]; simp
theorem bal_t {ps ws num : List Int} (h : balB ps ws num = true) : ∀ x, x < ps.length → drA ps ws num x = 0 := fun x hx => by simpa using all_get h hx
/-- Less payments, less envelope. -/
theorem cap_mono {ps ws l l' : List Int} (h : Tr ps ws) (hl : ∀ x, x < ps.length → nth l' x ≤ nth l x) : ∀ x, x < ps.length → nth (capW ps ws l') x ≤ nth (capW ps ws l) x := by
  refine h.toPa.below ?_
  intro x hx ih
  have hown : ownW ps ws l' x ≤ ownW ps ws l x := Int.mul_le_mul_of_nonneg_left (hl x hx) (sums_nn h x)
  cases he : endB ps x
  · have h1 := kidSum_le (ps := ps) (f := fun y => nth (capW ps ws l') y) (g := fun y => nth (capW ps ws l) y) (x := x) (k := ps.length) fun y hy e => ih y hy e
    have h2 := cap_inner (l := l') h hx he
    have h3 := cap_inner (l := l) h hx he
    omega
  · rw [cap_end h hx he, cap_end h hx he]; exact hown
theorem cost_cap {ps ws l : List Int} {c : Int} (h : costB ps ws l c = true) : nth (capW ps ws (costL ps l c)) 0 ≤ nth (capW ps ws l) 0 := by
  simp only [costB, Bool.and_eq_true] at h
  have hT := (paysB_t h.1).1
  have hc := inB_t h.2.1
  refine cap_mono hT (fun x hx => ?_) 0 (by have := hT.n1; omega)
  rw [costL, nth_map_range hx]
  have := Int.mul_nonneg (show 0 ≤ c by omega) (dep_bd hT.toPa x hx).1
  omega
end Go.Proofs.Ytnbomleieianoaa

/- Plain law behind FnStakes: the gains of stakes on a fair process have the mean 0, and on a falling one no greater one. No conditions but those stated. -/
namespace Go.Proofs.Ytnbomleieianoaa

/-- The gains at the first k nodes. -/
def gnL (ps l st : List Int) : Nat → List Int
  | 0 => []
  | k + 1 => gnL ps l st k ++ [if k = 0 then 0 else nth (gnL ps l st k) (par ps k) + nth st (par ps k) * (nth l k - nth l (par ps k))]
theorem gnL_length (ps l st : List Int) : ∀ k, (gnL ps l st k).length = k
  | 0 => rfl
  | k + 1 => by rw [gnL, List.length_append, gnL_length ps l st k]; rfl
def gn (ps l st : List Int) (x : Nat) : Int := nth (gnL ps l st (x + 1)) x
theorem gnL_nth (ps l st : List Int) : ∀ (k x : Nat), x < k → nth (gnL ps l st k) x = gn ps l st x
  | 0, x, h => by omega
  | k + 1, x, h => by
    by_cases e : x = k
    · subst e; rfl
    · rw [gnL, nth_append_l (by rw [gnL_length]; omega), gnL_nth ps l st k x (by omega)]
theorem gn_zero (ps l st : List Int) : gn ps l st 0 = 0 := rfl
theorem gn_up {ps l st : List Int} {x : Nat} (h1 : 1 ≤ x) (hp : par ps x < x) : gn ps l st x = gn ps l st (par ps x) + nth st (par ps x) * (nth l x - nth l (par ps x)) := by
  unfold gn
  rw [gnL, if_neg (by omega)]
  have := nth_append_r (xs := gnL ps l st x) (y := nth (gnL ps l st x) (par ps x) + nth st (par ps x) * (nth l x - nth l (par ps x)))
  rw [gnL_length] at this
  rw [this, gnL_nth ps l st x _ hp]; rfl
/-- The gains of stakes. -/
def gains (ps l st : List Int) : List Int := gnL ps l st ps.length
theorem gains_length (ps l st : List Int) : (gains ps l st).length = ps.length := gnL_length _ _ _ _
theorem nth_gains {ps l st : List Int} {x : Nat} (h : x < ps.length) : nth (gains ps l st) x = gn ps l st x := gnL_nth _ _ _ _ _ h
theorem stake_bd {s a b : Int} (hs : -20 ≤ s ∧ s ≤ 20) (ha : -999 ≤ a ∧ a ≤ 999) (hb : -999 ≤ b ∧ b ≤ 999) : -39960 ≤ s * (a - b) ∧ s * (a - b) ≤ 39960 := by
  have hd : -1998 ≤ a - b ∧ a - b ≤ 1998 := by omega
  generalize a - b = d at hd
  rcases (show s = -20 ∨ s = -19 ∨ s = -18 ∨ s = -17 ∨ s = -16 ∨ s = -15 ∨ s = -14 ∨ s = -13 ∨ s = -12 ∨ s = -11 ∨ s = -10 ∨ s = -9 ∨ s = -8 ∨ s = -7 ∨ s = -6 ∨ s = -5 ∨ s = -4 ∨ s = -3 ∨ s = -2 ∨ s = -1 ∨ s = 0 ∨ s = 1 ∨ s = 2 ∨ s = 3 ∨ s = 4 ∨ s = 5 ∨ s = 6 ∨ s = 7 ∨ s = 8 ∨ s = 9 ∨ s = 10 ∨ s = 11 ∨ s = 12 ∨ s = 13 ∨ s = 14 ∨ s = 15 ∨ s = 16 ∨ s = 17 ∨ s = 18 ∨ s = 19 ∨ s = 20 by omega) with rfl | rfl | rfl | rfl | rfl | rfl | rfl | rfl | rfl | rfl | rfl | rfl | rfl | rfl | rfl | rfl | rfl | rfl | rfl | rfl | rfl | rfl | rfl | rfl | rfl | rfl | rfl | rfl | rfl | rfl | rfl | rfl | rfl | rfl | rfl | rfl | rfl | rfl | rfl | rfl | rfl <;> omega
theorem gn_bd {ps l st : List Int} (h : Pa ps) (hl : ∀ i, -999 ≤ nth l i ∧ nth l i ≤ 999) (hs : ∀ i, -20 ≤ nth st i ∧ nth st i ≤ 20) : ∀ x, x < ps.length → -(39960 * (x : Int)) ≤ gn ps l st x ∧ gn ps l st x ≤ 39960 * (x : Int) := by
  refine h.above ?_ ?_
  · rw [gn_zero]; omega
  · intro x h1 h2 ih
    have hp := h.upN h1 h2
    have := stake_bd (hs (par ps x)) (hl x) (hl (par ps x))
    rw [gn_up h1 hp.2]; omega
/-- What the children's gains have together. -/
theorem gn_kids {ps ws l st : List Int} (h : Tr ps ws) {x : Nat} (hx : x < ps.length) (he : endB ps x = false) : kidSum ps (fun y => nth (sums ps ws) y * gn ps l st y) x ps.length = nth (sums ps ws) x * gn ps l st x + nth st x * drA ps ws l x := by
  have h1 : kidSum ps (fun y => nth (sums ps ws) y * gn ps l st y) x ps.length = kidSum ps (fun y => gn ps l st x * nth (sums ps ws) y + nth st x * (nth (sums ps ws) y * (nth l y - nth l x))) x ps.length := kidSum_congr fun y hy e => by
    have hk := kid_par h.toPa hy e
    have hp := h.toPa.upN hk.1 hy
    rw [gn_up hk.1 hp.2, hk.2]
    grind
  rw [h1, kidSum_add ps (fun y => gn ps l st x * nth (sums ps ws) y) (fun y => nth st x * (nth (sums ps ws) y * (nth l y - nth l x))), kidSum_mul ps (fun y => nth (sums ps ws) y), kidSum_mul ps (fun y => nth (sums ps ws) y * (nth l y - nth l x)), ← s_inner h hx he, Int.mul_comm (gn ps l st x)]
  rfl
/-- Does no drift go up? -/
def fallB (ps ws l : List Int) : Bool := (List.range ps.length).all fun x => decide (drA ps ws l x ≤ 0)
theorem fall_t {ps ws l : List Int} (h : fallB ps ws l = true) : ∀ x, x < ps.length → drA ps ws l x ≤ 0 := fun x hx => by simpa using all_get h hx
theorem gain_fair {ps ws l st : List Int} (h : Tr ps ws) (hb : ∀ x, x < ps.length → drA ps ws l x = 0) : ∀ x, x < ps.length → enG ps (fun e => nth ws e * gn ps l st e) x = nth (sums ps ws) x * gn ps l st x := by
  refine h.toPa.below ?_
  intro x hx ih
  cases he : endB ps x
  · rw [enG_inner h.toPa _ hx he, kidSum_congr (g := fun y => nth (sums ps ws) y * gn ps l st y) fun y hy e => ih y hy e, gn_kids h hx he, hb x hx]; omega
  · rw [enG_end h.toPa _ hx he, s_end h he]
theorem gain_fall {ps ws l st : List Int} (h : Tr ps ws) (hb : ∀ x, x < ps.length → drA ps ws l x ≤ 0) (hs : ∀ x, 0 ≤ nth st x) : ∀ x, x < ps.length → enG ps (fun e => nth ws e * gn ps l st e) x ≤ nth (sums ps ws) x * gn ps l st x := by
  refine h.toPa.below ?_
  intro x hx ih
  cases he : endB ps x
  · have h1 := kidSum_le (ps := ps) (f := enG ps (fun e => nth ws e * gn ps l st e)) (g := fun y => nth (sums ps ws) y * gn ps l st y) (x := x) (k := ps.length) fun y hy e => ih y hy e
    rw [gn_kids h hx he] at h1
    have h2 := Int.mul_nonneg (hs x) (show 0 ≤ -(drA ps ws l x) by have := hb x hx; omega)
    rw [Int.mul_neg] at h2
    rw [enG_inner h.toPa _ hx he]; omega
  · rw [enG_end h.toPa _ hx he, s_end h he]; exact Int.le_refl _
theorem enG_all {ps ws : List Int} (h : Tr ps ws) (g : Nat → Int) : sumR (fun x => nth ws x * g x) ps.length = enG ps (fun e => nth ws e * g e) 0 := by
  rw [enG, gathA_root h.toPa (enL_length _ _)]
  exact sumR_congr fun x hx => by
    cases he : endB ps x
    · rw [h.inner x hx he]; simp
    · simp
theorem total_fair {ps ws l st : List Int} (h : Tr ps ws) (hb : balB ps ws l = true) : sumR (fun x => nth ws x * gn ps l st x) ps.length = 0 := by
  rw [enG_all h, gain_fair h (bal_t hb) 0 (by have := h.n1; omega), gn_zero]; omega
theorem total_fall {ps ws l st : List Int} (h : Tr ps ws) (hb : fallB ps ws l = true) (hs : ∀ x, 0 ≤ nth st x) : sumR (fun x => nth ws x * gn ps l st x) ps.length ≤ 0 := by
  have := gain_fall (st := st) h (fall_t hb) hs 0 (by have := h.n1; omega)
  rw [enG_all h]
  rw [gn_zero] at this; omega
end Go.Proofs.Ytnbomleieianoaa

/- Plain law behind FnStoppedMeans: stopped means of fair and of falling processes, and the stopped process. No conditions but those stated. -/
namespace Go.Proofs.Ytnbomleieianoaa

theorem own_kids {ps ws l : List Int} (h : Tr ps ws) {x : Nat} (hx : x < ps.length) (he : endB ps x = false) : kidSum ps (ownW ps ws l) x ps.length = ownW ps ws l x + drA ps ws l x := by
  have h1 : kidSum ps (ownW ps ws l) x ps.length = kidSum ps (fun y => nth l x * nth (sums ps ws) y + nth (sums ps ws) y * (nth l y - nth l x)) x ps.length := kidSum_congr fun y _ _ => by unfold ownW; grind
  rw [h1, kidSum_add ps (fun y => nth l x * nth (sums ps ws) y) (fun y => nth (sums ps ws) y * (nth l y - nth l x)), kidSum_mul ps (fun y => nth (sums ps ws) y), ← s_inner h hx he, Int.mul_comm]
  rfl
/-- The stopped mean of a fair process is its number at the root. -/
theorem stop_fair {ps ws l rule : List Int} (h : Tr ps ws) (hr : stopB ps rule = true) (hb : balB ps ws l = true) : rmS ps ws l rule = nth (sums ps ws) 0 * nth l 0 := by
  rw [rm_rule h.toPa hr]
  exact stS_eq h.toPa fun x hx hbe => by rw [own_kids h hx (rule_inner h.toPa hr hx hbe), bal_t hb x hx]; omega
theorem stop_fall {ps ws l rule : List Int} (h : Tr ps ws) (hr : stopB ps rule = true) (hb : fallB ps ws l = true) : rmS ps ws l rule ≤ nth (sums ps ws) 0 * nth l 0 := by
  rw [rm_rule h.toPa hr]
  exact stS_le h.toPa (f := ownW ps ws l) fun x hx hbe => by rw [own_kids h hx (rule_inner h.toPa hr hx hbe)]; have := fall_t hb x hx; omega
/-- The number of the stopped process. -/
def heldN (ps rule l : List Int) (x : Nat) : Int := if behB ps (hasB rule) x then nth l (stop ps (hasB rule) x).toNat else nth l x
def heldL (ps rule l : List Int) : List Int := (List.range ps.length).map (heldN ps rule l)
theorem heldL_length (ps rule l : List Int) : (heldL ps rule l).length = ps.length := by simp [heldL]
theorem nth_heldL {ps rule l : List Int} {x : Nat} (hx : x < ps.length) : nth (heldL ps rule l) x = heldN ps rule l x := by rw [heldL, nth_map_range hx]
theorem held_beh {ps : List Int} (rule l : List Int) (h : Pa ps) {x y : Nat} (hb : behB ps (hasB rule) x = true) (hy : y < ps.length) (e : nth ps y = x) : behB ps (hasB rule) y = true ∧ heldN ps rule l y = heldN ps rule l x := by
  have hk := kid_par h hy e
  have hs := stop_up h (hasB rule) hk.1 hy
  rw [hk.2, if_pos (of_decide_eq_true hb)] at hs
  have h1 : behB ps (hasB rule) y = true := by unfold behB; rw [hs]; exact hb
  refine ⟨h1, ?_⟩
  unfold heldN
  rw [h1, hb, hs, if_pos rfl, if_pos rfl]
theorem held_fir {ps : List Int} (rule l : List Int) {x : Nat} (hf : firB ps (hasB rule) x = true) : heldN ps rule l x = nth l x ∧ behB ps (hasB rule) x = true := by
  have hs : stop ps (hasB rule) x = x := by simpa [firB] using hf
  have hb : behB ps (hasB rule) x = true := decide_eq_true (by omega)
  refine ⟨?_, hb⟩
  unfold heldN
  rw [hb, hs, Int.toNat_natCast]; rfl
theorem held_not {ps : List Int} (rule l : List Int) (h : Pa ps) {x y : Nat} (hb : behB ps (hasB rule) x = false) (hy : y < ps.length) (e : nth ps y = x) : heldN ps rule l y = nth l y := by
  have hk := kid_par h hy e
  have hs := (beh_up h (hasB rule) hk.1 hy).2 (by rw [hk.2]; exact hb)
  cases hh : hasB rule y
  · unfold heldN
    rw [hs.1, hh]; rfl
  · exact (held_fir rule l (by rw [hs.2, hh])).1
/-- Behind a stop the process stays, and has the mean of what it is at the ends. -/
theorem held_sum {ps ws l rule : List Int} (h : Tr ps ws) : ∀ x, x < ps.length → behB ps (hasB rule) x = true → enG ps (fun e => nth ws e * heldN ps rule l e) x = nth (sums ps ws) x * heldN ps rule l x := by
  refine h.toPa.below ?_
  intro x hx ih hb
  cases he : endB ps x
  · have h1 : kidSum ps (enG ps (fun e => nth ws e * heldN ps rule l e)) x ps.length = kidSum ps (fun y => heldN ps rule l x * nth (sums ps ws) y) x ps.length := kidSum_congr fun y hy e => by
      have hk := held_beh rule l h.toPa hb hy e
      rw [ih y hy e hk.1, hk.2, Int.mul_comm]
    rw [enG_inner h.toPa _ hx he, h1, kidSum_mul ps (fun y => nth (sums ps ws) y), ← s_inner h hx he, Int.mul_comm]
  · rw [enG_end h.toPa _ hx he, s_end h he]
theorem held_mean {ps ws l rule : List Int} (h : Tr ps ws) (hr : stopB ps rule = true) : enG ps (fun e => nth ws e * heldN ps rule l e) 0 = rmS ps ws l rule := by
  rw [rm_rule h.toPa hr]
  have h1 := stS_eq h.toPa (S := hasB rule) (f := enG ps (fun e => nth ws e * heldN ps rule l e)) fun x hx hb => (enG_inner h.toPa _ hx (rule_inner h.toPa hr hx hb)).symm
  rw [← h1]
  exact stS_congr fun x hx hf => by
    have hk := held_fir rule l hf
    rw [held_sum h x hx hk.2, hk.1]; rfl
/-- The stopped process of a fair one is fair. -/
theorem held_fair {ps ws l rule : List Int} (h : Tr ps ws) (hb : balB ps ws l = true) : balB ps ws (heldL ps rule l) = true := bal_yes fun x hx => by
  have hb2 := bal_t hb x hx
  rw [drA] at hb2 ⊢
  cases hbe : behB ps (hasB rule) x
  · rw [← hb2]
    refine kidSum_congr fun y hy e => ?_
    rw [nth_heldL hy, nth_heldL hx, held_not rule l h.toPa hbe hy e]
    have : heldN ps rule l x = nth l x := by unfold heldN; rw [hbe]; rfl
    rw [this]
  · refine kidSum_zero fun y hy e => ?_
    rw [nth_heldL hy, nth_heldL hx, (held_beh rule l h.toPa hbe hy e).2]; simp
theorem held_bd {ps rule l : List Int} (hl : ∀ i, -999 ≤ nth l i ∧ nth l i ≤ 999) (x : Nat) : -999 ≤ heldN ps rule l x ∧ heldN ps rule l x ≤ 999 := by
  unfold heldN
  split
  · exact hl _
  · exact hl _
theorem ends_stop {ps : List Int} (h : Pa ps) : stopB ps (ends ps) = true := by
  have : ends ps = firsts ps (fS (endB ps)) := by
    refine filt_congr fun x hx => ?_
    have key : ∀ x, x < ps.length → behB ps (fS (endB ps)) x = endB ps x ∧ firB ps (fS (endB ps)) x = endB ps x := by
      refine h.above ?_ ?_
      · exact beh_zero ps _
      · intro x h1 h2 ih
        have hp := h.upN h1 h2
        have he : endB ps (par ps x) = false := endB_f h2 hp.1
        exact (beh_up h _ h1 h2).2 (ih.1.trans he)
    exact (key x hx).2.symm
  rw [this]
  exact firsts_stop h fun x _ he => by simpa [fS] using he
/-- Stopping at the ends is the latest: of a falling process it has no more. -/
theorem ends_least {ps ws l rule : List Int} (h : Tr ps ws) (hr : stopB ps rule = true) (hb : fallB ps ws l = true) : rmS ps ws l (ends ps) ≤ rmS ps ws l rule := by
  have h1 : rmS ps ws l (ends ps) = enG ps (ownW ps ws l) 0 := by
    rw [rmS, mS_take _ _ _ _ (Nat.le_refl _), List.take_length, enG_root h.toPa]; rfl
  have h2 : ∀ x, x < ps.length → enG ps (ownW ps ws l) x ≤ ownW ps ws l x := by
    refine h.toPa.below ?_
    intro x hx ih
    cases he : endB ps x
    · rw [enG_inner h.toPa _ hx he]
      have := kidSum_le (ps := ps) (f := enG ps (ownW ps ws l)) (g := ownW ps ws l) (x := x) (k := ps.length) fun y hy e => ih y hy e
      have := own_kids (l := l) h hx he
      have := fall_t hb x hx
      omega
    · rw [enG_end h.toPa _ hx he]; exact Int.le_refl _
  have h3 := stS_eq h.toPa (S := hasB rule) (f := enG ps (ownW ps ws l)) fun x hx hb => (enG_inner h.toPa _ hx (rule_inner h.toPa hr hx hb)).symm
  rw [h1, ← h3, rm_rule h.toPa hr]
  exact stS_mono fun x hx _ => h2 x hx
/-- A quotient without a rest. -/
theorem nm_whole (a : Int) {s : Int} (hs : 0 < s) : nm (s * a) s = a ∧ dn (s * a) s = 1 := by
  have hg : gcdI (s * a) s = s := by
    unfold gcdI
    exact Int.gcd_eq_right (by omega) (Int.dvd_mul_right s a)
  rw [nm, dn, if_neg (by omega), if_neg (by omega), hg]
  exact ⟨Int.mul_ediv_cancel_left _ (by omega), Int.ediv_self (by omega)⟩
end Go.Proofs.Ytnbomleieianoaa

/- Plain law behind FnEntries: the first entry, the greatest number on the way, crossings. No conditions but those stated. -/
namespace Go.Proofs.Ytnbomleieianoaa

/-- The greatest number on the way to x. -/
def hiN (ps l : List Int) (x : Nat) : Int := mxT (fun y => nth l y.toNat) (way ps x) (way ps x).length
theorem hi_zero (ps l : List Int) : hiN ps l 0 = nth l 0 := by
  rw [hiN, way_zero]; exact mxT_one rfl
theorem hi_up {ps : List Int} (l : List Int) (hp : Pa ps) {x : Nat} (h1 : 1 ≤ x) (hx : x < ps.length) : hiN ps l x = max (hiN ps l (par ps x)) (nth l x) := by
  have hpar := hp.upN h1 hx
  have hw := way_up hp h1 hx
  rw [hiN, hw, List.length_append, List.length_singleton, mxT]
  have e2 : nth (way ps (par ps x) ++ [(x : Int)]) (way ps (par ps x)).length = x := nth_append_r
  have e3 : ∀ k, k ≤ (way ps (par ps x)).length → mxT (fun y => nth l y.toNat) (way ps (par ps x) ++ [(x : Int)]) k = mxT (fun y => nth l y.toNat) (way ps (par ps x)) k := fun k => by
    induction k with
    | zero => intro _; rfl
    | succ k ih => intro hk; rw [mxT, mxT, ih (by omega), nth_append_l (by omega)]
  rw [e2, e3 _ (Nat.le_refl _), Int.toNat_natCast]; rfl
/-- 1 if the process was as high as a level on the way, otherwise 0. -/
def hitN (ps l : List Int) (lev : Int) (e : Nat) : Int := if lev ≤ hiN ps l e then 1 else 0
theorem hit_bd {ps ws l : List Int} (h : Tr ps ws) {lev : Int} (h0 : 0 ≤ lev) : ∀ x, x < ps.length → enG ps (fun e => nth ws e * (hitN ps l lev e * lev)) x ≤ lev * nth (sums ps ws) x := by
  refine h.toPa.below ?_
  intro x hx ih
  cases he : endB ps x
  · have h1 := kidSum_le (ps := ps) (f := enG ps (fun e => nth ws e * (hitN ps l lev e * lev))) (g := fun y => lev * nth (sums ps ws) y) (x := x) (k := ps.length) fun y hy e => ih y hy e
    rw [kidSum_mul ps (fun y => nth (sums ps ws) y), ← s_inner h hx he] at h1
    rw [enG_inner h.toPa _ hx he]; exact h1
  · rw [enG_end h.toPa _ hx he, s_end h he, Int.mul_comm lev]
    refine Int.mul_le_mul_of_nonneg_left ?_ (h.w0 x).1
    unfold hitN
    split <;> omega
/-- A falling process that is nowhere below 0 is seldom as high as a level. -/
theorem hit_fall {ps ws l : List Int} (h : Tr ps ws) (hf : fallB ps ws l = true) (hl : ∀ x, x < ps.length → 0 ≤ nth l x) {lev : Int} (h0 : 1 ≤ lev) : enG ps (fun e => nth ws e * (hitN ps l lev e * lev)) 0 ≤ ownW ps ws l 0 := by
  refine h.toPa.below (P := fun x => (x = 0 ∨ hiN ps l (par ps x) < lev) → enG ps (fun e => nth ws e * (hitN ps l lev e * lev)) x ≤ ownW ps ws l x) ?_ 0 (by have := h.n1; omega) (.inl rfl)
  intro x hx ih hc
  by_cases hg : lev ≤ nth l x
  · have h1 := hit_bd (l := l) h (lev := lev) (by omega) x hx
    have h2 := Int.mul_le_mul_of_nonneg_left hg (sums_nn h x)
    rw [Int.mul_comm] at h1
    unfold ownW; omega
  · have hhi : hiN ps l x < lev := by
      by_cases hx0 : x = 0
      · subst hx0; rw [hi_zero]; omega
      · rw [hi_up l h.toPa (by omega) hx]
        rcases hc with hc | hc
        · omega
        · omega
    cases he : endB ps x
    · rw [enG_inner h.toPa _ hx he]
      have h1 := kidSum_le (ps := ps) (f := enG ps (fun e => nth ws e * (hitN ps l lev e * lev))) (g := ownW ps ws l) (x := x) (k := ps.length) fun y hy e => ih y hy e (.inr (by rw [(kid_par h.toPa hy e).2]; exact hhi))
      have h2 := own_kids (l := l) h hx he
      have h3 := fall_t hf x hx
      omega
    · rw [enG_end h.toPa _ hx he]
      have h1 := Int.mul_nonneg (sums_nn h x) (hl x hx)
      have h2 : hitN ps l lev x = 0 := by unfold hitN; rw [if_neg (by omega)]
      rw [h2]
      unfold ownW; simp; exact h1
/-- One node more of a way: how often the process has crossed, and whether it has been low since. -/
def crS (lo hi n : Int) (s : Int × Bool) : Int × Bool := if s.2 = false ∧ n ≤ lo then (s.1, true) else if s.2 = true ∧ hi ≤ n then (s.1 + 1, false) else s
def crL (f : Int → Int) (lo hi : Int) (w : List Int) : Nat → Int × Bool
  | 0 => (0, false)
  | k + 1 => crS lo hi (f (nth w k)) (crL f lo hi w k)
def crN (ps l : List Int) (lo hi : Int) (x : Nat) : Int × Bool := crL (fun y => nth l y.toNat) lo hi (way ps x) (way ps x).length
theorem crL_bd (f : Int → Int) (lo hi : Int) (w : List Int) : ∀ k : Nat, 0 ≤ (crL f lo hi w k).1 ∧ (crL f lo hi w k).1 ≤ k
  | 0 => by simp [crL]
  | k + 1 => by
    have ih := crL_bd f lo hi w k
    rw [crL, crS]
    split
    · exact ⟨ih.1, by simp only; omega⟩
    · split
      · exact ⟨by simp only; omega, by simp only; omega⟩
      · exact ⟨ih.1, by omega⟩
theorem cr_zero (ps l : List Int) (lo hi : Int) : crN ps l lo hi 0 = crS lo hi (nth l 0) (0, false) := by
  rw [crN, way_zero]; rfl
theorem cr_up {ps : List Int} (l : List Int) (lo hi : Int) (hp : Pa ps) {x : Nat} (h1 : 1 ≤ x) (hx : x < ps.length) : crN ps l lo hi x = crS lo hi (nth l x) (crN ps l lo hi (par ps x)) := by
  have hpar := hp.upN h1 hx
  have hw := way_up hp h1 hx
  rw [crN, hw, List.length_append, List.length_singleton, crL]
  have e2 : nth (way ps (par ps x) ++ [(x : Int)]) (way ps (par ps x)).length = x := nth_append_r
  have e3 : ∀ k, k ≤ (way ps (par ps x)).length → crL (fun y => nth l y.toNat) lo hi (way ps (par ps x) ++ [(x : Int)]) k = crL (fun y => nth l y.toNat) lo hi (way ps (par ps x)) k := fun k => by
    induction k with
    | zero => intro _; rfl
    | succ k ih => intro hk; rw [crL, crL, ih (by omega), nth_append_l (by omega)]
  rw [e2, e3 _ (Nat.le_refl _), Int.toNat_natCast]; rfl
/-- Stakes of 1 while the process has been low. -/
def crSt (ps l : List Int) (lo hi : Int) : List Int := (List.range ps.length).map fun x => if (crN ps l lo hi x).2 then 1 else 0
theorem nth_crSt {ps l : List Int} {lo hi : Int} {x : Nat} (hx : x < ps.length) : nth (crSt ps l lo hi) x = if (crN ps l lo hi x).2 then 1 else 0 := by rw [crSt, nth_map_range hx]
/-- On each way the gains of these stakes are no less than what the crossings bring, less what the process is too low at last. -/
theorem cr_gain {ps l : List Int} (hp : Pa ps) {lo hi : Int} (hlh : lo < hi) : ∀ x, x < ps.length → (hi - lo) * (crN ps l lo hi x).1 + (if (crN ps l lo hi x).2 then nth l x - lo else 0) ≤ gn ps l (crSt ps l lo hi) x := by
  refine hp.above ?_ ?_
  · rw [cr_zero, gn_zero, crS]
    by_cases h : nth l 0 ≤ lo
    · rw [if_pos ⟨rfl, h⟩]; simp; omega
    · rw [if_neg (by simp; omega), if_neg (by simp)]; simp
  · intro x h1 h2 ih
    have hpar := hp.upN h1 h2
    rw [cr_up l lo hi hp h1 h2, gn_up h1 hpar.2, nth_crSt (by omega)]
    generalize crN ps l lo hi (par ps x) = s at *
    generalize gn ps l (crSt ps l lo hi) (par ps x) = g at *
    obtain ⟨c, b⟩ := s
    unfold crS
    cases b
    · simp only [Bool.false_eq_true, if_false, true_and, false_and] at ih ⊢
      by_cases h : nth l x ≤ lo
      · rw [if_pos h]; simp only [if_true]; omega
      · rw [if_neg h]; simp only [Bool.false_eq_true, if_false]; omega
    · simp only [Bool.true_eq_false, if_true, true_and, false_and, if_false] at ih ⊢
      by_cases h : hi ≤ nth l x
      · rw [if_pos h]; simp only [Bool.false_eq_true, if_false, Int.mul_add, Int.mul_one]; omega
      · rw [if_neg h]; simp only [if_true]; omega
def missN (l : List Int) (lo : Int) (e : Nat) : Int := if 0 < lo - nth l e then lo - nth l e else 0
theorem cr_fall {ps ws l : List Int} (h : Tr ps ws) (hf : fallB ps ws l = true) {lo hi : Int} (hlh : lo < hi) :
    (hi - lo) * sumOf (fun e => nth ws e.toNat * (crN ps l lo hi e.toNat).1) (ends ps) ≤ sumOf (fun e => nth ws e.toNat * missN l lo e.toNat) (ends ps) := by
  have h1 := total_fall (st := crSt ps l lo hi) h hf fun x => by
    by_cases hx : x < ps.length
    · rw [nth_crSt hx]; split <;> omega
    · rw [nth_ge (by simp [crSt]; omega)]; omega
  rw [enG_all h, enG_root h.toPa] at h1
  have key : ∀ zs : List Int, (∀ z, z ∈ zs → ∃ i : Nat, i < ps.length ∧ z = i) → (hi - lo) * sumOf (fun e => nth ws e.toNat * (crN ps l lo hi e.toNat).1) zs ≤ sumOf (fun e => nth ws e.toNat * missN l lo e.toNat) zs + sumOf (fun e => nth ws e.toNat * gn ps l (crSt ps l lo hi) e.toNat) zs := by
    intro zs
    induction zs with
    | nil => intro _; simp [sumOf]
    | cons z zs ih =>
      intro hz
      have ih := ih fun y hy => hz y (by simp [hy])
      obtain ⟨i, hi2, rfl⟩ := hz z (by simp)
      have h2 := cr_gain (l := l) h.toPa hlh i hi2
      have h3 : (hi - lo) * (crN ps l lo hi i).1 ≤ missN l lo i + gn ps l (crSt ps l lo hi) i := by
        unfold missN
        split at h2 <;> split <;> omega
      have h4 := Int.mul_le_mul_of_nonneg_left h3 (h.w0 i).1
      rw [Int.mul_add] at h4
      simp only [sumOf, Int.toNat_natCast, Int.mul_add]
      have e : (hi - lo) * (nth ws i * (crN ps l lo hi i).1) = nth ws i * ((hi - lo) * (crN ps l lo hi i).1) := by grind
      omega
  have := key (ends ps) fun z hz => by obtain ⟨i, h1, _, rfl⟩ := mem_filt.1 hz; exact ⟨i, h1, rfl⟩
  omega
end Go.Proofs.Ytnbomleieianoaa

/- Plain law: the earlier and the later one of two stoppings are stoppings, and have together what both have. Nothing of the program. -/
namespace Go.Proofs.Ytnbomleieianoaa

theorem firsts_stop2 {ps : List Int} (hp : Pa ps) {S : Int → Bool} (hS : ∀ x : Nat, x < ps.length → endB ps x = true → 0 ≤ stop ps S x) : stopB ps (firsts ps S) = true := by
  have h1 : risB (firsts ps S) = true := asc_ris (filt_asc _ _)
  rw [← rule_stop hp, ruleB, h1]
  have h2 : allIn (firsts ps S) 0 ((ps.length : Int) - 1) = true := all_t fun i hi => by
    obtain ⟨j, h1, _, h3⟩ := nth_filt hi
    rw [firsts] at *
    rw [h3]
    exact inB_mk (by omega) (by omega)
  have h3 : ((List.range (ends ps).length).all fun i => decide (0 ≤ stop ps (hasB (firsts ps S)) (nth (ends ps) i).toNat)) = true := all_t fun i hi => by
    obtain ⟨e, h1, h2, h3⟩ := end_nth hi
    rw [h3, Int.toNat_natCast, stop_firsts hp S h1]
    exact decide_eq_true (hS e h1 h2)
  have h4 : ((List.range (firsts ps S).length).all fun i => stop ps (hasB (firsts ps S)) (nth (firsts ps S) i).toNat == nth (firsts ps S) i) = true := all_t fun i hi => by
    obtain ⟨j, h1, h2, h3⟩ := nth_filt hi
    have h3' : nth (firsts ps S) i = (j : Int) := h3
    rw [h3', Int.toNat_natCast, stop_firsts hp S h1]
    exact h2
  rw [h2, h3, h4]; rfl
/-- Stops of the one or the other. -/
def orS (S T : Int → Bool) (y : Int) : Bool := S y || T y
/-- Stops of the one behind those of the other. -/
def andS (ps : List Int) (S T : Int → Bool) (y : Int) : Bool := (S y && decide (0 ≤ stop ps T y.toNat)) || (T y && decide (0 ≤ stop ps S y.toNat))
def minI (s t : Int) : Int := if s < 0 then t else if t < 0 then s else min s t
def maxI (s t : Int) : Int := if s < 0 then -1 else if t < 0 then -1 else max s t
theorem minI_pos {s t : Int} (h : 0 ≤ s) (h2 : 0 ≤ t) : minI s t = min s t := by rw [minI, if_neg (by omega), if_neg (by omega)]
theorem maxI_pos {s t : Int} (h : 0 ≤ s) (h2 : 0 ≤ t) : maxI s t = max s t := by rw [maxI, if_neg (by omega), if_neg (by omega)]
theorem stop_or {ps : List Int} (h : Pa ps) (S T : Int → Bool) : ∀ x, x < ps.length → stop ps (orS S T) x = minI (stop ps S x) (stop ps T x) := by
  refine h.above ?_ ?_
  · rw [stop_zero, stop_zero, stop_zero, orS]
    cases S 0 <;> cases T 0 <;> rfl
  · intro x h1 h2 ih
    have hpar := (h.upN h1 h2).2
    have l1 := stop_low h S (par ps x) (by omega)
    have l2 := stop_low h T (par ps x) (by omega)
    rw [stop_up h _ h1 h2, stop_up h S h1 h2, stop_up h T h1 h2, ih, orS]
    generalize stop ps S (par ps x) = s at *
    generalize stop ps T (par ps x) = t at *
    unfold minI
    cases S (x : Int) <;> cases T (x : Int) <;> simp only [Bool.or_true, Bool.or_false, Bool.false_eq_true, if_true, if_false] <;> (repeat' split) <;> omega
theorem stop_and {ps : List Int} (h : Pa ps) (S T : Int → Bool) : ∀ x, x < ps.length → stop ps (andS ps S T) x = maxI (stop ps S x) (stop ps T x) := by
  refine h.above ?_ ?_
  · have e1 := stop_zero ps S
    have e2 := stop_zero ps T
    rw [stop_zero, andS, Int.toNat_zero, e1, e2]
    cases S 0 <;> cases T 0 <;> rfl
  · intro x h1 h2 ih
    have hpar := (h.upN h1 h2).2
    have l1 := stop_low h S (par ps x) (by omega)
    have l2 := stop_low h T (par ps x) (by omega)
    have e1 := stop_up h S h1 h2
    have e2 := stop_up h T h1 h2
    rw [stop_up h _ h1 h2, ih, andS, Int.toNat_natCast, e1, e2]
    generalize stop ps S (par ps x) = s at *
    generalize stop ps T (par ps x) = t at *
    clear e1 e2 ih
    unfold maxI
    cases S (x : Int) <;> cases T (x : Int) <;> simp only [Bool.true_and, Bool.false_and, Bool.or_false, Bool.false_or, Bool.false_eq_true, if_true, if_false, Bool.or_eq_true, decide_eq_true_eq] <;> (repeat' split) <;> omega
theorem merge_early {ps a b : List Int} (hp : Pa ps) (ha : stopB ps a = true) (hb : stopB ps b = true) : mergeV ps a b true = firsts ps (orS (hasB a) (hasB b)) := filt_congr fun y hy => by
  rw [← isStop_ends hp _ hy, mergeP, isStop, Bool.eq_iff_iff, List.any_eq_true, List.any_eq_true]
  have key : ∀ e, e ∈ ends ps → pickI true (stop ps (hasB a) e.toNat) (stop ps (hasB b) e.toNat) = stop ps (orS (hasB a) (hasB b)) e.toNat := fun e he => by
    obtain ⟨i, hi, hie, rfl⟩ := mem_filt.1 he
    rw [Int.toNat_natCast, stop_or hp _ _ i hi]
    have h1 := of_decide_eq_true (rule_end hp ha hi hie)
    have h2 := of_decide_eq_true (rule_end hp hb hi hie)
    rw [minI_pos h1 h2, pick_t]
    by_cases h3 : stop ps (hasB b) i < stop ps (hasB a) i
    · rw [if_pos h3]; omega
    · rw [if_neg h3]; omega
  constructor
  · rintro ⟨e, he, h⟩; exact ⟨e, he, by rw [← key e he]; exact h⟩
  · rintro ⟨e, he, h⟩; exact ⟨e, he, by rw [key e he]; exact h⟩
theorem merge_late {ps a b : List Int} (hp : Pa ps) (ha : stopB ps a = true) (hb : stopB ps b = true) : mergeV ps a b false = firsts ps (andS ps (hasB a) (hasB b)) := filt_congr fun y hy => by
  rw [← isStop_ends hp _ hy, mergeP, isStop, Bool.eq_iff_iff, List.any_eq_true, List.any_eq_true]
  have key : ∀ e, e ∈ ends ps → pickI false (stop ps (hasB a) e.toNat) (stop ps (hasB b) e.toNat) = stop ps (andS ps (hasB a) (hasB b)) e.toNat := fun e he => by
    obtain ⟨i, hi, hie, rfl⟩ := mem_filt.1 he
    rw [Int.toNat_natCast, stop_and hp _ _ i hi]
    have h1 := of_decide_eq_true (rule_end hp ha hi hie)
    have h2 := of_decide_eq_true (rule_end hp hb hi hie)
    rw [maxI_pos h1 h2, pick_f]
    by_cases h3 : stop ps (hasB a) i ≤ stop ps (hasB b) i
    · rw [if_pos h3]; omega
    · rw [if_neg h3]; omega
  constructor
  · rintro ⟨e, he, h⟩; exact ⟨e, he, by rw [← key e he]; exact h⟩
  · rintro ⟨e, he, h⟩; exact ⟨e, he, by rw [key e he]; exact h⟩
theorem both_end {ps a b : List Int} (hp : Pa ps) (ha : stopB ps a = true) (hb : stopB ps b = true) {x : Nat} (hx : x < ps.length) (he : endB ps x = true) :
    0 ≤ stop ps (hasB a) x ∧ 0 ≤ stop ps (hasB b) x := ⟨of_decide_eq_true (rule_end hp ha hx he), of_decide_eq_true (rule_end hp hb hx he)⟩
theorem early_stop {ps a b : List Int} (hp : Pa ps) (ha : stopB ps a = true) (hb : stopB ps b = true) : stopB ps (mergeV ps a b true) = true := by
  rw [merge_early hp ha hb]
  refine firsts_stop2 hp fun x hx he => ?_
  have := both_end hp ha hb hx he
  rw [stop_or hp _ _ x hx, minI, if_neg (by omega), if_neg (by omega)]; omega
theorem late_stop2 {ps a b : List Int} (hp : Pa ps) (ha : stopB ps a = true) (hb : stopB ps b = true) : stopB ps (mergeV ps a b false) = true := by
  rw [merge_late hp ha hb]
  refine firsts_stop2 hp fun x hx he => ?_
  have := both_end hp ha hb hx he
  rw [stop_and hp _ _ x hx, maxI, if_neg (by omega), if_neg (by omega)]; omega
theorem early_late {ps a b : List Int} (hp : Pa ps) (ha : stopB ps a = true) (hb : stopB ps b = true) : noLaterB ps (mergeV ps a b true) (mergeV ps a b false) = true := by
  rw [merge_early hp ha hb, merge_late hp ha hb]
  refine all_t fun i hi => ?_
  obtain ⟨e, h3, h4, h5⟩ := end_nth hi
  have := both_end hp ha hb h3 h4
  rw [h5, Int.toNat_natCast, stop_firsts hp _ h3, stop_firsts hp _ h3, stop_or hp _ _ e h3, stop_and hp _ _ e h3, minI_pos this.1 this.2, maxI_pos this.1 this.2]
  exact decide_eq_true (by omega)
/-- What two stoppings have together, the earlier and the later one of both have together. -/
theorem two_sum {ps : List Int} (hp : Pa ps) (S T : Int → Bool) (f : Nat → Int) : stS ps (orS S T) f + stS ps (andS ps S T) f = stS ps S f + stS ps T f := by
  unfold stS
  rw [← sumR_add, ← sumR_add]
  refine sumR_congr fun x hx => ?_
  have l1 := stop_low hp S x hx
  have l2 := stop_low hp T x hx
  unfold atF firB
  rw [stop_or hp S T x hx, stop_and hp S T x hx]
  generalize stop ps S x = s at *
  generalize stop ps T x = t at *
  unfold minI maxI
  simp only [beq_iff_eq]
  (repeat' split) <;> omega
theorem merge_sum {ps ws l a b : List Int} (hp : Pa ps) (ha : stopB ps a = true) (hb : stopB ps b = true) : rmS ps ws l (mergeV ps a b true) + rmS ps ws l (mergeV ps a b false) = rmS ps ws l a + rmS ps ws l b := by
  rw [merge_early hp ha hb, merge_late hp ha hb, rm_firsts, rm_firsts, rm_rule hp ha, rm_rule hp hb]
  exact two_sum hp _ _ _
end Go.Proofs.Ytnbomleieianoaa
