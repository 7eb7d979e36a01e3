/- Contracts and plain laws for the statement FnStakes, part 17. No conditions but those stated in each. -/
import Derived.Test.YtnbomleieianoaaBnFnStakes12
import Derived.Test.YtnbomleieianoaaBnFnStakes16
import Derived.Test.YtnbomleieianoaaBnFnStakes15
import Derived.ChangeKeysEq
import Derived.Test.YtnbomleieianoaaBnFnStakes14
import Derived.Test.YtnbomleieianoaaBnFnStakes18
import Derived.Test.YtnbomleieianoaaBnFnStakes2
import Derived.Test.YtnbomleieianoaaBnFnStakes19
import Derived.Test.YtnbomleieianoaaBnFnStakes5
import Derived.Test.YtnbomleieianoaaBnFnStakes3
import Derived.Test.YtnbomleieianoaaBnFnStakes4
/- Plain laws and contracts: the level with the greatest mean, by the program and by the reference. No conditions but those stated. -/
namespace Go.Proofs.Ytnbomleieianoaa
open Go.RowKit

theorem stop_fir {ps : List Int} (hp : Pa ps) (S : Int → Bool) : ∀ x, x < ps.length → stop ps (fun y => firB ps S y.toNat) x = stop ps S x := by
  refine hp.above ?_ ?_
  · rw [stop_zero, stop_zero]
    have := (beh_zero ps S).2
    simp only [Int.toNat_zero, this]
  · intro x h1 h2 ih
    rw [stop_up hp _ h1 h2, stop_up hp S h1 h2, ih]
    by_cases hb : 0 ≤ stop ps S (par ps x)
    · rw [if_pos hb, if_pos hb]
    · rw [if_neg hb, if_neg hb, Int.toNat_natCast, ((beh_up hp S h1 h2).2 (decide_eq_false hb)).2]
theorem asc_ris {l : List Int} (h : l.Pairwise (· < ·)) : risB l = true := ris_t fun i h1 hi => by
  rw [List.pairwise_iff_getElem] at h
  rw [nth_lt hi, nth_lt (by omega)]
  exact h (i - 1) i (by omega) hi (by omega)
theorem firsts_stop {ps : List Int} (hp : Pa ps) {S : Int → Bool} (hS : ∀ x : Nat, x < ps.length → endB ps x = true → S (x : Int) = true) : stopB ps (firsts ps S) = true := by
  have hh : ∀ x, x < ps.length → stop ps (hasB (firsts ps S)) x = stop ps S x := fun x hx => by
    rw [← stop_fir hp S x hx]
    refine stop_congr hp (fun y hy => ?_) hx
    rw [Int.toNat_natCast, Bool.eq_iff_iff, has_mem, firsts, mem_filt]
    constructor
    · rintro ⟨i, _, h2, h3⟩
      obtain rfl : i = y := by omega
      exact h2
    · intro h
      exact ⟨y, hy, h, rfl⟩
  have h1 : risB (firsts ps S) = true := asc_ris (filt_asc _ _)
  rw [← rule_stop hp, ruleB, h1]
  have h2 : allIn (firsts ps S) 0 ((ps.length : Int) - 1) = true := all_t fun i hi => by
    obtain ⟨j, h1, _, h3⟩ := nth_filt hi
    rw [firsts] at *
    rw [h3]
    exact inB_mk (by omega) (by omega)
  have h3 : ((List.range (ends ps).length).all fun i => decide (0 ≤ stop ps (hasB (firsts ps S)) (nth (ends ps) i).toNat)) = true := all_t fun i hi => by
    obtain ⟨e, h1, h2, h3⟩ := end_nth hi
    rw [h3, Int.toNat_natCast, hh e h1]
    exact decide_eq_true (stop_end hp S h1 (hS e h1 h2))
  have h4 : ((List.range (firsts ps S).length).all fun i => stop ps (hasB (firsts ps S)) (nth (firsts ps S) i).toNat == nth (firsts ps S) i) = true := all_t fun i hi => by
    obtain ⟨j, h1, h2, h3⟩ := nth_filt hi
    have h3' : nth (firsts ps S) i = (j : Int) := h3
    rw [h3', Int.toNat_natCast, hh j h1]
    exact h2
  rw [h2, h3, h4]; rfl
/-- Fractions in lowest terms of one denominator. -/
theorem cut_parts (a : Int) {s : Int} (hs : 0 < s) : ∃ g : Int, 0 < g ∧ a = g * nm a s ∧ s = g * dn a s := by
  have hg := gcdI_pos (a := a) (b := s) (by omega)
  refine ⟨gcdI a s, hg, ?_, ?_⟩
  · rw [nm, if_neg (by omega)]; exact (Int.mul_ediv_cancel' (gcdI_dvd_l a s)).symm
  · rw [dn, if_neg (by omega)]; exact (Int.mul_ediv_cancel' (gcdI_dvd_r a s)).symm
theorem cut_lt (a b : Int) {s : Int} (hs : 0 < s) : (nm a s * dn b s < nm b s * dn a s) ↔ a < b := by
  obtain ⟨g, hg, ha, hs1⟩ := cut_parts a hs
  obtain ⟨h, hh, hb, hs2⟩ := cut_parts b hs
  generalize nm a s = A at *
  generalize dn a s = D at *
  generalize nm b s = B at *
  generalize dn b s = E at *
  have hgh : 0 < g * h := Int.mul_pos hg hh
  have e1 : A * E * (g * h) = a * s := by rw [show A * E * (g * h) = (g * A) * (h * E) by grind, ← ha, ← hs2]
  have e2 : B * D * (g * h) = b * s := by rw [show B * D * (g * h) = (h * B) * (g * D) by grind, ← hb, ← hs1]
  constructor
  · intro hl
    have := Int.mul_lt_mul_of_pos_right hl hgh
    rw [e1, e2] at this
    exact Int.lt_of_mul_lt_mul_right this (by omega)
  · intro hl
    have := Int.mul_lt_mul_of_pos_right hl hs
    rw [← e1, ← e2] at this
    exact Int.lt_of_mul_lt_mul_right this (by omega)
theorem cut_eq {a b s : Int} (hs : 0 < s) (h1 : nm a s = nm b s) (h2 : dn a s = dn b s) : a = b := by
  have hab := cut_lt a b hs
  have hba := cut_lt b a hs
  rw [h1, h2] at hab
  rw [h1, h2] at hba
  omega
/-- The best one of the levels that the program looks at, before the j-th. -/
def blL (T : Int → Int) (l : List Int) : Nat → Int
  | 0 => -999
  | j + 1 => if hasB l ((j : Int) - 1000) && decide (T (blL T l j) < T ((j : Int) - 999)) then (j : Int) - 999 else blL T l j
/-- The best one of the levels of the first payments. -/
def slL (T : Int → Int) (l : List Int) : Nat → Int
  | 0 => -999
  | x + 1 => if decide (nth l x + 1 ≤ 999) && (decide (T (slL T l x) < T (nth l x + 1)) || (decide (T (nth l x + 1) = T (slL T l x)) && decide (nth l x + 1 < slL T l x))) then nth l x + 1 else slL T l x
def BestOf (T : Int → Int) (C : Int → Prop) (b : Int) : Prop := C b ∧ ∀ c, C c → T c < T b ∨ (T c = T b ∧ b ≤ c)
theorem best_one {T : Int → Int} {C : Int → Prop} {a b : Int} (ha : BestOf T C a) (hb : BestOf T C b) : a = b := by
  have h1 := ha.2 b hb.1
  have h2 := hb.2 a ha.1
  omega
theorem best_iff {T : Int → Int} {C D : Int → Prop} {a : Int} (h : BestOf T C a) (hc : ∀ x, C x ↔ D x) : BestOf T D a := ⟨(hc a).1 h.1, fun c hd => h.2 c ((hc c).2 hd)⟩
theorem blL_best (T : Int → Int) (l : List Int) : ∀ j : Nat, BestOf T (fun c => c = -999 ∨ (-999 ≤ c ∧ c < (j : Int) - 999 ∧ hasB l (c - 1) = true)) (blL T l j)
  | 0 => ⟨.inl rfl, fun c hc => by
    rcases hc with rfl | h
    · exact .inr ⟨rfl, by rw [blL]; omega⟩
    · omega⟩
  | j + 1 => by
    have ih := blL_best T l j
    rw [blL]
    by_cases hh : hasB l ((j : Int) - 1000) = true
    · by_cases hlt : T (blL T l j) < T ((j : Int) - 999)
      · rw [if_pos (by rw [hh, decide_eq_true hlt]; rfl)]
        refine ⟨.inr ⟨by omega, by omega, by rw [show (j : Int) - 999 - 1 = (j : Int) - 1000 by omega]; exact hh⟩, fun c hc => ?_⟩
        rcases hc with rfl | ⟨h1, h2, h3⟩
        · have := ih.2 (-999) (.inl rfl); omega
        · by_cases e : c = (j : Int) - 999
          · subst e; exact .inr ⟨rfl, Int.le_refl _⟩
          · have := ih.2 c (.inr ⟨h1, by omega, h3⟩); omega
      · rw [if_neg (by rw [decide_eq_false hlt]; simp)]
        refine ⟨?_, fun c hc => ?_⟩
        · rcases ih.1 with h | ⟨h1, h2, h3⟩
          · exact .inl h
          · exact .inr ⟨h1, by omega, h3⟩
        · rcases hc with rfl | ⟨h1, h2, h3⟩
          · exact ih.2 (-999) (.inl rfl)
          · by_cases e : c = (j : Int) - 999
            · subst e
              rcases Int.lt_or_eq_of_le (Int.not_lt.1 hlt) with h | h
              · exact .inl h
              · refine .inr ⟨h, ?_⟩
                rcases ih.1 with h | ⟨_, h2, _⟩ <;> omega
            · exact ih.2 c (.inr ⟨h1, by omega, h3⟩)
    · have hh := Bool.eq_false_iff.2 hh
      rw [if_neg (by rw [hh]; simp)]
      refine best_iff ih fun c => ?_
      constructor
      · rintro (h | ⟨h1, h2, h3⟩)
        · exact .inl h
        · exact .inr ⟨h1, by omega, h3⟩
      · rintro (h | ⟨h1, h2, h3⟩)
        · exact .inl h
        · refine .inr ⟨h1, ?_, h3⟩
          by_cases e : c = (j : Int) - 999
          · subst e
            rw [show (j : Int) - 999 - 1 = (j : Int) - 1000 by omega, hh] at h3; cases h3
          · omega
theorem slL_best (T : Int → Int) (l : List Int) : ∀ k : Nat, BestOf T (fun c => c = -999 ∨ (∃ x : Nat, x < k ∧ c = nth l x + 1 ∧ c ≤ 999)) (slL T l k)
  | 0 => ⟨.inl rfl, fun c hc => by
    rcases hc with rfl | ⟨x, h, _⟩
    · exact .inr ⟨rfl, by rw [slL]; omega⟩
    · omega⟩
  | k + 1 => by
    have ih := slL_best T l k
    rw [slL]
    by_cases h9 : nth l k + 1 ≤ 999
    · by_cases hw : T (slL T l k) < T (nth l k + 1) ∨ (T (nth l k + 1) = T (slL T l k) ∧ nth l k + 1 < slL T l k)
      · rw [if_pos (by rw [decide_eq_true h9]; simpa using hw)]
        refine ⟨.inr ⟨k, by omega, rfl, h9⟩, fun c hc => ?_⟩
        rcases hc with rfl | ⟨x, h1, h2, h3⟩
        · have := ih.2 (-999) (.inl rfl); omega
        · by_cases e : x = k
          · subst e; subst h2; exact .inr ⟨rfl, Int.le_refl _⟩
          · have := ih.2 c (.inr ⟨x, by omega, h2, h3⟩); omega
      · rw [if_neg (by rw [decide_eq_true h9]; simpa using hw)]
        refine ⟨?_, fun c hc => ?_⟩
        · rcases ih.1 with h | ⟨x, h1, h2⟩
          · exact .inl h
          · exact .inr ⟨x, by omega, h2⟩
        · rcases hc with rfl | ⟨x, h1, h2, h3⟩
          · exact ih.2 (-999) (.inl rfl)
          · by_cases e : x = k
            · subst e; subst h2; omega
            · exact ih.2 c (.inr ⟨x, by omega, h2, h3⟩)
    · rw [if_neg (by rw [decide_eq_false h9]; simp)]
      refine best_iff ih fun c => ?_
      constructor
      · rintro (h | ⟨x, h1, h2⟩)
        · exact .inl h
        · exact .inr ⟨x, by omega, h2⟩
      · rintro (h | ⟨x, h1, h2, h3⟩)
        · exact .inl h
        · by_cases e : x = k
          · subst e; omega
          · exact .inr ⟨x, by omega, h2, h3⟩
theorem best_same (T : Int → Int) {l : List Int} (hl : ∀ i, -999 ≤ nth l i ∧ nth l i ≤ 999) : blL T l 1999 = slL T l l.length := by
  refine best_one (best_iff (blL_best T l 1999) fun c => ?_) (slL_best T l l.length)
  constructor
  · rintro (h | ⟨h1, h2, h3⟩)
    · exact .inl h
    · obtain ⟨i, hi, hie⟩ := hasB_mem h3
      exact .inr ⟨i, hi, by omega, by omega⟩
  · rintro (h | ⟨x, h1, h2, h3⟩)
    · exact .inl h
    · have := hl x
      exact .inr ⟨by omega, by omega, has_t h1 (by omega)⟩
/-- The sum behind the mean of the rule of a level. -/
def lvT (ps ws l : List Int) (lev : Int) : Int := rmS ps ws l (firsts ps (fS (levB ps l lev)))
theorem lev_stop {ps l : List Int} (hp : Pa ps) (lev : Int) : stopB ps (firsts ps (fS (levB ps l lev))) = true := firsts_stop hp fun x _ he => by
  rw [fS, Int.toNat_natCast, levB, he]; rfl
def lvV (ps ws l : List Int) : Int := if paysB ps ws l then slL (lvT ps ws l) l l.length else 0
def lvN (ps ws l : List Int) : Int := if paysB ps ws l then nm (lvT ps ws l (lvV ps ws l)) (nth (sums ps ws) 0) else 0
def lvD (ps ws l : List Int) : Int := if paysB ps ws l then dn (lvT ps ws l (lvV ps ws l)) (nth (sums ps ws) 0) else 0
theorem lv_no {ps ws l : List Int} (h : paysB ps ws l = false) : lvV ps ws l = 0 ∧ lvN ps ws l = 0 ∧ lvD ps ws l = 0 := by
  unfold lvN lvD; rw [lvV, h]; exact ⟨rfl, rfl, rfl⟩
theorem lv_yes {ps ws l : List Int} (h : paysB ps ws l = true) : lvV ps ws l = slL (lvT ps ws l) l l.length ∧ lvN ps ws l = nm (lvT ps ws l (lvV ps ws l)) (nth (sums ps ws) 0) ∧ lvD ps ws l = dn (lvT ps ws l (lvV ps ws l)) (nth (sums ps ws) 0) := by
  unfold lvN lvD; rw [lvV, h]; exact ⟨rfl, rfl, rfl⟩
theorem lvT_bd {ps ws l : List Int} (h : paysB ps ws l = true) (lev : Int) : -11508480 ≤ lvT ps ws l lev ∧ lvT ps ws l lev ≤ 11508480 := by
  obtain ⟨hT, _, _, _, hl⟩ := paysB_t h
  have h1 := mS_bd (rule := firsts ps (fS (levB ps l lev))) hT hl (firsts ps (fS (levB ps l lev))).length
  have h2 := firsts_length ps (fS (levB ps l lev))
  have h3 := hT.toPa.n24
  rw [lvT, rmS]
  omega
theorem eqA2 (a b c d : Int) (w : World) : (Op.equalIn 10000 48 (.agg #[.int .i64 a, .int .i64 b]) (.agg #[.int .i64 c, .int .i64 d])).run Try.prog w = .ok (a == c && b == d) w := by
  have hu : Try.prog.underlying 48 = some (.array 2 3) := by kernel_rfl
  have hi : Try.prog.underlying 3 = some (.int .i64) := by kernel_rfl
  have hc : Try.prog.cellsOf 3 = 1 := by kernel_rfl
  have hp : Try.prog.plainKey 3 = true := by kernel_rfl
  obtain ⟨i, hinfo⟩ : ∃ i, Try.prog.info? 3 = some i := by
    have h := info_int
    cases h2 : Try.prog.info? 3 with
    | none => rw [h2] at h; cases h
    | some i => exact ⟨i, rfl⟩
  rw [show (10000 : Nat) = 9999 + 1 from rfl, run_equalIn_array w 9999 _ _ hu hinfo, hc, show List.range 2 = [0, 1] from rfl]
  have e1 : ∀ W, (Op.equalIn 9999 3 (.int .i64 a) (.int .i64 c)).run Try.prog W = .ok (a == c) W := fun W => run_equalIn_int W 9998 _ _ _ _ _ hi
  have e2 : ∀ W, (Op.equalIn 9999 3 (.int .i64 b) (.int .i64 d)).run Try.prog W = .ok (b == d) W := fun W => run_equalIn_int W 9998 _ _ _ _ _ hi
  have p1 : ∀ (x y : Int) W, (part 3 #[.int .i64 x, .int .i64 y] (0 * 1)).run Try.prog W = .ok (.int .i64 x) W := fun x y W => run_part_plain W hp rfl
  have p2 : ∀ (x y : Int) W, (part 3 #[.int .i64 x, .int .i64 y] (1 * 1)).run Try.prog W = .ok (.int .i64 y) W := fun x y W => run_part_plain W hp rfl
  generalize (a == c) = r1 at *
  generalize (b == d) = r2 at *
  cases r1
  · simp only [Op.eqItems, Sem.run_bind, p1, e1, Result.andThen_ok, Sem.run_ite, Bool.not_false, if_true, Sem.run_pure, Bool.false_and]
  · cases r2
    · simp only [Op.eqItems, Sem.run_bind, p1, p2, e1, e2, Result.andThen_ok, Sem.run_ite, Bool.not_true, Bool.not_false, Bool.false_eq_true, if_true, if_false, Sem.run_pure, Bool.true_and]
    · simp only [Op.eqItems, Sem.run_bind, p1, p2, e1, e2, Result.andThen_ok, Sem.run_ite, Bool.not_true, Bool.false_eq_true, if_false, Sem.run_pure, Bool.true_and]
theorem Pair.st2 {w : World} {g : Nat} {x y : Value} (h : Pair w g x y) (x' y' : Value) : Pair ((w.setCell ⟨g, 0, none⟩ x').setCell ⟨g, 1, none⟩ y') g x' y' :=
  ⟨(h.set x' y').1, (h.set x' y').2, by simpa using h.f0, by simpa using h.f1⟩
theorem Pair.fr2 {w : World} {g b : Nat} {x y : Value} (h : Pair w g x y) (hne : b ≠ g) (x' y' : Value) : Pair ((w.setCell ⟨b, 0, none⟩ x').setCell ⟨b, 1, none⟩ y') g x y := (h.far hne x').far hne y'
theorem cut_bd (a : Int) {s : Int} (hs : 0 < s) : (nm a s).natAbs ≤ a.natAbs ∧ 1 ≤ dn a s ∧ dn a s ≤ s := by
  obtain ⟨g, hg, h1, h2⟩ := cut_parts a hs
  have h3 := dn_pos a s (by omega)
  refine ⟨?_, h3, ?_⟩
  · have : a.natAbs = g.natAbs * (nm a s).natAbs := by rw [← Int.natAbs_mul, ← h1]
    rw [this]
    exact Nat.le_mul_of_pos_left _ (by omega)
  · have : 1 * dn a s ≤ g * dn a s := Int.mul_le_mul_of_nonneg_right (by omega) (by omega)
    omega
theorem cut_prod {a b s : Int} (hs : 0 < s) (hs2 : s ≤ 480) (ha : -11508480 ≤ a ∧ a ≤ 11508480) : -1000000000000 ≤ nm a s * dn b s ∧ nm a s * dn b s ≤ 1000000000000 := by
  obtain ⟨h1, _, _⟩ := cut_bd a hs
  obtain ⟨_, h2, h3⟩ := cut_bd b hs
  have := mul_abs (B := 11508480) (U := 480) (x := nm a s) (u := dn b s) (by omega) (by omega) (by omega)
  omega
def cmpI (x y : Int) : Int := if x < y then -1 else if x > y then 1 else 0
theorem cmp_gt {x y : Int} : (cmpI x y > 0) ↔ y < x := by
  unfold cmpI
  split
  · omega
  · split <;> omega
theorem KeepR.set2 {u w : World} {g : Nat} {x y : Value} (h : KeepR u w) (hg : u.heap.size ≤ g) : KeepR u ((w.setCell ⟨g, 0, none⟩ x).setCell ⟨g, 1, none⟩ y) := (Below.setCell h hg x).setCell hg y
end Go.Proofs.Ytnbomleieianoaa

/- Plain law: what a number on the nodes of a tree is together at the nodes of a stopping, against what it is at the root. Nothing of the program. -/
namespace Go.Proofs.Ytnbomleieianoaa

theorem kidSum_zero {ps : List Int} {f : Nat → Int} {x : Nat} : ∀ {k : Nat}, (∀ y, y < k → nth ps y = x → f y = 0) → kidSum ps f x k = 0
  | 0, _ => rfl
  | k + 1, h => by
    have ih := kidSum_zero (k := k) fun y hy => h y (by omega)
    by_cases e : nth ps k = x
    · rw [kidSum_t e, ih, h k (by omega) e]; rfl
    · rw [kidSum_f e, ih]
theorem kid_par {ps : List Int} (h : Pa ps) {x y : Nat} (hy : y < ps.length) (e : nth ps y = x) : 1 ≤ y ∧ par ps y = x := by
  have := kids_lt h hy e
  exact ⟨by omega, by unfold par; rw [e]; simp⟩
/-- Sums over the numbers below n. -/
def sumR (F : Nat → Int) (n : Nat) : Int := sumOf id ((List.range n).map F)
theorem sumR_zero (F : Nat → Int) : sumR F 0 = 0 := rfl
theorem sumR_succ (F : Nat → Int) (n : Nat) : sumR F (n + 1) = sumR F n + F n := by
  unfold sumR; rw [List.range_succ, List.map_append, sumOf_append]; simp [sumOf]
theorem sumR_le {F G : Nat → Int} : ∀ {n : Nat}, (∀ x, x < n → F x ≤ G x) → sumR F n ≤ sumR G n
  | 0, _ => Int.le_refl _
  | n + 1, h => by
    have ih := sumR_le (n := n) fun x hx => h x (by omega)
    have := h n (by omega)
    rw [sumR_succ, sumR_succ]; omega
theorem sumR_congr {F G : Nat → Int} : ∀ {n : Nat}, (∀ x, x < n → F x = G x) → sumR F n = sumR G n
  | 0, _ => rfl
  | n + 1, h => by rw [sumR_succ, sumR_succ, sumR_congr (n := n) fun x hx => h x (by omega), h n (by omega)]
theorem sumR_add (F G : Nat → Int) : ∀ n : Nat, sumR (fun x => F x + G x) n = sumR F n + sumR G n
  | 0 => rfl
  | n + 1 => by rw [sumR_succ, sumR_succ, sumR_succ, sumR_add F G n]; omega
theorem sumR_eq {F G : Nat → Int} : ∀ {n : Nat}, (∀ x, x < n → F x ≤ G x) → sumR F n = sumR G n → ∀ x, x < n → F x = G x
  | 0, _, _, x, hx => by omega
  | n + 1, h, he, x, hx => by
    have h1 := sumR_le (n := n) fun x hx => h x (by omega)
    have h2 := h n (by omega)
    rw [sumR_succ, sumR_succ] at he
    by_cases e : x = n
    · subst e; omega
    · exact sumR_eq (n := n) (fun x hx => h x (by omega)) (by omega) x (by omega)
theorem sumOf_filt (f : Int → Int) (p : Nat → Bool) : ∀ n : Nat, sumOf f (filt p n) = sumR (fun x => if p x then f x else 0) n
  | 0 => rfl
  | n + 1 => by
    rw [sumR_succ, ← sumOf_filt f p n]
    cases hp : p n
    · rw [filt_f hp]; simp
    · rw [filt_t hp, sumOf_append]; simp [sumOf]
/-- f where S is so for the first time, 0 elsewhere. -/
def atF (ps : List Int) (S : Int → Bool) (f : Nat → Int) (x : Nat) : Int := if firB ps S x then f x else 0
def atL (ps : List Int) (S : Int → Bool) (f : Nat → Int) : List Int := (List.range ps.length).map (atF ps S f)
/-- The sum of f over the nodes at which S is so for the first time. -/
def stS (ps : List Int) (S : Int → Bool) (f : Nat → Int) : Int := sumR (atF ps S f) ps.length
theorem atL_length (ps : List Int) (S : Int → Bool) (f : Nat → Int) : (atL ps S f).length = ps.length := by simp [atL]
theorem nth_atL {ps : List Int} {S : Int → Bool} {f : Nat → Int} {x : Nat} (h : x < ps.length) : nth (atL ps S f) x = atF ps S f x := by rw [atL, nth_map_range h]
theorem atG_beh {ps : List Int} {S : Int → Bool} {f : Nat → Int} (h : Pa ps) : ∀ x, x < ps.length → 1 ≤ x → behB ps S (par ps x) = true → nth (gathA ps (atL ps S f)) x = 0 := by
  refine h.below ?_
  intro x hx ih h1 hb
  have hu := (beh_up h S h1 hx).1 hb
  rw [gathA_kids h (atL_length ps S f), nth_atL hx, atF, hu.2, kidSum_zero]
  · rfl
  · intro y hy e
    have hk := kid_par h hy e
    exact ih y hy e hk.1 (by rw [hk.2]; exact hu.1)
theorem beh_fir {ps : List Int} (h : Pa ps) (S : Int → Bool) {x : Nat} (hx : x < ps.length) (hc : x = 0 ∨ behB ps S (par ps x) = false) : behB ps S x = S x ∧ firB ps S x = S x := by
  by_cases h0 : x = 0
  · subst h0; exact beh_zero ps S
  · rcases hc with hc | hc
    · omega
    · exact (beh_up h S (by omega) hx).2 hc
theorem beh_S {ps : List Int} (h : Pa ps) {S : Int → Bool} {x : Nat} (hx : x < ps.length) (hb : behB ps S x = false) : S x = false := by
  by_cases h0 : x = 0
  · subst h0; rw [← hb]; exact (beh_zero ps S).1.symm
  · cases hp : behB ps S (par ps x)
    · rw [← hb]; exact ((beh_up h S (by omega) hx).2 hp).1.symm
    · have := ((beh_up h S (by omega) hx).1 hp).1
      rw [hb] at this; cases this
theorem fir_S {ps : List Int} (h : Pa ps) {S : Int → Bool} {x : Nat} (hx : x < ps.length) (hb : firB ps S x = true) : S x = true := by
  by_cases h0 : x = 0
  · subst h0; rw [← hb]; exact (beh_zero ps S).2.symm
  · cases hp : behB ps S (par ps x)
    · rw [← hb]; exact ((beh_up h S (by omega) hx).2 hp).2.symm
    · have := ((beh_up h S (by omega) hx).1 hp).2
      rw [hb] at this; cases this
theorem stS_root {ps : List Int} (h : Pa ps) (S : Int → Bool) (f : Nat → Int) : stS ps S f = nth (gathA ps (atL ps S f)) 0 := by
  rw [gathA_root h (atL_length _ _ _)]; rfl
/-- Where f is no less than what its children have together, it is no less at the root than at a stopping. -/
theorem stS_le {ps : List Int} (h : Pa ps) {S : Int → Bool} {f : Nat → Int} (hf : ∀ x, x < ps.length → behB ps S x = false → kidSum ps f x ps.length ≤ f x) : stS ps S f ≤ f 0 := by
  rw [stS_root h]
  refine h.below (P := fun x => (x = 0 ∨ behB ps S (par ps x) = false) → nth (gathA ps (atL ps S f)) x ≤ f x) ?_ 0 (by have := h.n1; omega) (.inl rfl)
  intro x hx ih hc
  have hbf := beh_fir h S hx hc
  rw [gathA_kids h (atL_length _ _ _), nth_atL hx, atF, hbf.2]
  cases hS : S x
  · have h1 := hf x hx (hbf.1.trans hS)
    have h2 := kidSum_le (ps := ps) (f := fun y => nth (gathA ps (atL ps S f)) y) (g := f) (x := x) (k := ps.length) fun y hy e => ih y hy e (.inr (by rw [(kid_par h hy e).2, hbf.1, hS]))
    simp only [Bool.false_eq_true, if_false]; omega
  · rw [kidSum_zero fun y hy e => atG_beh h y hy (kid_par h hy e).1 (by rw [(kid_par h hy e).2, hbf.1, hS])]
    simp
theorem stS_ge {ps : List Int} (h : Pa ps) {S : Int → Bool} {f : Nat → Int} (hf : ∀ x, x < ps.length → behB ps S x = false → f x ≤ kidSum ps f x ps.length) : f 0 ≤ stS ps S f := by
  rw [stS_root h]
  refine h.below (P := fun x => (x = 0 ∨ behB ps S (par ps x) = false) → f x ≤ nth (gathA ps (atL ps S f)) x) ?_ 0 (by have := h.n1; omega) (.inl rfl)
  intro x hx ih hc
  have hbf := beh_fir h S hx hc
  rw [gathA_kids h (atL_length _ _ _), nth_atL hx, atF, hbf.2]
  cases hS : S x
  · have h1 := hf x hx (hbf.1.trans hS)
    have h2 := kidSum_le (ps := ps) (f := f) (g := fun y => nth (gathA ps (atL ps S f)) y) (x := x) (k := ps.length) fun y hy e => ih y hy e (.inr (by rw [(kid_par h hy e).2, hbf.1, hS]))
    simp only [Bool.false_eq_true, if_false]; omega
  · rw [kidSum_zero fun y hy e => atG_beh h y hy (kid_par h hy e).1 (by rw [(kid_par h hy e).2, hbf.1, hS])]
    simp
theorem stS_eq {ps : List Int} (h : Pa ps) {S : Int → Bool} {f : Nat → Int} (hf : ∀ x, x < ps.length → behB ps S x = false → kidSum ps f x ps.length = f x) : stS ps S f = f 0 :=
  Int.le_antisymm (stS_le h fun x hx hb => Int.le_of_eq (hf x hx hb)) (stS_ge h fun x hx hb => Int.le_of_eq (hf x hx hb).symm)
theorem stS_mono {ps : List Int} {S : Int → Bool} {f g : Nat → Int} (hf : ∀ x, x < ps.length → firB ps S x = true → f x ≤ g x) : stS ps S f ≤ stS ps S g := sumR_le fun x hx => by
  unfold atF
  cases hb : firB ps S x
  · simp
  · simpa using hf x hx hb
theorem stS_congr {ps : List Int} {S : Int → Bool} {f g : Nat → Int} (hf : ∀ x, x < ps.length → firB ps S x = true → f x = g x) : stS ps S f = stS ps S g := sumR_congr fun x hx => by
  unfold atF
  cases hb : firB ps S x
  · simp
  · simpa using hf x hx hb
theorem stS_same {ps : List Int} {S : Int → Bool} {f g : Nat → Int} (hf : ∀ x, x < ps.length → firB ps S x = true → f x ≤ g x) (he : stS ps S f = stS ps S g) {x : Nat} (hx : x < ps.length) (hb : firB ps S x = true) : f x = g x := by
  have := sumR_eq (F := atF ps S f) (G := atF ps S g) (n := ps.length) (fun x hx => by
    unfold atF
    cases hb : firB ps S x
    · simp
    · simpa using hf x hx hb) he x hx
  unfold atF at this
  rw [hb] at this
  simpa using this
/-- The stops of a rule that is gathered from S are those of S. -/
theorem stop_firsts {ps : List Int} (hp : Pa ps) (S : Int → Bool) {x : Nat} (hx : x < ps.length) : stop ps (hasB (firsts ps S)) x = stop ps S x := by
  rw [← stop_fir hp S x hx]
  refine stop_congr hp (fun y hy => ?_) hx
  rw [Int.toNat_natCast, Bool.eq_iff_iff, has_mem, firsts, mem_filt]
  constructor
  · rintro ⟨i, _, h2, h3⟩
    obtain rfl : i = y := by omega
    exact h2
  · intro h
    exact ⟨y, hy, h, rfl⟩
theorem stopL_has {S : Int → Bool} : ∀ xs : List Int, stopL S xs = -1 ∨ S (stopL S xs) = true
  | [] => .inl rfl
  | x :: xs => by
    rw [stopL]
    cases h : S x
    · rw [if_neg Bool.false_ne_true]; exact stopL_has xs
    · rw [if_pos rfl]; exact .inr h
theorem stop_has {ps : List Int} {S : Int → Bool} {x : Nat} (h : 0 ≤ stop ps S x) : S (stop ps S x) = true := by
  rcases stopL_has (S := S) (way ps x) with e | e
  · have : stop ps S x = -1 := e
    omega
  · exact e
theorem rule_end {ps rule : List Int} (hp : Pa ps) (h : stopB ps rule = true) {x : Nat} (hx : x < ps.length) (he : endB ps x = true) : behB ps (hasB rule) x = true := by
  obtain ⟨s, _, h2, _⟩ := sole_mem h hp hx he
  exact decide_eq_true (by rw [h2]; omega)
theorem rule_inner {ps rule : List Int} (hp : Pa ps) (h : stopB ps rule = true) {x : Nat} (hx : x < ps.length) (hb : behB ps (hasB rule) x = false) : endB ps x = false := by
  cases he : endB ps x
  · rfl
  · rw [rule_end hp h hx he] at hb; cases hb
/-- A rule is the list of the nodes at which it stops first. -/
theorem rule_firsts {ps rule : List Int} (hp : Pa ps) (h : stopB ps rule = true) : rule = firsts ps (hasB rule) := by
  have h0 := h
  rw [← rule_stop hp, ruleB, Bool.and_eq_true] at h0
  have hpt := stop_parts h
  refine asc_ext (ris_asc hpt.1) (filt_asc _ _) fun z => ?_
  rw [firsts, mem_filt]
  constructor
  · intro hz
    obtain ⟨i, hi, rfl⟩ := List.mem_iff_getElem.1 hz
    have h1 := all_get h0.2 hi
    have h2 := all_in hpt.2 hi
    rw [← nth_lt hi]
    refine ⟨(nth rule i).toNat, by omega, ?_, by omega⟩
    rw [firB, Int.toNat_of_nonneg h2.1]
    exact h1
  · rintro ⟨i, hi, hf, rfl⟩
    have hs : stop ps (hasB rule) i = i := by simpa [firB] using hf
    have := stop_has (S := hasB rule) (ps := ps) (x := i) (by omega)
    rw [hs] at this
    exact has_mem.1 this
theorem mS_take (s l rule : List Int) : ∀ k : Nat, k ≤ rule.length → mS s l rule k = sumOf (fun x => nth s x.toNat * nth l x.toNat) (rule.take k)
  | 0, _ => rfl
  | k + 1, hk => by rw [mS, mS_take s l rule k (by omega), sumOf_take_succ _ _ _ (by omega)]
/-- The sum behind the mean of a rule. -/
theorem rm_firsts (ps ws l : List Int) (S : Int → Bool) : rmS ps ws l (firsts ps S) = stS ps S (ownW ps ws l) := by
  rw [rmS, mS_take _ _ _ _ (Nat.le_refl _), List.take_length, firsts, sumOf_filt]
  exact sumR_congr fun x _ => by rw [Int.toNat_natCast]; rfl
theorem rm_rule {ps ws l rule : List Int} (hp : Pa ps) (h : stopB ps rule = true) : rmS ps ws l rule = stS ps (hasB rule) (ownW ps ws l) := by
  have := rm_firsts ps ws l (hasB rule)
  rwa [← rule_firsts hp h] at this
/-- What stops at more nodes stops no later. -/
theorem stop_mono {ps : List Int} (h : Pa ps) {S S' : Int → Bool} (hS : ∀ y : Nat, y < ps.length → S' y = true → S y = true) : ∀ x, x < ps.length → 0 ≤ stop ps S' x → 0 ≤ stop ps S x ∧ stop ps S x ≤ stop ps S' x := by
  refine h.above ?_ ?_
  · intro h0
    rw [stop_zero] at h0 ⊢
    rw [stop_zero]
    have h1 := hS 0 (by have := h.n1; omega)
    cases hs : S' 0
    · rw [hs] at h0; simp at h0
    · have h2 : S 0 = true := h1 hs
      rw [h2]; simp
  · intro x h1 h2 ih h0
    have hlow := stop_low h S (par ps x) (by have := (h.upN h1 h2).2; omega)
    have hpar := (h.upN h1 h2).2
    rw [stop_up h S' h1 h2] at h0 ⊢
    rw [stop_up h S h1 h2]
    by_cases ha : 0 ≤ stop ps S' (par ps x)
    · have := ih ha
      rw [if_pos ha, if_pos this.1]; exact this
    · rw [if_neg ha] at h0 ⊢
      cases hs : S' x
      · rw [hs] at h0; simp at h0
      · rw [if_pos rfl]
        by_cases hb : 0 ≤ stop ps S (par ps x)
        · rw [if_pos hb]; omega
        · rw [if_neg hb, hS x h2 hs, if_pos rfl]; omega
end Go.Proofs.Ytnbomleieianoaa

/- Plain law behind FnEnvelopes: the best rules have the envelope as their mean, no rule has more, caps that cover are no less than the least ones. No conditions but those stated. -/
namespace Go.Proofs.Ytnbomleieianoaa

/-- The envelope against what its children have together, and what stopping has. -/
theorem cap_inner {ps ws l : List Int} (h : Tr ps ws) {x : Nat} (hx : x < ps.length) (he : endB ps x = false) : kidSum ps (fun y => nth (capW ps ws l) y) x ps.length ≤ nth (capW ps ws l) x ∧ ownW ps ws l x ≤ nth (capW ps ws l) x ∧ (nth (capW ps ws l) x = ownW ps ws l x ∨ nth (capW ps ws l) x = kidSum ps (fun y => nth (capW ps ws l) y) x ps.length) := by
  have := nth_capW (l := l) h hx
  rw [stepA, he] at this
  simp only [Bool.false_eq_true, if_false] at this
  omega
theorem cap_end {ps ws l : List Int} (h : Tr ps ws) {x : Nat} (hx : x < ps.length) (he : endB ps x = true) : nth (capW ps ws l) x = ownW ps ws l x := by
  have := nth_capW (l := l) h hx
  rwa [stepA, he, if_pos rfl] at this
theorem cap_own {ps ws l : List Int} (h : Tr ps ws) {x : Nat} (hx : x < ps.length) : ownW ps ws l x ≤ nth (capW ps ws l) x := by
  cases he : endB ps x
  · exact (cap_inner h hx he).2.1
  · rw [cap_end h hx he]; exact Int.le_refl _
theorem cover_t {ps ws l caps : List Int} (h : coverV ps ws l caps = true) : paysB ps ws l = true ∧ caps.length = ps.length ∧ ∀ x, x < ps.length → capOk ps ws l caps x = true := by
  simp only [coverV, Bool.and_eq_true] at h
  exact ⟨h.1, by simpa using h.2.1.1, fun x hx => all_get h.2.2 hx⟩
/-- Caps that cover are no less than the least ones. -/
theorem cover_least {ps ws l caps : List Int} (h : coverV ps ws l caps = true) : ∀ x, x < ps.length → nth (capW ps ws l) x ≤ nth caps x := by
  obtain ⟨h1, h2, h3⟩ := cover_t h
  have hT := (paysB_t h1).1
  refine hT.toPa.below ?_
  intro x hx ih
  have hk := h3 x hx
  simp only [capOk, Bool.not_eq_true', Bool.or_eq_false_iff, Bool.and_eq_false_iff, decide_eq_false_iff_not] at hk
  have h4 : nth (sums ps ws) x * nth l x = ownW ps ws l x := rfl
  cases he : endB ps x
  · rw [he] at hk
    have h5 := kidSum_le (ps := ps) (f := fun y => nth (capW ps ws l) y) (g := fun y => nth caps y) (x := x) (k := ps.length) fun y hy e => ih y hy e
    have h6 := cap_inner (l := l) hT hx he
    have h7 := hk.2
    simp at h7
    omega
  · rw [cap_end hT hx he]; omega
theorem least_cover {ps ws l : List Int} (h : paysB ps ws l = true) : coverV ps ws l (capW ps ws l) = true := by
  have hpt := paysB_t h
  have hT := hpt.1
  refine coverV_yes h (capW_length _ _ _) (all_t fun i hi => ?_) fun x hx => ?_
  · have := worth_abs (l := l) hT hpt.2.2.2.2 24 i
    exact inB_mk (by unfold capW; omega) (by unfold capW; omega)
  · have h4 : nth (sums ps ws) x * nth l x = ownW ps ws l x := rfl
    have h5 := cap_own (l := l) hT hx
    simp only [capOk, Bool.not_eq_true', Bool.or_eq_false_iff, Bool.and_eq_false_iff, decide_eq_false_iff_not]
    refine ⟨by omega, ?_⟩
    cases he : endB ps x
    · have := (cap_inner (l := l) hT hx he).1
      exact .inr (by omega)
    · exact .inl rfl
theorem best_beh {ps ws l : List Int} (h : Tr ps ws) {x : Nat} (hx : x < ps.length) (hb : bestB ps ws l x = false) : kidSum ps (fun y => nth (capW ps ws l) y) x ps.length = nth (capW ps ws l) x := by
  have hne : ¬ ownW ps ws l x = nth (capW ps ws l) x := by simpa [bestB] using hb
  cases he : endB ps x
  · have := cap_inner (l := l) h hx he; omega
  · exact absurd (cap_end h hx he).symm hne
theorem best_mean {ps ws l : List Int} (h : paysB ps ws l = true) : rmS ps ws l (bestV ps ws l) = nth (capW ps ws l) 0 := by
  have hT := (paysB_t h).1
  rw [bestV_yes h, rm_firsts]
  rw [stS_congr (g := fun x => nth (capW ps ws l) x) fun x hx hf => by
    have := fir_S hT.toPa hx hf
    simpa [fS, bestB] using this]
  exact stS_eq hT.toPa fun x hx hb => best_beh hT hx (by simpa [fS] using beh_S hT.toPa hx hb)
theorem late_mean {ps ws l : List Int} (h : paysB ps ws l = true) : rmS ps ws l (lateV ps ws l) = nth (capW ps ws l) 0 := by
  have hT := (paysB_t h).1
  rw [lateV_yes h, rm_firsts]
  rw [stS_congr (g := fun x => nth (capW ps ws l) x) fun x hx hf => by
    have h1 := fir_S hT.toPa hx hf
    simp only [fS, lateB, Int.toNat_natCast, Bool.or_eq_true, decide_eq_true_eq] at h1
    cases he : endB ps x
    · rw [he] at h1
      have := cap_inner (l := l) hT hx he
      rcases h1 with h1 | h1
      · cases h1
      · omega
    · exact (cap_end hT hx he).symm]
  refine stS_eq hT.toPa fun x hx hb => ?_
  have h1 := beh_S hT.toPa hx hb
  simp only [fS, lateB, Int.toNat_natCast, Bool.or_eq_false_iff, decide_eq_false_iff_not] at h1
  have := cap_inner (l := l) hT hx h1.1
  omega
theorem best_end {ps ws l : List Int} (h : Tr ps ws) {x : Nat} (hx : x < ps.length) (he : endB ps x = true) : bestB ps ws l x = true := by
  simp [bestB, cap_end h hx he]
theorem best_stop {ps ws l : List Int} (h : paysB ps ws l = true) : stopB ps (bestV ps ws l) = true := by
  have hT := (paysB_t h).1
  rw [bestV_yes h]
  exact firsts_stop hT.toPa fun x hx he => by simpa [fS] using best_end hT hx he
theorem late_stop {ps ws l : List Int} (h : paysB ps ws l = true) : stopB ps (lateV ps ws l) = true := by
  have hT := (paysB_t h).1
  rw [lateV_yes h]
  exact firsts_stop hT.toPa fun x hx he => by simp [fS, lateB, he]
/-- What stops only where S does is no earlier than the rule of S. -/
theorem sooner_of {ps ws rule : List Int} {S : Int → Bool} (h : treeB ps ws = true) (h1 : stopB ps (firsts ps S) = true) (h2 : stopB ps rule = true) (hS : ∀ y : Nat, y < ps.length → hasB rule y = true → S y = true) : noLV ps ws (firsts ps S) rule = true := by
  have hp := (treeB_t h).toPa
  rw [noLV, twoB, h, h1, h2, noLaterB]
  simp only [Bool.true_and]
  refine all_t fun i hi => ?_
  obtain ⟨e, h3, h4, h5⟩ := end_nth hi
  rw [h5, Int.toNat_natCast, stop_firsts hp S h3]
  have hb := rule_end hp h2 h3 h4
  exact decide_eq_true (stop_mono hp hS e h3 (of_decide_eq_true hb)).2
theorem best_late {ps ws l : List Int} (h : paysB ps ws l = true) : noLV ps ws (bestV ps ws l) (lateV ps ws l) = true := by
  have hpt := paysB_t h
  have hT := hpt.1
  have h1 := best_stop h
  have h2 := late_stop h
  have htr : treeB ps ws = true := by simp only [paysB, Bool.and_eq_true] at h; exact h.1
  rw [bestV_yes h] at h1 ⊢
  refine sooner_of htr h1 h2 fun y hy hh => ?_
  rw [lateV_yes h, has_mem, firsts, mem_filt] at hh
  obtain ⟨i, hi, hf, he⟩ := hh
  obtain rfl : y = i := by omega
  have h3 := fir_S hT.toPa hi hf
  simp only [fS, lateB, Int.toNat_natCast, Bool.or_eq_true, decide_eq_true_eq] at h3
  cases hen : endB ps y
  · rw [hen] at h3
    have := cap_inner (l := l) hT hi hen
    rcases h3 with h3 | h3
    · cases h3
    · simp only [fS, Int.toNat_natCast, bestB, beq_iff_eq]; omega
  · simpa [fS] using best_end hT hi hen
/-- No rule has a greater mean than the envelope. -/
theorem any_le {ps ws l rule : List Int} (h : rmB ps ws l rule = true) : rmS ps ws l rule ≤ nth (capW ps ws l) 0 := by
  simp only [rmB, Bool.and_eq_true] at h
  have hT := (paysB_t h.1).1
  rw [rm_rule hT.toPa h.2]
  have h1 := stS_mono (ps := ps) (S := hasB rule) (f := ownW ps ws l) (g := fun x => nth (capW ps ws l) x) fun x hx _ => cap_own hT hx
  have h2 := stS_le hT.toPa (S := hasB rule) (f := fun x => nth (capW ps ws l) x) fun x hx hb => (cap_inner (l := l) hT hx (rule_inner hT.toPa h.2 hx hb)).1
  exact Int.le_trans h1 h2
/-- A rule with the greatest mean stops only where stopping is best. -/
theorem any_late {ps ws l rule : List Int} (h : rmB ps ws l rule = true) (he : rmS ps ws l rule = nth (capW ps ws l) 0) : noLV ps ws (bestV ps ws l) rule = true := by
  have h0 := h
  simp only [rmB, Bool.and_eq_true] at h
  have hT := (paysB_t h.1).1
  have hb := best_stop h.1
  have htr : treeB ps ws = true := by have := h.1; simp only [paysB, Bool.and_eq_true] at this; exact this.1
  rw [bestV_yes h.1] at hb ⊢
  refine sooner_of htr hb h.2 fun y hy hh => ?_
  rw [rm_rule hT.toPa h.2] at he
  have h1 := stS_mono (ps := ps) (S := hasB rule) (f := ownW ps ws l) (g := fun x => nth (capW ps ws l) x) fun x hx _ => cap_own hT hx
  have h2 := stS_le hT.toPa (S := hasB rule) (f := fun x => nth (capW ps ws l) x) fun x hx hb => (cap_inner (l := l) hT hx (rule_inner hT.toPa h.2 hx hb)).1
  have h3 : stS ps (hasB rule) (ownW ps ws l) = stS ps (hasB rule) (fun x => nth (capW ps ws l) x) := by omega
  have hm := has_mem.1 hh
  rw [rule_firsts hT.toPa h.2, firsts, mem_filt] at hm
  obtain ⟨i, hi, hf, hie⟩ := hm
  obtain rfl : y = i := by omega
  have := stS_same (fun x hx _ => cap_own hT hx) h3 hi hf
  simpa [fS, bestB] using this
/-- Means as fractions. -/
theorem mean_lt {ps ws : List Int} (h : Tr ps ws) (a b : Int) : (nm a (nth (sums ps ws) 0) * dn b (nth (sums ps ws) 0) < nm b (nth (sums ps ws) 0) * dn a (nth (sums ps ws) 0)) ↔ a < b := cut_lt a b (by have := sums_pos h 0 (by have := h.n1; omega); omega)
end Go.Proofs.Ytnbomleieianoaa

/- Plain law behind FnBounds: the bound of a balanced list and what a seer has are no less than the envelope, and costs take away. No conditions but those stated. -/
namespace Go.Proofs.Ytnbomleieianoaa

/-- Numbers of the ends, gathered at each node. -/
def enL (ps : List Int) (V : Nat → Int) : List Int := (List.range ps.length).map fun x => if endB ps x then V x else 0
def enG (ps : List Int) (V : Nat → Int) (x : Nat) : Int := nth (gathA ps (enL ps V)) x
theorem enL_length (ps : List Int) (V : Nat → Int) : (enL ps V).length = ps.length := by simp [enL]
theorem enG_end {ps : List Int} (h : Pa ps) (V : Nat → Int) {x : Nat} (hx : x < ps.length) (he : endB ps x = true) : enG ps V x = V x := by
  rw [enG, gathA_kids h (enL_length ps V), kidSum_end he (Nat.le_refl _), enL, nth_map_range hx, if_pos he]; omega
theorem enG_inner {ps : List Int} (h : Pa ps) (V : Nat → Int) {x : Nat} (hx : x < ps.length) (he : endB ps x = false) : enG ps V x = kidSum ps (enG ps V) x ps.length := by
  have h1 := gathA_kids h (enL_length ps V) x
  have h2 : nth (enL ps V) x = 0 := by rw [enL, nth_map_range hx, he]; rfl
  rw [h2, Int.zero_add] at h1
  exact h1
theorem enG_root {ps : List Int} (h : Pa ps) (V : Nat → Int) : enG ps V 0 = sumOf (fun e => V e.toNat) (ends ps) := by
  rw [enG, gathA_root h (enL_length ps V), ends, sumOf_filt]
  exact sumR_congr fun x _ => by rw [Int.toNat_natCast]
theorem s_end {ps ws : List Int} (h : Tr ps ws) {x : Nat} (he : endB ps x = true) : nth (sums ps ws) x = nth ws x := by
  rw [sums_kids h, kidSum_end he (Nat.le_refl _)]; omega
theorem s_inner {ps ws : List Int} (h : Tr ps ws) {x : Nat} (hx : x < ps.length) (he : endB ps x = false) : nth (sums ps ws) x = kidSum ps (fun y => nth (sums ps ws) y) x ps.length := by
  have h1 := sums_kids h x
  rw [h.inner x hx he, Int.zero_add] at h1
  exact h1
theorem bdE_self {ps pay num : List Int} (hp : Pa ps) {x : Nat} (hx : x < ps.length) : exc pay num x ≤ bdE ps pay num x ∧ (1 ≤ x → bdE ps pay num (par ps x) ≤ bdE ps pay num x) := by
  by_cases h0 : x = 0
  · subst h0
    refine ⟨?_, fun h => by omega⟩
    rw [bdE, way_zero]
    exact Int.le_of_eq (mxT_one rfl).symm
  · have hpar := hp.upN (x := x) (by omega) hx
    have hl := (way_length hp (par ps x) (by omega)).1
    have hw := way_up hp (x := x) (by omega) hx
    have e1 : bdE ps pay num x = max (bdE ps pay num (par ps x)) (exc pay num x) := by
      rw [bdE, hw, List.length_append, List.length_singleton, mxT]
      have e2 : nth (way ps (par ps x) ++ [(x : Int)]) (way ps (par ps x)).length = x := nth_append_r
      have e3 : ∀ k, k ≤ (way ps (par ps x)).length → mxT (exc pay num) (way ps (par ps x) ++ [(x : Int)]) k = mxT (exc pay num) (way ps (par ps x)) k := fun k => by
        induction k with
        | zero => intro _; rfl
        | succ k ih => intro hk; rw [mxT, mxT, ih (by omega), nth_append_l (by omega)]
      rw [e2, e3 _ (Nat.le_refl _)]; rfl
    rw [e1]
    exact ⟨by omega, fun _ => by omega⟩
/-- The greatest excess on the way to a node, times its sum, is no more than those of the ends below it together. -/
theorem bd_below {ps ws pay num : List Int} (h : Tr ps ws) : ∀ x, x < ps.length → nth (sums ps ws) x * bdE ps pay num x ≤ enG ps (fun e => bdE ps pay num e * nth ws e) x := by
  refine h.toPa.below ?_
  intro x hx ih
  cases he : endB ps x
  · rw [enG_inner h.toPa _ hx he, s_inner h hx he]
    have h1 := kidSum_le (ps := ps) (f := fun y => bdE ps pay num x * nth (sums ps ws) y) (g := enG ps (fun e => bdE ps pay num e * nth ws e)) (x := x) (k := ps.length) fun y hy e => by
      have hk := kid_par h.toPa hy e
      have h2 := (bdE_self (pay := pay) (num := num) h.toPa hy).2 hk.1
      rw [hk.2] at h2
      have h3 := Int.mul_le_mul_of_nonneg_left h2 (sums_nn h y)
      have h4 := ih y hy e
      rw [Int.mul_comm (bdE ps pay num x)]
      omega
    rw [kidSum_mul ps (fun y => nth (sums ps ws) y)] at h1
    rw [Int.mul_comm]
    exact h1
  · rw [enG_end h.toPa _ hx he, s_end h he, Int.mul_comm]
    exact Int.le_refl _
/-- Balanced: a node's number times its sum is what its children have together. -/
theorem bal_kids {ps ws num : List Int} (h : Tr ps ws) {x : Nat} (hx : x < ps.length) (he : endB ps x = false) (hb : drA ps ws num x = 0) : kidSum ps (fun y => nth (sums ps ws) y * nth num y) x ps.length = nth (sums ps ws) x * nth num x := by
  rcases (dr_bal (l := num) h hx).1 hb with e | e
  · rw [he] at e; cases e
  · exact e.symm
theorem bound_cap {ps ws pay num : List Int} (h : Tr ps ws) (hb : ∀ x, x < ps.length → drA ps ws num x = 0) : ∀ x, x < ps.length → nth (capW ps ws pay) x ≤ enG ps (fun e => bdE ps pay num e * nth ws e) x + nth (sums ps ws) x * nth num x := by
  refine h.toPa.below ?_
  intro x hx ih
  have hown : ownW ps ws pay x ≤ enG ps (fun e => bdE ps pay num e * nth ws e) x + nth (sums ps ws) x * nth num x := by
    have h1 := bd_below (pay := pay) (num := num) h x hx
    have h2 := Int.mul_le_mul_of_nonneg_left (bdE_self (pay := pay) (num := num) h.toPa hx).1 (sums_nn h x)
    have h3 : nth (sums ps ws) x * exc pay num x = ownW ps ws pay x - nth (sums ps ws) x * nth num x := by
      rw [exc, Int.toNat_natCast, Int.mul_sub]; rfl
    omega
  cases he : endB ps x
  · have hc := cap_inner (l := pay) h hx he
    have hk := bal_kids h hx he (hb x hx)
    have h1 := kidSum_le (ps := ps) (f := fun y => nth (capW ps ws pay) y) (g := fun y => enG ps (fun e => bdE ps pay num e * nth ws e) y + nth (sums ps ws) y * nth num y) (x := x) (k := ps.length) fun y hy e => ih y hy e
    rw [kidSum_add ps (enG ps (fun e => bdE ps pay num e * nth ws e)) (fun y => nth (sums ps ws) y * nth num y), ← enG_inner h.toPa _ hx he, hk] at h1
    omega
  · rw [cap_end h hx he]; exact hown
theorem bound_le {ps ws pay num : List Int} (h : Tr ps ws) (hb : ∀ x, x < ps.length → drA ps ws num x = 0) : nth (capW ps ws pay) 0 ≤ bndS ps ws pay num := by
  have h1 := bound_cap (pay := pay) h hb 0 (by have := h.n1; omega)
  rw [enG_root h.toPa] at h1
  rw [bndS, Int.mul_comm]
  have : sumOf (bdT ps ws pay num) (ends ps) = sumOf (fun e => bdE ps pay num e.toNat * nth ws e.toNat) (ends ps) := rfl
  omega
theorem seer_le {ps ws pay : List Int} (h : Tr ps ws) : nth (capW ps ws pay) 0 ≤ bndS ps ws pay (zeL ps) := bound_le h fun x _ => by
  rw [drA]
  exact kidSum_zero fun y _ _ => by rw [zeL, nth_replicate, nth_replicate]; simp
theorem bal_t {ps ws num : List Int} (h : balB ps ws num = true) : ∀ x, x < ps.length → drA ps ws num x = 0 := fun x hx => by simpa using all_get h hx
/-- Less payments, less envelope. -/
theorem cap_mono {ps ws l l' : List Int} (h : Tr ps ws) (hl : ∀ x, x < ps.length → nth l' x ≤ nth l x) : ∀ x, x < ps.length → nth (capW ps ws l') x ≤ nth (capW ps ws l) x := by
  refine h.toPa.below ?_
  intro x hx ih
  have hown : ownW ps ws l' x ≤ ownW ps ws l x := Int.mul_le_mul_of_nonneg_left (hl x hx) (sums_nn h x)
  cases he : endB ps x
  · have h1 := kidSum_le (ps := ps) (f := fun y => nth (capW ps ws l') y) (g := fun y => nth (capW ps ws l) y) (x := x) (k := ps.length) fun y hy e => ih y hy e
    have h2 := cap_inner (l := l') h hx he
    have h3 := cap_inner (l := l) h hx he
    omega
  · rw [cap_end h hx he, cap_end h hx he]; exact hown
theorem cost_cap {ps ws l : List Int} {c : Int} (h : costB ps ws l c = true) : nth (capW ps ws (costL ps l c)) 0 ≤ nth (capW ps ws l) 0 := by
  simp only [costB, Bool.and_eq_true] at h
  have hT := (paysB_t h.1).1
  have hc := inB_t h.2.1
  refine cap_mono hT (fun x hx => ?_) 0 (by have := hT.n1; omega)
  rw [costL, nth_map_range hx]
  have := Int.mul_nonneg (show 0 ≤ c by omega) (dep_bd hT.toPa x hx).1
  omega
end Go.Proofs.Ytnbomleieianoaa

/- Plain law behind FnStakes: the gains of stakes on a fair process have the mean 0, and on a falling one no greater one. No conditions but those stated. -/
namespace Go.Proofs.Ytnbomleieianoaa

/-- The gains at the first k nodes. -/
def gnL (ps l st : List Int) : Nat → List Int
  | 0 => []
  | k + 1 => gnL ps l st k ++ [if k = 0 then 0 else nth (gnL ps l st k) (par ps k) + nth st (par ps k) * (nth l k - nth l (par ps k))]
theorem gnL_length (ps l st : List Int) : ∀ k, (gnL ps l st k).length = k
  | 0 => rfl
  | k + 1 => by rw [gnL, List.length_append, gnL_length ps l st k]; rfl
def gn (ps l st : List Int) (x : Nat) : Int := nth (gnL ps l st (x + 1)) x
theorem gnL_nth (ps l st : List Int) : ∀ (k x : Nat), x < k → nth (gnL ps l st k) x = gn ps l st x
  | 0, x, h => by omega
  | k + 1, x, h => by
    by_cases e : x = k
    · subst e; rfl
    · rw [gnL, nth_append_l (by rw [gnL_length]; omega), gnL_nth ps l st k x (by omega)]
theorem gn_zero (ps l st : List Int) : gn ps l st 0 = 0 := rfl
theorem gn_up {ps l st : List Int} {x : Nat} (h1 : 1 ≤ x) (hp : par ps x < x) : gn ps l st x = gn ps l st (par ps x) + nth st (par ps x) * (nth l x - nth l (par ps x)) := by
  unfold gn
  rw [gnL, if_neg (by omega)]
  have := nth_append_r (xs := gnL ps l st x) (y := nth (gnL ps l st x) (par ps x) + nth st (par ps x) * (nth l x - nth l (par ps x)))
  rw [gnL_length] at this
  rw [this, gnL_nth ps l st x _ hp]; rfl
/-- The gains of stakes. -/
def gains (ps l st : List Int) : List Int := gnL ps l st ps.length
theorem gains_length (ps l st : List Int) : (gains ps l st).length = ps.length := gnL_length _ _ _ _
theorem nth_gains {ps l st : List Int} {x : Nat} (h : x < ps.length) : nth (gains ps l st) x = gn ps l st x := gnL_nth _ _ _ _ _ h
theorem stake_bd {s a b : Int} (hs : -20 ≤ s ∧ s ≤ 20) (ha : -999 ≤ a ∧ a ≤ 999) (hb : -999 ≤ b ∧ b ≤ 999) : -39960 ≤ s * (a - b) ∧ s * (a - b) ≤ 39960 := by
  have hd : -1998 ≤ a - b ∧ a - b ≤ 1998 := by omega
  generalize a - b = d at hd
  rcases (show s = -20 ∨ s = -19 ∨ s = -18 ∨ s = -17 ∨ s = -16 ∨ s = -15 ∨ s = -14 ∨ s = -13 ∨ s = -12 ∨ s = -11 ∨ s = -10 ∨ s = -9 ∨ s = -8 ∨ s = -7 ∨ s = -6 ∨ s = -5 ∨ s = -4 ∨ s = -3 ∨ s = -2 ∨ s = -1 ∨ s = 0 ∨ s = 1 ∨ s = 2 ∨ s = 3 ∨ s = 4 ∨ s = 5 ∨ s = 6 ∨ s = 7 ∨ s = 8 ∨ s = 9 ∨ s = 10 ∨ s = 11 ∨ s = 12 ∨ s = 13 ∨ s = 14 ∨ s = 15 ∨ s = 16 ∨ s = 17 ∨ s = 18 ∨ s = 19 ∨ s = 20 by omega) with rfl | rfl | rfl | rfl | rfl | rfl | rfl | rfl | rfl | rfl | rfl | rfl | rfl | rfl | rfl | rfl | rfl | rfl | rfl | rfl | rfl | rfl | rfl | rfl | rfl | rfl | rfl | rfl | rfl | rfl | rfl | rfl | rfl | rfl | rfl | rfl | rfl | rfl | rfl | rfl | rfl <;> omega
theorem gn_bd {ps l st : List Int} (h : Pa ps) (hl : ∀ i, -999 ≤ nth l i ∧ nth l i ≤ 999) (hs : ∀ i, -20 ≤ nth st i ∧ nth st i ≤ 20) : ∀ x, x < ps.length → -(39960 * (x : Int)) ≤ gn ps l st x ∧ gn ps l st x ≤ 39960 * (x : Int) := by
  refine h.above ?_ ?_
  · rw [gn_zero]; omega
  · intro x h1 h2 ih
    have hp := h.upN h1 h2
    have := stake_bd (hs (par ps x)) (hl x) (hl (par ps x))
    rw [gn_up h1 hp.2]; omega
/-- What the children's gains have together. -/
theorem gn_kids {ps ws l st : List Int} (h : Tr ps ws) {x : Nat} (hx : x < ps.length) (he : endB ps x = false) : kidSum ps (fun y => nth (sums ps ws) y * gn ps l st y) x ps.length = nth (sums ps ws) x * gn ps l st x + nth st x * drA ps ws l x := by
  have h1 : kidSum ps (fun y => nth (sums ps ws) y * gn ps l st y) x ps.length = kidSum ps (fun y => gn ps l st x * nth (sums ps ws) y + nth st x * (nth (sums ps ws) y * (nth l y - nth l x))) x ps.length := kidSum_congr fun y hy e => by
    have hk := kid_par h.toPa hy e
    have hp := h.toPa.upN hk.1 hy
    rw [gn_up hk.1 hp.2, hk.2]
    grind
  rw [h1, kidSum_add ps (fun y => gn ps l st x * nth (sums ps ws) y) (fun y => nth st x * (nth (sums ps ws) y * (nth l y - nth l x))), kidSum_mul ps (fun y => nth (sums ps ws) y), kidSum_mul ps (fun y => nth (sums ps ws) y * (nth l y - nth l x)), ← s_inner h hx he, Int.mul_comm (gn ps l st x)]
  rfl
/-- Does no drift go up? -/
def fallB (ps ws l : List Int) : Bool := (List.range ps.length).all fun x => decide (drA ps ws l x ≤ 0)
theorem fall_t {ps ws l : List Int} (h : fallB ps ws l = true) : ∀ x, x < ps.length → drA ps ws l x ≤ 0 := fun x hx => by simpa using all_get h hx
theorem gain_fair {ps ws l st : List Int} (h : Tr ps ws) (hb : ∀ x, x < ps.length → drA ps ws l x = 0) : ∀ x, x < ps.length → enG ps (fun e => nth ws e * gn ps l st e) x = nth (sums ps ws) x * gn ps l st x := by
  refine h.toPa.below ?_
  intro x hx ih
  cases he : endB ps x
  · rw [enG_inner h.toPa _ hx he, kidSum_congr (g := fun y => nth (sums ps ws) y * gn ps l st y) fun y hy e => ih y hy e, gn_kids h hx he, hb x hx]; omega
  · rw [enG_end h.toPa _ hx he, s_end h he]
theorem gain_fall {ps ws l st : List Int} (h : Tr ps ws) (hb : ∀ x, x < ps.length → drA ps ws l x ≤ 0) (hs : ∀ x, 0 ≤ nth st x) : ∀ x, x < ps.length → enG ps (fun e => nth ws e * gn ps l st e) x ≤ nth (sums ps ws) x * gn ps l st x := by
  refine h.toPa.below ?_
  intro x hx ih
  cases he : endB ps x
  · have h1 := kidSum_le (ps := ps) (f := enG ps (fun e => nth ws e * gn ps l st e)) (g := fun y => nth (sums ps ws) y * gn ps l st y) (x := x) (k := ps.length) fun y hy e => ih y hy e
    rw [gn_kids h hx he] at h1
    have h2 := Int.mul_nonneg (hs x) (show 0 ≤ -(drA ps ws l x) by have := hb x hx; omega)
    rw [Int.mul_neg] at h2
    rw [enG_inner h.toPa _ hx he]; omega
  · rw [enG_end h.toPa _ hx he, s_end h he]; exact Int.le_refl _
theorem enG_all {ps ws : List Int} (h : Tr ps ws) (g : Nat → Int) : sumR (fun x => nth ws x * g x) ps.length = enG ps (fun e => nth ws e * g e) 0 := by
  rw [enG, gathA_root h.toPa (enL_length _ _)]
  exact sumR_congr fun x hx => by
    cases he : endB ps x
    · rw [h.inner x hx he]; simp
    · simp
theorem total_fair {ps ws l st : List Int} (h : Tr ps ws) (hb : balB ps ws l = true) : sumR (fun x => nth ws x * gn ps l st x) ps.length = 0 := by
  rw [enG_all h, gain_fair h (bal_t hb) 0 (by have := h.n1; omega), gn_zero]; omega
theorem total_fall {ps ws l st : List Int} (h : Tr ps ws) (hb : fallB ps ws l = true) (hs : ∀ x, 0 ≤ nth st x) : sumR (fun x => nth ws x * gn ps l st x) ps.length ≤ 0 := by
  have := gain_fall (st := st) h (fall_t hb) hs 0 (by have := h.n1; omega)
  rw [enG_all h]
  rw [gn_zero] at this; omega
end Go.Proofs.Ytnbomleieianoaa

/- Contracts: the gains of stakes, of the program and of the reference. -/
namespace Go.Proofs.Ytnbomleieianoaa
open Go.RowKit

def stkB (n : Nat) (st : List Int) : Bool := (st.length == n) && allIn st (-20) 20
def sgB (ps ws l st : List Int) : Bool := paysB ps ws l && stkB ps.length st
def sgV (ps ws l st : List Int) : List Int := if sgB ps ws l st then gains ps l st else []
theorem sg_no1 {ps ws l st : List Int} (h : paysB ps ws l = false) : sgB ps ws l st = false := by rw [sgB, h]; rfl
theorem sg_no2 {ps ws l st : List Int} (h : ¬ st.length = ps.length) : sgB ps ws l st = false := by simp [sgB, stkB, h]
theorem sg_no3 {ps ws l st : List Int} (h : allIn st (-20) 20 = false) : sgB ps ws l st = false := by simp [sgB, stkB, h]
theorem sg_yes {ps ws l st : List Int} (h : paysB ps ws l = true) (h2 : st.length = ps.length) (h3 : allIn st (-20) 20 = true) : sgB ps ws l st = true := by simp [sgB, stkB, h, h2, h3]
theorem sgV_no {ps ws l st : List Int} (h : sgB ps ws l st = false) : sgV ps ws l st = [] := by rw [sgV, h]; rfl
theorem sgV_yes {ps ws l st : List Int} (h : sgB ps ws l st = true) : sgV ps ws l st = gains ps l st := by rw [sgV, if_pos h]
theorem sgB_t {ps ws l st : List Int} (h : sgB ps ws l st = true) : paysB ps ws l = true ∧ st.length = ps.length ∧ ∀ i, -20 ≤ nth st i ∧ nth st i ≤ 20 := by
  simp only [sgB, stkB, Bool.and_eq_true, beq_iff_eq] at h
  refine ⟨h.1, h.2.1, fun i => ?_⟩
  by_cases hi : i < st.length
  · exact all_in h.2.2 hi
  · rw [nth_ge (by omega)]; omega
theorem sgV_len {ps ws l st : List Int} : (sgV ps ws l st).length ≤ 24 := by
  cases h : sgB ps ws l st
  · rw [sgV_no h]; exact Nat.zero_le _
  · rw [sgV_yes h, gains_length]
    have := (paysB_t (sgB_t h).1).1.n24
    omega
theorem own_lit0 (w : World) (base : Nat) (hb : base ≤ w.heap.size) : Own (w.alloc (.cells #[.int .i64 0] 3)) base (.slice (some ⟨w.heap.size, 0, none⟩) 1 1) [0] := by
  have := World.ownsRow_lit (size := 1) (e := 3) (base := base) w #[.int .i64 0] 1 hb (by simp [maxLen]) (by simp)
  simpa [Own, cs] using this
set_option maxRecDepth 100000 in
set_option maxHeartbeats 2000000 in
theorem impl_StakeGains (aP : Option Addr) (nP cP : Nat) (aW : Option Addr) (nW cW : Nat) (ps ws : List Int) (aL : Option Addr) (nL cL : Nat) (l : List Int) (aS : Option Addr) (nS cS : Nat) (st : List Int) (w : World) (h : Tre w aP nP cP aW nW cW ps ws) (hL : Ints w aL nL l) (_hLc : aL = none → cL = 0) (hn : nL ≤ 1048576) (hS : Ints w aS nS st) (_hSc : aS = none → cS = 0) (hnS : nS ≤ 1048576) :
    Calls Try.prog 60 #[.agg #[.slice aP nP cP, .slice aW nW cW], .slice aL nL cL, .slice aS nS cS] w fun e w' => ∃ v, e = .returned (.tuple #[v, .bool (sgB ps ws l st)]) ∧ Own w' w.heap.size v (sgV ps ws l st) ∧ Below w.heap.size w w' := by
  have HS := Lib.hid hS
  have HSl := Lib.hid hS.1
  clear hS
  have hl := h.p.1
  have hlw := h.w.1
  have hpn := h.pn
  have hwn := h.wn
  have hb1 := below_new w (.cells #[.slice aP nP cP, .slice aW nW cW] 26)
  have hP1 := Lib.hid (Pair.new w (.slice aP nP cP) (.slice aW nW cW) 26)
  have H := Lib.hid h
  have Hl := Lib.hid hl
  have Hlw := Lib.hid hlw
  clear h hl hlw
  have HL := Lib.hid hL
  have hll := Lib.hid hL.1
  clear hL
  have hlt2 := hP1.out.lt
  go_enter Try.func60, Try.ntmps60
  have c0 := hP1.out.c0
  have c1 := hP1.out.c1
  go_wp2_with fail
  generalize (w.alloc (.cells #[.slice aP nP cP, .slice aW nW cW] 26)) = w2 at *
  refine (impl_IsTree _ _ _ _ _ _ ps ws _ (H.out.below hb1)).mono ?_
  rintro e w3 ⟨rfl, hb3⟩
  have hP3 := hP1.out.below hb3
  have d0 := hP3.c0
  have d1 := hP3.c1
  have HP3 := Lib.hid hP3
  have hb13 := hb1.trans (hb3.mono hb1.size)
  clear hP3 c0 c1 hb3
  cases hT : treeB ps ws
  · have Hv := Lib.hid (pays_no1 (l := l) hT)
    clear hT
    go_wp2_with fail
    go_ret2
    exact ⟨_, by rw [sg_no1 Hv.out]; rfl, by rw [sgV_no (sg_no1 Hv.out)]; exact Own.nil _ _, hb13⟩
  have HT := Lib.hid hT
  clear hT
  go_wp2_with fail
  refine (impl_isProcess _ _ _ _ _ _ ps ws _ _ _ l _ (H.out.below hb13) (HL.out.below hb13) hn).mono ?_
  rintro e w4 ⟨rfl, hb4⟩
  have hb14 := hb13.trans (hb4.mono hb13.size)
  have hP4 := HP3.out.below hb4
  have e0 := hP4.c0
  have e1 := hP4.c1
  have HP4 := Lib.hid hP4
  clear d0 d1 hP4 hb4
  cases hp : procB ps.length l
  · have Hv := Lib.hid (pays_no2 (ws := ws) hp)
    clear hp
    go_wp2_with fail
    go_ret2
    exact ⟨_, by rw [sg_no1 Hv.out]; rfl, by rw [sgV_no (sg_no1 Hv.out)]; exact Own.nil _ _, hb14⟩
  have Hpays := Lib.hid (pays_both HT.out hp)
  have hpp := procB_t hp
  have hTr := treeB_t HT.out
  have hn24 := hTr.n24
  have hn1 := hTr.n1
  have hnL : nP = nL := by have := hll.out; have := hpp.1; have := Hl.out; omega
  have hnW : nP = nW := by have := Hlw.out; have := hTr.wl; have := Hl.out; omega
  have hnP : 1 ≤ nP ∧ nP ≤ 24 := by have := Hl.out; omega
  have Hpp := Lib.hid hpp
  have HTr := Lib.hid hTr
  have HnW := Lib.hid hnW
  have hnW2 : nP ≤ nW := by omega
  clear hp hpp hn24 hn1 hTr hpn hwn hnW
  subst hnL
  by_cases hlen : nS = nP
  rotate_left
  · have hlb : ((nS : Int) != (nP : Int)) = true := by rw [bne_iff_ne]; omega
    have Hv := Lib.hid (sg_no2 (ps := ps) (ws := ws) (l := l) (st := st) (by rw [HSl.out, Hl.out]; exact hlen))
    clear hlen
    go_wp2_with fail
    go_ret2
    exact ⟨_, by rw [Hv.out]; rfl, by rw [sgV_no Hv.out]; exact Own.nil _ _, hb14⟩
  subst hlen
  have hlb : ((nS : Int) != (nS : Int)) = false := by simp
  cases hA : allIn st (-20) 20
  · have Hv := Lib.hid (sg_no3 (ps := ps) (ws := ws) (l := l) hA)
    have HA := Lib.hid hA
    clear hA
    go_wp2_with (go_at_call 129; refine (impl_allWithin _ _ _ _ _ st _ (by omega) (HS.out.below hb14)).mono ?_; rintro e w' ⟨rfl, rfl⟩; rw [HA.out])
    go_ret2
    exact ⟨_, by rw [Hv.out]; rfl, by rw [sgV_no Hv.out]; exact Own.nil _ _, hb14⟩
  have Hy := Lib.hid (sg_yes Hpays.out (by rw [HSl.out, Hl.out]) hA)
  have Hsb : Hid (∀ i, -20 ≤ nth st i ∧ nth st i ≤ 20) := Lib.hid (sgB_t Hy.out).2.2
  have HA := Lib.hid hA
  clear hA
  have HB9 : Hid (∀ i, -999 ≤ nth l i ∧ nth l i ≤ 999) := Lib.hid Hpp.out.2
  have hmk := mk_ints nS (by omega)
  have Hgl : Hid ((gains ps l st).length = nS) := Lib.hid (by rw [gains_length]; exact Hl.out)
  have h0 : Own (w4.alloc (.cells (zv nS) 3)) w4.heap.size (.slice (some ⟨w4.heap.size, 0, none⟩) nS nS) (hal (gains ps l st) 1) := by
    have hd : List.replicate nS 0 = hal (gains ps l st) 1 := by
      have := hal_one (gains ps l st) (by rw [nth_gains (by have := Hl.out; omega), gn_zero])
      rwa [Hgl.out] at this
    rw [← hd]
    exact Own.zeros w4 w4.heap.size nS (Nat.le_refl _) (by have : maxLen = 9223372036854775807 := rfl; omega)
  have H0 := Lib.hid h0
  clear h0
  have hP5 := HP4.out.alloc (.cells (zv nS) 3)
  have hb15 : Below w.heap.size w (w4.alloc (.cells (zv nS) 3)) := hb14.alloc hb14.size _
  have Hlt := Lib.hid HP4.out.lt
  have HP5 := Lib.hid hP5
  clear hP5
  go_wp2_with (go_at_call 129; refine (impl_allWithin _ _ _ _ _ st _ (by omega) (HS.out.below hb14)).mono ?_; rintro e w' ⟨rfl, rfl⟩; rw [HA.out])
  generalize hw5 : w4.alloc (.cells (zv nS) 3) = w5 at *
  clear hmk hw5 e0 e1
  go_loopw [9] (fun v9 wr => ∃ k : Nat, 1 ≤ k ∧ k ≤ nS ∧ v9 = .int .i64 (k : Int) ∧ Own wr w4.heap.size (.slice (some ⟨w4.heap.size, 0, none⟩) nS nS) (hal (gains ps l st) k) ∧ Pair wr w.heap.size (.slice aP nS cP) (.slice aW nW cW) ∧ Below w.heap.size w wr) (fun v9 _ => nS - (intOf v9).toNat)
  case atStart => exact ⟨1, Nat.le_refl _, by omega, rfl, H0.out, HP5.out, hb15⟩
  case round =>
    clear HP5 hb15 H0
    obtain ⟨k, hk1, hk2, rfl, hown, hP, hbel⟩ := hrel
    by_cases hlt : (k : Int) < nS
    · skip
      obtain ⟨b, off, rfl, hc⟩ := H.out.p.at (i := k) hbel (by omega)
      have hup := HTr.out.toPa.upN (x := k) hk1 (by have := Hl.out; omega)
      rw [hup.1] at hc
      have hpl := hup.2
      have hgu := gn_up (l := l) (st := st) hk1 hup.2
      have hg1 := gn_bd HTr.out.toPa HB9.out Hsb.out (par ps k) (by have := Hl.out; omega)
      have hg2 := gn_bd HTr.out.toPa HB9.out Hsb.out k (by have := Hl.out; omega)
      have hst := stake_bd (Hsb.out (par ps k)) (HB9.out k) (HB9.out (par ps k))
      have hl1 := HB9.out k
      have hl2 := HB9.out (par ps k)
      obtain ⟨bL, oL, rfl, hcL⟩ := HL.out.at (i := k) hbel (by omega)
      obtain ⟨bL', oL', h9, hcQ⟩ := HL.out.at (i := par ps k) hbel (by omega)
      cases h9
      obtain ⟨bS, oS, rfl, hcS⟩ := HS.out.at (i := par ps k) hbel (by omega)
      have c0 := hP.c0
      have d1 := hown.cell (i := par ps k) (by rw [hal_length]; have := Hgl.out; omega)
      rw [nth_hal hpl (by have := Hgl.out; omega), nth_gains (by have := Hl.out; omega)] at d1
      have d2 := hown.cell (i := k) (by rw [hal_length]; have := Hgl.out; omega)
      have f2 := hown.free (by rw [hal_length]; exact Hgl.out.symm) k
      have hset := Own.set (w := wr.drew) hown (by rw [hal_length]; exact Hgl.out.symm) k (gn ps l st k)
      rw [← nth_gains (x := k) (by have := Hl.out; omega), ← hal_succ _ _ (by have := Hgl.out; omega), nth_gains (x := k) (by have := Hl.out; omega), hgu] at hset
      have HPk := Lib.hid (Pair.far (w := wr.drew) hP.drew (b := w4.heap.size) (i := k) (by have := Hlt.out; omega) (.int .i64 (gn ps l st (par ps k) + nth st (par ps k) * (nth l k - nth l (par ps k)))))
      have Hbk := Lib.hid (hbel.drew.setCell (p := ⟨w4.heap.size, k, none⟩) (show w.heap.size ≤ w4.heap.size by have := Hlt.out; omega) (.int .i64 (gn ps l st (par ps k) + nth st (par ps k) * (nth l k - nth l (par ps k)))))
      have hpb : par ps k < nS := by omega
      rw [hgu] at hg2
      clear hup hgu hown hP
      generalize gn ps l st (par ps k) = D at *
      generalize nth st (par ps k) = s at *
      generalize nth l (par ps k) = q at *
      generalize nth l k = u at *
      generalize par ps k = p at *
      have Hset := Lib.hid hset
      have k1 : IntKind.i64.wrap (u - q) = u - q := IntWalk.i64_in _ (by omega)
      have k2 : IntKind.i64.wrap (s * (u - q)) = s * (u - q) := IntWalk.i64_in _ (by omega)
      have k3 : IntKind.i64.wrap (D + s * (u - q)) = D + s * (u - q) := IntWalk.i64_in _ (by omega)
      have k4 : (0 : Int) ≤ (p : Int) := by omega
      have k5 : (p : Int) < (nS : Int) := by omega
      have k6 : (0 : Int) ≤ (k : Int) := by omega
      clear hset hg1 hg2 hst hl1 hl2
      go_wp2_with fail
      refine wp_region_still_tail 22 (by kernel_rfl) (by kernel_rfl) ?_
      simp only [List.take_succ_cons, List.take_zero, List.drop_succ_cons, List.drop_zero]
      still_step
      still_step
      still_step
      still_step
      still_step
      still_step
      still_step
      still_step
      still_step
      still_step
      still_step
      still_step
      still_step
      still_step
      still_step
      still_step
      still_step
      still_step
      still_step
      still_step
      still_step
      still_step
      refine wpStill_nil ?_
      change wpList _ _ _ _ _ wr.drew
      go_wp2_with fail
      go_roundw
      case rel => exact ⟨k + 1, by omega, by omega, by go_num, Hset.out, HPk.out, Hbk.out⟩
      case measure => simp [intOf]; omega
    · obtain rfl : k = nS := by omega
      have hfin : hal (gains ps l st) k = gains ps l st := by have := hal_all (gains ps l st); rwa [Hgl.out] at this
      rw [hfin] at hown
      go_wp2_with fail
      go_ret2
      exact ⟨_, by rw [Hy.out]; rfl, by rw [sgV_yes Hy.out]; exact hown.mono (by have := Hlt.out; omega), hbel⟩
set_option maxRecDepth 100000 in
set_option maxHeartbeats 1000000 in
theorem spec_l3Stakes (aP : Option Addr) (nP cP : Nat) (aW : Option Addr) (nW cW : Nat) (ps ws : List Int) (aS : Option Addr) (nS cS : Nat) (st : List Int) (w : World) (h : Tre w aP nP cP aW nW cW ps ws) (hS : Ints w aS nS st) (hn : nS ≤ 1048576) :
    Calls Try.prog 130 #[.agg #[.slice aP nP cP, .slice aW nW cW], .slice aS nS cS] w fun e w' => e = .returned (.bool (stkB ps.length st)) ∧ Below w.heap.size w w' := by
  have hl := h.p.1
  have hlw := h.w.1
  have hpn := h.pn
  have hwn := h.wn
  have hb1 := below_new w (.cells #[.slice aP nP cP, .slice aW nW cW] 26)
  have hP1 := Lib.hid (Pair.new w (.slice aP nP cP) (.slice aW nW cW) 26)
  have H := Lib.hid h
  have Hl := Lib.hid hl
  have Hlw := Lib.hid hlw
  clear h hl hlw
  have hll := Lib.hid hS.1
  have HS := Lib.hid (hS.below hb1)
  clear hS
  have c0 := hP1.out.c0
  have c1 := hP1.out.c1
  have hlt2 := hP1.out.lt
  go_enter Try.func130, Try.ntmps130
  go_wp2_with fail
  generalize (w.alloc (.cells #[.slice aP nP cP, .slice aW nW cW] 26)) = w2 at *
  go_loop [5] (fun v5 => ∃ i : Nat, i ≤ nS ∧ v5 = .int .i64 (i : Int) ∧ ∀ j, j < i → inB (nth st j) (-20) 20 = true) (fun v5 => nS - (intOf v5).toNat)
  case atStart => exact ⟨0, Nat.zero_le _, rfl, fun j hj => by omega⟩
  case round =>
    obtain ⟨i, hi, rfl, hall⟩ := hrel
    have Hall := Lib.hid hall
    clear hall
    by_cases hlt : (i : Int) < nS
    · obtain ⟨b, off, rfl, hc⟩ := HS.out.at (i := i) (Below.refl _ _) (by omega)
      cases hin : inB (nth st i) (-20) 20
      · have hA : allIn st (-20) 20 = false := all_f (i := i) (by have := hll.out; omega) hin
        have Hv : Hid (stkB ps.length st = false) := Lib.hid (by rw [stkB, hA, Bool.and_false])
        have Hin := Lib.hid hin
        generalize nth st i = u at *
        clear hin hA
        go_wp2_with (go_at_call 123; refine (spec_l1In _ _ _ _).mono ?_; rintro e w' ⟨rfl, rfl⟩; rw [Hin.out])
        go_ret
        exact ⟨rb Hv.out.symm, hb1⟩
      · have Hin := Lib.hid hin
        have Hin2 := Lib.hid hin
        generalize hu : nth st i = u at hc Hin
        clear hin hu
        go_wp2_with (go_at_call 123; refine (spec_l1In _ _ _ _).mono ?_; rintro e w' ⟨rfl, rfl⟩; rw [Hin.out])
        go_round
        case rel => exact ⟨i + 1, by omega, by go_num, fun j hj => by
          by_cases e : j = i
          · subst e; exact Hin2.out
          · exact Hall.out j (by omega)⟩
        case measure => simp [intOf]; omega
    · obtain rfl : i = nS := by omega
      have hA : allIn st (-20) 20 = true := all_t fun j hj => Hall.out j (by have := hll.out; omega)
      have hv : stkB ps.length st = decide (i = nP) := by rw [stkB, hA, Bool.and_true, hll.out, Hl.out]; rfl
      have Hv := Lib.hid hv
      clear hA hv
      by_cases he : i = nP
      · have heb : ((i : Int) == (nP : Int)) = true := by simp [he]
        have He := Lib.hid he
        clear he
        go_wp2_with fail
        go_ret
        exact ⟨by rw [Hv.out, decide_eq_true He.out]; rfl, hb1⟩
      · have heb : ((i : Int) == (nP : Int)) = false := by rw [beq_eq_false_iff_ne]; omega
        have He := Lib.hid he
        clear he
        go_wp2_with fail
        go_ret
        exact ⟨by rw [Hv.out, decide_eq_false He.out]; rfl, hb1⟩
set_option maxRecDepth 100000 in
set_option maxHeartbeats 2000000 in
theorem spec_StakeGains (aP : Option Addr) (nP cP : Nat) (aW : Option Addr) (nW cW : Nat) (ps ws : List Int) (aL : Option Addr) (nL cL : Nat) (l : List Int) (aS : Option Addr) (nS cS : Nat) (st : List Int) (w : World) (h : Tre w aP nP cP aW nW cW ps ws) (hL : Ints w aL nL l) (_hLc : aL = none → cL = 0) (hn : nL ≤ 1048576) (hS : Ints w aS nS st) (_hSc : aS = none → cS = 0) (hnS : nS ≤ 1048576) :
    Calls Try.prog 61 #[.agg #[.slice aP nP cP, .slice aW nW cW], .slice aL nL cL, .slice aS nS cS] w fun e w' => ∃ v, e = .returned (.tuple #[v, .bool (sgB ps ws l st)]) ∧ Own w' w.heap.size v (sgV ps ws l st) ∧ Below w.heap.size w w' := by
  have HS := Lib.hid hS
  have HSl := Lib.hid hS.1
  clear hS
  have hl := h.p.1
  have hlw := h.w.1
  have hpn := h.pn
  have hwn := h.wn
  have hb1 := below_new w (.cells #[.slice aP nP cP, .slice aW nW cW] 26)
  have hP1 := Lib.hid (Pair.new w (.slice aP nP cP) (.slice aW nW cW) 26)
  have H := Lib.hid h
  have Hl := Lib.hid hl
  have Hlw := Lib.hid hlw
  clear h hl hlw
  have HL := Lib.hid hL
  have hll := Lib.hid hL.1
  clear hL
  have hlt2 := hP1.out.lt
  go_enter Try.func61, Try.ntmps61
  have c0 := hP1.out.c0
  have c1 := hP1.out.c1
  go_wp2_with fail
  try generalize (w.alloc (.cells #[.slice aP nP cP, .slice aW nW cW] 26)) = w2 at *
  refine (spec_l3Good _ _ _ _ _ _ ps ws _ _ _ l _ (H.out.below hb1) (HL.out.below hb1) hn).mono ?_
  rintro e w3 ⟨rfl, hb3⟩
  have hP3 := hP1.out.below hb3
  have d0 := hP3.c0
  have d1 := hP3.c1
  have HP3 := Lib.hid hP3
  have hb13 := hb1.trans (hb3.mono hb1.size)
  clear hP3 hb3
  try clear c0 c1
  cases hT : paysB ps ws l
  · have Hno := Lib.hid hT
    clear hT
    go_wp2_with fail
    go_ret2
    exact ⟨_, by rw [sg_no1 Hno.out]; rfl, by rw [sgV_no (sg_no1 Hno.out)]; exact (own_nil0 _).mono (by have := hb13.size; omega), hb13.alloc hb13.size _⟩
  have Hpays := Lib.hid hT
  have hpt := paysB_t hT
  have hTr := hpt.1
  have hn24 := hTr.n24
  have hn1 := hTr.n1
  have hnL : nP = nL := by have := hll.out; have := hpt.2.2.2.1; have := Hl.out; omega
  have hnW : nP = nW := by have := Hlw.out; have := hTr.wl; have := Hl.out; omega
  have hnP : 1 ≤ nP ∧ nP ≤ 24 := by have := Hl.out; omega
  have Hpp := Lib.hid hpt.2.2.2.2
  have HTr := Lib.hid hTr
  have HnW := Lib.hid hnW
  have hnW2 : nP ≤ nW := by omega
  clear hT hpt hn24 hn1 hTr hpn hwn hnW
  subst hnL
  go_wp2_with fail
  refine (spec_l3Stakes _ _ _ _ _ _ ps ws _ _ _ st _ (H.out.below hb13) (HS.out.below hb13) hnS).mono ?_
  rintro e w4 ⟨rfl, hb4⟩
  have hb14 := hb13.trans (hb4.mono hb13.size)
  have hP4 := HP3.out.below hb4
  have e0 := hP4.c0
  have e1 := hP4.c1
  have HP4 := Lib.hid hP4
  have Hlt := Lib.hid hP4.lt
  clear d0 d1 hP4 hb4 HP3
  have Hel : Hid (sgB ps ws l st = stkB ps.length st) := Lib.hid (by rw [sgB, Hpays.out]; rfl)
  cases hk : stkB ps.length st
  · have Hv : Hid (sgB ps ws l st = false) := Lib.hid (by rw [Hel.out]; exact hk)
    clear hk
    go_wp2_with fail
    go_ret2
    exact ⟨_, by rw [Hv.out]; rfl, by rw [sgV_no Hv.out]; exact (own_nil0 _).mono (by have := Hlt.out; omega), hb14.alloc hb14.size _⟩
  have Hy : Hid (sgB ps ws l st = true) := Lib.hid (by rw [Hel.out]; exact hk)
  have hSn : nS = nP := by have := (sgB_t Hy.out).2.1; have := HSl.out; have := Hl.out; omega
  have Hsb : Hid (∀ i, -20 ≤ nth st i ∧ nth st i ≤ 20) := Lib.hid (sgB_t Hy.out).2.2
  subst hSn
  clear hk Hel
  have HB9 : Hid (∀ i, -999 ≤ nth l i ∧ nth l i ≤ 999) := Lib.hid Hpp.out
  have H0 := Lib.hid (own_lit0 w4 w4.heap.size (Nat.le_refl _))
  have HP5 := Lib.hid (HP4.out.alloc (.cells #[.int .i64 0] 3))
  have hb15 : Below w.heap.size w (w4.alloc (.cells #[.int .i64 0] 3)) := hb14.alloc hb14.size _
  go_wp2_with fail
  generalize hw5 : w4.alloc (.cells #[.int .i64 0] 3) = w5 at *
  clear hw5 e0 e1
  go_loopw [8, 9] (fun v8 v9 wr => ∃ k : Nat, 1 ≤ k ∧ k ≤ nS ∧ v9 = .int .i64 (k : Int) ∧ Own wr w4.heap.size v8 (gnL ps l st k) ∧ Pair wr w.heap.size (.slice aP nS cP) (.slice aW nW cW) ∧ Below w.heap.size w wr) (fun _ v9 _ => nS - (intOf v9).toNat)
  case atStart => exact ⟨1, Nat.le_refl _, by omega, rfl, H0.out, HP5.out, hb15⟩
  case round =>
    clear HP5 hb15 H0
    obtain ⟨k, hk1, hk2, rfl, hown, hP, hbel⟩ := hrel
    by_cases hlt : (k : Int) < nS
    · skip
      obtain ⟨b, off, rfl, hc⟩ := H.out.p.at (i := k) hbel (by omega)
      have hup := HTr.out.toPa.upN (x := k) hk1 (by have := Hl.out; omega)
      rw [hup.1] at hc
      have hpl := hup.2
      have hgu := gn_up (l := l) (st := st) hk1 hup.2
      have hg1 := gn_bd HTr.out.toPa HB9.out Hsb.out (par ps k) (by have := Hl.out; omega)
      have hg2 := gn_bd HTr.out.toPa HB9.out Hsb.out k (by have := Hl.out; omega)
      have hst := stake_bd (Hsb.out (par ps k)) (HB9.out k) (HB9.out (par ps k))
      have hl1 := HB9.out k
      have hl2 := HB9.out (par ps k)
      obtain ⟨bL, oL, rfl, hbLw, hcL⟩ := HL.out.at2 (i := k) hbel (by omega)
      obtain ⟨bL', oL', h9, hcQ⟩ := HL.out.at (i := par ps k) hbel (by omega)
      cases h9
      obtain ⟨bS, oS, rfl, hbSw, hcS⟩ := HS.out.at2 (i := par ps k) hbel (by omega)
      have c0 := hP.c0
      have HP := Lib.hid hP
      have hst2 : Hid (gnL ps l st (k + 1) = gnL ps l st k ++ [gn ps l st (par ps k) + nth st (par ps k) * (nth l k - nth l (par ps k))]) := Lib.hid (by rw [gnL, if_neg (by omega), gnL_nth _ _ _ _ _ hpl])
      have hdl := gnL_length ps l st k
      obtain ⟨g, cp, rfl, -, -⟩ := hown.form (by omega)
      have d1 := hown.cell (i := par ps k) (by omega)
      rw [gnL_nth _ _ _ _ _ hpl] at d1
      rw [hdl] at hown ⊢
      have hle : w4.heap.size ≤ wr.heap.size := by have := hown.lt; omega
      have hpb : par ps k < k := by omega
      have Hdl := Lib.hid hdl
      rw [hgu] at hg2
      clear hup hgu hP hdl
      generalize gn ps l st (par ps k) = D at *
      generalize nth st (par ps k) = s at *
      generalize nth l (par ps k) = q at *
      generalize nth l k = u at *
      generalize par ps k = p at *
      have k1 : IntKind.i64.wrap (u - q) = u - q := IntWalk.i64_in _ (by omega)
      have k2 : IntKind.i64.wrap (s * (u - q)) = s * (u - q) := IntWalk.i64_in _ (by omega)
      have k3 : IntKind.i64.wrap (D + s * (u - q)) = D + s * (u - q) := IntWalk.i64_in _ (by omega)
      have k4 : (0 : Int) ≤ (p : Int) := by omega
      have k5 : (p : Int) < (nS : Int) := by omega
      have k6 : (0 : Int) ≤ (k : Int) := by omega
      have k7 : (p : Int) < (k : Int) := by omega
      clear hg1 hg2 hst hl1 hl2
      have HA0 : Hid (∀ o, Below w4.heap.size wr (wr.alloc o).drew) := Lib.hid fun o => ((Below.refl _ _).alloc hle o).drew
      have HA0' : Hid (∀ o, Below wr.heap.size wr (wr.alloc o).drew) := Lib.hid fun o => (below_new wr o).drew
      go_wp2_with fail
      refine wp_region_noPanic ?_
      refine wp_region_held_drew (S := (fun W' => (Below w4.heap.size wr W' ∧ W'.cell? ⟨bS, oS + p, none⟩ = some (.int .i64 s)) ∧ W'.cell? ⟨bL, oL + k, none⟩ = some (.int .i64 u) ∧ W'.cell? ⟨bL, oL + p, none⟩ = some (.int .i64 q))) (by kernel_rfl) ?_ (fun hHeld0 => ?_)
      · (try dsimp only); first | assumption | exact ⟨⟨(Below.refl _ _).drew, hcS⟩, hcL, hcQ⟩ | exact ⟨⟨HA0.out _, cell_up (HA0'.out _) hcS⟩, cell_up (HA0'.out _) hcL, cell_up (HA0'.out _) hcQ⟩
      refine takeH (i := 0) (oi := _) (v := ?_) rfl (by kernel_rfl) (by kernel_rfl) (by kernel_rfl) (fun _ _ _ h => h) (Or.inl ⟨by rfl, ?_⟩) (by assumption) ?_
      rotate_left
      · first | (intro w hSw; (try dsimp only at hSw); go_simp; done) | (intro w hSw; (try dsimp only at hSw); go_simp; with_reducible rfl)
      (try simp only [Act.put, List.setIfInBounds_toArray, List.set_cons_zero, List.set_cons_succ])
      refine takeH (i := 1) (oi := _) (v := ?_) rfl (by kernel_rfl) (by kernel_rfl) (by kernel_rfl) (fun _ _ _ h => h) (Or.inl ⟨by rfl, ?_⟩) (by assumption) ?_
      rotate_left
      · first | (intro w hSw; (try dsimp only at hSw); go_simp; done) | (intro w hSw; (try dsimp only at hSw); go_simp; with_reducible rfl)
      (try simp only [Act.put, List.setIfInBounds_toArray, List.set_cons_zero, List.set_cons_succ])
      refine takeH (i := 2) (oi := _) (v := ?_) rfl (by kernel_rfl) (by kernel_rfl) (by kernel_rfl) (fun _ _ _ h => h) (Or.inl ⟨by rfl, ?_⟩) (by assumption) ?_
      rotate_left
      · first | (intro w hSw; (try dsimp only at hSw); go_simp; done) | (intro w hSw; (try dsimp only at hSw); go_simp; with_reducible rfl)
      (try simp only [Act.put, List.setIfInBounds_toArray, List.set_cons_zero, List.set_cons_succ])
      refine takeH (i := 3) (oi := _) (v := ?_) rfl (by kernel_rfl) (by kernel_rfl) (by kernel_rfl) (fun _ _ _ h => h) (Or.inl ⟨by rfl, ?_⟩) (by assumption) ?_
      rotate_left
      · first | (intro w hSw; (try dsimp only at hSw); go_simp; done) | (intro w hSw; (try dsimp only at hSw); go_simp; with_reducible rfl)
      (try simp only [Act.put, List.setIfInBounds_toArray, List.set_cons_zero, List.set_cons_succ])
      refine takeH (i := 5) (oi := _) (v := ?_) rfl (by kernel_rfl) (by kernel_rfl) (by kernel_rfl) (fun _ _ _ h => h) (Or.inl ⟨by rfl, ?_⟩) (by assumption) ?_
      rotate_left
      · first | (intro w hSw; (try dsimp only at hSw); go_simp; done) | (intro w hSw; (try dsimp only at hSw); go_simp; with_reducible rfl)
      (try simp only [Act.put, List.setIfInBounds_toArray, List.set_cons_zero, List.set_cons_succ])
      refine takeH (i := 6) (oi := _) (v := ?_) rfl (by kernel_rfl) (by kernel_rfl) (by kernel_rfl) (fun _ _ _ h => h) (Or.inl ⟨by rfl, ?_⟩) (by assumption) ?_
      rotate_left
      · first | (intro w hSw; (try dsimp only at hSw); go_simp; done) | (intro w hSw; (try dsimp only at hSw); go_simp; with_reducible rfl)
      (try simp only [Act.put, List.setIfInBounds_toArray, List.set_cons_zero, List.set_cons_succ])
      refine takeH (i := 7) (oi := _) (v := ?_) rfl (by kernel_rfl) (by kernel_rfl) (by kernel_rfl) (fun _ _ _ h => h) (Or.inl ⟨by rfl, ?_⟩) (by assumption) ?_
      rotate_left
      · first | (intro w hSw; (try dsimp only at hSw); go_simp; done) | (intro w hSw; (try dsimp only at hSw); go_simp; with_reducible rfl)
      (try simp only [Act.put, List.setIfInBounds_toArray, List.set_cons_zero, List.set_cons_succ])
      refine takeH (i := 8) (oi := _) (v := ?_) rfl (by kernel_rfl) (by kernel_rfl) (by kernel_rfl) (fun _ _ _ h => h) (Or.inl ⟨by rfl, ?_⟩) (by assumption) ?_
      rotate_left
      · first | (intro w hSw; (try dsimp only at hSw); go_simp; done) | (intro w hSw; (try dsimp only at hSw); go_simp; with_reducible rfl)
      (try simp only [Act.put, List.setIfInBounds_toArray, List.set_cons_zero, List.set_cons_succ])
      refine takeH (i := 9) (oi := _) (v := ?_) rfl (by kernel_rfl) (by kernel_rfl) (by kernel_rfl) (fun _ _ _ h => h) (Or.inl ⟨by rfl, ?_⟩) (by assumption) ?_
      rotate_left
      · first | (intro w hSw; (try dsimp only at hSw); go_simp; done) | (intro w hSw; (try dsimp only at hSw); go_simp; with_reducible rfl)
      (try simp only [Act.put, List.setIfInBounds_toArray, List.set_cons_zero, List.set_cons_succ])
      refine takeH (i := 10) (oi := _) (v := ?_) rfl (by kernel_rfl) (by kernel_rfl) (by kernel_rfl) (fun _ _ _ h => h) (Or.inl ⟨by rfl, ?_⟩) (by assumption) ?_
      rotate_left
      · first | (intro w hSw; (try dsimp only at hSw); go_simp; done) | (intro w hSw; (try dsimp only at hSw); go_simp; with_reducible rfl)
      (try simp only [Act.put, List.setIfInBounds_toArray, List.set_cons_zero, List.set_cons_succ])
      refine takeH (i := 11) (oi := _) (v := ?_) rfl (by kernel_rfl) (by kernel_rfl) (by kernel_rfl) (fun _ _ _ h => h) (Or.inl ⟨by rfl, ?_⟩) (by assumption) ?_
      rotate_left
      · first | (intro w hSw; (try dsimp only at hSw); go_simp; done) | (intro w hSw; (try dsimp only at hSw); go_simp; with_reducible rfl)
      (try simp only [Act.put, List.setIfInBounds_toArray, List.set_cons_zero, List.set_cons_succ])
      refine takeH (i := 12) (oi := _) (v := ?_) rfl (by kernel_rfl) (by kernel_rfl) (by kernel_rfl) (fun _ _ _ h => h) (Or.inl ⟨by rfl, ?_⟩) (by assumption) ?_
      rotate_left
      · first | (intro w hSw; (try dsimp only at hSw); go_simp; done) | (intro w hSw; (try dsimp only at hSw); go_simp; with_reducible rfl)
      (try simp only [Act.put, List.setIfInBounds_toArray, List.set_cons_zero, List.set_cons_succ])
      refine takeH (i := 13) (oi := _) (v := ?_) rfl (by kernel_rfl) (by kernel_rfl) (by kernel_rfl) (fun _ _ _ h => h) (Or.inl ⟨by rfl, ?_⟩) (by assumption) ?_
      rotate_left
      · first | (intro w hSw; (try dsimp only at hSw); go_simp; done) | (intro w hSw; (try dsimp only at hSw); go_simp; with_reducible rfl)
      (try simp only [Act.put, List.setIfInBounds_toArray, List.set_cons_zero, List.set_cons_succ])
      refine takeH (i := 14) (oi := _) (v := ?_) rfl (by kernel_rfl) (by kernel_rfl) (by kernel_rfl) (fun _ _ _ h => h) (Or.inl ⟨by rfl, ?_⟩) (by assumption) ?_
      rotate_left
      · first | (intro w hSw; (try dsimp only at hSw); go_simp; done) | (intro w hSw; (try dsimp only at hSw); go_simp; with_reducible rfl)
      (try simp only [Act.put, List.setIfInBounds_toArray, List.set_cons_zero, List.set_cons_succ])
      refine takeH (i := 15) (oi := _) (v := ?_) rfl (by kernel_rfl) (by kernel_rfl) (by kernel_rfl) (fun _ _ _ h => h) (Or.inl ⟨by rfl, ?_⟩) (by assumption) ?_
      rotate_left
      · first | (intro w hSw; (try dsimp only at hSw); go_simp; done) | (intro w hSw; (try dsimp only at hSw); go_simp; with_reducible rfl)
      (try simp only [Act.put, List.setIfInBounds_toArray, List.set_cons_zero, List.set_cons_succ])
      refine takeH (i := 16) (oi := _) (v := ?_) rfl (by kernel_rfl) (by kernel_rfl) (by kernel_rfl) (fun _ _ _ h => h) (Or.inl ⟨by rfl, ?_⟩) (by assumption) ?_
      rotate_left
      · first | (intro w hSw; (try dsimp only at hSw); go_simp; done) | (intro w hSw; (try dsimp only at hSw); go_simp; with_reducible rfl)
      (try simp only [Act.put, List.setIfInBounds_toArray, List.set_cons_zero, List.set_cons_succ])
      refine takeH (i := 17) (oi := _) (v := ?_) rfl (by kernel_rfl) (by kernel_rfl) (by kernel_rfl) (fun _ _ _ h => h) (Or.inl ⟨by rfl, ?_⟩) (by assumption) ?_
      rotate_left
      · first | (intro w hSw; (try dsimp only at hSw); go_simp; done) | (intro w hSw; (try dsimp only at hSw); go_simp; with_reducible rfl)
      (try simp only [Act.put, List.setIfInBounds_toArray, List.set_cons_zero, List.set_cons_succ])
      refine takeH (i := 18) (oi := _) (v := ?_) rfl (by kernel_rfl) (by kernel_rfl) (by kernel_rfl) (fun _ _ _ h => h) (Or.inl ⟨by rfl, ?_⟩) (by assumption) ?_
      rotate_left
      · first | (intro w hSw; (try dsimp only at hSw); go_simp; done) | (intro w hSw; (try dsimp only at hSw); go_simp; with_reducible rfl)
      (try simp only [Act.put, List.setIfInBounds_toArray, List.set_cons_zero, List.set_cons_succ])
      refine wpAnyH_ready (rs := [4]) (by kernel_rfl) (by simp) ?_
      refine consH rfl (fun Kq hKq => ?_)
      go_simp
      refine hKq.out _ _ ?_ (fun hHeld1 => ?_)
      · (try dsimp only); first | assumption | exact ⟨⟨(Below.refl _ _).drew, hcS⟩, hcL, hcQ⟩ | exact ⟨⟨HA0.out _, cell_up (HA0'.out _) hcS⟩, cell_up (HA0'.out _) hcL, cell_up (HA0'.out _) hcQ⟩
      clear hKq Kq
      (try simp only [Act.put, List.setIfInBounds_toArray, List.set_cons_zero, List.set_cons_succ])
      clear hHeld0
      refine takeH (i := 19) (oi := _) (v := ?_) rfl (by kernel_rfl) (by kernel_rfl) (by kernel_rfl) (fun _ _ _ h => h) (Or.inl ⟨by rfl, ?_⟩) (by assumption) ?_
      rotate_left
      · first | (intro w hSw; (try dsimp only at hSw); go_simp; done) | (intro w hSw; (try dsimp only at hSw); go_simp; with_reducible rfl)
      (try simp only [Act.put, List.setIfInBounds_toArray, List.set_cons_zero, List.set_cons_succ])
      refine wpAnyH_ready (rs := [20]) (by kernel_rfl) (by simp) ?_
      refine consH rfl (fun Kq hKq => ?_)
      go_simp
      refine hKq.out _ _ ?_ (fun hHeld2 => ?_)
      · (try dsimp only); first | assumption | exact ⟨⟨(Below.refl _ _).drew, hcS⟩, hcL, hcQ⟩ | exact ⟨⟨HA0.out _, cell_up (HA0'.out _) hcS⟩, cell_up (HA0'.out _) hcL, cell_up (HA0'.out _) hcQ⟩
      clear hKq Kq
      (try simp only [Act.put, List.setIfInBounds_toArray, List.set_cons_zero, List.set_cons_succ])
      clear hHeld1
      refine wpAnyH_ready (rs := [21]) (by kernel_rfl) (by simp) ?_
      refine consH rfl (fun Kq hKq => ?_)
      (refine step_push2 (u := D + s * (u - q)) rfl _ _ rfl w4.heap.size _ _ (by rfl) hown (by rfl) (by have := Hdl.out; omega) hle ?_; intro v' w' ho hb hm
       have xS := hm.cell hcS (fun e => by have h1 := (World.ownsRow.lt hown _ e).1; have := Hlt.out; simp at h1; omega)
       have xL := hm.cell hcL (fun e => by have h1 := (World.ownsRow.lt hown _ e).1; have := Hlt.out; simp at h1; omega)
       have xQ := hm.cell hcQ (fun e => by have h1 := (World.ownsRow.lt hown _ e).1; have := Hlt.out; simp at h1; omega)
       have hSS : (Below w4.heap.size wr w' ∧ w'.cell? ⟨bS, oS + p, none⟩ = some (.int .i64 s)) ∧ w'.cell? ⟨bL, oL + k, none⟩ = some (.int .i64 u) ∧ w'.cell? ⟨bL, oL + p, none⟩ = some (.int .i64 q) := ⟨⟨hb, xS⟩, xL, xQ⟩)
      refine hKq.out _ _ ?_ (fun hHeld3 => ?_)
      · (try dsimp only); first | assumption | exact ⟨⟨(Below.refl _ _).drew, hcS⟩, hcL, hcQ⟩ | exact ⟨⟨HA0.out _, cell_up (HA0'.out _) hcS⟩, cell_up (HA0'.out _) hcL, cell_up (HA0'.out _) hcQ⟩
      clear hKq Kq
      (try simp only [Act.put, List.setIfInBounds_toArray, List.set_cons_zero, List.set_cons_succ])
      clear hHeld2
      refine takeH (i := 22) (oi := _) (v := ?_) rfl (by kernel_rfl) (by kernel_rfl) (by kernel_rfl) (fun _ _ _ h => h) (Or.inl ⟨by rfl, ?_⟩) (by assumption) ?_
      rotate_left
      · first | (intro w hSw; (try dsimp only at hSw); go_simp; done) | (intro w hSw; (try dsimp only at hSw); go_simp; with_reducible rfl)
      (try simp only [Act.put, List.setIfInBounds_toArray, List.set_cons_zero, List.set_cons_succ])
      refine wpAnyH_done (by kernel_rfl) ?_ _
      refine NoPanic.normal ?_
      go_wp2_with fail
      go_roundw
      case rel => exact ⟨k + 1, by omega, by omega, by go_num, by rw [hst2.out]; exact ho, HP.out.up hb (by have := Hlt.out; omega), hbel.trans (hb.mono (by have := Hlt.out; omega))⟩
      case measure => simp [intOf]; omega
    · have c0 := hP.c0
      obtain rfl : k = nS := by omega
      go_wp2_with fail
      go_ret2
      exact ⟨_, by rw [Hy.out]; rfl, by rw [sgV_yes Hy.out, gains, Hl.out]; exact hown.mono (by have := Hlt.out; omega), hbel⟩
end Go.Proofs.Ytnbomleieianoaa

/- Contracts: is a process falling, and its drifts, by the program. -/
namespace Go.Proofs.Ytnbomleieianoaa
open Go.RowKit

def falV (ps ws l : List Int) : Bool := paysB ps ws l && fallB ps ws l
theorem falV_no {ps ws l : List Int} (h : paysB ps ws l = false) : falV ps ws l = false := by rw [falV, h]; rfl
theorem falV_yes {ps ws l : List Int} (h : paysB ps ws l = true) : falV ps ws l = fallB ps ws l := by rw [falV, h]; rfl
theorem fal_no {ps ws l : List Int} {x : Nat} (hx : x < ps.length) (h : 0 < drA ps ws l x) : fallB ps ws l = false := all_f hx (by simp; omega)
theorem fal_yes {ps ws l : List Int} (h : ∀ x, x < ps.length → drA ps ws l x ≤ 0) : fallB ps ws l = true := all_t fun x hx => by simp [h x hx]
theorem nm_low {a b : Int} (hb : 0 < b) : nm a b ≤ 0 ↔ a ≤ 0 := by
  have hg := gcdI_pos (a := a) (b := b) (by omega)
  rw [nm, if_neg (by omega)]
  have h := Int.mul_ediv_cancel' (gcdI_dvd_l a b)
  generalize a / gcdI a b = q at *
  generalize gcdI a b = g at *
  subst h
  constructor
  · intro hq
    have := Int.mul_le_mul_of_nonneg_left hq (show 0 ≤ g by omega)
    omega
  · intro hq
    rcases Int.lt_or_le 0 q with h0 | h0
    · have := Int.mul_pos (show 0 < g by omega) h0
      omega
    · exact h0
def dofV (ps ws l : List Int) : List (Int × Int) := if paysB ps ws l then driftL ps ws l else []
theorem dofV_no {ps ws l : List Int} (h : paysB ps ws l = false) : dofV ps ws l = [] := by rw [dofV, h]; rfl
theorem dofV_yes {ps ws l : List Int} (h : paysB ps ws l = true) : dofV ps ws l = driftL ps ws l := by rw [dofV, if_pos h]
theorem dofV_len {ps ws l : List Int} : (dofV ps ws l).length ≤ 24 := by
  cases h : paysB ps ws l
  · rw [dofV_no h]; exact Nat.zero_le _
  · rw [dofV_yes h, driftL_length]; exact (paysB_t h).1.n24
set_option maxRecDepth 100000 in
set_option maxHeartbeats 1000000 in
theorem impl_IsFalling (aP : Option Addr) (nP cP : Nat) (aW : Option Addr) (nW cW : Nat) (ps ws : List Int) (aL : Option Addr) (nL cL : Nat) (l : List Int) (w : World) (h : Tre w aP nP cP aW nW cW ps ws) (hL : Ints w aL nL l) (_hLc : aL = none → cL = 0) (hn : nL ≤ 1048576) :
    Calls Try.prog 21 #[.agg #[.slice aP nP cP, .slice aW nW cW], .slice aL nL cL] w fun e w' => e = .returned (.tuple #[.bool (falV ps ws l), .bool (paysB ps ws l)]) ∧ Below w.heap.size w w' := by
  have hl := h.p.1
  have hlw := h.w.1
  have hpn := h.pn
  have hwn := h.wn
  have hb1 := below_new w (.cells #[.slice aP nP cP, .slice aW nW cW] 26)
  have hP1 := Lib.hid (Pair.new w (.slice aP nP cP) (.slice aW nW cW) 26)
  have H := Lib.hid h
  have Hl := Lib.hid hl
  have Hlw := Lib.hid hlw
  clear h hl hlw
  have HL := Lib.hid hL
  have hll := Lib.hid hL.1
  clear hL
  go_enter Try.func21, Try.ntmps21
  have c0 := hP1.out.c0
  have c1 := hP1.out.c1
  go_wp2_with fail
  generalize (w.alloc (.cells #[.slice aP nP cP, .slice aW nW cW] 26)) = w2 at *
  refine (impl_IsTree _ _ _ _ _ _ ps ws _ (H.out.below hb1)).mono ?_
  rintro e w3 ⟨rfl, hb3⟩
  have HP3 := Lib.hid (hP1.out.below hb3)
  have d0 := HP3.out.c0
  have d1 := HP3.out.c1
  have hb13 := hb1.trans (hb3.mono hb1.size)
  clear c0 c1 hb3 hP1
  cases hT : treeB ps ws
  · have Hv := Lib.hid (pays_no1 (l := l) hT)
    clear hT
    go_wp2_with fail
    go_ret2
    exact ⟨by rw [falV_no Hv.out, Hv.out]; rfl, hb13⟩
  have HT := Lib.hid hT
  clear hT
  go_wp2_with fail
  refine (impl_isProcess _ _ _ _ _ _ ps ws _ _ _ l _ (H.out.below hb13) (HL.out.below hb13) hn).mono ?_
  rintro e w4 ⟨rfl, hb4⟩
  have HP4 := Lib.hid (HP3.out.below hb4)
  have e0 := HP4.out.c0
  have e1 := HP4.out.c1
  have hb14 := hb13.trans (hb4.mono hb13.size)
  clear d0 d1 hb4 HP3
  cases hp : procB ps.length l
  · have Hv := Lib.hid (pays_no2 (ws := ws) hp)
    clear hp
    go_wp2_with fail
    go_ret2
    exact ⟨by rw [falV_no Hv.out, Hv.out]; rfl, hb14⟩
  have Hpays := Lib.hid (pays_both HT.out hp)
  obtain ⟨hTr, _, _, hleq, hlb⟩ := paysB_t Hpays.out
  have hnL : nP = nL := by have := hll.out; have := Hl.out; omega
  have HTr := Lib.hid hTr
  have Hlb := Lib.hid hlb
  have Hbv := Lib.hid (falV_yes Hpays.out)
  have hn24 := hTr.n24
  have hnP : 1 ≤ nP ∧ nP ≤ 24 := by have := hTr.n1; have := Hl.out; omega
  clear hp hTr hleq hlb hn24 hn hpn hwn
  subst hnL
  go_wp2_with fail
  refine (impl_drifts _ _ _ _ _ _ ps ws _ _ _ l _ (H.out.below hb14) HTr.out (HL.out.below hb14) rfl Hlb.out).mono ?_
  rintro e w5 ⟨v5, rfl, ho5, hb5⟩
  obtain ⟨a5, c5, rfl⟩ := ho5.shape
  have hdl : (driftL ps ws l).length = nP := by rw [driftL_length]; exact Hl.out
  rw [hdl] at ho5 ⊢
  have D5 := Lib.hid ho5.ints
  have hb15 := hb14.trans (hb5.mono hb14.size)
  have Hat : Hid (∀ x, x < nP → ∃ b : Int, 0 < b ∧ Fr.at1 (driftL ps ws l) x = nm (drA ps ws l x) b) := Lib.hid fun x hx => ⟨nth (sums ps ws) x, by have := sums_pos HTr.out x (by have := Hl.out; omega); omega, by
    rw [Fr.at1, driftL]
    simp [List.getD, show x < ps.length by have := Hl.out; omega]⟩
  have Hno : Hid (∀ x, x < nP → 0 < drA ps ws l x → fallB ps ws l = false) := Lib.hid fun x hx h => fal_no (by have := Hl.out; omega) h
  have Hyes : Hid ((∀ x, x < nP → drA ps ws l x ≤ 0) → fallB ps ws l = true) := Lib.hid fun h => fal_yes fun x hx => h x (by have := Hl.out; omega)
  clear ho5 hb5 HP4 e0 e1 hdl
  generalize driftL ps ws l = dl at *
  go_wp2_with fail
  go_loopw [21] (fun v21 wr => ∃ x : Nat, x ≤ nP ∧ v21 = .int .i64 (x : Int) ∧ (∀ y, y < x → drA ps ws l y ≤ 0) ∧ Below w5.heap.size w5 wr ∧ Below w.heap.size w wr) (fun v21 _ => nP - (intOf v21).toNat)
  case atStart => exact ⟨0, Nat.zero_le _, rfl, fun y hy => by omega, Below.refl _ _, hb15⟩
  case round =>
    clear hb15
    obtain ⟨x, hx, rfl, hall, hb6, hbel⟩ := hrel
    have Hall := Lib.hid hall
    clear hall
    by_cases hlt : (x : Int) < nP
    · obtain ⟨b5, o5, rfl, hb5, hcs⟩ := D5.out.2 (by omega)
      obtain ⟨hA, hB⟩ := hcs x (by omega)
      have hA' := (hb6.cell (p := ⟨b5, o5 + x * 2, none⟩) hb5).trans hA
      have hB' := (hb6.cell (p := ⟨b5, o5 + x * 2 + 1, none⟩) hb5).trans hB
      obtain ⟨bq, hbq, hat⟩ := Hat.out x (by omega)
      have hz := nm_low (a := drA ps ws l x) hbq
      rw [← hat] at hz
      have Hz := Lib.hid hz
      have HnoX := Lib.hid (Hno.out x (by omega))
      have hx0 : (0 : Int) ≤ (x : Int) := by omega
      clear hcs hA hB hat hz
      generalize Fr.at1 dl x = g1 at *
      generalize Fr.at2 dl x = g2 at *
      have q := Pair.new wr (.int .i64 0) (.int .i64 0) 48
      have q0 := q.c0
      have q1 := q.c1
      have q2 := q.f0
      have q3 := q.f1
      have qn := Pair.new wr (.int .i64 g1) (.int .i64 g2) 48
      have n0 := qn.c0
      have n1 := qn.c1
      have hnew := below_new wr (.cells #[.int .i64 g1, .int .i64 g2] 48)
      by_cases hg : g1 ≤ 0
      · have Hd := Lib.hid (Hz.out.1 hg)
        have hgb : ¬ g1 > 0 := by omega
        clear hg
        go_wp2_with fail
        go_roundw
        case rel => exact ⟨x + 1, by omega, by go_num, fun y hy => by
          by_cases e : y = x
          · subst e; exact Hd.out
          · exact Hall.out y (by omega), hb6.trans (hnew.mono hb6.size), hbel.trans (hnew.mono hbel.size)⟩
        case measure => simp [intOf]; omega
      · have Hb := Lib.hid (HnoX.out (by have := Hz.out; omega))
        have hgb : g1 > 0 := by omega
        go_wp2_with fail
        go_ret2
        exact ⟨by rw [Hbv.out, Hb.out, Hpays.out]; rfl, hbel.trans (hnew.mono hbel.size)⟩
    · obtain rfl : x = nP := by omega
      have Hb := Lib.hid (Hyes.out Hall.out)
      go_wp2_with fail
      go_ret2
      exact ⟨by rw [Hbv.out, Hb.out, Hpays.out]; rfl, hbel⟩
set_option maxRecDepth 100000 in
set_option maxHeartbeats 1000000 in
theorem impl_DriftsOf (aP : Option Addr) (nP cP : Nat) (aW : Option Addr) (nW cW : Nat) (ps ws : List Int) (aL : Option Addr) (nL cL : Nat) (l : List Int) (w : World) (h : Tre w aP nP cP aW nW cW ps ws) (hL : Ints w aL nL l) (_hLc : aL = none → cL = 0) (hn : nL ≤ 1048576) :
    Calls Try.prog 28 #[.agg #[.slice aP nP cP, .slice aW nW cW], .slice aL nL cL] w fun e w' => ∃ v, e = .returned (.tuple #[v, .bool (paysB ps ws l)]) ∧ Fr.Own w' w.heap.size v (dofV ps ws l) ∧ Below w.heap.size w w' := by
  have hl := h.p.1
  have hlw := h.w.1
  have hpn := h.pn
  have hwn := h.wn
  have hb1 := below_new w (.cells #[.slice aP nP cP, .slice aW nW cW] 26)
  have hP1 := Lib.hid (Pair.new w (.slice aP nP cP) (.slice aW nW cW) 26)
  have H := Lib.hid h
  have Hl := Lib.hid hl
  have Hlw := Lib.hid hlw
  clear h hl hlw
  have HL := Lib.hid hL
  have hll := Lib.hid hL.1
  clear hL
  have hlt2 := hP1.out.lt
  go_enter Try.func28, Try.ntmps28
  have c0 := hP1.out.c0
  have c1 := hP1.out.c1
  go_wp2_with fail
  generalize (w.alloc (.cells #[.slice aP nP cP, .slice aW nW cW] 26)) = w2 at *
  refine (impl_IsTree _ _ _ _ _ _ ps ws _ (H.out.below hb1)).mono ?_
  rintro e w3 ⟨rfl, hb3⟩
  have hP3 := hP1.out.below hb3
  have d0 := hP3.c0
  have d1 := hP3.c1
  have HP3 := Lib.hid hP3
  have hb13 := hb1.trans (hb3.mono hb1.size)
  clear hP3 c0 c1 hb3
  cases hT : treeB ps ws
  · have Hv := Lib.hid (pays_no1 (l := l) hT)
    clear hT
    go_wp2_with fail
    go_ret2
    exact ⟨_, by rw [Hv.out]; rfl, by rw [dofV_no Hv.out]; exact Fr.Own.nil _ _, hb13⟩
  have HT := Lib.hid hT
  clear hT
  go_wp2_with fail
  refine (impl_isProcess _ _ _ _ _ _ ps ws _ _ _ l _ (H.out.below hb13) (HL.out.below hb13) hn).mono ?_
  rintro e w4 ⟨rfl, hb4⟩
  have hb14 := hb13.trans (hb4.mono hb13.size)
  have hP4 := HP3.out.below hb4
  have e0 := hP4.c0
  have e1 := hP4.c1
  have HP4 := Lib.hid hP4
  clear d0 d1 hP4 hb4
  cases hp : procB ps.length l
  · have Hv := Lib.hid (pays_no2 (ws := ws) hp)
    clear hp
    go_wp2_with fail
    go_ret2
    exact ⟨_, by rw [Hv.out]; rfl, by rw [dofV_no Hv.out]; exact Fr.Own.nil _ _, hb14⟩
  have Hpays := Lib.hid (pays_both HT.out hp)
  have hpp := procB_t hp
  have hTr := treeB_t HT.out
  have hn24 := hTr.n24
  have hn1 := hTr.n1
  have hnL : nP = nL := by have := hll.out; have := hpp.1; have := Hl.out; omega
  have hnW : nP = nW := by have := Hlw.out; have := hTr.wl; have := Hl.out; omega
  have hnP : 1 ≤ nP ∧ nP ≤ 24 := by have := Hl.out; omega
  have Hpp := Lib.hid hpp
  have HTr := Lib.hid hTr
  have HnW := Lib.hid hnW
  have hnW2 : nP ≤ nW := by omega
  clear hp hpp hn24 hn1 hTr hpn hwn hnW
  subst hnL
  go_wp2_with fail
  refine (impl_drifts _ _ _ _ _ _ ps ws _ _ _ l _ (H.out.below hb14) HTr.out (HL.out.below hb14) rfl Hpp.out.2).mono ?_
  rintro e w5 ⟨v5, rfl, ho5, hb5⟩
  go_wp2_with fail
  go_ret2
  exact ⟨_, by rw [Hpays.out]; rfl, by rw [dofV_yes Hpays.out]; exact ho5.mono hb14.size, hb14.trans (hb5.mono hb14.size)⟩
end Go.Proofs.Ytnbomleieianoaa

/- Contracts of the small words of the laws on rules and fractions. No conditions but those stated. -/
namespace Go.Proofs.Ytnbomleieianoaa
open Go.RowKit

theorem laws_vBig (a : Option Addr) (n cap : Nat) (w : World) :
    Calls Try.prog 10 #[.slice a n cap] w fun e w' => e = .returned (.bool (decide ((n : Int) > 65536))) ∧ w = w' := by
  by_cases h : (n : Int) > 65536
  all_goals
    go_enter Try.func10, Try.ntmps10
    go_wp2_with fail
    go_ret
    exact ⟨by simp [h], rfl⟩
set_option maxHeartbeats 400000 in
/-- Two slices that read alike are found equal. -/
theorem laws_vInts_q (a b : Option Addr) (n ca cb : Nat) (xs : List Int) (w : World) (hn : n ≤ 4294967296) (ha : Ints w a n xs) (hb : Ints w b n xs) :
    Calls Try.prog 20 #[.slice a n ca, .slice b n cb] w fun e w' => e = .returned (.bool true) ∧ ∃ m, w' = w.drewN m := by
  have Ha := Lib.hid ha
  have Hb := Lib.hid hb
  clear ha hb
  go_enter Try.func20, Try.ntmps20
  go_wp2_with fail
  go_loopw [5] (fun v5 wr => ∃ i m : Nat, i ≤ n ∧ v5 = .int .i64 i ∧ wr = w.drewN m) (fun v5 _ => n - (intOf v5).toNat)
  case atStart => exact ⟨0, 0, Nat.zero_le _, rfl, rfl⟩
  case round =>
    obtain ⟨i, m, hi, rfl, hwr⟩ := hrel
    have hbel : Below w.heap.size w wr := by rw [hwr]; exact below_drewN (Below.refl _ _) m
    have Hwr := Lib.hid hwr
    clear hwr
    by_cases hlt : (i : Int) < n
    · obtain ⟨ba, oa, rfl, hba, hca⟩ := Ha.out.2 (by omega)
      obtain ⟨bb, ob, rfl, hbb, hcb⟩ := Hb.out.2 (by omega)
      have h1 := (hbel.cell (p := ⟨ba, oa + i, none⟩) hba).trans (hca i (by omega))
      have h2 := (hbel.cell (p := ⟨bb, ob + i, none⟩) hbb).trans (hcb i (by omega))
      clear hca hcb hbel
      generalize nth xs i = c at h1 h2
      go_wp2_with fail
      go_quiet (fail)
      go_wp2_with fail
      go_roundw
      case rel => exact ⟨i + 1, _, by omega, by go_num, by rw [Hwr.out, World.drewN_drewN]⟩
      case measure => simp [intOf]; omega
    · go_wp2_with fail
      go_ret
      exact ⟨rfl, m, Hwr.out⟩
theorem laws_vInts (a b : Option Addr) (n ca cb : Nat) (xs : List Int) (w : World) (hn : n ≤ 4294967296) (ha : Ints w a n xs) (hb : Ints w b n xs) :
    Calls Try.prog 20 #[.slice a n ca, .slice b n cb] w fun e w' => e = .returned (.bool true) ∧ Below w.heap.size w w' :=
  (laws_vInts_q a b n ca cb xs w hn ha hb).mono fun _ _ ⟨he, m, hm⟩ => ⟨he, by rw [hm]; exact below_drewN (Below.refl _ _) m⟩
theorem laws_rBig (a : Option Addr) (n cap : Nat) (w : World) :
    Calls Try.prog 43 #[.slice a n cap] w fun e w' => e = .returned (.bool (decide ((n : Int) > 65536))) ∧ w = w' := by
  by_cases h : (n : Int) > 65536
  all_goals
    go_enter Try.func43, Try.ntmps43
    go_wp2_with fail
    go_ret
    exact ⟨by simp [h], rfl⟩
set_option maxHeartbeats 400000 in
/-- Two slices that read alike are found equal. -/
theorem laws_rInts_q (a b : Option Addr) (n ca cb : Nat) (xs : List Int) (w : World) (hn : n ≤ 4294967296) (ha : Ints w a n xs) (hb : Ints w b n xs) :
    Calls Try.prog 54 #[.slice a n ca, .slice b n cb] w fun e w' => e = .returned (.bool true) ∧ ∃ m, w' = w.drewN m := by
  have Ha := Lib.hid ha
  have Hb := Lib.hid hb
  clear ha hb
  go_enter Try.func54, Try.ntmps54
  go_wp2_with fail
  go_loopw [5] (fun v5 wr => ∃ i m : Nat, i ≤ n ∧ v5 = .int .i64 i ∧ wr = w.drewN m) (fun v5 _ => n - (intOf v5).toNat)
  case atStart => exact ⟨0, 0, Nat.zero_le _, rfl, rfl⟩
  case round =>
    obtain ⟨i, m, hi, rfl, hwr⟩ := hrel
    have hbel : Below w.heap.size w wr := by rw [hwr]; exact below_drewN (Below.refl _ _) m
    have Hwr := Lib.hid hwr
    clear hwr
    by_cases hlt : (i : Int) < n
    · obtain ⟨ba, oa, rfl, hba, hca⟩ := Ha.out.2 (by omega)
      obtain ⟨bb, ob, rfl, hbb, hcb⟩ := Hb.out.2 (by omega)
      have h1 := (hbel.cell (p := ⟨ba, oa + i, none⟩) hba).trans (hca i (by omega))
      have h2 := (hbel.cell (p := ⟨bb, ob + i, none⟩) hbb).trans (hcb i (by omega))
      clear hca hcb hbel
      generalize nth xs i = c at h1 h2
      go_wp2_with fail
      go_quiet (fail)
      go_wp2_with fail
      go_roundw
      case rel => exact ⟨i + 1, _, by omega, by go_num, by rw [Hwr.out, World.drewN_drewN]⟩
      case measure => simp [intOf]; omega
    · go_wp2_with fail
      go_ret
      exact ⟨rfl, m, Hwr.out⟩
theorem laws_rInts (a b : Option Addr) (n ca cb : Nat) (xs : List Int) (w : World) (hn : n ≤ 4294967296) (ha : Ints w a n xs) (hb : Ints w b n xs) :
    Calls Try.prog 54 #[.slice a n ca, .slice b n cb] w fun e w' => e = .returned (.bool true) ∧ Below w.heap.size w w' :=
  (laws_rInts_q a b n ca cb xs w hn ha hb).mono fun _ _ ⟨he, m, hm⟩ => ⟨he, by rw [hm]; exact below_drewN (Below.refl _ _) m⟩
set_option maxHeartbeats 400000 in
/-- Two slices of pairs that read alike are found equal. -/
theorem laws_rFracs_q (a b : Option Addr) (n ca cb : Nat) (xs : List (Int × Int)) (w : World) (hn : n ≤ 4294967296) (ha : Fr.Ints w a n xs) (hb : Fr.Ints w b n xs) :
    Calls Try.prog 57 #[.slice a n ca, .slice b n cb] w fun e w' => e = .returned (.bool true) ∧ ∃ m, w' = w.drewN m := by
  have Ha := Lib.hid ha
  have Hb := Lib.hid hb
  clear ha hb
  go_enter Try.func57, Try.ntmps57
  go_wp2_with fail
  go_loopw [5] (fun v5 wr => ∃ i m : Nat, i ≤ n ∧ v5 = .int .i64 i ∧ wr = w.drewN m) (fun v5 _ => n - (intOf v5).toNat)
  case atStart => exact ⟨0, 0, Nat.zero_le _, rfl, rfl⟩
  case round =>
    obtain ⟨i, m, hi, rfl, hwr⟩ := hrel
    have hbel : Below w.heap.size w wr := by rw [hwr]; exact below_drewN (Below.refl _ _) m
    have Hwr := Lib.hid hwr
    clear hwr
    by_cases hlt : (i : Int) < n
    · obtain ⟨ba, oa, rfl, hba, hca⟩ := Ha.out.2 (by omega)
      obtain ⟨bb, ob, rfl, hbb, hcb⟩ := Hb.out.2 (by omega)
      have h1 := (hbel.cell (p := ⟨ba, oa + i * 2, none⟩) hba).trans (hca i (by omega)).1
      have h2 := (hbel.cell (p := ⟨ba, oa + i * 2 + 1, none⟩) hba).trans (hca i (by omega)).2
      have h3 := (hbel.cell (p := ⟨bb, ob + i * 2, none⟩) hbb).trans (hcb i (by omega)).1
      have h4 := (hbel.cell (p := ⟨bb, ob + i * 2 + 1, none⟩) hbb).trans (hcb i (by omega)).2
      clear hca hcb hbel
      generalize Fr.at1 xs i = c at h1 h3
      generalize Fr.at2 xs i = d at h2 h4
      have hqA : ∀ W, (Op.equalIn 10000 48 (.agg #[.int .i64 c, .int .i64 d]) (.agg #[.int .i64 c, .int .i64 d])).run Try.prog W = .ok true W := fun W => by rw [eqA2]; simp
      go_wp2_with fail
      go_quiet (fail)
      go_wp2_with fail
      go_roundw
      case rel => exact ⟨i + 1, _, by omega, by go_num, by rw [Hwr.out, World.drewN_drewN]⟩
      case measure => simp [intOf]; omega
    · go_wp2_with fail
      go_ret
      exact ⟨rfl, m, Hwr.out⟩
theorem laws_rFracs (a b : Option Addr) (n ca cb : Nat) (xs : List (Int × Int)) (w : World) (hn : n ≤ 4294967296) (ha : Fr.Ints w a n xs) (hb : Fr.Ints w b n xs) :
    Calls Try.prog 57 #[.slice a n ca, .slice b n cb] w fun e w' => e = .returned (.bool true) ∧ Below w.heap.size w w' :=
  (laws_rFracs_q a b n ca cb xs w hn ha hb).mono fun _ _ ⟨he, m, hm⟩ => ⟨he, by rw [hm]; exact below_drewN (Below.refl _ _) m⟩
set_option maxHeartbeats 400000 in
/-- Two slices of pairs that read alike are found equal. -/
theorem laws_vPairs_q (a b : Option Addr) (n ca cb : Nat) (xs : List (Int × Int)) (w : World) (hn : n ≤ 4294967296) (ha : Fr.Ints w a n xs) (hb : Fr.Ints w b n xs) :
    Calls Try.prog 27 #[.slice a n ca, .slice b n cb] w fun e w' => e = .returned (.bool true) ∧ ∃ m, w' = w.drewN m := by
  have Ha := Lib.hid ha
  have Hb := Lib.hid hb
  clear ha hb
  go_enter Try.func27, Try.ntmps27
  go_wp2_with fail
  go_loopw [5] (fun v5 wr => ∃ i m : Nat, i ≤ n ∧ v5 = .int .i64 i ∧ wr = w.drewN m) (fun v5 _ => n - (intOf v5).toNat)
  case atStart => exact ⟨0, 0, Nat.zero_le _, rfl, rfl⟩
  case round =>
    obtain ⟨i, m, hi, rfl, hwr⟩ := hrel
    have hbel : Below w.heap.size w wr := by rw [hwr]; exact below_drewN (Below.refl _ _) m
    have Hwr := Lib.hid hwr
    clear hwr
    by_cases hlt : (i : Int) < n
    · obtain ⟨ba, oa, rfl, hba, hca⟩ := Ha.out.2 (by omega)
      obtain ⟨bb, ob, rfl, hbb, hcb⟩ := Hb.out.2 (by omega)
      have h1 := (hbel.cell (p := ⟨ba, oa + i * 2, none⟩) hba).trans (hca i (by omega)).1
      have h2 := (hbel.cell (p := ⟨ba, oa + i * 2 + 1, none⟩) hba).trans (hca i (by omega)).2
      have h3 := (hbel.cell (p := ⟨bb, ob + i * 2, none⟩) hbb).trans (hcb i (by omega)).1
      have h4 := (hbel.cell (p := ⟨bb, ob + i * 2 + 1, none⟩) hbb).trans (hcb i (by omega)).2
      clear hca hcb hbel
      generalize Fr.at1 xs i = c at h1 h3
      generalize Fr.at2 xs i = d at h2 h4
      have hqA : ∀ W, (Op.equalIn 10000 48 (.agg #[.int .i64 c, .int .i64 d]) (.agg #[.int .i64 c, .int .i64 d])).run Try.prog W = .ok true W := fun W => by rw [eqA2]; simp
      go_wp2_with fail
      go_quiet (fail)
      go_wp2_with fail
      go_roundw
      case rel => exact ⟨i + 1, _, by omega, by go_num, by rw [Hwr.out, World.drewN_drewN]⟩
      case measure => simp [intOf]; omega
    · go_wp2_with fail
      go_ret
      exact ⟨rfl, m, Hwr.out⟩
theorem laws_vPairs (a b : Option Addr) (n ca cb : Nat) (xs : List (Int × Int)) (w : World) (hn : n ≤ 4294967296) (ha : Fr.Ints w a n xs) (hb : Fr.Ints w b n xs) :
    Calls Try.prog 27 #[.slice a n ca, .slice b n cb] w fun e w' => e = .returned (.bool true) ∧ Below w.heap.size w w' :=
  (laws_vPairs_q a b n ca cb xs w hn ha hb).mono fun _ _ ⟨he, m, hm⟩ => ⟨he, by rw [hm]; exact below_drewN (Below.refl _ _) m⟩
set_option maxHeartbeats 400000 in
theorem laws_rLess (a b c d : Int) (w : World) (h1 : -4611686018427387904 ≤ a * d ∧ a * d ≤ 4611686018427387904) (h2 : -4611686018427387904 ≤ c * b ∧ c * b ≤ 4611686018427387904) :
    Calls Try.prog 58 #[.agg #[.int .i64 a, .int .i64 b], .agg #[.int .i64 c, .int .i64 d]] w fun e w' => e = .returned (.bool (decide (a * d < c * b))) ∧ Below w.heap.size w w' := by
  have hbb : Below w.heap.size w ((w.alloc (.cells #[.int .i64 a, .int .i64 b] 48)).alloc (.cells #[.int .i64 c, .int .i64 d] 48)) := (below_new w _).alloc (by simp) _
  have hp := (Pair.new w (.int .i64 a) (.int .i64 b) 48).alloc (.cells #[.int .i64 c, .int .i64 d] 48)
  have hq := Pair.new (w.alloc (.cells #[.int .i64 a, .int .i64 b] 48)) (.int .i64 c) (.int .i64 d) 48
  rw [show (w.alloc (.cells #[.int .i64 a, .int .i64 b] 48)).heap.size = w.heap.size + 1 by simp] at hq
  have c0 := hp.c0
  have c1 := hp.c1
  have d0 := hq.c0
  have d1 := hq.c1
  have k1 : IntKind.i64.wrap (a * d) = a * d := IntWalk.i64_in _ (by omega)
  have k2 : IntKind.i64.wrap (c * b) = c * b := IntWalk.i64_in _ (by omega)
  clear hp hq h1 h2
  have HB := Lib.hid hbb
  clear hbb
  go_enter Try.func58, Try.ntmps58
  go_wp2_with fail
  go_ret
  exact ⟨rfl, HB.out⟩
end Go.Proofs.Ytnbomleieianoaa
