/- Contracts and plain laws for the statement FnStoppedMeans, part 14. No conditions but those stated in each. -/
import Derived.Test.YtnbomleieianoaaGreatBnFnStoppedMeans9
import Derived.Test.YtnbomleieianoaaGreatBnFnStoppedMeans13
import Derived.Test.YtnbomleieianoaaGreatBnFnStoppedMeans12
import Derived.ChangeKeysEq
import Derived.Test.YtnbomleieianoaaGreatBnFnStoppedMeans1
import Derived.Test.YtnbomleieianoaaGreatBnFnStoppedMeans11
import Derived.Test.YtnbomleieianoaaGreatBnFnStoppedMeans15
import Derived.Test.YtnbomleieianoaaGreatBnFnStoppedMeans5
import Derived.Test.YtnbomleieianoaaGreatBnFnStoppedMeans4
/- Plain laws and contracts: the level with the greatest mean, by the program and by the reference. No conditions but those stated. -/
namespace Go.Proofs.YtnbomleieianoaaGreat
open Go.RowKit

theorem stop_fir {ps : List Int} (hp : Pa ps) (S : Int → Bool) : ∀ x, x < ps.length → stop ps (fun y => firB ps S y.toNat) x = stop ps S x := by
  refine hp.above ?_ ?_
  · rw [stop_zero, stop_zero]
    have := (beh_zero ps S).2
    simp only [Int.toNat_zero, this]
  · intro x h1 h2 ih
    rw [stop_up hp _ h1 h2, stop_up hp S h1 h2, ih]
    by_cases hb : 0 ≤ stop ps S (par ps x)
    · rw [if_pos hb, if_pos hb]
    · rw [if_neg hb, if_neg hb, Int.toNat_natCast, ((beh_up hp S h1 h2).2 (decide_eq_false hb)).2]
theorem asc_ris {l : List Int} (h : l.Pairwise (· < ·)) : risB l = true := ris_t fun i h1 hi => by
  rw [List.pairwise_iff_getElem] at h
  rw [nth_lt hi, nth_lt (by omega)]
  exact h (i - 1) i (by omega) hi (by omega)
theorem firsts_stop {ps : List Int} (hp : Pa ps) {S : Int → Bool} (hS : ∀ x : Nat, x < ps.length → endB ps x = true → S (x : Int) = true) : stopB ps (firsts ps S) = true := by
  have hh : ∀ x, x < ps.length → stop ps (hasB (firsts ps S)) x = stop ps S x := fun x hx => by
    rw [← stop_fir hp S x hx]
    refine stop_congr hp (fun y hy => ?_) hx
    rw [Int.toNat_natCast, Bool.eq_iff_iff, has_mem, firsts, mem_filt]
    constructor
    · rintro ⟨i, _, h2, h3⟩
      obtain rfl : i = y := by omega
      exact h2
    · intro h
      exact ⟨y, hy, h, rfl⟩
  have h1 : risB (firsts ps S) = true := asc_ris (filt_asc _ _)
  rw [← rule_stop hp, ruleB, h1]
  have h2 : allIn (firsts ps S) 0 ((ps.length : Int) - 1) = true := all_t fun i hi => by
    obtain ⟨j, h1, _, h3⟩ := nth_filt hi
    rw [firsts] at *
    rw [h3]
    exact inB_mk (by omega) (by omega)
  have h3 : ((List.range (ends ps).length).all fun i => decide (0 ≤ stop ps (hasB (firsts ps S)) (nth (ends ps) i).toNat)) = true := all_t fun i hi => by
    obtain ⟨e, h1, h2, h3⟩ := end_nth hi
    rw [h3, Int.toNat_natCast, hh e h1]
    exact decide_eq_true (stop_end hp S h1 (hS e h1 h2))
  have h4 : ((List.range (firsts ps S).length).all fun i => stop ps (hasB (firsts ps S)) (nth (firsts ps S) i).toNat == nth (firsts ps S) i) = true := all_t fun i hi => by
    obtain ⟨j, h1, h2, h3⟩ := nth_filt hi
    have h3' : nth (firsts ps S) i = (j : Int) := h3
    rw [h3', Int.toNat_natCast, hh j h1]
    exact h2
  rw [h2, h3, h4]; rfl
/-- Fractions in lowest terms of one denominator. -/
theorem cut_parts (a : Int) {s : Int} (hs : 0 < s) : ∃ g : Int, 0 < g ∧ a = g * nm a s ∧ s = g * dn a s := by
  have hg := gcdI_pos (a := a) (b := s) (by omega)
  refine ⟨gcdI a s, hg, ?_, ?_⟩
  · rw [nm, if_neg (by omega)]; exact (Int.mul_ediv_cancel' (gcdI_dvd_l a s)).symm
  · rw [dn, if_neg (by omega)]; exact (Int.mul_ediv_cancel' (gcdI_dvd_r a s)).symm
theorem cut_lt (a b : Int) {s : Int} (hs : 0 < s) : (nm a s * dn b s < nm b s * dn a s) ↔ a < b := by
  obtain ⟨g, hg, ha, hs1⟩ := cut_parts a hs
  obtain ⟨h, hh, hb, hs2⟩ := cut_parts b hs
  generalize nm a s = A at *
  generalize dn a s = D at *
  generalize nm b s = B at *
  generalize dn b s = E at *
  have hgh : 0 < g * h := Int.mul_pos hg hh
  have e1 : A * E * (g * h) = a * s := by rw [show A * E * (g * h) = (g * A) * (h * E) by grind, ← ha, ← hs2]
  have e2 : B * D * (g * h) = b * s := by rw [show B * D * (g * h) = (h * B) * (g * D) by grind, ← hb, ← hs1]
  constructor
  · intro hl
    have := Int.mul_lt_mul_of_pos_right hl hgh
    rw [e1, e2] at this
    exact Int.lt_of_mul_lt_mul_right this (by omega)
  · intro hl
    have := Int.mul_lt_mul_of_pos_right hl hs
    rw [← e1, ← e2] at this
    exact Int.lt_of_mul_lt_mul_right this (by omega)
theorem cut_eq {a b s : Int} (hs : 0 < s) (h1 : nm a s = nm b s) (h2 : dn a s = dn b s) : a = b := by
  have hab := cut_lt a b hs
  have hba := cut_lt b a hs
  rw [h1, h2] at hab
  rw [h1, h2] at hba
  omega
/-- The best one of the levels that the program looks at, before the j-th. -/
def blL (T : Int → Int) (l : List Int) : Nat → Int
  | 0 => -999
  | j + 1 => if hasB l ((j : Int) - 1000) && decide (T (blL T l j) < T ((j : Int) - 999)) then (j : Int) - 999 else blL T l j
/-- The best one of the levels of the first payments. -/
def slL (T : Int → Int) (l : List Int) : Nat → Int
  | 0 => -999
  | x + 1 => if decide (nth l x + 1 ≤ 999) && (decide (T (slL T l x) < T (nth l x + 1)) || (decide (T (nth l x + 1) = T (slL T l x)) && decide (nth l x + 1 < slL T l x))) then nth l x + 1 else slL T l x
def BestOf (T : Int → Int) (C : Int → Prop) (b : Int) : Prop := C b ∧ ∀ c, C c → T c < T b ∨ (T c = T b ∧ b ≤ c)
theorem best_one {T : Int → Int} {C : Int → Prop} {a b : Int} (ha : BestOf T C a) (hb : BestOf T C b) : a = b := by
  have h1 := ha.2 b hb.1
  have h2 := hb.2 a ha.1
  omega
theorem best_iff {T : Int → Int} {C D : Int → Prop} {a : Int} (h : BestOf T C a) (hc : ∀ x, C x ↔ D x) : BestOf T D a := ⟨(hc a).1 h.1, fun c hd => h.2 c ((hc c).2 hd)⟩
theorem slL_best (T : Int → Int) (l : List Int) : ∀ k : Nat, BestOf T (fun c => c = -999 ∨ (∃ x : Nat, x < k ∧ c = nth l x + 1 ∧ c ≤ 999)) (slL T l k)
  | 0 => ⟨.inl rfl, fun c hc => by
    rcases hc with rfl | ⟨x, h, _⟩
    · exact .inr ⟨rfl, by rw [slL]; omega⟩
    · omega⟩
  | k + 1 => by
    have ih := slL_best T l k
    rw [slL]
    by_cases h9 : nth l k + 1 ≤ 999
    · by_cases hw : T (slL T l k) < T (nth l k + 1) ∨ (T (nth l k + 1) = T (slL T l k) ∧ nth l k + 1 < slL T l k)
      · rw [if_pos (by rw [decide_eq_true h9]; simpa using hw)]
        refine ⟨.inr ⟨k, by omega, rfl, h9⟩, fun c hc => ?_⟩
        rcases hc with rfl | ⟨x, h1, h2, h3⟩
        · have := ih.2 (-999) (.inl rfl); omega
        · by_cases e : x = k
          · subst e; subst h2; exact .inr ⟨rfl, Int.le_refl _⟩
          · have := ih.2 c (.inr ⟨x, by omega, h2, h3⟩); omega
      · rw [if_neg (by rw [decide_eq_true h9]; simpa using hw)]
        refine ⟨?_, fun c hc => ?_⟩
        · rcases ih.1 with h | ⟨x, h1, h2⟩
          · exact .inl h
          · exact .inr ⟨x, by omega, h2⟩
        · rcases hc with rfl | ⟨x, h1, h2, h3⟩
          · exact ih.2 (-999) (.inl rfl)
          · by_cases e : x = k
            · subst e; subst h2; omega
            · exact ih.2 c (.inr ⟨x, by omega, h2, h3⟩)
    · rw [if_neg (by rw [decide_eq_false h9]; simp)]
      refine best_iff ih fun c => ?_
      constructor
      · rintro (h | ⟨x, h1, h2⟩)
        · exact .inl h
        · exact .inr ⟨x, by omega, h2⟩
      · rintro (h | ⟨x, h1, h2, h3⟩)
        · exact .inl h
        · by_cases e : x = k
          · subst e; omega
          · exact .inr ⟨x, by omega, h2, h3⟩
/-- The sum behind the mean of the rule of a level. -/
def lvT (ps ws l : List Int) (lev : Int) : Int := rmS ps ws l (firsts ps (fS (levB ps l lev)))
theorem lev_stop {ps l : List Int} (hp : Pa ps) (lev : Int) : stopB ps (firsts ps (fS (levB ps l lev))) = true := firsts_stop hp fun x _ he => by
  rw [fS, Int.toNat_natCast, levB, he]; rfl
def lvV (ps ws l : List Int) : Int := if paysB ps ws l then slL (lvT ps ws l) l l.length else 0
def lvN (ps ws l : List Int) : Int := if paysB ps ws l then nm (lvT ps ws l (lvV ps ws l)) (nth (sums ps ws) 0) else 0
def lvD (ps ws l : List Int) : Int := if paysB ps ws l then dn (lvT ps ws l (lvV ps ws l)) (nth (sums ps ws) 0) else 0
theorem lv_no {ps ws l : List Int} (h : paysB ps ws l = false) : lvV ps ws l = 0 ∧ lvN ps ws l = 0 ∧ lvD ps ws l = 0 := by
  unfold lvN lvD; rw [lvV, h]; exact ⟨rfl, rfl, rfl⟩
theorem lv_yes {ps ws l : List Int} (h : paysB ps ws l = true) : lvV ps ws l = slL (lvT ps ws l) l l.length ∧ lvN ps ws l = nm (lvT ps ws l (lvV ps ws l)) (nth (sums ps ws) 0) ∧ lvD ps ws l = dn (lvT ps ws l (lvV ps ws l)) (nth (sums ps ws) 0) := by
  unfold lvN lvD; rw [lvV, h]; exact ⟨rfl, rfl, rfl⟩
theorem lvT_bd {ps ws l : List Int} (h : paysB ps ws l = true) (lev : Int) : -11508480 ≤ lvT ps ws l lev ∧ lvT ps ws l lev ≤ 11508480 := by
  obtain ⟨hT, _, _, _, hl⟩ := paysB_t h
  have h1 := mS_bd (rule := firsts ps (fS (levB ps l lev))) hT hl (firsts ps (fS (levB ps l lev))).length
  have h2 := firsts_length ps (fS (levB ps l lev))
  have h3 := hT.toPa.n24
  rw [lvT, rmS]
  omega
theorem eqA2 (a b c d : Int) (w : World) : (Op.equalIn 10000 29 (.agg #[.int .i64 a, .int .i64 b]) (.agg #[.int .i64 c, .int .i64 d])).run Tryz.prog w = .ok (a == c && b == d) w := by
  have hu : Tryz.prog.underlying 29 = some (.array 2 3) := by kernel_rfl
  have hi : Tryz.prog.underlying 3 = some (.int .i64) := by kernel_rfl
  have hc : Tryz.prog.cellsOf 3 = 1 := by kernel_rfl
  have hp : Tryz.prog.plainKey 3 = true := by kernel_rfl
  obtain ⟨i, hinfo⟩ : ∃ i, Tryz.prog.info? 3 = some i := by
    have h := info_int
    cases h2 : Tryz.prog.info? 3 with
    | none => rw [h2] at h; cases h
    | some i => exact ⟨i, rfl⟩
  rw [show (10000 : Nat) = 9999 + 1 from rfl, run_equalIn_array w 9999 _ _ hu hinfo, hc, show List.range 2 = [0, 1] from rfl]
  have e1 : ∀ W, (Op.equalIn 9999 3 (.int .i64 a) (.int .i64 c)).run Tryz.prog W = .ok (a == c) W := fun W => run_equalIn_int W 9998 _ _ _ _ _ hi
  have e2 : ∀ W, (Op.equalIn 9999 3 (.int .i64 b) (.int .i64 d)).run Tryz.prog W = .ok (b == d) W := fun W => run_equalIn_int W 9998 _ _ _ _ _ hi
  have p1 : ∀ (x y : Int) W, (part 3 #[.int .i64 x, .int .i64 y] (0 * 1)).run Tryz.prog W = .ok (.int .i64 x) W := fun x y W => run_part_plain W hp rfl
  have p2 : ∀ (x y : Int) W, (part 3 #[.int .i64 x, .int .i64 y] (1 * 1)).run Tryz.prog W = .ok (.int .i64 y) W := fun x y W => run_part_plain W hp rfl
  generalize (a == c) = r1 at *
  generalize (b == d) = r2 at *
  cases r1
  · simp only [Op.eqItems, Sem.run_bind, p1, e1, Result.andThen_ok, Sem.run_ite, Bool.not_false, if_true, Sem.run_pure, Bool.false_and]
  · cases r2
    · simp only [Op.eqItems, Sem.run_bind, p1, p2, e1, e2, Result.andThen_ok, Sem.run_ite, Bool.not_true, Bool.not_false, Bool.false_eq_true, if_true, if_false, Sem.run_pure, Bool.true_and]
    · simp only [Op.eqItems, Sem.run_bind, p1, p2, e1, e2, Result.andThen_ok, Sem.run_ite, Bool.not_true, Bool.false_eq_true, if_false, Sem.run_pure, Bool.true_and]
theorem Pair.st2 {w : World} {g : Nat} {x y : Value} (h : Pair w g x y) (x' y' : Value) : Pair ((w.setCell ⟨g, 0, none⟩ x').setCell ⟨g, 1, none⟩ y') g x' y' :=
  ⟨(h.set x' y').1, (h.set x' y').2, by simpa using h.f0, by simpa using h.f1⟩
theorem Pair.fr2 {w : World} {g b : Nat} {x y : Value} (h : Pair w g x y) (hne : b ≠ g) (x' y' : Value) : Pair ((w.setCell ⟨b, 0, none⟩ x').setCell ⟨b, 1, none⟩ y') g x y := (h.far hne x').far hne y'
theorem cut_bd (a : Int) {s : Int} (hs : 0 < s) : (nm a s).natAbs ≤ a.natAbs ∧ 1 ≤ dn a s ∧ dn a s ≤ s := by
  obtain ⟨g, hg, h1, h2⟩ := cut_parts a hs
  have h3 := dn_pos a s (by omega)
  refine ⟨?_, h3, ?_⟩
  · have : a.natAbs = g.natAbs * (nm a s).natAbs := by rw [← Int.natAbs_mul, ← h1]
    rw [this]
    exact Nat.le_mul_of_pos_left _ (by omega)
  · have : 1 * dn a s ≤ g * dn a s := Int.mul_le_mul_of_nonneg_right (by omega) (by omega)
    omega
theorem cut_prod {a b s : Int} (hs : 0 < s) (hs2 : s ≤ 480) (ha : -11508480 ≤ a ∧ a ≤ 11508480) : -1000000000000 ≤ nm a s * dn b s ∧ nm a s * dn b s ≤ 1000000000000 := by
  obtain ⟨h1, _, _⟩ := cut_bd a hs
  obtain ⟨_, h2, h3⟩ := cut_bd b hs
  have := mul_abs (B := 11508480) (U := 480) (x := nm a s) (u := dn b s) (by omega) (by omega) (by omega)
  omega
def cmpI (x y : Int) : Int := if x < y then -1 else if x > y then 1 else 0
theorem cmp_gt {x y : Int} : (cmpI x y > 0) ↔ y < x := by
  unfold cmpI
  split
  · omega
  · split <;> omega
set_option maxRecDepth 100000 in
theorem spec_l2Less (a b c d : Int) (w : World) (h1 : -1000000000000 ≤ a * d ∧ a * d ≤ 1000000000000) (h2 : -1000000000000 ≤ c * b ∧ c * b ≤ 1000000000000) :
    Calls Tryz.prog 125 #[.agg #[.int .i64 a, .int .i64 b], .agg #[.int .i64 c, .int .i64 d]] w fun e w' => e = .returned (.bool (decide (a * d < c * b))) ∧ Below w.heap.size w w' := by
  go_enter Tryz.func125, Tryz.ntmps125
  go_wp2_with fail
  go_ret
  exact ⟨rfl, (below_new w _).alloc (by simp) _⟩
theorem KeepR.set2 {u w : World} {g : Nat} {x y : Value} (h : KeepR u w) (hg : u.heap.size ≤ g) : KeepR u ((w.setCell ⟨g, 0, none⟩ x).setCell ⟨g, 1, none⟩ y) := (Below.setCell h hg x).setCell hg y
end Go.Proofs.YtnbomleieianoaaGreat

/- Plain law: what a number on the nodes of a tree is together at the nodes of a stopping, against what it is at the root. Nothing of the program. -/
namespace Go.Proofs.YtnbomleieianoaaGreat

/-- f where S is so for the first time, 0 elsewhere. -/
def atF (ps : List Int) (S : Int → Bool) (f : Nat → Int) (x : Nat) : Int := if firB ps S x then f x else 0
def atL (ps : List Int) (S : Int → Bool) (f : Nat → Int) : List Int := (List.range ps.length).map (atF ps S f)
/-- The sum of f over the nodes at which S is so for the first time. -/
def stS (ps : List Int) (S : Int → Bool) (f : Nat → Int) : Int := sumR (atF ps S f) ps.length
theorem atL_length (ps : List Int) (S : Int → Bool) (f : Nat → Int) : (atL ps S f).length = ps.length := by simp [atL]
theorem nth_atL {ps : List Int} {S : Int → Bool} {f : Nat → Int} {x : Nat} (h : x < ps.length) : nth (atL ps S f) x = atF ps S f x := by rw [atL, nth_map_range h]
theorem atG_beh {ps : List Int} {S : Int → Bool} {f : Nat → Int} (h : Pa ps) : ∀ x, x < ps.length → 1 ≤ x → behB ps S (par ps x) = true → nth (gathA ps (atL ps S f)) x = 0 := by
  refine h.below ?_
  intro x hx ih h1 hb
  have hu := (beh_up h S h1 hx).1 hb
  rw [gathA_kids h (atL_length ps S f), nth_atL hx, atF, hu.2, kidSum_zero]
  · rfl
  · intro y hy e
    have hk := kid_par h hy e
    exact ih y hy e hk.1 (by rw [hk.2]; exact hu.1)
theorem beh_fir {ps : List Int} (h : Pa ps) (S : Int → Bool) {x : Nat} (hx : x < ps.length) (hc : x = 0 ∨ behB ps S (par ps x) = false) : behB ps S x = S x ∧ firB ps S x = S x := by
  by_cases h0 : x = 0
  · subst h0; exact beh_zero ps S
  · rcases hc with hc | hc
    · omega
    · exact (beh_up h S (by omega) hx).2 hc
theorem beh_S {ps : List Int} (h : Pa ps) {S : Int → Bool} {x : Nat} (hx : x < ps.length) (hb : behB ps S x = false) : S x = false := by
  by_cases h0 : x = 0
  · subst h0; rw [← hb]; exact (beh_zero ps S).1.symm
  · cases hp : behB ps S (par ps x)
    · rw [← hb]; exact ((beh_up h S (by omega) hx).2 hp).1.symm
    · have := ((beh_up h S (by omega) hx).1 hp).1
      rw [hb] at this; cases this
theorem fir_S {ps : List Int} (h : Pa ps) {S : Int → Bool} {x : Nat} (hx : x < ps.length) (hb : firB ps S x = true) : S x = true := by
  by_cases h0 : x = 0
  · subst h0; rw [← hb]; exact (beh_zero ps S).2.symm
  · cases hp : behB ps S (par ps x)
    · rw [← hb]; exact ((beh_up h S (by omega) hx).2 hp).2.symm
    · have := ((beh_up h S (by omega) hx).1 hp).2
      rw [hb] at this; cases this
theorem stS_root {ps : List Int} (h : Pa ps) (S : Int → Bool) (f : Nat → Int) : stS ps S f = nth (gathA ps (atL ps S f)) 0 := by
  rw [gathA_root h (atL_length _ _ _)]; rfl
/-- Where f is no less than what its children have together, it is no less at the root than at a stopping. -/
theorem stS_le {ps : List Int} (h : Pa ps) {S : Int → Bool} {f : Nat → Int} (hf : ∀ x, x < ps.length → behB ps S x = false → kidSum ps f x ps.length ≤ f x) : stS ps S f ≤ f 0 := by
  rw [stS_root h]
  refine h.below (P := fun x => (x = 0 ∨ behB ps S (par ps x) = false) → nth (gathA ps (atL ps S f)) x ≤ f x) ?_ 0 (by have := h.n1; omega) (.inl rfl)
  intro x hx ih hc
  have hbf := beh_fir h S hx hc
  rw [gathA_kids h (atL_length _ _ _), nth_atL hx, atF, hbf.2]
  cases hS : S x
  · have h1 := hf x hx (hbf.1.trans hS)
    have h2 := kidSum_le (ps := ps) (f := fun y => nth (gathA ps (atL ps S f)) y) (g := f) (x := x) (k := ps.length) fun y hy e => ih y hy e (.inr (by rw [(kid_par h hy e).2, hbf.1, hS]))
    simp only [Bool.false_eq_true, if_false]; omega
  · rw [kidSum_zero fun y hy e => atG_beh h y hy (kid_par h hy e).1 (by rw [(kid_par h hy e).2, hbf.1, hS])]
    simp
theorem stS_ge {ps : List Int} (h : Pa ps) {S : Int → Bool} {f : Nat → Int} (hf : ∀ x, x < ps.length → behB ps S x = false → f x ≤ kidSum ps f x ps.length) : f 0 ≤ stS ps S f := by
  rw [stS_root h]
  refine h.below (P := fun x => (x = 0 ∨ behB ps S (par ps x) = false) → f x ≤ nth (gathA ps (atL ps S f)) x) ?_ 0 (by have := h.n1; omega) (.inl rfl)
  intro x hx ih hc
  have hbf := beh_fir h S hx hc
  rw [gathA_kids h (atL_length _ _ _), nth_atL hx, atF, hbf.2]
  cases hS : S x
  · have h1 := hf x hx (hbf.1.trans hS)
    have h2 := kidSum_le (ps := ps) (f := f) (g := fun y => nth (gathA ps (atL ps S f)) y) (x := x) (k := ps.length) fun y hy e => ih y hy e (.inr (by rw [(kid_par h hy e).2, hbf.1, hS]))
    simp only [Bool.false_eq_true, if_false]; omega
  · rw [kidSum_zero fun y hy e => atG_beh h y hy (kid_par h hy e).1 (by rw [(kid_par h hy e).2, hbf.1, hS])]
    simp
theorem stS_eq {ps : List Int} (h : Pa ps) {S : Int → Bool} {f : Nat → Int} (hf : ∀ x, x < ps.length → behB ps S x = false → kidSum ps f x ps.length = f x) : stS ps S f = f 0 :=
  Int.le_antisymm (stS_le h fun x hx hb => Int.le_of_eq (hf x hx hb)) (stS_ge h fun x hx hb => Int.le_of_eq (hf x hx hb).symm)
theorem stS_mono {ps : List Int} {S : Int → Bool} {f g : Nat → Int} (hf : ∀ x, x < ps.length → firB ps S x = true → f x ≤ g x) : stS ps S f ≤ stS ps S g := sumR_le fun x hx => by
  unfold atF
  cases hb : firB ps S x
  · simp
  · simpa using hf x hx hb
theorem stS_congr {ps : List Int} {S : Int → Bool} {f g : Nat → Int} (hf : ∀ x, x < ps.length → firB ps S x = true → f x = g x) : stS ps S f = stS ps S g := sumR_congr fun x hx => by
  unfold atF
  cases hb : firB ps S x
  · simp
  · simpa using hf x hx hb
theorem stS_same {ps : List Int} {S : Int → Bool} {f g : Nat → Int} (hf : ∀ x, x < ps.length → firB ps S x = true → f x ≤ g x) (he : stS ps S f = stS ps S g) {x : Nat} (hx : x < ps.length) (hb : firB ps S x = true) : f x = g x := by
  have := sumR_eq (F := atF ps S f) (G := atF ps S g) (n := ps.length) (fun x hx => by
    unfold atF
    cases hb : firB ps S x
    · simp
    · simpa using hf x hx hb) he x hx
  unfold atF at this
  rw [hb] at this
  simpa using this
/-- The stops of a rule that is gathered from S are those of S. -/
theorem stop_firsts {ps : List Int} (hp : Pa ps) (S : Int → Bool) {x : Nat} (hx : x < ps.length) : stop ps (hasB (firsts ps S)) x = stop ps S x := by
  rw [← stop_fir hp S x hx]
  refine stop_congr hp (fun y hy => ?_) hx
  rw [Int.toNat_natCast, Bool.eq_iff_iff, has_mem, firsts, mem_filt]
  constructor
  · rintro ⟨i, _, h2, h3⟩
    obtain rfl : i = y := by omega
    exact h2
  · intro h
    exact ⟨y, hy, h, rfl⟩
theorem stopL_has {S : Int → Bool} : ∀ xs : List Int, stopL S xs = -1 ∨ S (stopL S xs) = true
  | [] => .inl rfl
  | x :: xs => by
    rw [stopL]
    cases h : S x
    · rw [if_neg Bool.false_ne_true]; exact stopL_has xs
    · rw [if_pos rfl]; exact .inr h
theorem stop_has {ps : List Int} {S : Int → Bool} {x : Nat} (h : 0 ≤ stop ps S x) : S (stop ps S x) = true := by
  rcases stopL_has (S := S) (way ps x) with e | e
  · have : stop ps S x = -1 := e
    omega
  · exact e
theorem rule_end {ps rule : List Int} (hp : Pa ps) (h : stopB ps rule = true) {x : Nat} (hx : x < ps.length) (he : endB ps x = true) : behB ps (hasB rule) x = true := by
  obtain ⟨s, _, h2, _⟩ := sole_mem h hp hx he
  exact decide_eq_true (by rw [h2]; omega)
theorem rule_inner {ps rule : List Int} (hp : Pa ps) (h : stopB ps rule = true) {x : Nat} (hx : x < ps.length) (hb : behB ps (hasB rule) x = false) : endB ps x = false := by
  cases he : endB ps x
  · rfl
  · rw [rule_end hp h hx he] at hb; cases hb
/-- A rule is the list of the nodes at which it stops first. -/
theorem rule_firsts {ps rule : List Int} (hp : Pa ps) (h : stopB ps rule = true) : rule = firsts ps (hasB rule) := by
  have h0 := h
  rw [← rule_stop hp, ruleB, Bool.and_eq_true] at h0
  have hpt := stop_parts h
  refine asc_ext (ris_asc hpt.1) (filt_asc _ _) fun z => ?_
  rw [firsts, mem_filt]
  constructor
  · intro hz
    obtain ⟨i, hi, rfl⟩ := List.mem_iff_getElem.1 hz
    have h1 := all_get h0.2 hi
    have h2 := all_in hpt.2 hi
    rw [← nth_lt hi]
    refine ⟨(nth rule i).toNat, by omega, ?_, by omega⟩
    rw [firB, Int.toNat_of_nonneg h2.1]
    exact h1
  · rintro ⟨i, hi, hf, rfl⟩
    have hs : stop ps (hasB rule) i = i := by simpa [firB] using hf
    have := stop_has (S := hasB rule) (ps := ps) (x := i) (by omega)
    rw [hs] at this
    exact has_mem.1 this
theorem mS_take (s l rule : List Int) : ∀ k : Nat, k ≤ rule.length → mS s l rule k = sumOf (fun x => nth s x.toNat * nth l x.toNat) (rule.take k)
  | 0, _ => rfl
  | k + 1, hk => by rw [mS, mS_take s l rule k (by omega), sumOf_take_succ _ _ _ (by omega)]
/-- The sum behind the mean of a rule. -/
theorem rm_firsts (ps ws l : List Int) (S : Int → Bool) : rmS ps ws l (firsts ps S) = stS ps S (ownW ps ws l) := by
  rw [rmS, mS_take _ _ _ _ (Nat.le_refl _), List.take_length, firsts, sumOf_filt]
  exact sumR_congr fun x _ => by rw [Int.toNat_natCast]; rfl
theorem rm_rule {ps ws l rule : List Int} (hp : Pa ps) (h : stopB ps rule = true) : rmS ps ws l rule = stS ps (hasB rule) (ownW ps ws l) := by
  have := rm_firsts ps ws l (hasB rule)
  rwa [← rule_firsts hp h] at this
/-- What stops at more nodes stops no later. -/
theorem stop_mono {ps : List Int} (h : Pa ps) {S S' : Int → Bool} (hS : ∀ y : Nat, y < ps.length → S' y = true → S y = true) : ∀ x, x < ps.length → 0 ≤ stop ps S' x → 0 ≤ stop ps S x ∧ stop ps S x ≤ stop ps S' x := by
  refine h.above ?_ ?_
  · intro h0
    rw [stop_zero] at h0 ⊢
    rw [stop_zero]
    have h1 := hS 0 (by have := h.n1; omega)
    cases hs : S' 0
    · rw [hs] at h0; simp at h0
    · have h2 : S 0 = true := h1 hs
      rw [h2]; simp
  · intro x h1 h2 ih h0
    have hlow := stop_low h S (par ps x) (by have := (h.upN h1 h2).2; omega)
    have hpar := (h.upN h1 h2).2
    rw [stop_up h S' h1 h2] at h0 ⊢
    rw [stop_up h S h1 h2]
    by_cases ha : 0 ≤ stop ps S' (par ps x)
    · have := ih ha
      rw [if_pos ha, if_pos this.1]; exact this
    · rw [if_neg ha] at h0 ⊢
      cases hs : S' x
      · rw [hs] at h0; simp at h0
      · rw [if_pos rfl]
        by_cases hb : 0 ≤ stop ps S (par ps x)
        · rw [if_pos hb]; omega
        · rw [if_neg hb, hS x h2 hs, if_pos rfl]; omega
end Go.Proofs.YtnbomleieianoaaGreat

/- Plain law behind FnEnvelopes: the best rules have the envelope as their mean, no rule has more, caps that cover are no less than the least ones. No conditions but those stated. -/
namespace Go.Proofs.YtnbomleieianoaaGreat

/-- The envelope against what its children have together, and what stopping has. -/
theorem cap_inner {ps ws l : List Int} (h : Tr ps ws) {x : Nat} (hx : x < ps.length) (he : endB ps x = false) : kidSum ps (fun y => nth (capW ps ws l) y) x ps.length ≤ nth (capW ps ws l) x ∧ ownW ps ws l x ≤ nth (capW ps ws l) x ∧ (nth (capW ps ws l) x = ownW ps ws l x ∨ nth (capW ps ws l) x = kidSum ps (fun y => nth (capW ps ws l) y) x ps.length) := by
  have := nth_capW (l := l) h hx
  rw [stepA, he] at this
  simp only [Bool.false_eq_true, if_false] at this
  omega
theorem cap_end {ps ws l : List Int} (h : Tr ps ws) {x : Nat} (hx : x < ps.length) (he : endB ps x = true) : nth (capW ps ws l) x = ownW ps ws l x := by
  have := nth_capW (l := l) h hx
  rwa [stepA, he, if_pos rfl] at this
theorem cap_own {ps ws l : List Int} (h : Tr ps ws) {x : Nat} (hx : x < ps.length) : ownW ps ws l x ≤ nth (capW ps ws l) x := by
  cases he : endB ps x
  · exact (cap_inner h hx he).2.1
  · rw [cap_end h hx he]; exact Int.le_refl _
theorem cover_t {ps ws l caps : List Int} (h : coverV ps ws l caps = true) : paysB ps ws l = true ∧ caps.length = ps.length ∧ ∀ x, x < ps.length → capOk ps ws l caps x = true := by
  simp only [coverV, Bool.and_eq_true] at h
  exact ⟨h.1, by simpa using h.2.1.1, fun x hx => all_get h.2.2 hx⟩
/-- Caps that cover are no less than the least ones. -/
theorem cover_least {ps ws l caps : List Int} (h : coverV ps ws l caps = true) : ∀ x, x < ps.length → nth (capW ps ws l) x ≤ nth caps x := by
  obtain ⟨h1, h2, h3⟩ := cover_t h
  have hT := (paysB_t h1).1
  refine hT.toPa.below ?_
  intro x hx ih
  have hk := h3 x hx
  simp only [capOk, Bool.not_eq_true', Bool.or_eq_false_iff, Bool.and_eq_false_iff, decide_eq_false_iff_not] at hk
  have h4 : nth (sums ps ws) x * nth l x = ownW ps ws l x := rfl
  cases he : endB ps x
  · rw [he] at hk
    have h5 := kidSum_le (ps := ps) (f := fun y => nth (capW ps ws l) y) (g := fun y => nth caps y) (x := x) (k := ps.length) fun y hy e => ih y hy e
    have h6 := cap_inner (l := l) hT hx he
    have h7 := hk.2
    simp at h7
    omega
  · rw [cap_end hT hx he]; omega
theorem least_cover {ps ws l : List Int} (h : paysB ps ws l = true) : coverV ps ws l (capW ps ws l) = true := by
  have hpt := paysB_t h
  have hT := hpt.1
  refine coverV_yes h (capW_length _ _ _) (all_t fun i hi => ?_) fun x hx => ?_
  · have := worth_abs (l := l) hT hpt.2.2.2.2 24 i
    exact inB_mk (by unfold capW; omega) (by unfold capW; omega)
  · have h4 : nth (sums ps ws) x * nth l x = ownW ps ws l x := rfl
    have h5 := cap_own (l := l) hT hx
    simp only [capOk, Bool.not_eq_true', Bool.or_eq_false_iff, Bool.and_eq_false_iff, decide_eq_false_iff_not]
    refine ⟨by omega, ?_⟩
    cases he : endB ps x
    · have := (cap_inner (l := l) hT hx he).1
      exact .inr (by omega)
    · exact .inl rfl
theorem best_beh {ps ws l : List Int} (h : Tr ps ws) {x : Nat} (hx : x < ps.length) (hb : bestB ps ws l x = false) : kidSum ps (fun y => nth (capW ps ws l) y) x ps.length = nth (capW ps ws l) x := by
  have hne : ¬ ownW ps ws l x = nth (capW ps ws l) x := by simpa [bestB] using hb
  cases he : endB ps x
  · have := cap_inner (l := l) h hx he; omega
  · exact absurd (cap_end h hx he).symm hne
theorem best_mean {ps ws l : List Int} (h : paysB ps ws l = true) : rmS ps ws l (bestV ps ws l) = nth (capW ps ws l) 0 := by
  have hT := (paysB_t h).1
  rw [bestV_yes h, rm_firsts]
  rw [stS_congr (g := fun x => nth (capW ps ws l) x) fun x hx hf => by
    have := fir_S hT.toPa hx hf
    simpa [fS, bestB] using this]
  exact stS_eq hT.toPa fun x hx hb => best_beh hT hx (by simpa [fS] using beh_S hT.toPa hx hb)
theorem late_mean {ps ws l : List Int} (h : paysB ps ws l = true) : rmS ps ws l (lateV ps ws l) = nth (capW ps ws l) 0 := by
  have hT := (paysB_t h).1
  rw [lateV_yes h, rm_firsts]
  rw [stS_congr (g := fun x => nth (capW ps ws l) x) fun x hx hf => by
    have h1 := fir_S hT.toPa hx hf
    simp only [fS, lateB, Int.toNat_natCast, Bool.or_eq_true, decide_eq_true_eq] at h1
    cases he : endB ps x
    · rw [he] at h1
      have := cap_inner (l := l) hT hx he
      rcases h1 with h1 | h1
      · cases h1
      · omega
    · exact (cap_end hT hx he).symm]
  refine stS_eq hT.toPa fun x hx hb => ?_
  have h1 := beh_S hT.toPa hx hb
  simp only [fS, lateB, Int.toNat_natCast, Bool.or_eq_false_iff, decide_eq_false_iff_not] at h1
  have := cap_inner (l := l) hT hx h1.1
  omega
theorem best_end {ps ws l : List Int} (h : Tr ps ws) {x : Nat} (hx : x < ps.length) (he : endB ps x = true) : bestB ps ws l x = true := by
  simp [bestB, cap_end h hx he]
theorem best_stop {ps ws l : List Int} (h : paysB ps ws l = true) : stopB ps (bestV ps ws l) = true := by
  have hT := (paysB_t h).1
  rw [bestV_yes h]
  exact firsts_stop hT.toPa fun x hx he => by simpa [fS] using best_end hT hx he
theorem late_stop {ps ws l : List Int} (h : paysB ps ws l = true) : stopB ps (lateV ps ws l) = true := by
  have hT := (paysB_t h).1
  rw [lateV_yes h]
  exact firsts_stop hT.toPa fun x hx he => by simp [fS, lateB, he]
/-- What stops only where S does is no earlier than the rule of S. -/
theorem sooner_of {ps ws rule : List Int} {S : Int → Bool} (h : treeB ps ws = true) (h1 : stopB ps (firsts ps S) = true) (h2 : stopB ps rule = true) (hS : ∀ y : Nat, y < ps.length → hasB rule y = true → S y = true) : noLV ps ws (firsts ps S) rule = true := by
  have hp := (treeB_t h).toPa
  rw [noLV, twoB, h, h1, h2, noLaterB]
  simp only [Bool.true_and]
  refine all_t fun i hi => ?_
  obtain ⟨e, h3, h4, h5⟩ := end_nth hi
  rw [h5, Int.toNat_natCast, stop_firsts hp S h3]
  have hb := rule_end hp h2 h3 h4
  exact decide_eq_true (stop_mono hp hS e h3 (of_decide_eq_true hb)).2
theorem best_late {ps ws l : List Int} (h : paysB ps ws l = true) : noLV ps ws (bestV ps ws l) (lateV ps ws l) = true := by
  have hpt := paysB_t h
  have hT := hpt.1
  have h1 := best_stop h
  have h2 := late_stop h
  have htr : treeB ps ws = true := by simp only [paysB, Bool.and_eq_true] at h; exact h.1
  rw [bestV_yes h] at h1 ⊢
  refine sooner_of htr h1 h2 fun y hy hh => ?_
  rw [lateV_yes h, has_mem, firsts, mem_filt] at hh
  obtain ⟨i, hi, hf, he⟩ := hh
  obtain rfl : y = i := by omega
  have h3 := fir_S hT.toPa hi hf
  simp only [fS, lateB, Int.toNat_natCast, Bool.or_eq_true, decide_eq_true_eq] at h3
  cases hen : endB ps y
  · rw [hen] at h3
    have := cap_inner (l := l) hT hi hen
    rcases h3 with h3 | h3
    · cases h3
    · simp only [fS, Int.toNat_natCast, bestB, beq_iff_eq]; omega
  · simpa [fS] using best_end hT hi hen
/-- No rule has a greater mean than the envelope. -/
theorem any_le {ps ws l rule : List Int} (h : rmB ps ws l rule = true) : rmS ps ws l rule ≤ nth (capW ps ws l) 0 := by
  simp only [rmB, Bool.and_eq_true] at h
  have hT := (paysB_t h.1).1
  rw [rm_rule hT.toPa h.2]
  have h1 := stS_mono (ps := ps) (S := hasB rule) (f := ownW ps ws l) (g := fun x => nth (capW ps ws l) x) fun x hx _ => cap_own hT hx
  have h2 := stS_le hT.toPa (S := hasB rule) (f := fun x => nth (capW ps ws l) x) fun x hx hb => (cap_inner (l := l) hT hx (rule_inner hT.toPa h.2 hx hb)).1
  exact Int.le_trans h1 h2
/-- A rule with the greatest mean stops only where stopping is best. -/
theorem any_late {ps ws l rule : List Int} (h : rmB ps ws l rule = true) (he : rmS ps ws l rule = nth (capW ps ws l) 0) : noLV ps ws (bestV ps ws l) rule = true := by
  have h0 := h
  simp only [rmB, Bool.and_eq_true] at h
  have hT := (paysB_t h.1).1
  have hb := best_stop h.1
  have htr : treeB ps ws = true := by have := h.1; simp only [paysB, Bool.and_eq_true] at this; exact this.1
  rw [bestV_yes h.1] at hb ⊢
  refine sooner_of htr hb h.2 fun y hy hh => ?_
  rw [rm_rule hT.toPa h.2] at he
  have h1 := stS_mono (ps := ps) (S := hasB rule) (f := ownW ps ws l) (g := fun x => nth (capW ps ws l) x) fun x hx _ => cap_own hT hx
  have h2 := stS_le hT.toPa (S := hasB rule) (f := fun x => nth (capW ps ws l) x) fun x hx hb => (cap_inner (l := l) hT hx (rule_inner hT.toPa h.2 hx hb)).1
  have h3 : stS ps (hasB rule) (ownW ps ws l) = stS ps (hasB rule) (fun x => nth (capW ps ws l) x) := by omega
  have hm := has_mem.1 hh
  rw [rule_firsts hT.toPa h.2, firsts, mem_filt] at hm
  obtain ⟨i, hi, hf, hie⟩ := hm
  obtain rfl : y = i := by omega
  have := stS_same (fun x hx _ => cap_own hT hx) h3 hi hf
  simpa [fS, bestB] using this
/-- Means as fractions. -/
theorem mean_lt {ps ws : List Int} (h : Tr ps ws) (a b : Int) : (nm a (nth (sums ps ws) 0) * dn b (nth (sums ps ws) 0) < nm b (nth (sums ps ws) 0) * dn a (nth (sums ps ws) 0)) ↔ a < b := cut_lt a b (by have := sums_pos h 0 (by have := h.n1; omega); omega)
end Go.Proofs.YtnbomleieianoaaGreat

/- Plain law behind FnBounds: the bound of a balanced list and what a seer has are no less than the envelope, and costs take away. No conditions but those stated. -/
namespace Go.Proofs.YtnbomleieianoaaGreat

theorem bdE_self {ps pay num : List Int} (hp : Pa ps) {x : Nat} (hx : x < ps.length) : exc pay num x ≤ bdE ps pay num x ∧ (1 ≤ x → bdE ps pay num (par ps x) ≤ bdE ps pay num x) := by
  by_cases h0 : x = 0
  · subst h0
    refine ⟨?_, fun h => by omega⟩
    rw [bdE, way_zero]
    exact Int.le_of_eq (mxT_one rfl).symm
  · have hpar := hp.upN (x := x) (by omega) hx
    have hl := (way_length hp (par ps x) (by omega)).1
    have hw := way_up hp (x := x) (by omega) hx
    have e1 : bdE ps pay num x = max (bdE ps pay num (par ps x)) (exc pay num x) := by
      rw [bdE, hw, List.length_append, List.length_singleton, mxT]
      have e2 : nth (way ps (par ps x) ++ [(x : Int)]) (way ps (par ps x)).length = x := nth_append_r
      have e3 : ∀ k, k ≤ (way ps (par ps x)).length → mxT (exc pay num) (way ps (par ps x) ++ [(x : Int)]) k = mxT (exc pay num) (way ps (par ps x)) k := fun k => by
        induction k with
        | zero => intro _; rfl
        | succ k ih => intro hk; rw [mxT, mxT, ih (by omega), nth_append_l (by omega)]
      rw [e2, e3 _ (Nat.le_refl _)]; rfl
    rw [e1]
    exact ⟨by omega, fun _ => by omega⟩
/-- The greatest excess on the way to a node, times its sum, is no more than those of the ends below it together. -/
theorem bd_below {ps ws pay num : List Int} (h : Tr ps ws) : ∀ x, x < ps.length → nth (sums ps ws) x * bdE ps pay num x ≤ enG ps (fun e => bdE ps pay num e * nth ws e) x := by
  refine h.toPa.below ?_
  intro x hx ih
  cases he : endB ps x
  · rw [enG_inner h.toPa _ hx he, s_inner h hx he]
    have h1 := kidSum_le (ps := ps) (f := fun y => bdE ps pay num x * nth (sums ps ws) y) (g := enG ps (fun e => bdE ps pay num e * nth ws e)) (x := x) (k := ps.length) fun y hy e => by
      have hk := kid_par h.toPa hy e
      have h2 := (bdE_self (pay := pay) (num := num) h.toPa hy).2 hk.1
      rw [hk.2] at h2
      have h3 := Int.mul_le_mul_of_nonneg_left h2 (sums_nn h y)
      have h4 := ih y hy e
      rw [Int.mul_comm (bdE ps pay num x)]
      omega
    rw [kidSum_mul ps (fun y => nth (sums ps ws) y)] at h1
    rw [Int.mul_comm]
    exact h1
  · rw [enG_end h.toPa _ hx he, s_end h he, Int.mul_comm]
    exact Int.le_refl _
/-- Balanced: a node's number times its sum is what its children have together. -/
theorem bal_kids {ps ws num : List Int} (h : Tr ps ws) {x : Nat} (hx : x < ps.length) (he : endB ps x = false) (hb : drA ps ws num x = 0) : kidSum ps (fun y => nth (sums ps ws) y * nth num y) x ps.length = nth (sums ps ws) x * nth num x := by
  rcases (dr_bal (l := num) h hx).1 hb with e | e
  · rw [he] at e; cases e
  · exact e.symm
theorem bound_cap {ps ws pay num : List Int} (h : Tr ps ws) (hb : ∀ x, x < ps.length → drA ps ws num x = 0) : ∀ x, x < ps.length → nth (capW ps ws pay) x ≤ enG ps (fun e => bdE ps pay num e * nth ws e) x + nth (sums ps ws) x * nth num x := by
  refine h.toPa.below ?_
  intro x hx ih
  have hown : ownW ps ws pay x ≤ enG ps (fun e => bdE ps pay num e * nth ws e) x + nth (sums ps ws) x * nth num x := by
    have h1 := bd_below (pay := pay) (num := num) h x hx
    have h2 := Int.mul_le_mul_of_nonneg_left (bdE_self (pay := pay) (num := num) h.toPa hx).1 (sums_nn h x)
    have h3 : nth (sums ps ws) x * exc pay num x = ownW ps ws pay x - nth (sums ps ws) x * nth num x := by
      rw [exc, Int.toNat_natCast, Int.mul_sub]; rfl
    omega
  cases he : endB ps x
  · have hc := cap_inner (l := pay) h hx he
    have hk := bal_kids h hx he (hb x hx)
    have h1 := kidSum_le (ps := ps) (f := fun y => nth (capW ps ws pay) y) (g := fun y => enG ps (fun e => bdE ps pay num e * nth ws e) y + nth (sums ps ws) y * nth num y) (x := x) (k := ps.length) fun y hy e => ih y hy e
    rw [kidSum_add ps (enG ps (fun e => bdE ps pay num e * nth ws e)) (fun y => nth (sums ps ws) y * nth num y), ← enG_inner h.toPa _ hx he, hk] at h1
    omega
  · rw [cap_end h hx he]; exact hown
theorem bound_le {ps ws pay num : List Int} (h : Tr ps ws) (hb : ∀ x, x < ps.length → drA ps ws num x = 0) : nth (capW ps ws pay) 0 ≤ bndS ps ws pay num := by
  have h1 := bound_cap (pay := pay) h hb 0 (by have := h.n1; omega)
  rw [enG_root h.toPa] at h1
  rw [bndS, Int.mul_comm]
  have : sumOf (bdT ps ws pay num) (ends ps) = sumOf (fun e => bdE ps pay num e.toNat * nth ws e.toNat) (ends ps) := rfl
  omega
theorem seer_le {ps ws pay : List Int} (h : Tr ps ws) : nth (capW ps ws pay) 0 ≤ bndS ps ws pay (zeL ps) := bound_le h fun x _ => by
  rw [drA]
  exact kidSum_zero fun y _ _ => by rw [zeL, nth_replicate, nth_replicate]; simp
/-- Less payments, less envelope. -/
theorem cap_mono {ps ws l l' : List Int} (h : Tr ps ws) (hl : ∀ x, x < ps.length → nth l' x ≤ nth l x) : ∀ x, x < ps.length → nth (capW ps ws l') x ≤ nth (capW ps ws l) x := by
  refine h.toPa.below ?_
  intro x hx ih
  have hown : ownW ps ws l' x ≤ ownW ps ws l x := Int.mul_le_mul_of_nonneg_left (hl x hx) (sums_nn h x)
  cases he : endB ps x
  · have h1 := kidSum_le (ps := ps) (f := fun y => nth (capW ps ws l') y) (g := fun y => nth (capW ps ws l) y) (x := x) (k := ps.length) fun y hy e => ih y hy e
    have h2 := cap_inner (l := l') h hx he
    have h3 := cap_inner (l := l) h hx he
    omega
  · rw [cap_end h hx he, cap_end h hx he]; exact hown
theorem cost_cap {ps ws l : List Int} {c : Int} (h : costB ps ws l c = true) : nth (capW ps ws (costL ps l c)) 0 ≤ nth (capW ps ws l) 0 := by
  simp only [costB, Bool.and_eq_true] at h
  have hT := (paysB_t h.1).1
  have hc := inB_t h.2.1
  refine cap_mono hT (fun x hx => ?_) 0 (by have := hT.n1; omega)
  rw [costL, nth_map_range hx]
  have := Int.mul_nonneg (show 0 ≤ c by omega) (dep_bd hT.toPa x hx).1
  omega
end Go.Proofs.YtnbomleieianoaaGreat

/- Plain law behind FnStoppedMeans: stopped means of fair and of falling processes, and the stopped process. No conditions but those stated. -/
namespace Go.Proofs.YtnbomleieianoaaGreat

theorem own_kids {ps ws l : List Int} (h : Tr ps ws) {x : Nat} (hx : x < ps.length) (he : endB ps x = false) : kidSum ps (ownW ps ws l) x ps.length = ownW ps ws l x + drA ps ws l x := by
  have h1 : kidSum ps (ownW ps ws l) x ps.length = kidSum ps (fun y => nth l x * nth (sums ps ws) y + nth (sums ps ws) y * (nth l y - nth l x)) x ps.length := kidSum_congr fun y _ _ => by unfold ownW; grind
  rw [h1, kidSum_add ps (fun y => nth l x * nth (sums ps ws) y) (fun y => nth (sums ps ws) y * (nth l y - nth l x)), kidSum_mul ps (fun y => nth (sums ps ws) y), ← s_inner h hx he, Int.mul_comm]
  rfl
/-- The stopped mean of a fair process is its number at the root. -/
theorem stop_fair {ps ws l rule : List Int} (h : Tr ps ws) (hr : stopB ps rule = true) (hb : balB ps ws l = true) : rmS ps ws l rule = nth (sums ps ws) 0 * nth l 0 := by
  rw [rm_rule h.toPa hr]
  exact stS_eq h.toPa fun x hx hbe => by rw [own_kids h hx (rule_inner h.toPa hr hx hbe), bal_t hb x hx]; omega
theorem stop_fall {ps ws l rule : List Int} (h : Tr ps ws) (hr : stopB ps rule = true) (hb : fallB ps ws l = true) : rmS ps ws l rule ≤ nth (sums ps ws) 0 * nth l 0 := by
  rw [rm_rule h.toPa hr]
  exact stS_le h.toPa (f := ownW ps ws l) fun x hx hbe => by rw [own_kids h hx (rule_inner h.toPa hr hx hbe)]; have := fall_t hb x hx; omega
/-- The number of the stopped process. -/
def heldN (ps rule l : List Int) (x : Nat) : Int := if behB ps (hasB rule) x then nth l (stop ps (hasB rule) x).toNat else nth l x
def heldL (ps rule l : List Int) : List Int := (List.range ps.length).map (heldN ps rule l)
theorem heldL_length (ps rule l : List Int) : (heldL ps rule l).length = ps.length := by simp [heldL]
theorem nth_heldL {ps rule l : List Int} {x : Nat} (hx : x < ps.length) : nth (heldL ps rule l) x = heldN ps rule l x := by rw [heldL, nth_map_range hx]
theorem held_beh {ps : List Int} (rule l : List Int) (h : Pa ps) {x y : Nat} (hb : behB ps (hasB rule) x = true) (hy : y < ps.length) (e : nth ps y = x) : behB ps (hasB rule) y = true ∧ heldN ps rule l y = heldN ps rule l x := by
  have hk := kid_par h hy e
  have hs := stop_up h (hasB rule) hk.1 hy
  rw [hk.2, if_pos (of_decide_eq_true hb)] at hs
  have h1 : behB ps (hasB rule) y = true := by unfold behB; rw [hs]; exact hb
  refine ⟨h1, ?_⟩
  unfold heldN
  rw [h1, hb, hs, if_pos rfl, if_pos rfl]
theorem held_fir {ps : List Int} (rule l : List Int) {x : Nat} (hf : firB ps (hasB rule) x = true) : heldN ps rule l x = nth l x ∧ behB ps (hasB rule) x = true := by
  have hs : stop ps (hasB rule) x = x := by simpa [firB] using hf
  have hb : behB ps (hasB rule) x = true := decide_eq_true (by omega)
  refine ⟨?_, hb⟩
  unfold heldN
  rw [hb, hs, Int.toNat_natCast]; rfl
theorem held_not {ps : List Int} (rule l : List Int) (h : Pa ps) {x y : Nat} (hb : behB ps (hasB rule) x = false) (hy : y < ps.length) (e : nth ps y = x) : heldN ps rule l y = nth l y := by
  have hk := kid_par h hy e
  have hs := (beh_up h (hasB rule) hk.1 hy).2 (by rw [hk.2]; exact hb)
  cases hh : hasB rule y
  · unfold heldN
    rw [hs.1, hh]; rfl
  · exact (held_fir rule l (by rw [hs.2, hh])).1
/-- Behind a stop the process stays, and has the mean of what it is at the ends. -/
theorem held_sum {ps ws l rule : List Int} (h : Tr ps ws) : ∀ x, x < ps.length → behB ps (hasB rule) x = true → enG ps (fun e => nth ws e * heldN ps rule l e) x = nth (sums ps ws) x * heldN ps rule l x := by
  refine h.toPa.below ?_
  intro x hx ih hb
  cases he : endB ps x
  · have h1 : kidSum ps (enG ps (fun e => nth ws e * heldN ps rule l e)) x ps.length = kidSum ps (fun y => heldN ps rule l x * nth (sums ps ws) y) x ps.length := kidSum_congr fun y hy e => by
      have hk := held_beh rule l h.toPa hb hy e
      rw [ih y hy e hk.1, hk.2, Int.mul_comm]
    rw [enG_inner h.toPa _ hx he, h1, kidSum_mul ps (fun y => nth (sums ps ws) y), ← s_inner h hx he, Int.mul_comm]
  · rw [enG_end h.toPa _ hx he, s_end h he]
theorem held_mean {ps ws l rule : List Int} (h : Tr ps ws) (hr : stopB ps rule = true) : enG ps (fun e => nth ws e * heldN ps rule l e) 0 = rmS ps ws l rule := by
  rw [rm_rule h.toPa hr]
  have h1 := stS_eq h.toPa (S := hasB rule) (f := enG ps (fun e => nth ws e * heldN ps rule l e)) fun x hx hb => (enG_inner h.toPa _ hx (rule_inner h.toPa hr hx hb)).symm
  rw [← h1]
  exact stS_congr fun x hx hf => by
    have hk := held_fir rule l hf
    rw [held_sum h x hx hk.2, hk.1]; rfl
/-- The stopped process of a fair one is fair. -/
theorem held_fair {ps ws l rule : List Int} (h : Tr ps ws) (hb : balB ps ws l = true) : balB ps ws (heldL ps rule l) = true := bal_yes fun x hx => by
  have hb2 := bal_t hb x hx
  rw [drA] at hb2 ⊢
  cases hbe : behB ps (hasB rule) x
  · rw [← hb2]
    refine kidSum_congr fun y hy e => ?_
    rw [nth_heldL hy, nth_heldL hx, held_not rule l h.toPa hbe hy e]
    have : heldN ps rule l x = nth l x := by unfold heldN; rw [hbe]; rfl
    rw [this]
  · refine kidSum_zero fun y hy e => ?_
    rw [nth_heldL hy, nth_heldL hx, (held_beh rule l h.toPa hbe hy e).2]; simp
theorem held_bd {ps rule l : List Int} (hl : ∀ i, -999 ≤ nth l i ∧ nth l i ≤ 999) (x : Nat) : -999 ≤ heldN ps rule l x ∧ heldN ps rule l x ≤ 999 := by
  unfold heldN
  split
  · exact hl _
  · exact hl _
theorem ends_stop {ps : List Int} (h : Pa ps) : stopB ps (ends ps) = true := by
  have : ends ps = firsts ps (fS (endB ps)) := by
    refine filt_congr fun x hx => ?_
    have key : ∀ x, x < ps.length → behB ps (fS (endB ps)) x = endB ps x ∧ firB ps (fS (endB ps)) x = endB ps x := by
      refine h.above ?_ ?_
      · exact beh_zero ps _
      · intro x h1 h2 ih
        have hp := h.upN h1 h2
        have he : endB ps (par ps x) = false := endB_f h2 hp.1
        exact (beh_up h _ h1 h2).2 (ih.1.trans he)
    exact (key x hx).2.symm
  rw [this]
  exact firsts_stop h fun x _ he => by simpa [fS] using he
/-- Stopping at the ends is the latest: of a falling process it has no more. -/
theorem ends_least {ps ws l rule : List Int} (h : Tr ps ws) (hr : stopB ps rule = true) (hb : fallB ps ws l = true) : rmS ps ws l (ends ps) ≤ rmS ps ws l rule := by
  have h1 : rmS ps ws l (ends ps) = enG ps (ownW ps ws l) 0 := by
    rw [rmS, mS_take _ _ _ _ (Nat.le_refl _), List.take_length, enG_root h.toPa]; rfl
  have h2 : ∀ x, x < ps.length → enG ps (ownW ps ws l) x ≤ ownW ps ws l x := by
    refine h.toPa.below ?_
    intro x hx ih
    cases he : endB ps x
    · rw [enG_inner h.toPa _ hx he]
      have := kidSum_le (ps := ps) (f := enG ps (ownW ps ws l)) (g := ownW ps ws l) (x := x) (k := ps.length) fun y hy e => ih y hy e
      have := own_kids (l := l) h hx he
      have := fall_t hb x hx
      omega
    · rw [enG_end h.toPa _ hx he]; exact Int.le_refl _
  have h3 := stS_eq h.toPa (S := hasB rule) (f := enG ps (ownW ps ws l)) fun x hx hb => (enG_inner h.toPa _ hx (rule_inner h.toPa hr hx hb)).symm
  rw [h1, ← h3, rm_rule h.toPa hr]
  exact stS_mono fun x hx _ => h2 x hx
/-- A quotient without a rest. -/
theorem nm_whole (a : Int) {s : Int} (hs : 0 < s) : nm (s * a) s = a ∧ dn (s * a) s = 1 := by
  have hg : gcdI (s * a) s = s := by
    unfold gcdI
    exact Int.gcd_eq_right (by omega) (Int.dvd_mul_right s a)
  rw [nm, dn, if_neg (by omega), if_neg (by omega), hg]
  exact ⟨Int.mul_ediv_cancel_left _ (by omega), Int.ediv_self (by omega)⟩
end Go.Proofs.YtnbomleieianoaaGreat

/- Plain numbers: the stopped process, node by node. No conditions but those stated. -/
namespace Go.Proofs.YtnbomleieianoaaGreat

theorem sp_zero (ps rule l : List Int) : behB ps (hasB rule) 0 = hasB rule 0 ∧ heldN ps rule l 0 = nth l 0 := by
  have h := (beh_zero ps (hasB rule)).1
  refine ⟨h, ?_⟩
  unfold heldN
  rw [h, stop_zero]
  cases hasB rule 0 <;> rfl
theorem sp_up {ps : List Int} (hp : Pa ps) (rule l : List Int) {x : Nat} (h1 : 1 ≤ x) (h2 : x < ps.length) :
    (behB ps (hasB rule) (par ps x) = true → behB ps (hasB rule) x = true ∧ heldN ps rule l x = heldN ps rule l (par ps x)) ∧ (behB ps (hasB rule) (par ps x) = false → behB ps (hasB rule) x = hasB rule x ∧ heldN ps rule l x = nth l x) := by
  have hu := hp.upN h1 h2
  have hb := beh_up hp (hasB rule) h1 h2
  exact ⟨fun h => ⟨(hb.1 h).1, (held_beh rule l hp h h2 hu.1).2⟩, fun h => ⟨(hb.2 h).1, held_not rule l hp h h2 hu.1⟩⟩
theorem stopL_first (S : Int → Bool) : ∀ xs : List Int, stopL S xs = if xs.filter S = [] then -1 else nth (xs.filter S) 0
  | [] => rfl
  | y :: ys => by
    have ih := stopL_first S ys
    rw [stopL, List.filter_cons]
    cases hy : S y
    · simpa using ih
    · simp [nth]
/-- What the reference asks at a node. -/
theorem on_head {ps : List Int} (hp : Pa ps) (rule : List Int) {x : Nat} (hx : x < ps.length) :
    (behB ps (hasB rule) x = decide (0 < (onR ps rule x).length)) ∧ (0 < (onR ps rule x).length → nth (onR ps rule x) 0 = stop ps (hasB rule) x) := by
  have h : stop ps (hasB rule) x = if onR ps rule x = [] then -1 else nth (onR ps rule x) 0 := stopL_first _ _
  cases e : onR ps rule x with
  | nil =>
    rw [e, if_pos rfl] at h
    refine ⟨?_, fun h0 => by simp at h0⟩
    unfold behB; rw [h]; rfl
  | cons y ys =>
    rw [e, if_neg (by simp)] at h
    refine ⟨?_, fun _ => h.symm⟩
    have hy : y ∈ onR ps rule x := by rw [e]; simp
    have hy2 : y ∈ way ps x := (List.mem_filter.mp hy).1
    obtain ⟨j, _, hj⟩ := way_mem hp x hx y hy2
    have h0 : stop ps (hasB rule) x = y := h
    unfold behB; rw [h0]
    have : 0 ≤ y := by omega
    simp [this]
/-- The stopped process up to a node, the process behind it. -/
def mixL (ps rule l : List Int) (x : Nat) : List Int := (List.range ps.length).map fun y => if y < x then heldN ps rule l y else nth l y
theorem mixL_length (ps rule l : List Int) (x : Nat) : (mixL ps rule l x).length = ps.length := by simp [mixL]
theorem nth_mixL {ps rule l : List Int} {x y : Nat} (hy : y < ps.length) : nth (mixL ps rule l x) y = if y < x then heldN ps rule l y else nth l y := by rw [mixL, nth_map_range hy]
theorem mixL_zero {ps rule l : List Int} (h : l.length = ps.length) : mixL ps rule l 0 = l := by
  apply List.ext_getElem
  · rw [mixL_length, h]
  · intro i h1 h2
    simp [mixL, nth, List.getD, h2]
theorem mixL_all (ps rule l : List Int) : mixL ps rule l ps.length = heldL ps rule l := by
  unfold mixL heldL
  apply List.map_congr_left
  intro y hy
  rw [if_pos (List.mem_range.mp hy)]
theorem mixL_set {ps rule l : List Int} {x : Nat} (hx : x < ps.length) : (mixL ps rule l x).set x (heldN ps rule l x) = mixL ps rule l (x + 1) := by
  apply List.ext_getElem
  · simp [mixL_length]
  · intro i h1 h2
    rw [List.getElem_set]
    by_cases e : x = i
    · subst e; simp [mixL]
    · rw [if_neg e]
      simp only [mixL, List.getElem_map, List.getElem_range]
      by_cases h3 : i < x
      · rw [if_pos h3, if_pos (by omega)]
      · rw [if_neg h3, if_neg (by omega)]
theorem mixL_same {ps rule l : List Int} {x : Nat} (hx : x < ps.length) (h : heldN ps rule l x = nth l x) : mixL ps rule l (x + 1) = mixL ps rule l x := by
  apply List.ext_getElem
  · simp [mixL_length]
  · intro i h1 h2
    simp only [mixL, List.getElem_map, List.getElem_range]
    by_cases e : i = x
    · subst e; rw [if_pos (by omega), if_neg (by omega), h]
    · by_cases h3 : i < x
      · rw [if_pos h3, if_pos (by omega)]
      · rw [if_neg h3, if_neg (by omega)]
def spV (ps ws l rule : List Int) : List Int := if rmB ps ws l rule then heldL ps rule l else []
theorem spV_no {ps ws l rule : List Int} (h : rmB ps ws l rule = false) : spV ps ws l rule = [] := by rw [spV, h]; rfl
theorem spV_yes {ps ws l rule : List Int} (h : rmB ps ws l rule = true) : spV ps ws l rule = heldL ps rule l := by rw [spV, h]; rfl
end Go.Proofs.YtnbomleieianoaaGreat

/- Plain law behind FnBounds: what the law compares, as fractions. No conditions but those stated. -/
namespace Go.Proofs.YtnbomleieianoaaGreat

theorem enG_bd {ps ws : List Int} (h : Tr ps ws) {V : Nat → Int} {B : Int} (hV : ∀ x, x < ps.length → endB ps x = true → -(B * nth ws x) ≤ V x ∧ V x ≤ B * nth ws x) : ∀ x, x < ps.length → -(B * nth (sums ps ws) x) ≤ enG ps V x ∧ enG ps V x ≤ B * nth (sums ps ws) x := by
  refine h.toPa.below ?_
  intro x hx ih
  cases he : endB ps x
  · have h1 := kidSum_le (ps := ps) (f := enG ps V) (g := fun y => B * nth (sums ps ws) y) (x := x) (k := ps.length) fun y hy e => (ih y hy e).2
    have h2 := kidSum_le (ps := ps) (f := fun y => (-B) * nth (sums ps ws) y) (g := enG ps V) (x := x) (k := ps.length) fun y hy e => by have := (ih y hy e).1; rw [Int.neg_mul]; exact this
    rw [kidSum_mul ps (fun y => nth (sums ps ws) y), ← s_inner h hx he] at h1 h2
    rw [enG_inner h.toPa _ hx he]
    rw [Int.neg_mul] at h2
    exact ⟨h2, h1⟩
  · rw [enG_end h.toPa _ hx he, s_end h he]
    exact hV x hx he
theorem bnd_bd {ps ws pay num : List Int} (h : Tr ps ws) (h1 : ∀ i, -999 ≤ nth pay i ∧ nth pay i ≤ 999) (h2 : ∀ i, -999 ≤ nth num i ∧ nth num i ≤ 999) : -11508480 ≤ bndS ps ws pay num ∧ bndS ps ws pay num ≤ 11508480 := by
  have h3 := enG_bd h (V := fun e => bdE ps pay num e * nth ws e) (B := 1998) (fun x _ _ => by
    have hb := bdE_bd (ps := ps) h1 h2 x
    have hw := (h.w0 x).1
    have e1 := Int.mul_le_mul_of_nonneg_right hb.1 hw
    have e2 := Int.mul_le_mul_of_nonneg_right hb.2 hw
    rw [Int.neg_mul] at e1
    exact ⟨e1, e2⟩) 0 (by have := h.n1; omega)
  rw [enG_root h.toPa] at h3
  have h4 := mul_abs (B := 999) (U := 480) (h2 0) (sums_bd h 0) (by omega)
  have h5 := sums_bd h 0
  have h6 : sumOf (bdT ps ws pay num) (ends ps) = sumOf (fun e => bdE ps pay num e.toNat * nth ws e.toNat) (ends ps) := rfl
  rw [bndS, h6]
  omega
theorem s0_pos {ps ws : List Int} (h : Tr ps ws) : 0 < nth (sums ps ws) 0 := by have := sums_pos h 0 (by have := h.n1; omega); omega
theorem env_at {ps ws l : List Int} (h : paysB ps ws l = true) : Fr.at1 (envV ps ws l) 0 = nm (nth (capW ps ws l) 0) (nth (sums ps ws) 0) ∧ Fr.at2 (envV ps ws l) 0 = dn (nth (capW ps ws l) 0) (nth (sums ps ws) 0) ∧ (envV ps ws l).length ≤ 24 ∧ 1 ≤ (envV ps ws l).length := by
  have hT := (paysB_t h).1
  have h0 : 0 < ps.length := by have := hT.n1; omega
  rw [envV_yes h, envL_length]
  have e1 : Fr.at1 (envL ps ws l) 0 = nm (nth (capW ps ws l) 0) (nth (sums ps ws) 0) := by
    unfold Fr.at1 envL; simp [List.getD, h0]
  have e2 : Fr.at2 (envL ps ws l) 0 = dn (nth (capW ps ws l) 0) (nth (sums ps ws) 0) := by
    unfold Fr.at2 envL; simp [List.getD, h0]
  exact ⟨e1, e2, hT.n24, hT.n1⟩
theorem cap_abs {ps ws l : List Int} (h : paysB ps ws l = true) : -11508480 ≤ nth (capW ps ws l) 0 ∧ nth (capW ps ws l) 0 ≤ 11508480 := by
  have hp := paysB_t h
  have := worth_abs hp.1 hp.2.2.2.2 24 0
  unfold capW; omega
theorem frac_cmp {ps ws : List Int} (h : Tr ps ws) {a b : Int} (ha : -11508480 ≤ a ∧ a ≤ 11508480) (hb : -11508480 ≤ b ∧ b ≤ 11508480) (hle : b ≤ a) :
    (-4611686018427387904 ≤ nm a (nth (sums ps ws) 0) * dn b (nth (sums ps ws) 0) ∧ nm a (nth (sums ps ws) 0) * dn b (nth (sums ps ws) 0) ≤ 4611686018427387904) ∧ (-4611686018427387904 ≤ nm b (nth (sums ps ws) 0) * dn a (nth (sums ps ws) 0) ∧ nm b (nth (sums ps ws) 0) * dn a (nth (sums ps ws) 0) ≤ 4611686018427387904) ∧ decide (nm a (nth (sums ps ws) 0) * dn b (nth (sums ps ws) 0) < nm b (nth (sums ps ws) 0) * dn a (nth (sums ps ws) 0)) = false := by
  have hs := s0_pos h
  have hs2 := (sums_bd h 0).2
  have e1 := cut_prod (a := a) (b := b) hs hs2 ha
  have e2 := cut_prod (a := b) (b := a) hs hs2 hb
  refine ⟨by omega, by omega, decide_eq_false fun hlt => ?_⟩
  have := (cut_lt a b hs).1 hlt
  omega
theorem zeL_bd (ps : List Int) : ∀ i, -999 ≤ nth (zeL ps) i ∧ nth (zeL ps) i ≤ 999 := fun i => by rw [zeL, nth_replicate]; omega
/-- What the seer has against the envelope. -/
theorem seer_cmp {ps ws pay : List Int} (h : paysB ps ws pay = true) : (envV ps ws pay).length ≤ 24 ∧ 1 ≤ (envV ps ws pay).length ∧ (-4611686018427387904 ≤ boN (paysB ps ws pay) ps ws pay (zeL ps) * Fr.at2 (envV ps ws pay) 0 ∧ boN (paysB ps ws pay) ps ws pay (zeL ps) * Fr.at2 (envV ps ws pay) 0 ≤ 4611686018427387904) ∧ (-4611686018427387904 ≤ Fr.at1 (envV ps ws pay) 0 * boD (paysB ps ws pay) ps ws pay (zeL ps) ∧ Fr.at1 (envV ps ws pay) 0 * boD (paysB ps ws pay) ps ws pay (zeL ps) ≤ 4611686018427387904) ∧ decide (boN (paysB ps ws pay) ps ws pay (zeL ps) * Fr.at2 (envV ps ws pay) 0 < Fr.at1 (envV ps ws pay) 0 * boD (paysB ps ws pay) ps ws pay (zeL ps)) = false := by
  have hp := paysB_t h
  obtain ⟨e1, e2, e3, e4⟩ := env_at h
  rw [e1, e2, boN, boD, h, if_pos rfl, if_pos rfl]
  exact ⟨e3, e4, frac_cmp hp.1 (bnd_bd hp.1 hp.2.2.2.2 (zeL_bd ps)) (cap_abs h) (seer_le hp.1)⟩
theorem bound_cmp {ps ws pay num : List Int} (h : bbB ps ws pay num = true) : (-4611686018427387904 ≤ boN (bbB ps ws pay num) ps ws pay num * Fr.at2 (envV ps ws pay) 0 ∧ boN (bbB ps ws pay num) ps ws pay num * Fr.at2 (envV ps ws pay) 0 ≤ 4611686018427387904) ∧ (-4611686018427387904 ≤ Fr.at1 (envV ps ws pay) 0 * boD (bbB ps ws pay num) ps ws pay num ∧ Fr.at1 (envV ps ws pay) 0 * boD (bbB ps ws pay num) ps ws pay num ≤ 4611686018427387904) ∧ decide (boN (bbB ps ws pay num) ps ws pay num * Fr.at2 (envV ps ws pay) 0 < Fr.at1 (envV ps ws pay) 0 * boD (bbB ps ws pay num) ps ws pay num) = false := by
  have h0 := h
  simp only [bbB, balV, Bool.and_eq_true] at h
  have hp := paysB_t h.2
  have hn := paysB_t h.1.1
  obtain ⟨e1, e2, e3, e4⟩ := env_at h.2
  rw [e1, e2, boN, boD, h0, if_pos rfl, if_pos rfl]
  exact frac_cmp hp.1 (bnd_bd hp.1 hp.2.2.2.2 hn.2.2.2.2) (cap_abs h.2) (bound_le hp.1 (bal_t h.1.2))
theorem three_t {ps ws l : List Int} {c : Int} (h : costB ps ws l c = true) : paysB ps ws l = true ∧ paysB ps ws (costV ps ws l c) = true ∧ ((envV ps ws l).length ≤ 24 ∧ 1 ≤ (envV ps ws l).length) ∧ ((envV ps ws (costV ps ws l c)).length ≤ 24 ∧ 1 ≤ (envV ps ws (costV ps ws l c)).length) ∧ (-4611686018427387904 ≤ Fr.at1 (envV ps ws l) 0 * Fr.at2 (envV ps ws (costV ps ws l c)) 0 ∧ Fr.at1 (envV ps ws l) 0 * Fr.at2 (envV ps ws (costV ps ws l c)) 0 ≤ 4611686018427387904) ∧ (-4611686018427387904 ≤ Fr.at1 (envV ps ws (costV ps ws l c)) 0 * Fr.at2 (envV ps ws l) 0 ∧ Fr.at1 (envV ps ws (costV ps ws l c)) 0 * Fr.at2 (envV ps ws l) 0 ≤ 4611686018427387904) ∧ decide (Fr.at1 (envV ps ws l) 0 * Fr.at2 (envV ps ws (costV ps ws l c)) 0 < Fr.at1 (envV ps ws (costV ps ws l c)) 0 * Fr.at2 (envV ps ws l) 0) = false := by
  have h0 := h
  simp only [costB, Bool.and_eq_true] at h
  have hp := paysB_t h.1
  have hq : paysB ps ws (costL ps l c) = true := pays_both hp.2.1 h.2.2
  rw [costV_yes h0]
  obtain ⟨e1, e2, e3, e4⟩ := env_at h.1
  obtain ⟨f1, f2, f3, f4⟩ := env_at hq
  rw [e1, e2, f1, f2]
  exact ⟨h.1, hq, ⟨e3, e4⟩, ⟨f3, f4⟩, frac_cmp hp.1 (cap_abs h.1) (cap_abs hq) (cost_cap h0)⟩
end Go.Proofs.YtnbomleieianoaaGreat

/- Plain law: the earlier and the later one of two stoppings are stoppings, and have together what both have. Nothing of the program. -/
namespace Go.Proofs.YtnbomleieianoaaGreat

theorem firsts_stop2 {ps : List Int} (hp : Pa ps) {S : Int → Bool} (hS : ∀ x : Nat, x < ps.length → endB ps x = true → 0 ≤ stop ps S x) : stopB ps (firsts ps S) = true := by
  have h1 : risB (firsts ps S) = true := asc_ris (filt_asc _ _)
  rw [← rule_stop hp, ruleB, h1]
  have h2 : allIn (firsts ps S) 0 ((ps.length : Int) - 1) = true := all_t fun i hi => by
    obtain ⟨j, h1, _, h3⟩ := nth_filt hi
    rw [firsts] at *
    rw [h3]
    exact inB_mk (by omega) (by omega)
  have h3 : ((List.range (ends ps).length).all fun i => decide (0 ≤ stop ps (hasB (firsts ps S)) (nth (ends ps) i).toNat)) = true := all_t fun i hi => by
    obtain ⟨e, h1, h2, h3⟩ := end_nth hi
    rw [h3, Int.toNat_natCast, stop_firsts hp S h1]
    exact decide_eq_true (hS e h1 h2)
  have h4 : ((List.range (firsts ps S).length).all fun i => stop ps (hasB (firsts ps S)) (nth (firsts ps S) i).toNat == nth (firsts ps S) i) = true := all_t fun i hi => by
    obtain ⟨j, h1, h2, h3⟩ := nth_filt hi
    have h3' : nth (firsts ps S) i = (j : Int) := h3
    rw [h3', Int.toNat_natCast, stop_firsts hp S h1]
    exact h2
  rw [h2, h3, h4]; rfl
/-- Stops of the one or the other. -/
def orS (S T : Int → Bool) (y : Int) : Bool := S y || T y
/-- Stops of the one behind those of the other. -/
def andS (ps : List Int) (S T : Int → Bool) (y : Int) : Bool := (S y && decide (0 ≤ stop ps T y.toNat)) || (T y && decide (0 ≤ stop ps S y.toNat))
def minI (s t : Int) : Int := if s < 0 then t else if t < 0 then s else min s t
def maxI (s t : Int) : Int := if s < 0 then -1 else if t < 0 then -1 else max s t
theorem minI_pos {s t : Int} (h : 0 ≤ s) (h2 : 0 ≤ t) : minI s t = min s t := by rw [minI, if_neg (by omega), if_neg (by omega)]
theorem maxI_pos {s t : Int} (h : 0 ≤ s) (h2 : 0 ≤ t) : maxI s t = max s t := by rw [maxI, if_neg (by omega), if_neg (by omega)]
theorem stop_or {ps : List Int} (h : Pa ps) (S T : Int → Bool) : ∀ x, x < ps.length → stop ps (orS S T) x = minI (stop ps S x) (stop ps T x) := by
  refine h.above ?_ ?_
  · rw [stop_zero, stop_zero, stop_zero, orS]
    cases S 0 <;> cases T 0 <;> rfl
  · intro x h1 h2 ih
    have hpar := (h.upN h1 h2).2
    have l1 := stop_low h S (par ps x) (by omega)
    have l2 := stop_low h T (par ps x) (by omega)
    rw [stop_up h _ h1 h2, stop_up h S h1 h2, stop_up h T h1 h2, ih, orS]
    generalize stop ps S (par ps x) = s at *
    generalize stop ps T (par ps x) = t at *
    unfold minI
    cases S (x : Int) <;> cases T (x : Int) <;> simp only [Bool.or_true, Bool.or_false, Bool.false_eq_true, if_true, if_false] <;> (repeat' split) <;> omega
theorem stop_and {ps : List Int} (h : Pa ps) (S T : Int → Bool) : ∀ x, x < ps.length → stop ps (andS ps S T) x = maxI (stop ps S x) (stop ps T x) := by
  refine h.above ?_ ?_
  · have e1 := stop_zero ps S
    have e2 := stop_zero ps T
    rw [stop_zero, andS, Int.toNat_zero, e1, e2]
    cases S 0 <;> cases T 0 <;> rfl
  · intro x h1 h2 ih
    have hpar := (h.upN h1 h2).2
    have l1 := stop_low h S (par ps x) (by omega)
    have l2 := stop_low h T (par ps x) (by omega)
    have e1 := stop_up h S h1 h2
    have e2 := stop_up h T h1 h2
    rw [stop_up h _ h1 h2, ih, andS, Int.toNat_natCast, e1, e2]
    generalize stop ps S (par ps x) = s at *
    generalize stop ps T (par ps x) = t at *
    clear e1 e2 ih
    unfold maxI
    cases S (x : Int) <;> cases T (x : Int) <;> simp only [Bool.true_and, Bool.false_and, Bool.or_false, Bool.false_or, Bool.false_eq_true, if_true, if_false, Bool.or_eq_true, decide_eq_true_eq] <;> (repeat' split) <;> omega
theorem merge_early {ps a b : List Int} (hp : Pa ps) (ha : stopB ps a = true) (hb : stopB ps b = true) : mergeV ps a b true = firsts ps (orS (hasB a) (hasB b)) := filt_congr fun y hy => by
  rw [← isStop_ends hp _ hy, mergeP, isStop, Bool.eq_iff_iff, List.any_eq_true, List.any_eq_true]
  have key : ∀ e, e ∈ ends ps → pickI true (stop ps (hasB a) e.toNat) (stop ps (hasB b) e.toNat) = stop ps (orS (hasB a) (hasB b)) e.toNat := fun e he => by
    obtain ⟨i, hi, hie, rfl⟩ := mem_filt.1 he
    rw [Int.toNat_natCast, stop_or hp _ _ i hi]
    have h1 := of_decide_eq_true (rule_end hp ha hi hie)
    have h2 := of_decide_eq_true (rule_end hp hb hi hie)
    rw [minI_pos h1 h2, pick_t]
    by_cases h3 : stop ps (hasB b) i < stop ps (hasB a) i
    · rw [if_pos h3]; omega
    · rw [if_neg h3]; omega
  constructor
  · rintro ⟨e, he, h⟩; exact ⟨e, he, by rw [← key e he]; exact h⟩
  · rintro ⟨e, he, h⟩; exact ⟨e, he, by rw [key e he]; exact h⟩
theorem merge_late {ps a b : List Int} (hp : Pa ps) (ha : stopB ps a = true) (hb : stopB ps b = true) : mergeV ps a b false = firsts ps (andS ps (hasB a) (hasB b)) := filt_congr fun y hy => by
  rw [← isStop_ends hp _ hy, mergeP, isStop, Bool.eq_iff_iff, List.any_eq_true, List.any_eq_true]
  have key : ∀ e, e ∈ ends ps → pickI false (stop ps (hasB a) e.toNat) (stop ps (hasB b) e.toNat) = stop ps (andS ps (hasB a) (hasB b)) e.toNat := fun e he => by
    obtain ⟨i, hi, hie, rfl⟩ := mem_filt.1 he
    rw [Int.toNat_natCast, stop_and hp _ _ i hi]
    have h1 := of_decide_eq_true (rule_end hp ha hi hie)
    have h2 := of_decide_eq_true (rule_end hp hb hi hie)
    rw [maxI_pos h1 h2, pick_f]
    by_cases h3 : stop ps (hasB a) i ≤ stop ps (hasB b) i
    · rw [if_pos h3]; omega
    · rw [if_neg h3]; omega
  constructor
  · rintro ⟨e, he, h⟩; exact ⟨e, he, by rw [← key e he]; exact h⟩
  · rintro ⟨e, he, h⟩; exact ⟨e, he, by rw [key e he]; exact h⟩
theorem both_end {ps a b : List Int} (hp : Pa ps) (ha : stopB ps a = true) (hb : stopB ps b = true) {x : Nat} (hx : x < ps.length) (he : endB ps x = true) :
    0 ≤ stop ps (hasB a) x ∧ 0 ≤ stop ps (hasB b) x := ⟨of_decide_eq_true (rule_end hp ha hx he), of_decide_eq_true (rule_end hp hb hx he)⟩
theorem early_stop {ps a b : List Int} (hp : Pa ps) (ha : stopB ps a = true) (hb : stopB ps b = true) : stopB ps (mergeV ps a b true) = true := by
  rw [merge_early hp ha hb]
  refine firsts_stop2 hp fun x hx he => ?_
  have := both_end hp ha hb hx he
  rw [stop_or hp _ _ x hx, minI, if_neg (by omega), if_neg (by omega)]; omega
theorem late_stop2 {ps a b : List Int} (hp : Pa ps) (ha : stopB ps a = true) (hb : stopB ps b = true) : stopB ps (mergeV ps a b false) = true := by
  rw [merge_late hp ha hb]
  refine firsts_stop2 hp fun x hx he => ?_
  have := both_end hp ha hb hx he
  rw [stop_and hp _ _ x hx, maxI, if_neg (by omega), if_neg (by omega)]; omega
theorem early_late {ps a b : List Int} (hp : Pa ps) (ha : stopB ps a = true) (hb : stopB ps b = true) : noLaterB ps (mergeV ps a b true) (mergeV ps a b false) = true := by
  rw [merge_early hp ha hb, merge_late hp ha hb]
  refine all_t fun i hi => ?_
  obtain ⟨e, h3, h4, h5⟩ := end_nth hi
  have := both_end hp ha hb h3 h4
  rw [h5, Int.toNat_natCast, stop_firsts hp _ h3, stop_firsts hp _ h3, stop_or hp _ _ e h3, stop_and hp _ _ e h3, minI_pos this.1 this.2, maxI_pos this.1 this.2]
  exact decide_eq_true (by omega)
/-- What two stoppings have together, the earlier and the later one of both have together. -/
theorem two_sum {ps : List Int} (hp : Pa ps) (S T : Int → Bool) (f : Nat → Int) : stS ps (orS S T) f + stS ps (andS ps S T) f = stS ps S f + stS ps T f := by
  unfold stS
  rw [← sumR_add, ← sumR_add]
  refine sumR_congr fun x hx => ?_
  have l1 := stop_low hp S x hx
  have l2 := stop_low hp T x hx
  unfold atF firB
  rw [stop_or hp S T x hx, stop_and hp S T x hx]
  generalize stop ps S x = s at *
  generalize stop ps T x = t at *
  unfold minI maxI
  simp only [beq_iff_eq]
  (repeat' split) <;> omega
theorem merge_sum {ps ws l a b : List Int} (hp : Pa ps) (ha : stopB ps a = true) (hb : stopB ps b = true) : rmS ps ws l (mergeV ps a b true) + rmS ps ws l (mergeV ps a b false) = rmS ps ws l a + rmS ps ws l b := by
  rw [merge_early hp ha hb, merge_late hp ha hb, rm_firsts, rm_firsts, rm_rule hp ha, rm_rule hp hb]
  exact two_sum hp _ _ _
end Go.Proofs.YtnbomleieianoaaGreat

/- Plain law behind FnStoppedMeans: what the law compares. No conditions but those stated. -/
namespace Go.Proofs.YtnbomleieianoaaGreat

theorem rm_abs2 {ps ws l rule : List Int} (h : rmB ps ws l rule = true) : -11508480 ≤ rmS ps ws l rule ∧ rmS ps ws l rule ≤ 11508480 := by
  simp only [rmB, Bool.and_eq_true] at h
  obtain ⟨hp, hs⟩ := h
  have hT := (paysB_t hp).1
  have h1 := mS_bd (rule := rule) hT (paysB_t hp).2.2.2.2 rule.length
  have h2 := (stop_len hs).1
  have h3 := hT.n24
  unfold rmS
  omega
theorem rmB_t {ps ws l rule : List Int} (h : rmB ps ws l rule = true) : paysB ps ws l = true ∧ stopB ps rule = true := by rw [rmB, Bool.and_eq_true] at h; exact h
theorem sm_fair {ps ws l rule : List Int} (h : rmB ps ws l rule = true) (hb : balB ps ws l = true) : rmN ps ws l rule = nth l 0 ∧ rmD ps ws l rule = 1 := by
  have hT := (paysB_t (rmB_t h).1).1
  rw [(rm_yes h).1, (rm_yes h).2, stop_fair hT (rmB_t h).2 hb]
  exact nm_whole _ (s0_pos hT)
theorem sm_fall {ps ws l rule : List Int} (h : rmB ps ws l rule = true) (hb : fallB ps ws l = true) : decide (nth l 0 * rmD ps ws l rule < rmN ps ws l rule * 1) = false := by
  have hT := (paysB_t (rmB_t h).1).1
  have hs := s0_pos hT
  have h1 := stop_fall hT (rmB_t h).2 hb
  have hn := nm_whole (nth l 0) hs
  have h2 := cut_lt (nth (sums ps ws) 0 * nth l 0) (rmS ps ws l rule) hs
  rw [hn.1, hn.2] at h2
  rw [(rm_yes h).1, (rm_yes h).2]
  exact decide_eq_false fun hlt => by have := h2.1 hlt; omega
theorem sm_bd {ps ws l rule : List Int} (h : rmB ps ws l rule = true) : (-11508480 ≤ rmN ps ws l rule ∧ rmN ps ws l rule ≤ 11508480) ∧ (1 ≤ rmD ps ws l rule ∧ rmD ps ws l rule ≤ 480) ∧ (-480000 ≤ nth l 0 * rmD ps ws l rule ∧ nth l 0 * rmD ps ws l rule ≤ 480000) := by
  have hT := (paysB_t (rmB_t h).1).1
  have hl := (paysB_t (rmB_t h).1).2.2.2.2 0
  have hs := s0_pos hT
  have hs2 := (sums_bd hT 0).2
  have ha := rm_abs2 h
  rw [(rm_yes h).1, (rm_yes h).2]
  obtain ⟨g, hg, h1, h2⟩ := cut_parts (rmS ps ws l rule) hs
  have hd := dn_pos (rmS ps ws l rule) (nth (sums ps ws) 0) (by omega)
  generalize nm (rmS ps ws l rule) (nth (sums ps ws) 0) = x at *
  generalize dn (rmS ps ws l rule) (nth (sums ps ws) 0) = y at *
  generalize nth (sums ps ws) 0 = s at *
  have e1 : y ≤ s := by
    have := Int.mul_le_mul_of_nonneg_right (show (1 : Int) ≤ g by omega) (show 0 ≤ y by omega)
    omega
  refine ⟨?_, by omega, ?_⟩
  · rcases Int.le_total 0 x with hx | hx
    · have := Int.mul_le_mul_of_nonneg_right (show (1 : Int) ≤ g by omega) hx
      omega
    · have := Int.mul_le_mul_of_nonpos_right (show (1 : Int) ≤ g by omega) hx
      omega
  · have := mul_abs (B := 1000) (U := 480) (x := nth l 0) (u := y) (by omega) (by omega) (by omega)
    omega
/-- The pays at the ends of the stopped process. -/
def smP (held es : List Int) : List Int := es.map fun e => nth held e.toNat
theorem smP_length (held es : List Int) : (smP held es).length = es.length := by simp [smP]
theorem smP_take (held es : List Int) {k : Nat} (h : k < es.length) : smP held (es.take (k + 1)) = smP held (es.take k) ++ [nth held (nth es k).toNat] := by
  rw [smP, take_succ_nth h, List.map_append]; rfl
theorem nth_smP {held es : List Int} {k : Nat} (h : k < es.length) : nth (smP held es) k = nth held (nth es k).toNat := by
  rw [nth_lt (by rw [smP_length]; exact h), nth_lt h]; simp [smP]
theorem sm_pays {ps ws l rule : List Int} (h : rmB ps ws l rule = true) : epB ps ws (smP (heldL ps rule l) (ends ps)) = true ∧ (mofV ps ws (smP (heldL ps rule l) (ends ps))).length = ps.length ∧ Fr.at1 (mofV ps ws (smP (heldL ps rule l) (ends ps))) 0 = rmN ps ws l rule ∧ Fr.at2 (mofV ps ws (smP (heldL ps rule l) (ends ps))) 0 = rmD ps ws l rule := by
  have hp := paysB_t (rmB_t h).1
  have hT := hp.1
  have hen : ∀ k, k < (ends ps).length → ∃ e : Nat, e < ps.length ∧ endB ps e = true ∧ nth (ends ps) k = (e : Int) := fun k hk => by
    obtain ⟨e, h1, h2, h3⟩ := end_nth hk
    exact ⟨e, h1, h2, h3⟩
  have hep : epB ps ws (smP (heldL ps rule l) (ends ps)) = true := by
    refine ep_yes hp.2.1 (smP_length _ _) (all_t fun i hi => ?_)
    rw [smP_length] at hi
    obtain ⟨e, h1, _, h3⟩ := hen i hi
    have := held_bd (ps := ps) (rule := rule) hp.2.2.2.2 e
    rw [nth_smP hi, h3, Int.toNat_natCast, nth_heldL h1]
    exact inB_mk this.1 this.2
  have hn1 := hT.n1
  have htot : nth (totA ps ws (eV ps (smP (heldL ps rule l) (ends ps)))) 0 = rmS ps ws l rule := by
    rw [totA_en, ← held_mean hT (rmB_t h).2, enG_root hT.toPa, enG_root hT.toPa]
    refine sumOf_congr fun e he => ?_
    obtain ⟨k, hk, hke⟩ := List.getElem_of_mem he
    obtain ⟨x, h1, h2, h3⟩ := hen k hk
    have hx : e = (x : Int) := by rw [← hke, ← nth_lt hk]; exact h3
    subst hx
    rw [Int.toNat_natCast, ← eV_at hk h3, nth_smP hk, h3, Int.toNat_natCast, nth_heldL h1]
  rw [mofV_yes hep]
  refine ⟨hep, by simp [meanL], ?_, ?_⟩
  · rw [(meanL_at (by omega)).1, htot, (rm_yes h).1]
  · rw [(meanL_at (by omega)).2, htot, (rm_yes h).2]
theorem sm_last {ps ws l rule : List Int} (h : rmB ps ws l rule = true) (hb : fallB ps ws l = true) : rmB ps ws l (ends ps) = true ∧ (-4611686018427387904 ≤ rmN ps ws l rule * rmD ps ws l (ends ps) ∧ rmN ps ws l rule * rmD ps ws l (ends ps) ≤ 4611686018427387904) ∧ (-4611686018427387904 ≤ rmN ps ws l (ends ps) * rmD ps ws l rule ∧ rmN ps ws l (ends ps) * rmD ps ws l rule ≤ 4611686018427387904) ∧ decide (rmN ps ws l rule * rmD ps ws l (ends ps) < rmN ps ws l (ends ps) * rmD ps ws l rule) = false := by
  have hp := (rmB_t h).1
  have hT := (paysB_t hp).1
  have he : rmB ps ws l (ends ps) = true := rmB_yes hp (ends_stop hT.toPa)
  rw [(rm_yes h).1, (rm_yes h).2, (rm_yes he).1, (rm_yes he).2]
  exact ⟨he, frac_cmp hT (rm_abs2 h) (rm_abs2 he) (ends_least hT (rmB_t h).2 hb)⟩
theorem sm_held {ps ws l rule : List Int} (h : rmB ps ws l rule = true) (hb : balB ps ws l = true) : balV ps ws (heldL ps rule l) = true := by
  have hp := paysB_t (rmB_t h).1
  have hq : paysB ps ws (heldL ps rule l) = true := by
    refine pays_both hp.2.1 ?_
    rw [procB, heldL_length]
    simp only [beq_self_eq_true, Bool.true_and]
    refine all_t fun i hi => ?_
    rw [heldL_length] at hi
    have := held_bd (ps := ps) (rule := rule) hp.2.2.2.2 i
    rw [nth_heldL hi]
    exact inB_mk this.1 this.2
  rw [balV_yes hq]
  exact held_fair hp.1 hb
/-- Two stoppings merged. -/
theorem sm_two {ps ws a b : List Int} (h : twoB ps ws a b = true) : treeB ps ws = true ∧ isRuleV ps ws (erlV ps ws a b true) = true ∧ isRuleV ps ws (erlV ps ws a b false) = true ∧ noLV ps ws (erlV ps ws a b true) (erlV ps ws a b false) = true ∧ twoB ps ws (erlV ps ws a b true) (erlV ps ws a b false) = true := by
  have h0 := h
  rw [twoB, Bool.and_eq_true, Bool.and_eq_true] at h0
  obtain ⟨ht, ha, hb⟩ := h0
  have hp := (treeB_t ht).toPa
  have e1 : erlV ps ws a b true = mergeV ps a b true := by rw [erlV, h]; rfl
  have e2 : erlV ps ws a b false = mergeV ps a b false := by rw [erlV, h]; rfl
  rw [e1, e2]
  have s1 := early_stop hp ha hb
  have s2 := late_stop2 hp ha hb
  have h2 : twoB ps ws (mergeV ps a b true) (mergeV ps a b false) = true := by rw [twoB, ht, s1, s2]; rfl
  exact ⟨ht, by rw [isRule_yes ht]; exact s1, by rw [isRule_yes ht]; exact s2, by rw [noLV, h2, early_late hp ha hb]; rfl, h2⟩
theorem spV_len (ps ws l rule : List Int) : (spV ps ws l rule).length ≤ 1048576 := by
  cases h : rmB ps ws l rule
  · rw [spV_no h]; simp
  · rw [spV_yes h, heldL_length]; have := (paysB_t (rmB_t h).1).1.n24; omega
theorem erlV_length (ps ws a b : List Int) (e : Bool) : (erlV ps ws a b e).length ≤ 1048576 := by
  cases h : twoB ps ws a b
  · rw [erlV, h]; simp
  · have h0 := h
    rw [twoB, Bool.and_eq_true, Bool.and_eq_true] at h0
    have hT := treeB_t h0.1
    have hs := sm_two h
    have h24 := hT.n24
    cases e
    · have := hs.2.2.1; rw [isRule_yes hs.1] at this; have := (stop_len this).1; omega
    · have := hs.2.1; rw [isRule_yes hs.1] at this; have := (stop_len this).1; omega
end Go.Proofs.YtnbomleieianoaaGreat

/- Contract: the stopped process, by the reference. -/
namespace Go.Proofs.YtnbomleieianoaaGreat
open Go.RowKit

set_option maxRecDepth 100000 in
set_option maxHeartbeats 2000000 in
theorem spec_StoppedProcess (aP : Option Addr) (nP cP : Nat) (aW : Option Addr) (nW cW : Nat) (ps ws : List Int) (aL : Option Addr) (nL cL : Nat) (l : List Int) (aS : Option Addr) (nS cS : Nat) (rule : List Int) (w : World) (h : Tre w aP nP cP aW nW cW ps ws) (hL : Ints w aL nL l) (hLc : aL = none → cL = 0) (hn : nL ≤ 1048576) (hS : Ints w aS nS rule) (_hSc : aS = none → cS = 0) (hnS : nS ≤ 1048576) :
    Calls Tryz.prog 11 #[.agg #[.slice aP nP cP, .slice aW nW cW], .slice aL nL cL, .slice aS nS cS] w fun e w' => ∃ v, e = .returned (.tuple #[v, .bool (rmB ps ws l rule)]) ∧ Own w' w.heap.size v (spV ps ws l rule) ∧ Below w.heap.size w w' := by
  have HS := Lib.hid hS
  have hSl := Lib.hid hS.1
  clear hS
  have hl := h.p.1
  have hlw := h.w.1
  have hpn := h.pn
  have hwn := h.wn
  have hb1 := below_new w (.cells #[.slice aP nP cP, .slice aW nW cW] 26)
  have hP1 := Lib.hid (Pair.new w (.slice aP nP cP) (.slice aW nW cW) 26)
  have H := Lib.hid h
  have Hl := Lib.hid hl
  have Hlw := Lib.hid hlw
  clear h hl hlw
  have HL := Lib.hid hL
  have hll := Lib.hid hL.1
  clear hL
  have hlt2 := hP1.out.lt
  go_enter Tryz.func11, Tryz.ntmps11
  have c0 := hP1.out.c0
  have c1 := hP1.out.c1
  go_wp2_with fail
  generalize (w.alloc (.cells #[.slice aP nP cP, .slice aW nW cW] 26)) = w2 at *
  refine (spec_l3Both _ _ _ _ _ _ ps ws _ _ _ l _ _ _ rule _ (H.out.below hb1) (HL.out.below hb1) hn (HS.out.below hb1) hnS).mono ?_
  rintro e w3 ⟨he, hb3⟩
  rw [show (paysB ps ws l && stopB ps rule) = rmB ps ws l rule from rfl] at he
  subst he
  have hP3 := hP1.out.below hb3
  have d0 := hP3.c0
  have d1 := hP3.c1
  have HP3 := Lib.hid hP3
  have hb13 := hb1.trans (hb3.mono hb1.size)
  clear hP3 hb3 c0 c1 hP1 hb1
  cases hT : rmB ps ws l rule
  · have Hno := Lib.hid hT
    clear hT
    go_wp2_with fail
    go_ret2
    exact ⟨_, by rw [Hno.out]; rfl, by rw [spV_no Hno.out]; exact (own_nil0 w3).mono hb13.size, hb13.alloc hb13.size _⟩
  obtain ⟨hT1, hT2⟩ : paysB ps ws l = true ∧ stopB ps rule = true := by rw [rmB, Bool.and_eq_true] at hT; exact hT
  have hpt := paysB_t hT1
  have hTr := hpt.1
  have hn24 := hTr.n24
  have hn1 := hTr.n1
  have hnL : nP = nL := by have := hll.out; have := hpt.2.2.2.1; have := Hl.out; omega
  have hnP : 1 ≤ nP ∧ nP ≤ 24 := by have := Hl.out; omega
  have HT := Lib.hid hTr
  have Hgb := Lib.hid hT
  have Hllp := Lib.hid hpt.2.2.2.1
  have Hris : Hid (risB rule = true) := Lib.hid (by rw [stopB, Bool.and_eq_true, Bool.and_eq_true] at hT2; exact hT2.1.1)
  clear hT hT1 hT2 hpt hn24 hn1 hTr hpn hwn
  subst hnL
  go_wp2_with fail
  refine (spec_l1Own _ _ _ l _ (by omega) hLc (HL.out.below hb13)).mono ?_
  rintro e w6 ⟨v6, rfl, o6, b6⟩
  obtain ⟨g, c8, rfl, hg1, hg2⟩ := o6.form (by have := hll.out; omega)
  rw [hll.out] at o6 ⊢
  have hB : w.heap.size + 1 ≤ w3.heap.size := HP3.out.lt
  have HO := Lib.hid (o6.mono hB)
  have HP6 := Lib.hid (HP3.out.below b6)
  have hb16 := Lib.hid (hb13.trans (b6.mono hb13.size))
  have Hm0 := Lib.hid (mixL_zero (rule := rule) Hllp.out)
  have hgB : w.heap.size + 1 ≤ g := by omega
  clear o6 b6 hb13 HP3 d0 d1 hg1 hg2 hlt2
  obtain ⟨wo, hwo⟩ : ∃ z, z = w6 := ⟨_, rfl⟩
  rw [← hwo] at HO HP6 hb16 ⊢
  clear hwo
  go_wp2_with fail
  go_loopw [9] (fun v9 wr => ∃ x : Nat, x ≤ nP ∧ v9 = .int .i64 (x : Int) ∧ Own wr (w.heap.size + 1) (.slice (some ⟨g, 0, none⟩) nP c8) (mixL ps rule l x) ∧ Pair wr w.heap.size (.slice aP nP cP) (.slice aW nW cW) ∧ Below w.heap.size w wr) (fun v9 _ => nP - (intOf v9).toNat)
  case atStart => exact ⟨0, Nat.zero_le _, rfl, by rw [Hm0.out]; exact HO.out, HP6.out, hb16.out⟩
  case round =>
    clear HO HP6 hb16
    obtain ⟨x, hx, rfl, ho, hP, hbel⟩ := hrel
    obtain ⟨wq, rfl⟩ : ∃ z, z = wr := ⟨_, rfl⟩
    by_cases hlt : (x : Int) < nP
    · have hxp : x < ps.length := by have := Hl.out; omega
      have c0 := hP.c0
      have c1 := hP.c1
      have HO := Lib.hid ho
      have HP := Lib.hid hP
      have HB := Lib.hid hbel
      clear ho hP hbel
      go_wp2_with fail
      refine (spec_l3On _ _ _ _ _ _ ps ws _ _ _ rule x _ (H.out.below HB.out) HT.out.toPa (HS.out.below HB.out) hnS (by omega)).mono ?_
      rintro e w7 ⟨v7, rfl, o7, b7⟩
      rw [on_eq HT.out.toPa Hris.out hxp] at o7
      have hh := on_head HT.out.toPa rule hxp
      obtain ⟨a7, c7, rfl⟩ := o7.shape
      obtain ⟨m, hm⟩ : ∃ z, z = (onR ps rule x).length := ⟨_, rfl⟩
      rw [← hm] at o7 hh ⊢
      have HO7 := Lib.hid (HO.out.below b7)
      have HP7 := Lib.hid (HP.out.below b7)
      have hb7 := HB.out.trans (b7.mono HB.out.size)
      have hml := mixL_length ps rule l x
      rw [Hl.out] at hml
      by_cases hk : 0 < m
      · have hbe : behB ps (hasB rule) x = true := by rw [hh.1, decide_eq_true hk]
        have hst := hh.2 hk
        have hsl := stop_low HT.out.toPa (hasB rule) x hxp
        have hs0 : 0 ≤ stop ps (hasB rule) x := of_decide_eq_true hbe
        obtain ⟨j, hj⟩ : ∃ j : Nat, stop ps (hasB rule) x = (j : Int) := ⟨(stop ps (hasB rule) x).toNat, by omega⟩
        have hjn : j < nP := by omega
        have hhe : heldN ps rule l x = nth l j := by unfold heldN; rw [hbe, if_pos rfl, hj, Int.toNat_natCast]
        rw [hj] at hst
        obtain ⟨b1, o1, rfl, hc1⟩ := o7.ints.at (i := 0) (Below.refl _ _) hk
        rw [hst, Nat.add_zero] at hc1
        obtain ⟨b2, o2, rfl, hc2⟩ := HL.out.at (i := j) hb7 hjn
        have hms := mixL_set (rule := rule) (l := l) hxp
        rw [hhe] at hms
        have Hms := Lib.hid hms
        have d2 := HO7.out.cell (i := x) (by rw [hml]; omega)
        have f2 := HO7.out.free (by rw [hml]) x
        have k1 : (0 : Int) ≤ (j : Int) := by omega
        have k2 : (j : Int) < (nP : Int) := by omega
        have k3 : (0 : Int) ≤ (x : Int) := by omega
        have k4 : (m : Int) > 0 := by omega
        clear hh hst hsl hs0 hbe hj hhe hms o7 b7
        generalize hu : nth l j = u at *
        clear hu
        go_wp2_with fail
        go_roundw
        case rel => exact ⟨x + 1, by omega, by go_num, by rw [← Hms.out]; exact HO7.out.set (by rw [hml]) x u, HP7.out.far (by omega) _, hb7.setCell (show w.heap.size ≤ g by omega) _⟩
        case measure => simp [intOf]; omega
      · have hbe : behB ps (hasB rule) x = false := by rw [hh.1, decide_eq_false hk]
        have hhe : heldN ps rule l x = nth l x := by unfold heldN; rw [hbe]; rfl
        have Hms := Lib.hid (mixL_same (rule := rule) (l := l) hxp hhe)
        clear hh hbe hhe o7 b7 hm
        obtain rfl : m = 0 := by omega
        clear hk
        go_wp2_with fail
        go_roundw
        case rel => exact ⟨x + 1, by omega, by go_num, by rw [Hms.out]; exact HO7.out, HP7.out, hb7⟩
        case measure => simp [intOf]; omega
    · obtain rfl : x = nP := by omega
      go_wp2_with fail
      go_ret2
      exact ⟨_, by rw [Hgb.out]; rfl, by rw [spV_yes Hgb.out, ← mixL_all, Hl.out]; exact ho.mono (Nat.le_succ _), hbel⟩
end Go.Proofs.YtnbomleieianoaaGreat

/- Contract: the stopped process, by the program. -/
namespace Go.Proofs.YtnbomleieianoaaGreat
open Go.RowKit

theorem beL_put {ps : List Int} {S : Int → Bool} {n k : Nat} (h : k < n) : beL ps S n (k + 1) = (beL ps S n k).set k (behB ps S k) := by
  cases hb : behB ps S k
  · rw [beL_f hb]
    refine Bo.ext_nth (by simp [beL]) fun j hj => ?_
    rw [beL_length] at hj
    rw [Bo.nth_set (by rw [beL_length]; exact h)]
    by_cases e : k = j
    · subst e; rw [if_pos rfl, beL, Bo.nth_map_range h]; simp
    · rw [if_neg e]
  · exact beL_t h hb
theorem set_set_bool (xs : List Bool) (k : Nat) (a b : Bool) : (xs.set k a).set k b = xs.set k b := by simp
/-- A list and as many falses, just made, apart from each other. -/
def TwoC (u wc : World) (n : Nat) (l : List Int) (v8 v9 : Value) : Prop :=
  KeepR u wc ∧ ∃ (g8 c8 g9 : Nat), v8 = .slice (some ⟨g8, 0, none⟩) n c8 ∧ v9 = .slice (some ⟨g9, 0, none⟩) n n ∧ Own wc u.heap.size v8 l ∧ Bo.Own wc u.heap.size v9 (List.replicate n false) ∧ g8 ≠ g9
theorem twoC_mk {u wc : World} {n : Nat} {l : List Int} {v8 : Value} {b8 b9 g9 : Nat} (hk : KeepR u wc) (hl : l.length = n) (hn : 0 < n) (h8 : Own wc b8 v8 l) (h9 : Bo.Own wc b9 (.slice (some ⟨g9, 0, none⟩) n n) (List.replicate n false)) (hb8 : u.heap.size ≤ b8) (hb9 : u.heap.size ≤ b9) (hne : ∀ g, v8.ownBlock = some g → g ≠ g9) : TwoC u wc n l v8 (.slice (some ⟨g9, 0, none⟩) n n) := by
  obtain ⟨g, c, rfl, _, _⟩ := h8.form (by omega)
  exact ⟨hk, g, c, g9, by rw [hl], rfl, h8.mono hb8, h9.mono hb9, hne g rfl⟩
set_option maxRecDepth 100000 in
set_option maxHeartbeats 4000000 in
theorem impl_StoppedProcess (aP : Option Addr) (nP cP : Nat) (aW : Option Addr) (nW cW : Nat) (ps ws : List Int) (aL : Option Addr) (nL cL : Nat) (l : List Int) (aS : Option Addr) (nS cS : Nat) (rule : List Int) (w : World) (h : Tre w aP nP cP aW nW cW ps ws) (hL : Ints w aL nL l) (hLc : aL = none → cL = 0) (hn : nL ≤ 1048576) (hS : Ints w aS nS rule) (_hSc : aS = none → cS = 0) (hnS : nS ≤ 1048576) :
    Calls Tryz.prog 10 #[.agg #[.slice aP nP cP, .slice aW nW cW], .slice aL nL cL, .slice aS nS cS] w fun e w' => ∃ v, e = .returned (.tuple #[v, .bool (rmB ps ws l rule)]) ∧ Own w' w.heap.size v (spV ps ws l rule) ∧ Below w.heap.size w w' := by
  have HS := Lib.hid hS
  clear hS
  have hl := h.p.1
  have hlw := h.w.1
  have hpn := h.pn
  have hwn := h.wn
  have hb1 := below_new w (.cells #[.slice aP nP cP, .slice aW nW cW] 26)
  have hP1 := Lib.hid (Pair.new w (.slice aP nP cP) (.slice aW nW cW) 26)
  have H := Lib.hid h
  have Hl := Lib.hid hl
  have Hlw := Lib.hid hlw
  clear h hl hlw
  have HL := Lib.hid hL
  have hll := Lib.hid hL.1
  clear hL
  have hlt2 := hP1.out.lt
  go_enter Tryz.func10, Tryz.ntmps10
  have c0 := hP1.out.c0
  have c1 := hP1.out.c1
  go_wp2_with fail
  generalize (w.alloc (.cells #[.slice aP nP cP, .slice aW nW cW] 26)) = w2 at *
  refine (impl_IsTree _ _ _ _ _ _ ps ws _ (H.out.below hb1)).mono ?_
  rintro e w3 ⟨rfl, hb3⟩
  have hP3 := hP1.out.below hb3
  have d0 := hP3.c0
  have d1 := hP3.c1
  have HP3 := Lib.hid hP3
  have hb13 := hb1.trans (hb3.mono hb1.size)
  clear hP3 c0 c1 hb3
  cases hT : treeB ps ws
  · have Hv := Lib.hid (pays_no1 (l := l) hT)
    clear hT
    go_wp2_with fail
    go_ret2
    exact ⟨_, by rw [rmB_no1 Hv.out]; rfl, by rw [spV_no (rmB_no1 Hv.out)]; exact Own.nil _ _, hb13⟩
  have HT := Lib.hid hT
  clear hT
  go_wp2_with fail
  refine (impl_isProcess _ _ _ _ _ _ ps ws _ _ _ l _ (H.out.below hb13) (HL.out.below hb13) hn).mono ?_
  rintro e w4 ⟨rfl, hb4⟩
  have hb14 := hb13.trans (hb4.mono hb13.size)
  have hP4 := HP3.out.below hb4
  have e0 := hP4.c0
  have e1 := hP4.c1
  have HP4 := Lib.hid hP4
  clear d0 d1 hP4 hb4
  cases hp : procB ps.length l
  · have Hv := Lib.hid (pays_no2 (ws := ws) hp)
    clear hp
    go_wp2_with fail
    go_ret2
    exact ⟨_, by rw [rmB_no1 Hv.out]; rfl, by rw [spV_no (rmB_no1 Hv.out)]; exact Own.nil _ _, hb14⟩
  have Hpays := Lib.hid (pays_both HT.out hp)
  have hpp := procB_t hp
  have hTr := treeB_t HT.out
  have hn24 := hTr.n24
  have hn1 := hTr.n1
  have hnL : nP = nL := by have := hll.out; have := hpp.1; have := Hl.out; omega
  have hnW : nP = nW := by have := Hlw.out; have := hTr.wl; have := Hl.out; omega
  have hnP : 1 ≤ nP ∧ nP ≤ 24 := by have := Hl.out; omega
  have Hpp := Lib.hid hpp
  have HTr := Lib.hid hTr
  have HnW := Lib.hid hnW
  have hnW2 : nP ≤ nW := by omega
  clear hp hpp hn24 hn1 hTr hpn hwn hnW
  subst hnL
  go_wp2_with fail
  refine (impl_isStopping _ _ _ _ _ _ ps ws _ _ _ rule _ (H.out.below hb14) HTr.out.toPa (HS.out.below hb14) hnS).mono ?_
  rintro e w5 ⟨rfl, b5⟩
  have hb15 := hb14.trans (b5.mono hb14.size)
  have HP5 := Lib.hid (HP4.out.below b5)
  clear b5 e0 e1
  cases hs : stopB ps rule
  · have Hv := Lib.hid (rmB_no2 (ws := ws) (l := l) hs)
    clear hs
    go_wp2_with fail
    go_ret2
    exact ⟨_, by rw [Hv.out]; rfl, by rw [spV_no Hv.out]; exact Own.nil _ _, hb15⟩
  have Hy := Lib.hid (rmB_yes Hpays.out hs)
  clear hs HP4 HP3
  have e0 := HP5.out.c0
  have e1 := HP5.out.c1
  have hmk := Bo.mk_bools nP (by omega)
  have hmx : nP ≤ maxLen := by have : maxLen = 9223372036854775807 := rfl; omega
  have hw5 : w.heap.size < w5.heap.size := HP5.out.lt
  have HcL : Hid (∀ W : World, KeepR w5 W → Calls Tryz.prog 77 #[.slice aL nP cL] W fun e w' => ∃ v, e = .returned v ∧ Own w' W.heap.size v l ∧ Below W.heap.size W w') := Lib.hid fun W hW => impl_copied _ _ _ l _ (by omega) hLc (HL.out.below (hb15.trans (Below.mono hW hb15.size)))
  go_upto_region 3 with fail
  go_cut [8, 9] (fun v8 v9 wc => TwoC w5 wc nP l v8 v9)
  case first =>
    refine wp_region_noPanic ?_
    refine wp_region_held_drew (S := (fun W' => KeepR w5 W')) (by kernel_rfl) ?_ (fun hHeld0 => ?_)
    · (try dsimp only); first | assumption | exact KeepR.start _ | exact KeepR.alloc0 _ _ | exact KeepR.alloc k6 _ | exact KeepR.drew (KeepR.alloc k6 _) | exact k6
    refine takeH (i := 0) (oi := _) (v := ?_) rfl (by kernel_rfl) (by kernel_rfl) (by kernel_rfl) (fun _ _ _ h => h) (Or.inl ⟨by rfl, ?_⟩) (by assumption) ?_
    rotate_left
    · first | (intro w hSw; (try dsimp only at hSw); go_simp; done) | (intro w hSw; (try dsimp only at hSw); go_simp; with_reducible rfl)
    (try simp only [Act.put, List.setIfInBounds_toArray, List.set_cons_zero, List.set_cons_succ])
    refine takeH (i := 2) (oi := _) (v := ?_) rfl (by kernel_rfl) (by kernel_rfl) (by kernel_rfl) (fun _ _ _ h => h) (Or.inl ⟨by rfl, ?_⟩) (by assumption) ?_
    rotate_left
    · first | (intro w hSw; (try dsimp only at hSw); go_simp; done) | (intro w hSw; (try dsimp only at hSw); go_simp; with_reducible rfl)
    (try simp only [Act.put, List.setIfInBounds_toArray, List.set_cons_zero, List.set_cons_succ])
    refine takeH (i := 3) (oi := _) (v := ?_) rfl (by kernel_rfl) (by kernel_rfl) (by kernel_rfl) (fun _ _ _ h => h) (Or.inl ⟨by rfl, ?_⟩) (by assumption) ?_
    rotate_left
    · first | (intro w hSw; (try dsimp only at hSw); go_simp; done) | (intro w hSw; (try dsimp only at hSw); go_simp; with_reducible rfl)
    (try simp only [Act.put, List.setIfInBounds_toArray, List.set_cons_zero, List.set_cons_succ])
    refine wpAnyH_ready (rs := [1, 4]) (by kernel_rfl) (by simp) ?_
    refine consM rfl (fun Kq hKq => ?_) (consH rfl (fun Kq hKq => ?_))
    · go_simp
      refine (HcL.out _ (KeepR.start _)).mono ?_
      rintro e w6 ⟨v6, rfl, o6, b6⟩
      have k6 : KeepR w5 w6 := KeepR.next b6 (KeepR.start _)
      refine hKq.out _ _ ?_ (fun hHeld1 => ?_)
      · (try dsimp only); first | assumption | exact KeepR.start _ | exact KeepR.alloc0 _ _ | exact KeepR.alloc k6 _ | exact KeepR.drew (KeepR.alloc k6 _) | exact k6
      clear hKq Kq
      (try simp only [Act.put, List.setIfInBounds_toArray, List.set_cons_zero, List.set_cons_succ])
      clear hHeld0
      refine takeH (i := 5) (oi := _) (v := ?_) rfl (by kernel_rfl) (by kernel_rfl) (by kernel_rfl) (fun _ _ _ h => h) (Or.inl ⟨by rfl, ?_⟩) (by assumption) ?_
      rotate_left
      · first | (intro w hSw; (try dsimp only at hSw); go_simp; done) | (intro w hSw; (try dsimp only at hSw); go_simp; with_reducible rfl)
      (try simp only [Act.put, List.setIfInBounds_toArray, List.set_cons_zero, List.set_cons_succ])
      refine wpAnyH_ready (rs := [4]) (by kernel_rfl) (by simp) ?_
      refine consH rfl (fun Kq hKq => ?_)
      go_simp
      refine hKq.out _ _ ?_ (fun hHeld2 => ?_)
      · (try dsimp only); first | assumption | exact KeepR.start _ | exact KeepR.alloc0 _ _ | exact KeepR.alloc k6 _ | exact KeepR.drew (KeepR.alloc k6 _) | exact k6
      clear hKq Kq
      (try simp only [Act.put, List.setIfInBounds_toArray, List.set_cons_zero, List.set_cons_succ])
      clear hHeld1
      refine takeH (i := 6) (oi := _) (v := ?_) rfl (by kernel_rfl) (by kernel_rfl) (by kernel_rfl) (fun _ _ _ h => h) (Or.inl ⟨by rfl, ?_⟩) (by assumption) ?_
      rotate_left
      · first | (intro w hSw; (try dsimp only at hSw); go_simp; done) | (intro w hSw; (try dsimp only at hSw); go_simp; with_reducible rfl)
      (try simp only [Act.put, List.setIfInBounds_toArray, List.set_cons_zero, List.set_cons_succ])
      refine wpAnyH_done (by kernel_rfl) ?_ _
      refine NoPanic.normal ?_
      go_wp2_with fail
      go_meet
      exact twoC_mk (KeepR.alloc k6 _) hll.out (by omega) (o6.below (below_new _ _)) (Bo.Own.zeros w6 w6.heap.size nP (Nat.le_refl _) hmx) (Nat.le_refl _) (Below.size k6) (fun g hg => by have h1 := (World.ownsRow.lt o6 g hg).2; omega)
    · go_simp
      refine hKq.out _ _ ?_ (fun hHeld1 => ?_)
      · (try dsimp only); first | assumption | exact KeepR.start _ | exact KeepR.alloc0 _ _ | exact KeepR.alloc k6 _ | exact KeepR.drew (KeepR.alloc k6 _) | exact k6
      clear hKq Kq
      (try simp only [Act.put, List.setIfInBounds_toArray, List.set_cons_zero, List.set_cons_succ])
      clear hHeld0
      refine wpAnyH_ready (rs := [1]) (by kernel_rfl) (by simp) ?_
      refine consH rfl (fun Kq hKq => ?_)
      go_simp
      refine (HcL.out _ (KeepR.alloc0 _ _)).mono ?_
      rintro e w6 ⟨v6, rfl, o6, b6⟩
      have k6 : KeepR w5 w6 := KeepR.next b6 (KeepR.alloc0 _ _)
      refine hKq.out _ _ ?_ (fun hHeld2 => ?_)
      · (try dsimp only); first | assumption | exact KeepR.start _ | exact KeepR.alloc0 _ _ | exact KeepR.alloc k6 _ | exact KeepR.drew (KeepR.alloc k6 _) | exact k6
      clear hKq Kq
      (try simp only [Act.put, List.setIfInBounds_toArray, List.set_cons_zero, List.set_cons_succ])
      clear hHeld1
      refine takeH (i := 5) (oi := _) (v := ?_) rfl (by kernel_rfl) (by kernel_rfl) (by kernel_rfl) (fun _ _ _ h => h) (Or.inl ⟨by rfl, ?_⟩) (by assumption) ?_
      rotate_left
      · first | (intro w hSw; (try dsimp only at hSw); go_simp; done) | (intro w hSw; (try dsimp only at hSw); go_simp; with_reducible rfl)
      (try simp only [Act.put, List.setIfInBounds_toArray, List.set_cons_zero, List.set_cons_succ])
      refine takeH (i := 6) (oi := _) (v := ?_) rfl (by kernel_rfl) (by kernel_rfl) (by kernel_rfl) (fun _ _ _ h => h) (Or.inl ⟨by rfl, ?_⟩) (by assumption) ?_
      rotate_left
      · first | (intro w hSw; (try dsimp only at hSw); go_simp; done) | (intro w hSw; (try dsimp only at hSw); go_simp; with_reducible rfl)
      (try simp only [Act.put, List.setIfInBounds_toArray, List.set_cons_zero, List.set_cons_succ])
      refine wpAnyH_done (by kernel_rfl) ?_ _
      refine NoPanic.normal ?_
      go_wp2_with fail
      go_meet
      exact twoC_mk k6 hll.out (by omega) o6 (((Bo.Own.zeros w5 w5.heap.size nP (Nat.le_refl _) hmx).below (Below.refl _ _).drew).below b6) (by simp) (Nat.le_refl _) (fun g hg => by have h1 := (World.ownsRow.lt o6 g hg).1; simp at h1; omega)
  case rest =>
    clear hmk e0 e1 HcL
    obtain ⟨hk5, g8, c8, g9, rfl, rfl, o8, o9, hne⟩ := hcut
    have hk5b : Below w5.heap.size w5 wc := hk5
    have hb16 := hb15.trans (hk5b.mono hb15.size)
    have HPc := Lib.hid (HP5.out.below hk5b)
    have HO8 := Lib.hid (show Own wc w5.heap.size (.slice (some ⟨g8, 0, none⟩) nP c8) (mixL ps rule l 0) by rw [mixL_zero (by have := hll.out; have := Hl.out; omega)]; exact o8)
    have HO9 := Lib.hid (show Bo.Own wc w5.heap.size (.slice (some ⟨g9, 0, none⟩) nP nP) (beL ps (hasB rule) nP 0) by rw [← beL_zero]; exact o9)
    have hge8 := o8.lt.1
    have hge9 := o9.lt.1
    clear hk5 hk5b o8 o9 HP5 hb15
    go_wp2_with fail
    go_loopw [33] (fun v33 wr => ∃ x : Nat, x ≤ nP ∧ v33 = .int .i64 (x : Int) ∧ Own wr w5.heap.size (.slice (some ⟨g8, 0, none⟩) nP c8) (mixL ps rule l x) ∧ Bo.Own wr w5.heap.size (.slice (some ⟨g9, 0, none⟩) nP nP) (beL ps (hasB rule) nP x) ∧ Pair wr w.heap.size (.slice aP nP cP) (.slice aW nW cW) ∧ Below w.heap.size w wr) (fun v33 _ => nP - (intOf v33).toNat)
    case atStart => exact ⟨0, Nat.zero_le _, rfl, HO8.out, HO9.out, HPc.out, hb16⟩
    case round =>
      clear HO8 HO9 HPc hb16
      obtain ⟨x, hx, rfl, h8, h9, hP, hbel⟩ := hrel
      by_cases hlt : (x : Int) < nP
      · have hxp : x < ps.length := by have := Hl.out; omega
        have d9 := h9.cell (i := x) (by rw [beL_length]; omega)
        have f9 := h9.free (by rw [beL_length]) x
        have H9s := Lib.hid (h9.set (by rw [beL_length]) x (hasB rule (x : Int)))
        have H8s := Lib.hid (h8.far (a := ⟨g9, x, none⟩) (u := .bool (hasB rule (x : Int))) (by simp [Value.ownBlock]; exact hne))
        have HPs := Lib.hid (hP.far (b := g9) (i := x) (by omega) (.bool (hasB rule (x : Int))))
        have hbs : Below w.heap.size w (wr.setCell ⟨g9, x, none⟩ (.bool (hasB rule (x : Int)))) := hbel.setCell (show w.heap.size ≤ g9 by omega) _
        have Hc := Lib.hid (c_contains aS nS cS rule (x : Int) wr (HS.out.below hbel) hnS)
        clear h8 h9 hP
        go_upto_region 8 with (go_at_call 78; refine Hc.out.mono ?_; rintro e w6 ⟨rfl, hq⟩; have hq := hq.symm; subst hq)
        clear Hc d9 f9
        generalize wr.setCell ⟨g9, x, none⟩ (.bool (hasB rule (x : Int))) = wz at *
        have hgl9 := H9s.out.lt.2
        by_cases hx0 : (x : Int) > 0
        · have hx1 : 1 ≤ x := by omega
          have hup := HTr.out.toPa.upN (x := x) hx1 hxp
          obtain ⟨bP, oP, rfl, hcP⟩ := H.out.p.at (i := x) hbs (by omega)
          rw [hup.1] at hcP
          have hpl := hup.2
          have hsu := sp_up HTr.out.toPa rule l hx1 hxp
          have c0 := HPs.out.c0
          have c1 := HPs.out.c1
          have d9 := H9s.out.cell (i := par ps x) (by rw [List.length_set, beL_length]; omega)
          rw [Bo.nth_set (by rw [beL_length]; omega), if_neg (by omega), nth_beL hpl (by omega)] at d9
          have hpb : par ps x < nP := by omega
          have k4 : (0 : Int) ≤ (par ps x : Int) := by omega
          have k5 : (par ps x : Int) < (nP : Int) := by omega
          have k6 : (0 : Int) ≤ (x : Int) := by omega
          cases hbp : behB ps (hasB rule) (par ps x)
          · have hsx := hsu.2 hbp
            rw [hbp] at d9
            have Hbl : Hid (beL ps (hasB rule) nP (x + 1) = (beL ps (hasB rule) nP x).set x (hasB rule (x : Int))) := Lib.hid (by rw [beL_put (by omega), hsx.1])
            have Hms := Lib.hid (mixL_same (rule := rule) (l := l) hxp hsx.2)
            clear hsu hsx hbp hup
            generalize par ps x = p at *
            go_wp2_with fail
            go_roundw
            case rel => exact ⟨x + 1, by omega, by go_num, by rw [Hms.out]; exact H8s.out, by rw [Hbl.out]; exact H9s.out, HPs.out, hbs⟩
            case measure => simp [intOf]; omega
          · have hsx := hsu.1 hbp
            rw [hbp] at d9
            have Hbl : Hid (beL ps (hasB rule) nP (x + 1) = ((beL ps (hasB rule) nP x).set x (hasB rule (x : Int))).set x true) := Lib.hid (by rw [beL_put (by omega), hsx.1, set_set_bool])
            have hms := mixL_set (rule := rule) (l := l) hxp
            rw [hsx.2] at hms
            have e8 := H8s.out.cell (i := par ps x) (by rw [mixL_length]; omega)
            rw [nth_mixL (by omega), if_pos hpl] at e8
            have e9 := H9s.out.cell (i := x) (by rw [List.length_set, beL_length]; omega)
            have f9 := H9s.out.free (by rw [List.length_set, beL_length]) x
            have H8t := Lib.hid (H8s.out.far (a := ⟨g9, x, none⟩) (u := .bool true) (by simp [Value.ownBlock]; exact hne))
            have H9t := Lib.hid (H9s.out.set (by rw [List.length_set, beL_length]) x true)
            have HPt := Lib.hid (HPs.out.far (b := g9) (i := x) (by omega) (.bool true))
            have hbt : Below w.heap.size w (wz.setCell ⟨g9, x, none⟩ (.bool true)) := hbs.setCell (show w.heap.size ≤ g9 by omega) _
            have d8 := H8t.out.cell (i := x) (by rw [mixL_length]; omega)
            have f8 := H8t.out.free (by rw [mixL_length]; exact Hl.out.symm) x
            have Hms := Lib.hid hms
            clear hsu hsx hbp hup hms
            generalize heldN ps rule l (par ps x) = q at *
            generalize par ps x = p at *
            go_wp2_with fail
            go_roundw
            case rel => exact ⟨x + 1, by omega, by go_num, by rw [← Hms.out]; exact H8t.out.set (by rw [mixL_length]; exact Hl.out.symm) x q, by rw [Hbl.out]; exact H9t.out.far (a := ⟨g8, x, none⟩) (by simp [Value.ownBlock]; exact fun h => hne h.symm) _, HPt.out.far (b := g8) (i := x) (by omega) _, hbt.setCell (show w.heap.size ≤ g8 by omega) _⟩
            case measure => simp [intOf]; omega
        · have hsz := sp_zero ps rule l
          have hxz : x = 0 := by omega
          have hbz : behB ps (hasB rule) x = hasB rule (x : Int) := by rw [hxz]; exact hsz.1
          have hmz : heldN ps rule l x = nth l x := by rw [hxz]; exact hsz.2
          have Hbl : Hid (beL ps (hasB rule) nP (x + 1) = (beL ps (hasB rule) nP x).set x (hasB rule (x : Int))) := Lib.hid (by rw [beL_put (by omega), hbz])
          have Hms : Hid (mixL ps rule l (x + 1) = mixL ps rule l x) := Lib.hid (mixL_same hxp hmz)
          clear hxz hbz hmz
          clear hsz
          go_wp2_with fail
          go_roundw
          case rel => exact ⟨x + 1, by omega, by go_num, by rw [Hms.out]; exact H8s.out, by rw [Hbl.out]; exact H9s.out, HPs.out, hbs⟩
          case measure => simp [intOf]; omega
      · obtain rfl : x = nP := by omega
        go_wp2_with fail
        go_ret2
        exact ⟨_, by rw [Hy.out]; rfl, by rw [spV_yes Hy.out, ← mixL_all, Hl.out]; exact h8.mono (by omega), hbel⟩
end Go.Proofs.YtnbomleieianoaaGreat

/- Contracts of the small words of the laws on rules and fractions. No conditions but those stated. -/
namespace Go.Proofs.YtnbomleieianoaaGreat
open Go.RowKit

theorem laws_vBig (a : Option Addr) (n cap : Nat) (w : World) :
    Calls Tryz.prog 6 #[.slice a n cap] w fun e w' => e = .returned (.bool (decide ((n : Int) > 65536))) ∧ w = w' := by
  by_cases h : (n : Int) > 65536
  all_goals
    go_enter Tryz.func6, Tryz.ntmps6
    go_wp2_with fail
    go_ret
    exact ⟨by simp [h], rfl⟩
set_option maxHeartbeats 400000 in
/-- Two slices that read alike are found equal. -/
theorem laws_vInts_q (a b : Option Addr) (n ca cb : Nat) (xs : List Int) (w : World) (hn : n ≤ 4294967296) (ha : Ints w a n xs) (hb : Ints w b n xs) :
    Calls Tryz.prog 21 #[.slice a n ca, .slice b n cb] w fun e w' => e = .returned (.bool true) ∧ ∃ m, w' = w.drewN m := by
  have Ha := Lib.hid ha
  have Hb := Lib.hid hb
  clear ha hb
  go_enter Tryz.func21, Tryz.ntmps21
  go_wp2_with fail
  go_loopw [5] (fun v5 wr => ∃ i m : Nat, i ≤ n ∧ v5 = .int .i64 i ∧ wr = w.drewN m) (fun v5 _ => n - (intOf v5).toNat)
  case atStart => exact ⟨0, 0, Nat.zero_le _, rfl, rfl⟩
  case round =>
    obtain ⟨i, m, hi, rfl, hwr⟩ := hrel
    have hbel : Below w.heap.size w wr := by rw [hwr]; exact below_drewN (Below.refl _ _) m
    have Hwr := Lib.hid hwr
    clear hwr
    by_cases hlt : (i : Int) < n
    · obtain ⟨ba, oa, rfl, hba, hca⟩ := Ha.out.2 (by omega)
      obtain ⟨bb, ob, rfl, hbb, hcb⟩ := Hb.out.2 (by omega)
      have h1 := (hbel.cell (p := ⟨ba, oa + i, none⟩) hba).trans (hca i (by omega))
      have h2 := (hbel.cell (p := ⟨bb, ob + i, none⟩) hbb).trans (hcb i (by omega))
      clear hca hcb hbel
      generalize nth xs i = c at h1 h2
      go_wp2_with fail
      go_quiet (fail)
      go_wp2_with fail
      go_roundw
      case rel => exact ⟨i + 1, _, by omega, by go_num, by rw [Hwr.out, World.drewN_drewN]⟩
      case measure => simp [intOf]; omega
    · go_wp2_with fail
      go_ret
      exact ⟨rfl, m, Hwr.out⟩
theorem laws_vInts (a b : Option Addr) (n ca cb : Nat) (xs : List Int) (w : World) (hn : n ≤ 4294967296) (ha : Ints w a n xs) (hb : Ints w b n xs) :
    Calls Tryz.prog 21 #[.slice a n ca, .slice b n cb] w fun e w' => e = .returned (.bool true) ∧ Below w.heap.size w w' :=
  (laws_vInts_q a b n ca cb xs w hn ha hb).mono fun _ _ ⟨he, m, hm⟩ => ⟨he, by rw [hm]; exact below_drewN (Below.refl _ _) m⟩
theorem laws_rBig (a : Option Addr) (n cap : Nat) (w : World) :
    Calls Tryz.prog 29 #[.slice a n cap] w fun e w' => e = .returned (.bool (decide ((n : Int) > 65536))) ∧ w = w' := by
  by_cases h : (n : Int) > 65536
  all_goals
    go_enter Tryz.func29, Tryz.ntmps29
    go_wp2_with fail
    go_ret
    exact ⟨by simp [h], rfl⟩
set_option maxHeartbeats 400000 in
/-- Two slices that read alike are found equal. -/
theorem laws_rInts_q (a b : Option Addr) (n ca cb : Nat) (xs : List Int) (w : World) (hn : n ≤ 4294967296) (ha : Ints w a n xs) (hb : Ints w b n xs) :
    Calls Tryz.prog 38 #[.slice a n ca, .slice b n cb] w fun e w' => e = .returned (.bool true) ∧ ∃ m, w' = w.drewN m := by
  have Ha := Lib.hid ha
  have Hb := Lib.hid hb
  clear ha hb
  go_enter Tryz.func38, Tryz.ntmps38
  go_wp2_with fail
  go_loopw [5] (fun v5 wr => ∃ i m : Nat, i ≤ n ∧ v5 = .int .i64 i ∧ wr = w.drewN m) (fun v5 _ => n - (intOf v5).toNat)
  case atStart => exact ⟨0, 0, Nat.zero_le _, rfl, rfl⟩
  case round =>
    obtain ⟨i, m, hi, rfl, hwr⟩ := hrel
    have hbel : Below w.heap.size w wr := by rw [hwr]; exact below_drewN (Below.refl _ _) m
    have Hwr := Lib.hid hwr
    clear hwr
    by_cases hlt : (i : Int) < n
    · obtain ⟨ba, oa, rfl, hba, hca⟩ := Ha.out.2 (by omega)
      obtain ⟨bb, ob, rfl, hbb, hcb⟩ := Hb.out.2 (by omega)
      have h1 := (hbel.cell (p := ⟨ba, oa + i, none⟩) hba).trans (hca i (by omega))
      have h2 := (hbel.cell (p := ⟨bb, ob + i, none⟩) hbb).trans (hcb i (by omega))
      clear hca hcb hbel
      generalize nth xs i = c at h1 h2
      go_wp2_with fail
      go_quiet (fail)
      go_wp2_with fail
      go_roundw
      case rel => exact ⟨i + 1, _, by omega, by go_num, by rw [Hwr.out, World.drewN_drewN]⟩
      case measure => simp [intOf]; omega
    · go_wp2_with fail
      go_ret
      exact ⟨rfl, m, Hwr.out⟩
theorem laws_rInts (a b : Option Addr) (n ca cb : Nat) (xs : List Int) (w : World) (hn : n ≤ 4294967296) (ha : Ints w a n xs) (hb : Ints w b n xs) :
    Calls Tryz.prog 38 #[.slice a n ca, .slice b n cb] w fun e w' => e = .returned (.bool true) ∧ Below w.heap.size w w' :=
  (laws_rInts_q a b n ca cb xs w hn ha hb).mono fun _ _ ⟨he, m, hm⟩ => ⟨he, by rw [hm]; exact below_drewN (Below.refl _ _) m⟩
set_option maxHeartbeats 400000 in
theorem laws_rLess (a b c d : Int) (w : World) (h1 : -4611686018427387904 ≤ a * d ∧ a * d ≤ 4611686018427387904) (h2 : -4611686018427387904 ≤ c * b ∧ c * b ≤ 4611686018427387904) :
    Calls Tryz.prog 49 #[.agg #[.int .i64 a, .int .i64 b], .agg #[.int .i64 c, .int .i64 d]] w fun e w' => e = .returned (.bool (decide (a * d < c * b))) ∧ Below w.heap.size w w' := by
  have hbb : Below w.heap.size w ((w.alloc (.cells #[.int .i64 a, .int .i64 b] 29)).alloc (.cells #[.int .i64 c, .int .i64 d] 29)) := (below_new w _).alloc (by simp) _
  have hp := (Pair.new w (.int .i64 a) (.int .i64 b) 29).alloc (.cells #[.int .i64 c, .int .i64 d] 29)
  have hq := Pair.new (w.alloc (.cells #[.int .i64 a, .int .i64 b] 29)) (.int .i64 c) (.int .i64 d) 29
  rw [show (w.alloc (.cells #[.int .i64 a, .int .i64 b] 29)).heap.size = w.heap.size + 1 by simp] at hq
  have c0 := hp.c0
  have c1 := hp.c1
  have d0 := hq.c0
  have d1 := hq.c1
  have k1 : IntKind.i64.wrap (a * d) = a * d := IntWalk.i64_in _ (by omega)
  have k2 : IntKind.i64.wrap (c * b) = c * b := IntWalk.i64_in _ (by omega)
  clear hp hq h1 h2
  have HB := Lib.hid hbb
  clear hbb
  go_enter Tryz.func49, Tryz.ntmps49
  go_wp2_with fail
  go_ret
  exact ⟨rfl, HB.out⟩
set_option maxHeartbeats 400000 in
theorem laws_vLess (a b c d : Int) (w : World) (h1 : -4611686018427387904 ≤ a * d ∧ a * d ≤ 4611686018427387904) (h2 : -4611686018427387904 ≤ c * b ∧ c * b ≤ 4611686018427387904) :
    Calls Tryz.prog 26 #[.agg #[.int .i64 a, .int .i64 b], .agg #[.int .i64 c, .int .i64 d]] w fun e w' => e = .returned (.bool (decide (a * d < c * b))) ∧ Below w.heap.size w w' := by
  have hbb : Below w.heap.size w ((w.alloc (.cells #[.int .i64 a, .int .i64 b] 29)).alloc (.cells #[.int .i64 c, .int .i64 d] 29)) := (below_new w _).alloc (by simp) _
  have hp := (Pair.new w (.int .i64 a) (.int .i64 b) 29).alloc (.cells #[.int .i64 c, .int .i64 d] 29)
  have hq := Pair.new (w.alloc (.cells #[.int .i64 a, .int .i64 b] 29)) (.int .i64 c) (.int .i64 d) 29
  rw [show (w.alloc (.cells #[.int .i64 a, .int .i64 b] 29)).heap.size = w.heap.size + 1 by simp] at hq
  have c0 := hp.c0
  have c1 := hp.c1
  have d0 := hq.c0
  have d1 := hq.c1
  have k1 : IntKind.i64.wrap (a * d) = a * d := IntWalk.i64_in _ (by omega)
  have k2 : IntKind.i64.wrap (c * b) = c * b := IntWalk.i64_in _ (by omega)
  clear hp hq h1 h2
  have HB := Lib.hid hbb
  clear hbb
  go_enter Tryz.func26, Tryz.ntmps26
  go_wp2_with fail
  go_ret
  exact ⟨rfl, HB.out⟩
end Go.Proofs.YtnbomleieianoaaGreat
