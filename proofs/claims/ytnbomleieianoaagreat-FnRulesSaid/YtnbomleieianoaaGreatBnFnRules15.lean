/- Contracts and plain laws for the statement FnRules, part 15. No conditions but those stated in each. -/
import Derived.Test.YtnbomleieianoaaGreatBnFnRules9
import Derived.Test.YtnbomleieianoaaGreatBnFnRules14
import Derived.Test.YtnbomleieianoaaGreatBnFnRules13
import Derived.ChangeKeysEq
import Derived.Test.YtnbomleieianoaaGreatBnFnRules2
/- Plain laws and contracts: the level with the greatest mean, by the program and by the reference. No conditions but those stated. -/
namespace Go.Proofs.YtnbomleieianoaaGreat
open Go.RowKit

theorem stop_fir {ps : List Int} (hp : Pa ps) (S : Int → Bool) : ∀ x, x < ps.length → stop ps (fun y => firB ps S y.toNat) x = stop ps S x := by
  refine hp.above ?_ ?_
  · rw [stop_zero, stop_zero]
    have := (beh_zero ps S).2
    simp only [Int.toNat_zero, this]
  · intro x h1 h2 ih
    rw [stop_up hp _ h1 h2, stop_up hp S h1 h2, ih]
    by_cases hb : 0 ≤ stop ps S (par ps x)
    · rw [if_pos hb, if_pos hb]
    · rw [if_neg hb, if_neg hb, Int.toNat_natCast, ((beh_up hp S h1 h2).2 (decide_eq_false hb)).2]
theorem asc_ris {l : List Int} (h : l.Pairwise (· < ·)) : risB l = true := ris_t fun i h1 hi => by
  rw [List.pairwise_iff_getElem] at h
  rw [nth_lt hi, nth_lt (by omega)]
  exact h (i - 1) i (by omega) hi (by omega)
theorem firsts_stop {ps : List Int} (hp : Pa ps) {S : Int → Bool} (hS : ∀ x : Nat, x < ps.length → endB ps x = true → S (x : Int) = true) : stopB ps (firsts ps S) = true := by
  have hh : ∀ x, x < ps.length → stop ps (hasB (firsts ps S)) x = stop ps S x := fun x hx => by
    rw [← stop_fir hp S x hx]
    refine stop_congr hp (fun y hy => ?_) hx
    rw [Int.toNat_natCast, Bool.eq_iff_iff, has_mem, firsts, mem_filt]
    constructor
    · rintro ⟨i, _, h2, h3⟩
      obtain rfl : i = y := by omega
      exact h2
    · intro h
      exact ⟨y, hy, h, rfl⟩
  have h1 : risB (firsts ps S) = true := asc_ris (filt_asc _ _)
  rw [← rule_stop hp, ruleB, h1]
  have h2 : allIn (firsts ps S) 0 ((ps.length : Int) - 1) = true := all_t fun i hi => by
    obtain ⟨j, h1, _, h3⟩ := nth_filt hi
    rw [firsts] at *
    rw [h3]
    exact inB_mk (by omega) (by omega)
  have h3 : ((List.range (ends ps).length).all fun i => decide (0 ≤ stop ps (hasB (firsts ps S)) (nth (ends ps) i).toNat)) = true := all_t fun i hi => by
    obtain ⟨e, h1, h2, h3⟩ := end_nth hi
    rw [h3, Int.toNat_natCast, hh e h1]
    exact decide_eq_true (stop_end hp S h1 (hS e h1 h2))
  have h4 : ((List.range (firsts ps S).length).all fun i => stop ps (hasB (firsts ps S)) (nth (firsts ps S) i).toNat == nth (firsts ps S) i) = true := all_t fun i hi => by
    obtain ⟨j, h1, h2, h3⟩ := nth_filt hi
    have h3' : nth (firsts ps S) i = (j : Int) := h3
    rw [h3', Int.toNat_natCast, hh j h1]
    exact h2
  rw [h2, h3, h4]; rfl
/-- Fractions in lowest terms of one denominator. -/
theorem cut_parts (a : Int) {s : Int} (hs : 0 < s) : ∃ g : Int, 0 < g ∧ a = g * nm a s ∧ s = g * dn a s := by
  have hg := gcdI_pos (a := a) (b := s) (by omega)
  refine ⟨gcdI a s, hg, ?_, ?_⟩
  · rw [nm, if_neg (by omega)]; exact (Int.mul_ediv_cancel' (gcdI_dvd_l a s)).symm
  · rw [dn, if_neg (by omega)]; exact (Int.mul_ediv_cancel' (gcdI_dvd_r a s)).symm
theorem cut_lt (a b : Int) {s : Int} (hs : 0 < s) : (nm a s * dn b s < nm b s * dn a s) ↔ a < b := by
  obtain ⟨g, hg, ha, hs1⟩ := cut_parts a hs
  obtain ⟨h, hh, hb, hs2⟩ := cut_parts b hs
  generalize nm a s = A at *
  generalize dn a s = D at *
  generalize nm b s = B at *
  generalize dn b s = E at *
  have hgh : 0 < g * h := Int.mul_pos hg hh
  have e1 : A * E * (g * h) = a * s := by rw [show A * E * (g * h) = (g * A) * (h * E) by grind, ← ha, ← hs2]
  have e2 : B * D * (g * h) = b * s := by rw [show B * D * (g * h) = (h * B) * (g * D) by grind, ← hb, ← hs1]
  constructor
  · intro hl
    have := Int.mul_lt_mul_of_pos_right hl hgh
    rw [e1, e2] at this
    exact Int.lt_of_mul_lt_mul_right this (by omega)
  · intro hl
    have := Int.mul_lt_mul_of_pos_right hl hs
    rw [← e1, ← e2] at this
    exact Int.lt_of_mul_lt_mul_right this (by omega)
theorem cut_eq {a b s : Int} (hs : 0 < s) (h1 : nm a s = nm b s) (h2 : dn a s = dn b s) : a = b := by
  have hab := cut_lt a b hs
  have hba := cut_lt b a hs
  rw [h1, h2] at hab
  rw [h1, h2] at hba
  omega
/-- The best one of the levels that the program looks at, before the j-th. -/
def blL (T : Int → Int) (l : List Int) : Nat → Int
  | 0 => -999
  | j + 1 => if hasB l ((j : Int) - 1000) && decide (T (blL T l j) < T ((j : Int) - 999)) then (j : Int) - 999 else blL T l j
/-- The best one of the levels of the first payments. -/
def slL (T : Int → Int) (l : List Int) : Nat → Int
  | 0 => -999
  | x + 1 => if decide (nth l x + 1 ≤ 999) && (decide (T (slL T l x) < T (nth l x + 1)) || (decide (T (nth l x + 1) = T (slL T l x)) && decide (nth l x + 1 < slL T l x))) then nth l x + 1 else slL T l x
def BestOf (T : Int → Int) (C : Int → Prop) (b : Int) : Prop := C b ∧ ∀ c, C c → T c < T b ∨ (T c = T b ∧ b ≤ c)
theorem best_one {T : Int → Int} {C : Int → Prop} {a b : Int} (ha : BestOf T C a) (hb : BestOf T C b) : a = b := by
  have h1 := ha.2 b hb.1
  have h2 := hb.2 a ha.1
  omega
theorem best_iff {T : Int → Int} {C D : Int → Prop} {a : Int} (h : BestOf T C a) (hc : ∀ x, C x ↔ D x) : BestOf T D a := ⟨(hc a).1 h.1, fun c hd => h.2 c ((hc c).2 hd)⟩
theorem blL_best (T : Int → Int) (l : List Int) : ∀ j : Nat, BestOf T (fun c => c = -999 ∨ (-999 ≤ c ∧ c < (j : Int) - 999 ∧ hasB l (c - 1) = true)) (blL T l j)
  | 0 => ⟨.inl rfl, fun c hc => by
    rcases hc with rfl | h
    · exact .inr ⟨rfl, by rw [blL]; omega⟩
    · omega⟩
  | j + 1 => by
    have ih := blL_best T l j
    rw [blL]
    by_cases hh : hasB l ((j : Int) - 1000) = true
    · by_cases hlt : T (blL T l j) < T ((j : Int) - 999)
      · rw [if_pos (by rw [hh, decide_eq_true hlt]; rfl)]
        refine ⟨.inr ⟨by omega, by omega, by rw [show (j : Int) - 999 - 1 = (j : Int) - 1000 by omega]; exact hh⟩, fun c hc => ?_⟩
        rcases hc with rfl | ⟨h1, h2, h3⟩
        · have := ih.2 (-999) (.inl rfl); omega
        · by_cases e : c = (j : Int) - 999
          · subst e; exact .inr ⟨rfl, Int.le_refl _⟩
          · have := ih.2 c (.inr ⟨h1, by omega, h3⟩); omega
      · rw [if_neg (by rw [decide_eq_false hlt]; simp)]
        refine ⟨?_, fun c hc => ?_⟩
        · rcases ih.1 with h | ⟨h1, h2, h3⟩
          · exact .inl h
          · exact .inr ⟨h1, by omega, h3⟩
        · rcases hc with rfl | ⟨h1, h2, h3⟩
          · exact ih.2 (-999) (.inl rfl)
          · by_cases e : c = (j : Int) - 999
            · subst e
              rcases Int.lt_or_eq_of_le (Int.not_lt.1 hlt) with h | h
              · exact .inl h
              · refine .inr ⟨h, ?_⟩
                rcases ih.1 with h | ⟨_, h2, _⟩ <;> omega
            · exact ih.2 c (.inr ⟨h1, by omega, h3⟩)
    · have hh := Bool.eq_false_iff.2 hh
      rw [if_neg (by rw [hh]; simp)]
      refine best_iff ih fun c => ?_
      constructor
      · rintro (h | ⟨h1, h2, h3⟩)
        · exact .inl h
        · exact .inr ⟨h1, by omega, h3⟩
      · rintro (h | ⟨h1, h2, h3⟩)
        · exact .inl h
        · refine .inr ⟨h1, ?_, h3⟩
          by_cases e : c = (j : Int) - 999
          · subst e
            rw [show (j : Int) - 999 - 1 = (j : Int) - 1000 by omega, hh] at h3; cases h3
          · omega
theorem slL_best (T : Int → Int) (l : List Int) : ∀ k : Nat, BestOf T (fun c => c = -999 ∨ (∃ x : Nat, x < k ∧ c = nth l x + 1 ∧ c ≤ 999)) (slL T l k)
  | 0 => ⟨.inl rfl, fun c hc => by
    rcases hc with rfl | ⟨x, h, _⟩
    · exact .inr ⟨rfl, by rw [slL]; omega⟩
    · omega⟩
  | k + 1 => by
    have ih := slL_best T l k
    rw [slL]
    by_cases h9 : nth l k + 1 ≤ 999
    · by_cases hw : T (slL T l k) < T (nth l k + 1) ∨ (T (nth l k + 1) = T (slL T l k) ∧ nth l k + 1 < slL T l k)
      · rw [if_pos (by rw [decide_eq_true h9]; simpa using hw)]
        refine ⟨.inr ⟨k, by omega, rfl, h9⟩, fun c hc => ?_⟩
        rcases hc with rfl | ⟨x, h1, h2, h3⟩
        · have := ih.2 (-999) (.inl rfl); omega
        · by_cases e : x = k
          · subst e; subst h2; exact .inr ⟨rfl, Int.le_refl _⟩
          · have := ih.2 c (.inr ⟨x, by omega, h2, h3⟩); omega
      · rw [if_neg (by rw [decide_eq_true h9]; simpa using hw)]
        refine ⟨?_, fun c hc => ?_⟩
        · rcases ih.1 with h | ⟨x, h1, h2⟩
          · exact .inl h
          · exact .inr ⟨x, by omega, h2⟩
        · rcases hc with rfl | ⟨x, h1, h2, h3⟩
          · exact ih.2 (-999) (.inl rfl)
          · by_cases e : x = k
            · subst e; subst h2; omega
            · exact ih.2 c (.inr ⟨x, by omega, h2, h3⟩)
    · rw [if_neg (by rw [decide_eq_false h9]; simp)]
      refine best_iff ih fun c => ?_
      constructor
      · rintro (h | ⟨x, h1, h2⟩)
        · exact .inl h
        · exact .inr ⟨x, by omega, h2⟩
      · rintro (h | ⟨x, h1, h2, h3⟩)
        · exact .inl h
        · by_cases e : x = k
          · subst e; omega
          · exact .inr ⟨x, by omega, h2, h3⟩
theorem best_same (T : Int → Int) {l : List Int} (hl : ∀ i, -999 ≤ nth l i ∧ nth l i ≤ 999) : blL T l 1999 = slL T l l.length := by
  refine best_one (best_iff (blL_best T l 1999) fun c => ?_) (slL_best T l l.length)
  constructor
  · rintro (h | ⟨h1, h2, h3⟩)
    · exact .inl h
    · obtain ⟨i, hi, hie⟩ := hasB_mem h3
      exact .inr ⟨i, hi, by omega, by omega⟩
  · rintro (h | ⟨x, h1, h2, h3⟩)
    · exact .inl h
    · have := hl x
      exact .inr ⟨by omega, by omega, has_t h1 (by omega)⟩
/-- The sum behind the mean of the rule of a level. -/
def lvT (ps ws l : List Int) (lev : Int) : Int := rmS ps ws l (firsts ps (fS (levB ps l lev)))
theorem lev_stop {ps l : List Int} (hp : Pa ps) (lev : Int) : stopB ps (firsts ps (fS (levB ps l lev))) = true := firsts_stop hp fun x _ he => by
  rw [fS, Int.toNat_natCast, levB, he]; rfl
def lvV (ps ws l : List Int) : Int := if paysB ps ws l then slL (lvT ps ws l) l l.length else 0
def lvN (ps ws l : List Int) : Int := if paysB ps ws l then nm (lvT ps ws l (lvV ps ws l)) (nth (sums ps ws) 0) else 0
def lvD (ps ws l : List Int) : Int := if paysB ps ws l then dn (lvT ps ws l (lvV ps ws l)) (nth (sums ps ws) 0) else 0
theorem lv_no {ps ws l : List Int} (h : paysB ps ws l = false) : lvV ps ws l = 0 ∧ lvN ps ws l = 0 ∧ lvD ps ws l = 0 := by
  unfold lvN lvD; rw [lvV, h]; exact ⟨rfl, rfl, rfl⟩
theorem lv_yes {ps ws l : List Int} (h : paysB ps ws l = true) : lvV ps ws l = slL (lvT ps ws l) l l.length ∧ lvN ps ws l = nm (lvT ps ws l (lvV ps ws l)) (nth (sums ps ws) 0) ∧ lvD ps ws l = dn (lvT ps ws l (lvV ps ws l)) (nth (sums ps ws) 0) := by
  unfold lvN lvD; rw [lvV, h]; exact ⟨rfl, rfl, rfl⟩
theorem lvT_bd {ps ws l : List Int} (h : paysB ps ws l = true) (lev : Int) : -11508480 ≤ lvT ps ws l lev ∧ lvT ps ws l lev ≤ 11508480 := by
  obtain ⟨hT, _, _, _, hl⟩ := paysB_t h
  have h1 := mS_bd (rule := firsts ps (fS (levB ps l lev))) hT hl (firsts ps (fS (levB ps l lev))).length
  have h2 := firsts_length ps (fS (levB ps l lev))
  have h3 := hT.toPa.n24
  rw [lvT, rmS]
  omega
theorem eqA2 (a b c d : Int) (w : World) : (Op.equalIn 10000 29 (.agg #[.int .i64 a, .int .i64 b]) (.agg #[.int .i64 c, .int .i64 d])).run Tryz.prog w = .ok (a == c && b == d) w := by
  have hu : Tryz.prog.underlying 29 = some (.array 2 3) := by kernel_rfl
  have hi : Tryz.prog.underlying 3 = some (.int .i64) := by kernel_rfl
  have hc : Tryz.prog.cellsOf 3 = 1 := by kernel_rfl
  have hp : Tryz.prog.plainKey 3 = true := by kernel_rfl
  obtain ⟨i, hinfo⟩ : ∃ i, Tryz.prog.info? 3 = some i := by
    have h := info_int
    cases h2 : Tryz.prog.info? 3 with
    | none => rw [h2] at h; cases h
    | some i => exact ⟨i, rfl⟩
  rw [show (10000 : Nat) = 9999 + 1 from rfl, run_equalIn_array w 9999 _ _ hu hinfo, hc, show List.range 2 = [0, 1] from rfl]
  have e1 : ∀ W, (Op.equalIn 9999 3 (.int .i64 a) (.int .i64 c)).run Tryz.prog W = .ok (a == c) W := fun W => run_equalIn_int W 9998 _ _ _ _ _ hi
  have e2 : ∀ W, (Op.equalIn 9999 3 (.int .i64 b) (.int .i64 d)).run Tryz.prog W = .ok (b == d) W := fun W => run_equalIn_int W 9998 _ _ _ _ _ hi
  have p1 : ∀ (x y : Int) W, (part 3 #[.int .i64 x, .int .i64 y] (0 * 1)).run Tryz.prog W = .ok (.int .i64 x) W := fun x y W => run_part_plain W hp rfl
  have p2 : ∀ (x y : Int) W, (part 3 #[.int .i64 x, .int .i64 y] (1 * 1)).run Tryz.prog W = .ok (.int .i64 y) W := fun x y W => run_part_plain W hp rfl
  generalize (a == c) = r1 at *
  generalize (b == d) = r2 at *
  cases r1
  · simp only [Op.eqItems, Sem.run_bind, p1, e1, Result.andThen_ok, Sem.run_ite, Bool.not_false, if_true, Sem.run_pure, Bool.false_and]
  · cases r2
    · simp only [Op.eqItems, Sem.run_bind, p1, p2, e1, e2, Result.andThen_ok, Sem.run_ite, Bool.not_true, Bool.not_false, Bool.false_eq_true, if_true, if_false, Sem.run_pure, Bool.true_and]
    · simp only [Op.eqItems, Sem.run_bind, p1, p2, e1, e2, Result.andThen_ok, Sem.run_ite, Bool.not_true, Bool.false_eq_true, if_false, Sem.run_pure, Bool.true_and]
theorem Pair.st2 {w : World} {g : Nat} {x y : Value} (h : Pair w g x y) (x' y' : Value) : Pair ((w.setCell ⟨g, 0, none⟩ x').setCell ⟨g, 1, none⟩ y') g x' y' :=
  ⟨(h.set x' y').1, (h.set x' y').2, by simpa using h.f0, by simpa using h.f1⟩
theorem Pair.fr2 {w : World} {g b : Nat} {x y : Value} (h : Pair w g x y) (hne : b ≠ g) (x' y' : Value) : Pair ((w.setCell ⟨b, 0, none⟩ x').setCell ⟨b, 1, none⟩ y') g x y := (h.far hne x').far hne y'
theorem cut_bd (a : Int) {s : Int} (hs : 0 < s) : (nm a s).natAbs ≤ a.natAbs ∧ 1 ≤ dn a s ∧ dn a s ≤ s := by
  obtain ⟨g, hg, h1, h2⟩ := cut_parts a hs
  have h3 := dn_pos a s (by omega)
  refine ⟨?_, h3, ?_⟩
  · have : a.natAbs = g.natAbs * (nm a s).natAbs := by rw [← Int.natAbs_mul, ← h1]
    rw [this]
    exact Nat.le_mul_of_pos_left _ (by omega)
  · have : 1 * dn a s ≤ g * dn a s := Int.mul_le_mul_of_nonneg_right (by omega) (by omega)
    omega
theorem cut_prod {a b s : Int} (hs : 0 < s) (hs2 : s ≤ 480) (ha : -11508480 ≤ a ∧ a ≤ 11508480) : -1000000000000 ≤ nm a s * dn b s ∧ nm a s * dn b s ≤ 1000000000000 := by
  obtain ⟨h1, _, _⟩ := cut_bd a hs
  obtain ⟨_, h2, h3⟩ := cut_bd b hs
  have := mul_abs (B := 11508480) (U := 480) (x := nm a s) (u := dn b s) (by omega) (by omega) (by omega)
  omega
def cmpI (x y : Int) : Int := if x < y then -1 else if x > y then 1 else 0
theorem cmp_gt {x y : Int} : (cmpI x y > 0) ↔ y < x := by
  unfold cmpI
  split
  · omega
  · split <;> omega
set_option maxRecDepth 100000 in
theorem impl_compared (a b c d : Int) (w : World) (h1 : -1000000000000 ≤ a * d ∧ a * d ≤ 1000000000000) (h2 : -1000000000000 ≤ c * b ∧ c * b ≤ 1000000000000) :
    Calls Tryz.prog 124 #[.agg #[.int .i64 a, .int .i64 b], .agg #[.int .i64 c, .int .i64 d]] w fun e w' => e = .returned (.int .i64 (cmpI (a * d) (c * b))) ∧ Below w.heap.size w w' := by
  have k1 : IntKind.i64.wrap (a * d) = a * d := IntWalk.i64_in _ (by omega)
  have k2 : IntKind.i64.wrap (c * b) = c * b := IntWalk.i64_in _ (by omega)
  have hb2 : Below w.heap.size w ((w.alloc (.cells #[.int .i64 a, .int .i64 b] 29)).alloc (.cells #[.int .i64 c, .int .i64 d] 29)) := (below_new w _).alloc (by simp) _
  have P1 := (Pair.new w (.int .i64 a) (.int .i64 b) 29).alloc (.cells #[.int .i64 c, .int .i64 d] 29)
  have P2 := Pair.new (w.alloc (.cells #[.int .i64 a, .int .i64 b] 29)) (.int .i64 c) (.int .i64 d) 29
  have hs : (w.alloc (.cells #[.int .i64 a, .int .i64 b] 29)).heap.size = w.heap.size + 1 := by simp
  rw [hs] at P2
  have c0 := P1.c0
  have c1 := P1.c1
  have d0 := P2.c0
  have d1 := P2.c1
  clear P1 P2 hs
  have Hc : Hid (cmpI (a * d) (c * b) = if a * d < c * b then -1 else if a * d > c * b then 1 else 0) := Lib.hid rfl
  generalize hx : a * d = x at *
  generalize hy : c * b = y at *
  generalize cmpI x y = z at *
  have HX := Lib.hid hx
  have HY := Lib.hid hy
  by_cases q1 : x < y
  · have Hz : Hid (z = -1) := Lib.hid (by rw [Hc.out, if_pos q1])
    go_enter Tryz.func124, Tryz.ntmps124
    go_wp2_with fail
    generalize ((w.alloc (.cells #[.int .i64 a, .int .i64 b] 29)).alloc (.cells #[.int .i64 c, .int .i64 d] 29)) = w2 at *
    go_quiet (fail)
    go_wp2_with fail
    go_ret
    exact ⟨by rw [Hz.out]; rfl, below_drewN hb2 _⟩
  by_cases q2 : x > y
  · have Hz : Hid (z = 1) := Lib.hid (by rw [Hc.out, if_neg q1, if_pos q2])
    go_enter Tryz.func124, Tryz.ntmps124
    go_wp2_with fail
    generalize ((w.alloc (.cells #[.int .i64 a, .int .i64 b] 29)).alloc (.cells #[.int .i64 c, .int .i64 d] 29)) = w2 at *
    go_quiet (fail)
    go_wp2_with fail
    go_ret
    exact ⟨by rw [Hz.out]; rfl, below_drewN hb2 _⟩
  · have Hz : Hid (z = 0) := Lib.hid (by rw [Hc.out, if_neg q1, if_neg q2])
    go_enter Tryz.func124, Tryz.ntmps124
    go_wp2_with fail
    generalize ((w.alloc (.cells #[.int .i64 a, .int .i64 b] 29)).alloc (.cells #[.int .i64 c, .int .i64 d] 29)) = w2 at *
    go_quiet (fail)
    go_wp2_with fail
    go_ret
    exact ⟨by rw [Hz.out]; rfl, below_drewN hb2 _⟩
set_option maxRecDepth 100000 in
theorem spec_l2Less (a b c d : Int) (w : World) (h1 : -1000000000000 ≤ a * d ∧ a * d ≤ 1000000000000) (h2 : -1000000000000 ≤ c * b ∧ c * b ≤ 1000000000000) :
    Calls Tryz.prog 125 #[.agg #[.int .i64 a, .int .i64 b], .agg #[.int .i64 c, .int .i64 d]] w fun e w' => e = .returned (.bool (decide (a * d < c * b))) ∧ Below w.heap.size w w' := by
  go_enter Tryz.func125, Tryz.ntmps125
  go_wp2_with fail
  go_ret
  exact ⟨rfl, (below_new w _).alloc (by simp) _⟩
set_option maxRecDepth 100000 in
set_option maxHeartbeats 1000000 in
theorem impl_BestLevel (aP : Option Addr) (nP cP : Nat) (aW : Option Addr) (nW cW : Nat) (ps ws : List Int) (aL : Option Addr) (nL cL : Nat) (l : List Int) (w : World) (h : Tre w aP nP cP aW nW cW ps ws) (hL : Ints w aL nL l) (hLc : aL = none → cL = 0) (hn : nL ≤ 1048576) :
    Calls Tryz.prog 66 #[.agg #[.slice aP nP cP, .slice aW nW cW], .slice aL nL cL] w fun e w' => e = .returned (.tuple #[.int .i64 (lvV ps ws l), .agg #[.int .i64 (lvN ps ws l), .int .i64 (lvD ps ws l)], .bool (paysB ps ws l)]) ∧ Below w.heap.size w w' := by
  have hl := h.p.1
  have hlw := h.w.1
  have hpn := h.pn
  have hwn := h.wn
  have hb1 := below_new w (.cells #[.slice aP nP cP, .slice aW nW cW] 26)
  have hP1 := Lib.hid (Pair.new w (.slice aP nP cP) (.slice aW nW cW) 26)
  have H := Lib.hid h
  have Hl := Lib.hid hl
  have Hlw := Lib.hid hlw
  clear h hl hlw
  have HL := Lib.hid hL
  have hll := Lib.hid hL.1
  clear hL
  go_enter Tryz.func66, Tryz.ntmps66
  have hbb := hb1.trans ((below_new (w.alloc (.cells #[.slice aP nP cP, .slice aW nW cW] 26)) (.cells #[.int .i64 0, .int .i64 0] 29)).mono hb1.size)
  have hPP := Lib.hid (hP1.out.alloc (.cells #[.int .i64 0, .int .i64 0] 29))
  have hR1 := Pair.new (w.alloc (.cells #[.slice aP nP cP, .slice aW nW cW] 26)) (.int .i64 0) (.int .i64 0) 29
  rw [show (w.alloc (.cells #[.slice aP nP cP, .slice aW nW cW] 26)).heap.size = w.heap.size + 1 by simp] at hR1
  have HR1 := Lib.hid hR1
  have c0 := hPP.out.c0
  have c1 := hPP.out.c1
  clear hb1 hP1 hR1
  go_wp2_with fail
  generalize ((w.alloc (.cells #[.slice aP nP cP, .slice aW nW cW] 26)).alloc (.cells #[.int .i64 0, .int .i64 0] 29)) = w2 at *
  refine (impl_IsTree _ _ _ _ _ _ ps ws _ (H.out.below hbb)).mono ?_
  rintro e w3 ⟨rfl, hb3⟩
  have HP3 := Lib.hid (hPP.out.below hb3)
  have HR3 := Lib.hid (HR1.out.below hb3)
  have d0 := HP3.out.c0
  have d1 := HP3.out.c1
  have r0 := HR3.out.c0
  have r1 := HR3.out.c1
  have hb13 := hbb.trans (hb3.mono hbb.size)
  clear c0 c1 hb3 hPP HR1 hbb
  cases hT : treeB ps ws
  · have Hv := Lib.hid (pays_no1 (l := l) hT)
    have q5 := HR3.out.f0
    have q6 := HR3.out.f1
    have hr := HR3.out.set (.int .i64 0) (.int .i64 0)
    clear hT
    go_wp2_with fail
    exact bodyPost_ret (v := .tuple #[.int .i64 0, .agg #[.int .i64 0, .int .i64 0], .bool false]) (by simp [results, Tryz.results66, go_sem, hr.1, hr.2]) rfl ⟨by rw [Hv.out, (lv_no Hv.out).1, (lv_no Hv.out).2.1, (lv_no Hv.out).2.2], (hb13.setCell (by simp) _).setCell (by simp) _⟩
  have HT := Lib.hid hT
  clear hT
  go_wp2_with fail
  refine (impl_isProcess _ _ _ _ _ _ ps ws _ _ _ l _ (H.out.below hb13) (HL.out.below hb13) hn).mono ?_
  rintro e w4 ⟨rfl, hb4⟩
  have HP4 := Lib.hid (HP3.out.below hb4)
  have HR4 := Lib.hid (HR3.out.below hb4)
  have e0 := HP4.out.c0
  have e1 := HP4.out.c1
  have s0 := HR4.out.c0
  have s1 := HR4.out.c1
  have hb14 := hb13.trans (hb4.mono hb13.size)
  clear d0 d1 hb4 HP3 r0 r1 HR3
  cases hp : procB ps.length l
  · have Hv := Lib.hid (pays_no2 (ws := ws) hp)
    have q5 := HR4.out.f0
    have q6 := HR4.out.f1
    have hr := HR4.out.set (.int .i64 0) (.int .i64 0)
    clear hp
    go_wp2_with fail
    exact bodyPost_ret (v := .tuple #[.int .i64 0, .agg #[.int .i64 0, .int .i64 0], .bool false]) (by simp [results, Tryz.results66, go_sem, hr.1, hr.2]) rfl ⟨by rw [Hv.out, (lv_no Hv.out).1, (lv_no Hv.out).2.1, (lv_no Hv.out).2.2], (hb14.setCell (by simp) _).setCell (by simp) _⟩
  have Hpays := Lib.hid (pays_both HT.out hp)
  clear hp
  obtain ⟨hTr, _, _, hleq, hlb⟩ := paysB_t Hpays.out
  have HTr := Lib.hid hTr
  have hs0 : 0 < nth (sums ps ws) 0 := by have := sums_pos hTr 0 (by have := hTr.n1; omega); omega
  have hs48 : nth (sums ps ws) 0 ≤ 480 := (sums_bd hTr 0).2
  have HTb := Lib.hid (lvT_bd Hpays.out)
  have HST : Hid (∀ k : Int, stopB ps (firsts ps (fS (levB ps l k))) = true) := Lib.hid fun k => lev_stop HTr.out.toPa k
  have HFE : Hid (∀ (k : Int) (W : World), Below w.heap.size w W → Calls Tryz.prog 122 #[.agg #[.slice aP nP cP, .slice aW nW cW], .slice aL nL cL, .int .i64 k] W fun e w' => ∃ v, e = .returned (.tuple #[v, .bool true]) ∧ Own w' W.heap.size v (firsts ps (fS (levB ps l k))) ∧ Below W.heap.size W w') := Lib.hid fun k W hW => by
    have := impl_FirstEntry _ _ _ _ _ _ ps ws _ _ _ l k W (H.out.below hW) (HL.out.below hW) hLc hn
    rw [Hpays.out, entryV_yes Hpays.out] at this
    exact this
  have HSM : Hid (∀ (k : Int) (W : World) (aS : Option Addr) (nS cS : Nat), Below w.heap.size w W → Ints W aS nS (firsts ps (fS (levB ps l k))) → (aS = none → cS = 0) → nS ≤ 1048576 → Calls Tryz.prog 8 #[.agg #[.slice aP nP cP, .slice aW nW cW], .slice aL nL cL, .slice aS nS cS] W fun e w' => e = .returned (.tuple #[.agg #[.int .i64 (nm (lvT ps ws l k) (nth (sums ps ws) 0)), .int .i64 (dn (lvT ps ws l k) (nth (sums ps ws) 0))], .bool true]) ∧ Below W.heap.size W w') := Lib.hid fun k W aS nS cS hW hS hSc hnS => by
    have := impl_StoppedMean _ _ _ _ _ _ ps ws _ _ _ l _ _ _ (firsts ps (fS (levB ps l k))) W (H.out.below hW) (HL.out.below hW) hLc hn hS hSc hnS
    have hb : rmB ps ws l (firsts ps (fS (levB ps l k))) = true := by rw [rmB, Hpays.out, HST.out k]; rfl
    rw [(rm_yes hb).1, (rm_yes hb).2, hb] at this
    exact this
  have HLen : Hid (∀ k : Int, (firsts ps (fS (levB ps l k))).length ≤ 1048576) := Lib.hid fun k => by have := firsts_length ps (fS (levB ps l k)); have := HTr.out.toPa.n24; omega
  have Hfin : Hid (blL (lvT ps ws l) l 1999 = lvV ps ws l) := Lib.hid (by rw [(lv_yes Hpays.out).1, best_same _ hlb])
  have Hret : Hid (lvN ps ws l = nm (lvT ps ws l (lvV ps ws l)) (nth (sums ps ws) 0) ∧ lvD ps ws l = dn (lvT ps ws l (lvV ps ws l)) (nth (sums ps ws) 0)) := Lib.hid (lv_yes Hpays.out).2
  have Hbl0 : Hid (∀ j : Nat, j = 0 → blL (lvT ps ws l) l (j + 1) = -999) := Lib.hid fun j hj => by subst hj; rw [blL]; simp [blL]
  have HblS : Hid (∀ j : Nat, hasB l ((j : Int) - 1000) = true → lvT ps ws l (blL (lvT ps ws l) l j) < lvT ps ws l ((j : Int) - 999) → blL (lvT ps ws l) l (j + 1) = (j : Int) - 999) := Lib.hid fun j h1 h2 => by rw [blL, h1, decide_eq_true h2]; rfl
  have HblN : Hid (∀ j : Nat, hasB l ((j : Int) - 1000) = true → ¬ lvT ps ws l (blL (lvT ps ws l) l j) < lvT ps ws l ((j : Int) - 999) → blL (lvT ps ws l) l (j + 1) = blL (lvT ps ws l) l j) := Lib.hid fun j h1 h2 => by rw [blL, h1, decide_eq_false h2]; rfl
  have HblC : Hid (∀ j : Nat, hasB l ((j : Int) - 1000) = false → blL (lvT ps ws l) l (j + 1) = blL (lvT ps ws l) l j) := Lib.hid fun j h1 => by rw [blL, h1]; rfl
  clear hTr hleq hlb
  generalize blL (lvT ps ws l) l = bl at *
  generalize lvT ps ws l = T at *
  generalize hsz : nth (sums ps ws) 0 = s at *
  clear hsz
  have HP5 := Lib.hid (HP4.out.alloc (.cells #[.int .i64 0, .int .i64 0] 29))
  have HR5 := Lib.hid (HR4.out.alloc (.cells #[.int .i64 0, .int .i64 0] 29))
  have HB5 := Lib.hid (Pair.new w4 (.int .i64 0) (.int .i64 0) 29)
  have hb15 := hb14.trans ((below_new w4 (.cells #[.int .i64 0, .int .i64 0] 29)).mono hb14.size)
  have hg8 : w.heap.size + 2 ≤ w4.heap.size := by have := HR4.out.lt; omega
  go_wp2_with fail
  generalize w4.alloc (.cells #[.int .i64 0, .int .i64 0] 29) = w5 at *
  generalize w4.heap.size = g8 at *
  clear e0 e1 s0 s1 HP4 HR4
  go_loopw [7, 9] (fun v7 v9 wr => ∃ (j : Nat) (lev N D : Int), j ≤ 1999 ∧ v9 = .int .i64 ((j : Int) - 999) ∧ v7 = .int .i64 lev ∧ (1 ≤ j → lev = bl j ∧ N = nm (T (bl j)) s ∧ D = dn (T (bl j)) s) ∧ Pair wr g8 (.int .i64 N) (.int .i64 D) ∧ Pair wr w.heap.size (.slice aP nP cP) (.slice aW nW cW) ∧ Pair wr (w.heap.size + 1) (.int .i64 0) (.int .i64 0) ∧ Below w.heap.size w wr) (fun _ v9 _ => (1000 - intOf v9).toNat)
  case atStart => exact ⟨0, 0, 0, 0, by omega, rfl, rfl, fun h => by omega, HB5.out, HP5.out, HR5.out, hb15⟩
  case round =>
    clear hb15 HB5 HP5 HR5
    obtain ⟨j, lev, N, D, hj, rfl, rfl, hst, hB, hP, hR, hbel⟩ := hrel
    have x0 := hP.c0
    have x1 := hP.c1
    have b0 := hB.c0
    have b1 := hB.c1
    have HP := Lib.hid hP
    have HB := Lib.hid hB
    have HR := Lib.hid hR
    have Hst := Lib.hid hst
    clear hP hB hR hst
    by_cases hlt : (j : Int) - 999 ≤ 999
    · have hj2 : j + 1 ≤ 1999 := by omega
      have Hk : Hid ((j : Int) - 999 - 1 = (j : Int) - 1000) := Lib.hid (by omega)
      have hk1 : -999 ≤ (j : Int) - 999 := by omega
      have HLk := Lib.hid (HL.out.below hbel)
      have HTk := Lib.hid (HTb.out ((j : Int) - 999))
      have HTl := Lib.hid (HTb.out (bl j))
      have HSMk := Lib.hid (HSM.out ((j : Int) - 999))
      have HFEk := Lib.hid (HFE.out ((j : Int) - 999))
      have HLnk := Lib.hid (HLen.out ((j : Int) - 999))
      by_cases hj0 : j = 0
      · skip
        have Hbj := Lib.hid (Hbl0.out j hj0)
        have hKe : (j : Int) - 999 = -999 := by omega
        have hkn : ¬ -999 < (j : Int) - 999 := by omega
        have hkq : ((j : Int) - 999 == -999) = true := by rw [beq_iff_eq]; omega
        have HK : Hid ((j : Int) - 999 + 1 = ((j + 1 : Nat) : Int) - 999) := Lib.hid (by omega)
        have hKm : (1000 - ((j : Int) - 999 + 1)).toNat < (1000 - ((j : Int) - 999)).toNat := by omega
        have HKe := Lib.hid hKe
        clear hKe
        generalize (j : Int) - 999 = K at *
        generalize hN' : nm (T K) s = N' at *
        generalize hD' : dn (T K) s = D' at *
        have HN' := Lib.hid hN'
        have HD' := Lib.hid hD'
        clear hN' hD'
        go_upto_region 9 with (first
          | (go_at_call 122; refine (HFEk.out _ hbel).mono ?_; rintro e w6 ⟨v6, rfl, ho6, b6⟩; obtain ⟨a6, c6, rfl⟩ := ho6.shape))
        have hb6 := hbel.trans (b6.mono hbel.size)
        have HP6 := Lib.hid (HP.out.below b6)
        have HB6 := Lib.hid (HB.out.below b6)
        have HR6 := Lib.hid (HR.out.below b6)
        have y0 := HP6.out.c0
        have y1 := HP6.out.c1
        have hcap6 := ho6.cap.2.1
        have HI6 := Lib.hid ho6.ints
        have hl6 := HLnk.out
        clear b6 ho6 x0 x1 b0 b1 HP HB HR HLk
        generalize firsts ps (fS (levB ps l K)) = R at *
        go_upto_region 10 with (go_at_call 8; refine (HSMk.out _ _ _ _ hb6 HI6.out hcap6 hl6).mono ?_; rintro e w7 ⟨rfl, b7⟩
                                have q := Pair.new w7 (.int .i64 0) (.int .i64 0) 29
                                have q0 := q.c0
                                have q1 := q.c1
                                have q2 := q.f0
                                have q3 := q.f1)
        have hb7 := hb6.trans (b7.mono hb6.size)
        have HP7 := Lib.hid ((HP6.out.below b7).alloc (.cells #[.int .i64 N', .int .i64 D'] 29))
        have HB7 := Lib.hid ((HB6.out.below b7).alloc (.cells #[.int .i64 N', .int .i64 D'] 29))
        have HR7 := Lib.hid ((HR6.out.below b7).alloc (.cells #[.int .i64 N', .int .i64 D'] 29))
        have HM7 := Lib.hid (Pair.new w7 (.int .i64 N') (.int .i64 D') 29)
        have hb8 := hb7.trans ((below_new w7 (.cells #[.int .i64 N', .int .i64 D'] 29)).mono hb7.size)
        have hl1 : g8 < w7.heap.size := by have := (HB6.out.below b7).lt; omega
        clear q q0 q1 q2 q3 b7 y0 y1 HP6 HB6 HR6 hb6 hb7
        generalize w7.alloc (.cells #[.int .i64 N', .int .i64 D'] 29) = w8 at *
        generalize w7.heap.size = g12 at *
        have z0 := HM7.out.c0
        have z1 := HM7.out.c1
        have z2 := HB7.out.c0
        have z3 := HB7.out.c1
        have z4 := HB7.out.f0
        have z5 := HB7.out.f1
        have HP8 := Lib.hid ((HP7.out.drew).fr2 (b := g8) (by omega) (.int .i64 N') (.int .i64 D'))
        have HR8 := Lib.hid ((HR7.out.drew).fr2 (b := g8) (by omega) (.int .i64 N') (.int .i64 D'))
        have HB8 := Lib.hid ((HB7.out.drew).st2 (.int .i64 N') (.int .i64 D'))
        have hb9 := (hb8.drew.setCell (p := ⟨g8, 0, none⟩) (show w.heap.size ≤ g8 by omega) (.int .i64 N')).setCell (p := ⟨g8, 1, none⟩) (show w.heap.size ≤ g8 by omega) (.int .i64 D')
        go_upto_region 11 with fail
        have HMs := Lib.hid ((HM7.out.drew).fr2 (b := g8) (by omega) (.int .i64 N') (.int .i64 D'))
        refine wp_region_noPanic ?_
        refine wp_region_held_drew (S := fun W' => W'.cell? ⟨g12, 0, none⟩ = some (.int .i64 N') ∧ W'.cell? ⟨g12, 1, none⟩ = some (.int .i64 D')) (by kernel_rfl) ?_ (fun hHeld0 => ?_)
        · (try dsimp only); first | exact ⟨HM7.out.c0, HM7.out.c1⟩ | exact ⟨HMs.out.c0, HMs.out.c1⟩
        refine takeH (i := 0) (oi := _) (v := ?_) rfl (by kernel_rfl) (by kernel_rfl) (by kernel_rfl) (fun _ _ _ h => h) (Or.inl ⟨by rfl, ?_⟩) (by assumption) ?_
        rotate_left
        · first | (intro w hSw; (try dsimp only at hSw); go_simp; done) | (intro w hSw; (try dsimp only at hSw); go_simp; with_reducible rfl)
        (try simp only [Act.put, List.setIfInBounds_toArray, List.set_cons_zero, List.set_cons_succ])
        refine takeH (i := 1) (oi := _) (v := ?_) rfl (by kernel_rfl) (by kernel_rfl) (by kernel_rfl) (fun _ _ _ h => h) (Or.inl ⟨by rfl, ?_⟩) (by assumption) ?_
        rotate_left
        · first | (intro w hSw; (try dsimp only at hSw); go_simp; done) | (intro w hSw; (try dsimp only at hSw); go_simp; with_reducible rfl)
        (try simp only [Act.put, List.setIfInBounds_toArray, List.set_cons_zero, List.set_cons_succ])
        refine takeH (i := 2) (oi := _) (v := ?_) rfl (by kernel_rfl) (by kernel_rfl) (by kernel_rfl) (fun _ _ _ h => h) (Or.inl ⟨by rfl, ?_⟩) (by assumption) ?_
        rotate_left
        · first | (intro w hSw; (try dsimp only at hSw); go_simp; done) | (intro w hSw; (try dsimp only at hSw); go_simp; with_reducible rfl)
        (try simp only [Act.put, List.setIfInBounds_toArray, List.set_cons_zero, List.set_cons_succ])
        refine wpAnyH_ready (rs := [3]) (by kernel_rfl) (by simp) ?_
        refine consH rfl (fun Kq hKq => ?_)
        go_simp
        refine hKq.out _ _ ?_ (fun hHeld1 => ?_)
        · (try dsimp only); first | exact ⟨HM7.out.c0, HM7.out.c1⟩ | exact ⟨HMs.out.c0, HMs.out.c1⟩
        clear hKq Kq
        (try simp only [Act.put, List.setIfInBounds_toArray, List.set_cons_zero, List.set_cons_succ])
        clear hHeld0
        refine wpAnyH_done (by kernel_rfl) ?_ _
        refine NoPanic.normal ?_
        go_wp2_with fail
        go_roundw
        case rel => exact ⟨j + 1, K, N', D', hj2, by rw [HK.out], rfl, fun _ => by rw [Hbj.out]; exact ⟨HKe.out, by rw [← HN'.out, HKe.out], by rw [← HD'.out, HKe.out]⟩, HB8.out, HP8.out, HR8.out, hb9⟩
        case measure => exact hKm
      · have hj1 : 1 ≤ j := by omega
        obtain ⟨hlv, hN, hD⟩ := Hst.out hj1
        have hkn : -999 < (j : Int) - 999 := by omega
        have hkne : ((j : Int) - 999 == -999) = false := by rw [beq_eq_false_iff_ne]; omega
        cases hh : hasB l ((j : Int) - 1000)
        · have Hb := Lib.hid (HblC.out j hh)
          have HcC : Hid (Calls Tryz.prog 78 #[.slice aL nL cL, .int .i64 ((j : Int) - 999 - 1)] wr fun e w' => e = .returned (.bool false) ∧ w' = wr) := Lib.hid (by have := c_contains aL nL cL l ((j : Int) - 1000) wr HLk.out hn; rw [hh] at this; rw [Hk.out]; exact this)
          clear hh hkne
          have Hlv := Lib.hid hlv
          have HN := Lib.hid hN
          have HD := Lib.hid hD
          clear hlv hN hD
          have HK : Hid ((j : Int) - 999 + 1 = ((j + 1 : Nat) : Int) - 999) := Lib.hid (by omega)
          have hKm : (1000 - ((j : Int) - 999 + 1)).toNat < (1000 - ((j : Int) - 999)).toNat := by omega
          generalize (j : Int) - 999 = K at *
          go_wp2_with (go_at_call 78; refine HcC.out.mono ?_; rintro e w' ⟨rfl, rfl⟩)
          go_roundw
          case rel => exact ⟨j + 1, lev, N, D, hj2, by rw [HK.out], rfl, fun _ => by rw [Hb.out]; exact ⟨Hlv.out, HN.out, HD.out⟩, HB.out, HP.out, HR.out, hbel⟩
          case measure => exact hKm
        · have HblS' := Lib.hid (HblS.out j hh)
          have HblN' := Lib.hid (HblN.out j hh)
          have HcC : Hid (Calls Tryz.prog 78 #[.slice aL nL cL, .int .i64 ((j : Int) - 999 - 1)] wr fun e w' => e = .returned (.bool true) ∧ w' = wr) := Lib.hid (by have := c_contains aL nL cL l ((j : Int) - 1000) wr HLk.out hn; rw [hh] at this; rw [Hk.out]; exact this)
          clear hh
          have HcmpT : Hid (T (bl j) < T ((j : Int) - 999) → ∀ W : World, Calls Tryz.prog 124 #[.agg #[.int .i64 (nm (T ((j : Int) - 999)) s), .int .i64 (dn (T ((j : Int) - 999)) s)], .agg #[.int .i64 N, .int .i64 D]] W fun e w' => ∃ z : Int, z > 0 ∧ e = .returned (.int .i64 z) ∧ Below W.heap.size W w') := Lib.hid fun hc W => by
            rw [hN, hD]
            refine (impl_compared _ _ _ _ W (cut_prod hs0 hs48 HTk.out) (cut_prod hs0 hs48 HTl.out)).mono fun e w' h => ⟨_, cmp_gt.2 ((cut_lt _ _ hs0).2 hc), h.1, h.2⟩
          have HcmpF : Hid (¬ T (bl j) < T ((j : Int) - 999) → ∀ W : World, Calls Tryz.prog 124 #[.agg #[.int .i64 (nm (T ((j : Int) - 999)) s), .int .i64 (dn (T ((j : Int) - 999)) s)], .agg #[.int .i64 N, .int .i64 D]] W fun e w' => ∃ z : Int, ¬ z > 0 ∧ e = .returned (.int .i64 z) ∧ Below W.heap.size W w') := Lib.hid fun hc W => by
            rw [hN, hD]
            refine (impl_compared _ _ _ _ W (cut_prod hs0 hs48 HTk.out) (cut_prod hs0 hs48 HTl.out)).mono fun e w' h => ⟨_, fun hh => hc ((cut_lt _ _ hs0).1 (cmp_gt.1 hh)), h.1, h.2⟩
          have Hlv := Lib.hid hlv
          have HN := Lib.hid hN
          have HD := Lib.hid hD
          clear hlv hN hD
          have HK : Hid ((j : Int) - 999 + 1 = ((j + 1 : Nat) : Int) - 999) := Lib.hid (by omega)
          have hKm : (1000 - ((j : Int) - 999 + 1)).toNat < (1000 - ((j : Int) - 999)).toNat := by omega
          generalize (j : Int) - 999 = K at *
          generalize hN' : nm (T K) s = N' at *
          generalize hD' : dn (T K) s = D' at *
          have HN' := Lib.hid hN'
          have HD' := Lib.hid hD'
          clear hN' hD'
          go_upto_region 9 with (first
            | (go_at_call 78; refine HcC.out.mono ?_; rintro e w' ⟨rfl, rfl⟩)
            | (go_at_call 122; refine (HFEk.out _ hbel).mono ?_; rintro e w6 ⟨v6, rfl, ho6, b6⟩; obtain ⟨a6, c6, rfl⟩ := ho6.shape))
          have hb6 := hbel.trans (b6.mono hbel.size)
          have HP6 := Lib.hid (HP.out.below b6)
          have HB6 := Lib.hid (HB.out.below b6)
          have HR6 := Lib.hid (HR.out.below b6)
          have y0 := HP6.out.c0
          have y1 := HP6.out.c1
          have hcap6 := ho6.cap.2.1
          have HI6 := Lib.hid ho6.ints
          have hl6 := HLnk.out
          clear b6 ho6 x0 x1 b0 b1 HP HB HR HLk
          generalize firsts ps (fS (levB ps l K)) = R at *
          go_upto_region 10 with (go_at_call 8; refine (HSMk.out _ _ _ _ hb6 HI6.out hcap6 hl6).mono ?_; rintro e w7 ⟨rfl, b7⟩
                                  have q := Pair.new w7 (.int .i64 0) (.int .i64 0) 29
                                  have q0 := q.c0
                                  have q1 := q.c1
                                  have q2 := q.f0
                                  have q3 := q.f1)
          have hb7 := hb6.trans (b7.mono hb6.size)
          have HP7 := Lib.hid ((HP6.out.below b7).alloc (.cells #[.int .i64 N', .int .i64 D'] 29))
          have HB7 := Lib.hid ((HB6.out.below b7).alloc (.cells #[.int .i64 N', .int .i64 D'] 29))
          have HR7 := Lib.hid ((HR6.out.below b7).alloc (.cells #[.int .i64 N', .int .i64 D'] 29))
          have HM7 := Lib.hid (Pair.new w7 (.int .i64 N') (.int .i64 D') 29)
          have hb8 := hb7.trans ((below_new w7 (.cells #[.int .i64 N', .int .i64 D'] 29)).mono hb7.size)
          have hl1 : g8 < w7.heap.size := by have := (HB6.out.below b7).lt; omega
          clear q q0 q1 q2 q3 b7 y0 y1 HP6 HB6 HR6 hb6 hb7
          generalize w7.alloc (.cells #[.int .i64 N', .int .i64 D'] 29) = w8 at *
          generalize w7.heap.size = g12 at *
          have z0 := HM7.out.c0
          have z1 := HM7.out.c1
          have z2 := HB7.out.c0
          have z3 := HB7.out.c1
          have z4 := HB7.out.f0
          have z5 := HB7.out.f1
          by_cases hcmp : T (bl j) < T K
          · have Hbj := Lib.hid (HblS'.out hcmp)
            have HcP := Lib.hid (HcmpT.out hcmp)
            clear hcmp
            go_upto_region 11 with (go_at_call 124; refine (HcP.out _).mono ?_; rintro e w9 ⟨z, hz, rfl, b9⟩)
            have HP9 := Lib.hid (HP7.out.below b9)
            have HB9 := Lib.hid (HB7.out.below b9)
            have HR9 := Lib.hid (HR7.out.below b9)
            have HM9 := Lib.hid (HM7.out.below b9)
            clear z0 z1 z2 z3 z4 z5
            have z0 := HM9.out.c0
            have z1 := HM9.out.c1
            have z2 := HB9.out.c0
            have z3 := HB9.out.c1
            have z4 := HB9.out.f0
            have z5 := HB9.out.f1
            have HP8 := Lib.hid ((HP9.out.drew).fr2 (b := g8) (by omega) (.int .i64 N') (.int .i64 D'))
            have HR8 := Lib.hid ((HR9.out.drew).fr2 (b := g8) (by omega) (.int .i64 N') (.int .i64 D'))
            have HB8 := Lib.hid ((HB9.out.drew).st2 (.int .i64 N') (.int .i64 D'))
            have hb9 := ((hb8.trans (b9.mono hb8.size)).drew.setCell (p := ⟨g8, 0, none⟩) (show w.heap.size ≤ g8 by omega) (.int .i64 N')).setCell (p := ⟨g8, 1, none⟩) (show w.heap.size ≤ g8 by omega) (.int .i64 D')
            have HMs := Lib.hid ((HM9.out.drew).fr2 (b := g8) (by omega) (.int .i64 N') (.int .i64 D'))
            refine wp_region_noPanic ?_
            refine wp_region_held_drew (S := fun W' => W'.cell? ⟨g12, 0, none⟩ = some (.int .i64 N') ∧ W'.cell? ⟨g12, 1, none⟩ = some (.int .i64 D')) (by kernel_rfl) ?_ (fun hHeld0 => ?_)
            · (try dsimp only); first | exact ⟨HM9.out.c0, HM9.out.c1⟩ | exact ⟨HMs.out.c0, HMs.out.c1⟩
            refine takeH (i := 0) (oi := _) (v := ?_) rfl (by kernel_rfl) (by kernel_rfl) (by kernel_rfl) (fun _ _ _ h => h) (Or.inl ⟨by rfl, ?_⟩) (by assumption) ?_
            rotate_left
            · first | (intro w hSw; (try dsimp only at hSw); go_simp; done) | (intro w hSw; (try dsimp only at hSw); go_simp; with_reducible rfl)
            (try simp only [Act.put, List.setIfInBounds_toArray, List.set_cons_zero, List.set_cons_succ])
            refine takeH (i := 1) (oi := _) (v := ?_) rfl (by kernel_rfl) (by kernel_rfl) (by kernel_rfl) (fun _ _ _ h => h) (Or.inl ⟨by rfl, ?_⟩) (by assumption) ?_
            rotate_left
            · first | (intro w hSw; (try dsimp only at hSw); go_simp; done) | (intro w hSw; (try dsimp only at hSw); go_simp; with_reducible rfl)
            (try simp only [Act.put, List.setIfInBounds_toArray, List.set_cons_zero, List.set_cons_succ])
            refine takeH (i := 2) (oi := _) (v := ?_) rfl (by kernel_rfl) (by kernel_rfl) (by kernel_rfl) (fun _ _ _ h => h) (Or.inl ⟨by rfl, ?_⟩) (by assumption) ?_
            rotate_left
            · first | (intro w hSw; (try dsimp only at hSw); go_simp; done) | (intro w hSw; (try dsimp only at hSw); go_simp; with_reducible rfl)
            (try simp only [Act.put, List.setIfInBounds_toArray, List.set_cons_zero, List.set_cons_succ])
            refine wpAnyH_ready (rs := [3]) (by kernel_rfl) (by simp) ?_
            refine consH rfl (fun Kq hKq => ?_)
            go_simp
            refine hKq.out _ _ ?_ (fun hHeld1 => ?_)
            · (try dsimp only); first | exact ⟨HM9.out.c0, HM9.out.c1⟩ | exact ⟨HMs.out.c0, HMs.out.c1⟩
            clear hKq Kq
            (try simp only [Act.put, List.setIfInBounds_toArray, List.set_cons_zero, List.set_cons_succ])
            clear hHeld0
            refine wpAnyH_done (by kernel_rfl) ?_ _
            refine NoPanic.normal ?_
            go_wp2_with fail
            go_roundw
            case rel => exact ⟨j + 1, K, N', D', hj2, by rw [HK.out], rfl, fun _ => by rw [Hbj.out]; exact ⟨rfl, HN'.out.symm, HD'.out.symm⟩, HB8.out, HP8.out, HR8.out, hb9⟩
            case measure => exact hKm
          · have Hbj := Lib.hid (HblN'.out (Int.not_lt.1 hcmp))
            have HcP := Lib.hid (HcmpF.out (Int.not_lt.1 hcmp))
            clear hcmp
            go_wp2_with (go_at_call 124; refine (HcP.out _).mono ?_; rintro e w9 ⟨z, hz, rfl, b9⟩)
            go_roundw
            case rel => exact ⟨j + 1, lev, N, D, hj2, by rw [HK.out], rfl, fun _ => by rw [Hbj.out]; exact ⟨Hlv.out, HN.out, HD.out⟩, HB7.out.below b9, HP7.out.below b9, HR7.out.below b9, hb8.trans (b9.mono hb8.size)⟩
            case measure => exact hKm
    · obtain rfl : j = 1999 := by omega
      obtain ⟨hlv, hN, hD⟩ := Hst.out (by omega)
      rw [Hfin.out] at hlv hN hD
      rw [← Hret.out.1] at hN
      rw [← Hret.out.2] at hD
      have Hlv := Lib.hid hlv
      have HN := Lib.hid hN
      have HD := Lib.hid hD
      clear hlv hN hD
      have q3 := HR.out.c0
      have q4 := HR.out.c1
      have q5 := HR.out.f0
      have q6 := HR.out.f1
      have hr := HR.out.set (.int .i64 N) (.int .i64 D)
      have hg8' : w.heap.size + 1 ≠ g8 := by omega
      have HMs := Lib.hid ((HB.out.drew).fr2 (b := w.heap.size + 1) hg8' (.int .i64 N) (.int .i64 D))
      go_upto_region 12 with fail
      refine wp_region_noPanic ?_
      refine wp_region_held_drew (S := fun W' => W'.cell? ⟨g8, 0, none⟩ = some (.int .i64 N) ∧ W'.cell? ⟨g8, 1, none⟩ = some (.int .i64 D)) (by kernel_rfl) ?_ (fun hHeld0 => ?_)
      · (try dsimp only); first | exact ⟨HB.out.c0, HB.out.c1⟩ | exact ⟨HMs.out.c0, HMs.out.c1⟩
      refine takeH (i := 0) (oi := _) (v := ?_) rfl (by kernel_rfl) (by kernel_rfl) (by kernel_rfl) (fun _ _ _ h => h) (Or.inl ⟨by rfl, ?_⟩) (by assumption) ?_
      rotate_left
      · first | (intro w hSw; (try dsimp only at hSw); go_simp; done) | (intro w hSw; (try dsimp only at hSw); go_simp; with_reducible rfl)
      (try simp only [Act.put, List.setIfInBounds_toArray, List.set_cons_zero, List.set_cons_succ])
      refine takeH (i := 1) (oi := _) (v := ?_) rfl (by kernel_rfl) (by kernel_rfl) (by kernel_rfl) (fun _ _ _ h => h) (Or.inl ⟨by rfl, ?_⟩) (by assumption) ?_
      rotate_left
      · first | (intro w hSw; (try dsimp only at hSw); go_simp; done) | (intro w hSw; (try dsimp only at hSw); go_simp; with_reducible rfl)
      (try simp only [Act.put, List.setIfInBounds_toArray, List.set_cons_zero, List.set_cons_succ])
      refine takeH (i := 2) (oi := _) (v := ?_) rfl (by kernel_rfl) (by kernel_rfl) (by kernel_rfl) (fun _ _ _ h => h) (Or.inl ⟨by rfl, ?_⟩) (by assumption) ?_
      rotate_left
      · first | (intro w hSw; (try dsimp only at hSw); go_simp; done) | (intro w hSw; (try dsimp only at hSw); go_simp; with_reducible rfl)
      (try simp only [Act.put, List.setIfInBounds_toArray, List.set_cons_zero, List.set_cons_succ])
      refine wpAnyH_ready (rs := [3]) (by kernel_rfl) (by simp) ?_
      refine consH rfl (fun Kq hKq => ?_)
      go_simp
      refine hKq.out _ _ ?_ (fun hHeld1 => ?_)
      · (try dsimp only); first | exact ⟨HB.out.c0, HB.out.c1⟩ | exact ⟨HMs.out.c0, HMs.out.c1⟩
      clear hKq Kq
      (try simp only [Act.put, List.setIfInBounds_toArray, List.set_cons_zero, List.set_cons_succ])
      clear hHeld0
      refine takeH (i := 4) (oi := _) (v := ?_) rfl (by kernel_rfl) (by kernel_rfl) (by kernel_rfl) (fun _ _ _ h => h) (Or.inl ⟨by rfl, ?_⟩) (by assumption) ?_
      rotate_left
      · first | (intro w hSw; (try dsimp only at hSw); go_simp; done) | (intro w hSw; (try dsimp only at hSw); go_simp; with_reducible rfl)
      (try simp only [Act.put, List.setIfInBounds_toArray, List.set_cons_zero, List.set_cons_succ])
      refine wpAnyH_done (by kernel_rfl) ?_ _
      refine NoPanic.normal ?_
      go_wp2_with fail
      exact bodyPost_ret (v := .tuple #[.int .i64 lev, .agg #[.int .i64 N, .int .i64 D], .bool true]) (by simp [results, Tryz.results66, go_sem, hr.1, hr.2]) rfl ⟨by rw [Hpays.out, Hlv.out, HN.out, HD.out], ((hbel.setCell (by simp) _).setCell (by simp) _).drew⟩
theorem KeepR.set2 {u w : World} {g : Nat} {x y : Value} (h : KeepR u w) (hg : u.heap.size ≤ g) : KeepR u ((w.setCell ⟨g, 0, none⟩ x).setCell ⟨g, 1, none⟩ y) := (Below.setCell h hg x).setCell hg y
set_option maxRecDepth 100000 in
set_option maxHeartbeats 1000000 in
theorem spec_BestLevel (aP : Option Addr) (nP cP : Nat) (aW : Option Addr) (nW cW : Nat) (ps ws : List Int) (aL : Option Addr) (nL cL : Nat) (l : List Int) (w : World) (h : Tre w aP nP cP aW nW cW ps ws) (hL : Ints w aL nL l) (_hLc : aL = none → cL = 0) (hn : nL ≤ 1048576) :
    Calls Tryz.prog 67 #[.agg #[.slice aP nP cP, .slice aW nW cW], .slice aL nL cL] w fun e w' => e = .returned (.tuple #[.int .i64 (lvV ps ws l), .agg #[.int .i64 (lvN ps ws l), .int .i64 (lvD ps ws l)], .bool (paysB ps ws l)]) ∧ Below w.heap.size w w' := by
  have hl := h.p.1
  have hlw := h.w.1
  have hpn := h.pn
  have hwn := h.wn
  have hb1 := below_new w (.cells #[.slice aP nP cP, .slice aW nW cW] 26)
  have hP1 := Lib.hid (Pair.new w (.slice aP nP cP) (.slice aW nW cW) 26)
  have H := Lib.hid h
  have Hl := Lib.hid hl
  have Hlw := Lib.hid hlw
  clear h hl hlw
  have HL := Lib.hid hL
  have hll := Lib.hid hL.1
  clear hL
  go_enter Tryz.func67, Tryz.ntmps67
  have hbb := hb1.trans ((below_new (w.alloc (.cells #[.slice aP nP cP, .slice aW nW cW] 26)) (.cells #[.int .i64 0, .int .i64 0] 29)).mono hb1.size)
  have hPP := Lib.hid (hP1.out.alloc (.cells #[.int .i64 0, .int .i64 0] 29))
  have hR1 := Pair.new (w.alloc (.cells #[.slice aP nP cP, .slice aW nW cW] 26)) (.int .i64 0) (.int .i64 0) 29
  rw [show (w.alloc (.cells #[.slice aP nP cP, .slice aW nW cW] 26)).heap.size = w.heap.size + 1 by simp] at hR1
  have HR1 := Lib.hid hR1
  have c0 := hPP.out.c0
  have c1 := hPP.out.c1
  clear hb1 hP1 hR1
  go_wp2_with fail
  generalize ((w.alloc (.cells #[.slice aP nP cP, .slice aW nW cW] 26)).alloc (.cells #[.int .i64 0, .int .i64 0] 29)) = w2 at *
  refine (spec_l4Pays _ _ _ _ _ _ ps ws _ _ _ l _ (H.out.below hbb) (HL.out.below hbb) hn).mono ?_
  rintro e w3 ⟨rfl, hb3⟩
  have HP3 := Lib.hid (hPP.out.below hb3)
  have HR3 := Lib.hid (HR1.out.below hb3)
  have d0 := HP3.out.c0
  have d1 := HP3.out.c1
  have hb13 := hbb.trans (hb3.mono hbb.size)
  clear hb3 c0 c1 HR1 hPP hbb
  cases hT : paysB ps ws l
  · have Hv := Lib.hid hT
    have q3 := HR3.out.c0
    have q4 := HR3.out.c1
    have q5 := HR3.out.f0
    have q6 := HR3.out.f1
    have hr := HR3.out.set (.int .i64 0) (.int .i64 0)
    clear hT
    go_wp2_with fail
    exact bodyPost_ret (v := .tuple #[.int .i64 0, .agg #[.int .i64 0, .int .i64 0], .bool false]) (by simp [results, Tryz.results67, go_sem, hr.1, hr.2]) rfl ⟨by rw [Hv.out, (lv_no Hv.out).1, (lv_no Hv.out).2.1, (lv_no Hv.out).2.2], (hb13.setCell (by simp) _).setCell (by simp) _⟩
  have Hpays := Lib.hid hT
  obtain ⟨hTr, _, _, hleq, hlb⟩ := paysB_t hT
  have hnL : nP = nL := by have := hll.out; have := Hl.out; omega
  have hn24 := hTr.n24
  have hn1 := hTr.n1
  have hnP : 1 ≤ nP ∧ nP ≤ 24 := by have := Hl.out; omega
  have HTr := Lib.hid hTr
  have Hlb := Lib.hid hlb
  have hs0 : 0 < nth (sums ps ws) 0 := by have := sums_pos hTr 0 (by have := hTr.n1; omega); omega
  have hs48 : nth (sums ps ws) 0 ≤ 480 := (sums_bd hTr 0).2
  have HTb := Lib.hid (lvT_bd Hpays.out)
  clear hT hTr hleq hlb hn24 hn1 hpn hwn hn
  subst hnL
  have HLv : Hid (∀ (k : Int) (W : World), Below w.heap.size w W → Calls Tryz.prog 123 #[.agg #[.slice aP nP cP, .slice aW nW cW], .slice aL nP cL, .int .i64 k] W fun e w' => ∃ v, e = .returned v ∧ Own w' W.heap.size v (firsts ps (fS (levB ps l k))) ∧ Below W.heap.size W w') := Lib.hid fun k W hW => spec_l4Level _ _ _ _ _ _ ps ws _ _ _ l k W (H.out.below hW) HTr.out (HL.out.below hW) rfl
  have HMn : Hid (∀ (k : Int) (W : World) (aS : Option Addr) (nS cS : Nat), Below w.heap.size w W → Ints W aS nS (firsts ps (fS (levB ps l k))) → Calls Tryz.prog 98 #[.agg #[.slice aP nP cP, .slice aW nW cW], .slice aL nP cL, .slice aS nS cS] W fun e w' => e = .returned (.agg #[.int .i64 (nm (lvT ps ws l k) (nth (sums ps ws) 0)), .int .i64 (dn (lvT ps ws l k) (nth (sums ps ws) 0))]) ∧ Below W.heap.size W w') := Lib.hid fun k W aS nS cS hW hS => spec_l4Mean _ _ _ _ _ _ ps ws _ _ _ l _ _ _ (firsts ps (fS (levB ps l k))) W (H.out.below hW) HTr.out (HL.out.below hW) Hlb.out rfl hS (lev_stop HTr.out.toPa k)
  have Hfin : Hid (slL (lvT ps ws l) l nP = lvV ps ws l) := Lib.hid (by rw [(lv_yes Hpays.out).1, hll.out])
  have Hret : Hid (lvN ps ws l = nm (lvT ps ws l (lvV ps ws l)) (nth (sums ps ws) 0) ∧ lvD ps ws l = dn (lvT ps ws l (lvV ps ws l)) (nth (sums ps ws) 0)) := Lib.hid (lv_yes Hpays.out).2
  have Hs0 : Hid (slL (lvT ps ws l) l 0 = -999) := Lib.hid rfl
  have HsY : Hid (∀ x : Nat, nth l x + 1 ≤ 999 → (lvT ps ws l (slL (lvT ps ws l) l x) < lvT ps ws l (nth l x + 1) ∨ (lvT ps ws l (nth l x + 1) = lvT ps ws l (slL (lvT ps ws l) l x) ∧ nth l x + 1 < slL (lvT ps ws l) l x)) → slL (lvT ps ws l) l (x + 1) = nth l x + 1) := Lib.hid fun x h1 h2 => by rw [slL, if_pos (by rw [decide_eq_true h1]; simpa using h2)]
  have HsN : Hid (∀ x : Nat, ¬ (nth l x + 1 ≤ 999 ∧ (lvT ps ws l (slL (lvT ps ws l) l x) < lvT ps ws l (nth l x + 1) ∨ (lvT ps ws l (nth l x + 1) = lvT ps ws l (slL (lvT ps ws l) l x) ∧ nth l x + 1 < slL (lvT ps ws l) l x))) → slL (lvT ps ws l) l (x + 1) = slL (lvT ps ws l) l x) := Lib.hid fun x h => by rw [slL, if_neg (by simpa using h)]
  generalize slL (lvT ps ws l) l = sl at *
  generalize lvT ps ws l = T at *
  generalize hsz : nth (sums ps ws) 0 = s at *
  clear hsz
  have HMn0 := Lib.hid (HMn.out (-999))
  generalize hN0 : nm (T (-999)) s = N0 at *
  generalize hD0 : dn (T (-999)) s = D0 at *
  have HN0 := Lib.hid hN0
  have HD0 := Lib.hid hD0
  clear hN0 hD0
  go_upto_region 3 with fail
  go_cut [7, 8] (fun v7 v8 wc => v7 = .int .i64 (-999) ∧ ∃ g : Nat, v8 = .pointer (some ⟨g, 0, none⟩) ∧ Pair wc g (.int .i64 N0) (.int .i64 D0) ∧ KeepR w3 wc ∧ w3.heap.size ≤ g)
  case first =>
    refine wp_region_noPanic ?_
    refine wp_region_held_drew (S := fun W' => KeepR w3 W' ∧ W'.cell? ⟨w.heap.size, 0, none⟩ = some (.slice aP nP cP) ∧ W'.cell? ⟨w.heap.size, 1, none⟩ = some (.slice aW nW cW)) (by kernel_rfl) ?_ (fun hHeld0 => ?_)
    · (try dsimp only); first | exact keep2 (by assumption) HP3.out | exact keep2 (KeepR.start _) HP3.out | exact keep2 (KeepR.alloc0 _ _) HP3.out | exact keep2 (KeepR.alloc (by assumption : KeepR w3 _ ∧ _).1 _) HP3.out | exact keep2 (KeepR.set2 (by assumption : KeepR w3 _ ∧ _).1 hge6) HP3.out | exact keep2 (KeepR.alloc hk6 _) HP3.out
    refine takeH (i := 0) (oi := _) (v := ?_) rfl (by kernel_rfl) (by kernel_rfl) (by kernel_rfl) (fun _ _ _ h => h) (Or.inl ⟨by rfl, ?_⟩) (by assumption) ?_
    rotate_left
    · first | (intro w hSw; (try dsimp only at hSw); go_simp; done) | (intro w hSw; (try dsimp only at hSw); go_simp; with_reducible rfl)
    (try simp only [Act.put, List.setIfInBounds_toArray, List.set_cons_zero, List.set_cons_succ])
    refine takeH (i := 1) (oi := _) (v := ?_) rfl (by kernel_rfl) (by kernel_rfl) (by kernel_rfl) (fun _ _ _ h => h) (Or.inl ⟨by rfl, ?_⟩) (by assumption) ?_
    rotate_left
    · first | (intro w hSw; (try dsimp only at hSw); go_simp; done) | (intro w hSw; (try dsimp only at hSw); go_simp; with_reducible rfl)
    (try simp only [Act.put, List.setIfInBounds_toArray, List.set_cons_zero, List.set_cons_succ])
    refine takeH (i := 2) (oi := _) (v := ?_) rfl (by kernel_rfl) (by kernel_rfl) (by kernel_rfl) (fun _ _ _ h => h) (Or.inl ⟨by rfl, ?_⟩) (by assumption) ?_
    rotate_left
    · first | (intro w hSw; (try dsimp only at hSw); go_simp; done) | (intro w hSw; (try dsimp only at hSw); go_simp; with_reducible rfl)
    (try simp only [Act.put, List.setIfInBounds_toArray, List.set_cons_zero, List.set_cons_succ])
    refine takeH (i := 3) (oi := _) (v := ?_) rfl (by kernel_rfl) (by kernel_rfl) (by kernel_rfl) (fun _ _ _ h => h) (Or.inl ⟨by rfl, ?_⟩) (by assumption) ?_
    rotate_left
    · first | (intro w hSw; (try dsimp only at hSw); go_simp; done) | (intro w hSw; (try dsimp only at hSw); go_simp; with_reducible rfl)
    (try simp only [Act.put, List.setIfInBounds_toArray, List.set_cons_zero, List.set_cons_succ])
    refine wpAnyH_ready (rs := [4, 6]) (by kernel_rfl) (by simp) ?_
    refine consM rfl (fun Kq hKq => ?_) (consH rfl (fun Kq hKq => ?_))
    · go_simp
      (go_at_call 123; refine (HLv.out (-999) _ (hb13.trans (Below.mono (by assumption : KeepR w3 _ ∧ _).1 hb13.size))).mono ?_; rintro e w5 ⟨v5, rfl, o5, b5⟩; obtain ⟨a5, q5, rfl⟩ := o5.shape; have I5 := o5.ints; have hk5 := KeepR.next b5 (by assumption : KeepR w3 _ ∧ _).1; clear o5)
      refine hKq.out _ _ ?_ (fun hHeld1 => ?_)
      · (try dsimp only); first | exact keep2 (by assumption) HP3.out | exact keep2 (KeepR.start _) HP3.out | exact keep2 (KeepR.alloc0 _ _) HP3.out | exact keep2 (KeepR.alloc (by assumption : KeepR w3 _ ∧ _).1 _) HP3.out | exact keep2 (KeepR.set2 (by assumption : KeepR w3 _ ∧ _).1 hge6) HP3.out | exact keep2 (KeepR.alloc hk6 _) HP3.out
      clear hKq Kq
      (try simp only [Act.put, List.setIfInBounds_toArray, List.set_cons_zero, List.set_cons_succ])
      clear hHeld0
      refine wpAnyH_ready (rs := [5, 6]) (by kernel_rfl) (by simp) ?_
      refine consM rfl (fun Kq hKq => ?_) (consH rfl (fun Kq hKq => ?_))
      · go_simp
        (go_at_call 98; refine (HMn0.out _ _ _ _ (hb13.trans (Below.mono (by assumption : KeepR w3 _ ∧ _).1 hb13.size)) I5).mono ?_; rintro e w6 ⟨rfl, b6⟩; have hk6 := KeepR.next b6 (by assumption : KeepR w3 _ ∧ _).1; skip)
        refine hKq.out _ _ ?_ (fun hHeld2 => ?_)
        · (try dsimp only); first | exact keep2 (by assumption) HP3.out | exact keep2 (KeepR.start _) HP3.out | exact keep2 (KeepR.alloc0 _ _) HP3.out | exact keep2 (KeepR.alloc (by assumption : KeepR w3 _ ∧ _).1 _) HP3.out | exact keep2 (KeepR.set2 (by assumption : KeepR w3 _ ∧ _).1 hge6) HP3.out | exact keep2 (KeepR.alloc hk6 _) HP3.out
        clear hKq Kq
        (try simp only [Act.put, List.setIfInBounds_toArray, List.set_cons_zero, List.set_cons_succ])
        clear hHeld1
        refine wpAnyH_ready (rs := [6]) (by kernel_rfl) (by simp) ?_
        refine consH rfl (fun Kq hKq => ?_)
        go_simp
        have P6c := Pair.new w6 (.int .i64 0) (.int .i64 0) 29; have hge6 : w3.heap.size ≤ w6.heap.size := Below.size hk6; have z0 := P6c.c0; have z1 := P6c.c1; have z4 := P6c.f0; have z5 := P6c.f1; have PF := Lib.hid (P6c.st2 (.int .i64 N0) (.int .i64 D0))
        refine hKq.out _ _ ?_ (fun hHeld3 => ?_)
        · (try dsimp only); first | exact keep2 (by assumption) HP3.out | exact keep2 (KeepR.start _) HP3.out | exact keep2 (KeepR.alloc0 _ _) HP3.out | exact keep2 (KeepR.alloc (by assumption : KeepR w3 _ ∧ _).1 _) HP3.out | exact keep2 (KeepR.set2 (by assumption : KeepR w3 _ ∧ _).1 hge6) HP3.out | exact keep2 (KeepR.alloc hk6 _) HP3.out
        clear hKq Kq
        (try simp only [Act.put, List.setIfInBounds_toArray, List.set_cons_zero, List.set_cons_succ])
        clear hHeld2
        refine takeH (i := 7) (oi := _) (v := ?_) rfl (by kernel_rfl) (by kernel_rfl) (by kernel_rfl) (fun _ _ _ h => h) (Or.inl ⟨by rfl, ?_⟩) (by assumption) ?_
        rotate_left
        · first | (intro w hSw; (try dsimp only at hSw); go_simp; done) | (intro w hSw; (try dsimp only at hSw); go_simp; with_reducible rfl)
        (try simp only [Act.put, List.setIfInBounds_toArray, List.set_cons_zero, List.set_cons_succ])
        refine wpAnyH_ready (rs := [8]) (by kernel_rfl) (by simp) ?_
        refine consH rfl (fun Kq hKq => ?_)
        go_simp
        refine hKq.out _ _ ?_ (fun hHeld4 => ?_)
        · (try dsimp only); first | exact keep2 (by assumption) HP3.out | exact keep2 (KeepR.start _) HP3.out | exact keep2 (KeepR.alloc0 _ _) HP3.out | exact keep2 (KeepR.alloc (by assumption : KeepR w3 _ ∧ _).1 _) HP3.out | exact keep2 (KeepR.set2 (by assumption : KeepR w3 _ ∧ _).1 hge6) HP3.out | exact keep2 (KeepR.alloc hk6 _) HP3.out
        clear hKq Kq
        (try simp only [Act.put, List.setIfInBounds_toArray, List.set_cons_zero, List.set_cons_succ])
        clear hHeld3
        refine wpAnyH_done (by kernel_rfl) ?_ _
        refine NoPanic.normal ?_
        go_wp2_with fail
        go_meet
        first
          | exact ⟨rfl, _, rfl, PF.out, KeepR.set2 hk6 hge6, hge6⟩
          | exact ⟨rfl, _, rfl, (Pair.new w6 _ _ _), KeepR.alloc hk6 _, hge6⟩
      · go_simp
        have P6 := Pair.new w5 (.int .i64 0) (.int .i64 0) 29; have hge6 : w3.heap.size ≤ w5.heap.size := Below.size hk5; have I5 := I5.below (below_new w5 (.cells #[.int .i64 0, .int .i64 0] 29))
        refine hKq.out _ _ ?_ (fun hHeld2 => ?_)
        · (try dsimp only); first | exact keep2 (by assumption) HP3.out | exact keep2 (KeepR.start _) HP3.out | exact keep2 (KeepR.alloc0 _ _) HP3.out | exact keep2 (KeepR.alloc (by assumption : KeepR w3 _ ∧ _).1 _) HP3.out | exact keep2 (KeepR.set2 (by assumption : KeepR w3 _ ∧ _).1 hge6) HP3.out | exact keep2 (KeepR.alloc hk6 _) HP3.out
        clear hKq Kq
        (try simp only [Act.put, List.setIfInBounds_toArray, List.set_cons_zero, List.set_cons_succ])
        clear hHeld1
        refine wpAnyH_ready (rs := [5]) (by kernel_rfl) (by simp) ?_
        refine consH rfl (fun Kq hKq => ?_)
        go_simp
        (go_at_call 98; refine (HMn0.out _ _ _ _ (hb13.trans (Below.mono (by assumption : KeepR w3 _ ∧ _).1 hb13.size)) I5).mono ?_; rintro e w6 ⟨rfl, b6⟩; have hk6 := KeepR.next b6 (by assumption : KeepR w3 _ ∧ _).1; have P6c := P6.below b6; have z0 := P6c.c0; have z1 := P6c.c1; have z4 := P6c.f0; have z5 := P6c.f1; have PF := Lib.hid (P6c.st2 (.int .i64 N0) (.int .i64 D0)))
        refine hKq.out _ _ ?_ (fun hHeld3 => ?_)
        · (try dsimp only); first | exact keep2 (by assumption) HP3.out | exact keep2 (KeepR.start _) HP3.out | exact keep2 (KeepR.alloc0 _ _) HP3.out | exact keep2 (KeepR.alloc (by assumption : KeepR w3 _ ∧ _).1 _) HP3.out | exact keep2 (KeepR.set2 (by assumption : KeepR w3 _ ∧ _).1 hge6) HP3.out | exact keep2 (KeepR.alloc hk6 _) HP3.out
        clear hKq Kq
        (try simp only [Act.put, List.setIfInBounds_toArray, List.set_cons_zero, List.set_cons_succ])
        clear hHeld2
        refine takeH (i := 7) (oi := _) (v := ?_) rfl (by kernel_rfl) (by kernel_rfl) (by kernel_rfl) (fun _ _ _ h => h) (Or.inl ⟨by rfl, ?_⟩) (by assumption) ?_
        rotate_left
        · first | (intro w hSw; (try dsimp only at hSw); go_simp; done) | (intro w hSw; (try dsimp only at hSw); go_simp; with_reducible rfl)
        (try simp only [Act.put, List.setIfInBounds_toArray, List.set_cons_zero, List.set_cons_succ])
        refine wpAnyH_ready (rs := [8]) (by kernel_rfl) (by simp) ?_
        refine consH rfl (fun Kq hKq => ?_)
        go_simp
        refine hKq.out _ _ ?_ (fun hHeld4 => ?_)
        · (try dsimp only); first | exact keep2 (by assumption) HP3.out | exact keep2 (KeepR.start _) HP3.out | exact keep2 (KeepR.alloc0 _ _) HP3.out | exact keep2 (KeepR.alloc (by assumption : KeepR w3 _ ∧ _).1 _) HP3.out | exact keep2 (KeepR.set2 (by assumption : KeepR w3 _ ∧ _).1 hge6) HP3.out | exact keep2 (KeepR.alloc hk6 _) HP3.out
        clear hKq Kq
        (try simp only [Act.put, List.setIfInBounds_toArray, List.set_cons_zero, List.set_cons_succ])
        clear hHeld3
        refine wpAnyH_done (by kernel_rfl) ?_ _
        refine NoPanic.normal ?_
        go_wp2_with fail
        go_meet
        first
          | exact ⟨rfl, _, rfl, PF.out, KeepR.set2 hk6 hge6, hge6⟩
          | exact ⟨rfl, _, rfl, (Pair.new w6 _ _ _), KeepR.alloc hk6 _, hge6⟩
    · go_simp
      have P6 := (Pair.new w3 (.int .i64 0) (.int .i64 0) 29).drew; have hge6 : w3.heap.size ≤ w3.heap.size := Nat.le_refl _
      refine hKq.out _ _ ?_ (fun hHeld1 => ?_)
      · (try dsimp only); first | exact keep2 (by assumption) HP3.out | exact keep2 (KeepR.start _) HP3.out | exact keep2 (KeepR.alloc0 _ _) HP3.out | exact keep2 (KeepR.alloc (by assumption : KeepR w3 _ ∧ _).1 _) HP3.out | exact keep2 (KeepR.set2 (by assumption : KeepR w3 _ ∧ _).1 hge6) HP3.out | exact keep2 (KeepR.alloc hk6 _) HP3.out
      clear hKq Kq
      (try simp only [Act.put, List.setIfInBounds_toArray, List.set_cons_zero, List.set_cons_succ])
      clear hHeld0
      refine wpAnyH_ready (rs := [4]) (by kernel_rfl) (by simp) ?_
      refine consH rfl (fun Kq hKq => ?_)
      go_simp
      (go_at_call 123; refine (HLv.out (-999) _ (hb13.trans (Below.mono (by assumption : KeepR w3 _ ∧ _).1 hb13.size))).mono ?_; rintro e w5 ⟨v5, rfl, o5, b5⟩; obtain ⟨a5, q5, rfl⟩ := o5.shape; have I5 := o5.ints; have hk5 := KeepR.next b5 (by assumption : KeepR w3 _ ∧ _).1; clear o5; have P6b := P6.below b5)
      refine hKq.out _ _ ?_ (fun hHeld2 => ?_)
      · (try dsimp only); first | exact keep2 (by assumption) HP3.out | exact keep2 (KeepR.start _) HP3.out | exact keep2 (KeepR.alloc0 _ _) HP3.out | exact keep2 (KeepR.alloc (by assumption : KeepR w3 _ ∧ _).1 _) HP3.out | exact keep2 (KeepR.set2 (by assumption : KeepR w3 _ ∧ _).1 hge6) HP3.out | exact keep2 (KeepR.alloc hk6 _) HP3.out
      clear hKq Kq
      (try simp only [Act.put, List.setIfInBounds_toArray, List.set_cons_zero, List.set_cons_succ])
      clear hHeld1
      refine wpAnyH_ready (rs := [5]) (by kernel_rfl) (by simp) ?_
      refine consH rfl (fun Kq hKq => ?_)
      go_simp
      (go_at_call 98; refine (HMn0.out _ _ _ _ (hb13.trans (Below.mono (by assumption : KeepR w3 _ ∧ _).1 hb13.size)) I5).mono ?_; rintro e w6 ⟨rfl, b6⟩; have hk6 := KeepR.next b6 (by assumption : KeepR w3 _ ∧ _).1; have P6c := P6b.below b6; have z0 := P6c.c0; have z1 := P6c.c1; have z4 := P6c.f0; have z5 := P6c.f1; have PF := Lib.hid (P6c.st2 (.int .i64 N0) (.int .i64 D0)))
      refine hKq.out _ _ ?_ (fun hHeld3 => ?_)
      · (try dsimp only); first | exact keep2 (by assumption) HP3.out | exact keep2 (KeepR.start _) HP3.out | exact keep2 (KeepR.alloc0 _ _) HP3.out | exact keep2 (KeepR.alloc (by assumption : KeepR w3 _ ∧ _).1 _) HP3.out | exact keep2 (KeepR.set2 (by assumption : KeepR w3 _ ∧ _).1 hge6) HP3.out | exact keep2 (KeepR.alloc hk6 _) HP3.out
      clear hKq Kq
      (try simp only [Act.put, List.setIfInBounds_toArray, List.set_cons_zero, List.set_cons_succ])
      clear hHeld2
      refine takeH (i := 7) (oi := _) (v := ?_) rfl (by kernel_rfl) (by kernel_rfl) (by kernel_rfl) (fun _ _ _ h => h) (Or.inl ⟨by rfl, ?_⟩) (by assumption) ?_
      rotate_left
      · first | (intro w hSw; (try dsimp only at hSw); go_simp; done) | (intro w hSw; (try dsimp only at hSw); go_simp; with_reducible rfl)
      (try simp only [Act.put, List.setIfInBounds_toArray, List.set_cons_zero, List.set_cons_succ])
      refine wpAnyH_ready (rs := [8]) (by kernel_rfl) (by simp) ?_
      refine consH rfl (fun Kq hKq => ?_)
      go_simp
      refine hKq.out _ _ ?_ (fun hHeld4 => ?_)
      · (try dsimp only); first | exact keep2 (by assumption) HP3.out | exact keep2 (KeepR.start _) HP3.out | exact keep2 (KeepR.alloc0 _ _) HP3.out | exact keep2 (KeepR.alloc (by assumption : KeepR w3 _ ∧ _).1 _) HP3.out | exact keep2 (KeepR.set2 (by assumption : KeepR w3 _ ∧ _).1 hge6) HP3.out | exact keep2 (KeepR.alloc hk6 _) HP3.out
      clear hKq Kq
      (try simp only [Act.put, List.setIfInBounds_toArray, List.set_cons_zero, List.set_cons_succ])
      clear hHeld3
      refine wpAnyH_done (by kernel_rfl) ?_ _
      refine NoPanic.normal ?_
      go_wp2_with fail
      go_meet
      first
        | exact ⟨rfl, _, rfl, PF.out, KeepR.set2 hk6 hge6, hge6⟩
        | exact ⟨rfl, _, rfl, (Pair.new w6 _ _ _), KeepR.alloc hk6 _, hge6⟩
  case rest =>
    obtain ⟨rfl, g8, rfl, hB, hkc, hg8⟩ := hcut
    have hkcb : Below w3.heap.size w3 wc := hkc
    have hb15 := hb13.trans (hkcb.mono hb13.size)
    have HP5 := Lib.hid (HP3.out.below hkcb)
    have HR5 := Lib.hid (HR3.out.below hkcb)
    have HB5 := Lib.hid hB
    have hlt3 := HR3.out.lt
    clear hkc hkcb hB HP3 HR3 hb13 d0 d1
    go_wp2_with fail
    go_loopw [7, 9] (fun v7 v9 wr => ∃ (x : Nat) (best N D : Int), x ≤ nP ∧ v9 = .int .i64 (x : Int) ∧ v7 = .int .i64 best ∧ best = sl x ∧ N = nm (T best) s ∧ D = dn (T best) s ∧ Pair wr g8 (.int .i64 N) (.int .i64 D) ∧ Pair wr w.heap.size (.slice aP nP cP) (.slice aW nW cW) ∧ Pair wr (w.heap.size + 1) (.int .i64 0) (.int .i64 0) ∧ Below w.heap.size w wr) (fun _ v9 _ => nP - (intOf v9).toNat)
    case atStart => exact ⟨0, -999, N0, D0, Nat.zero_le _, rfl, rfl, Hs0.out.symm, HN0.out.symm, HD0.out.symm, HB5.out, HP5.out, HR5.out, hb15⟩
    case round =>
      clear hb15 HB5 HP5 HR5
      obtain ⟨x, best, N, D, hx, rfl, rfl, hbs, hN, hD, hB, hP, hR, hbel⟩ := hrel
      have x0 := hP.c0
      have x1 := hP.c1
      have HP := Lib.hid hP
      have HB := Lib.hid hB
      have HR := Lib.hid hR
      clear hP hB hR
      by_cases hlt : (x : Int) < nP
      · obtain ⟨bL, oL, rfl, hcL⟩ := HL.out.at (i := x) hbel (by omega)
        have hq := Hlb.out x
        have HsYx := Lib.hid (HsY.out x)
        have HsNx := Lib.hid (HsN.out x)
        have HMk := Lib.hid (HMn.out (nth l x + 1))
        have HTk := Lib.hid (HTb.out (nth l x + 1))
        have HTl := Lib.hid (HTb.out best)
        rw [← hbs] at HsYx HsNx
        have Hbs := Lib.hid hbs
        clear hbs
        have HLvk := Lib.hid (HLv.out (nth l x + 1))
        generalize hqq : nth l x = q at *
        have Hqq := Lib.hid hqq
        clear hqq
        have k1 : IntKind.i64.wrap (q + 1) = q + 1 := IntWalk.i64_in _ (by omega)
        by_cases h9 : q + 1 > 999
        · have Hsl := Lib.hid (HsNx.out (by omega))
          have HN := Lib.hid hN
          have HD := Lib.hid hD
          clear hN hD
          go_wp2_with fail
          go_roundw
          case rel => exact ⟨x + 1, best, N, D, by omega, by go_num, rfl, by rw [Hsl.out], HN.out, HD.out, HB.out, HP.out, HR.out, hbel⟩
          case measure => simp [intOf]; omega
        · go_upto_region 9 with fail
          have HcmpL : Hid (∀ W : World, Calls Tryz.prog 125 #[.agg #[.int .i64 N, .int .i64 D], .agg #[.int .i64 (nm (T (q + 1)) s), .int .i64 (dn (T (q + 1)) s)]] W fun e w' => e = .returned (.bool (decide (T best < T (q + 1)))) ∧ Below W.heap.size W w') := Lib.hid fun W => by
            rw [hN, hD]
            refine (spec_l2Less _ _ _ _ W (cut_prod hs0 hs48 HTl.out) (cut_prod hs0 hs48 HTk.out)).mono fun e w' h => ⟨?_, h.2⟩
            rw [h.1, decide_eq_decide.2 (cut_lt (T best) (T (q + 1)) hs0)]
          have HEq1 : Hid (T (q + 1) = T best → nm (T (q + 1)) s = N ∧ dn (T (q + 1)) s = D) := Lib.hid fun h => by rw [hN, hD, h]; exact ⟨rfl, rfl⟩
          have HEq2 : Hid (nm (T (q + 1)) s = N → dn (T (q + 1)) s = D → T (q + 1) = T best) := Lib.hid fun h1 h2 => cut_eq hs0 (by rw [h1, hN]) (by rw [h2, hD])
          have HN := Lib.hid hN
          have HD := Lib.hid hD
          clear hN hD
          generalize hN' : nm (T (q + 1)) s = N' at *
          generalize hD' : dn (T (q + 1)) s = D' at *
          have HN' := Lib.hid hN'
          have HD' := Lib.hid hD'
          clear hN' hD' hcL
          go_cut [11] (fun v11 wd => ∃ g : Nat, v11 = .pointer (some ⟨g, 0, none⟩) ∧ Pair wd g (.int .i64 N') (.int .i64 D') ∧ KeepR wr wd ∧ wr.heap.size ≤ g)
          case first =>
            refine wp_region_noPanic ?_
            refine wp_region_held_drew (S := fun W' => KeepR wr W' ∧ W'.cell? ⟨w.heap.size, 0, none⟩ = some (.slice aP nP cP) ∧ W'.cell? ⟨w.heap.size, 1, none⟩ = some (.slice aW nW cW)) (by kernel_rfl) ?_ (fun hHeld0 => ?_)
            · (try dsimp only); first | exact keep2 (by assumption) HP.out | exact keep2 (KeepR.start _) HP.out | exact keep2 (KeepR.alloc0 _ _) HP.out | exact keep2 (KeepR.alloc (by assumption : KeepR wr _ ∧ _).1 _) HP.out | exact keep2 (KeepR.set2 (by assumption : KeepR wr _ ∧ _).1 hge6) HP.out | exact keep2 (KeepR.alloc hk6 _) HP.out
            refine takeH (i := 0) (oi := _) (v := ?_) rfl (by kernel_rfl) (by kernel_rfl) (by kernel_rfl) (fun _ _ _ h => h) (Or.inl ⟨by rfl, ?_⟩) (by assumption) ?_
            rotate_left
            · first | (intro w hSw; (try dsimp only at hSw); go_simp; done) | (intro w hSw; (try dsimp only at hSw); go_simp; with_reducible rfl)
            (try simp only [Act.put, List.setIfInBounds_toArray, List.set_cons_zero, List.set_cons_succ])
            refine takeH (i := 1) (oi := _) (v := ?_) rfl (by kernel_rfl) (by kernel_rfl) (by kernel_rfl) (fun _ _ _ h => h) (Or.inl ⟨by rfl, ?_⟩) (by assumption) ?_
            rotate_left
            · first | (intro w hSw; (try dsimp only at hSw); go_simp; done) | (intro w hSw; (try dsimp only at hSw); go_simp; with_reducible rfl)
            (try simp only [Act.put, List.setIfInBounds_toArray, List.set_cons_zero, List.set_cons_succ])
            refine takeH (i := 2) (oi := _) (v := ?_) rfl (by kernel_rfl) (by kernel_rfl) (by kernel_rfl) (fun _ _ _ h => h) (Or.inl ⟨by rfl, ?_⟩) (by assumption) ?_
            rotate_left
            · first | (intro w hSw; (try dsimp only at hSw); go_simp; done) | (intro w hSw; (try dsimp only at hSw); go_simp; with_reducible rfl)
            (try simp only [Act.put, List.setIfInBounds_toArray, List.set_cons_zero, List.set_cons_succ])
            refine takeH (i := 3) (oi := _) (v := ?_) rfl (by kernel_rfl) (by kernel_rfl) (by kernel_rfl) (fun _ _ _ h => h) (Or.inl ⟨by rfl, ?_⟩) (by assumption) ?_
            rotate_left
            · first | (intro w hSw; (try dsimp only at hSw); go_simp; done) | (intro w hSw; (try dsimp only at hSw); go_simp; with_reducible rfl)
            (try simp only [Act.put, List.setIfInBounds_toArray, List.set_cons_zero, List.set_cons_succ])
            refine takeH (i := 4) (oi := _) (v := ?_) rfl (by kernel_rfl) (by kernel_rfl) (by kernel_rfl) (fun _ _ _ h => h) (Or.inl ⟨by rfl, ?_⟩) (by assumption) ?_
            rotate_left
            · first | (intro w hSw; (try dsimp only at hSw); go_simp; done) | (intro w hSw; (try dsimp only at hSw); go_simp; with_reducible rfl)
            (try simp only [Act.put, List.setIfInBounds_toArray, List.set_cons_zero, List.set_cons_succ])
            refine wpAnyH_ready (rs := [5, 7]) (by kernel_rfl) (by simp) ?_
            refine consM rfl (fun Kq hKq => ?_) (consH rfl (fun Kq hKq => ?_))
            · go_simp
              (go_at_call 123; refine (HLvk.out _ (hbel.trans (Below.mono (by assumption : KeepR wr _ ∧ _).1 hbel.size))).mono ?_; rintro e w5 ⟨v5, rfl, o5, b5⟩; obtain ⟨a5, q5, rfl⟩ := o5.shape; have I5 := o5.ints; have hk5 := KeepR.next b5 (by assumption : KeepR wr _ ∧ _).1; clear o5)
              refine hKq.out _ _ ?_ (fun hHeld1 => ?_)
              · (try dsimp only); first | exact keep2 (by assumption) HP.out | exact keep2 (KeepR.start _) HP.out | exact keep2 (KeepR.alloc0 _ _) HP.out | exact keep2 (KeepR.alloc (by assumption : KeepR wr _ ∧ _).1 _) HP.out | exact keep2 (KeepR.set2 (by assumption : KeepR wr _ ∧ _).1 hge6) HP.out | exact keep2 (KeepR.alloc hk6 _) HP.out
              clear hKq Kq
              (try simp only [Act.put, List.setIfInBounds_toArray, List.set_cons_zero, List.set_cons_succ])
              clear hHeld0
              refine wpAnyH_ready (rs := [6, 7]) (by kernel_rfl) (by simp) ?_
              refine consM rfl (fun Kq hKq => ?_) (consH rfl (fun Kq hKq => ?_))
              · go_simp
                (go_at_call 98; refine (HMk.out _ _ _ _ (hbel.trans (Below.mono (by assumption : KeepR wr _ ∧ _).1 hbel.size)) I5).mono ?_; rintro e w6 ⟨rfl, b6⟩; have hk6 := KeepR.next b6 (by assumption : KeepR wr _ ∧ _).1; skip)
                refine hKq.out _ _ ?_ (fun hHeld2 => ?_)
                · (try dsimp only); first | exact keep2 (by assumption) HP.out | exact keep2 (KeepR.start _) HP.out | exact keep2 (KeepR.alloc0 _ _) HP.out | exact keep2 (KeepR.alloc (by assumption : KeepR wr _ ∧ _).1 _) HP.out | exact keep2 (KeepR.set2 (by assumption : KeepR wr _ ∧ _).1 hge6) HP.out | exact keep2 (KeepR.alloc hk6 _) HP.out
                clear hKq Kq
                (try simp only [Act.put, List.setIfInBounds_toArray, List.set_cons_zero, List.set_cons_succ])
                clear hHeld1
                refine wpAnyH_ready (rs := [7]) (by kernel_rfl) (by simp) ?_
                refine consH rfl (fun Kq hKq => ?_)
                go_simp
                have P6c := Pair.new w6 (.int .i64 0) (.int .i64 0) 29; have hge6 : wr.heap.size ≤ w6.heap.size := Below.size hk6; have z0 := P6c.c0; have z1 := P6c.c1; have z4 := P6c.f0; have z5 := P6c.f1; have PF := Lib.hid (P6c.st2 (.int .i64 N') (.int .i64 D'))
                refine hKq.out _ _ ?_ (fun hHeld3 => ?_)
                · (try dsimp only); first | exact keep2 (by assumption) HP.out | exact keep2 (KeepR.start _) HP.out | exact keep2 (KeepR.alloc0 _ _) HP.out | exact keep2 (KeepR.alloc (by assumption : KeepR wr _ ∧ _).1 _) HP.out | exact keep2 (KeepR.set2 (by assumption : KeepR wr _ ∧ _).1 hge6) HP.out | exact keep2 (KeepR.alloc hk6 _) HP.out
                clear hKq Kq
                (try simp only [Act.put, List.setIfInBounds_toArray, List.set_cons_zero, List.set_cons_succ])
                clear hHeld2
                refine wpAnyH_ready (rs := [8]) (by kernel_rfl) (by simp) ?_
                refine consH rfl (fun Kq hKq => ?_)
                go_simp
                refine hKq.out _ _ ?_ (fun hHeld4 => ?_)
                · (try dsimp only); first | exact keep2 (by assumption) HP.out | exact keep2 (KeepR.start _) HP.out | exact keep2 (KeepR.alloc0 _ _) HP.out | exact keep2 (KeepR.alloc (by assumption : KeepR wr _ ∧ _).1 _) HP.out | exact keep2 (KeepR.set2 (by assumption : KeepR wr _ ∧ _).1 hge6) HP.out | exact keep2 (KeepR.alloc hk6 _) HP.out
                clear hKq Kq
                (try simp only [Act.put, List.setIfInBounds_toArray, List.set_cons_zero, List.set_cons_succ])
                clear hHeld3
                refine wpAnyH_done (by kernel_rfl) ?_ _
                refine NoPanic.normal ?_
                go_wp2_with fail
                go_meet
                first
                  | exact ⟨_, rfl, PF.out, KeepR.set2 hk6 hge6, hge6⟩
                  | exact ⟨_, rfl, (Pair.new w6 _ _ _), KeepR.alloc hk6 _, hge6⟩
              · go_simp
                have P6 := Pair.new w5 (.int .i64 0) (.int .i64 0) 29; have hge6 : wr.heap.size ≤ w5.heap.size := Below.size hk5; have I5 := I5.below (below_new w5 (.cells #[.int .i64 0, .int .i64 0] 29))
                refine hKq.out _ _ ?_ (fun hHeld2 => ?_)
                · (try dsimp only); first | exact keep2 (by assumption) HP.out | exact keep2 (KeepR.start _) HP.out | exact keep2 (KeepR.alloc0 _ _) HP.out | exact keep2 (KeepR.alloc (by assumption : KeepR wr _ ∧ _).1 _) HP.out | exact keep2 (KeepR.set2 (by assumption : KeepR wr _ ∧ _).1 hge6) HP.out | exact keep2 (KeepR.alloc hk6 _) HP.out
                clear hKq Kq
                (try simp only [Act.put, List.setIfInBounds_toArray, List.set_cons_zero, List.set_cons_succ])
                clear hHeld1
                refine wpAnyH_ready (rs := [6]) (by kernel_rfl) (by simp) ?_
                refine consH rfl (fun Kq hKq => ?_)
                go_simp
                (go_at_call 98; refine (HMk.out _ _ _ _ (hbel.trans (Below.mono (by assumption : KeepR wr _ ∧ _).1 hbel.size)) I5).mono ?_; rintro e w6 ⟨rfl, b6⟩; have hk6 := KeepR.next b6 (by assumption : KeepR wr _ ∧ _).1; have P6c := P6.below b6; have z0 := P6c.c0; have z1 := P6c.c1; have z4 := P6c.f0; have z5 := P6c.f1; have PF := Lib.hid (P6c.st2 (.int .i64 N') (.int .i64 D')))
                refine hKq.out _ _ ?_ (fun hHeld3 => ?_)
                · (try dsimp only); first | exact keep2 (by assumption) HP.out | exact keep2 (KeepR.start _) HP.out | exact keep2 (KeepR.alloc0 _ _) HP.out | exact keep2 (KeepR.alloc (by assumption : KeepR wr _ ∧ _).1 _) HP.out | exact keep2 (KeepR.set2 (by assumption : KeepR wr _ ∧ _).1 hge6) HP.out | exact keep2 (KeepR.alloc hk6 _) HP.out
                clear hKq Kq
                (try simp only [Act.put, List.setIfInBounds_toArray, List.set_cons_zero, List.set_cons_succ])
                clear hHeld2
                refine wpAnyH_ready (rs := [8]) (by kernel_rfl) (by simp) ?_
                refine consH rfl (fun Kq hKq => ?_)
                go_simp
                refine hKq.out _ _ ?_ (fun hHeld4 => ?_)
                · (try dsimp only); first | exact keep2 (by assumption) HP.out | exact keep2 (KeepR.start _) HP.out | exact keep2 (KeepR.alloc0 _ _) HP.out | exact keep2 (KeepR.alloc (by assumption : KeepR wr _ ∧ _).1 _) HP.out | exact keep2 (KeepR.set2 (by assumption : KeepR wr _ ∧ _).1 hge6) HP.out | exact keep2 (KeepR.alloc hk6 _) HP.out
                clear hKq Kq
                (try simp only [Act.put, List.setIfInBounds_toArray, List.set_cons_zero, List.set_cons_succ])
                clear hHeld3
                refine wpAnyH_done (by kernel_rfl) ?_ _
                refine NoPanic.normal ?_
                go_wp2_with fail
                go_meet
                first
                  | exact ⟨_, rfl, PF.out, KeepR.set2 hk6 hge6, hge6⟩
                  | exact ⟨_, rfl, (Pair.new w6 _ _ _), KeepR.alloc hk6 _, hge6⟩
            · go_simp
              have P6 := (Pair.new wr (.int .i64 0) (.int .i64 0) 29).drew; have hge6 : wr.heap.size ≤ wr.heap.size := Nat.le_refl _
              refine hKq.out _ _ ?_ (fun hHeld1 => ?_)
              · (try dsimp only); first | exact keep2 (by assumption) HP.out | exact keep2 (KeepR.start _) HP.out | exact keep2 (KeepR.alloc0 _ _) HP.out | exact keep2 (KeepR.alloc (by assumption : KeepR wr _ ∧ _).1 _) HP.out | exact keep2 (KeepR.set2 (by assumption : KeepR wr _ ∧ _).1 hge6) HP.out | exact keep2 (KeepR.alloc hk6 _) HP.out
              clear hKq Kq
              (try simp only [Act.put, List.setIfInBounds_toArray, List.set_cons_zero, List.set_cons_succ])
              clear hHeld0
              refine wpAnyH_ready (rs := [5]) (by kernel_rfl) (by simp) ?_
              refine consH rfl (fun Kq hKq => ?_)
              go_simp
              (go_at_call 123; refine (HLvk.out _ (hbel.trans (Below.mono (by assumption : KeepR wr _ ∧ _).1 hbel.size))).mono ?_; rintro e w5 ⟨v5, rfl, o5, b5⟩; obtain ⟨a5, q5, rfl⟩ := o5.shape; have I5 := o5.ints; have hk5 := KeepR.next b5 (by assumption : KeepR wr _ ∧ _).1; clear o5; have P6b := P6.below b5)
              refine hKq.out _ _ ?_ (fun hHeld2 => ?_)
              · (try dsimp only); first | exact keep2 (by assumption) HP.out | exact keep2 (KeepR.start _) HP.out | exact keep2 (KeepR.alloc0 _ _) HP.out | exact keep2 (KeepR.alloc (by assumption : KeepR wr _ ∧ _).1 _) HP.out | exact keep2 (KeepR.set2 (by assumption : KeepR wr _ ∧ _).1 hge6) HP.out | exact keep2 (KeepR.alloc hk6 _) HP.out
              clear hKq Kq
              (try simp only [Act.put, List.setIfInBounds_toArray, List.set_cons_zero, List.set_cons_succ])
              clear hHeld1
              refine wpAnyH_ready (rs := [6]) (by kernel_rfl) (by simp) ?_
              refine consH rfl (fun Kq hKq => ?_)
              go_simp
              (go_at_call 98; refine (HMk.out _ _ _ _ (hbel.trans (Below.mono (by assumption : KeepR wr _ ∧ _).1 hbel.size)) I5).mono ?_; rintro e w6 ⟨rfl, b6⟩; have hk6 := KeepR.next b6 (by assumption : KeepR wr _ ∧ _).1; have P6c := P6b.below b6; have z0 := P6c.c0; have z1 := P6c.c1; have z4 := P6c.f0; have z5 := P6c.f1; have PF := Lib.hid (P6c.st2 (.int .i64 N') (.int .i64 D')))
              refine hKq.out _ _ ?_ (fun hHeld3 => ?_)
              · (try dsimp only); first | exact keep2 (by assumption) HP.out | exact keep2 (KeepR.start _) HP.out | exact keep2 (KeepR.alloc0 _ _) HP.out | exact keep2 (KeepR.alloc (by assumption : KeepR wr _ ∧ _).1 _) HP.out | exact keep2 (KeepR.set2 (by assumption : KeepR wr _ ∧ _).1 hge6) HP.out | exact keep2 (KeepR.alloc hk6 _) HP.out
              clear hKq Kq
              (try simp only [Act.put, List.setIfInBounds_toArray, List.set_cons_zero, List.set_cons_succ])
              clear hHeld2
              refine wpAnyH_ready (rs := [8]) (by kernel_rfl) (by simp) ?_
              refine consH rfl (fun Kq hKq => ?_)
              go_simp
              refine hKq.out _ _ ?_ (fun hHeld4 => ?_)
              · (try dsimp only); first | exact keep2 (by assumption) HP.out | exact keep2 (KeepR.start _) HP.out | exact keep2 (KeepR.alloc0 _ _) HP.out | exact keep2 (KeepR.alloc (by assumption : KeepR wr _ ∧ _).1 _) HP.out | exact keep2 (KeepR.set2 (by assumption : KeepR wr _ ∧ _).1 hge6) HP.out | exact keep2 (KeepR.alloc hk6 _) HP.out
              clear hKq Kq
              (try simp only [Act.put, List.setIfInBounds_toArray, List.set_cons_zero, List.set_cons_succ])
              clear hHeld3
              refine wpAnyH_done (by kernel_rfl) ?_ _
              refine NoPanic.normal ?_
              go_wp2_with fail
              go_meet
              first
                | exact ⟨_, rfl, PF.out, KeepR.set2 hk6 hge6, hge6⟩
                | exact ⟨_, rfl, (Pair.new w6 _ _ _), KeepR.alloc hk6 _, hge6⟩
          case rest =>
            obtain ⟨g12, rfl, hM, hkd, hg12⟩ := hcut
            have hkdb : Below wr.heap.size wr wc := hkd
            have hb8 := hbel.trans (hkdb.mono hbel.size)
            have HP7 := Lib.hid (HP.out.below hkdb)
            have HB7 := Lib.hid (HB.out.below hkdb)
            have HR7 := Lib.hid (HR.out.below hkdb)
            have HM7 := Lib.hid hM
            have hl1 : g8 < wr.heap.size := HB.out.lt
            have z0 := hM.c0
            have z1 := hM.c1
            have z2 := HB7.out.c0
            have z3 := HB7.out.c1
            clear x0 x1 HP HB HR hkd hkdb hM
            by_cases hcmp : T best < T (q + 1)
            · have Hsl := Lib.hid (HsYx.out (by omega) (.inl hcmp))
              have HcP : Hid (∀ W : World, Calls Tryz.prog 125 #[.agg #[.int .i64 N, .int .i64 D], .agg #[.int .i64 N', .int .i64 D']] W fun e w' => e = .returned (.bool true) ∧ Below W.heap.size W w') := Lib.hid fun W => by have := HcmpL.out W; rw [decide_eq_true hcmp] at this; exact this
              clear hcmp
              go_wp2_with (go_at_call 125; refine (HcP.out _).mono ?_; rintro e w9 ⟨rfl, b9⟩
                           have M9 := HM7.out.below b9
                           have z0' := M9.c0
                           have z1' := M9.c1
                           have B9 := HB7.out.below b9
                           have z2' := B9.c0
                           have z3' := B9.c1
                           have z4' := B9.f0
                           have z5' := B9.f1)
              go_roundw
              case rel => exact ⟨x + 1, q + 1, N', D', by omega, by go_num, rfl, by rw [Hsl.out], HN'.out.symm, HD'.out.symm, B9.st2 _ _, (HP7.out.below b9).fr2 (by omega) _ _, (HR7.out.below b9).fr2 (by omega) _ _, ((hb8.trans (b9.mono hb8.size)).setCell (show w.heap.size ≤ g8 by omega) _).setCell (show w.heap.size ≤ g8 by omega) _⟩
              case measure => simp [intOf]; omega
            · have HcP : Hid (∀ W : World, Calls Tryz.prog 125 #[.agg #[.int .i64 N, .int .i64 D], .agg #[.int .i64 N', .int .i64 D']] W fun e w' => e = .returned (.bool false) ∧ Below W.heap.size W w') := Lib.hid fun W => by have := HcmpL.out W; rw [decide_eq_false hcmp] at this; exact this
              by_cases heq : T (q + 1) = T best
              · obtain ⟨q1, q2⟩ := HEq1.out heq
                subst q1 q2
                have hqA : ∀ W, (Op.equalIn 10000 29 (.agg #[.int .i64 N', .int .i64 D']) (.agg #[.int .i64 N', .int .i64 D'])).run Tryz.prog W = .ok true W := fun W => by rw [eqA2]; simp
                by_cases hle : q + 1 < best
                · have Hsl := Lib.hid (HsYx.out (by omega) (.inr ⟨heq, hle⟩))
                  clear hcmp heq
                  go_wp2_with (go_at_call 125; refine (HcP.out _).mono ?_; rintro e w9 ⟨rfl, b9⟩
                               have M9 := HM7.out.below b9
                               have z0' := M9.c0
                               have z1' := M9.c1
                               have B9 := HB7.out.below b9
                               have z2' := B9.c0
                               have z3' := B9.c1
                               have z4' := B9.f0
                               have z5' := B9.f1)
                  go_roundw
                  case rel => exact ⟨x + 1, q + 1, N', D', by omega, by go_num, rfl, by rw [Hsl.out], HN'.out.symm, HD'.out.symm, B9.st2 _ _, (HP7.out.below b9).fr2 (by omega) _ _, (HR7.out.below b9).fr2 (by omega) _ _, ((hb8.trans (b9.mono hb8.size)).setCell (show w.heap.size ≤ g8 by omega) _).setCell (show w.heap.size ≤ g8 by omega) _⟩
                  case measure => simp [intOf]; omega
                · have Hsl := Lib.hid (HsNx.out (by omega))
                  clear hcmp heq
                  go_wp2_with (go_at_call 125; refine (HcP.out _).mono ?_; rintro e w9 ⟨rfl, b9⟩
                               have M9 := HM7.out.below b9
                               have z0' := M9.c0
                               have z1' := M9.c1
                               have B9 := HB7.out.below b9
                               have z2' := B9.c0
                               have z3' := B9.c1
                               have z4' := B9.f0
                               have z5' := B9.f1)
                  go_roundw
                  case rel => exact ⟨x + 1, best, _, _, by omega, by go_num, rfl, by rw [Hsl.out], HN.out, HD.out, B9, HP7.out.below b9, HR7.out.below b9, hb8.trans (b9.mono hb8.size)⟩
                  case measure => simp [intOf]; omega
              · have Hsl := Lib.hid (HsNx.out (by omega))
                by_cases hne : N' = N
                · have hne2 : ¬ D' = D := fun h => heq (HEq2.out hne h)
                  subst hne
                  clear hcmp heq
                  have hqA : ∀ W, (Op.equalIn 10000 29 (.agg #[.int .i64 N', .int .i64 D']) (.agg #[.int .i64 N', .int .i64 D])).run Tryz.prog W = .ok false W := fun W => by rw [eqA2]; simp [hne2]
                  go_wp2_with (go_at_call 125; refine (HcP.out _).mono ?_; rintro e w9 ⟨rfl, b9⟩
                               have M9 := HM7.out.below b9
                               have z0' := M9.c0
                               have z1' := M9.c1
                               have B9 := HB7.out.below b9
                               have z2' := B9.c0
                               have z3' := B9.c1
                               have z4' := B9.f0
                               have z5' := B9.f1)
                  go_roundw
                  case rel => exact ⟨x + 1, best, _, _, by omega, by go_num, rfl, by rw [Hsl.out], HN.out, HD.out, B9, HP7.out.below b9, HR7.out.below b9, hb8.trans (b9.mono hb8.size)⟩
                  case measure => simp [intOf]; omega
                · have hqA : ∀ W, (Op.equalIn 10000 29 (.agg #[.int .i64 N', .int .i64 D']) (.agg #[.int .i64 N, .int .i64 D])).run Tryz.prog W = .ok false W := fun W => by rw [eqA2]; simp [hne]
                  clear hcmp heq
                  go_wp2_with (go_at_call 125; refine (HcP.out _).mono ?_; rintro e w9 ⟨rfl, b9⟩
                               have M9 := HM7.out.below b9
                               have z0' := M9.c0
                               have z1' := M9.c1
                               have B9 := HB7.out.below b9
                               have z2' := B9.c0
                               have z3' := B9.c1
                               have z4' := B9.f0
                               have z5' := B9.f1)
                  go_roundw
                  case rel => exact ⟨x + 1, best, _, _, by omega, by go_num, rfl, by rw [Hsl.out], HN.out, HD.out, B9, HP7.out.below b9, HR7.out.below b9, hb8.trans (b9.mono hb8.size)⟩
                  case measure => simp [intOf]; omega
      · obtain rfl : x = nP := by omega
        rw [Hfin.out] at hbs
        rw [hbs] at hN hD
        rw [← Hret.out.1] at hN
        rw [← Hret.out.2] at hD
        have Hlv := Lib.hid hbs
        have HN := Lib.hid hN
        have HD := Lib.hid hD
        clear hbs hN hD
        have q3 := HR.out.c0
        have q4 := HR.out.c1
        have q5 := HR.out.f0
        have q6 := HR.out.f1
        have z0 := HB.out.c0
        have z1 := HB.out.c1
        have hg8' : w.heap.size + 1 ≠ g8 := by omega
        have hr := HR.out.set (.int .i64 N) (.int .i64 D)
        have HMs := Lib.hid ((HB.out.drew).fr2 (b := w.heap.size + 1) hg8' (.int .i64 N) (.int .i64 D))
        go_upto_region 13 with fail
        refine wp_region_noPanic ?_
        refine wp_region_held_drew (S := fun W' => W'.cell? ⟨g8, 0, none⟩ = some (.int .i64 N) ∧ W'.cell? ⟨g8, 1, none⟩ = some (.int .i64 D)) (by kernel_rfl) ?_ (fun hHeld0 => ?_)
        · (try dsimp only); first | exact ⟨HB.out.c0, HB.out.c1⟩ | exact ⟨HMs.out.c0, HMs.out.c1⟩
        refine takeH (i := 0) (oi := _) (v := ?_) rfl (by kernel_rfl) (by kernel_rfl) (by kernel_rfl) (fun _ _ _ h => h) (Or.inl ⟨by rfl, ?_⟩) (by assumption) ?_
        rotate_left
        · first | (intro w hSw; (try dsimp only at hSw); go_simp; done) | (intro w hSw; (try dsimp only at hSw); go_simp; with_reducible rfl)
        (try simp only [Act.put, List.setIfInBounds_toArray, List.set_cons_zero, List.set_cons_succ])
        refine takeH (i := 1) (oi := _) (v := ?_) rfl (by kernel_rfl) (by kernel_rfl) (by kernel_rfl) (fun _ _ _ h => h) (Or.inl ⟨by rfl, ?_⟩) (by assumption) ?_
        rotate_left
        · first | (intro w hSw; (try dsimp only at hSw); go_simp; done) | (intro w hSw; (try dsimp only at hSw); go_simp; with_reducible rfl)
        (try simp only [Act.put, List.setIfInBounds_toArray, List.set_cons_zero, List.set_cons_succ])
        refine takeH (i := 2) (oi := _) (v := ?_) rfl (by kernel_rfl) (by kernel_rfl) (by kernel_rfl) (fun _ _ _ h => h) (Or.inl ⟨by rfl, ?_⟩) (by assumption) ?_
        rotate_left
        · first | (intro w hSw; (try dsimp only at hSw); go_simp; done) | (intro w hSw; (try dsimp only at hSw); go_simp; with_reducible rfl)
        (try simp only [Act.put, List.setIfInBounds_toArray, List.set_cons_zero, List.set_cons_succ])
        refine wpAnyH_ready (rs := [3]) (by kernel_rfl) (by simp) ?_
        refine consH rfl (fun Kq hKq => ?_)
        go_simp
        refine hKq.out _ _ ?_ (fun hHeld1 => ?_)
        · (try dsimp only); first | exact ⟨HB.out.c0, HB.out.c1⟩ | exact ⟨HMs.out.c0, HMs.out.c1⟩
        clear hKq Kq
        (try simp only [Act.put, List.setIfInBounds_toArray, List.set_cons_zero, List.set_cons_succ])
        clear hHeld0
        refine takeH (i := 4) (oi := _) (v := ?_) rfl (by kernel_rfl) (by kernel_rfl) (by kernel_rfl) (fun _ _ _ h => h) (Or.inl ⟨by rfl, ?_⟩) (by assumption) ?_
        rotate_left
        · first | (intro w hSw; (try dsimp only at hSw); go_simp; done) | (intro w hSw; (try dsimp only at hSw); go_simp; with_reducible rfl)
        (try simp only [Act.put, List.setIfInBounds_toArray, List.set_cons_zero, List.set_cons_succ])
        refine wpAnyH_done (by kernel_rfl) ?_ _
        refine NoPanic.normal ?_
        go_wp2_with fail
        exact bodyPost_ret (v := .tuple #[.int .i64 best, .agg #[.int .i64 N, .int .i64 D], .bool true]) (by simp [results, Tryz.results67, go_sem, hr.1, hr.2]) rfl ⟨by rw [Hpays.out, Hlv.out, HN.out, HD.out], ((hbel.setCell (by simp) _).setCell (by simp) _).drew⟩
end Go.Proofs.YtnbomleieianoaaGreat

/- Plain law: what a number on the nodes of a tree is together at the nodes of a stopping, against what it is at the root. Nothing of the program. -/
namespace Go.Proofs.YtnbomleieianoaaGreat

/-- f where S is so for the first time, 0 elsewhere. -/
def atF (ps : List Int) (S : Int → Bool) (f : Nat → Int) (x : Nat) : Int := if firB ps S x then f x else 0
def atL (ps : List Int) (S : Int → Bool) (f : Nat → Int) : List Int := (List.range ps.length).map (atF ps S f)
/-- The sum of f over the nodes at which S is so for the first time. -/
def stS (ps : List Int) (S : Int → Bool) (f : Nat → Int) : Int := sumR (atF ps S f) ps.length
theorem atL_length (ps : List Int) (S : Int → Bool) (f : Nat → Int) : (atL ps S f).length = ps.length := by simp [atL]
theorem nth_atL {ps : List Int} {S : Int → Bool} {f : Nat → Int} {x : Nat} (h : x < ps.length) : nth (atL ps S f) x = atF ps S f x := by rw [atL, nth_map_range h]
theorem atG_beh {ps : List Int} {S : Int → Bool} {f : Nat → Int} (h : Pa ps) : ∀ x, x < ps.length → 1 ≤ x → behB ps S (par ps x) = true → nth (gathA ps (atL ps S f)) x = 0 := by
  refine h.below ?_
  intro x hx ih h1 hb
  have hu := (beh_up h S h1 hx).1 hb
  rw [gathA_kids h (atL_length ps S f), nth_atL hx, atF, hu.2, kidSum_zero]
  · rfl
  · intro y hy e
    have hk := kid_par h hy e
    exact ih y hy e hk.1 (by rw [hk.2]; exact hu.1)
theorem beh_fir {ps : List Int} (h : Pa ps) (S : Int → Bool) {x : Nat} (hx : x < ps.length) (hc : x = 0 ∨ behB ps S (par ps x) = false) : behB ps S x = S x ∧ firB ps S x = S x := by
  by_cases h0 : x = 0
  · subst h0; exact beh_zero ps S
  · rcases hc with hc | hc
    · omega
    · exact (beh_up h S (by omega) hx).2 hc
theorem beh_S {ps : List Int} (h : Pa ps) {S : Int → Bool} {x : Nat} (hx : x < ps.length) (hb : behB ps S x = false) : S x = false := by
  by_cases h0 : x = 0
  · subst h0; rw [← hb]; exact (beh_zero ps S).1.symm
  · cases hp : behB ps S (par ps x)
    · rw [← hb]; exact ((beh_up h S (by omega) hx).2 hp).1.symm
    · have := ((beh_up h S (by omega) hx).1 hp).1
      rw [hb] at this; cases this
theorem fir_S {ps : List Int} (h : Pa ps) {S : Int → Bool} {x : Nat} (hx : x < ps.length) (hb : firB ps S x = true) : S x = true := by
  by_cases h0 : x = 0
  · subst h0; rw [← hb]; exact (beh_zero ps S).2.symm
  · cases hp : behB ps S (par ps x)
    · rw [← hb]; exact ((beh_up h S (by omega) hx).2 hp).2.symm
    · have := ((beh_up h S (by omega) hx).1 hp).2
      rw [hb] at this; cases this
theorem stS_root {ps : List Int} (h : Pa ps) (S : Int → Bool) (f : Nat → Int) : stS ps S f = nth (gathA ps (atL ps S f)) 0 := by
  rw [gathA_root h (atL_length _ _ _)]; rfl
/-- Where f is no less than what its children have together, it is no less at the root than at a stopping. -/
theorem stS_le {ps : List Int} (h : Pa ps) {S : Int → Bool} {f : Nat → Int} (hf : ∀ x, x < ps.length → behB ps S x = false → kidSum ps f x ps.length ≤ f x) : stS ps S f ≤ f 0 := by
  rw [stS_root h]
  refine h.below (P := fun x => (x = 0 ∨ behB ps S (par ps x) = false) → nth (gathA ps (atL ps S f)) x ≤ f x) ?_ 0 (by have := h.n1; omega) (.inl rfl)
  intro x hx ih hc
  have hbf := beh_fir h S hx hc
  rw [gathA_kids h (atL_length _ _ _), nth_atL hx, atF, hbf.2]
  cases hS : S x
  · have h1 := hf x hx (hbf.1.trans hS)
    have h2 := kidSum_le (ps := ps) (f := fun y => nth (gathA ps (atL ps S f)) y) (g := f) (x := x) (k := ps.length) fun y hy e => ih y hy e (.inr (by rw [(kid_par h hy e).2, hbf.1, hS]))
    simp only [Bool.false_eq_true, if_false]; omega
  · rw [kidSum_zero fun y hy e => atG_beh h y hy (kid_par h hy e).1 (by rw [(kid_par h hy e).2, hbf.1, hS])]
    simp
theorem stS_ge {ps : List Int} (h : Pa ps) {S : Int → Bool} {f : Nat → Int} (hf : ∀ x, x < ps.length → behB ps S x = false → f x ≤ kidSum ps f x ps.length) : f 0 ≤ stS ps S f := by
  rw [stS_root h]
  refine h.below (P := fun x => (x = 0 ∨ behB ps S (par ps x) = false) → f x ≤ nth (gathA ps (atL ps S f)) x) ?_ 0 (by have := h.n1; omega) (.inl rfl)
  intro x hx ih hc
  have hbf := beh_fir h S hx hc
  rw [gathA_kids h (atL_length _ _ _), nth_atL hx, atF, hbf.2]
  cases hS : S x
  · have h1 := hf x hx (hbf.1.trans hS)
    have h2 := kidSum_le (ps := ps) (f := f) (g := fun y => nth (gathA ps (atL ps S f)) y) (x := x) (k := ps.length) fun y hy e => ih y hy e (.inr (by rw [(kid_par h hy e).2, hbf.1, hS]))
    simp only [Bool.false_eq_true, if_false]; omega
  · rw [kidSum_zero fun y hy e => atG_beh h y hy (kid_par h hy e).1 (by rw [(kid_par h hy e).2, hbf.1, hS])]
    simp
theorem stS_eq {ps : List Int} (h : Pa ps) {S : Int → Bool} {f : Nat → Int} (hf : ∀ x, x < ps.length → behB ps S x = false → kidSum ps f x ps.length = f x) : stS ps S f = f 0 :=
  Int.le_antisymm (stS_le h fun x hx hb => Int.le_of_eq (hf x hx hb)) (stS_ge h fun x hx hb => Int.le_of_eq (hf x hx hb).symm)
theorem stS_mono {ps : List Int} {S : Int → Bool} {f g : Nat → Int} (hf : ∀ x, x < ps.length → firB ps S x = true → f x ≤ g x) : stS ps S f ≤ stS ps S g := sumR_le fun x hx => by
  unfold atF
  cases hb : firB ps S x
  · simp
  · simpa using hf x hx hb
theorem stS_congr {ps : List Int} {S : Int → Bool} {f g : Nat → Int} (hf : ∀ x, x < ps.length → firB ps S x = true → f x = g x) : stS ps S f = stS ps S g := sumR_congr fun x hx => by
  unfold atF
  cases hb : firB ps S x
  · simp
  · simpa using hf x hx hb
theorem stS_same {ps : List Int} {S : Int → Bool} {f g : Nat → Int} (hf : ∀ x, x < ps.length → firB ps S x = true → f x ≤ g x) (he : stS ps S f = stS ps S g) {x : Nat} (hx : x < ps.length) (hb : firB ps S x = true) : f x = g x := by
  have := sumR_eq (F := atF ps S f) (G := atF ps S g) (n := ps.length) (fun x hx => by
    unfold atF
    cases hb : firB ps S x
    · simp
    · simpa using hf x hx hb) he x hx
  unfold atF at this
  rw [hb] at this
  simpa using this
/-- The stops of a rule that is gathered from S are those of S. -/
theorem stop_firsts {ps : List Int} (hp : Pa ps) (S : Int → Bool) {x : Nat} (hx : x < ps.length) : stop ps (hasB (firsts ps S)) x = stop ps S x := by
  rw [← stop_fir hp S x hx]
  refine stop_congr hp (fun y hy => ?_) hx
  rw [Int.toNat_natCast, Bool.eq_iff_iff, has_mem, firsts, mem_filt]
  constructor
  · rintro ⟨i, _, h2, h3⟩
    obtain rfl : i = y := by omega
    exact h2
  · intro h
    exact ⟨y, hy, h, rfl⟩
theorem stopL_has {S : Int → Bool} : ∀ xs : List Int, stopL S xs = -1 ∨ S (stopL S xs) = true
  | [] => .inl rfl
  | x :: xs => by
    rw [stopL]
    cases h : S x
    · rw [if_neg Bool.false_ne_true]; exact stopL_has xs
    · rw [if_pos rfl]; exact .inr h
theorem stop_has {ps : List Int} {S : Int → Bool} {x : Nat} (h : 0 ≤ stop ps S x) : S (stop ps S x) = true := by
  rcases stopL_has (S := S) (way ps x) with e | e
  · have : stop ps S x = -1 := e
    omega
  · exact e
theorem rule_end {ps rule : List Int} (hp : Pa ps) (h : stopB ps rule = true) {x : Nat} (hx : x < ps.length) (he : endB ps x = true) : behB ps (hasB rule) x = true := by
  obtain ⟨s, _, h2, _⟩ := sole_mem h hp hx he
  exact decide_eq_true (by rw [h2]; omega)
theorem rule_inner {ps rule : List Int} (hp : Pa ps) (h : stopB ps rule = true) {x : Nat} (hx : x < ps.length) (hb : behB ps (hasB rule) x = false) : endB ps x = false := by
  cases he : endB ps x
  · rfl
  · rw [rule_end hp h hx he] at hb; cases hb
/-- A rule is the list of the nodes at which it stops first. -/
theorem rule_firsts {ps rule : List Int} (hp : Pa ps) (h : stopB ps rule = true) : rule = firsts ps (hasB rule) := by
  have h0 := h
  rw [← rule_stop hp, ruleB, Bool.and_eq_true] at h0
  have hpt := stop_parts h
  refine asc_ext (ris_asc hpt.1) (filt_asc _ _) fun z => ?_
  rw [firsts, mem_filt]
  constructor
  · intro hz
    obtain ⟨i, hi, rfl⟩ := List.mem_iff_getElem.1 hz
    have h1 := all_get h0.2 hi
    have h2 := all_in hpt.2 hi
    rw [← nth_lt hi]
    refine ⟨(nth rule i).toNat, by omega, ?_, by omega⟩
    rw [firB, Int.toNat_of_nonneg h2.1]
    exact h1
  · rintro ⟨i, hi, hf, rfl⟩
    have hs : stop ps (hasB rule) i = i := by simpa [firB] using hf
    have := stop_has (S := hasB rule) (ps := ps) (x := i) (by omega)
    rw [hs] at this
    exact has_mem.1 this
theorem mS_take (s l rule : List Int) : ∀ k : Nat, k ≤ rule.length → mS s l rule k = sumOf (fun x => nth s x.toNat * nth l x.toNat) (rule.take k)
  | 0, _ => rfl
  | k + 1, hk => by rw [mS, mS_take s l rule k (by omega), sumOf_take_succ _ _ _ (by omega)]
/-- The sum behind the mean of a rule. -/
theorem rm_firsts (ps ws l : List Int) (S : Int → Bool) : rmS ps ws l (firsts ps S) = stS ps S (ownW ps ws l) := by
  rw [rmS, mS_take _ _ _ _ (Nat.le_refl _), List.take_length, firsts, sumOf_filt]
  exact sumR_congr fun x _ => by rw [Int.toNat_natCast]; rfl
theorem rm_rule {ps ws l rule : List Int} (hp : Pa ps) (h : stopB ps rule = true) : rmS ps ws l rule = stS ps (hasB rule) (ownW ps ws l) := by
  have := rm_firsts ps ws l (hasB rule)
  rwa [← rule_firsts hp h] at this
/-- What stops at more nodes stops no later. -/
theorem stop_mono {ps : List Int} (h : Pa ps) {S S' : Int → Bool} (hS : ∀ y : Nat, y < ps.length → S' y = true → S y = true) : ∀ x, x < ps.length → 0 ≤ stop ps S' x → 0 ≤ stop ps S x ∧ stop ps S x ≤ stop ps S' x := by
  refine h.above ?_ ?_
  · intro h0
    rw [stop_zero] at h0 ⊢
    rw [stop_zero]
    have h1 := hS 0 (by have := h.n1; omega)
    cases hs : S' 0
    · rw [hs] at h0; simp at h0
    · have h2 : S 0 = true := h1 hs
      rw [h2]; simp
  · intro x h1 h2 ih h0
    have hlow := stop_low h S (par ps x) (by have := (h.upN h1 h2).2; omega)
    have hpar := (h.upN h1 h2).2
    rw [stop_up h S' h1 h2] at h0 ⊢
    rw [stop_up h S h1 h2]
    by_cases ha : 0 ≤ stop ps S' (par ps x)
    · have := ih ha
      rw [if_pos ha, if_pos this.1]; exact this
    · rw [if_neg ha] at h0 ⊢
      cases hs : S' x
      · rw [hs] at h0; simp at h0
      · rw [if_pos rfl]
        by_cases hb : 0 ≤ stop ps S (par ps x)
        · rw [if_pos hb]; omega
        · rw [if_neg hb, hS x h2 hs, if_pos rfl]; omega
end Go.Proofs.YtnbomleieianoaaGreat
