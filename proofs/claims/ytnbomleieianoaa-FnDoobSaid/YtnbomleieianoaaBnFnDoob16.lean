/- Contracts and plain laws for the statement FnDoob, part 16. No conditions but those stated in each. -/
import Derived.Test.YtnbomleieianoaaBnFnDoob10
import Derived.Test.YtnbomleieianoaaBnFnDoob12
import Derived.Test.YtnbomleieianoaaBnFnDoob8
import Derived.ChangeKeysEq
import Derived.Test.YtnbomleieianoaaBnFnDoob6
import Derived.Test.YtnbomleieianoaaBnFnDoob3
import Derived.Deep.QuietTactic
/- Plain laws and contracts: the level with the greatest mean, by the program and by the reference. No conditions but those stated. -/
namespace Go.Proofs.Ytnbomleieianoaa
open Go.RowKit

theorem stop_fir {ps : List Int} (hp : Pa ps) (S : Int → Bool) : ∀ x, x < ps.length → stop ps (fun y => firB ps S y.toNat) x = stop ps S x := by
  refine hp.above ?_ ?_
  · rw [stop_zero, stop_zero]
    have := (beh_zero ps S).2
    simp only [Int.toNat_zero, this]
  · intro x h1 h2 ih
    rw [stop_up hp _ h1 h2, stop_up hp S h1 h2, ih]
    by_cases hb : 0 ≤ stop ps S (par ps x)
    · rw [if_pos hb, if_pos hb]
    · rw [if_neg hb, if_neg hb, Int.toNat_natCast, ((beh_up hp S h1 h2).2 (decide_eq_false hb)).2]
theorem asc_ris {l : List Int} (h : l.Pairwise (· < ·)) : risB l = true := ris_t fun i h1 hi => by
  rw [List.pairwise_iff_getElem] at h
  rw [nth_lt hi, nth_lt (by omega)]
  exact h (i - 1) i (by omega) hi (by omega)
/-- Fractions in lowest terms of one denominator. -/
theorem cut_parts (a : Int) {s : Int} (hs : 0 < s) : ∃ g : Int, 0 < g ∧ a = g * nm a s ∧ s = g * dn a s := by
  have hg := gcdI_pos (a := a) (b := s) (by omega)
  refine ⟨gcdI a s, hg, ?_, ?_⟩
  · rw [nm, if_neg (by omega)]; exact (Int.mul_ediv_cancel' (gcdI_dvd_l a s)).symm
  · rw [dn, if_neg (by omega)]; exact (Int.mul_ediv_cancel' (gcdI_dvd_r a s)).symm
theorem cut_lt (a b : Int) {s : Int} (hs : 0 < s) : (nm a s * dn b s < nm b s * dn a s) ↔ a < b := by
  obtain ⟨g, hg, ha, hs1⟩ := cut_parts a hs
  obtain ⟨h, hh, hb, hs2⟩ := cut_parts b hs
  generalize nm a s = A at *
  generalize dn a s = D at *
  generalize nm b s = B at *
  generalize dn b s = E at *
  have hgh : 0 < g * h := Int.mul_pos hg hh
  have e1 : A * E * (g * h) = a * s := by rw [show A * E * (g * h) = (g * A) * (h * E) by grind, ← ha, ← hs2]
  have e2 : B * D * (g * h) = b * s := by rw [show B * D * (g * h) = (h * B) * (g * D) by grind, ← hb, ← hs1]
  constructor
  · intro hl
    have := Int.mul_lt_mul_of_pos_right hl hgh
    rw [e1, e2] at this
    exact Int.lt_of_mul_lt_mul_right this (by omega)
  · intro hl
    have := Int.mul_lt_mul_of_pos_right hl hs
    rw [← e1, ← e2] at this
    exact Int.lt_of_mul_lt_mul_right this (by omega)
theorem cut_eq {a b s : Int} (hs : 0 < s) (h1 : nm a s = nm b s) (h2 : dn a s = dn b s) : a = b := by
  have hab := cut_lt a b hs
  have hba := cut_lt b a hs
  rw [h1, h2] at hab
  rw [h1, h2] at hba
  omega
/-- The best one of the levels that the program looks at, before the j-th. -/
def blL (T : Int → Int) (l : List Int) : Nat → Int
  | 0 => -999
  | j + 1 => if hasB l ((j : Int) - 1000) && decide (T (blL T l j) < T ((j : Int) - 999)) then (j : Int) - 999 else blL T l j
/-- The best one of the levels of the first payments. -/
def slL (T : Int → Int) (l : List Int) : Nat → Int
  | 0 => -999
  | x + 1 => if decide (nth l x + 1 ≤ 999) && (decide (T (slL T l x) < T (nth l x + 1)) || (decide (T (nth l x + 1) = T (slL T l x)) && decide (nth l x + 1 < slL T l x))) then nth l x + 1 else slL T l x
def BestOf (T : Int → Int) (C : Int → Prop) (b : Int) : Prop := C b ∧ ∀ c, C c → T c < T b ∨ (T c = T b ∧ b ≤ c)
theorem best_one {T : Int → Int} {C : Int → Prop} {a b : Int} (ha : BestOf T C a) (hb : BestOf T C b) : a = b := by
  have h1 := ha.2 b hb.1
  have h2 := hb.2 a ha.1
  omega
theorem best_iff {T : Int → Int} {C D : Int → Prop} {a : Int} (h : BestOf T C a) (hc : ∀ x, C x ↔ D x) : BestOf T D a := ⟨(hc a).1 h.1, fun c hd => h.2 c ((hc c).2 hd)⟩
theorem slL_best (T : Int → Int) (l : List Int) : ∀ k : Nat, BestOf T (fun c => c = -999 ∨ (∃ x : Nat, x < k ∧ c = nth l x + 1 ∧ c ≤ 999)) (slL T l k)
  | 0 => ⟨.inl rfl, fun c hc => by
    rcases hc with rfl | ⟨x, h, _⟩
    · exact .inr ⟨rfl, by rw [slL]; omega⟩
    · omega⟩
  | k + 1 => by
    have ih := slL_best T l k
    rw [slL]
    by_cases h9 : nth l k + 1 ≤ 999
    · by_cases hw : T (slL T l k) < T (nth l k + 1) ∨ (T (nth l k + 1) = T (slL T l k) ∧ nth l k + 1 < slL T l k)
      · rw [if_pos (by rw [decide_eq_true h9]; simpa using hw)]
        refine ⟨.inr ⟨k, by omega, rfl, h9⟩, fun c hc => ?_⟩
        rcases hc with rfl | ⟨x, h1, h2, h3⟩
        · have := ih.2 (-999) (.inl rfl); omega
        · by_cases e : x = k
          · subst e; subst h2; exact .inr ⟨rfl, Int.le_refl _⟩
          · have := ih.2 c (.inr ⟨x, by omega, h2, h3⟩); omega
      · rw [if_neg (by rw [decide_eq_true h9]; simpa using hw)]
        refine ⟨?_, fun c hc => ?_⟩
        · rcases ih.1 with h | ⟨x, h1, h2⟩
          · exact .inl h
          · exact .inr ⟨x, by omega, h2⟩
        · rcases hc with rfl | ⟨x, h1, h2, h3⟩
          · exact ih.2 (-999) (.inl rfl)
          · by_cases e : x = k
            · subst e; subst h2; omega
            · exact ih.2 c (.inr ⟨x, by omega, h2, h3⟩)
    · rw [if_neg (by rw [decide_eq_false h9]; simp)]
      refine best_iff ih fun c => ?_
      constructor
      · rintro (h | ⟨x, h1, h2⟩)
        · exact .inl h
        · exact .inr ⟨x, by omega, h2⟩
      · rintro (h | ⟨x, h1, h2, h3⟩)
        · exact .inl h
        · by_cases e : x = k
          · subst e; omega
          · exact .inr ⟨x, by omega, h2, h3⟩
/-- The sum behind the mean of the rule of a level. -/
def lvT (ps ws l : List Int) (lev : Int) : Int := rmS ps ws l (firsts ps (fS (levB ps l lev)))
def lvV (ps ws l : List Int) : Int := if paysB ps ws l then slL (lvT ps ws l) l l.length else 0
def lvN (ps ws l : List Int) : Int := if paysB ps ws l then nm (lvT ps ws l (lvV ps ws l)) (nth (sums ps ws) 0) else 0
def lvD (ps ws l : List Int) : Int := if paysB ps ws l then dn (lvT ps ws l (lvV ps ws l)) (nth (sums ps ws) 0) else 0
theorem lv_no {ps ws l : List Int} (h : paysB ps ws l = false) : lvV ps ws l = 0 ∧ lvN ps ws l = 0 ∧ lvD ps ws l = 0 := by
  unfold lvN lvD; rw [lvV, h]; exact ⟨rfl, rfl, rfl⟩
theorem lv_yes {ps ws l : List Int} (h : paysB ps ws l = true) : lvV ps ws l = slL (lvT ps ws l) l l.length ∧ lvN ps ws l = nm (lvT ps ws l (lvV ps ws l)) (nth (sums ps ws) 0) ∧ lvD ps ws l = dn (lvT ps ws l (lvV ps ws l)) (nth (sums ps ws) 0) := by
  unfold lvN lvD; rw [lvV, h]; exact ⟨rfl, rfl, rfl⟩
theorem lvT_bd {ps ws l : List Int} (h : paysB ps ws l = true) (lev : Int) : -11508480 ≤ lvT ps ws l lev ∧ lvT ps ws l lev ≤ 11508480 := by
  obtain ⟨hT, _, _, _, hl⟩ := paysB_t h
  have h1 := mS_bd (rule := firsts ps (fS (levB ps l lev))) hT hl (firsts ps (fS (levB ps l lev))).length
  have h2 := firsts_length ps (fS (levB ps l lev))
  have h3 := hT.toPa.n24
  rw [lvT, rmS]
  omega
theorem eqA2 (a b c d : Int) (w : World) : (Op.equalIn 10000 48 (.agg #[.int .i64 a, .int .i64 b]) (.agg #[.int .i64 c, .int .i64 d])).run Try.prog w = .ok (a == c && b == d) w := by
  have hu : Try.prog.underlying 48 = some (.array 2 3) := by kernel_rfl
  have hi : Try.prog.underlying 3 = some (.int .i64) := by kernel_rfl
  have hc : Try.prog.cellsOf 3 = 1 := by kernel_rfl
  have hp : Try.prog.plainKey 3 = true := by kernel_rfl
  obtain ⟨i, hinfo⟩ : ∃ i, Try.prog.info? 3 = some i := by
    have h := info_int
    cases h2 : Try.prog.info? 3 with
    | none => rw [h2] at h; cases h
    | some i => exact ⟨i, rfl⟩
  rw [show (10000 : Nat) = 9999 + 1 from rfl, run_equalIn_array w 9999 _ _ hu hinfo, hc, show List.range 2 = [0, 1] from rfl]
  have e1 : ∀ W, (Op.equalIn 9999 3 (.int .i64 a) (.int .i64 c)).run Try.prog W = .ok (a == c) W := fun W => run_equalIn_int W 9998 _ _ _ _ _ hi
  have e2 : ∀ W, (Op.equalIn 9999 3 (.int .i64 b) (.int .i64 d)).run Try.prog W = .ok (b == d) W := fun W => run_equalIn_int W 9998 _ _ _ _ _ hi
  have p1 : ∀ (x y : Int) W, (part 3 #[.int .i64 x, .int .i64 y] (0 * 1)).run Try.prog W = .ok (.int .i64 x) W := fun x y W => run_part_plain W hp rfl
  have p2 : ∀ (x y : Int) W, (part 3 #[.int .i64 x, .int .i64 y] (1 * 1)).run Try.prog W = .ok (.int .i64 y) W := fun x y W => run_part_plain W hp rfl
  generalize (a == c) = r1 at *
  generalize (b == d) = r2 at *
  cases r1
  · simp only [Op.eqItems, Sem.run_bind, p1, e1, Result.andThen_ok, Sem.run_ite, Bool.not_false, if_true, Sem.run_pure, Bool.false_and]
  · cases r2
    · simp only [Op.eqItems, Sem.run_bind, p1, p2, e1, e2, Result.andThen_ok, Sem.run_ite, Bool.not_true, Bool.not_false, Bool.false_eq_true, if_true, if_false, Sem.run_pure, Bool.true_and]
    · simp only [Op.eqItems, Sem.run_bind, p1, p2, e1, e2, Result.andThen_ok, Sem.run_ite, Bool.not_true, Bool.false_eq_true, if_false, Sem.run_pure, Bool.true_and]
theorem Pair.st2 {w : World} {g : Nat} {x y : Value} (h : Pair w g x y) (x' y' : Value) : Pair ((w.setCell ⟨g, 0, none⟩ x').setCell ⟨g, 1, none⟩ y') g x' y' :=
  ⟨(h.set x' y').1, (h.set x' y').2, by simpa using h.f0, by simpa using h.f1⟩
theorem Pair.fr2 {w : World} {g b : Nat} {x y : Value} (h : Pair w g x y) (hne : b ≠ g) (x' y' : Value) : Pair ((w.setCell ⟨b, 0, none⟩ x').setCell ⟨b, 1, none⟩ y') g x y := (h.far hne x').far hne y'
theorem cut_bd (a : Int) {s : Int} (hs : 0 < s) : (nm a s).natAbs ≤ a.natAbs ∧ 1 ≤ dn a s ∧ dn a s ≤ s := by
  obtain ⟨g, hg, h1, h2⟩ := cut_parts a hs
  have h3 := dn_pos a s (by omega)
  refine ⟨?_, h3, ?_⟩
  · have : a.natAbs = g.natAbs * (nm a s).natAbs := by rw [← Int.natAbs_mul, ← h1]
    rw [this]
    exact Nat.le_mul_of_pos_left _ (by omega)
  · have : 1 * dn a s ≤ g * dn a s := Int.mul_le_mul_of_nonneg_right (by omega) (by omega)
    omega
theorem cut_prod {a b s : Int} (hs : 0 < s) (hs2 : s ≤ 480) (ha : -11508480 ≤ a ∧ a ≤ 11508480) : -1000000000000 ≤ nm a s * dn b s ∧ nm a s * dn b s ≤ 1000000000000 := by
  obtain ⟨h1, _, _⟩ := cut_bd a hs
  obtain ⟨_, h2, h3⟩ := cut_bd b hs
  have := mul_abs (B := 11508480) (U := 480) (x := nm a s) (u := dn b s) (by omega) (by omega) (by omega)
  omega
def cmpI (x y : Int) : Int := if x < y then -1 else if x > y then 1 else 0
theorem cmp_gt {x y : Int} : (cmpI x y > 0) ↔ y < x := by
  unfold cmpI
  split
  · omega
  · split <;> omega
theorem KeepR.set2 {u w : World} {g : Nat} {x y : Value} (h : KeepR u w) (hg : u.heap.size ≤ g) : KeepR u ((w.setCell ⟨g, 0, none⟩ x).setCell ⟨g, 1, none⟩ y) := (Below.setCell h hg x).setCell hg y
end Go.Proofs.Ytnbomleieianoaa

/- Contracts: IsFraction and AddFractions on what are fractions. No conditions but those stated. -/
namespace Go.Proofs.Ytnbomleieianoaa
open Go.RowKit

set_option maxRecDepth 100000 in
theorem impl_IsFraction_t (x y : Int) (w : World) (h1 : inB x (-1000000000) 1000000000 = true) (h2 : inB y 1 1000000 = true) (hx : -1000000000 ≤ x ∧ x ≤ 1000000000) (hy : 1 ≤ y ∧ y ≤ 1000000) (h3 : gcdI x y = 1) :
    Calls Try.prog 152 #[.agg #[.int .i64 x, .int .i64 y]] w fun e w' => e = .returned (.bool true) ∧ Below w.heap.size w w' := by
  have hp := Pair.new w (.int .i64 x) (.int .i64 y) 48
  have hb := below_new w (.cells #[.int .i64 x, .int .i64 y] 48)
  have c0 := hp.c0
  have c1 := hp.c1
  have Hb := Lib.hid hb
  have H3 := Lib.hid h3
  clear hp hb h3
  go_enter Try.func152, Try.ntmps152
  go_wp2_with (fail)
  generalize (w.alloc (.cells #[.int .i64 x, .int .i64 y] 48)) = w1 at *
  refine (impl_within _ _ _ _).mono ?_
  rintro e w2 ⟨rfl, rfl⟩
  rw [h1]
  go_wp2_with fail
  refine (impl_within _ _ _ _).mono ?_
  rintro e w2 ⟨rfl, rfl⟩
  rw [h2]
  go_wp2_with fail
  refine (impl_commonDivisor _ _ _ (by omega) (by omega)).mono ?_
  rintro e w2 ⟨rfl, n, rfl⟩
  rw [H3.out]
  go_wp2_with fail
  go_ret
  exact ⟨rfl, below_drewN Hb.out _⟩

def FrOk (f : Int × Int) : Prop := inB f.1 (-1000000000) 1000000000 = true ∧ inB f.2 1 1000000 = true ∧ (-1000000000 ≤ f.1 ∧ f.1 ≤ 1000000000) ∧ (1 ≤ f.2 ∧ f.2 ≤ 1000000) ∧ gcdI f.1 f.2 = 1
set_option maxRecDepth 100000 in
theorem impl_areFractions_t (a : Option Addr) (n c : Nat) (xs : List (Int × Int)) (w : World) (hn : n ≤ 1048576) (h : Fr.Ints w a n xs) (hF : ∀ i, i < n → FrOk (Fr.at1 xs i, Fr.at2 xs i)) :
    Calls Try.prog 101 #[.slice a n c] w fun e w' => e = .returned (.bool true) ∧ Below w.heap.size w w' := by
  have Ha := Lib.hid h
  have HF := Lib.hid hF
  clear h hF
  go_enter Try.func101, Try.ntmps101
  go_wp2_with fail
  go_loopw [7] (fun v7 wr => ∃ i : Nat, i ≤ n ∧ v7 = .int .i64 i ∧ Below w.heap.size w wr) (fun v7 _ => n - (intOf v7).toNat)
  case atStart => exact ⟨0, Nat.zero_le _, rfl, Below.refl _ _⟩
  case round =>
    obtain ⟨i, hi, rfl, hbr⟩ := hrel
    have HBR := Lib.hid hbr
    clear hbr
    by_cases hlt : (i : Int) < n
    · have hX := Ha.out.below HBR.out
      obtain ⟨ba, oa, rfl, hba, hca⟩ := hX.2 (by omega)
      have h1 := (hca i (by omega)).1
      have h2 := (hca i (by omega)).2
      have hok := HF.out i (by omega)
      clear hca hX
      generalize Fr.at1 xs i = x at *
      generalize Fr.at2 xs i = y at *
      have Hok := Lib.hid hok
      clear hok
      have hp := Pair.new wr (.int .i64 x) (.int .i64 y) 48
      have hb := below_new wr (.cells #[.int .i64 x, .int .i64 y] 48)
      have zz := Pair.new wr (.int .i64 0) (.int .i64 0) 48
      have zz0 := zz.c0
      have zz1 := zz.c1
      have zz2 := zz.f0
      have zz3 := zz.f1
      have c0 := hp.c0
      have c1 := hp.c1
      have Hb := Lib.hid hb
      clear hp hb zz
      go_wp2_with fail
      generalize (wr.alloc (.cells #[.int .i64 x, .int .i64 y] 48)) = wz at *
      refine (impl_IsFraction_t x y wz Hok.out.1 Hok.out.2.1 Hok.out.2.2.1 Hok.out.2.2.2.1 Hok.out.2.2.2.2).mono ?_
      rintro e w5 ⟨rfl, b5⟩
      have BB := Lib.hid (HBR.out.trans ((Hb.out.trans (b5.mono Hb.out.size)).mono HBR.out.size))
      clear b5 c0 c1 zz0 zz1 zz2 zz3
      go_wp2_with fail
      go_roundw
      case rel => exact ⟨i + 1, by omega, by go_num, BB.out⟩
      case measure => simp [intOf]; omega
    · go_wp2_with fail
      go_ret
      exact ⟨rfl, HBR.out⟩
theorem fr_two (w : World) (x y u v : Int) : Fr.Ints (w.alloc (.cells #[.int .i64 x, .int .i64 y, .int .i64 u, .int .i64 v] 48)) (some ⟨w.heap.size, 0, none⟩) 2 [(x, y), (u, v)] := by
  refine ⟨rfl, fun _ => ⟨w.heap.size, 0, rfl, by simp, fun j hj => ?_⟩⟩
  rcases (show j = 0 ∨ j = 1 by omega) with rfl | rfl <;> exact ⟨by rw [World.cell?_alloc_at _ _ _ _ rfl]; rfl, by rw [World.cell?_alloc_at _ _ _ _ rfl]; rfl⟩
theorem mul_in {x v A B : Int} (hx : -A ≤ x ∧ x ≤ A) (hv : 0 ≤ v ∧ v ≤ B) (hA : 0 ≤ A) : -(A * B) ≤ x * v ∧ x * v ≤ A * B := by
  have h1 := Int.mul_le_mul_of_nonneg_right hx.2 hv.1
  have h2 := Int.mul_le_mul_of_nonneg_right hx.1 hv.1
  have h3 := Int.mul_le_mul_of_nonneg_left hv.2 hA
  rw [Int.neg_mul] at h2
  omega
set_option maxRecDepth 100000 in
theorem impl_AddFractions_t (x y u v : Int) (w : World) (h1 : FrOk (x, y)) (h2 : FrOk (u, v)) :
    Calls Try.prog 29 #[.agg #[.int .i64 x, .int .i64 y], .agg #[.int .i64 u, .int .i64 v]] w fun e w' => e = .returned (.tuple #[.agg #[.int .i64 (lowN (x * v + u * y) (y * v)), .int .i64 (lowD (x * v + u * y) (y * v))], .bool (lowB (x * v + u * y) (y * v))]) ∧ Below w.heap.size w w' := by
  have H1 := Lib.hid h1
  have H2 := Lib.hid h2
  clear h1 h2
  go_enter Try.func29, Try.ntmps29
  have p1 := Pair.new w (.int .i64 x) (.int .i64 y) 48
  have b1 := below_new w (.cells #[.int .i64 x, .int .i64 y] 48)
  have p1 := (p1.alloc (.cells #[.int .i64 u, .int .i64 v] 48)).alloc (.cells #[.int .i64 0, .int .i64 0] 48)
  have p2 := (Pair.new (w.alloc (.cells #[.int .i64 x, .int .i64 y] 48)) (.int .i64 u) (.int .i64 v) 48).alloc (.cells #[.int .i64 0, .int .i64 0] 48)
  have p3 := Pair.new ((w.alloc (.cells #[.int .i64 x, .int .i64 y] 48)).alloc (.cells #[.int .i64 u, .int .i64 v] 48)) (.int .i64 0) (.int .i64 0) 48
  have b3 : Below w.heap.size w (((w.alloc (.cells #[.int .i64 x, .int .i64 y] 48)).alloc (.cells #[.int .i64 u, .int .i64 v] 48)).alloc (.cells #[.int .i64 0, .int .i64 0] 48)) := (b1.alloc (by simp) _).alloc (by simp; omega) _
  rw [show (w.alloc (.cells #[.int .i64 x, .int .i64 y] 48)).heap.size = w.heap.size + 1 by simp] at p2
  rw [show ((w.alloc (.cells #[.int .i64 x, .int .i64 y] 48)).alloc (.cells #[.int .i64 u, .int .i64 v] 48)).heap.size = w.heap.size + 1 + 1 by simp] at p3
  have B3 := Lib.hid b3
  have c0 := p1.c0
  have c1 := p1.c1
  have d0 := p2.c0
  have d1 := p2.c1
  have HP1 := Lib.hid p1
  have HP2 := Lib.hid p2
  have HP3 := Lib.hid p3
  clear b1 b3 p1 p2 p3
  go_wp2_with fail
  have hsz : (((w.alloc (.cells #[.int .i64 x, .int .i64 y] 48)).alloc (.cells #[.int .i64 u, .int .i64 v] 48)).alloc (.cells #[.int .i64 0, .int .i64 0] 48)).heap.size = w.heap.size + 1 + 1 + 1 := by simp
  generalize (((w.alloc (.cells #[.int .i64 x, .int .i64 y] 48)).alloc (.cells #[.int .i64 u, .int .i64 v] 48)).alloc (.cells #[.int .i64 0, .int .i64 0] 48)) = wA at *
  rw [← hsz]
  refine (impl_areFractions_t (some ⟨wA.heap.size, 0, none⟩) 2 2 [(x, y), (u, v)] _ (by omega) (fr_two wA x y u v) (fun i hi => by rcases (show i = 0 ∨ i = 1 by omega) with rfl | rfl <;> first | exact H1.out | exact H2.out)).mono ?_
  rintro e w5 ⟨rfl, b5⟩
  have bb := (below_new wA (.cells #[.int .i64 x, .int .i64 y, .int .i64 u, .int .i64 v] 48)).trans (b5.mono (by simp))
  clear b5 c0 c1 d0 d1 hsz
  have c0 := (HP1.out.below bb).c0
  have c1 := (HP1.out.below bb).c1
  have d0 := (HP2.out.below bb).c0
  have d1 := (HP2.out.below bb).c1
  have e0 := (HP3.out.below bb).c0
  have e1 := (HP3.out.below bb).c1
  have g0 := (HP3.out.below bb).f0
  have g1 := (HP3.out.below bb).f1
  have HP3 := Lib.hid (HP3.out.below bb)
  have BB := Lib.hid (B3.out.trans (bb.mono B3.out.size))
  have m1 := mul_in H1.out.2.2.1 (v := v) (B := 1000000) (by have := H2.out.2.2.2.1; simp only at this; omega) (by omega)
  have m2 := mul_in H2.out.2.2.1 (v := y) (B := 1000000) (by have := H1.out.2.2.2.1; simp only at this; omega) (by omega)
  have m3 := mul_in (x := y) (A := 1000000) (v := v) (B := 1000000) (by have := H1.out.2.2.2.1; simp only at this; omega) (by have := H2.out.2.2.2.1; simp only at this; omega) (by omega)
  have m4 : 0 < y * v := Int.mul_pos (by have := H1.out.2.2.2.1; simp only at this; omega) (by have := H2.out.2.2.2.1; simp only at this; omega)
  clear bb B3 HP1 HP2
  simp only at m1 m2
  go_wp2_with fail
  refine (impl_lowest _ _ _ (by omega) (by omega) (by omega)).mono ?_
  rintro e w6 ⟨rfl, b6⟩
  have hp := HP3.out.below b6
  have HB := Lib.hid (BB.out.trans (b6.mono BB.out.size))
  clear c0 c1 d0 d1 e0 e1 g0 g1 b6 m1 m2 m3 m4
  have c0 := hp.c0
  have c1 := hp.c1
  have f0 := hp.f0
  have f1 := hp.f1
  have hr := two_cells c0 c1 (.int .i64 (lowN (x * v + u * y) (y * v))) (.int .i64 (lowD (x * v + u * y) (y * v)))
  clear hp
  go_wp2_with fail
  exact bodyPost_ret (v := .tuple #[.agg #[.int .i64 (lowN (x * v + u * y) (y * v)), .int .i64 (lowD (x * v + u * y) (y * v))], .bool (lowB (x * v + u * y) (y * v))]) (by simp [results, Try.results29, go_sem, hr.1, hr.2]) rfl ⟨rfl, (HB.out.setCell (by simp; omega) _).setCell (by simp; omega) _⟩
end Go.Proofs.Ytnbomleieianoaa

/- Contracts of the small words of the laws on rules and fractions. No conditions but those stated. -/
namespace Go.Proofs.Ytnbomleieianoaa
open Go.RowKit

theorem laws_vBig (a : Option Addr) (n cap : Nat) (w : World) :
    Calls Try.prog 10 #[.slice a n cap] w fun e w' => e = .returned (.bool (decide ((n : Int) > 65536))) ∧ w = w' := by
  by_cases h : (n : Int) > 65536
  all_goals
    go_enter Try.func10, Try.ntmps10
    go_wp2_with fail
    go_ret
    exact ⟨by simp [h], rfl⟩
set_option maxHeartbeats 400000 in
/-- Two slices that read alike are found equal. -/
theorem laws_vInts_q (a b : Option Addr) (n ca cb : Nat) (xs : List Int) (w : World) (hn : n ≤ 4294967296) (ha : Ints w a n xs) (hb : Ints w b n xs) :
    Calls Try.prog 20 #[.slice a n ca, .slice b n cb] w fun e w' => e = .returned (.bool true) ∧ ∃ m, w' = w.drewN m := by
  have Ha := Lib.hid ha
  have Hb := Lib.hid hb
  clear ha hb
  go_enter Try.func20, Try.ntmps20
  go_wp2_with fail
  go_loopw [5] (fun v5 wr => ∃ i m : Nat, i ≤ n ∧ v5 = .int .i64 i ∧ wr = w.drewN m) (fun v5 _ => n - (intOf v5).toNat)
  case atStart => exact ⟨0, 0, Nat.zero_le _, rfl, rfl⟩
  case round =>
    obtain ⟨i, m, hi, rfl, hwr⟩ := hrel
    have hbel : Below w.heap.size w wr := by rw [hwr]; exact below_drewN (Below.refl _ _) m
    have Hwr := Lib.hid hwr
    clear hwr
    by_cases hlt : (i : Int) < n
    · obtain ⟨ba, oa, rfl, hba, hca⟩ := Ha.out.2 (by omega)
      obtain ⟨bb, ob, rfl, hbb, hcb⟩ := Hb.out.2 (by omega)
      have h1 := (hbel.cell (p := ⟨ba, oa + i, none⟩) hba).trans (hca i (by omega))
      have h2 := (hbel.cell (p := ⟨bb, ob + i, none⟩) hbb).trans (hcb i (by omega))
      clear hca hcb hbel
      generalize nth xs i = c at h1 h2
      go_wp2_with fail
      go_quiet (fail)
      go_wp2_with fail
      go_roundw
      case rel => exact ⟨i + 1, _, by omega, by go_num, by rw [Hwr.out, World.drewN_drewN]⟩
      case measure => simp [intOf]; omega
    · go_wp2_with fail
      go_ret
      exact ⟨rfl, m, Hwr.out⟩
theorem laws_vInts (a b : Option Addr) (n ca cb : Nat) (xs : List Int) (w : World) (hn : n ≤ 4294967296) (ha : Ints w a n xs) (hb : Ints w b n xs) :
    Calls Try.prog 20 #[.slice a n ca, .slice b n cb] w fun e w' => e = .returned (.bool true) ∧ Below w.heap.size w w' :=
  (laws_vInts_q a b n ca cb xs w hn ha hb).mono fun _ _ ⟨he, m, hm⟩ => ⟨he, by rw [hm]; exact below_drewN (Below.refl _ _) m⟩
theorem laws_rBig (a : Option Addr) (n cap : Nat) (w : World) :
    Calls Try.prog 43 #[.slice a n cap] w fun e w' => e = .returned (.bool (decide ((n : Int) > 65536))) ∧ w = w' := by
  by_cases h : (n : Int) > 65536
  all_goals
    go_enter Try.func43, Try.ntmps43
    go_wp2_with fail
    go_ret
    exact ⟨by simp [h], rfl⟩
set_option maxHeartbeats 400000 in
/-- Two slices that read alike are found equal. -/
theorem laws_rInts_q (a b : Option Addr) (n ca cb : Nat) (xs : List Int) (w : World) (hn : n ≤ 4294967296) (ha : Ints w a n xs) (hb : Ints w b n xs) :
    Calls Try.prog 54 #[.slice a n ca, .slice b n cb] w fun e w' => e = .returned (.bool true) ∧ ∃ m, w' = w.drewN m := by
  have Ha := Lib.hid ha
  have Hb := Lib.hid hb
  clear ha hb
  go_enter Try.func54, Try.ntmps54
  go_wp2_with fail
  go_loopw [5] (fun v5 wr => ∃ i m : Nat, i ≤ n ∧ v5 = .int .i64 i ∧ wr = w.drewN m) (fun v5 _ => n - (intOf v5).toNat)
  case atStart => exact ⟨0, 0, Nat.zero_le _, rfl, rfl⟩
  case round =>
    obtain ⟨i, m, hi, rfl, hwr⟩ := hrel
    have hbel : Below w.heap.size w wr := by rw [hwr]; exact below_drewN (Below.refl _ _) m
    have Hwr := Lib.hid hwr
    clear hwr
    by_cases hlt : (i : Int) < n
    · obtain ⟨ba, oa, rfl, hba, hca⟩ := Ha.out.2 (by omega)
      obtain ⟨bb, ob, rfl, hbb, hcb⟩ := Hb.out.2 (by omega)
      have h1 := (hbel.cell (p := ⟨ba, oa + i, none⟩) hba).trans (hca i (by omega))
      have h2 := (hbel.cell (p := ⟨bb, ob + i, none⟩) hbb).trans (hcb i (by omega))
      clear hca hcb hbel
      generalize nth xs i = c at h1 h2
      go_wp2_with fail
      go_quiet (fail)
      go_wp2_with fail
      go_roundw
      case rel => exact ⟨i + 1, _, by omega, by go_num, by rw [Hwr.out, World.drewN_drewN]⟩
      case measure => simp [intOf]; omega
    · go_wp2_with fail
      go_ret
      exact ⟨rfl, m, Hwr.out⟩
theorem laws_rInts (a b : Option Addr) (n ca cb : Nat) (xs : List Int) (w : World) (hn : n ≤ 4294967296) (ha : Ints w a n xs) (hb : Ints w b n xs) :
    Calls Try.prog 54 #[.slice a n ca, .slice b n cb] w fun e w' => e = .returned (.bool true) ∧ Below w.heap.size w w' :=
  (laws_rInts_q a b n ca cb xs w hn ha hb).mono fun _ _ ⟨he, m, hm⟩ => ⟨he, by rw [hm]; exact below_drewN (Below.refl _ _) m⟩
set_option maxHeartbeats 400000 in
/-- Two slices of pairs that read alike are found equal. -/
theorem laws_vPairs_q (a b : Option Addr) (n ca cb : Nat) (xs : List (Int × Int)) (w : World) (hn : n ≤ 4294967296) (ha : Fr.Ints w a n xs) (hb : Fr.Ints w b n xs) :
    Calls Try.prog 27 #[.slice a n ca, .slice b n cb] w fun e w' => e = .returned (.bool true) ∧ ∃ m, w' = w.drewN m := by
  have Ha := Lib.hid ha
  have Hb := Lib.hid hb
  clear ha hb
  go_enter Try.func27, Try.ntmps27
  go_wp2_with fail
  go_loopw [5] (fun v5 wr => ∃ i m : Nat, i ≤ n ∧ v5 = .int .i64 i ∧ wr = w.drewN m) (fun v5 _ => n - (intOf v5).toNat)
  case atStart => exact ⟨0, 0, Nat.zero_le _, rfl, rfl⟩
  case round =>
    obtain ⟨i, m, hi, rfl, hwr⟩ := hrel
    have hbel : Below w.heap.size w wr := by rw [hwr]; exact below_drewN (Below.refl _ _) m
    have Hwr := Lib.hid hwr
    clear hwr
    by_cases hlt : (i : Int) < n
    · obtain ⟨ba, oa, rfl, hba, hca⟩ := Ha.out.2 (by omega)
      obtain ⟨bb, ob, rfl, hbb, hcb⟩ := Hb.out.2 (by omega)
      have h1 := (hbel.cell (p := ⟨ba, oa + i * 2, none⟩) hba).trans (hca i (by omega)).1
      have h2 := (hbel.cell (p := ⟨ba, oa + i * 2 + 1, none⟩) hba).trans (hca i (by omega)).2
      have h3 := (hbel.cell (p := ⟨bb, ob + i * 2, none⟩) hbb).trans (hcb i (by omega)).1
      have h4 := (hbel.cell (p := ⟨bb, ob + i * 2 + 1, none⟩) hbb).trans (hcb i (by omega)).2
      clear hca hcb hbel
      generalize Fr.at1 xs i = c at h1 h3
      generalize Fr.at2 xs i = d at h2 h4
      have hqA : ∀ W, (Op.equalIn 10000 48 (.agg #[.int .i64 c, .int .i64 d]) (.agg #[.int .i64 c, .int .i64 d])).run Try.prog W = .ok true W := fun W => by rw [eqA2]; simp
      go_wp2_with fail
      go_quiet (fail)
      go_wp2_with fail
      go_roundw
      case rel => exact ⟨i + 1, _, by omega, by go_num, by rw [Hwr.out, World.drewN_drewN]⟩
      case measure => simp [intOf]; omega
    · go_wp2_with fail
      go_ret
      exact ⟨rfl, m, Hwr.out⟩
theorem laws_vPairs (a b : Option Addr) (n ca cb : Nat) (xs : List (Int × Int)) (w : World) (hn : n ≤ 4294967296) (ha : Fr.Ints w a n xs) (hb : Fr.Ints w b n xs) :
    Calls Try.prog 27 #[.slice a n ca, .slice b n cb] w fun e w' => e = .returned (.bool true) ∧ Below w.heap.size w w' :=
  (laws_vPairs_q a b n ca cb xs w hn ha hb).mono fun _ _ ⟨he, m, hm⟩ => ⟨he, by rw [hm]; exact below_drewN (Below.refl _ _) m⟩
set_option maxHeartbeats 400000 in
theorem laws_rLess (a b c d : Int) (w : World) (h1 : -4611686018427387904 ≤ a * d ∧ a * d ≤ 4611686018427387904) (h2 : -4611686018427387904 ≤ c * b ∧ c * b ≤ 4611686018427387904) :
    Calls Try.prog 58 #[.agg #[.int .i64 a, .int .i64 b], .agg #[.int .i64 c, .int .i64 d]] w fun e w' => e = .returned (.bool (decide (a * d < c * b))) ∧ Below w.heap.size w w' := by
  have hbb : Below w.heap.size w ((w.alloc (.cells #[.int .i64 a, .int .i64 b] 48)).alloc (.cells #[.int .i64 c, .int .i64 d] 48)) := (below_new w _).alloc (by simp) _
  have hp := (Pair.new w (.int .i64 a) (.int .i64 b) 48).alloc (.cells #[.int .i64 c, .int .i64 d] 48)
  have hq := Pair.new (w.alloc (.cells #[.int .i64 a, .int .i64 b] 48)) (.int .i64 c) (.int .i64 d) 48
  rw [show (w.alloc (.cells #[.int .i64 a, .int .i64 b] 48)).heap.size = w.heap.size + 1 by simp] at hq
  have c0 := hp.c0
  have c1 := hp.c1
  have d0 := hq.c0
  have d1 := hq.c1
  have k1 : IntKind.i64.wrap (a * d) = a * d := IntWalk.i64_in _ (by omega)
  have k2 : IntKind.i64.wrap (c * b) = c * b := IntWalk.i64_in _ (by omega)
  clear hp hq h1 h2
  have HB := Lib.hid hbb
  clear hbb
  go_enter Try.func58, Try.ntmps58
  go_wp2_with fail
  go_ret
  exact ⟨rfl, HB.out⟩
end Go.Proofs.Ytnbomleieianoaa
