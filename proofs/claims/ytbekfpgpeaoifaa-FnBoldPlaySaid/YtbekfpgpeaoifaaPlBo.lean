/- Plain numbers: bold play is best where a roll is not more often won than lost; safe tables are no less than the best one. Nothing of the program. -/
import Derived.Test.YtbekfpgpeaoifaaPlSt
import Derived.Test.YtbekfpgpeaoifaaTabs
namespace Go.Proofs.Ytbekfpgpeaoifaa

/-- The chances of bold play with goal M, times (a + b) to the rolls. -/
def bo (a b : Int) (M : Nat) : Nat → Nat → Int
  | 0, i => if i = M then 1 else 0
  | r + 1, i => if 2 * i ≤ M then a * bo a b M r (2 * i) + b * bo a b M r 0 else a * bo a b M r M + b * bo a b M r (2 * i - M)
theorem bo_zero (a b : Int) {M : Nat} (hM : 1 ≤ M) : ∀ r, bo a b M r 0 = 0
  | 0 => by rw [bo, if_neg (by omega)]
  | r + 1 => by rw [bo, if_pos (by omega), Nat.mul_zero, bo_zero a b hM r]; simp
theorem bo_lo (a b : Int) {M : Nat} (hM : 1 ≤ M) (r i : Nat) (h : 2 * i ≤ M) : bo a b M (r + 1) i = a * bo a b M r (2 * i) := by
  rw [bo, if_pos h, bo_zero a b hM]; simp
theorem bo_hi (a b : Int) {M : Nat} (hM : 1 ≤ M) (r i : Nat) (h : M ≤ 2 * i) : bo a b M (r + 1) i = a * bo a b M r M + b * bo a b M r (2 * i - M) := by
  by_cases h2 : 2 * i ≤ M
  · have e : 2 * i = M := by omega
    rw [bo, if_pos h2, e, Nat.sub_self]
  · rw [bo, if_neg h2]
theorem bo_top (a b : Int) {M : Nat} (hM : 1 ≤ M) (r : Nat) : bo a b M (r + 1) M = (a + b) * bo a b M r M := by
  rw [bo_hi a b hM r M (by omega), show 2 * M - M = M by omega, Int.add_mul]
theorem bo_bd {a b : Int} (ha : 0 ≤ a) (hb : 0 ≤ b) {M : Nat} (hM : 1 ≤ M) : ∀ r i, i ≤ M → 0 ≤ bo a b M r i ∧ bo a b M r i ≤ bo a b M r M
  | 0, i, _ => by simp only [bo]; split <;> simp
  | r + 1, i, hi => by
    have hN := (bo_bd ha hb hM r M (Nat.le_refl _)).1
    rw [bo_top a b hM r, Int.add_mul]
    by_cases h : 2 * i ≤ M
    · rw [bo_lo a b hM r i h]
      have ih := bo_bd ha hb hM r (2 * i) h
      have h1 := Int.mul_nonneg ha ih.1
      have h2 := Int.mul_le_mul_of_nonneg_left ih.2 ha
      have h3 := Int.mul_nonneg hb hN
      omega
    · rw [bo_hi a b hM r i (by omega)]
      have ih := bo_bd ha hb hM r (2 * i - M) (by omega)
      have h1 := Int.mul_nonneg hb ih.1
      have h2 := Int.mul_le_mul_of_nonneg_left ih.2 hb
      have h3 := Int.mul_nonneg ha hN
      omega
theorem bo_scale (a b : Int) {M : Nat} (hM : 1 ≤ M) : ∀ r i, i ≤ M → bo a b (2 * M) r (2 * i) = bo a b M r i
  | 0, i, _ => by
    simp only [bo]
    by_cases h : i = M
    · rw [if_pos h, if_pos (by omega)]
    · rw [if_neg h, if_neg (by omega)]
  | r + 1, i, hi => by
    by_cases h : 2 * i ≤ M
    · rw [bo_lo a b (show 1 ≤ 2 * M by omega) r (2 * i) (by omega), bo_lo a b hM r i h, bo_scale a b hM r (2 * i) h]
    · rw [bo_hi a b (show 1 ≤ 2 * M by omega) r (2 * i) (by omega), bo_hi a b hM r i (by omega), bo_scale a b hM r M (Nat.le_refl _), show 2 * (2 * i) - 2 * M = 2 * (2 * i - M) by omega, bo_scale a b hM r (2 * i - M) (by omega)]
theorem le_of_mul {a x y : Int} (ha : 1 ≤ a) (h : a * x ≤ a * y) : x ≤ y := Int.le_of_mul_le_mul_left h (by omega)
/-- What is to be shown for r rolls, at all goals. -/
def BoP (a b : Int) (r : Nat) : Prop := ∀ M u v i : Nat, 1 ≤ M → v ≤ u → u ≤ M → 2 * i = u + v → a * bo a b M r u + b * bo a b M r v ≤ bo a b M (r + 1) i
theorem bo_sup {a b : Int} (ha : 1 ≤ a) (hab : a ≤ b) {r : Nat} (h : BoP a b r) {M x y : Nat} (hM : 1 ≤ M) (hxy : x + y ≤ M) : bo a b M r x + bo a b M r y ≤ bo a b M r (x + y) := by
  have key : ∀ x y : Nat, y ≤ x → x + y ≤ M → bo a b M r x + bo a b M r y ≤ bo a b M r (x + y) := fun x y hyx hxy => by
    have h1 := h (2 * M) (2 * x) (2 * y) (x + y) (by omega) (by omega) (by omega) (by omega)
    rw [bo_scale a b hM r x (by omega), bo_scale a b hM r y (by omega), bo_lo a b (show 1 ≤ 2 * M by omega) r (x + y) (by omega), bo_scale a b hM r (x + y) hxy] at h1
    have h2 := (bo_bd (a := a) (b := b) (by omega) (by omega) hM r y (by omega)).1
    have h3 := Int.mul_le_mul_of_nonneg_right hab h2
    refine le_of_mul ha ?_
    rw [Int.mul_add]
    omega
  rcases Nat.le_total y x with h1 | h1
  · exact key x y h1 hxy
  · have := key y x h1 (by omega)
    rw [Nat.add_comm y x] at this
    omega
theorem bo_sup2 {a b : Int} (ha : 1 ≤ a) (hab : a ≤ b) {r : Nat} (h : BoP a b r) {M x y : Nat} (hM : 1 ≤ M) (hx : x ≤ M) (hy : y ≤ M) (hxy : M ≤ x + y) : bo a b M r x + bo a b M r y ≤ bo a b M r M + bo a b M r (x + y - M) := by
  have key : ∀ x y : Nat, y ≤ x → x ≤ M → M ≤ x + y → bo a b M r x + bo a b M r y ≤ bo a b M r M + bo a b M r (x + y - M) := fun x y hyx hx hxy => by
    have h1 := h (2 * M) (2 * x) (2 * y) (x + y) (by omega) (by omega) (by omega) (by omega)
    rw [bo_scale a b hM r x (by omega), bo_scale a b hM r y (by omega), bo_hi a b (show 1 ≤ 2 * M by omega) r (x + y) (by omega), bo_scale a b hM r M (Nat.le_refl _), show 2 * (x + y) - 2 * M = 2 * (x + y - M) by omega, bo_scale a b hM r (x + y - M) (by omega)] at h1
    have h2 := (bo_bd (a := a) (b := b) (by omega) (by omega) hM r x hx).2
    have h3 := Int.mul_le_mul_of_nonneg_left h2 (show 0 ≤ b - a by omega)
    rw [Int.sub_mul, Int.sub_mul] at h3
    refine le_of_mul (a := b) (by omega) ?_
    rw [Int.mul_add, Int.mul_add]
    omega
  rcases Nat.le_total y x with h1 | h1
  · exact key x y h1 hx hxy
  · have := key y x h1 hy (by omega)
    rw [Nat.add_comm y x] at this
    omega
theorem bo_best {a b : Int} (ha : 1 ≤ a) (hab : a ≤ b) : ∀ r, BoP a b r
  | 0 => by
    intro M u v i hM hvu hu hi
    by_cases hu2 : u = M
    · subst hu2
      rw [bo_hi a b hM 0 i (by omega)]
      by_cases hv : v = u
      · subst hv
        have : 2 * i - v = v := by omega
        rw [this]; exact Int.le_refl _
      · have h1 : bo a b u 0 v = 0 := by rw [bo, if_neg hv]
        have h2 := (bo_bd (a := a) (b := b) (by omega) (by omega) hM 0 (2 * i - u) (by omega)).1
        have h3 := Int.mul_nonneg (show 0 ≤ b by omega) h2
        rw [h1]; omega
    · have h1 : bo a b M 0 u = 0 := by rw [bo, if_neg hu2]
      have h2 : bo a b M 0 v = 0 := by rw [bo, if_neg (by omega)]
      have h3 := (bo_bd (a := a) (b := b) (by omega) (by omega) hM 1 i (by omega)).1
      rw [h1, h2]
      simpa using h3
  | r + 1 => by
    intro M u v i hM hvu hu hi
    have ih := bo_best ha hab r
    by_cases hA : 2 * u ≤ M
    · have h1 := ih M (2 * u) (2 * v) (2 * i) hM (by omega) hA (by omega)
      rw [bo_lo a b hM r u hA, bo_lo a b hM r v (by omega), bo_lo a b hM (r + 1) i (by omega)]
      have h2 := Int.mul_le_mul_of_nonneg_left h1 (show 0 ≤ a by omega)
      rw [Int.mul_add] at h2
      have e : b * (a * bo a b M r (2 * v)) = a * (b * bo a b M r (2 * v)) := Int.mul_left_comm _ _ _
      omega
    by_cases hB : M ≤ 2 * v
    · have h1 := ih M (2 * u - M) (2 * v - M) (2 * i - M) hM (by omega) (by omega) (by omega)
      rw [bo_hi a b hM r u (by omega), bo_hi a b hM r v hB, bo_hi a b hM (r + 1) i (by omega), bo_top a b hM r]
      have h2 := Int.mul_le_mul_of_nonneg_left h1 (show 0 ≤ b by omega)
      generalize bo a b M r M = N at *
      generalize bo a b M r (2 * u - M) = X at *
      generalize bo a b M r (2 * v - M) = Y at *
      have e1 : a * (a * N + b * X) + b * (a * N + b * Y) = a * ((a + b) * N) + b * (a * X + b * Y) := by grind
      omega
    by_cases hC : 2 * i ≤ M
    · rw [bo_hi a b hM r u (by omega), bo_lo a b hM r v (by omega), bo_lo a b hM (r + 1) i hC, bo_hi a b hM r (2 * i) (by omega)]
      have h1 := bo_sup ha hab ih (x := 2 * u - M) (y := 2 * v) hM (by omega)
      rw [show 2 * u - M + 2 * v = 2 * (2 * i) - M by omega] at h1
      have h2 := Int.mul_le_mul_of_nonneg_left h1 (Int.mul_nonneg (show 0 ≤ a by omega) (show 0 ≤ b by omega))
      generalize bo a b M r M = N at *
      generalize bo a b M r (2 * u - M) = X at *
      generalize bo a b M r (2 * v) = Y at *
      generalize bo a b M r (2 * (2 * i) - M) = W at *
      have e1 : a * (a * N + b * X) + b * (a * Y) = a * (a * N) + a * b * (X + Y) := by grind
      have e2 : a * (a * N + b * W) = a * (a * N) + a * b * W := by grind
      omega
    · rw [bo_hi a b hM r u (by omega), bo_lo a b hM r v (by omega), bo_hi a b hM (r + 1) i (by omega), bo_lo a b hM r (2 * i - M) (by omega), bo_top a b hM r]
      have h1 := bo_sup2 ha hab ih (x := 2 * u - M) (y := 2 * v) hM (by omega) (by omega) (by omega)
      rw [show 2 * u - M + 2 * v - M = 2 * (2 * i - M) by omega] at h1
      have h2 := Int.mul_le_mul_of_nonneg_left h1 (Int.mul_nonneg (show 0 ≤ a by omega) (show 0 ≤ b by omega))
      generalize bo a b M r M = N at *
      generalize bo a b M r (2 * u - M) = X at *
      generalize bo a b M r (2 * v) = Y at *
      generalize bo a b M r (2 * (2 * i - M)) = W at *
      have e1 : a * (a * N + b * X) + b * (a * Y) = a * (a * N) + a * b * (X + Y) := by grind
      have e2 : a * ((a + b) * N) + b * (a * W) = a * (a * N) + a * b * (N + W) := by grind
      omega
/-! The tables. -/
theorem tab0_nth (st : Nat → List Int) (a b : Int) (n i : Nat) : nth (tabRow st a b n 0) i = if i = n then 1 else 0 := by
  rw [tabRow, nth_set (by simp), nth_replicate]
  by_cases h : n = i
  · subst h; simp
  · rw [if_neg h, if_neg (fun e => h e.symm)]
theorem tabS_nth (st : Nat → List Int) (a b : Int) (n r : Nat) {i : Nat} (h : i ≤ n) : nth (tabRow st a b n (r + 1)) i = bestL (aft a b (tabRow st a b n r) i) (st i) 0 := by
  rw [tabRow, rowN, nth_map_range (by omega)]
theorem tab_out (st : Nat → List Int) (a b : Int) (n r : Nat) {i : Nat} (h : n < i) : nth (tabRow st a b n r) i = 0 := nth_ge (by rw [tabRow_length]; omega)
theorem best_ge (f : Int → Int) (st : List Int) (m : Int) : m ≤ bestL f st m ∧ ∀ k, k < st.length → f (nth st k) ≤ bestL f st m := (bestL_le f st m _).1 (Int.le_refl _)
theorem bold_nth {a b : Int} (ha : 0 ≤ a) (hb : 0 ≤ b) {n : Nat} (hn : 1 ≤ n) : ∀ r i, i ≤ n → nth (tabRow (stB n) a b n r) i = bo a b n r i
  | 0, i, _ => by rw [tab0_nth, bo]
  | r + 1, i, hi => by
    rw [tabS_nth _ _ _ _ _ hi, stB]
    simp only [bestL]
    have h0 := (bo_bd ha hb hn (r + 1) i hi).1
    have : aft a b (tabRow (stB n) a b n r) i (min (i : Int) ((n : Int) - i)) = bo a b n (r + 1) i := by
      unfold aft
      by_cases h : 2 * i ≤ n
      · rw [show min (i : Int) ((n : Int) - i) = i by omega, show ((i : Int) + i).toNat = 2 * i by omega, show ((i : Int) - i).toNat = 0 by omega, bold_nth ha hb hn r _ h, bold_nth ha hb hn r 0 (by omega), bo, if_pos h]
      · rw [show min (i : Int) ((n : Int) - i) = (n : Int) - i by omega, show ((i : Int) + ((n : Int) - i)).toNat = n by omega, show ((i : Int) - ((n : Int) - i)).toNat = 2 * i - n by omega, bold_nth ha hb hn r n (Nat.le_refl _), bold_nth ha hb hn r _ (by omega), bo, if_neg h]
    rw [this]; omega
theorem stB_in {n i : Nat} (h : i ≤ n) : ∃ k, k < (stF n i).length ∧ nth (stF n i) k = min (i : Int) ((n : Int) - i) :=
  ⟨min i (n - i), by rw [stF_length]; omega, by rw [nth_stF _ _ _ (by omega)]; omega⟩
theorem stT_in {n i : Nat} (h : i ≤ n) : ∃ k, k < (stF n i).length ∧ nth (stF n i) k = min 1 (min (i : Int) ((n : Int) - i)) :=
  ⟨min 1 (min i (n - i)), by rw [stF_length]; omega, by rw [nth_stF _ _ _ (by omega)]; omega⟩
/-- Bold play is best. -/
theorem bold_best {a b : Int} (ha : 1 ≤ a) (hab : a ≤ b) {n : Nat} (hn : 1 ≤ n) : ∀ r i, i ≤ n → nth (tabRow (stF n) a b n r) i = bo a b n r i
  | 0, i, _ => by rw [tab0_nth, bo]
  | r + 1, i, hi => by
    rw [tabS_nth _ _ _ _ _ hi]
    have hat : ∀ s : Nat, s ≤ i → i + s ≤ n → aft a b (tabRow (stF n) a b n r) i (s : Int) = a * bo a b n r (i + s) + b * bo a b n r (i - s) := fun s h1 h2 => by
      unfold aft
      rw [show ((i : Int) + s).toNat = i + s by omega, show ((i : Int) - s).toNat = i - s by omega, bold_best ha hab hn r _ h2, bold_best ha hab hn r _ (by omega)]
    refine Int.le_antisymm ((bestL_le _ _ _ _).2 ⟨(bo_bd (by omega) (by omega) hn (r + 1) i hi).1, fun k hk => ?_⟩) ?_
    · rw [stF_length] at hk
      rw [nth_stF _ _ _ hk, hat k (by omega) (by omega)]
      exact bo_best ha hab r n (i + k) (i - k) i hn (by omega) (by omega) (by omega)
    · obtain ⟨k, h1, h2⟩ := stB_in hi
      have h3 := (best_ge (aft a b (tabRow (stF n) a b n r) i) (stF n i) 0).2 k h1
      rw [h2, show min (i : Int) ((n : Int) - i) = ((min i (n - i) : Nat) : Int) by omega, hat _ (by omega) (by omega)] at h3
      refine Int.le_trans ?_ h3
      by_cases h : 2 * i ≤ n
      · rw [bo, if_pos h, show min i (n - i) = i by omega, show i + i = 2 * i by omega, Nat.sub_self]; exact Int.le_refl _
      · rw [bo, if_neg h, show min i (n - i) = n - i by omega, show i + (n - i) = n by omega, show i - (n - i) = 2 * i - n by omega]; exact Int.le_refl _
theorem aft_mono {a b : Int} (ha : 0 ≤ a) (hb : 0 ≤ b) {p q : List Int} (h : ∀ i, nth p i ≤ nth q i) (i : Nat) (s : Int) : aft a b p i s ≤ aft a b q i s := by
  unfold aft
  have h1 := Int.mul_le_mul_of_nonneg_left (h ((i : Int) + s).toNat) ha
  have h2 := Int.mul_le_mul_of_nonneg_left (h ((i : Int) - s).toNat) hb
  omega
/-- Fewer stakes make no more. -/
theorem tab_le {st st2 : Nat → List Int} {a b : Int} (ha : 0 ≤ a) (hb : 0 ≤ b) {n : Nat} (hm : ∀ i, i ≤ n → ∀ k, k < (st i).length → ∃ q, q < (st2 i).length ∧ nth (st2 i) q = nth (st i) k) : ∀ r i, nth (tabRow st a b n r) i ≤ nth (tabRow st2 a b n r) i
  | 0, i => by rw [tab0_nth, tab0_nth]; exact Int.le_refl _
  | r + 1, i => by
    by_cases hi : i ≤ n
    · rw [tabS_nth _ _ _ _ _ hi, tabS_nth _ _ _ _ _ hi]
      have hg := best_ge (aft a b (tabRow st2 a b n r) i) (st2 i) 0
      refine (bestL_le _ _ _ _).2 ⟨hg.1, fun k hk => ?_⟩
      obtain ⟨q, h1, h2⟩ := hm i hi k hk
      have h3 := hg.2 q h1
      rw [h2] at h3
      exact Int.le_trans (aft_mono ha hb (tab_le ha hb hm r) i _) h3
    · rw [tab_out _ _ _ _ _ (by omega), tab_out _ _ _ _ _ (by omega)]; exact Int.le_refl _
theorem bold_le {a b : Int} (ha : 0 ≤ a) (hb : 0 ≤ b) (n r i : Nat) : nth (tabRow (stB n) a b n r) i ≤ nth (tabRow (stF n) a b n r) i :=
  tab_le ha hb (fun i hi k hk => by
    have : k = 0 := by simp [stB] at hk; exact hk
    subst this
    exact stB_in hi) r i
theorem timid_le {a b : Int} (ha : 0 ≤ a) (hb : 0 ≤ b) (n r i : Nat) : nth (tabRow (stT n) a b n r) i ≤ nth (tabRow (stF n) a b n r) i :=
  tab_le ha hb (fun i hi k hk => by
    have : k = 0 := by simp [stT] at hk; exact hk
    subst this
    exact stT_in hi) r i
theorem bold_eq {a b : Int} (ha : 1 ≤ a) (hab : a ≤ b) {n : Nat} (hn : 1 ≤ n) (r : Nat) {i : Nat} (hi : i ≤ n) : nth (tabRow (stB n) a b n r) i = nth (tabRow (stF n) a b n r) i := by
  rw [bold_nth (by omega) (by omega) hn r i hi, bold_best ha hab hn r i hi]
/-- A safe table is nowhere less than the best one. -/
theorem safe_ge {st : Nat → List Int} {a b : Int} (ha : 0 ≤ a) (hb : 0 ≤ b) {n : Nat} {xss : List (List Int)} (h : stakeOk st a b n xss = true) : ∀ r, r < xss.length → ∀ i, nth (tabRow st a b n r) i ≤ nth (row xss r) i := by
  simp only [stakeOk, Bool.and_eq_true, decide_eq_true_eq] at h
  obtain ⟨⟨_, h2⟩, h3, h4⟩ := h
  have hin : ∀ r, r < xss.length → (row xss r).length = n + 1 ∧ In0 1000000000000000 (row xss r) := fun r hr => rowOk_t (all_get h2 hr)
  intro r
  induction r with
  | zero =>
    intro hr i
    rw [tab0_nth]
    by_cases hi : i = n
    · rw [if_pos hi, hi]; exact h3
    · rw [if_neg hi]; exact ((hin 0 hr).2 i).1
  | succ r ih =>
    intro hr i
    by_cases hi : i ≤ n
    · rw [tabS_nth _ _ _ _ _ hi]
      have hg := all_get (all_get h4 (i := r) (by omega)) (i := i) (by omega)
      simp only [goodAt, decide_eq_true_eq] at hg
      rw [show r + 1 - 1 = r by omega] at hg
      have hge := (bestL_le _ _ _ _).1 hg
      refine (bestL_le _ _ _ _).2 ⟨hge.1, fun k hk => ?_⟩
      exact Int.le_trans (aft_mono ha hb (ih (by omega)) i _) (hge.2 k hk)
    · rw [tab_out _ _ _ _ _ (by omega)]; exact ((hin _ hr).2 i).1
/-- The best table is safe. -/
theorem best_safe {st : Nat → List Int} {a b : Int} (ha : 0 ≤ a) (hb : 0 ≤ b) (hab : a + b ≤ 40) (n : Nat) {k : Nat} (hk : k ≤ 8) : stakeOk st a b n (tabL st a b n k) = true := by
  refine stake_yes (inB_mk (by rw [tabL_length]; omega) (by rw [tabL_length]; omega)) (all_t fun j hj => ?_) ?_ (all_t fun j hj => all_t fun i hi => ?_)
  · rw [tabL_length] at hj
    rw [row_tabL _ _ _ _ _ _ (by omega)]
    simp only [rowOk, Bool.and_eq_true, beq_iff_eq]
    refine ⟨tabRow_length _ _ _ _ _, all_t fun i hi => ?_⟩
    have := tabRow_small (st := st) (n := n) ha hb hab j (by omega) i
    exact inB_mk (by omega) (by omega)
  · rw [row_tabL _ _ _ _ _ _ (by omega), tab0_nth, if_pos rfl]; exact Int.le_refl _
  · rw [tabL_length] at hj
    simp only [goodAt, decide_eq_true_eq]
    rw [show j + 1 - 1 = j by omega, row_tabL _ _ _ _ _ _ (by omega), row_tabL _ _ _ _ _ _ (by omega), tabS_nth _ _ _ _ _ (by omega)]
    exact Int.le_refl _
end Go.Proofs.Ytbekfpgpeaoifaa
