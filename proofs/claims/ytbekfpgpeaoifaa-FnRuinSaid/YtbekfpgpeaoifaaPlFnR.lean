/- Plain numbers: the chance of ruin and the mean number of rolls from one fortune to the next ones; steps and the table of timid play. Nothing of the program. -/
import Derived.Test.YtbekfpgpeaoifaaRuinMean
import Derived.Test.YtbekfpgpeaoifaaRuinSteps
import Derived.Test.YtbekfpgpeaoifaaTabs
import Derived.Test.YtbekfpgpeaoifaaPlSt
namespace Go.Proofs.Ytbekfpgpeaoifaa

theorem ru_step (a b : Int) (j r : Nat) : a * ruT a b (j + 2) (j + 2 + r) + b * ruT a b j (j + 2 + r) = (a + b) * ruT a b (j + 1) (j + 2 + r) := by
  unfold ruT
  split
  · rename_i h
    subst h
    simp only [Int.natCast_add]
    grind
  · rw [show j + 2 + r - (j + 2) = r by omega, show j + 2 + r - (j + 1) = r + 1 by omega, show j + 2 + r - j = r + 1 + 1 by omega]
    simp only [powI_succ]
    grind
/-- From three quotients over one bottom to what they are in lowest terms. -/
theorem cross3 {a b c V Wp Wm W u0 u1 l0 l1 m0 m1 : Int} (hV : V ≠ 0) (hu : u0 * V = Wp * u1) (hl : l0 * V = Wm * l1) (hm : m0 * V = W * m1) (h : a * Wp + b * Wm + c * V = (a + b) * W) :
    (a * u0 * l1 + b * l0 * u1 + c * u1 * l1) * m1 = (a + b) * m0 * u1 * l1 := by
  refine Int.eq_of_mul_eq_mul_right hV ?_
  calc (a * u0 * l1 + b * l0 * u1 + c * u1 * l1) * m1 * V = a * l1 * m1 * (u0 * V) + b * u1 * m1 * (l0 * V) + c * V * (u1 * l1 * m1) := by grind
    _ = a * l1 * m1 * (Wp * u1) + b * u1 * m1 * (Wm * l1) + c * V * (u1 * l1 * m1) := by rw [hu, hl]
    _ = (a * Wp + b * Wm + c * V) * (u1 * l1 * m1) := by grind
    _ = (a + b) * (W * m1) * (u1 * l1) := by rw [h]; grind
    _ = (a + b) * m0 * u1 * l1 * V := by rw [← hm]; grind
theorem low_t {x y : Int} (h : lowB x y = true) : lowN x y = nm x y ∧ lowD x y = dn x y := by
  unfold lowB at h; unfold lowN lowD; rw [h]; exact ⟨rfl, rfl⟩
theorem game4_u {a b i n : Int} (h : game4 a b i n = true) : (1 ≤ a ∧ a ≤ 20) ∧ (1 ≤ b ∧ b ≤ 20) ∧ (1 ≤ n ∧ n ≤ 12) ∧ 0 ≤ i ∧ i ≤ n := by
  rw [game4_eq, Bool.and_eq_true] at h
  have h1 := game_t h.1
  have h2 := inB_t h.2
  omega
/-- The chance, as a quotient over the common bottom. -/
theorem rc_cross {a b i n : Int} (h : rcB a b i n = true) : game4 a b i n = true ∧ rcN a b i n * ruB a b n.toNat = ruT a b i.toNat n.toNat * rcD a b i n := by
  simp only [rcB, Bool.and_eq_true] at h
  obtain ⟨h1, h2, h3, h4⟩ := game4_u h.1
  have hl := low_t h.2
  have hr := ru_eq h1 h2 i.toNat n.toNat (by omega)
  have hm := nm_mul (ruT a b i.toNat n.toNat) (ruB a b n.toNat) hr.2.2
  refine ⟨h.1, ?_⟩
  unfold rcN rcD
  rw [h.1, if_pos rfl, if_pos rfl, hl.1, hl.2, ← hr.1, ← hr.2.1]
  exact hm
theorem rc_bot {a b i n : Int} (h : game4 a b i n = true) : ruB a b n.toNat ≠ 0 := by
  obtain ⟨h1, h2, h3, h4⟩ := game4_u h
  exact (ru_eq h1 h2 i.toNat n.toNat (by omega)).2.2
theorem ru_step' {a b i n : Int} (hi : 1 ≤ i) (hn : i + 1 ≤ n) : a * ruT a b (i + 1).toNat n.toNat + b * ruT a b (i - 1).toNat n.toNat = (a + b) * ruT a b i.toNat n.toNat := by
  have h := ru_step a b (i.toNat - 1) (n.toNat - i.toNat - 1)
  rw [show i.toNat - 1 + 2 = (i + 1).toNat by omega, show i.toNat - 1 + 1 = i.toNat by omega, show (i + 1).toNat + (n.toNat - i.toNat - 1) = n.toNat by omega, show i.toNat - 1 = (i - 1).toNat by omega] at h
  exact h
theorem chance_law {a b i n : Int} (h : rcB a b i n = true) (hu : rcB a b (i + 1) n = true) (hd : rcB a b (i - 1) n = true) (h1 : 1 ≤ i) (h2 : i + 1 ≤ n) :
    (a * rcN a b (i + 1) n * rcD a b (i - 1) n + b * rcN a b (i - 1) n * rcD a b (i + 1) n) * rcD a b i n = (a + b) * rcN a b i n * rcD a b (i + 1) n * rcD a b (i - 1) n := by
  have c := rc_cross h
  have cu := rc_cross hu
  have cd := rc_cross hd
  have := cross3 (a := a) (b := b) (c := 0) (rc_bot c.1) cu.2 cd.2 c.2 (by rw [ru_step' h1 h2]; simp)
  simpa using this
theorem chance_zero {a b n : Int} (h : rcB a b 0 n = true) : rcN a b 0 n = 0 ∧ rcD a b 0 n = 1 := by
  simp only [rcB, Bool.and_eq_true] at h
  obtain ⟨h1, h2, h3, h4⟩ := game4_u h.1
  have hl := low_t h.2
  have hb := chB_pos h1 h2 n.toNat (by omega)
  have ht : chT a b (0 : Int).toNat n.toNat = 0 := by unfold chT; split <;> simp [termS]
  unfold rcN rcD
  rw [h.1, if_pos rfl, if_pos rfl, hl.1, hl.2, ht]
  have := nm_cross (x := 0) (y := chB a b n.toNat) (x' := 0) (y' := 1) (by omega) (by omega) (by simp)
  rw [this.1, this.2]
  exact nm_one 0
theorem chance_one {a b n : Int} (h : rcB a b n n = true) : rcN a b n n = 1 ∧ rcD a b n n = 1 := by
  simp only [rcB, Bool.and_eq_true] at h
  obtain ⟨h1, h2, h3, h4⟩ := game4_u h.1
  have hl := low_t h.2
  have hb := chB_pos h1 h2 n.toNat (by omega)
  have ht : chT a b n.toNat n.toNat = chB a b n.toNat := by unfold chT chB; split <;> simp [powI]
  unfold rcN rcD
  rw [h.1, if_pos rfl, if_pos rfl, hl.1, hl.2, ht]
  have := nm_cross (x := chB a b n.toNat) (y := chB a b n.toNat) (x' := 1) (y' := 1) (by omega) (by omega) (by simp)
  rw [this.1, this.2]
  exact nm_one 1
/-- The mean, as a quotient over a common bottom. -/
def mnV (a b n : Int) : Int := if a = b then 1 else (b - a) * ruB a b n.toNat
def mnW (a b i n : Int) : Int := if a = b then i * (n - i) else (a + b) * (i * ruB a b n.toNat - n * ruT a b i.toNat n.toNat)
theorem rm_cross {a b i n : Int} (h : rmB a b i n = true) : game4 a b i n = true ∧ rmN a b i n * mnV a b n = mnW a b i n * rmD a b i n := by
  simp only [rmB, Bool.and_eq_true, Bool.or_eq_true, beq_iff_eq] at h
  obtain ⟨h1, h2, h3, h4⟩ := game4_u h.1
  refine ⟨h.1, ?_⟩
  unfold rmN rmD mnV mnW
  rw [h.1, if_pos rfl, if_pos rfl]
  by_cases hab : a = b
  · rw [if_pos hab, if_pos hab, if_pos hab, if_pos hab]
  · rw [if_neg hab, if_neg hab, if_neg hab, if_neg hab]
    have h5 : lowB (rmX a b i n) (rmY a b i n) = true := h.2.resolve_left hab
    have hl := low_t h5
    rw [hl.1, hl.2]
    have hr := ru_eq h1 h2 i.toNat n.toNat (by omega)
    have hm := nm_mul (ruT a b i.toNat n.toNat) (ruB a b n.toNat) hr.2.2
    have hq := dn_pos (ruT a b i.toNat n.toNat) (ruB a b n.toNat) hr.2.2
    unfold rmX rmY
    rw [← hr.1, ← hr.2.1]
    generalize nm (ruT a b i.toNat n.toNat) (ruB a b n.toNat) = p at *
    generalize dn (ruT a b i.toNat n.toNat) (ruB a b n.toNat) = q at *
    have hy : mnB a b q ≠ 0 := by unfold mnB; exact Int.mul_ne_zero (by omega) (by omega)
    have hx := nm_mul (mnT a b i n p q) (mnB a b q) hy
    generalize nm (mnT a b i n p q) (mnB a b q) = m0 at *
    generalize dn (mnT a b i n p q) (mnB a b q) = m1 at *
    unfold mnT mnB at hx
    generalize ruB a b n.toNat = B at *
    generalize ruT a b i.toNat n.toNat = U at *
    refine Int.eq_of_mul_eq_mul_right (a := q) (by omega) ?_
    calc m0 * ((b - a) * B) * q = (m0 * ((b - a) * q)) * B := by grind
      _ = (a + b) * (i * q * B - n * (p * B)) * m1 := by rw [hx]; grind
      _ = (a + b) * (i * B - n * U) * m1 * q := by rw [hm]; grind
theorem mean_law {a b i n : Int} (h : rmB a b i n = true) (hu : rmB a b (i + 1) n = true) (hd : rmB a b (i - 1) n = true) (h1 : 1 ≤ i) (h2 : i + 1 ≤ n) :
    (a * rmN a b (i + 1) n * rmD a b (i - 1) n + b * rmN a b (i - 1) n * rmD a b (i + 1) n + (a + b) * rmD a b (i + 1) n * rmD a b (i - 1) n) * rmD a b i n = (a + b) * rmN a b i n * rmD a b (i + 1) n * rmD a b (i - 1) n := by
  have c := rm_cross h
  have cu := rm_cross hu
  have cd := rm_cross hd
  have hs := ru_step' (a := a) (b := b) h1 h2
  have hb := rc_bot c.1
  refine cross3 (V := mnV a b n) (Wp := mnW a b (i + 1) n) (Wm := mnW a b (i - 1) n) (W := mnW a b i n) ?_ cu.2 cd.2 c.2 ?_
  · unfold mnV
    split
    · omega
    · exact Int.mul_ne_zero (by omega) hb
  · unfold mnV mnW
    by_cases hab : a = b
    · rw [if_pos hab, if_pos hab, if_pos hab, if_pos hab]
      subst hab
      grind
    · rw [if_neg hab, if_neg hab, if_neg hab, if_neg hab]
      generalize ruB a b n.toNat = B at *
      generalize ruT a b (i + 1).toNat n.toNat = Up at *
      generalize ruT a b (i - 1).toNat n.toNat = Um at *
      generalize ruT a b i.toNat n.toNat = U at *
      calc a * ((a + b) * ((i + 1) * B - n * Up)) + b * ((a + b) * ((i - 1) * B - n * Um)) + (a + b) * ((b - a) * B) = (a + b) * ((a + b) * (i * B) - n * (a * Up + b * Um)) := by grind
        _ = (a + b) * ((a + b) * (i * B - n * U)) := by rw [hs]; grind
/-! Steps. -/
def dotL (V : Nat → Int) : List Int → Nat → Int
  | [], _ => 0
  | x :: xs, i => x * V i + dotL V xs (i + 1)
theorem dot_set (V : Nat → Int) : ∀ (xs : List Int) (s j : Nat) (v : Int), j < xs.length → dotL V (xs.set j v) s = dotL V xs s + (v - nth xs j) * V (s + j)
  | [], _, _, _, h => by simp at h
  | x :: xs, s, 0, v, _ => by simp only [List.set_cons_zero, dotL, nth_cons_zero, Nat.add_zero]; grind
  | x :: xs, s, j + 1, v, h => by
    simp only [List.set_cons_succ, dotL, nth_cons_succ]
    rw [dot_set V xs (s + 1) j v (by simpa using h), show s + 1 + j = s + (j + 1) by omega]
    grind
theorem dot_append (V : Nat → Int) (x : Int) : ∀ (xs : List Int) (s : Nat), dotL V (xs ++ [x]) s = dotL V xs s + x * V (s + xs.length)
  | [], s => by simp [dotL]
  | y :: ys, s => by
    simp only [List.cons_append, dotL, List.length_cons]
    rw [dot_append V x ys (s + 1), show s + 1 + ys.length = s + (ys.length + 1) by omega]
    omega
theorem dot_zeros (V : Nat → Int) : ∀ (n s : Nat), dotL V (List.replicate n 0) s = 0
  | 0, _ => rfl
  | n + 1, s => by rw [List.replicate_succ, dotL, dot_zeros V n]; simp
def stepV (a b : Int) (n : Nat) (V : Nat → Int) (i : Nat) : Int := if i = 0 ∨ i = n then (a + b) * V i else a * V (i + 1) + b * V (i - 1)
theorem dot_roll1 (a b : Int) (n : Nat) (V : Nat → Int) (now o : List Int) (i : Nat) (hl : now.length = n + 1) (ho : o.length = now.length) (hi : i < now.length) : dotL V (roll1 a b now o i) 0 = dotL V o 0 + nth now i * stepV a b n V i := by
  unfold roll1 stepV
  by_cases h : i = 0 ∨ i + 1 = now.length
  · rw [if_pos h, if_pos (by omega), dot_set _ _ _ _ _ (by omega), Nat.zero_add]
    grind
  · rw [if_neg h, if_neg (by omega)]
    simp only
    rw [dot_set _ _ _ _ _ (by simp; omega), dot_set _ _ _ _ _ (by omega), Nat.zero_add, Nat.zero_add]
    grind
theorem dot_rollP (a b : Int) (n : Nat) (V : Nat → Int) (now : List Int) (hl : now.length = n + 1) : ∀ i, i ≤ now.length → dotL V (rollP a b now i) 0 = dotL (stepV a b n V) (now.take i) 0
  | 0, _ => by rw [rollP, dot_zeros]; rfl
  | i + 1, hi => by
    rw [rollP, dot_roll1 a b n V _ _ _ hl (rollP_length _ _ _ _) (by omega), dot_rollP a b n V now hl i (by omega), take_succ_nth (by omega), dot_append, List.length_take, Nat.zero_add, Nat.min_eq_left (by omega)]
def itV (a b : Int) (n : Nat) : Nat → (Nat → Int) → Nat → Int
  | 0, V => V
  | k + 1, V => stepV a b n (itV a b n k V)
theorem itV_comm (a b : Int) (n : Nat) (V : Nat → Int) : ∀ k, itV a b n k (stepV a b n V) = stepV a b n (itV a b n k V)
  | 0 => rfl
  | k + 1 => by rw [itV, itV_comm a b n V k]; rfl
theorem dot_rollK (a b : Int) (n i : Nat) (hi : i ≤ n) : ∀ (k : Nat) (V : Nat → Int), dotL V (rollK a b n i k) 0 = itV a b n k V i
  | 0, V => by rw [rollK, dot_set _ _ _ _ _ (by simp; omega), dot_zeros, nth_replicate, itV, Nat.zero_add]; simp
  | k + 1, V => by
    rw [rollK, dot_rollP a b n V _ (rollK_length _ _ _ _ _) _ (by rw [rollK_length]; omega), List.take_of_length_le (by rw [rollK_length]; omega), dot_rollK a b n i hi k, itV_comm]; rfl
def lastV (n : Nat) (i : Nat) : Int := if i = n then 1 else 0
theorem dot_last (n : Nat) : ∀ (xs : List Int) (s : Nat), dotL (lastV n) xs s = if s ≤ n then nth xs (n - s) else 0
  | [], s => by rw [dotL]; split <;> simp [nth]
  | x :: xs, s => by
    rw [dotL, dot_last n xs (s + 1), lastV]
    by_cases h : s = n
    · rw [if_pos h, if_neg (by omega), if_pos (by omega), show n - s = 0 by omega, nth_cons_zero]; omega
    · rw [if_neg h]
      by_cases h2 : s ≤ n
      · rw [if_pos (by omega), if_pos h2, show n - s = (n - (s + 1)) + 1 by omega, nth_cons_succ]; omega
      · rw [if_neg (by omega), if_neg h2]; omega
theorem timid_it {a b : Int} (ha : 0 ≤ a) (hb : 0 ≤ b) {n : Nat} (hn : 1 ≤ n) : ∀ k i, i ≤ n → nth (tabRow (stT n) a b n k) i = itV a b n k (lastV n) i
  | 0, i, hi => by
    rw [itV, lastV, tabRow, nth_set (by simp), nth_replicate]
    by_cases h : n = i
    · rw [if_pos h, if_pos h.symm]
    · rw [if_neg h, if_neg (fun e => h e.symm)]
  | k + 1, i, hi => by
    rw [tabRow, rowN, nth_map_range (by omega), stT]
    simp only [bestL]
    have h0 : 0 ≤ aft a b (tabRow (stT n) a b n k) i (min 1 (min (i : Int) ((n : Int) - i))) := (aft_bd ha hb (tabRow_bd (st := stT n) (n := n) ha hb k).1 i _).2.2.1
    have h1 : aft a b (tabRow (stT n) a b n k) i (min 1 (min (i : Int) ((n : Int) - i))) = itV a b n (k + 1) (lastV n) i := by
      rw [itV, stepV]
      unfold aft
      by_cases h : i = 0 ∨ i = n
      · rw [if_pos h, show min (1 : Int) (min (i : Int) ((n : Int) - i)) = 0 by omega, show ((i : Int) + 0).toNat = i by omega, show ((i : Int) - 0).toNat = i by omega, timid_it ha hb hn k i hi, Int.add_mul]
      · rw [if_neg h, show min (1 : Int) (min (i : Int) ((n : Int) - i)) = 1 by omega, show ((i : Int) + 1).toNat = i + 1 by omega, show ((i : Int) - 1).toNat = i - 1 by omega, timid_it ha hb hn k (i + 1) (by omega), timid_it ha hb hn k (i - 1) (by omega)]
    rw [← h1]; omega
/-- The last of the steps is the table's number. -/
theorem steps_table {a b : Int} (ha : 0 ≤ a) (hb : 0 ≤ b) {n : Nat} (hn : 1 ≤ n) (k i : Nat) (hi : i ≤ n) : nth (rollK a b n i k) n = nth (tabRow (stT n) a b n k) i := by
  rw [timid_it ha hb hn k i hi, ← dot_rollK a b n i hi k, dot_last]; simp
end Go.Proofs.Ytbekfpgpeaoifaa
