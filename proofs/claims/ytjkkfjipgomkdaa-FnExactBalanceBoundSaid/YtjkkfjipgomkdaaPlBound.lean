/- Plain numbers: the bound of a list: the mean of the greatest excesses on the ways, by the program's sum and by the reference's. No conditions but those stated. -/
import Derived.Test.YtjkkfjipgomkdaaPlOn3
import Derived.Test.YtjkkfjipgomkdaaPlWorth
import Derived.Test.YtjkkfjipgomkdaaTree5
namespace Go.Proofs.Ytjkkfjipgomkdaa
open Go.RowKit

/-- The excess at a node. -/
def exc (pay num : List Int) (x : Int) : Int := nth pay x.toNat - nth num x.toNat
/-- The greatest excess among the first k of some nodes, that of the root among them. -/
def mxT (f : Int → Int) (w : List Int) : Nat → Int
  | 0 => f 0
  | k + 1 => max (mxT f w k) (f (nth w k))
theorem mxT_bd {f : Int → Int} {B : Int} (hf : ∀ x, -B ≤ f x ∧ f x ≤ B) (w : List Int) : ∀ k, -B ≤ mxT f w k ∧ mxT f w k ≤ B
  | 0 => hf 0
  | k + 1 => by
    have ih := mxT_bd hf w k
    have := hf (nth w k)
    rw [mxT]; omega
theorem mxT_one {f : Int → Int} {w : List Int} (h : nth w 0 = 0) : mxT f w 1 = f 0 := by
  rw [mxT, mxT, h]; omega
def bdE (ps pay num : List Int) (e : Nat) : Int := mxT (exc pay num) (way ps e) (way ps e).length
theorem exc_bd {pay num : List Int} (h1 : ∀ i, -999 ≤ nth pay i ∧ nth pay i ≤ 999) (h2 : ∀ i, -999 ≤ nth num i ∧ nth num i ≤ 999) (x : Int) : -1998 ≤ exc pay num x ∧ exc pay num x ≤ 1998 := by
  have := h1 x.toNat
  have := h2 x.toNat
  rw [exc]; omega
theorem way_root {ps : List Int} (hp : Pa ps) : ∀ x, x < ps.length → nth (way ps x) 0 = 0 := by
  refine hp.above ?_ ?_
  · rfl
  · intro x h1 h2 ih
    have hpar := hp.upN (x := x) (by omega) h2
    have hl := (way_length hp (par ps x) (by omega)).1
    rw [way_up hp h1 h2, nth_append_l (by omega), ih]
/-- A term of the program's sum. -/
def bdT (ps ws pay num : List Int) (e : Int) : Int := bdE ps pay num e.toNat * nth ws e.toNat
def bndS (ps ws pay num : List Int) : Int := nth num 0 * nth (sums ps ws) 0 + sumOf (bdT ps ws pay num) (ends ps)
/-- The value of an end, as the reference has it. -/
def bdV (ps pay num : List Int) (e : Nat) : Int := bdE ps pay num e + nth num 0
/-- The list that the reference gathers, when i ends are done. -/
def totK (ps ws : List Int) (V : Nat → Int) (i : Nat) : List Int := (List.range ps.length).map fun x : Nat => if hasB ((ends ps).take i) (x : Int) then nth ws x * V x else 0
theorem totK_length (ps ws : List Int) (V : Nat → Int) (i : Nat) : (totK ps ws V i).length = ps.length := by simp [totK]
theorem totK_zero (ps ws : List Int) (V : Nat → Int) : List.replicate ps.length 0 = totK ps ws V 0 := by
  refine List.ext_getElem (by simp [totK]) fun i h1 h2 => ?_
  simp [totK, hasB]
theorem totK_succ {ps ws : List Int} {V : Nat → Int} {i e : Nat} (hi : i < (ends ps).length) (_he : e < ps.length) (hn : nth (ends ps) i = (e : Int)) : totK ps ws V (i + 1) = (totK ps ws V i).set e (nth ws e * V e) := by
  refine List.ext_getElem (by simp [totK]) fun x h1 h2 => ?_
  rw [totK_length] at h1
  rw [List.getElem_set]
  simp only [totK, List.getElem_map, List.getElem_range]
  by_cases hx : e = x
  · subst hx
    have : hasB ((ends ps).take (i + 1)) (e : Int) = true := by
      rw [has_mem, take_succ_nth hi, hn]; simp
    rw [if_pos this, if_pos rfl]
  · rw [if_neg hx]
    have : hasB ((ends ps).take (i + 1)) (x : Int) = hasB ((ends ps).take i) (x : Int) := by
      rw [Bool.eq_iff_iff, has_mem, has_mem, take_succ_nth hi, hn, List.mem_append, List.mem_singleton]
      constructor
      · rintro (h | h)
        · exact h
        · omega
      · exact .inl
    rw [this]
theorem totK_abs {ps ws : List Int} {V : Nat → Int} (h : Tr ps ws) (hV : ∀ x, -2997 ≤ V x ∧ V x ≤ 2997) (i : Nat) : Abs2 59940 (totK ps ws V i) := fun x => by
  by_cases hx : x < ps.length
  · rw [totK, nth_map_range hx]
    split
    · have h2 := mul_abs (B := 2997) (U := 20) (x := V x) (u := nth ws x) (hV x) (h.w0 x) (by omega)
      rw [Int.mul_comm (V x) (nth ws x)] at h2
      omega
    · omega
  · rw [nth_ge (by rw [totK_length]; omega)]; omega
theorem gath_abs {ps : List Int} (hp : Pa ps) : ∀ (k : Nat) (l : List Int) (C : Int), 0 ≤ C → k < ps.length → l.length = ps.length → Abs2 C l → Abs2 (C * 2 ^ k) (gath ps k l)
  | 0, l, C, _, _, _, h => by simpa [gath] using h
  | k + 1, l, C, hC, hk, hl, h => by
    have hup := hp.upN (x := k + 1) (by omega) hk
    have h2 := gath_bd2 (k := k + 1) h (show par ps (k + 1) < l.length by omega)
    have := gath_abs hp k (l.set (par ps (k + 1)) (nth l (par ps (k + 1)) + nth l (k + 1))) (2 * C) (by omega) (by omega) (by rw [List.length_set]; exact hl) h2
    rw [gath, show C * 2 ^ (k + 1) = 2 * C * 2 ^ k by rw [Int.pow_succ]; grind]
    exact this
/-- The totals. -/
def totA (ps ws : List Int) (V : Nat → Int) : List Int := gathA ps (totK ps ws V (ends ps).length)
theorem totA_length (ps ws : List Int) (V : Nat → Int) : (totA ps ws V).length = ps.length := by rw [totA, gathA_length, totK_length]
theorem totA_abs {ps ws : List Int} {V : Nat → Int} (h : Tr ps ws) (hV : ∀ x, -2997 ≤ V x ∧ V x ≤ 2997) : Abs2 502813163520 (totA ps ws V) := fun x => by
  have h1 := gath_abs h.toPa (ps.length - 1) (totK ps ws V (ends ps).length) 59940 (by omega) (by have := h.n1; omega) (totK_length _ _ _ _) (totK_abs h hV _) x
  have h2 : (2 : Int) ^ (ps.length - 1) ≤ 8388608 := by
    have h3 : ps.length - 1 ≤ 23 := by have := h.n24; omega
    have h4 : 2 ^ (ps.length - 1) ≤ 2 ^ 23 := Nat.pow_le_pow_right (by omega) h3
    have : ((2 ^ (ps.length - 1) : Nat) : Int) ≤ ((2 ^ 23 : Nat) : Int) := by exact_mod_cast h4
    simpa using this
  rw [totA, gathA]
  omega
theorem ends_sum {ps L : List Int} (hL : L.length = ps.length) (h0 : ∀ x : Nat, x < ps.length → endB ps x = false → nth L x = 0) : ∀ k, k ≤ ps.length → sumOf id (L.take k) = sumOf (fun e => nth L e.toNat) (filt (endB ps) k)
  | 0, _ => rfl
  | k + 1, hk => by
    have ih := ends_sum hL h0 k (by omega)
    rw [sumOf_take_succ _ _ _ (by omega), ih]
    cases he : endB ps k
    · rw [filt_f he, h0 k (by omega) he]; simp
    · rw [filt_t he, sumOf_append]; simp [sumOf]
theorem s0_ends {ps ws : List Int} (h : Tr ps ws) : nth (sums ps ws) 0 = sumOf (fun e => nth ws e.toNat) (ends ps) := by
  rw [sums, gathA_root h.toPa h.wl]
  have := ends_sum h.wl (fun x hx he => h.inner x hx he) ps.length (Nat.le_refl _)
  rw [← h.wl, List.take_length] at this
  rw [this, ends, h.wl]
theorem sumOf_lin (f g : Int → Int) (c : Int) : ∀ xs : List Int, sumOf (fun e => g e * (f e + c)) xs = sumOf (fun e => f e * g e) xs + c * sumOf g xs
  | [] => by simp [sumOf]
  | x :: xs => by
    have ih := sumOf_lin f g c xs
    simp only [sumOf, ih]
    grind
theorem tot_root {ps ws pay num : List Int} (h : Tr ps ws) : nth (totA ps ws (bdV ps pay num)) 0 = bndS ps ws pay num := by
  have hfull : ∀ x : Nat, x < ps.length → nth (totK ps ws (bdV ps pay num) (ends ps).length) x = if endB ps x then nth ws x * bdV ps pay num x else 0 := fun x hx => by
    rw [totK, nth_map_range hx, List.take_length]
    have : hasB (ends ps) (x : Int) = endB ps x := by
      rw [Bool.eq_iff_iff, has_mem, ends, mem_filt]
      constructor
      · rintro ⟨i, _, h2, h3⟩
        obtain rfl : i = x := by omega
        exact h2
      · intro h; exact ⟨x, hx, h, rfl⟩
    rw [this]
  rw [totA, gathA_root h.toPa (totK_length _ _ _ _)]
  have h1 := ends_sum (L := totK ps ws (bdV ps pay num) (ends ps).length) (totK_length _ _ _ _) (fun x hx he => by rw [hfull x hx, he]; rfl) ps.length (Nat.le_refl _)
  rw [← totK_length ps ws (bdV ps pay num) (ends ps).length, List.take_length, totK_length] at h1
  rw [h1, bndS, s0_ends h]
  have h2 : sumOf (fun e => nth (totK ps ws (bdV ps pay num) (ends ps).length) e.toNat) (filt (endB ps) ps.length) = sumOf (fun e => nth ws e.toNat * (bdE ps pay num e.toNat + nth num 0)) (ends ps) := by
    refine sumOf_congr fun z hz => ?_
    obtain ⟨i, h1, h2, rfl⟩ := mem_filt.1 hz
    rw [Int.toNat_natCast, hfull i h1, h2]; rfl
  rw [h2, sumOf_lin (fun e => bdE ps pay num e.toNat) (fun e => nth ws e.toNat) (nth num 0)]
  rw [Int.add_comm]; rfl
theorem bdE_bd {ps pay num : List Int} (h1 : ∀ i, -999 ≤ nth pay i ∧ nth pay i ≤ 999) (h2 : ∀ i, -999 ≤ nth num i ∧ nth num i ≤ 999) (e : Nat) : -1998 ≤ bdE ps pay num e ∧ bdE ps pay num e ≤ 1998 := mxT_bd (exc_bd h1 h2) _ _
end Go.Proofs.Ytjkkfjipgomkdaa
