/- Contracts of Go's slices package at lists of ints, in my own words. -/
import Derived.Test.YtjkkfjipgomkdaaSlib
import Derived.Test.YtjkkfjipgomkdaaWay
import Derived.Sort.OwnSortedInts
import Derived.Lib.OwnBridge
import Derived.Lib.SlicesCompact
namespace Go.Proofs.Ytjkkfjipgomkdaa
open Go.RowKit

/-- The first place of y in a list, or -1. -/
def idxI (l : List Int) (y : Int) : Int := Lib.idxOf l y
theorem idx_at {l : List Int} {y : Int} {i : Nat} (hi : i < l.length) (h : nth l i = y) (hb : ∀ j, j < i → ¬ nth l j = y) : idxI l y = i := by
  have := Lib.idxOf_hit l l.length i y hi (Nat.le_refl _) h hb
  rwa [List.take_length] at this
theorem idx_no {l : List Int} {y : Int} (h : ∀ i, i < l.length → ¬ nth l i = y) : idxI l y = -1 := by
  have := Lib.idxOf_miss l l.length y h
  rwa [List.take_length] at this
theorem has_contains (l : List Int) (y : Int) : l.contains y = hasB l y := by
  unfold hasB; rw [List.contains_eq_any_beq]
  congr 1; funext z
  rw [Bool.eq_iff_iff]; simp only [beq_iff_eq]; exact eq_comm
theorem idx_cases (l : List Int) (y : Int) : idxI l y = -1 ∨ ∃ i : Nat, i < l.length ∧ nth l i = y ∧ idxI l y = (i : Int) := by
  by_cases h : ∃ i : Nat, i < l.length ∧ nth l i = y
  · right
    obtain ⟨i, hi, he, hmin⟩ : ∃ i : Nat, i < l.length ∧ nth l i = y ∧ ∀ j, j < i → ¬ nth l j = y := by
      obtain ⟨i, hi, he⟩ := h
      induction i using Nat.strongRecOn with
      | ind i ih =>
        by_cases hc : ∃ j, j < i ∧ nth l j = y
        · obtain ⟨j, hj, hje⟩ := hc
          exact ih j hj (by omega) hje
        · exact ⟨i, hi, he, fun j hj e => hc ⟨j, hj, e⟩⟩
    exact ⟨i, hi, he, idx_at hi he hmin⟩
  · left
    exact idx_no fun i hi e => h ⟨i, hi, e⟩
theorem idx_pos {l : List Int} {y : Int} {i : Nat} (hi : i < l.length) (h : nth l i = y) : ¬ idxI l y = -1 := by
  intro e
  rcases idx_cases l y with h1 | ⟨j, _, _, h3⟩
  · have h2 := (Lib.idxOf_nonneg_iff l y).mpr (by rw [has_contains]; exact has_t hi h)
    unfold idxI at h1; omega
  · omega
theorem nil_of_length {l : List Int} {n : Nat} (h : l.length = n) (h0 : n = 0) : l = [] := List.eq_nil_of_length_eq_zero (by omega)
theorem c_contains (a : Option Addr) (n c : Nat) (l : List Int) (y : Int) (w : World) (h : Ints w a n l) (hn : n ≤ 1048576) :
    Calls Try.prog 83 #[.slice a n c, .int .i64 y] w fun e w' => e = .returned (.bool (hasB l y)) ∧ w' = w := by
  rcases Nat.eq_zero_or_pos n with h0 | h0
  · subst h0
    have := nil_of_length h.1 rfl
    subst this
    exact Try.slices_Contains_int_empty a c y w
  · obtain ⟨b, off, rfl, hb, hc⟩ := h.2 h0
    refine (Try.slices_Contains_int b off n c l y w (by rw [h.1]; omega) (by omega) (fun j hj => hc j (by rw [← h.1]; exact hj))).mono ?_
    rintro e w' ⟨rfl, rfl⟩
    refine ⟨?_, rfl⟩
    rw [List.take_of_length_le (by rw [h.1]; exact Nat.le_refl _), has_contains]
theorem c_index (a : Option Addr) (n c : Nat) (l : List Int) (y : Int) (w : World) (h : Ints w a n l) (hn : n ≤ 1048576) :
    Calls Try.prog 107 #[.slice a n c, .int .i64 y] w fun e w' => e = .returned (.int .i64 (idxI l y)) ∧ w' = w := by
  rcases Nat.eq_zero_or_pos n with h0 | h0
  · subst h0
    have := nil_of_length h.1 rfl
    subst this
    exact Try.slices_Index_int_empty a c y w
  · obtain ⟨b, off, rfl, hb, hc⟩ := h.2 h0
    refine (Try.slices_Index_int b off n c l y w (by rw [h.1]; omega) (by omega) (fun j hj => hc j (by rw [← h.1]; exact hj))).mono ?_
    rintro e w' ⟨rfl, rfl⟩
    refine ⟨?_, rfl⟩
    rw [List.take_of_length_le (by rw [h.1]; exact Nat.le_refl _)]; rfl
theorem Own.empty {w : World} {base : Nat} {v : Value} (h : Own w base v []) : ∃ a c, v = .slice a 0 c := by
  obtain ⟨a, c, rfl⟩ := h.shape
  exact ⟨a, c, rfl⟩
theorem c_reverse (a : Option Addr) (n c base : Nat) (xs : List Int) (w : World) (h : Own w base (.slice a n c) xs) (hn : n ≤ 1048576) :
    Calls Try.prog 113 #[.slice a n c] w fun e w' => e = .returned (.tuple #[]) ∧ Own w' base (.slice a n c) xs.reverse ∧ Below base w w' := by
  have hl := h.ints.1
  rcases Nat.eq_zero_or_pos n with h0 | h0
  · subst h0
    have := nil_of_length hl rfl
    subst this
    refine (Try.slices_Reverse_int_empty a c w).mono ?_
    rintro e w' ⟨rfl, rfl⟩
    exact ⟨rfl, h, Below.refl _ _⟩
  · subst hl
    obtain ⟨g, cap, he, hb, hlt, h1, h2, h3, hH⟩ := Lib.holds_of_ownsRow (v := .slice a xs.length c) h (fun e => by injection e with e1 e2; omega)
    injection he with e1 _ e3
    subst e1; subst e3
    refine (Try.slices_Reverse_int g 0 c xs w hH (by omega)).mono ?_
    rintro e w' ⟨rfl, q, rfl⟩
    refine ⟨rfl, ?_, Lib.below_putRow (Below.refl _ _) hb⟩
    have := Lib.ownsRow_putRow (q := q) (k := xs.length) (ys := xs.reverse) h (by simp) (Nat.le_refl _)
    rw [List.take_of_length_le (by simp)] at this
    unfold Own
    rw [List.length_reverse]
    exact this
theorem c_equal (a1 a2 : Option Addr) (n c m d : Nat) (xs ys : List Int) (w : World) (h1 : Ints w a1 n xs) (h2 : Ints w a2 m ys) (hn : n ≤ 1048576) (hm : m ≤ 1048576) :
    Calls Try.prog 90 #[.slice a1 n c, .slice a2 m d] w fun e w' => e = .returned (.bool (xs == ys)) ∧ Below w.heap.size w w' := by
  by_cases hnm : n = m
  · rcases Nat.eq_zero_or_pos n with h0 | h0
    · subst h0; subst hnm
      have e1 := nil_of_length h1.1 rfl
      have e2 := nil_of_length h2.1 rfl
      subst e1; subst e2
      refine (Try.slices_Equal_int_empty a1 a2 c 0 d w (by omega)).mono ?_
      rintro e w' ⟨rfl, rfl⟩
      exact ⟨rfl, Below.refl _ _⟩
    · obtain ⟨b1, o1, rfl, hb1, hc1⟩ := h1.2 h0
      obtain ⟨b2, o2, rfl, hb2, hc2⟩ := h2.2 (by omega)
      refine (Try.slices_Equal_int b1 o1 n c b2 o2 m d xs ys w (by rw [h1.1]; omega) (by rw [h2.1]; omega) (by omega) (by omega) (fun j hj => hc1 j (by rw [← h1.1]; exact hj)) (fun j hj => hc2 j (by rw [← h2.1]; exact hj))).mono ?_
      rintro e w' ⟨rfl, q, rfl⟩
      refine ⟨?_, below_drewN (Below.refl _ _) _⟩
      rw [List.take_of_length_le (by rw [h1.1]; exact Nat.le_refl _), List.take_of_length_le (by rw [h2.1]; exact Nat.le_refl _)]
  · refine (Try.slices_Equal_int_lens a1 a2 n c m d w hnm).mono ?_
    rintro e w' ⟨rfl, rfl⟩
    refine ⟨?_, Below.refl _ _⟩
    have : (xs == ys) = false := by
      rw [beq_eq_false_iff_ne]; rintro rfl; exact hnm (h1.1.symm.trans h2.1)
    rw [this]
/-- A list, sorted. -/
def sorted (xs : List Int) : List Int := xs.mergeSort fun x y => decide (x ≤ y)
theorem sorted_length (xs : List Int) : (sorted xs).length = xs.length := List.length_mergeSort xs
theorem c_sort (a : Option Addr) (n c base : Nat) (xs : List Int) (w : World) (h : Own w base (.slice a n c) xs) (hn : n ≤ 1048576) (hbw : base ≤ w.heap.size) :
    Calls Try.prog 117 #[.slice a n c] w fun e w' => e = .returned (.tuple #[]) ∧ Own w' base (.slice a n c) (sorted xs) ∧ Below base w w' := by
  have hl := h.ints.1
  rcases Nat.eq_zero_or_pos n with h0 | h0
  · subst h0
    have := nil_of_length hl rfl
    subst this
    refine (Try.slices_Sort_int_none a c w).mono ?_
    rintro e w' ⟨rfl, rfl⟩
    have e1 : sorted [] = [] := by simp [sorted]
    rw [e1]
    exact ⟨rfl, h, Below.refl _ _⟩
  · subst hl
    obtain ⟨g, cap, he, hb, hlt, h1, h2, h3, hH⟩ := Lib.holds_of_ownsRow (v := .slice a xs.length c) h (fun e => by injection e with e1 e2; omega)
    injection he with e1 _ e3
    subst e1; subst e3
    refine (Try.slices_Sort_int g 0 c xs w hH hlt (by omega)).mono ?_
    rintro e w' ⟨rfl, q, os, rfl⟩
    refine ⟨rfl, ?_, (Below.refl base w).grown (grownBy_sortedI _) hbw (fun j hj => by cases hj; exact hb)⟩
    rcases h.2 with ⟨e0, _⟩ | ⟨g', cap', cur, hv, hbase, hb', k1, k2, k3, k4⟩
    · cases e0
    cases hv
    have := ownsRow_sortedI (n := q) (os := os) (ts := sorted xs) (sorted_length xs) hbase hb' k1 k2 k3
    unfold Own
    rw [sorted_length]
    exact this
def compactI (xs : List Int) : List Int := Lib.compact xs
theorem compactI_le (xs : List Int) : (compactI xs).length ≤ xs.length := Lib.compact_length_le xs
theorem c_compact (a : Option Addr) (n c base : Nat) (xs : List Int) (w : World) (h : Own w base (.slice a n c) xs) (hn : n ≤ 1048576) :
    Calls Try.prog 118 #[.slice a n c] w fun e w' => ∃ v, e = .returned v ∧ Own w' base v (compactI xs) ∧ Below base w w' := by
  have hl := h.ints.1
  rcases Nat.eq_zero_or_pos n with h0 | h0
  · subst h0
    have := nil_of_length hl rfl
    subst this
    refine (Try.slices_Compact_int_empty a c w).mono ?_
    rintro e w' ⟨rfl, rfl⟩
    have e1 : compactI [] = [] := List.eq_nil_of_length_eq_zero (Nat.le_zero.1 (compactI_le []))
    rw [e1]
    exact ⟨_, rfl, h, Below.refl _ _⟩
  · subst hl
    obtain ⟨g, cap, he, hb, hlt, h1, h2, h3, hH⟩ := Lib.holds_of_ownsRow (v := .slice a xs.length c) h (fun e => by injection e with e1 e2; omega)
    injection he with e1 _ e3
    subst e1; subst e3
    refine (Try.slices_Compact_int g 0 c xs w hH (by omega) h1).mono ?_
    rintro e w' ⟨rfl, q, rfl⟩
    refine ⟨_, rfl, ?_, Lib.below_putRow (Below.refl _ _) hb⟩
    have hle := compactI_le xs
    have := Lib.ownsRow_putRow (q := q) (k := (compactI xs).length) (ys := compactI xs ++ List.replicate (xs.length - (compactI xs).length) 0) h (by simp; omega) hle
    rw [List.take_left] at this
    exact this
end Go.Proofs.Ytjkkfjipgomkdaa
