/- Contracts and plain laws for the statement FnStoppedMeans, part 9. No conditions but those stated in each. -/
import Derived.Test.YtnbomleieianoaaGreatBnFnStoppedMeans2
import Derived.Test.YtnbomleieianoaaGreatBnFnStoppedMeans4
import Derived.Sort.OwnSortedInts
import Derived.Lib.OwnBridge
import Derived.Lib.SlicesCompact
import Derived.Deep.QuietTactic
import Derived.BigQuiet
import Derived.Test.YtnbomleieianoaaGreatBnFnStoppedMeans5
import Derived.Test.YtnbomleieianoaaGreatBnFnStoppedMeans1
import Derived.Test.YtnbomleieianoaaGreatBnFnStoppedMeans10
import Derived.Test.YtnbomleieianoaaGreatBnFnStoppedMeans3
/- Contracts of Go's slices package at lists of ints, in my own words. -/
namespace Go.Proofs.YtnbomleieianoaaGreat
open Go.RowKit

/-- The first place of y in a list, or -1. -/
def idxI (l : List Int) (y : Int) : Int := Lib.idxOf l y
theorem idx_at {l : List Int} {y : Int} {i : Nat} (hi : i < l.length) (h : nth l i = y) (hb : ∀ j, j < i → ¬ nth l j = y) : idxI l y = i := by
  have := Lib.idxOf_hit l l.length i y hi (Nat.le_refl _) h hb
  rwa [List.take_length] at this
theorem idx_no {l : List Int} {y : Int} (h : ∀ i, i < l.length → ¬ nth l i = y) : idxI l y = -1 := by
  have := Lib.idxOf_miss l l.length y h
  rwa [List.take_length] at this
theorem has_contains (l : List Int) (y : Int) : l.contains y = hasB l y := by
  unfold hasB; rw [List.contains_eq_any_beq]
  congr 1; funext z
  rw [Bool.eq_iff_iff]; simp only [beq_iff_eq]; exact eq_comm
theorem idx_cases (l : List Int) (y : Int) : idxI l y = -1 ∨ ∃ i : Nat, i < l.length ∧ nth l i = y ∧ idxI l y = (i : Int) := by
  by_cases h : ∃ i : Nat, i < l.length ∧ nth l i = y
  · right
    obtain ⟨i, hi, he, hmin⟩ : ∃ i : Nat, i < l.length ∧ nth l i = y ∧ ∀ j, j < i → ¬ nth l j = y := by
      obtain ⟨i, hi, he⟩ := h
      induction i using Nat.strongRecOn with
      | ind i ih =>
        by_cases hc : ∃ j, j < i ∧ nth l j = y
        · obtain ⟨j, hj, hje⟩ := hc
          exact ih j hj (by omega) hje
        · exact ⟨i, hi, he, fun j hj e => hc ⟨j, hj, e⟩⟩
    exact ⟨i, hi, he, idx_at hi he hmin⟩
  · left
    exact idx_no fun i hi e => h ⟨i, hi, e⟩
theorem idx_pos {l : List Int} {y : Int} {i : Nat} (hi : i < l.length) (h : nth l i = y) : ¬ idxI l y = -1 := by
  intro e
  rcases idx_cases l y with h1 | ⟨j, _, _, h3⟩
  · have h2 := (Lib.idxOf_nonneg_iff l y).mpr (by rw [has_contains]; exact has_t hi h)
    unfold idxI at h1; omega
  · omega
theorem nil_of_length {l : List Int} {n : Nat} (h : l.length = n) (h0 : n = 0) : l = [] := List.eq_nil_of_length_eq_zero (by omega)
theorem c_contains (a : Option Addr) (n c : Nat) (l : List Int) (y : Int) (w : World) (h : Ints w a n l) (hn : n ≤ 1048576) :
    Calls Tryz.prog 78 #[.slice a n c, .int .i64 y] w fun e w' => e = .returned (.bool (hasB l y)) ∧ w' = w := by
  rcases Nat.eq_zero_or_pos n with h0 | h0
  · subst h0
    have := nil_of_length h.1 rfl
    subst this
    exact Tryz.slices_Contains_int_empty a c y w
  · obtain ⟨b, off, rfl, hb, hc⟩ := h.2 h0
    refine (Tryz.slices_Contains_int b off n c l y w (by rw [h.1]; omega) (by omega) (fun j hj => hc j (by rw [← h.1]; exact hj))).mono ?_
    rintro e w' ⟨rfl, rfl⟩
    refine ⟨?_, rfl⟩
    rw [List.take_of_length_le (by rw [h.1]; exact Nat.le_refl _), has_contains]
theorem c_index (a : Option Addr) (n c : Nat) (l : List Int) (y : Int) (w : World) (h : Ints w a n l) (hn : n ≤ 1048576) :
    Calls Tryz.prog 136 #[.slice a n c, .int .i64 y] w fun e w' => e = .returned (.int .i64 (idxI l y)) ∧ w' = w := by
  rcases Nat.eq_zero_or_pos n with h0 | h0
  · subst h0
    have := nil_of_length h.1 rfl
    subst this
    exact Tryz.slices_Index_int_empty a c y w
  · obtain ⟨b, off, rfl, hb, hc⟩ := h.2 h0
    refine (Tryz.slices_Index_int b off n c l y w (by rw [h.1]; omega) (by omega) (fun j hj => hc j (by rw [← h.1]; exact hj))).mono ?_
    rintro e w' ⟨rfl, rfl⟩
    refine ⟨?_, rfl⟩
    rw [List.take_of_length_le (by rw [h.1]; exact Nat.le_refl _)]; rfl
theorem Own.empty {w : World} {base : Nat} {v : Value} (h : Own w base v []) : ∃ a c, v = .slice a 0 c := by
  obtain ⟨a, c, rfl⟩ := h.shape
  exact ⟨a, c, rfl⟩
theorem c_reverse (a : Option Addr) (n c base : Nat) (xs : List Int) (w : World) (h : Own w base (.slice a n c) xs) (hn : n ≤ 1048576) :
    Calls Tryz.prog 151 #[.slice a n c] w fun e w' => e = .returned (.tuple #[]) ∧ Own w' base (.slice a n c) xs.reverse ∧ Below base w w' := by
  have hl := h.ints.1
  rcases Nat.eq_zero_or_pos n with h0 | h0
  · subst h0
    have := nil_of_length hl rfl
    subst this
    refine (Tryz.slices_Reverse_int_empty a c w).mono ?_
    rintro e w' ⟨rfl, rfl⟩
    exact ⟨rfl, h, Below.refl _ _⟩
  · subst hl
    obtain ⟨g, cap, he, hb, hlt, h1, h2, h3, hH⟩ := Lib.holds_of_ownsRow (v := .slice a xs.length c) h (fun e => by injection e with e1 e2; omega)
    injection he with e1 _ e3
    subst e1; subst e3
    refine (Tryz.slices_Reverse_int g 0 c xs w hH (by omega)).mono ?_
    rintro e w' ⟨rfl, q, rfl⟩
    refine ⟨rfl, ?_, Lib.below_putRow (Below.refl _ _) hb⟩
    have := Lib.ownsRow_putRow (q := q) (k := xs.length) (ys := xs.reverse) h (by simp) (Nat.le_refl _)
    rw [List.take_of_length_le (by simp)] at this
    unfold Own
    rw [List.length_reverse]
    exact this
theorem c_equal (a1 a2 : Option Addr) (n c m d : Nat) (xs ys : List Int) (w : World) (h1 : Ints w a1 n xs) (h2 : Ints w a2 m ys) (hn : n ≤ 1048576) (hm : m ≤ 1048576) :
    Calls Tryz.prog 89 #[.slice a1 n c, .slice a2 m d] w fun e w' => e = .returned (.bool (xs == ys)) ∧ Below w.heap.size w w' := by
  by_cases hnm : n = m
  · rcases Nat.eq_zero_or_pos n with h0 | h0
    · subst h0; subst hnm
      have e1 := nil_of_length h1.1 rfl
      have e2 := nil_of_length h2.1 rfl
      subst e1; subst e2
      refine (Tryz.slices_Equal_int_empty a1 a2 c 0 d w (by omega)).mono ?_
      rintro e w' ⟨rfl, rfl⟩
      exact ⟨rfl, Below.refl _ _⟩
    · obtain ⟨b1, o1, rfl, hb1, hc1⟩ := h1.2 h0
      obtain ⟨b2, o2, rfl, hb2, hc2⟩ := h2.2 (by omega)
      refine (Tryz.slices_Equal_int b1 o1 n c b2 o2 m d xs ys w (by rw [h1.1]; omega) (by rw [h2.1]; omega) (by omega) (by omega) (fun j hj => hc1 j (by rw [← h1.1]; exact hj)) (fun j hj => hc2 j (by rw [← h2.1]; exact hj))).mono ?_
      rintro e w' ⟨rfl, q, rfl⟩
      refine ⟨?_, below_drewN (Below.refl _ _) _⟩
      rw [List.take_of_length_le (by rw [h1.1]; exact Nat.le_refl _), List.take_of_length_le (by rw [h2.1]; exact Nat.le_refl _)]
  · refine (Tryz.slices_Equal_int_lens a1 a2 n c m d w hnm).mono ?_
    rintro e w' ⟨rfl, rfl⟩
    refine ⟨?_, Below.refl _ _⟩
    have : (xs == ys) = false := by
      rw [beq_eq_false_iff_ne]; rintro rfl; exact hnm (h1.1.symm.trans h2.1)
    rw [this]
/-- A list, sorted. -/
def sorted (xs : List Int) : List Int := xs.mergeSort fun x y => decide (x ≤ y)
theorem sorted_length (xs : List Int) : (sorted xs).length = xs.length := List.length_mergeSort xs
theorem c_sort (a : Option Addr) (n c base : Nat) (xs : List Int) (w : World) (h : Own w base (.slice a n c) xs) (hn : n ≤ 1048576) (hbw : base ≤ w.heap.size) :
    Calls Tryz.prog 141 #[.slice a n c] w fun e w' => e = .returned (.tuple #[]) ∧ Own w' base (.slice a n c) (sorted xs) ∧ Below base w w' := by
  have hl := h.ints.1
  rcases Nat.eq_zero_or_pos n with h0 | h0
  · subst h0
    have := nil_of_length hl rfl
    subst this
    refine (Tryz.slices_Sort_int_none a c w).mono ?_
    rintro e w' ⟨rfl, rfl⟩
    have e1 : sorted [] = [] := by simp [sorted]
    rw [e1]
    exact ⟨rfl, h, Below.refl _ _⟩
  · subst hl
    obtain ⟨g, cap, he, hb, hlt, h1, h2, h3, hH⟩ := Lib.holds_of_ownsRow (v := .slice a xs.length c) h (fun e => by injection e with e1 e2; omega)
    injection he with e1 _ e3
    subst e1; subst e3
    refine (Tryz.slices_Sort_int g 0 c xs w hH hlt (by omega)).mono ?_
    rintro e w' ⟨rfl, q, os, rfl⟩
    refine ⟨rfl, ?_, (Below.refl base w).grown (grownBy_sortedI _) hbw (fun j hj => by cases hj; exact hb)⟩
    rcases h.2 with ⟨e0, _⟩ | ⟨g', cap', cur, hv, hbase, hb', k1, k2, k3, k4⟩
    · cases e0
    cases hv
    have := ownsRow_sortedI (n := q) (os := os) (ts := sorted xs) (sorted_length xs) hbase hb' k1 k2 k3
    unfold Own
    rw [sorted_length]
    exact this
def compactI (xs : List Int) : List Int := Lib.compact xs
theorem compactI_le (xs : List Int) : (compactI xs).length ≤ xs.length := Lib.compact_length_le xs
theorem c_compact (a : Option Addr) (n c base : Nat) (xs : List Int) (w : World) (h : Own w base (.slice a n c) xs) (hn : n ≤ 1048576) :
    Calls Tryz.prog 142 #[.slice a n c] w fun e w' => ∃ v, e = .returned v ∧ Own w' base v (compactI xs) ∧ Below base w w' := by
  have hl := h.ints.1
  rcases Nat.eq_zero_or_pos n with h0 | h0
  · subst h0
    have := nil_of_length hl rfl
    subst this
    refine (Tryz.slices_Compact_int_empty a c w).mono ?_
    rintro e w' ⟨rfl, rfl⟩
    have e1 : compactI [] = [] := List.eq_nil_of_length_eq_zero (Nat.le_zero.1 (compactI_le []))
    rw [e1]
    exact ⟨_, rfl, h, Below.refl _ _⟩
  · subst hl
    obtain ⟨g, cap, he, hb, hlt, h1, h2, h3, hH⟩ := Lib.holds_of_ownsRow (v := .slice a xs.length c) h (fun e => by injection e with e1 e2; omega)
    injection he with e1 _ e3
    subst e1; subst e3
    refine (Tryz.slices_Compact_int g 0 c xs w hH (by omega) h1).mono ?_
    rintro e w' ⟨rfl, q, rfl⟩
    refine ⟨_, rfl, ?_, Lib.below_putRow (Below.refl _ _) hb⟩
    have hle := compactI_le xs
    have := Lib.ownsRow_putRow (q := q) (k := (compactI xs).length) (ys := compactI xs ++ List.replicate (xs.length - (compactI xs).length) 0) h (by simp; omega) hle
    rw [List.take_left] at this
    exact this
end Go.Proofs.YtnbomleieianoaaGreat

/- Contracts: rising lists, ways by the program, what is in both of two lists. -/
namespace Go.Proofs.YtnbomleieianoaaGreat
open Go.RowKit

/-- Is a list strictly ascending? -/
def risB (l : List Int) : Bool := (List.range l.length).all fun i => decide (i = 0 ∨ nth l (i - 1) < nth l i)
theorem ris_t {l : List Int} (h : ∀ i, 1 ≤ i → i < l.length → nth l (i - 1) < nth l i) : risB l = true := all_t fun i hi => by
  rcases Nat.eq_zero_or_pos i with rfl | h0
  · simp
  · have := h i (by omega) hi
    simp [this]
theorem ris_f {l : List Int} {i : Nat} (h1 : 1 ≤ i) (hi : i < l.length) (h : ¬ nth l (i - 1) < nth l i) : risB l = false := all_f hi (by
  rw [decide_eq_false_iff_not]; rintro (e | e)
  · omega
  · exact h e)
theorem ris_get {l : List Int} (h : risB l = true) {i : Nat} (h1 : 1 ≤ i) (hi : i < l.length) : nth l (i - 1) < nth l i := by
  have := all_get h hi
  rw [decide_eq_true_iff] at this
  rcases this with e | e
  · omega
  · exact e
set_option maxHeartbeats 400000 in
theorem impl_rising (a : Option Addr) (n cap : Nat) (l : List Int) (w : World) (hn : n ≤ 1048576) (h : Ints w a n l) :
    Calls Tryz.prog 128 #[.slice a n cap] w fun e w' => e = .returned (.bool (risB l)) ∧ Below w.heap.size w w' := by
  have hl := Lib.hid h.1
  have H := Lib.hid h
  clear h
  go_enter Tryz.func128, Tryz.ntmps128
  go_wp2_with fail
  go_loopw [3] (fun v3 wr => ∃ i : Nat, 1 ≤ i ∧ v3 = .int .i64 (i : Int) ∧ i ≤ n + 1 ∧ (∀ j, 1 ≤ j → j < i → j < n → nth l (j - 1) < nth l j) ∧ Below w.heap.size w wr) (fun v3 _ => n + 1 - (intOf v3).toNat)
  case atStart => exact ⟨1, Nat.le_refl _, rfl, by omega, fun j hj => by omega, Below.refl _ _⟩
  case round =>
    obtain ⟨i, h1, rfl, hin, hall, hbel⟩ := hrel
    have Hall := Lib.hid hall
    clear hall
    by_cases hlt : (i : Int) < n
    · obtain ⟨b, off, rfl, hcL⟩ := H.out.at (i := i) hbel (by omega)
      obtain ⟨b2, off2, he2, hcM⟩ := H.out.at (i := i - 1) hbel (by omega)
      cases he2
      have k1 : IntKind.i64.wrap ((i : Int) - 1) = (i : Int) - 1 := IntWalk.i64_in _ (by omega)
      have k2 : (0 : Int) ≤ (i : Int) := by omega
      have k3 : (0 : Int) ≤ (i : Int) - 1 := by omega
      have k4 : (i : Int) - 1 < (n : Int) := by omega
      have k5 : ((i : Int) - 1).toNat = i - 1 := by omega
      by_cases hge : nth l (i - 1) < nth l i
      · have Hg := Lib.hid hge
        have hge2 : ¬ nth l i ≤ nth l (i - 1) := by omega
        generalize nth l (i - 1) = u at hcM hge hge2
        generalize nth l i = v at hcL hge hge2
        go_wp2_with fail
        go_quiet (fail)
        go_wp2_with fail
        go_roundw
        case rel => exact ⟨i + 1, by omega, by go_num, by omega, fun j hj hji hn' => by
          by_cases e : j = i
          · subst e; exact Hg.out
          · exact Hall.out j hj (by omega) hn', below_drewN hbel _⟩
        case measure => simp [intOf]; omega
      · have Hv : Hid (risB l = false) := Lib.hid (ris_f h1 (by rw [hl.out]; omega) hge)
        have hge2 : nth l i ≤ nth l (i - 1) := by omega
        generalize nth l (i - 1) = u at hcM hge hge2
        generalize nth l i = v at hcL hge hge2
        go_wp2_with fail
        go_quiet (fail)
        go_wp2_with fail
        go_ret
        exact ⟨rb Hv.out.symm, below_drewN hbel _⟩
    · have Hv : Hid (risB l = true) := Lib.hid (ris_t fun j hj hj2 => Hall.out j hj (by rw [hl.out] at hj2; omega) (by rw [← hl.out]; exact hj2))
      go_wp2_with fail
      go_ret
      exact ⟨rb Hv.out.symm, hbel⟩
/-- The way to a node, none to what is above the root. -/
def wayI (ps : List Int) (c : Int) : List Int := if c < 0 then [] else way ps c.toNat
theorem wayI_nat (ps : List Int) (x : Nat) : wayI ps (x : Int) = way ps x := by
  rw [wayI, if_neg (by omega), Int.toNat_natCast]
theorem wayI_up {ps : List Int} (hp : Pa ps) {x : Nat} (hx : x < ps.length) : wayI ps (x : Int) = wayI ps (nth ps x) ++ [(x : Int)] := by
  rw [wayI_nat]
  rcases Nat.eq_zero_or_pos x with rfl | h0
  · rw [hp.p0, way_zero]; simp [wayI]
  · have := hp.upN (x := x) (by omega) hx
    rw [way_up hp (by omega) hx, this.1, wayI_nat]
set_option maxRecDepth 100000 in
set_option maxHeartbeats 1000000 in
theorem impl_way (aP : Option Addr) (nP cP : Nat) (aW : Option Addr) (nW cW : Nat) (ps ws : List Int) (X : Nat) (w : World) (h : Tre w aP nP cP aW nW cW ps ws) (hp : Pa ps) (hx : X < nP) :
    Calls Tryz.prog 130 #[.agg #[.slice aP nP cP, .slice aW nW cW], .int .i64 (X : Int)] w fun e w' => ∃ v, e = .returned v ∧ Own w' w.heap.size v (way ps X) ∧ Below w.heap.size w w' := by
  have Hp := Lib.hid hp
  have hn24 := hp.n24
  have hl := h.p.1
  have hlw := h.w.1
  have hpn := h.pn
  have hwn := h.wn
  have hb1 := below_new w (.cells #[.slice aP nP cP, .slice aW nW cW] 26)
  have hP1 := Lib.hid (Pair.new w (.slice aP nP cP) (.slice aW nW cW) 26)
  have H := Lib.hid h
  have Hl := Lib.hid hl
  have Hlw := Lib.hid hlw
  clear h hl hlw
  have hnP : nP ≤ 24 := by have := Hl.out; omega
  clear hp hn24
  go_enter Tryz.func130, Tryz.ntmps130
  go_wp2_with fail
  have hnil := own_nil0 (w.alloc (.cells #[.slice aP nP cP, .slice aW nW cW] 26))
  rw [show (w.alloc (.cells #[.slice aP nP cP, .slice aW nW cW] 26)).heap.size = w.heap.size + 1 by simp] at hnil
  have hb2 : Below w.heap.size w ((w.alloc (.cells #[.slice aP nP cP, .slice aW nW cW] 26)).alloc (.cells #[] 3)) := hb1.alloc (by simp) _
  have hP2 := Lib.hid (hP1.out.alloc (.cells #[] 3))
  generalize ((w.alloc (.cells #[.slice aP nP cP, .slice aW nW cW] 26)).alloc (.cells #[] 3)) = w2 at *
  clear hP1 hb1
  go_loopw [1, 5] (fun v1 v6 wr => ∃ (c : Int) (acc : List Int), -1 ≤ c ∧ c ≤ (X : Int) ∧ v1 = .int .i64 c ∧ wayI ps (X : Int) = wayI ps c ++ acc.reverse ∧ (acc.length : Int) + c ≤ (X : Int) ∧ Own wr (w.heap.size + 1) v6 acc ∧ Pair wr w.heap.size (.slice aP nP cP) (.slice aW nW cW) ∧ Below w.heap.size w wr) (fun v1 _ _ => (intOf v1 + 1).toNat)
  case atStart => exact ⟨X, [], by omega, Int.le_refl _, rfl, by simp, by simp, hnil, hP2.out, hb2⟩
  case round =>
    clear hnil hP2 hb2
    obtain ⟨c, acc, hc0, hcX, rfl, hway, hal, hown, hP, hbel⟩ := hrel
    have Hway := Lib.hid hway
    clear hway
    have e0 := hP.c0
    have HP := Lib.hid hP
    have hsz : w.heap.size + 1 ≤ wr.heap.size := hP.lt
    clear hP
    by_cases hlt : c ≥ 0
    · obtain ⟨C, rfl⟩ : ∃ C : Nat, c = C := ⟨c.toNat, by omega⟩
      obtain ⟨b, off, rfl, hc⟩ := H.out.p.at (i := C) hbel (by omega)
      have Hup := Lib.hid (wayI_up Hp.out (x := C) (by have := Hl.out; omega))
      have hpar : -1 ≤ nth ps C ∧ nth ps C < (C : Int) := by
        rcases Nat.eq_zero_or_pos C with rfl | h0
        · rw [Hp.out.p0]; omega
        · have := Hp.out.up C (by omega) (by have := Hl.out; omega); omega
      generalize hq0 : nth ps C = q at *
      have hq := Lib.hid hq0
      clear hq0
      go_wp2_with (at_builtin; refine wp_push (.tmp 14) (.tmp 16) rfl rfl (w.heap.size + 1) _ _ rfl hown rfl (by omega) hsz ?_; intro v' w' ho hb
                   have x0 := (HP.out.up hb (by omega)).c0
                   obtain ⟨b2, off2, he2, hc2⟩ := H.out.p.at (i := C) (hbel.trans (hb.mono (by omega))) (by omega)
                   cases he2
                   rw [hq.out] at hc2)
      go_roundw
      case rel => exact ⟨q, acc ++ [(C : Int)], by omega, by omega, rfl, by rw [Hway.out, Hup.out]; simp, by simp; omega, ho, HP.out.up hb (by omega), hbel.trans (hb.mono (by omega))⟩
      case measure => simp [intOf]; omega
    · obtain rfl : c = -1 := by omega
      obtain ⟨a6, c6, rfl⟩ := hown.shape
      have hlen : acc.length ≤ 1048576 := by omega
      have Hw : Hid (way ps X = acc.reverse) := Lib.hid (by have := Hway.out; rw [wayI_nat] at this; rw [this]; simp [wayI])
      go_wp2_with (go_at_call 151; refine (c_reverse _ _ _ (w.heap.size + 1) acc _ hown hlen).mono ?_; rintro e w' ⟨rfl, ho, hb⟩)
      go_ret
      exact ⟨_, rfl, by rw [Hw.out]; exact ho.mono (by omega), hbel.trans (hb.mono (by omega))⟩
set_option maxRecDepth 100000 in
set_option maxHeartbeats 1000000 in
theorem impl_both (a1 : Option Addr) (n1 c1 : Nat) (xs : List Int) (a2 : Option Addr) (n2 c2 : Nat) (ys : List Int) (w : World) (h1 : Ints w a1 n1 xs) (h2 : Ints w a2 n2 ys) (hn1 : n1 ≤ 1048576) (hn2 : n2 ≤ 1048576) :
    Calls Tryz.prog 129 #[.slice a1 n1 c1, .slice a2 n2 c2] w fun e w' => ∃ v, e = .returned v ∧ Own w' w.heap.size v (xs.filter (hasB ys)) ∧ Below w.heap.size w w' := by
  have hl := Lib.hid h1.1
  have H1 := Lib.hid h1
  have H2 := Lib.hid h2
  clear h1 h2
  go_enter Tryz.func129, Tryz.ntmps129
  go_wp2_with fail
  have hnil := own_nil0 w
  have hb2 : Below w.heap.size w (w.alloc (.cells #[] 3)) := below_new _ _
  generalize (w.alloc (.cells #[] 3)) = w2 at *
  go_loopw [5, 11] (fun v8 v11 wr => ∃ k : Nat, k ≤ n1 ∧ v11 = .int .i64 (k : Int) ∧ Own wr w.heap.size v8 ((xs.take k).filter (hasB ys)) ∧ Below w.heap.size w wr) (fun _ v11 _ => n1 - (intOf v11).toNat)
  case atStart => exact ⟨0, Nat.zero_le _, rfl, by simpa using hnil, hb2⟩
  case round =>
    clear hnil hb2
    obtain ⟨k, hk, rfl, hown, hbel⟩ := hrel
    have hsz := hbel.size
    by_cases hlt : (k : Int) < n1
    · obtain ⟨b, off, rfl, hc⟩ := H1.out.at (i := k) hbel (by omega)
      have hlen : ((xs.take k).filter (hasB ys)).length ≤ k := by have := List.length_filter_le (hasB ys) (xs.take k); rw [List.length_take] at this; omega
      have Htk := Lib.hid (take_succ_nth (xs := xs) (k := k) (by rw [hl.out]; omega))
      have H2k := Lib.hid (H2.out.below hbel)
      cases he : hasB ys (nth xs k)
      · have Hf : Hid ((xs.take (k + 1)).filter (hasB ys) = (xs.take k).filter (hasB ys)) := Lib.hid (by rw [Htk.out, List.filter_append]; simp [he])
        have He := Lib.hid he
        generalize (xs.take k).filter (hasB ys) = acc at *
        generalize nth xs k = q at *
        clear he
        go_wp2_with (go_at_call 78; refine (c_contains _ _ _ ys q _ H2k.out hn2).mono ?_; rintro e w' ⟨rfl, rfl⟩; rw [He.out])
        go_roundw
        case rel => exact ⟨k + 1, by omega, by go_num, by rw [Hf.out]; exact hown, hbel⟩
        case measure => simp [intOf]; omega
      · have Hf : Hid ((xs.take (k + 1)).filter (hasB ys) = (xs.take k).filter (hasB ys) ++ [nth xs k]) := Lib.hid (by rw [Htk.out, List.filter_append]; simp [he])
        have He := Lib.hid he
        generalize (xs.take k).filter (hasB ys) = acc at *
        generalize nth xs k = q at *
        clear he
        go_wp2_with (first
          | (go_at_call 78; refine (c_contains _ _ _ ys q _ H2k.out hn2).mono ?_; rintro e w' ⟨rfl, rfl⟩; rw [He.out])
          | (at_builtin; refine wp_push (.tmp 18) (.tmp 20) rfl rfl w.heap.size _ _ rfl hown rfl (by omega) hsz ?_; intro v' w' ho hb))
        go_roundw
        case rel => exact ⟨k + 1, by omega, by go_num, by rw [Hf.out]; exact ho, hbel.trans hb⟩
        case measure => simp [intOf]; omega
    · obtain rfl : k = n1 := by omega
      go_wp2_with fail
      go_ret
      exact ⟨_, rfl, by rw [List.take_of_length_le (by rw [hl.out]; exact Nat.le_refl _)] at hown; exact hown, hbel⟩
end Go.Proofs.YtnbomleieianoaaGreat

/- Plain laws: stoppings and rules of a tree are the same lists. Nothing of the program. -/
namespace Go.Proofs.YtnbomleieianoaaGreat

/-- How many of the nodes on the way to x are in a list? -/
def onR (ps rule : List Int) (x : Nat) : List Int := (way ps x).filter (hasB rule)
theorem onR_zero (ps rule : List Int) : onR ps rule 0 = if hasB rule 0 then [0] else [] := by
  rw [onR, way_zero]; cases h : hasB rule 0 <;> simp [h]
theorem onR_up {ps : List Int} (hp : Pa ps) (rule : List Int) {x : Nat} (h1 : 1 ≤ x) (h2 : x < ps.length) : onR ps rule x = onR ps rule (par ps x) ++ (if hasB rule x then [(x : Int)] else []) := by
  rw [onR, way_up hp h1 h2, List.filter_append, onR]
  cases h : hasB rule x <;> simp [h]
/-- Is a list a stopping? -/
def stopB (ps rule : List Int) : Bool := risB rule && allIn rule 0 ((ps.length : Int) - 1) && (List.range (ends ps).length).all fun i => (onR ps rule (nth (ends ps) i).toNat).length == 1
/-- Is a list a rule? -/
def ruleB (ps rule : List Int) : Bool := risB rule && allIn rule 0 ((ps.length : Int) - 1) && ((List.range (ends ps).length).all fun i => decide (0 ≤ stop ps (hasB rule) (nth (ends ps) i).toNat)) && (List.range rule.length).all fun i => stop ps (hasB rule) (nth rule i).toNat == nth rule i
/-- Is a number on the way if and only if there is a stop? -/
theorem stop_cnt {ps : List Int} (hp : Pa ps) (rule : List Int) : ∀ n x : Nat, x < n → x < ps.length → (0 ≤ stop ps (hasB rule) x ↔ 1 ≤ (onR ps rule x).length)
  | 0, x, h, _ => by omega
  | n + 1, x, h, hx => by
    rcases Nat.eq_zero_or_pos x with rfl | h0
    · rw [stop_zero, onR_zero]
      cases hh : hasB rule 0 <;> simp
    · have hpar := hp.upN (x := x) (by omega) hx
      have ih := stop_cnt hp rule n (par ps x) (by omega) (by omega)
      rw [stop_up hp _ (by omega) hx, onR_up hp rule (by omega) hx]
      by_cases hs : 0 ≤ stop ps (hasB rule) (par ps x)
      · rw [if_pos hs]
        have := ih.1 hs
        simp only [List.length_append]
        exact ⟨fun _ => by omega, fun _ => hs⟩
      · rw [if_neg hs]
        have h3 : ¬ 1 ≤ (onR ps rule (par ps x)).length := fun h4 => hs (ih.2 h4)
        cases hh : hasB rule x
        · simp only [List.length_append]
          constructor
          · intro h4; simp at h4
          · intro h4; simp at h4; exact absurd (by omega) h3
        · simp
/-- A node of the list stops itself if and only if it is alone on its way. -/
theorem stop_self {ps : List Int} (hp : Pa ps) (rule : List Int) {x : Nat} (hx : x < ps.length) (hh : hasB rule x = true) : stop ps (hasB rule) x = (x : Int) ↔ (onR ps rule x).length = 1 := by
  rcases Nat.eq_zero_or_pos x with rfl | h0
  · have hh0 : hasB rule 0 = true := hh
    rw [stop_zero, onR_zero, hh0]; simp
  · have hpar := hp.upN (x := x) (by omega) hx
    have hc := stop_cnt hp rule _ (par ps x) (Nat.lt_succ_self _) (by omega)
    have hlow := stop_low hp (hasB rule) (par ps x) (by omega)
    rw [stop_up hp _ (by omega) hx, onR_up hp rule (by omega) hx, hh]
    simp only [if_true, List.length_append, List.length_singleton]
    by_cases hs : 0 ≤ stop ps (hasB rule) (par ps x)
    · rw [if_pos hs]
      have := hc.1 hs
      constructor
      · intro h4; omega
      · intro h4; omega
    · rw [if_neg hs]
      have h3 : ¬ 1 ≤ (onR ps rule (par ps x)).length := fun h4 => hs (hc.2 h4)
      exact ⟨fun _ => by omega, fun _ => rfl⟩
/-- Where each node of the list stops itself, there is at most one on each way. -/
theorem cnt_le {ps : List Int} (hp : Pa ps) {rule : List Int} (h : ∀ x : Nat, x < ps.length → hasB rule x = true → (onR ps rule x).length = 1) : ∀ n x : Nat, x < n → x < ps.length → (onR ps rule x).length ≤ 1
  | 0, x, h, _ => by omega
  | n + 1, x, hn, hx => by
    cases hh : hasB rule x
    · rcases Nat.eq_zero_or_pos x with rfl | h0
      · have hh0 : hasB rule 0 = false := hh
        rw [onR_zero, hh0]; simp
      · have hpar := hp.upN (x := x) (by omega) hx
        rw [onR_up hp rule (by omega) hx, hh]
        simp only [Bool.false_eq_true, if_false, List.append_nil]
        exact cnt_le hp h n (par ps x) (by omega) (by omega)
    · rw [h x hx hh]; omega
/-- Below each node there is an end with at least as many. -/
theorem cnt_end {ps : List Int} (hp : Pa ps) (rule : List Int) : ∀ k x : Nat, ps.length ≤ k + x → x < ps.length → ∃ e : Nat, e < ps.length ∧ endB ps e = true ∧ (onR ps rule x).length ≤ (onR ps rule e).length
  | 0, x, h, hx => by omega
  | k + 1, x, h, hx => by
    cases he : endB ps x
    · obtain ⟨y, hy, hyx⟩ : ∃ y, y < ps.length ∧ nth ps y = (x : Int) := by
        by_cases hc : ∃ y, y < ps.length ∧ nth ps y = (x : Int)
        · exact hc
        · rw [endB_t fun y hy e => hc ⟨y, hy, e⟩] at he; cases he
      have hlt := kids_lt hp hy hyx
      obtain ⟨e, he1, he2, he3⟩ := cnt_end hp rule k y (by omega) hy
      have hpy : par ps y = x := by have := (hp.upN (x := y) (by omega) hy).1; omega
      rw [onR_up hp rule (by omega) hy, hpy, List.length_append] at he3
      exact ⟨e, he1, he2, by omega⟩
    · exact ⟨x, hx, he, Nat.le_refl _⟩
theorem hasB_mem {l : List Int} {y : Int} (h : hasB l y = true) : ∃ i, i < l.length ∧ nth l i = y := by
  unfold hasB at h; rw [List.any_eq_true] at h
  obtain ⟨z, hz, he⟩ := h
  obtain ⟨i, hi, rfl⟩ := List.mem_iff_getElem.1 hz
  exact ⟨i, hi, by rw [nth_lt hi]; simpa using he⟩
theorem all_iff {n : Nat} {f : Nat → Bool} : (List.range n).all f = true ↔ ∀ i, i < n → f i = true := ⟨fun h i hi => all_get h hi, all_t⟩
theorem end_nth {ps : List Int} {i : Nat} (hi : i < (ends ps).length) : ∃ e : Nat, e < ps.length ∧ endB ps e = true ∧ nth (ends ps) i = (e : Int) := by
  obtain ⟨e, h1, h2, h3⟩ := mem_filt.1 (nth_mem hi)
  exact ⟨e, h1, h2, h3⟩
theorem nth_end {ps : List Int} {e : Nat} (h : e < ps.length) (he : endB ps e = true) : ∃ i, i < (ends ps).length ∧ nth (ends ps) i = (e : Int) := by
  have hm : (e : Int) ∈ ends ps := mem_filt.2 ⟨e, h, he, rfl⟩
  obtain ⟨i, hi, he⟩ := List.mem_iff_getElem.1 hm
  exact ⟨i, hi, by rw [nth_lt hi]; exact he⟩
theorem all_in {l : List Int} {lo up : Int} (h : allIn l lo up = true) {i : Nat} (hi : i < l.length) : lo ≤ nth l i ∧ nth l i ≤ up := by
  have := all_get h hi
  simpa [inB] using this
theorem rule_stop {ps : List Int} (hp : Pa ps) (rule : List Int) : ruleB ps rule = stopB ps rule := by
  cases hr : risB rule
  · simp [ruleB, stopB, hr]
  cases ha : allIn rule 0 ((ps.length : Int) - 1)
  · simp [ruleB, stopB, ha]
  have hnode : ∀ i, i < rule.length → ∃ x : Nat, x < ps.length ∧ nth rule i = (x : Int) ∧ hasB rule x = true := fun i hi => by
    have := all_in ha hi
    exact ⟨(nth rule i).toNat, by omega, by omega, has_t hi (by omega)⟩
  rw [ruleB, stopB, hr, ha]
  simp only [Bool.true_and]
  rw [Bool.eq_iff_iff, Bool.and_eq_true, all_iff, all_iff, all_iff]
  constructor
  · rintro ⟨h1, h2⟩ i hi
    obtain ⟨e, he1, he2, he3⟩ := end_nth hi
    have h3 := h1 i hi
    rw [he3, Int.toNat_natCast] at h3 ⊢
    rw [decide_eq_true_iff, stop_cnt hp rule _ e (Nat.lt_succ_self _) he1] at h3
    have hself : ∀ x : Nat, x < ps.length → hasB rule x = true → (onR ps rule x).length = 1 := fun x hx hh => by
      obtain ⟨j, hj, hjx⟩ := hasB_mem hh
      have := h2 j hj
      rw [hjx, Int.toNat_natCast, beq_iff_eq] at this
      exact (stop_self hp rule hx hh).1 this
    have := cnt_le hp hself _ e (Nat.lt_succ_self _) he1
    rw [beq_iff_eq]; omega
  · intro h
    have hend : ∀ e : Nat, e < ps.length → endB ps e = true → (onR ps rule e).length = 1 := fun e he1 he2 => by
      obtain ⟨i, hi, hie⟩ := nth_end he1 he2
      have := h i hi
      rw [hie, Int.toNat_natCast, beq_iff_eq] at this
      exact this
    constructor
    · intro i hi
      obtain ⟨e, he1, he2, he3⟩ := end_nth hi
      rw [he3, Int.toNat_natCast, decide_eq_true_iff, stop_cnt hp rule _ e (Nat.lt_succ_self _) he1, hend e he1 he2]
      omega
    · intro i hi
      obtain ⟨x, hx, hix, hh⟩ := hnode i hi
      rw [hix, Int.toNat_natCast, beq_iff_eq, stop_self hp rule hx hh]
      obtain ⟨e, he1, he2, he3⟩ := cnt_end hp rule ps.length x (by omega) hx
      rw [hend e he1 he2] at he3
      have h0 : 0 ≤ stop ps (hasB rule) x := stop_end hp _ hx hh
      rw [stop_cnt hp rule _ x (Nat.lt_succ_self _) hx] at h0
      omega
end Go.Proofs.YtnbomleieianoaaGreat

/- Plain laws: the earlier and the later one of two stoppings. Nothing of the program. -/
namespace Go.Proofs.YtnbomleieianoaaGreat

/-- Ascending lists with the same members are the same. -/
theorem asc_ext : ∀ {xs ys : List Int}, xs.Pairwise (· < ·) → ys.Pairwise (· < ·) → (∀ z, z ∈ xs ↔ z ∈ ys) → xs = ys
  | [], [], _, _, _ => rfl
  | [], y :: ys, _, _, h => by have := (h y).2 (by simp); simp at this
  | x :: xs, [], _, _, h => by have := (h x).1 (by simp); simp at this
  | x :: xs, y :: ys, h1, h2, h => by
    rw [List.pairwise_cons] at h1 h2
    have hxy : x = y := by
      have e1 := (h x).1 (by simp)
      have e2 := (h y).2 (by simp)
      rw [List.mem_cons] at e1 e2
      rcases e1 with e1 | e1
      · exact e1
      · rcases e2 with e2 | e2
        · exact e2.symm
        · have := h1.1 y e2; have := h2.1 x e1; omega
    subst hxy
    congr 1
    refine asc_ext h1.2 h2.2 fun z => ?_
    have hz := h z
    rw [List.mem_cons, List.mem_cons] at hz
    constructor
    · intro hm
      rcases hz.1 (.inr hm) with e | e
      · subst e; have := h1.1 _ hm; omega
      · exact e
    · intro hm
      rcases hz.2 (.inr hm) with e | e
      · subst e; have := h2.1 _ hm; omega
      · exact e
theorem filt_asc (p : Nat → Bool) : ∀ k, (filt p k).Pairwise (· < ·)
  | 0 => by simp [filt]
  | k + 1 => by
    cases h : p k
    · rw [filt_f h]; exact filt_asc p k
    · rw [filt_t h, List.pairwise_append]
      refine ⟨filt_asc p k, by simp, fun x hx y hy => ?_⟩
      obtain ⟨i, hi, _, rfl⟩ := mem_filt.1 hx
      have : y = (k : Int) := by simpa using hy
      omega
theorem compactUpTo_asc (d : Array Int) (hd : ∀ i j, i ≤ j → j < d.size → d[i]! ≤ d[j]!) : ∀ m, m ≤ d.size → (Lib.compactUpTo d m).Pairwise (· < ·) ∧ (∀ z, z ∈ Lib.compactUpTo d m ↔ ∃ j, j < m ∧ z = d[j]!)
  | 0, _ => by simp [Lib.compactUpTo]
  | m + 1, hm => by
    obtain ⟨ih1, ih2⟩ := compactUpTo_asc d hd m (by omega)
    rw [Lib.compactUpTo_succ]
    rcases Nat.eq_zero_or_pos m with rfl | h0
    · have hk : Lib.keeps d 0 = true := by simp [Lib.keeps]
      rw [hk]
      simp only [if_true]
      refine ⟨by simp [Lib.compactUpTo], fun z => ?_⟩
      simp [Lib.compactUpTo]
    · by_cases e : d[m]! = d[m - 1]!
      · rw [Lib.keeps_neg h0 e]
        simp only [Bool.false_eq_true, if_false, List.append_nil]
        refine ⟨ih1, fun z => (ih2 z).trans ⟨fun ⟨j, hj, hz⟩ => ⟨j, by omega, hz⟩, fun ⟨j, hj, hz⟩ => ?_⟩⟩
        by_cases ej : j = m
        · exact ⟨m - 1, by omega, by rw [hz, ej, e]⟩
        · exact ⟨j, by omega, hz⟩
      · rw [Lib.keeps_pos e]
        simp only [if_true]
        refine ⟨?_, fun z => ?_⟩
        · rw [List.pairwise_append]
          refine ⟨ih1, by simp, fun x hx y hy => ?_⟩
          obtain ⟨j, hj, rfl⟩ := (ih2 x).1 hx
          have hy' : y = d[m]! := by simpa using hy
          rw [hy']
          have h1 := hd j (m - 1) (by omega) (by omega)
          have h2 := hd (m - 1) m (by omega) (by omega)
          omega
        · rw [List.mem_append, ih2 z]
          constructor
          · rintro (⟨j, hj, hz⟩ | hz)
            · exact ⟨j, by omega, hz⟩
            · exact ⟨m, by omega, by simpa using hz⟩
          · rintro ⟨j, hj, hz⟩
            by_cases ej : j = m
            · right; rw [hz, ej]; simp
            · left; exact ⟨j, by omega, hz⟩
theorem get_bang (zs : List Int) (i : Nat) (h : i < zs.length) : zs.toArray[i]! = zs[i] := by
  simp [getElem!_pos, h]
/-- What is left of a sorted list: an ascending one with the same members. -/
theorem compact_sorted (zs : List Int) : (compactI (sorted zs)).Pairwise (· < ·) ∧ (∀ z, z ∈ compactI (sorted zs) ↔ z ∈ zs) := by
  have hp : (sorted zs).Pairwise (fun a b => decide (a ≤ b) = true) := List.pairwise_mergeSort (fun a b c h1 h2 => by simp at *; omega) (fun a b => by simp; omega) zs
  have hd : ∀ i j, i ≤ j → j < (sorted zs).toArray.size → (sorted zs).toArray[i]! ≤ (sorted zs).toArray[j]! := fun i j hij hj => by
    have hj' : j < (sorted zs).length := by simpa using hj
    rw [get_bang _ i (by omega), get_bang _ j hj']
    by_cases e : i = j
    · subst e; exact Int.le_refl _
    · have := List.pairwise_iff_getElem.1 hp i j (by omega) hj' (by omega)
      simpa using this
  obtain ⟨h1, h2⟩ := compactUpTo_asc (sorted zs).toArray hd (sorted zs).length (by simp)
  refine ⟨h1, fun z => (h2 z).trans ?_⟩
  have hm : z ∈ zs ↔ z ∈ sorted zs := by unfold sorted; rw [List.mem_mergeSort]
  rw [hm]
  constructor
  · rintro ⟨j, hj, rfl⟩
    rw [get_bang _ j hj]; exact List.getElem_mem hj
  · intro h
    obtain ⟨j, hj, rfl⟩ := List.mem_iff_getElem.1 h
    exact ⟨j, hj, by rw [get_bang _ j hj]⟩
/-- One of two numbers: the smaller one if early, otherwise the greater one. -/
def pickI (early : Bool) (x y : Int) : Int := if decide (y < x) == early then y else x
/-- Is z the earlier (the later) stop on the way to one of these ends? -/
def mergeP (ps a b : List Int) (early : Bool) (es : List Int) (z : Nat) : Bool := es.any fun e => pickI early (stop ps (hasB a) e.toNat) (stop ps (hasB b) e.toNat) == (z : Int)
/-- The earlier (the later) one of two stoppings. -/
def mergeV (ps a b : List Int) (early : Bool) : List Int := filt (mergeP ps a b early (ends ps)) ps.length
theorem mergeP_nil (ps a b : List Int) (early : Bool) (k : Nat) : filt (mergeP ps a b early []) k = [] := filt_none fun _ _ => rfl
theorem mergeP_app (ps a b : List Int) (early : Bool) (es : List Int) (e : Int) (z : Nat) : mergeP ps a b early (es ++ [e]) z = (mergeP ps a b early es z || pickI early (stop ps (hasB a) e.toNat) (stop ps (hasB b) e.toNat) == (z : Int)) := by
  simp [mergeP, List.any_append]
theorem stopL_filter (S : Int → Bool) : ∀ xs : List Int, stopL S xs = (xs.filter S).headD (-1)
  | [] => rfl
  | x :: xs => by
    rw [stopL]
    cases h : S x
    · rw [if_neg Bool.false_ne_true, stopL_filter S xs, List.filter_cons_of_neg (by simp [h])]
    · rw [if_pos rfl, List.filter_cons_of_pos h]; rfl
/-- The one node of a stopping on the way to an end. -/
theorem sole {ps rule : List Int} (h : stopB ps rule = true) {e : Nat} (he : e < ps.length) (he2 : endB ps e = true) : onR ps rule e = [stop ps (hasB rule) e] := by
  obtain ⟨i, hi, hie⟩ := nth_end he he2
  have h1 : (onR ps rule e).length = 1 := by
    rw [stopB, Bool.and_eq_true] at h
    have := all_get h.2 hi
    rw [hie, Int.toNat_natCast, beq_iff_eq] at this
    exact this
  have h2 : stop ps (hasB rule) e = (onR ps rule e).headD (-1) := stopL_filter _ _
  obtain ⟨y, hy⟩ := List.length_eq_one_iff.1 h1
  rw [h2, hy]; rfl
theorem sole_mem {ps rule : List Int} (h : stopB ps rule = true) (hp : Pa ps) {e : Nat} (he : e < ps.length) (he2 : endB ps e = true) : ∃ s : Nat, s ≤ e ∧ stop ps (hasB rule) e = (s : Int) ∧ hasB rule (s : Int) = true ∧ (s : Int) ∈ way ps e := by
  have hs := sole h he he2
  have hm : stop ps (hasB rule) e ∈ onR ps rule e := by rw [hs]; simp
  rw [onR, List.mem_filter] at hm
  obtain ⟨j, hj, hje⟩ := way_mem hp e he _ hm.1
  exact ⟨j, hj, hje, hje ▸ hm.2, hje ▸ hm.1⟩
theorem pick_is (early : Bool) (x y : Int) : pickI early x y = x ∨ pickI early x y = y := by
  unfold pickI; split
  · exact .inr rfl
  · exact .inl rfl
/-- What the program makes of the stops is what the reference gathers. -/
theorem merge_eq {ps a b : List Int} (hp : Pa ps) (ha : stopB ps a = true) (hb : stopB ps b = true) (early : Bool) :
    compactI (sorted ((ends ps).map fun e => pickI early (stop ps (hasB a) e.toNat) (stop ps (hasB b) e.toNat))) = mergeV ps a b early := by
  obtain ⟨h1, h2⟩ := compact_sorted ((ends ps).map fun e => pickI early (stop ps (hasB a) e.toNat) (stop ps (hasB b) e.toNat))
  refine asc_ext h1 (filt_asc _ _) fun z => (h2 z).trans ?_
  rw [mergeV, List.mem_map, mem_filt]
  constructor
  · rintro ⟨e, he, rfl⟩
    obtain ⟨i, hi, hie⟩ := List.mem_iff_getElem.1 he
    obtain ⟨x, hx1, hx2, hx3⟩ := end_nth hi
    rw [nth_lt hi, hie] at hx3
    subst hx3
    rw [Int.toNat_natCast]
    obtain ⟨s, hs1, hs2, _⟩ := sole_mem ha hp hx1 hx2
    obtain ⟨t, ht1, ht2, _⟩ := sole_mem hb hp hx1 hx2
    rw [hs2, ht2]
    have hpk : ∃ q : Nat, q ≤ x ∧ pickI early (s : Int) (t : Int) = (q : Int) := by
      rcases pick_is early (s : Int) (t : Int) with e | e
      · exact ⟨s, hs1, e⟩
      · exact ⟨t, ht1, e⟩
    obtain ⟨q, hq, hqe⟩ := hpk
    refine ⟨q, by omega, ?_, hqe⟩
    rw [mergeP, List.any_eq_true]
    exact ⟨(x : Int), he, by rw [Int.toNat_natCast, hs2, ht2, hqe]; simp⟩
  · rintro ⟨q, hq, hm, rfl⟩
    rw [mergeP, List.any_eq_true] at hm
    obtain ⟨e, he, hpk⟩ := hm
    exact ⟨e, he, by simpa using hpk⟩
/-- Two nodes of a stopping on the way to an end are one. -/
theorem sole_one {ps rule : List Int} (h : stopB ps rule = true) {e : Nat} (he : e < ps.length) (he2 : endB ps e = true) {y : Int} (hy : y ∈ way ps e) (hr : hasB rule y = true) : y = stop ps (hasB rule) e := by
  have hm : y ∈ onR ps rule e := List.mem_filter.2 ⟨hy, hr⟩
  rw [sole h he he2] at hm
  simpa using hm
theorem ris_asc {l : List Int} (h : risB l = true) : l.Pairwise (· < ·) := by
  rw [List.pairwise_iff_getElem]
  intro i j hi hj hij
  have : ∀ k, i + k + 1 < l.length → nth l i < nth l (i + k + 1) := fun k => by
    induction k with
    | zero => intro hk; have := ris_get h (i := i + 0 + 1) (by omega) hk; simpa using this
    | succ k ih =>
      intro hk
      have h1 := ih (by omega)
      have h2 := ris_get h (i := i + (k + 1) + 1) (by omega) hk
      rw [show i + (k + 1) + 1 - 1 = i + k + 1 by omega] at h2
      omega
  have h1 := this (j - i - 1) (by omega)
  rw [show i + (j - i - 1) + 1 = j by omega, nth_lt hi, nth_lt hj] at h1
  exact h1
theorem stop_parts {ps rule : List Int} (h : stopB ps rule = true) : risB rule = true ∧ allIn rule 0 ((ps.length : Int) - 1) = true := by
  rw [stopB, Bool.and_eq_true, Bool.and_eq_true] at h
  exact h.1
/-- The earlier one of two stoppings is the first one if and only if that is nowhere later. -/
def noLaterB (ps a b : List Int) : Bool := (List.range (ends ps).length).all fun i => decide (stop ps (hasB a) (nth (ends ps) i).toNat ≤ stop ps (hasB b) (nth (ends ps) i).toNat)
theorem pick_t (x y : Int) : pickI true x y = if y < x then y else x := by
  unfold pickI
  by_cases h : y < x <;> simp [h]
theorem pick_f (x y : Int) : pickI false x y = if x ≤ y then y else x := by
  unfold pickI
  by_cases h : y < x
  · rw [if_neg (by simp [h]), if_neg (by omega)]
  · rw [if_pos (by simp [h]), if_pos (by omega)]
theorem noLater_eq {ps a b : List Int} (hp : Pa ps) (ha : stopB ps a = true) (hb : stopB ps b = true) : (mergeV ps a b true == a) = noLaterB ps a b := by
  rw [Bool.eq_iff_iff, beq_iff_eq, noLaterB, all_iff]
  constructor
  · intro heq i hi
    obtain ⟨e, he1, he2, hie⟩ := end_nth hi
    rw [hie, Int.toNat_natCast, decide_eq_true_iff]
    obtain ⟨t, ht1, ht2, ht3, ht4⟩ := sole_mem hb hp he1 he2
    apply Classical.byContradiction
    intro hlt
    have hpk : pickI true (stop ps (hasB a) e) (stop ps (hasB b) e) = (t : Int) := by rw [pick_t, if_pos (by omega), ht2]
    have hm : (t : Int) ∈ mergeV ps a b true := by
      rw [mergeV, mem_filt]
      refine ⟨t, by omega, ?_, rfl⟩
      rw [mergeP, List.any_eq_true]
      exact ⟨nth (ends ps) i, nth_mem hi, by rw [hie, Int.toNat_natCast, hpk]; simp⟩
    rw [heq] at hm
    obtain ⟨j, hj, hjt⟩ := List.mem_iff_getElem.1 hm
    have hh : hasB a (t : Int) = true := has_t hj (by rw [nth_lt hj]; exact hjt)
    have := sole_one ha he1 he2 ht4 hh
    omega
  · intro h
    have hmin : ∀ e : Nat, e < ps.length → endB ps e = true → pickI true (stop ps (hasB a) e) (stop ps (hasB b) e) = stop ps (hasB a) e := fun e he1 he2 => by
      obtain ⟨i, hi, hie⟩ := nth_end he1 he2
      have := h i hi
      rw [hie, Int.toNat_natCast, decide_eq_true_iff] at this
      rw [pick_t, if_neg (by omega)]
    refine asc_ext (filt_asc _ _) (ris_asc (stop_parts ha).1) fun z => ?_
    rw [mergeV, mem_filt]
    constructor
    · rintro ⟨q, hq, hm, rfl⟩
      rw [mergeP, List.any_eq_true] at hm
      obtain ⟨e, he, hpk⟩ := hm
      obtain ⟨i, hi, hie⟩ := List.mem_iff_getElem.1 he
      obtain ⟨x, hx1, hx2, hx3⟩ := end_nth hi
      rw [nth_lt hi, hie] at hx3
      subst hx3
      rw [Int.toNat_natCast, hmin x hx1 hx2, beq_iff_eq] at hpk
      obtain ⟨s, _, hs2, hs3, _⟩ := sole_mem ha hp hx1 hx2
      obtain ⟨j, hj, hjs⟩ := hasB_mem hs3
      rw [← hpk, hs2, ← hjs]; exact nth_mem hj
    · intro hz
      obtain ⟨j, hj, hjz⟩ := List.mem_iff_getElem.1 hz
      have hnj : nth a j = z := by rw [nth_lt hj]; exact hjz
      have hb2 := all_in (stop_parts ha).2 hj
      obtain ⟨x, hx⟩ : ∃ x : Nat, z = (x : Int) := ⟨z.toNat, by omega⟩
      subst hx
      have hxn : x < ps.length := by omega
      have hh : hasB a (x : Int) = true := has_t hj hnj
      -- the node stops itself: it is alone on its way
      have hone : (onR ps a x).length = 1 := by
        have h1 := (stop_cnt hp a _ x (Nat.lt_succ_self _) hxn).1 (stop_end hp _ hxn hh)
        obtain ⟨e, he1, he2, he3⟩ := cnt_end hp a ps.length x (by omega) hxn
        rw [sole ha he1 he2] at he3
        simp at he3
        omega
      have hself := (stop_self hp a hxn hh).2 hone
      obtain ⟨e, he1, he2, he3⟩ := end_below hp (hasB a) x hxn
      have hes : stop ps (hasB a) e = (x : Int) := by rw [he3 (by omega)]; exact hself
      refine ⟨x, hxn, ?_, rfl⟩
      rw [mergeP, List.any_eq_true]
      exact ⟨(e : Int), mem_filt.2 ⟨e, he1, he2, rfl⟩, by rw [Int.toNat_natCast, hmin e he1 he2, hes]; simp⟩
end Go.Proofs.YtnbomleieianoaaGreat

/- Plain law: the nodes of a stopping on the way to an end, gathered from the stopping itself. No conditions but those stated. -/
namespace Go.Proofs.YtnbomleieianoaaGreat
open Go.RowKit

theorem way_asc {ps : List Int} (hp : Pa ps) : ∀ n x : Nat, x < n → x < ps.length → (way ps x).Pairwise (· < ·)
  | 0, x, h, _ => by omega
  | n + 1, x, h, hx => by
    rcases Nat.eq_zero_or_pos x with rfl | h0
    · rw [way_zero]; exact List.pairwise_singleton _ _
    · have hpar := hp.upN (x := x) (by omega) hx
      rw [way_up hp h0 hx, List.pairwise_append]
      refine ⟨way_asc hp n (par ps x) (by omega) (by omega), List.pairwise_singleton _ _, fun y hy z hz => ?_⟩
      obtain ⟨j, hj, rfl⟩ := way_mem hp (par ps x) (by omega) y hy
      rw [List.mem_singleton] at hz
      subst hz
      omega
theorem has_mem {l : List Int} {y : Int} : hasB l y = true ↔ y ∈ l := by
  rw [← has_contains, List.contains_iff_mem]
theorem on_eq {ps rule : List Int} (hp : Pa ps) (hr : risB rule = true) {x : Nat} (hx : x < ps.length) : rule.filter (hasB (way ps x)) = onR ps rule x := by
  refine asc_ext ((ris_asc hr).filter _) ((way_asc hp _ x (Nat.lt_succ_self _) hx).filter _) fun z => ?_
  rw [onR, List.mem_filter, List.mem_filter, has_mem, has_mem]
  exact And.comm
theorem on_stop {ps rule : List Int} (hp : Pa ps) (h : stopB ps rule = true) {x : Nat} (hx : x < ps.length) (hx2 : endB ps x = true) : rule.filter (hasB (way ps x)) = [stop ps (hasB rule) x] := by
  rw [on_eq hp (stop_parts h).1 hx, sole h hx hx2]
theorem l3_cut {ps rule : List Int} (hp : Pa ps) {i x : Nat} (hi : i < (ends ps).length) (hx : nth (ends ps) i = (x : Int)) (h : (rule.filter (hasB (way ps x))).length ≠ 1) : stopB ps rule = false := by
  cases hs : stopB ps rule
  · rfl
  · obtain ⟨e, h1, h2, h3⟩ := end_nth hi
    obtain rfl : e = x := by omega
    rw [on_stop hp hs h1 h2] at h
    exact absurd rfl h
theorem l3_all {ps rule : List Int} (hp : Pa ps) (h : ∀ i, i < (ends ps).length → ∀ x : Nat, nth (ends ps) i = (x : Int) → (rule.filter (hasB (way ps x))).length = 1) : (risB rule && allIn rule 0 ((ps.length : Int) - 1)) = stopB ps rule := by
  cases hr : risB rule
  · rw [stopB, hr]; rfl
  · rw [stopB, hr]
    have : ((List.range (ends ps).length).all fun i => (onR ps rule (nth (ends ps) i).toNat).length == 1) = true := all_t fun i hi => by
      obtain ⟨e, h1, h2, h3⟩ := end_nth hi
      rw [h3, Int.toNat_natCast, ← on_eq hp hr h1, h i hi e h3]
      rfl
    rw [this]; simp
end Go.Proofs.YtnbomleieianoaaGreat

/- Contracts: is a list a stopping, is it a rule, by the program and by the reference. -/
namespace Go.Proofs.YtnbomleieianoaaGreat
open Go.RowKit

theorem stop_no1 {ps rule : List Int} (h : risB rule = false) : stopB ps rule = false := by simp [stopB, h]
theorem stop_no2 {ps rule : List Int} (h : allIn rule 0 ((ps.length : Int) - 1) = false) : stopB ps rule = false := by simp [stopB, h]
theorem stop_no3 {ps rule : List Int} {i e : Nat} (hi : i < (ends ps).length) (he : nth (ends ps) i = (e : Int)) (h : ¬ (onR ps rule e).length = 1) : stopB ps rule = false := by
  rw [stopB, all_f hi (by rw [he, Int.toNat_natCast, beq_eq_false_iff_ne]; exact h)]; simp
theorem stop_yes {ps rule : List Int} (h1 : risB rule = true) (h2 : allIn rule 0 ((ps.length : Int) - 1) = true) (h : ∀ i e : Nat, i < (ends ps).length → nth (ends ps) i = (e : Int) → (onR ps rule e).length = 1) : stopB ps rule = true := by
  rw [stopB, h1, h2, all_t fun i hi => by
    obtain ⟨e, he1, he2, he3⟩ := end_nth hi
    rw [he3, Int.toNat_natCast, beq_iff_eq]; exact h i e hi he3]; rfl
set_option maxRecDepth 100000 in
set_option maxHeartbeats 1000000 in
theorem impl_isStopping (aP : Option Addr) (nP cP : Nat) (aW : Option Addr) (nW cW : Nat) (ps ws : List Int) (aR : Option Addr) (nR cR : Nat) (rule : List Int) (w : World) (h : Tre w aP nP cP aW nW cW ps ws) (hp : Pa ps) (hR : Ints w aR nR rule) (hn : nR ≤ 1048576) :
    Calls Tryz.prog 71 #[.agg #[.slice aP nP cP, .slice aW nW cW], .slice aR nR cR] w fun e w' => e = .returned (.bool (stopB ps rule)) ∧ Below w.heap.size w w' := by
  have Hp := Lib.hid hp
  have hn24 := hp.n24
  have hl := h.p.1
  have hlw := h.w.1
  have hpn := h.pn
  have hwn := h.wn
  have hb1 := below_new w (.cells #[.slice aP nP cP, .slice aW nW cW] 26)
  have hP1 := Lib.hid (Pair.new w (.slice aP nP cP) (.slice aW nW cW) 26)
  have H := Lib.hid h
  have Hl := Lib.hid hl
  have Hlw := Lib.hid hlw
  clear h hl hlw
  have hnP : nP ≤ 24 := by have := Hl.out; omega
  have HR := Lib.hid hR
  clear hp hn24 hR
  have c0 := hP1.out.c0
  have c1 := hP1.out.c1
  go_enter Tryz.func71, Tryz.ntmps71
  go_wp2_with fail
  generalize (w.alloc (.cells #[.slice aP nP cP, .slice aW nW cW] 26)) = w2 at *
  refine (impl_rising _ _ _ rule _ hn (HR.out.below hb1)).mono ?_
  rintro e w3 ⟨rfl, hb3⟩
  have hP3 := hP1.out.below hb3
  have d0 := hP3.c0
  have d1 := hP3.c1
  have HP3 := Lib.hid hP3
  have hb13 := hb1.trans (hb3.mono hb1.size)
  clear hP3 c0 c1 hb3 hP1
  cases hr : risB rule
  · have Hv := Lib.hid (stop_no1 (ps := ps) hr)
    clear hr
    go_wp2_with fail
    go_ret
    exact ⟨rb Hv.out.symm, hb13⟩
  have Hr := Lib.hid hr
  clear hr
  have k1 : IntKind.i64.wrap ((nP : Int) - 1) = (nP : Int) - 1 := IntWalk.i64_in _ (by omega)
  go_wp2_with fail
  refine (impl_allWithin _ _ _ _ _ rule _ (by omega) (HR.out.below hb13)).mono ?_
  rintro e w4 ⟨rfl, rfl⟩
  have Hle : Hid (((ps.length : Int) - 1) = (nP : Int) - 1) := Lib.hid (by rw [Hl.out])
  rw [← Hle.out]
  cases hr : allIn rule 0 ((ps.length : Int) - 1)
  · have Hv := Lib.hid (stop_no2 hr)
    clear hr
    go_wp2_with fail
    go_ret
    exact ⟨rb Hv.out.symm, hb13⟩
  have Ha := Lib.hid hr
  clear hr
  go_wp2_with fail
  refine (impl_ends _ _ _ _ _ _ ps ws _ (H.out.below hb13) Hp.out).mono ?_
  rintro e w5 ⟨v, rfl, ho, hb5⟩
  obtain ⟨a5, c5, rfl⟩ := ho.shape
  have HE := Lib.hid ho.ints
  have hP5 := HP3.out.below hb5
  have HP5 := Lib.hid hP5
  have x0 := hP5.c0
  have x1 := hP5.c1
  have hb15 := hb13.trans (hb5.mono hb13.size)
  have hel : Hid ((ends ps).length ≤ 24) := Lib.hid (by have := filt_length (endB ps) ps.length; have := Hl.out; rw [ends]; omega)
  have Hen : Hid (∀ i, i < (ends ps).length → ∃ e : Nat, e < nP ∧ nth (ends ps) i = (e : Int)) := Lib.hid fun i hi => by
    obtain ⟨e, h1, _, h3⟩ := end_nth hi
    exact ⟨e, by have := Hl.out; omega, h3⟩
  have Hno : Hid (∀ {i e : Nat}, i < (ends ps).length → nth (ends ps) i = (e : Int) → ¬ (onR ps rule e).length = 1 → stopB ps rule = false) := Lib.hid fun hi he h => stop_no3 hi he h
  have Hyes : Hid ((∀ i e : Nat, i < (ends ps).length → nth (ends ps) i = (e : Int) → (onR ps rule e).length = 1) → stopB ps rule = true) := Lib.hid fun h => stop_yes Hr.out Ha.out h
  generalize ends ps = es at *
  clear hP5 d0 d1 hb5 ho HP3 hb13
  go_wp2_with fail
  go_loopw [22] (fun v22 wr => ∃ i : Nat, i ≤ es.length ∧ v22 = .int .i64 (i : Int) ∧ (∀ j e : Nat, j < i → nth es j = (e : Int) → (onR ps rule e).length = 1) ∧ Ints wr a5 es.length es ∧ Pair wr w.heap.size (.slice aP nP cP) (.slice aW nW cW) ∧ Below w.heap.size w wr) (fun v22 _ => es.length - (intOf v22).toNat)
  case atStart => exact ⟨0, Nat.zero_le _, rfl, fun j e hj => by omega, HE.out, HP5.out, hb15⟩
  case round =>
    clear HE HP5 hb15 x0 x1
    obtain ⟨i, hi, rfl, hall, hE, hP, hbel⟩ := hrel
    have Hall := Lib.hid hall
    have HE := Lib.hid hE
    have HP := Lib.hid hP
    have x0 := hP.c0
    have x1 := hP.c1
    clear hall hE hP
    by_cases hlt : (i : Int) < es.length
    · obtain ⟨be, oe, rfl, hce⟩ := HE.out.at (i := i) (Below.refl _ _) (by omega)
      obtain ⟨e, he, hei⟩ := Hen.out i (by omega)
      rw [hei] at hce
      have Hei := Lib.hid hei
      clear hei
      have Hcw := Lib.hid (impl_way _ _ _ _ _ _ ps ws e _ (H.out.below hbel) Hp.out he)
      have hcnt : Hid ((onR ps rule e).length ≤ 1048576) := Lib.hid (by
        have := way_length Hp.out e (by have := Hl.out; omega)
        have h2 := List.length_filter_le (hasB rule) (way ps e)
        rw [onR]; omega)
      have hwl : Hid ((way ps e).length ≤ 1048576) := Lib.hid (by
        have := way_length Hp.out e (by have := Hl.out; omega)
        omega)
      have Hon : Hid ((way ps e).filter (hasB rule) = onR ps rule e) := Lib.hid rfl
      by_cases h1 : (onR ps rule e).length = 1
      · have H1 : Hid (∀ e' : Nat, nth es i = (e' : Int) → (onR ps rule e').length = 1) := Lib.hid fun e' he' => by
          have := Hei.out
          obtain rfl : e' = e := by omega
          exact h1
        have hel2 := hel.out
        have hi1 : Hid (i + 1 ≤ es.length) := Lib.hid (by omega)
        generalize way ps e = wy at *
        generalize onR ps rule e = ow at *
        go_wp2_with (first
          | (go_at_call 130; refine Hcw.out.mono ?_; rintro e' w6 ⟨v6, rfl, o6, b6⟩; obtain ⟨a6, c6, rfl⟩ := o6.shape; have I6 := Lib.hid o6.ints)
          | (go_at_call 129; refine (impl_both _ _ _ wy _ _ _ rule _ I6.out (HR.out.below (hbel.trans (b6.mono hbel.size))) hwl.out hn).mono ?_; rintro e' w7 ⟨v7, rfl, o7, b7⟩; rw [Hon.out] at o7; obtain ⟨a7, c7, rfl⟩ := o7.shape))
        have hbel7 := (hbel.trans (b6.mono hbel.size)).trans (b7.mono (hbel.trans (b6.mono hbel.size)).size)
        go_roundw
        case rel => exact ⟨i + 1, hi1.out, by go_num, fun j e' hj he' => by
          by_cases ee : j = i
          · subst ee
            exact H1.out e' he'
          · exact Hall.out j e' (by omega) he', (HE.out.below b6).below b7, (HP.out.below b6).below b7, hbel7⟩
        case measure => have := hi1.out; simp [intOf]; omega
      · have Hv : Hid (stopB ps rule = false) := Lib.hid (Hno.out (by omega) Hei.out h1)
        have h1b : ¬ ((onR ps rule e).length : Int) = 1 := by omega
        have h1c : (((onR ps rule e).length : Int) == 1) = false := by rw [beq_eq_false_iff_ne]; exact h1b
        generalize way ps e = wy at *
        generalize onR ps rule e = ow at *
        go_wp2_with (first
          | (go_at_call 130; refine Hcw.out.mono ?_; rintro e' w6 ⟨v6, rfl, o6, b6⟩; obtain ⟨a6, c6, rfl⟩ := o6.shape; have I6 := Lib.hid o6.ints)
          | (go_at_call 129; refine (impl_both _ _ _ wy _ _ _ rule _ I6.out (HR.out.below (hbel.trans (b6.mono hbel.size))) hwl.out hn).mono ?_; rintro e' w7 ⟨v7, rfl, o7, b7⟩; rw [Hon.out] at o7; obtain ⟨a7, c7, rfl⟩ := o7.shape))
        have hbel7 := (hbel.trans (b6.mono hbel.size)).trans (b7.mono (hbel.trans (b6.mono hbel.size)).size)
        go_ret
        exact ⟨rb Hv.out.symm, hbel7⟩
    · obtain rfl : i = es.length := by omega
      have Hv : Hid (stopB ps rule = true) := Lib.hid (Hyes.out fun j e hj he => Hall.out j e hj he)
      go_wp2_with fail
      go_ret
      exact ⟨rb Hv.out.symm, hbel⟩
set_option maxRecDepth 100000 in
set_option maxHeartbeats 1000000 in
theorem spec_l1Rising (a : Option Addr) (n cap : Nat) (lo up : Int) (l : List Int) (w : World) (hn : n ≤ 1048576) (h : Ints w a n l) :
    Calls Tryz.prog 144 #[.slice a n cap, .int .i64 lo, .int .i64 up] w fun e w' => e = .returned (.bool (risB l && allIn l lo up)) ∧ Below w.heap.size w w' := by
  have hl := Lib.hid h.1
  have H := Lib.hid h
  clear h
  go_enter Tryz.func144, Tryz.ntmps144
  go_wp2_with fail
  go_loopw [7] (fun v7 wr => ∃ i : Nat, i ≤ n ∧ v7 = .int .i64 (i : Int) ∧ (∀ j, j < i → inB (nth l j) lo up = true) ∧ (∀ j, 1 ≤ j → j < i → nth l (j - 1) < nth l j) ∧ Below w.heap.size w wr) (fun v7 _ => n - (intOf v7).toNat)
  case atStart => exact ⟨0, Nat.zero_le _, rfl, fun j hj => by omega, fun j hj hj2 => by omega, Below.refl _ _⟩
  case round =>
    obtain ⟨i, hin, rfl, hall, hris, hbel⟩ := hrel
    have Hall := Lib.hid hall
    have Hris := Lib.hid hris
    clear hall hris
    by_cases hlt : (i : Int) < n
    · obtain ⟨b, off, rfl, hcL⟩ := H.out.at (i := i) hbel (by omega)
      have k2 : (0 : Int) ≤ (i : Int) := by omega
      have Hfin : Hid (∀ m, Below w.heap.size w (wr.drewN m)) := Lib.hid fun m => below_drewN hbel m
      cases hin2 : inB (nth l i) lo up
      · have Hv : Hid ((risB l && allIn l lo up) = false) := Lib.hid (by rw [show allIn l lo up = false from all_f (i := i) (by have := hl.out; omega) hin2]; simp)
        have Hc : Hid (∀ W : World, Calls Tryz.prog 110 #[.int .i64 (nth l i), .int .i64 lo, .int .i64 up] W fun e w' => e = .returned (.bool false) ∧ W = w') := Lib.hid fun W => by rw [← hin2]; exact spec_l1In _ _ _ W
        generalize nth l i = u at *
        clear hin2
        go_wp2_with fail
        go_quiet ((go_at_call 110; exact quietL (Hc.out _)))
        go_wp2_with fail
        go_ret
        exact ⟨rb Hv.out.symm, Hfin.out _⟩
      have Hc : Hid (∀ W : World, Calls Tryz.prog 110 #[.int .i64 (nth l i), .int .i64 lo, .int .i64 up] W fun e w' => e = .returned (.bool true) ∧ W = w') := Lib.hid fun W => by rw [← hin2]; exact spec_l1In _ _ _ W
      have Hin2 := Lib.hid hin2
      clear hin2
      rcases Nat.eq_zero_or_pos i with h0 | h0
      · have k6 : ¬ 0 < i := by omega
        have k7 : decide (0 < i) = false := decide_eq_false k6
        have H0 := Lib.hid h0
        clear h0
        generalize hv : nth l i = v at hcL Hc
        have Hv := Lib.hid hv
        clear hv
        go_wp2_with fail
        go_quiet ((go_at_call 110; exact quietL (Hc.out _)))
        go_wp2_with fail
        go_roundw
        case rel => exact ⟨i + 1, by omega, by go_num, fun j hj => by
            have := H0.out
            by_cases e : j = i
            · subst e; exact Hin2.out
            · exact Hall.out j (by omega), fun j hj hji => by have := H0.out; omega, Hfin.out _⟩
        case measure => simp [intOf]; omega
      · obtain ⟨b2, off2, he2, hcM⟩ := H.out.at (i := i - 1) hbel (by omega)
        cases he2
        have k1 : IntKind.i64.wrap ((i : Int) - 1) = (i : Int) - 1 := IntWalk.i64_in _ (by omega)
        have k3 : (0 : Int) ≤ (i : Int) - 1 := by omega
        have k4 : (i : Int) - 1 < (n : Int) := by omega
        have k5 : ((i : Int) - 1).toNat = i - 1 := by omega
        have k6 : 0 < i := h0
        have k7 : decide (0 < i) = true := decide_eq_true k6
        by_cases hge : nth l (i - 1) < nth l i
        · have Hg := Lib.hid hge
          have hge2 : ¬ nth l i ≤ nth l (i - 1) := by omega
          generalize nth l (i - 1) = u at hcM hge hge2
          generalize hv : nth l i = v at hcL hge hge2 Hc
          have Hv := Lib.hid hv
          clear hv
          go_wp2_with fail
          go_quiet ((go_at_call 110; exact quietL (Hc.out _)))
          go_wp2_with fail
          go_roundw
          case rel => exact ⟨i + 1, by omega, by go_num, fun j hj => by
            by_cases e : j = i
            · subst e; exact Hin2.out
            · exact Hall.out j (by omega), fun j hj hji => by
            by_cases e : j = i
            · subst e; exact Hg.out
            · exact Hris.out j hj (by omega), Hfin.out _⟩
          case measure => simp [intOf]; omega
        · have Hv : Hid ((risB l && allIn l lo up) = false) := Lib.hid (by rw [ris_f h0 (by rw [hl.out]; omega) hge]; rfl)
          have hge2 : nth l i ≤ nth l (i - 1) := by omega
          generalize nth l (i - 1) = u at hcM hge hge2
          generalize hv : nth l i = v at hcL hge hge2 Hc
          clear hv
          go_wp2_with fail
          go_quiet ((go_at_call 110; exact quietL (Hc.out _)))
          go_wp2_with fail
          go_ret
          exact ⟨rb Hv.out.symm, Hfin.out _⟩
    · have Hv : Hid ((risB l && allIn l lo up) = true) := Lib.hid (by
        rw [ris_t fun j hj hj2 => Hris.out j hj (by have := hl.out; omega), show allIn l lo up = true from all_t fun j hj => Hall.out j (by have := hl.out; omega)]; rfl)
      go_wp2_with fail
      go_ret
      exact ⟨rb Hv.out.symm, hbel⟩
end Go.Proofs.YtnbomleieianoaaGreat

/- Contracts: is a list a rule, by the program and by the reference. -/
namespace Go.Proofs.YtnbomleieianoaaGreat
open Go.RowKit

theorem rule_no1 {ps rule : List Int} (h : (risB rule && allIn rule 0 ((ps.length : Int) - 1)) = false) : ruleB ps rule = false := by rw [ruleB, h]; simp
theorem rule_no2 {ps rule : List Int} {i e : Nat} (hi : i < (ends ps).length) (he : nth (ends ps) i = (e : Int)) (h : ¬ 0 ≤ stop ps (hasB rule) e) : ruleB ps rule = false := by
  rw [ruleB, all_f (n := (ends ps).length) hi (by rw [he, Int.toNat_natCast, decide_eq_false_iff_not]; exact h)]; simp
theorem rule_no3 {ps rule : List Int} {i x : Nat} (hi : i < rule.length) (he : nth rule i = (x : Int)) (h : ¬ stop ps (hasB rule) x = (x : Int)) : ruleB ps rule = false := by
  rw [ruleB, all_f (n := rule.length) hi (by rw [he, Int.toNat_natCast, beq_eq_false_iff_ne]; exact h)]; simp
theorem rule_yes {ps rule : List Int} (h1 : (risB rule && allIn rule 0 ((ps.length : Int) - 1)) = true) (h2 : ∀ i e : Nat, i < (ends ps).length → nth (ends ps) i = (e : Int) → 0 ≤ stop ps (hasB rule) e) (h3 : ∀ i x : Nat, i < rule.length → nth rule i = (x : Int) → stop ps (hasB rule) x = (x : Int)) : ruleB ps rule = true := by
  have ha : allIn rule 0 ((ps.length : Int) - 1) = true := by
    rw [Bool.and_eq_true] at h1; exact h1.2
  rw [ruleB, h1, all_t fun i hi => by
    obtain ⟨e, he1, he2, he3⟩ := end_nth hi
    rw [he3, Int.toNat_natCast, decide_eq_true_iff]; exact h2 i e hi he3, all_t fun i hi => by
    have := all_in ha hi
    have h4 := h3 i (nth rule i).toNat hi (by omega)
    rw [beq_iff_eq]; omega]; rfl
end Go.Proofs.YtnbomleieianoaaGreat

/- Contracts: IsRule, by the program and by the reference. -/
namespace Go.Proofs.YtnbomleieianoaaGreat
open Go.RowKit

def isRuleV (ps ws rule : List Int) : Bool := treeB ps ws && stopB ps rule
theorem isRule_no {ps ws rule : List Int} (h : treeB ps ws = false) : isRuleV ps ws rule = false := by rw [isRuleV, h]; rfl
theorem isRule_yes {ps ws rule : List Int} (h : treeB ps ws = true) : isRuleV ps ws rule = stopB ps rule := by rw [isRuleV, h]; rfl
set_option maxRecDepth 100000 in
set_option maxHeartbeats 1000000 in
theorem impl_IsStopping (aP : Option Addr) (nP cP : Nat) (aW : Option Addr) (nW cW : Nat) (ps ws : List Int) (aL : Option Addr) (nL cL : Nat) (l : List Int) (w : World) (h : Tre w aP nP cP aW nW cW ps ws) (hL : Ints w aL nL l) (_hLc : aL = none → cL = 0) (hn : nL ≤ 1048576) :
    Calls Tryz.prog 19 #[.agg #[.slice aP nP cP, .slice aW nW cW], .slice aL nL cL] w fun e w' => e = .returned (.tuple #[.bool (isRuleV ps ws l), .bool (treeB ps ws)]) ∧ Below w.heap.size w w' := by
  have hl := h.p.1
  have hlw := h.w.1
  have hpn := h.pn
  have hwn := h.wn
  have hb1 := below_new w (.cells #[.slice aP nP cP, .slice aW nW cW] 26)
  have hP1 := Lib.hid (Pair.new w (.slice aP nP cP) (.slice aW nW cW) 26)
  have H := Lib.hid h
  have Hl := Lib.hid hl
  have Hlw := Lib.hid hlw
  clear h hl hlw
  have HL := Lib.hid hL
  clear hL
  go_enter Tryz.func19, Tryz.ntmps19
  have c0 := hP1.out.c0
  have c1 := hP1.out.c1
  go_wp2_with fail
  generalize (w.alloc (.cells #[.slice aP nP cP, .slice aW nW cW] 26)) = w2 at *
  refine (impl_IsTree _ _ _ _ _ _ ps ws _ (H.out.below hb1)).mono ?_
  rintro e w3 ⟨rfl, hb3⟩
  have hP3 := hP1.out.below hb3
  have d0 := hP3.c0
  have d1 := hP3.c1
  have hb13 := hb1.trans (hb3.mono hb1.size)
  clear hP3 c0 c1 hb3 hP1
  cases hT : treeB ps ws
  · have Hv := Lib.hid (isRule_no (rule := l) hT)
    have HT := Lib.hid hT
    clear hT
    go_wp2_with fail
    go_ret2
    exact ⟨by rw [Hv.out, HT.out]; rfl, hb13⟩
  have Hv := Lib.hid (isRule_yes (rule := l) hT)
  have HTr := Lib.hid (treeB_t hT)
  have HT := Lib.hid hT
  clear hT
  go_wp2_with fail
  refine (impl_isStopping _ _ _ _ _ _ ps ws _ _ _ l _ (H.out.below hb13) HTr.out.toPa (HL.out.below hb13) hn).mono ?_
  rintro e w4 ⟨rfl, hb4⟩
  go_wp2_with fail
  go_ret2
  exact ⟨by rw [Hv.out, HT.out]; rfl, hb13.trans (hb4.mono hb13.size)⟩
theorem impl_IsRule (aP : Option Addr) (nP cP : Nat) (aW : Option Addr) (nW cW : Nat) (ps ws : List Int) (aL : Option Addr) (nL cL : Nat) (l : List Int) (w : World) (h : Tre w aP nP cP aW nW cW ps ws) (hL : Ints w aL nL l) (hLc : aL = none → cL = 0) (hn : nL ≤ 1048576) :
    Calls Tryz.prog 22 #[.agg #[.slice aP nP cP, .slice aW nW cW], .slice aL nL cL] w fun e w' => e = .returned (.tuple #[.bool (isRuleV ps ws l), .bool (treeB ps ws)]) ∧ Below w.heap.size w w' := by
  have hl := h.p.1
  have hlw := h.w.1
  have hpn := h.pn
  have hwn := h.wn
  have hb1 := below_new w (.cells #[.slice aP nP cP, .slice aW nW cW] 26)
  have hP1 := Lib.hid (Pair.new w (.slice aP nP cP) (.slice aW nW cW) 26)
  have H := Lib.hid h
  have Hl := Lib.hid hl
  have Hlw := Lib.hid hlw
  clear h hl hlw
  have HL := Lib.hid hL
  clear hL
  go_enter Tryz.func22, Tryz.ntmps22
  have c0 := hP1.out.c0
  have c1 := hP1.out.c1
  go_wp2_with fail
  generalize (w.alloc (.cells #[.slice aP nP cP, .slice aW nW cW] 26)) = w2 at *
  refine (impl_IsStopping _ _ _ _ _ _ ps ws _ _ _ l _ (H.out.below hb1) (HL.out.below hb1) hLc hn).mono ?_
  rintro e w3 ⟨rfl, hb3⟩
  go_wp2_with fail
  go_ret2
  exact ⟨rfl, hb1.trans (hb3.mono hb1.size)⟩
end Go.Proofs.YtnbomleieianoaaGreat

/- Plain numbers: the bound of a list: the mean of the greatest excesses on the ways, by the program's sum and by the reference's. No conditions but those stated. -/
namespace Go.Proofs.YtnbomleieianoaaGreat
open Go.RowKit

/-- The excess at a node. -/
def exc (pay num : List Int) (x : Int) : Int := nth pay x.toNat - nth num x.toNat
/-- The greatest excess among the first k of some nodes, that of the root among them. -/
def mxT (f : Int → Int) (w : List Int) : Nat → Int
  | 0 => f 0
  | k + 1 => max (mxT f w k) (f (nth w k))
theorem mxT_bd {f : Int → Int} {B : Int} (hf : ∀ x, -B ≤ f x ∧ f x ≤ B) (w : List Int) : ∀ k, -B ≤ mxT f w k ∧ mxT f w k ≤ B
  | 0 => hf 0
  | k + 1 => by
    have ih := mxT_bd hf w k
    have := hf (nth w k)
    rw [mxT]; omega
theorem mxT_one {f : Int → Int} {w : List Int} (h : nth w 0 = 0) : mxT f w 1 = f 0 := by
  rw [mxT, mxT, h]; omega
def bdE (ps pay num : List Int) (e : Nat) : Int := mxT (exc pay num) (way ps e) (way ps e).length
theorem exc_bd {pay num : List Int} (h1 : ∀ i, -999 ≤ nth pay i ∧ nth pay i ≤ 999) (h2 : ∀ i, -999 ≤ nth num i ∧ nth num i ≤ 999) (x : Int) : -1998 ≤ exc pay num x ∧ exc pay num x ≤ 1998 := by
  have := h1 x.toNat
  have := h2 x.toNat
  rw [exc]; omega
theorem way_root {ps : List Int} (hp : Pa ps) : ∀ x, x < ps.length → nth (way ps x) 0 = 0 := by
  refine hp.above ?_ ?_
  · rfl
  · intro x h1 h2 ih
    have hpar := hp.upN (x := x) (by omega) h2
    have hl := (way_length hp (par ps x) (by omega)).1
    rw [way_up hp h1 h2, nth_append_l (by omega), ih]
/-- A term of the program's sum. -/
def bdT (ps ws pay num : List Int) (e : Int) : Int := bdE ps pay num e.toNat * nth ws e.toNat
def bndS (ps ws pay num : List Int) : Int := nth num 0 * nth (sums ps ws) 0 + sumOf (bdT ps ws pay num) (ends ps)
/-- The value of an end, as the reference has it. -/
def bdV (ps pay num : List Int) (e : Nat) : Int := bdE ps pay num e + nth num 0
/-- The list that the reference gathers, when i ends are done. -/
def totK (ps ws : List Int) (V : Nat → Int) (i : Nat) : List Int := (List.range ps.length).map fun x : Nat => if hasB ((ends ps).take i) (x : Int) then nth ws x * V x else 0
theorem totK_length (ps ws : List Int) (V : Nat → Int) (i : Nat) : (totK ps ws V i).length = ps.length := by simp [totK]
theorem totK_zero (ps ws : List Int) (V : Nat → Int) : List.replicate ps.length 0 = totK ps ws V 0 := by
  refine List.ext_getElem (by simp [totK]) fun i h1 h2 => ?_
  simp [totK, hasB]
theorem totK_succ {ps ws : List Int} {V : Nat → Int} {i e : Nat} (hi : i < (ends ps).length) (_he : e < ps.length) (hn : nth (ends ps) i = (e : Int)) : totK ps ws V (i + 1) = (totK ps ws V i).set e (nth ws e * V e) := by
  refine List.ext_getElem (by simp [totK]) fun x h1 h2 => ?_
  rw [totK_length] at h1
  rw [List.getElem_set]
  simp only [totK, List.getElem_map, List.getElem_range]
  by_cases hx : e = x
  · subst hx
    have : hasB ((ends ps).take (i + 1)) (e : Int) = true := by
      rw [has_mem, take_succ_nth hi, hn]; simp
    rw [if_pos this, if_pos rfl]
  · rw [if_neg hx]
    have : hasB ((ends ps).take (i + 1)) (x : Int) = hasB ((ends ps).take i) (x : Int) := by
      rw [Bool.eq_iff_iff, has_mem, has_mem, take_succ_nth hi, hn, List.mem_append, List.mem_singleton]
      constructor
      · rintro (h | h)
        · exact h
        · omega
      · exact .inl
    rw [this]
theorem totK_abs {ps ws : List Int} {V : Nat → Int} (h : Tr ps ws) (hV : ∀ x, -2997 ≤ V x ∧ V x ≤ 2997) (i : Nat) : Abs2 59940 (totK ps ws V i) := fun x => by
  by_cases hx : x < ps.length
  · rw [totK, nth_map_range hx]
    split
    · have h2 := mul_abs (B := 2997) (U := 20) (x := V x) (u := nth ws x) (hV x) (h.w0 x) (by omega)
      rw [Int.mul_comm (V x) (nth ws x)] at h2
      omega
    · omega
  · rw [nth_ge (by rw [totK_length]; omega)]; omega
theorem gath_abs {ps : List Int} (hp : Pa ps) : ∀ (k : Nat) (l : List Int) (C : Int), 0 ≤ C → k < ps.length → l.length = ps.length → Abs2 C l → Abs2 (C * 2 ^ k) (gath ps k l)
  | 0, l, C, _, _, _, h => by simpa [gath] using h
  | k + 1, l, C, hC, hk, hl, h => by
    have hup := hp.upN (x := k + 1) (by omega) hk
    have h2 := gath_bd2 (k := k + 1) h (show par ps (k + 1) < l.length by omega)
    have := gath_abs hp k (l.set (par ps (k + 1)) (nth l (par ps (k + 1)) + nth l (k + 1))) (2 * C) (by omega) (by omega) (by rw [List.length_set]; exact hl) h2
    rw [gath, show C * 2 ^ (k + 1) = 2 * C * 2 ^ k by rw [Int.pow_succ]; grind]
    exact this
/-- The totals. -/
def totA (ps ws : List Int) (V : Nat → Int) : List Int := gathA ps (totK ps ws V (ends ps).length)
theorem totA_length (ps ws : List Int) (V : Nat → Int) : (totA ps ws V).length = ps.length := by rw [totA, gathA_length, totK_length]
theorem totA_abs {ps ws : List Int} {V : Nat → Int} (h : Tr ps ws) (hV : ∀ x, -2997 ≤ V x ∧ V x ≤ 2997) : Abs2 502813163520 (totA ps ws V) := fun x => by
  have h1 := gath_abs h.toPa (ps.length - 1) (totK ps ws V (ends ps).length) 59940 (by omega) (by have := h.n1; omega) (totK_length _ _ _ _) (totK_abs h hV _) x
  have h2 : (2 : Int) ^ (ps.length - 1) ≤ 8388608 := by
    have h3 : ps.length - 1 ≤ 23 := by have := h.n24; omega
    have h4 : 2 ^ (ps.length - 1) ≤ 2 ^ 23 := Nat.pow_le_pow_right (by omega) h3
    have : ((2 ^ (ps.length - 1) : Nat) : Int) ≤ ((2 ^ 23 : Nat) : Int) := by exact_mod_cast h4
    simpa using this
  rw [totA, gathA]
  omega
theorem ends_sum {ps L : List Int} (hL : L.length = ps.length) (h0 : ∀ x : Nat, x < ps.length → endB ps x = false → nth L x = 0) : ∀ k, k ≤ ps.length → sumOf id (L.take k) = sumOf (fun e => nth L e.toNat) (filt (endB ps) k)
  | 0, _ => rfl
  | k + 1, hk => by
    have ih := ends_sum hL h0 k (by omega)
    rw [sumOf_take_succ _ _ _ (by omega), ih]
    cases he : endB ps k
    · rw [filt_f he, h0 k (by omega) he]; simp
    · rw [filt_t he, sumOf_append]; simp [sumOf]
theorem s0_ends {ps ws : List Int} (h : Tr ps ws) : nth (sums ps ws) 0 = sumOf (fun e => nth ws e.toNat) (ends ps) := by
  rw [sums, gathA_root h.toPa h.wl]
  have := ends_sum h.wl (fun x hx he => h.inner x hx he) ps.length (Nat.le_refl _)
  rw [← h.wl, List.take_length] at this
  rw [this, ends, h.wl]
theorem sumOf_lin (f g : Int → Int) (c : Int) : ∀ xs : List Int, sumOf (fun e => g e * (f e + c)) xs = sumOf (fun e => f e * g e) xs + c * sumOf g xs
  | [] => by simp [sumOf]
  | x :: xs => by
    have ih := sumOf_lin f g c xs
    simp only [sumOf, ih]
    grind
theorem tot_root {ps ws pay num : List Int} (h : Tr ps ws) : nth (totA ps ws (bdV ps pay num)) 0 = bndS ps ws pay num := by
  have hfull : ∀ x : Nat, x < ps.length → nth (totK ps ws (bdV ps pay num) (ends ps).length) x = if endB ps x then nth ws x * bdV ps pay num x else 0 := fun x hx => by
    rw [totK, nth_map_range hx, List.take_length]
    have : hasB (ends ps) (x : Int) = endB ps x := by
      rw [Bool.eq_iff_iff, has_mem, ends, mem_filt]
      constructor
      · rintro ⟨i, _, h2, h3⟩
        obtain rfl : i = x := by omega
        exact h2
      · intro h; exact ⟨x, hx, h, rfl⟩
    rw [this]
  rw [totA, gathA_root h.toPa (totK_length _ _ _ _)]
  have h1 := ends_sum (L := totK ps ws (bdV ps pay num) (ends ps).length) (totK_length _ _ _ _) (fun x hx he => by rw [hfull x hx, he]; rfl) ps.length (Nat.le_refl _)
  rw [← totK_length ps ws (bdV ps pay num) (ends ps).length, List.take_length, totK_length] at h1
  rw [h1, bndS, s0_ends h]
  have h2 : sumOf (fun e => nth (totK ps ws (bdV ps pay num) (ends ps).length) e.toNat) (filt (endB ps) ps.length) = sumOf (fun e => nth ws e.toNat * (bdE ps pay num e.toNat + nth num 0)) (ends ps) := by
    refine sumOf_congr fun z hz => ?_
    obtain ⟨i, h1, h2, rfl⟩ := mem_filt.1 hz
    rw [Int.toNat_natCast, hfull i h1, h2]; rfl
  rw [h2, sumOf_lin (fun e => bdE ps pay num e.toNat) (fun e => nth ws e.toNat) (nth num 0)]
  rw [Int.add_comm]; rfl
theorem bdE_bd {ps pay num : List Int} (h1 : ∀ i, -999 ≤ nth pay i ∧ nth pay i ≤ 999) (h2 : ∀ i, -999 ≤ nth num i ∧ nth num i ≤ 999) (e : Nat) : -1998 ≤ bdE ps pay num e ∧ bdE ps pay num e ≤ 1998 := mxT_bd (exc_bd h1 h2) _ _
end Go.Proofs.YtnbomleieianoaaGreat

/- Contracts: the bound of a list, and what a seer has, by the program. -/
namespace Go.Proofs.YtnbomleieianoaaGreat
open Go.RowKit

theorem sumOf_abs2 {f : Int → Int} {B : Int} (hB : 0 ≤ B) (hf : ∀ x, -B ≤ f x ∧ f x ≤ B) : ∀ xs : List Int, -(B * xs.length) ≤ sumOf f xs ∧ sumOf f xs ≤ B * xs.length
  | [] => by simp [sumOf]
  | x :: xs => by
    have ih := sumOf_abs2 hB hf xs
    have := hf x
    rw [List.length_cons, Int.natCast_add, Int.mul_add]
    simp only [sumOf, Int.natCast_one, Int.mul_one]
    omega
end Go.Proofs.YtnbomleieianoaaGreat
