/- Contracts: are numbers those of a row; the value of a row, by steps and by parting. -/
import Derived.Test.YtehmaedifbnnhaaB2
import Derived.Test.YtehmaedifbnnhaaAllW
import Derived.Test.YtehmaedifbnnhaaPlRow
import Derived.Test.YtehmaedifbnnhaaRuin
namespace Go.Proofs.Ytehmaedifbnnhaa
open Go.RowKit

/-- Are these the numbers of a row? -/
def rowB (n u d : Int) : Bool := (inB n 0 4 && inB u 1 9) && inB d 1 9
theorem rowB_t {n u d : Int} (h : rowB n u d = true) : (0 ≤ n ∧ n ≤ 4) ∧ (1 ≤ u ∧ u ≤ 9) ∧ 1 ≤ d ∧ d ≤ 9 := by
  simp only [rowB, Bool.and_eq_true] at h
  exact ⟨inB_t h.1.1, inB_t h.1.2, inB_t h.2⟩
theorem impl_isRow (n u d : Int) (w : World) :
    Calls Try.prog 95 #[.int .i64 n, .int .i64 u, .int .i64 d] w fun e w' => e = .returned (.bool (rowB n u d)) ∧ w = w' := by
  cases h1 : inB n 0 4 <;> cases h2 : inB u 1 9 <;> cases h3 : inB d 1 9
  all_goals
    have hr : rowB n u d = ((inB n 0 4 && inB u 1 9) && inB d 1 9) := rfl
    rw [h1, h2, h3] at hr
    rw [hr]
    clear hr
    go_enter Try.func95, Try.ntmps95
    go_wp2_with (go_at_call 60; refine (impl_within _ _ _ _).mono ?_; rintro e w' ⟨rfl, rfl⟩)
    go_ret
    exact ⟨rfl, rfl⟩
theorem spec_l6Row (n u d : Int) (w : World) :
    Calls Try.prog 85 #[.int .i64 n, .int .i64 u, .int .i64 d] w fun e w' => e = .returned (.bool (rowB n u d)) ∧ w = w' := by
  cases h1 : inB n 0 4 <;> cases h2 : inB u 1 9 <;> cases h3 : inB d 1 9
  all_goals
    have hr : rowB n u d = ((inB n 0 4 && inB u 1 9) && inB d 1 9) := rfl
    rw [h1, h2, h3] at hr
    rw [hr]
    clear hr
    go_enter Try.func85, Try.ntmps85
    go_wp2_with (go_at_call 83; refine (spec_l1In _ _ _ _).mono ?_; rintro e w' ⟨rfl, rfl⟩)
    go_ret
    exact ⟨rfl, rfl⟩
/-- Are these so many numbers that may be paid? -/
def valsB (xs : List Int) (m : Int) : Bool := allIn xs (-999) 999 && ((xs.length : Int) == m)
theorem valsB_f {xs : List Int} {m : Int} (h : allIn xs (-999) 999 = false) : valsB xs m = false := by rw [valsB, h]; rfl
theorem valsB_e {xs : List Int} {m : Int} (h : allIn xs (-999) 999 = true) : valsB xs m = ((xs.length : Int) == m) := by rw [valsB, h]; rfl
set_option maxHeartbeats 400000 in
theorem spec_l6Values (a : Option Addr) (n cap : Nat) (m : Int) (xs : List Int) (w : World) (hn : n ≤ 4294967296) (h : Ints w a n xs) :
    Calls Try.prog 86 #[.slice a n cap, .int .i64 m] w fun e w' => e = .returned (.bool (valsB xs m)) ∧ w = w' := by
  have hl := Lib.hid h.1
  have H := Lib.hid h
  clear h
  go_enter Try.func86, Try.ntmps86
  go_wp2_with fail
  go_loop [5] (fun v5 => ∃ i : Nat, i ≤ n ∧ v5 = .int .i64 (i : Int) ∧ ∀ j, j < i → inB (nth xs j) (-999) 999 = true) (fun v5 => n - (intOf v5).toNat)
  case atStart => exact ⟨0, Nat.zero_le _, rfl, fun j hj => by omega⟩
  case round =>
    obtain ⟨i, hi, rfl, hall⟩ := hrel
    have Hall := Lib.hid hall
    clear hall
    by_cases hlt : (i : Int) < n
    · obtain ⟨b, off, rfl, hb, hc⟩ := H.out.2 (by omega)
      have h1 := hc i (by omega)
      clear hc
      cases hin : inB (nth xs i) (-999) 999
      · go_wp2_with fail
        refine (spec_l1In _ _ _ _).mono ?_
        rintro e w1 ⟨rfl, rfl⟩
        rw [hin]
        go_wp2_with fail
        go_ret
        exact ⟨by rw [valsB_f (all_f (i := i) (by have := hl.out; omega) hin)]; rfl, rfl⟩
      · go_wp2_with fail
        refine (spec_l1In _ _ _ _).mono ?_
        rintro e w1 ⟨rfl, rfl⟩
        rw [hin]
        go_wp2_with fail
        go_round
        case rel => exact ⟨i + 1, by omega, by go_num, fun j hj => by
          by_cases e : j = i
          · subst e; exact hin
          · exact Hall.out j (by omega)⟩
        case measure => simp [intOf]; omega
    · go_wp2_with fail
      go_ret
      exact ⟨by rw [valsB_e (all_t fun j hj => Hall.out j (by have := hl.out; omega)), hl.out]; rfl, rfl⟩
set_option maxHeartbeats 400000 in
theorem spec_l6Power (a k : Int) (w : World) (ha : 1 ≤ a ∧ a ≤ 20) (hk : 0 ≤ k ∧ k ≤ 12) :
    Calls Try.prog 88 #[.int .i64 a, .int .i64 k] w fun e w' => e = .returned (.int .i64 (powI a k.toNat)) ∧ w = w' := by
  obtain ⟨n, rfl⟩ : ∃ n : Nat, k = n := ⟨k.toNat, by omega⟩
  rw [Int.toNat_natCast]
  go_enter Try.func88, Try.ntmps88
  go_wp2_with fail
  go_loop [5, 6] (fun v5 v7 => ∃ i : Nat, i ≤ n ∧ v7 = .int .i64 i ∧ v5 = .int .i64 (powI a i)) (fun _ v7 => n - (intOf v7).toNat)
  case atStart => exact ⟨0, Nat.zero_le _, rfl, rfl⟩
  case round =>
    obtain ⟨i, hi, rfl, rfl⟩ := hrel
    have hb := powI_bd20 ha.1 ha.2 i (by omega)
    obtain ⟨p, hp⟩ : ∃ p, p = powI a i := ⟨_, rfl⟩
    rw [← hp] at hb ⊢
    have Hp := Lib.hid hp
    clear hp
    by_cases hlt : (i : Int) < n
    · have hm : 0 ≤ p * a ∧ p * a ≤ 4096000000000000 * 20 := ⟨Int.mul_nonneg (by omega) (by omega), Int.mul_le_mul hb.2 ha.2 (by omega) (by omega)⟩
      go_wp2_with fail
      go_round
      case rel => exact ⟨i + 1, by omega, by go_num, by rw [powI_succ, Hp.out]⟩
      case measure => simp [intOf]; omega
    · obtain rfl : i = n := by omega
      go_wp2_with fail
      go_ret
      exact ⟨ri Hp.out, rfl⟩
theorem partV_bd {u d : Int} (hu : 0 ≤ u ∧ u ≤ 9) (hd : 0 ≤ d ∧ d ≤ 9) (k : Nat) (xs : List Int) (hk : k ≤ 4) (hl : xs.length = k + 1) (h : Abs 999 xs) : -104871024 ≤ partV u d k xs ∧ partV u d k xs ≤ 104871024 := by
  rw [← rowV_part u d k xs hl]
  exact rowV_bd h hu hd (by omega)
set_option maxHeartbeats 1000000 in
theorem spec_l6Value_q (u d : Int) (hu : 1 ≤ u ∧ u ≤ 9) (hd : 1 ≤ d ∧ d ≤ 9) : ∀ (k : Nat), k ≤ 4 → ∀ (a : Option Addr) (n cap : Nat) (xs : List Int) (w : World), n = k + 1 → n ≤ cap → cap ≤ maxLen → Abs 999 xs → Ints w a n xs →
    Calls Try.prog 87 #[.int .i64 u, .int .i64 d, .slice a n cap] w fun e w' => e = .returned (.int .i64 (partV u d k xs)) ∧ ∃ m, w' = w.drewN m
  | 0, _, a, n, cap, xs, w, hn, hc, hcm, hA, h => by
    subst hn
    obtain ⟨b, off, rfl, hb, hcell⟩ := h.2 (by omega)
    have h0 := hcell 0 (by omega)
    rw [Nat.add_zero] at h0
    have hv : partV u d 0 xs = nth xs 0 := rfl
    rw [hv]
    generalize nth xs 0 = v at *
    clear hcell h hv hA
    go_enter Try.func87, Try.ntmps87
    go_wp2_with fail
    go_ret
    exact ⟨rfl, 0, rfl⟩
  | k + 1, hk, a, n, cap, xs, w, hn, hc, hcm, hA, h => by
    obtain ⟨b, off, rfl, hb, hcell⟩ := h.2 (by omega)
    have hl := h.1
    have IH := Lib.hid (spec_l6Value_q u d hu hd k (by omega))
    have H1 := Lib.hid (h.rest (m := n - 1) (by omega))
    have H2 := Lib.hid (h.init (m := n - 1) (by omega))
    have B1 := partV_bd (u := u) (d := d) (by omega) (by omega) k xs.tail (by omega) (by simp; omega) hA.tail
    have B2 := partV_bd (u := u) (d := d) (by omega) (by omega) k xs.dropLast (by omega) (by simp; omega) (hA.dropLast (by omega))
    have hv : partV u d (k + 1) xs = d * partV u d k xs.tail + u * partV u d k xs.dropLast := rfl
    rw [hv]
    have A1 := Lib.hid hA.tail
    have A2 := Lib.hid (hA.dropLast (by omega))
    have HA := Lib.hid (fun (w : World) (m cap' : Nat) (hm : m = k + 1) (hc' : m ≤ cap') (hcm' : cap' ≤ maxLen) (H : Ints w (some ⟨b, off + 1, none⟩) m xs.tail) => IH.out _ m cap' _ w hm hc' hcm' A1.out H)
    have HB := Lib.hid (fun (w : World) (m cap' : Nat) (hm : m = k + 1) (hc' : m ≤ cap') (hcm' : cap' ≤ maxLen) (H : Ints w (some ⟨b, off, none⟩) m xs.dropLast) => IH.out _ m cap' _ w hm hc' hcm' A2.out H)
    have Hn := Lib.hid hn
    generalize partV u d k xs.tail = p at *
    generalize partV u d k xs.dropLast = q at *
    have hn1 : ((n : Int) == 1) = false := by rw [beq_eq_false_iff_ne]; omega
    have hn2 : 2 ≤ (n : Int) ∧ (n : Int) ≤ 5 ∧ (n : Int) ≤ cap := by omega
    clear hA hcell h hv hl hn hc
    have m1 : -943839216 ≤ d * p ∧ d * p ≤ 943839216 := by rw [Int.mul_comm]; exact mul_abs (B := 104871024) (U := 9) B1 (by omega) (by omega)
    have m2 : -943839216 ≤ u * q ∧ u * q ≤ 943839216 := by rw [Int.mul_comm]; exact mul_abs (B := 104871024) (U := 9) B2 (by omega) (by omega)
    have k1 : IntKind.i64.wrap (d * p) = d * p := IntWalk.i64_in _ (by omega)
    have k2 : IntKind.i64.wrap (u * q) = u * q := IntWalk.i64_in _ (by omega)
    have k3 : IntKind.i64.wrap (d * p + u * q) = d * p + u * q := IntWalk.i64_in _ (by omega)
    have k4 : IntKind.i64.wrap ((n : Int) - 1) = (n : Int) - 1 := IntWalk.i64_in _ (by omega)
    have k5 : (0 : Int) ≤ (n : Int) - 1 := by omega
    have k6 : (n : Int) - 1 ≤ cap := by omega
    have k7 : (1 : Int) ≤ n := by omega
    have kc : ¬ cap = 1 := by omega
    have kc0 : ¬ cap = 0 := by omega
    go_enter Try.func87, Try.ntmps87
    go_wp2_with fail
    go_quiet ((go_at_call 87; first | (with_reducible refine Calls.quiet_of (HA.out _ _ _ (by have := Hn.out; omega) (by omega) (by omega) ?_); exact (H1.out.below (below_drewN (Below.refl _ _) _))) | exact Calls.quiet_of (HB.out _ _ _ (by have := Hn.out; omega) (by omega) (by omega) (H2.out.below (below_drewN (Below.refl _ _) _)))))
    go_wp2_with fail
    go_ret
    exact ⟨rfl, _, rfl⟩
end Go.Proofs.Ytehmaedifbnnhaa
