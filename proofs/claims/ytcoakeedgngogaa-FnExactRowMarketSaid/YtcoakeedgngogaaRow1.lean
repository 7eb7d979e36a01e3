/- Contracts: are numbers those of a row; the value of a row, by steps and by parting. -/
import Derived.Test.YtcoakeedgngogaaB2
import Derived.Test.YtcoakeedgngogaaAllW
import Derived.Test.YtcoakeedgngogaaPlRow
import Derived.Test.YtcoakeedgngogaaRuin
namespace Go.Proofs.Ytcoakeedgngogaa
open Go.RowKit

/-- Are these the numbers of a row? -/
def rowB (n u d : Int) : Bool := (inB n 0 4 && inB u 1 9) && inB d 1 9
theorem rowB_t {n u d : Int} (h : rowB n u d = true) : (0 ≤ n ∧ n ≤ 4) ∧ (1 ≤ u ∧ u ≤ 9) ∧ 1 ≤ d ∧ d ≤ 9 := by
  simp only [rowB, Bool.and_eq_true] at h
  exact ⟨inB_t h.1.1, inB_t h.1.2, inB_t h.2⟩
theorem impl_isRow (n u d : Int) (w : World) :
    Calls Try.prog 40 #[.int .i64 n, .int .i64 u, .int .i64 d] w fun e w' => e = .returned (.bool (rowB n u d)) ∧ w = w' := by
  cases h1 : inB n 0 4 <;> cases h2 : inB u 1 9 <;> cases h3 : inB d 1 9
  all_goals
    have hr : rowB n u d = ((inB n 0 4 && inB u 1 9) && inB d 1 9) := rfl
    rw [h1, h2, h3] at hr
    rw [hr]
    clear hr
    go_enter Try.func40, Try.ntmps40
    go_wp2_with (go_at_call 49; refine (impl_within _ _ _ _).mono ?_; rintro e w' ⟨rfl, rfl⟩)
    go_ret
    exact ⟨rfl, rfl⟩
theorem spec_l6Row (n u d : Int) (w : World) :
    Calls Try.prog 33 #[.int .i64 n, .int .i64 u, .int .i64 d] w fun e w' => e = .returned (.bool (rowB n u d)) ∧ w = w' := by
  cases h1 : inB n 0 4 <;> cases h2 : inB u 1 9 <;> cases h3 : inB d 1 9
  all_goals
    have hr : rowB n u d = ((inB n 0 4 && inB u 1 9) && inB d 1 9) := rfl
    rw [h1, h2, h3] at hr
    rw [hr]
    clear hr
    go_enter Try.func33, Try.ntmps33
    go_wp2_with (go_at_call 45; refine (spec_l1In _ _ _ _).mono ?_; rintro e w' ⟨rfl, rfl⟩)
    go_ret
    exact ⟨rfl, rfl⟩
/-- Are these so many numbers that may be paid? -/
def valsB (xs : List Int) (m : Int) : Bool := allIn xs (-999) 999 && ((xs.length : Int) == m)
theorem valsB_f {xs : List Int} {m : Int} (h : allIn xs (-999) 999 = false) : valsB xs m = false := by rw [valsB, h]; rfl
theorem valsB_e {xs : List Int} {m : Int} (h : allIn xs (-999) 999 = true) : valsB xs m = ((xs.length : Int) == m) := by rw [valsB, h]; rfl
set_option maxHeartbeats 400000 in
theorem spec_l6Values (a : Option Addr) (n cap : Nat) (m : Int) (xs : List Int) (w : World) (hn : n ≤ 4294967296) (h : Ints w a n xs) :
    Calls Try.prog 34 #[.slice a n cap, .int .i64 m] w fun e w' => e = .returned (.bool (valsB xs m)) ∧ w = w' := by
  have hl := Lib.hid h.1
  have H := Lib.hid h
  clear h
  go_enter Try.func34, Try.ntmps34
  go_wp2_with fail
  go_loop [5] (fun v5 => ∃ i : Nat, i ≤ n ∧ v5 = .int .i64 (i : Int) ∧ ∀ j, j < i → inB (nth xs j) (-999) 999 = true) (fun v5 => n - (intOf v5).toNat)
  case atStart => exact ⟨0, Nat.zero_le _, rfl, fun j hj => by omega⟩
  case round =>
    obtain ⟨i, hi, rfl, hall⟩ := hrel
    have Hall := Lib.hid hall
    clear hall
    by_cases hlt : (i : Int) < n
    · obtain ⟨b, off, rfl, hb, hc⟩ := H.out.2 (by omega)
      have h1 := hc i (by omega)
      clear hc
      cases hin : inB (nth xs i) (-999) 999
      · go_wp2_with fail
        refine (spec_l1In _ _ _ _).mono ?_
        rintro e w1 ⟨rfl, rfl⟩
        rw [hin]
        go_wp2_with fail
        go_ret
        exact ⟨by rw [valsB_f (all_f (i := i) (by have := hl.out; omega) hin)]; rfl, rfl⟩
      · go_wp2_with fail
        refine (spec_l1In _ _ _ _).mono ?_
        rintro e w1 ⟨rfl, rfl⟩
        rw [hin]
        go_wp2_with fail
        go_round
        case rel => exact ⟨i + 1, by omega, by go_num, fun j hj => by
          by_cases e : j = i
          · subst e; exact hin
          · exact Hall.out j (by omega)⟩
        case measure => simp [intOf]; omega
    · go_wp2_with fail
      go_ret
      exact ⟨by rw [valsB_e (all_t fun j hj => Hall.out j (by have := hl.out; omega)), hl.out]; rfl, rfl⟩
set_option maxHeartbeats 400000 in
theorem spec_l6Power (a k : Int) (w : World) (ha : 1 ≤ a ∧ a ≤ 20) (hk : 0 ≤ k ∧ k ≤ 12) :
    Calls Try.prog 37 #[.int .i64 a, .int .i64 k] w fun e w' => e = .returned (.int .i64 (powI a k.toNat)) ∧ w = w' := by
  obtain ⟨n, rfl⟩ : ∃ n : Nat, k = n := ⟨k.toNat, by omega⟩
  rw [Int.toNat_natCast]
  go_enter Try.func37, Try.ntmps37
  go_wp2_with fail
  go_loop [5, 6] (fun v5 v7 => ∃ i : Nat, i ≤ n ∧ v7 = .int .i64 i ∧ v5 = .int .i64 (powI a i)) (fun _ v7 => n - (intOf v7).toNat)
  case atStart => exact ⟨0, Nat.zero_le _, rfl, rfl⟩
  case round =>
    obtain ⟨i, hi, rfl, rfl⟩ := hrel
    have hb := powI_bd20 ha.1 ha.2 i (by omega)
    obtain ⟨p, hp⟩ : ∃ p, p = powI a i := ⟨_, rfl⟩
    rw [← hp] at hb ⊢
    have Hp := Lib.hid hp
    clear hp
    by_cases hlt : (i : Int) < n
    · have hm : 0 ≤ p * a ∧ p * a ≤ 4096000000000000 * 20 := ⟨Int.mul_nonneg (by omega) (by omega), Int.mul_le_mul hb.2 ha.2 (by omega) (by omega)⟩
      go_wp2_with fail
      go_round
      case rel => exact ⟨i + 1, by omega, by go_num, by rw [powI_succ, Hp.out]⟩
      case measure => simp [intOf]; omega
    · obtain rfl : i = n := by omega
      go_wp2_with fail
      go_ret
      exact ⟨ri Hp.out, rfl⟩
end Go.Proofs.Ytcoakeedgngogaa
