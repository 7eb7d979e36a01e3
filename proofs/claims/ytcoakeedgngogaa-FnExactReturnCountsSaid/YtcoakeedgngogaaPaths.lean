/- Contracts of the functions that count walks, of the program and of the reference: each returns the plain number of the plain files. -/
import Derived.Test.YtcoakeedgngogaaWalks
import Derived.Test.YtcoakeedgngogaaNum
namespace Go.Proofs.Ytcoakeedgngogaa
open Go.RowKit

/-- The product behind i rounds. -/
def chL (m k : Nat) : Nat → Int
  | 0 => 1
  | i + 1 => chL m k i * ((m : Int) - (k : Int) + ((i : Int) + 1)) / ((i : Int) + 1)
def choose (m : Nat) (k : Int) : Int := if inB k 0 m then chL m k.toNat k.toNat else 0
theorem chL_bd (m k i : Nat) (hm : m ≤ 30) (hk : k ≤ m) (hi : i ≤ k) : 0 ≤ chL m k i ∧ chL m k i ≤ 1000000000 := by
  have : ((List.range 31).all fun m => (List.range (m + 1)).all fun k => (List.range (k + 1)).all fun i => inB (chL m k i) 0 1000000000) = true := by decide +kernel
  simp only [List.all_eq_true, List.mem_range] at this
  exact inB_t (this m (by omega) k (by omega) i (by omega))
theorem choose_bd (m : Nat) (k : Int) (hm : m ≤ 30) : 0 ≤ choose m k ∧ choose m k ≤ 1000000000 := by
  unfold choose
  cases h : inB k 0 m
  · simp
  · have := inB_t h
    exact chL_bd m k.toNat k.toNat hm (by omega) (Nat.le_refl _)
def paths (m : Nat) (x : Int) : Int := if inB x (-m) m && ((m : Int) + x) % 2 == 0 then choose m (((m : Int) + x) / 2) else 0
theorem paths_bd (m : Nat) (x : Int) (hm : m ≤ 30) : 0 ≤ paths m x ∧ paths m x ≤ 1000000000 := by
  unfold paths
  split
  · exact choose_bd m _ hm
  · omega

set_option maxHeartbeats 400000 in
theorem spec_l5Choose_nat (m : Nat) (k : Int) (w : World) (hm : m ≤ 30) :
    Calls Try.prog 72 #[.int .i64 m, .int .i64 k] w fun e w' => e = .returned (.int .i64 (choose m k)) ∧ w = w' := by
  cases hb : inB k 0 m
  · go_enter Try.func72, Try.ntmps72
    go_wp2_with (go_at_call 45; refine (spec_l1In _ _ _ _).mono ?_; rintro e w' ⟨rfl, rfl⟩)
    go_ret
    exact ⟨by simp [choose, hb], rfl⟩
  · have hk := inB_t hb
    obtain ⟨n, rfl⟩ : ∃ n : Nat, k = n := ⟨k.toNat, by omega⟩
    go_enter Try.func72, Try.ntmps72
    go_wp2_with (go_at_call 45; refine (spec_l1In _ _ _ _).mono ?_; rintro e w' ⟨rfl, rfl⟩)
    go_loop [5, 6] (fun v5 v6 => ∃ i : Nat, i ≤ n ∧ v6 = .int .i64 ((i : Int) + 1) ∧ v5 = .int .i64 (chL m n i)) (fun _ v6 => n + 1 - (intOf v6).toNat)
    case atStart => exact ⟨0, Nat.zero_le _, rfl, rfl⟩
    case round =>
      obtain ⟨i, hi, rfl, rfl⟩ := hrel
      have hbd := chL_bd m n i hm (by omega) hi
      obtain ⟨q, hq⟩ : ∃ q, q = chL m n i := ⟨_, rfl⟩
      rw [← hq] at hbd ⊢
      have Hq := Lib.hid hq
      clear hq
      by_cases hlt : (i : Int) + 1 ≤ n
      · have hmul : 0 ≤ q * ((m : Int) - n + (i + 1)) ∧ q * ((m : Int) - n + (i + 1)) ≤ 1000000000 * 61 :=
          ⟨Int.mul_nonneg hbd.1 (by omega), Int.mul_le_mul hbd.2 (by omega) (by omega) (by omega)⟩
        go_wp2
        go_round
        case rel => exact ⟨i + 1, by omega, by go_num, by rw [chL, ← Hq.out]⟩
        case measure => simp [intOf]; omega
      · obtain rfl : i = n := by omega
        go_wp2
        go_ret
        exact ⟨by rw [Hq.out]; simp [choose, hb], rfl⟩

theorem spec_l5Choose (m k : Int) (w : World) (h0 : 0 ≤ m) (h1 : m ≤ 30) :
    Calls Try.prog 72 #[.int .i64 m, .int .i64 k] w fun e w' => e = .returned (.int .i64 (choose m.toNat k)) ∧ w = w' := by
  obtain ⟨n, rfl⟩ : ∃ n : Nat, m = n := ⟨m.toNat, by omega⟩
  exact spec_l5Choose_nat n k w (by omega)

set_option maxHeartbeats 400000 in
theorem spec_l5Paths_nat (m : Nat) (x : Int) (w : World) (hm : m ≤ 30) :
    Calls Try.prog 56 #[.int .i64 m, .int .i64 x] w fun e w' => e = .returned (.int .i64 (paths m x)) ∧ w = w' := by
  cases hb : inB x (-m) m
  · go_enter Try.func56, Try.ntmps56
    go_wp2_with (go_at_call 45; refine (spec_l1In _ _ _ _).mono ?_; rintro e w' ⟨rfl, rfl⟩)
    go_ret
    exact ⟨ri (by simp [paths, hb]), rfl⟩
  · have hx := inB_t hb
    by_cases he : ((m : Int) + x) % 2 = 0
    · have he' : ((((m : Int) + x) % 2) != 0) = false := by simp [he]
      have He := Lib.hid he
      clear he
      go_enter Try.func56, Try.ntmps56
      go_wp2_with (first | (go_at_call 45; refine (spec_l1In _ _ _ _).mono ?_; rintro e w' ⟨rfl, rfl⟩) | (go_at_call 72; refine (spec_l5Choose_nat _ _ _ hm).mono ?_; rintro e w' ⟨rfl, rfl⟩))
      go_ret
      exact ⟨ri (by simp [paths, hb, He.out]), rfl⟩
    · have he' : ((((m : Int) + x) % 2) != 0) = true := by simpa using he
      go_enter Try.func56, Try.ntmps56
      go_wp2_with (go_at_call 45; refine (spec_l1In _ _ _ _).mono ?_; rintro e w' ⟨rfl, rfl⟩)
      go_ret
      exact ⟨ri (by unfold paths; rw [if_neg]; simp only [Bool.and_eq_true, beq_iff_eq]; omega), rfl⟩

theorem spec_l5Paths (m x : Int) (w : World) (h0 : 0 ≤ m) (h1 : m ≤ 30) :
    Calls Try.prog 56 #[.int .i64 m, .int .i64 x] w fun e w' => e = .returned (.int .i64 (paths m.toNat x)) ∧ w = w' := by
  obtain ⟨n, rfl⟩ : ∃ n : Nat, m = n := ⟨m.toNat, by omega⟩
  exact spec_l5Paths_nat n x w (by omega)

end Go.Proofs.Ytcoakeedgngogaa
