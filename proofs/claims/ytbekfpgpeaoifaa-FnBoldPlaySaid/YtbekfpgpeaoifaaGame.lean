/- Contracts: are numbers weights, is it a game. Each returns the plain Bool and leaves the world as it is. -/
import Derived.Test.YtbekfpgpeaoifaaNum
namespace Go.Proofs.Ytbekfpgpeaoifaa
open Go.RowKit

def odds (a b : Int) : Bool := inB a 1 20 && inB b 1 20
theorem odds_t {a b : Int} (h : odds a b = true) : 1 ≤ a ∧ a ≤ 20 ∧ 1 ≤ b ∧ b ≤ 20 := by
  simp only [odds, Bool.and_eq_true] at h
  have := inB_t h.1
  have := inB_t h.2
  omega
def game (a b n : Int) : Bool := odds a b && inB n 1 12
theorem game_t {a b n : Int} (h : game a b n = true) : 1 ≤ a ∧ a ≤ 20 ∧ 1 ≤ b ∧ b ≤ 20 ∧ 1 ≤ n ∧ n ≤ 12 := by
  simp only [game, Bool.and_eq_true] at h
  have := odds_t h.1
  have := inB_t h.2
  omega
def game4 (a b i n : Int) : Bool := odds a b && inB n 1 12 && inB i 0 n
theorem game4_eq (a b i n : Int) : game4 a b i n = (game a b n && inB i 0 n) := rfl
theorem impl_areWeights (a b : Int) (w : World) : Calls Try.prog 92 #[.int .i64 a, .int .i64 b] w fun e w' => e = .returned (.bool (odds a b)) ∧ w = w' := by
  cases h1 : inB a 1 20 <;> cases h2 : inB b 1 20
  all_goals
    go_enter Try.func92, Try.ntmps92
    go_wp2_with (go_at_call 49; refine (impl_within _ _ _ _).mono ?_; rintro e w' ⟨rfl, rfl⟩)
    go_ret
    exact ⟨by simp [odds, h1, h2], rfl⟩
theorem impl_isGame (a b n : Int) (w : World) : Calls Try.prog 48 #[.int .i64 a, .int .i64 b, .int .i64 n] w fun e w' => e = .returned (.bool (game a b n)) ∧ w = w' := by
  cases h1 : odds a b <;> cases h2 : inB n 1 12
  all_goals
    go_enter Try.func48, Try.ntmps48
    go_wp2_with (first | (go_at_call 49; refine (impl_within _ _ _ _).mono ?_; rintro e w' ⟨rfl, rfl⟩) | (go_at_call 92; refine (impl_areWeights _ _ _).mono ?_; rintro e w' ⟨rfl, rfl⟩))
    go_ret
    exact ⟨by simp [game, h1, h2], rfl⟩
theorem spec_l5Odds (a b : Int) (w : World) : Calls Try.prog 94 #[.int .i64 a, .int .i64 b] w fun e w' => e = .returned (.bool (odds a b)) ∧ w = w' := by
  cases h1 : inB a 1 20 <;> cases h2 : inB b 1 20
  all_goals
    go_enter Try.func94, Try.ntmps94
    go_wp2_with (go_at_call 67; refine (spec_l1In _ _ _ _).mono ?_; rintro e w' ⟨rfl, rfl⟩)
    go_ret
    exact ⟨by simp [odds, h1, h2], rfl⟩
theorem spec_l5Game (a b i n : Int) (w : World) : Calls Try.prog 60 #[.int .i64 a, .int .i64 b, .int .i64 i, .int .i64 n] w fun e w' => e = .returned (.bool (game4 a b i n)) ∧ w = w' := by
  cases h1 : odds a b <;> cases h2 : inB n 1 12 <;> cases h3 : inB i 0 n
  all_goals
    go_enter Try.func60, Try.ntmps60
    go_wp2_with (first | (go_at_call 67; refine (spec_l1In _ _ _ _).mono ?_; rintro e w' ⟨rfl, rfl⟩) | (go_at_call 94; refine (spec_l5Odds _ _ _).mono ?_; rintro e w' ⟨rfl, rfl⟩))
    go_ret
    exact ⟨by simp [game4, h1, h2, h3], rfl⟩
end Go.Proofs.Ytbekfpgpeaoifaa
