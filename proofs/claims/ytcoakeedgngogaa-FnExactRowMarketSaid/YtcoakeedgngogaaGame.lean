/- Contracts: are numbers weights, is it a game. Each returns the plain Bool and leaves the world as it is. -/
import Derived.Test.YtcoakeedgngogaaNum
namespace Go.Proofs.Ytcoakeedgngogaa
open Go.RowKit

def odds (a b : Int) : Bool := inB a 1 20 && inB b 1 20
theorem odds_t {a b : Int} (h : odds a b = true) : 1 ≤ a ∧ a ≤ 20 ∧ 1 ≤ b ∧ b ≤ 20 := by
  simp only [odds, Bool.and_eq_true] at h
  have := inB_t h.1
  have := inB_t h.2
  omega
def game (a b n : Int) : Bool := odds a b && inB n 1 12
theorem game_t {a b n : Int} (h : game a b n = true) : 1 ≤ a ∧ a ≤ 20 ∧ 1 ≤ b ∧ b ≤ 20 ∧ 1 ≤ n ∧ n ≤ 12 := by
  simp only [game, Bool.and_eq_true] at h
  have := odds_t h.1
  have := inB_t h.2
  omega
def game4 (a b i n : Int) : Bool := odds a b && inB n 1 12 && inB i 0 n
theorem game4_eq (a b i n : Int) : game4 a b i n = (game a b n && inB i 0 n) := rfl
end Go.Proofs.Ytcoakeedgngogaa
