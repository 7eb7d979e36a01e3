/- Contracts: powers, sums of products of powers, the chance of ruin. -/
import Derived.Test.YtcoakeedgngogaaFrac2
import Derived.Test.YtcoakeedgngogaaPlRu
import Derived.Test.YtcoakeedgngogaaGame
namespace Go.Proofs.Ytcoakeedgngogaa
open Go.RowKit

set_option maxHeartbeats 400000 in
theorem impl_power (a k : Int) (w : World) (ha : 1 ≤ a ∧ a ≤ 20) (hk : 0 ≤ k ∧ k ≤ 12) :
    Calls Try.prog 43 #[.int .i64 a, .int .i64 k] w fun e w' => e = .returned (.int .i64 (powI a k.toNat)) ∧ w = w' := by
  obtain ⟨n, rfl⟩ : ∃ n : Nat, k = n := ⟨k.toNat, by omega⟩
  rw [Int.toNat_natCast]
  go_enter Try.func43, Try.ntmps43
  go_wp2_with fail
  go_loop [5, 7] (fun v5 v7 => ∃ i : Nat, i ≤ n ∧ v7 = .int .i64 i ∧ v5 = .int .i64 (powI a i)) (fun _ v7 => n - (intOf v7).toNat)
  case atStart => exact ⟨0, Nat.zero_le _, rfl, rfl⟩
  case round =>
    obtain ⟨i, hi, rfl, rfl⟩ := hrel
    have hb := powI_bd20 ha.1 ha.2 i (by omega)
    obtain ⟨p, hp⟩ : ∃ p, p = powI a i := ⟨_, rfl⟩
    rw [← hp] at hb ⊢
    have Hp := Lib.hid hp
    clear hp
    by_cases hlt : (i : Int) < n
    · have hm : 0 ≤ p * a ∧ p * a ≤ 4096000000000000 * 20 := ⟨Int.mul_nonneg (by omega) (by omega), Int.mul_le_mul hb.2 ha.2 (by omega) (by omega)⟩
      go_wp2_with fail
      go_round
      case rel => exact ⟨i + 1, by omega, by go_num, by rw [powI_succ, Hp.out]⟩
      case measure => simp [intOf]; omega
    · obtain rfl : i = n := by omega
      go_wp2_with fail
      go_ret
      exact ⟨ri Hp.out, rfl⟩
end Go.Proofs.Ytcoakeedgngogaa
