/- Contracts: powers, sums of products of powers, the chance of ruin. -/
import Derived.Test.YtbekfpgpeaoifaaFrac2
import Derived.Test.YtbekfpgpeaoifaaPlRu
import Derived.Test.YtbekfpgpeaoifaaGame
namespace Go.Proofs.Ytbekfpgpeaoifaa
open Go.RowKit

set_option maxHeartbeats 400000 in
theorem impl_power (a k : Int) (w : World) (ha : 1 ≤ a ∧ a ≤ 20) (hk : 0 ≤ k ∧ k ≤ 12) :
    Calls Try.prog 98 #[.int .i64 a, .int .i64 k] w fun e w' => e = .returned (.int .i64 (powI a k.toNat)) ∧ w = w' := by
  obtain ⟨n, rfl⟩ : ∃ n : Nat, k = n := ⟨k.toNat, by omega⟩
  rw [Int.toNat_natCast]
  go_enter Try.func98, Try.ntmps98
  go_wp2_with fail
  go_loop [5, 7] (fun v5 v7 => ∃ i : Nat, i ≤ n ∧ v7 = .int .i64 i ∧ v5 = .int .i64 (powI a i)) (fun _ v7 => n - (intOf v7).toNat)
  case atStart => exact ⟨0, Nat.zero_le _, rfl, rfl⟩
  case round =>
    obtain ⟨i, hi, rfl, rfl⟩ := hrel
    have hb := powI_bd20 ha.1 ha.2 i (by omega)
    obtain ⟨p, hp⟩ : ∃ p, p = powI a i := ⟨_, rfl⟩
    rw [← hp] at hb ⊢
    have Hp := Lib.hid hp
    clear hp
    by_cases hlt : (i : Int) < n
    · have hm : 0 ≤ p * a ∧ p * a ≤ 4096000000000000 * 20 := ⟨Int.mul_nonneg (by omega) (by omega), Int.mul_le_mul hb.2 ha.2 (by omega) (by omega)⟩
      go_wp2_with fail
      go_round
      case rel => exact ⟨i + 1, by omega, by go_num, by rw [powI_succ, Hp.out]⟩
      case measure => simp [intOf]; omega
    · obtain rfl : i = n := by omega
      go_wp2_with fail
      go_ret
      exact ⟨ri Hp.out, rfl⟩
set_option maxHeartbeats 400000 in
theorem spec_l5Power (a k : Int) (w : World) (ha : 1 ≤ a ∧ a ≤ 20) (hk : 0 ≤ k ∧ k ≤ 12) :
    Calls Try.prog 100 #[.int .i64 a, .int .i64 k] w fun e w' => e = .returned (.int .i64 (powI a k.toNat)) ∧ w = w' := by
  obtain ⟨n, rfl⟩ : ∃ n : Nat, k = n := ⟨k.toNat, by omega⟩
  rw [Int.toNat_natCast]
  go_enter Try.func100, Try.ntmps100
  go_wp2_with fail
  go_loop [5, 6] (fun v5 v7 => ∃ i : Nat, i ≤ n ∧ v7 = .int .i64 i ∧ v5 = .int .i64 (powI a i)) (fun _ v7 => n - (intOf v7).toNat)
  case atStart => exact ⟨0, Nat.zero_le _, rfl, rfl⟩
  case round =>
    obtain ⟨i, hi, rfl, rfl⟩ := hrel
    have hb := powI_bd20 ha.1 ha.2 i (by omega)
    obtain ⟨p, hp⟩ : ∃ p, p = powI a i := ⟨_, rfl⟩
    rw [← hp] at hb ⊢
    have Hp := Lib.hid hp
    clear hp
    by_cases hlt : (i : Int) < n
    · have hm : 0 ≤ p * a ∧ p * a ≤ 4096000000000000 * 20 := ⟨Int.mul_nonneg (by omega) (by omega), Int.mul_le_mul hb.2 ha.2 (by omega) (by omega)⟩
      go_wp2_with fail
      go_round
      case rel => exact ⟨i + 1, by omega, by go_num, by rw [powI_succ, Hp.out]⟩
      case measure => simp [intOf]; omega
    · obtain rfl : i = n := by omega
      go_wp2_with fail
      go_ret
      exact ⟨ri Hp.out, rfl⟩
set_option maxHeartbeats 1000000 in
theorem spec_l5Terms (a b k : Int) (w : World) (ha : 1 ≤ a ∧ a ≤ 20) (hb : 1 ≤ b ∧ b ≤ 20) (hk : 0 ≤ k ∧ k ≤ 12) :
    Calls Try.prog 101 #[.int .i64 a, .int .i64 b, .int .i64 k] w fun e w' => e = .returned (.int .i64 (termS a b k.toNat k.toNat)) ∧ w = w' := by
  obtain ⟨n, rfl⟩ : ∃ n : Nat, k = n := ⟨k.toNat, by omega⟩
  rw [Int.toNat_natCast]
  go_enter Try.func101, Try.ntmps101
  go_wp2_with fail
  go_loop [7, 8] (fun v5 v7 => ∃ i : Nat, i ≤ n ∧ v7 = .int .i64 i ∧ v5 = .int .i64 (termS a b n i)) (fun _ v7 => n - (intOf v7).toNat)
  case atStart => exact ⟨0, Nat.zero_le _, rfl, rfl⟩
  case round =>
    obtain ⟨i, hi, rfl, rfl⟩ := hrel
    have hs := termS_bd12 ha hb n i hi (by omega)
    obtain ⟨p, hp⟩ : ∃ p, p = termS a b n i := ⟨_, rfl⟩
    rw [← hp] at hs ⊢
    have Hp := Lib.hid hp
    clear hp
    by_cases hlt : (i : Int) < n
    · have hm := prod_bd20 ha hb i (n - 1 - i)
      have hm2 := pow20 (i + (n - 1 - i)) (by omega)
      have hx : (i : Int).toNat = i := by omega
      have hy : ((n : Int) - 1 - i).toNat = n - 1 - i := by omega
      have Hx := Lib.hid hx
      have Hy := Lib.hid hy
      clear hx hy
      have hm3 : 1 ≤ powI a i * powI b (n - 1 - i) ∧ powI a i * powI b (n - 1 - i) ≤ 4096000000000000 := by omega
      clear hm hm2
      obtain ⟨u, hu⟩ : ∃ u, u = powI a i := ⟨_, rfl⟩
      obtain ⟨v, hv⟩ : ∃ v, v = powI b (n - 1 - i) := ⟨_, rfl⟩
      rw [← hu, ← hv] at hm3
      have Hu := Lib.hid hu
      have Hv := Lib.hid hv
      clear hu hv
      go_wp2_with fail
      refine (spec_l5Power _ _ _ ha (by omega)).mono ?_
      rintro e w' ⟨rfl, rfl⟩
      rw [Hx.out, ← Hu.out]
      go_wp2_with fail
      refine (spec_l5Power _ _ _ hb (by omega)).mono ?_
      rintro e w' ⟨rfl, rfl⟩
      rw [Hy.out, ← Hv.out]
      go_wp2_with fail
      go_round
      case rel => exact ⟨i + 1, by omega, by go_num, by rw [termS, Hp.out, Hu.out, Hv.out]⟩
      case measure => simp [intOf]; omega
    · obtain rfl : i = n := by omega
      go_wp2_with fail
      go_ret
      exact ⟨ri Hp.out, rfl⟩
set_option maxHeartbeats 1000000 in
theorem impl_ruin (a b i n : Int) (w : World) (ha : 1 ≤ a ∧ a ≤ 20) (hb : 1 ≤ b ∧ b ≤ 20) (hi : 0 ≤ i ∧ i ≤ n) (hn : 1 ≤ n ∧ n ≤ 12) :
    Calls Try.prog 86 #[.int .i64 a, .int .i64 b, .int .i64 i, .int .i64 n] w fun e w' => e = .returned (.tuple #[.int .i64 (ruT a b i.toNat n.toNat), .int .i64 (ruB a b n.toNat)]) ∧ w = w' := by
  by_cases he : a = b
  · subst he
    go_enter Try.func86, Try.ntmps86
    go_wp2_with fail
    go_ret2
    refine ⟨?_, rfl⟩
    rw [ruT, ruB, if_pos rfl, if_pos rfl, show ((i.toNat : Nat) : Int) = i by omega, show ((n.toNat : Nat) : Int) = n by omega]; rfl
  · have he2 : (a == b) = false := by simpa using he
    have hT := ruT_bd ha hb i.toNat n.toNat (by omega) (by omega)
    have hB := ruB_bd ha hb n.toNat (by omega)
    unfold ruT at hT ⊢
    unfold ruB at hB ⊢
    rw [if_neg he] at hT hB
    rw [if_neg he, if_neg he]
    have e1 : (n - i).toNat = n.toNat - i.toNat := by omega
    have b1 := powI_bd20 ha.1 ha.2 i.toNat (by omega)
    have b2 := powI_bd20 hb.1 hb.2 i.toNat (by omega)
    have b3 := powI_bd20 ha.1 ha.2 n.toNat (by omega)
    have b4 := powI_bd20 hb.1 hb.2 n.toNat (by omega)
    have b5 := powI_bd20 ha.1 ha.2 (n.toNat - i.toNat) (by omega)
    have E1 := Lib.hid e1
    clear e1 he
    go_enter Try.func86, Try.ntmps86
    go_wp2_with fail
    refine (impl_power _ _ _ ha (by omega)).mono ?_
    rintro e w' ⟨rfl, rfl⟩
    rw [E1.out]
    go_wp2_with (go_at_call 98; refine (impl_power _ _ _ (by omega) (by omega)).mono ?_; rintro e w' ⟨rfl, rfl⟩)
    go_ret2
    exact ⟨rfl, rfl⟩
end Go.Proofs.Ytbekfpgpeaoifaa
