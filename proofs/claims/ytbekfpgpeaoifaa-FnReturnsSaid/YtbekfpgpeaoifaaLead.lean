/- Contracts: the numbers of walks by their steps above 0, by the reference. No conditions but those stated. -/
import Derived.Test.YtbekfpgpeaoifaaPaths
import Derived.Test.YtbekfpgpeaoifaaB2
namespace Go.Proofs.Ytbekfpgpeaoifaa
open Go.RowKit

/-- Is this an even number of steps? -/
def evB (m : Int) : Bool := inB m 0 30 && (m % 2 == 0)
/-- The numbers of walks of 2k steps by their steps above 0. -/
def leadL (k : Nat) : List Int := (List.range (k + 1)).map fun r => paths (2 * r) 0 * paths (2 * k - 2 * r) 0
def leadV (m : Int) : List Int := if evB m then leadL (m.toNat / 2) else []
theorem ev_t {m : Int} (h : evB m = true) : ∃ k : Nat, k ≤ 15 ∧ m = ((2 * k : Nat) : Int) := by
  simp only [evB, Bool.and_eq_true, beq_iff_eq] at h
  have h1 := inB_t h.1
  obtain ⟨n, rfl⟩ : ∃ n : Nat, m = n := ⟨m.toNat, by omega⟩
  have h3 := h.2
  exact ⟨n / 2, by omega, by omega⟩
theorem leadV_no {m : Int} (h : evB m = false) : leadV m = [] := by rw [leadV, h]; rfl
theorem leadV_yes {k : Nat} (h : evB ((2 * k : Nat) : Int) = true) : leadV ((2 * k : Nat) : Int) = leadL k := by
  rw [leadV, h]
  simp only [if_true]
  congr 1
  omega
theorem leadL_length (k : Nat) : (leadL k).length = k + 1 := by simp [leadL]
theorem leadL_take {k r : Nat} (h : r < k + 1) : (leadL k).take (r + 1) = (leadL k).take r ++ [paths (2 * r) 0 * paths (2 * k - 2 * r) 0] := by
  rw [take_succ_nth (by rw [leadL_length]; exact h), leadL, nth_map_range h]
theorem lead_bd : ∀ r, r ≤ 15 → 0 ≤ paths (2 * r) 0 ∧ paths (2 * r) 0 ≤ 155117520 := by
  have h : ((List.range 16).all fun r => decide (0 ≤ paths (2 * r) 0 ∧ paths (2 * r) 0 ≤ 155117520)) = true := by decide +kernel
  intro r hr
  exact of_decide_eq_true (List.all_eq_true.1 h r (List.mem_range.2 (by omega)))
theorem lead_prod {k r : Nat} (hk : k ≤ 15) (hr : r ≤ k) : 0 ≤ paths (2 * r) 0 * paths (2 * k - 2 * r) 0 ∧ paths (2 * r) 0 * paths (2 * k - 2 * r) 0 ≤ 155117520 * 155117520 := by
  have h1 := lead_bd r (by omega)
  have h2 := lead_bd (k - r) (by omega)
  rw [show 2 * (k - r) = 2 * k - 2 * r by omega] at h2
  exact ⟨Int.mul_nonneg h1.1 h2.1, Int.mul_le_mul h1.2 h2.2 h2.1 (by omega)⟩
theorem spec_l5Even (m : Int) (w : World) :
    Calls Try.prog 80 #[.int .i64 m] w fun e w' => e = .returned (.bool (evB m)) ∧ w = w' := by
  have hev : evB m = (inB m 0 30 && (m % 2 == 0)) := rfl
  rw [hev]
  clear hev
  cases h1 : inB m 0 30
  · go_enter Try.func80, Try.ntmps80
    go_wp2_with (go_at_call 67; refine (spec_l1In _ _ _ _).mono ?_; rintro e w' ⟨rfl, rfl⟩; rw [h1])
    go_ret
    exact ⟨rfl, rfl⟩
  · have hb := inB_t h1
    have k1 : IntKind.i64.wrap (m % 2) = m % 2 := IntWalk.i64_in _ (by omega)
    go_enter Try.func80, Try.ntmps80
    go_wp2_with (go_at_call 67; refine (spec_l1In _ _ _ _).mono ?_; rintro e w' ⟨rfl, rfl⟩; rw [h1])
    go_ret
    exact ⟨rfl, rfl⟩
theorem impl_isEven (m : Int) (w : World) :
    Calls Try.prog 77 #[.int .i64 m] w fun e w' => e = .returned (.bool (evB m)) ∧ w = w' := by
  have hev : evB m = (inB m 0 30 && (m % 2 == 0)) := rfl
  rw [hev]
  clear hev
  cases h1 : inB m 0 30
  · go_enter Try.func77, Try.ntmps77
    go_wp2_with (go_at_call 49; refine (impl_within _ _ _ _).mono ?_; rintro e w' ⟨rfl, rfl⟩; rw [h1])
    go_ret
    exact ⟨rfl, rfl⟩
  · have hb := inB_t h1
    have k1 : IntKind.i64.wrap (m % 2) = m % 2 := IntWalk.i64_in _ (by omega)
    go_enter Try.func77, Try.ntmps77
    go_wp2_with (go_at_call 49; refine (impl_within _ _ _ _).mono ?_; rintro e w' ⟨rfl, rfl⟩; rw [h1])
    go_ret
    exact ⟨rfl, rfl⟩
set_option maxRecDepth 100000 in
set_option maxHeartbeats 1000000 in
theorem spec_LeadCounts (m : Int) (w : World) :
    Calls Try.prog 37 #[.int .i64 m] w fun e w' => ∃ v, e = .returned (.tuple #[v, .bool (evB m)]) ∧ Own w' w.heap.size v (leadV m) ∧ Below w.heap.size w w' := by
  have hnil := own_nil0 w
  have hb0 := below_new w (.cells #[] 3)
  cases he : evB m
  · have Hv := Lib.hid (leadV_no he)
    have He := Lib.hid he
    clear he
    go_enter Try.func37, Try.ntmps37
    go_wp2_with (go_at_call 80; refine (spec_l5Even _ _).mono ?_; rintro e w' ⟨rfl, rfl⟩; rw [He.out])
    go_ret2
    exact ⟨_, rfl, by rw [Hv.out]; exact hnil, hb0⟩
  · obtain ⟨k, hk, hm⟩ := ev_t he
    have Hv : Hid (leadV m = leadL k) := Lib.hid (by rw [hm]; rw [hm] at he; exact leadV_yes he)
    have He := Lib.hid he
    have Hm : Hid (m = 2 * (k : Int)) := Lib.hid (by omega)
    have hm0 : 0 ≤ m ∧ m ≤ 30 := by omega
    clear he hm
    obtain ⟨P, hP⟩ : ∃ P : Int → Int, ∀ x, P x = paths x.toNat 0 := ⟨_, fun _ => rfl⟩
    have HP := Lib.hid hP
    clear hP
    have HcP : Hid (∀ (x : Int) (W : World), 0 ≤ x → x ≤ 30 → Calls Try.prog 68 #[.int .i64 x, .int .i64 0] W fun e w' => e = .returned (.int .i64 (P x)) ∧ W = w') := Lib.hid fun x W h0 h1 => by rw [HP.out]; exact spec_l5Paths x 0 W h0 h1
    go_enter Try.func37, Try.ntmps37
    go_wp2_with fail
    generalize w.alloc (.cells #[] 3) = w2 at *
    refine (spec_l5Even _ _).mono ?_
    rintro e w' ⟨rfl, rfl⟩
    rw [He.out]
    go_wp2_with fail
    go_loopw [4, 5] (fun v4 v5 wr => ∃ r : Nat, r ≤ k + 1 ∧ v5 = .int .i64 (r : Int) ∧ Own wr w.heap.size v4 ((leadL k).take r) ∧ Below w.heap.size w wr) (fun _ v5 _ => k + 1 - (intOf v5).toNat)
    case atStart => exact ⟨0, Nat.zero_le _, rfl, by rw [List.take_zero]; exact hnil, hb0⟩
    case round =>
      clear hnil hb0
      obtain ⟨r, hr, rfl, hown, hbel⟩ := hrel
      have k1 : IntKind.i64.wrap (2 * (r : Int)) = 2 * (r : Int) := IntWalk.i64_in _ (by omega)
      by_cases hlt : 2 * (r : Int) ≤ m
      · have hrk : r ≤ k := by have := Hm.out; omega
        have Hf := Lib.hid (leadL_take (k := k) (r := r) (by omega))
        have hl : ((leadL k).take r).length ≤ 24 := by rw [List.length_take]; omega
        have hp := lead_prod hk hrk
        have k2 : IntKind.i64.wrap (m - 2 * (r : Int)) = m - 2 * (r : Int) := IntWalk.i64_in _ (by omega)
        have h1 : P (2 * (r : Int)) = paths (2 * r) 0 := by rw [HP.out, show (2 * (r : Int)).toNat = 2 * r by omega]
        have h2 : P (m - 2 * (r : Int)) = paths (2 * k - 2 * r) 0 := by rw [HP.out, show (m - 2 * (r : Int)).toNat = 2 * k - 2 * r by have := Hm.out; omega]
        rw [← h1, ← h2] at Hf hp
        clear h1 h2
        have k3 : IntKind.i64.wrap (P (2 * (r : Int)) * P (m - 2 * (r : Int))) = P (2 * (r : Int)) * P (m - 2 * (r : Int)) := IntWalk.i64_in _ (by omega)
        generalize (leadL k).take r = acc at *
        have hsz := hbel.size
        go_wp2_with (first
          | (go_at_call 68; refine (HcP.out _ _ (by omega) (by omega)).mono ?_; rintro e w' ⟨rfl, rfl⟩)
          | (at_builtin; refine wp_push _ _ rfl rfl w.heap.size _ _ rfl hown rfl (by omega) hsz ?_; intro v' w' ho hb))
        go_roundw
        case rel => exact ⟨r + 1, by omega, by go_num, by rw [Hf.out]; exact ho, hbel.trans hb⟩
        case measure => simp [intOf]; omega
      · obtain rfl : r = k + 1 := by have := Hm.out; omega
        rw [List.take_of_length_le (by rw [leadL_length]; exact Nat.le_refl _)] at hown
        go_wp2_with fail
        go_ret2
        exact ⟨_, rfl, by rw [Hv.out]; exact hown, hbel⟩
end Go.Proofs.Ytbekfpgpeaoifaa
