/- Contract: the numbers of walks by their steps above 0, by the map. No conditions but those stated. -/
import Derived.Test.YtbekfpgpeaoifaaLead
import Derived.Test.YtbekfpgpeaoifaaTally
namespace Go.Proofs.Ytbekfpgpeaoifaa
open Go.RowKit

theorem cf_lead (args : Array Value) (W : World) : (callFunc 82 args).run Try.prog W = .ok (.enter 82 args) W := by kernel_rfl
theorem cl_lead (x y : Int) (W : World) : Calls Try.prog 82 (#[.int .i64 x, .int .i64 y] ++ #[]) W fun e w' => e = .returned (.int .i64 (talLead x y)) ∧ W = w' := by
  show Calls Try.prog 82 #[.int .i64 x, .int .i64 y] W _
  by_cases h1 : 0 < x
  · have e : talLead x y = 1 := by rw [talLead, if_pos (Or.inl h1)]
    rw [e]
    clear e
    go_enter Try.func82, Try.ntmps82
    go_wp2_with fail
    go_ret
    exact ⟨rfl, rfl⟩
  · by_cases h2 : 0 < y
    · have e : talLead x y = 1 := by rw [talLead, if_pos (Or.inr h2)]
      rw [e]
      clear e
      go_enter Try.func82, Try.ntmps82
      go_wp2_with fail
      go_ret
      exact ⟨rfl, rfl⟩
    · have e : talLead x y = 0 := by rw [talLead, if_neg (by omega)]
      rw [e]
      clear e
      go_enter Try.func82, Try.ntmps82
      go_wp2_with fail
      go_ret
      exact ⟨rfl, rfl⟩
set_option maxRecDepth 100000 in
set_option maxHeartbeats 1000000 in
theorem impl_LeadCounts (m : Int) (w : World) :
    Calls Try.prog 36 #[.int .i64 m] w fun e w' => ∃ v, e = .returned (.tuple #[v, .bool (evB m)]) ∧ Own w' w.heap.size v (leadV m) ∧ Below w.heap.size w w' := by
  cases he : evB m
  · have Hv := Lib.hid (leadV_no he)
    have He := Lib.hid he
    clear he
    go_enter Try.func36, Try.ntmps36
    go_wp2_with (go_at_call 77; refine (impl_isEven _ _).mono ?_; rintro e w' ⟨rfl, rfl⟩; rw [He.out])
    go_ret2
    exact ⟨_, rfl, by rw [Hv.out]; exact Own.nil _ _, Below.refl _ _⟩
  · obtain ⟨k, hk, hm⟩ := ev_t he
    have Hv : Hid (leadV m = leadL k) := Lib.hid (by rw [hm]; rw [hm] at he; exact leadV_yes he)
    have He := Lib.hid he
    clear he
    have Hm : Hid (m = 2 * (k : Int)) := Lib.hid (by omega)
    have HT : Hid (∀ W : World, Calls Try.prog 78 #[.int .i64 m, .func (.func 82) #[] #[]] W fun e w' => ∃ v, e = .returned v ∧ Own w' W.heap.size v (allL talLead (2 * k)) ∧ Below W.heap.size W w') := Lib.hid fun W => by
      rw [hm]
      exact impl_tallied (2 * k) _ _ talLead tal_lead W (by omega) cf_lead (fun x y W => cl_lead x y W)
    clear hm
    have hm0 : 0 ≤ m ∧ m ≤ 30 := by have := Hm.out; omega
    have Hal : Hid (∀ r, r ≤ k → nth (allL talLead (2 * k)) (2 * r) = paths (2 * r) 0 * paths (2 * k - 2 * r) 0) := Lib.hid fun r hr => by
      rw [allL, nth_map_range (by omega)]
      exact lead_eq hk hr
    have Hall : Hid ((allL talLead (2 * k)).length = 2 * k + 1) := Lib.hid (by simp [allL])
    go_enter Try.func36, Try.ntmps36
    go_wp2_with (first
      | (go_at_call 77; refine (impl_isEven _ _).mono ?_; rintro e w' ⟨rfl, rfl⟩; rw [He.out])
      | (go_at_call 78; refine (HT.out _).mono ?_; rintro e w1 ⟨v1, rfl, ho1, hb1⟩))
    generalize allL talLead (2 * k) = al at *
    have hnil := own_nil0 w1
    have hbn := below_new w1 (.cells #[] 3)
    obtain ⟨gA, cA, hv1, hgA⟩ := ho1.form (by rw [Hall.out]; omega)
    rw [Hall.out] at hv1
    subst hv1
    have HoA := Lib.hid ho1
    clear ho1
    generalize hw2 : w1.alloc (.cells #[] 3) = w2 at *
    clear hw2
    go_loopw [5, 6] (fun v5 v6 wr => ∃ r : Nat, r ≤ k + 1 ∧ v6 = .int .i64 (2 * (r : Int)) ∧ Own wr w1.heap.size v5 ((leadL k).take r) ∧ Below w1.heap.size w1 wr) (fun _ v6 _ => 2 * k + 2 - (intOf v6).toNat)
    case atStart => exact ⟨0, Nat.zero_le _, rfl, by rw [List.take_zero]; exact hnil, hbn⟩
    case round =>
      clear hnil hbn
      obtain ⟨r, hr, rfl, hown, hbel⟩ := hrel
      obtain ⟨wo, rfl⟩ : ∃ wo : World, wo = wr := ⟨_, rfl⟩
      by_cases hlt : 2 * (r : Int) ≤ m
      · have hrk : r ≤ k := by have := Hm.out; omega
        have Hf := Lib.hid (leadL_take (k := k) (r := r) (by omega))
        have hl : ((leadL k).take r).length ≤ 24 := by rw [List.length_take]; omega
        have hc := (HoA.out.below hbel).cell (i := 2 * r) (by rw [Hall.out]; omega)
        rw [Hal.out r hrk] at hc
        have k1 : (2 * (r : Int)).toNat = 2 * r := by omega
        have k2 : 2 * (r : Int) < 2 * (k : Int) + 1 := by omega
        have k3 : 2 * (r : Int) < ((2 * k + 1 : Nat) : Int) := by omega
        generalize paths (2 * r) 0 * paths (2 * k - 2 * r) 0 = u at *
        generalize (leadL k).take r = acc at *
        have hsz := hbel.size
        go_wp2_with (at_builtin; refine wp_push _ _ rfl rfl w1.heap.size _ _ rfl hown rfl (by omega) hsz ?_; intro v' w' ho hb)
        go_roundw
        case rel => exact ⟨r + 1, by omega, by go_num, by rw [Hf.out]; exact ho, hbel.trans hb⟩
        case measure => simp [intOf]; omega
      · obtain rfl : r = k + 1 := by have := Hm.out; omega
        rw [List.take_of_length_le (by rw [leadL_length]; exact Nat.le_refl _)] at hown
        go_wp2_with fail
        go_ret2
        exact ⟨_, rfl, by rw [Hv.out]; exact hown.mono hb1.size, hb1.trans (hbel.mono hb1.size)⟩
end Go.Proofs.Ytbekfpgpeaoifaa
