/- Contract: walks by their returns, by the map. No conditions but those stated. -/
import Derived.Test.YtbekfpgpeaoifaaPlRet
import Derived.Test.YtbekfpgpeaoifaaLead
namespace Go.Proofs.Ytbekfpgpeaoifaa
open Go.RowKit

/-- The first part of a slice of ints that the call owns. -/
theorem Own.part {w : World} {base g n cap : Nat} {xs : List Int} (h : Own w base (.slice (some ⟨g, 0, none⟩) n cap) xs) {j : Nat} (hj : j ≤ xs.length) : Own w base (.slice (some ⟨g, 0, none⟩) j cap) (xs.take j) := by
  unfold Own World.ownsRow at *
  obtain ⟨h1, h2⟩ := h
  have hl : (xs.take j).length = j := by rw [List.length_take]; omega
  refine ⟨by rw [cs_length]; omega, ?_⟩
  rcases h2 with ⟨h3, _⟩ | ⟨g', cap', cur, hv, hb, hh, hc, hm, hs, ht⟩
  · cases h3
  · simp only [Value.slice.injEq] at hv
    obtain ⟨hg, hn, rfl⟩ := hv
    cases hg
    refine .inr ⟨g, cap, cur, by rw [hl], hb, hh, by omega, hm, hs, ?_⟩
    have : cs (xs.take j) = (cs xs).take j := by simp [cs, List.map_take]
    rw [this, ← ht, List.take_take, hl]
    congr 1
    omega
theorem cf_ret (args : Array Value) (W : World) : (callFunc 79 args).run Try.prog W = .ok (.enter 79 args) W := by kernel_rfl
theorem cl_ret (x y : Int) (W : World) : Calls Try.prog 79 (#[.int .i64 x, .int .i64 y] ++ #[]) W fun e w' => e = .returned (.int .i64 (talRet x y)) ∧ W = w' := by
  show Calls Try.prog 79 #[.int .i64 x, .int .i64 y] W _
  by_cases h1 : y = 0
  · have e : talRet x y = 1 := by rw [talRet, if_pos h1]
    have e0 : (y == 0) = true := by simpa using h1
    rw [e]
    clear e h1
    go_enter Try.func79, Try.ntmps79
    go_wp2_with fail
    go_ret
    exact ⟨rfl, rfl⟩
  · have e : talRet x y = 0 := by rw [talRet, if_neg h1]
    have e0 : (y == 0) = false := by simpa using h1
    rw [e]
    clear e h1
    go_enter Try.func79, Try.ntmps79
    go_wp2_with fail
    go_ret
    exact ⟨rfl, rfl⟩
set_option maxRecDepth 100000 in
set_option maxHeartbeats 1000000 in
theorem impl_ReturnCounts (m : Int) (w : World) :
    Calls Try.prog 34 #[.int .i64 m] w fun e w' => ∃ v, e = .returned (.tuple #[v, .bool (evB m)]) ∧ Own w' w.heap.size v (retV m) ∧ Below w.heap.size w w' := by
  cases he : evB m
  · have Hv := Lib.hid (retV_no he)
    have He := Lib.hid he
    clear he
    go_enter Try.func34, Try.ntmps34
    go_wp2_with (go_at_call 77; refine (impl_isEven _ _).mono ?_; rintro e w' ⟨rfl, rfl⟩; rw [He.out])
    go_ret2
    exact ⟨_, rfl, by rw [Hv.out]; exact Own.nil _ _, Below.refl _ _⟩
  · obtain ⟨k, hk, hm⟩ := ev_t he
    have Hv : Hid (retV m = retL k) := Lib.hid (by rw [hm]; rw [hm] at he; exact retV_yes he)
    have He := Lib.hid he
    clear he
    have Hm : Hid (m = 2 * (k : Int)) := Lib.hid (by omega)
    have HT : Hid (∀ W : World, Calls Try.prog 78 #[.int .i64 m, .func (.func 79) #[] #[]] W fun e w' => ∃ v, e = .returned v ∧ Own w' W.heap.size v (allL talRet (2 * k)) ∧ Below W.heap.size W w') := Lib.hid fun W => by
      rw [hm]
      exact impl_tallied (2 * k) _ _ talRet tal_ret W (by omega) cf_ret (fun x y W => cl_ret x y W)
    clear hm
    have hm0 : 0 ≤ m ∧ m ≤ 30 := by have := Hm.out; omega
    have hq : m.tdiv 2 = (k : Int) := by rw [Hm.out, Int.tdiv_eq_ediv_of_nonneg (by omega)]; omega
    have k0 : ¬ (2 : Int) = 0 := by omega
    have Hall : Hid ((allL talRet (2 * k)).length = 2 * k + 1) := Lib.hid (by simp [allL])
    have Htk := Lib.hid (allL_take k)
    go_enter Try.func34, Try.ntmps34
    go_wp2_with (first
      | (go_at_call 77; refine (impl_isEven _ _).mono ?_; rintro e w' ⟨rfl, rfl⟩; rw [He.out])
      | (go_at_call 78; refine (HT.out _).mono ?_; rintro e w1 ⟨v1, rfl, ho1, hb1⟩; obtain ⟨gA, cA, hv1, hgA⟩ := ho1.form (by rw [Hall.out]; omega); rw [Hall.out] at hv1; subst hv1; have hcap := ho1.cap; have hck : (k : Int) + 1 ≤ (cA : Int) := by omega))
    have hp := ho1.part (j := k + 1) (by rw [Hall.out]; omega)
    rw [Htk.out] at hp
    go_ret2
    exact ⟨_, rfl, by rw [Hv.out]; exact hp, hb1⟩
end Go.Proofs.Ytbekfpgpeaoifaa
