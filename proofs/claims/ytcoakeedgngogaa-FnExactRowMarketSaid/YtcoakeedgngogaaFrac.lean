/- Contracts on fractions: greatest common divisors, lowest terms, of the program and of the reference. -/
import Derived.Test.YtcoakeedgngogaaPlF
import Derived.Deep.QuietTactic
import Derived.BigQuiet
import Derived.WalkSmall
import Derived.StillTailTactics
import Derived.Deep.Draws
namespace Go.Proofs.Ytcoakeedgngogaa
open Go.RowKit

/-- A contract that leaves the world as it is, inside a quiet region. -/
theorem quietL {f : FuncId} {args : Array Value} {w : World} {n : Nat} {v : Value}
    (h : Calls Try.prog f args (w.drewN n) fun e w' => e = .returned v ∧ w.drewN n = w') : Calls Try.prog f args (w.drewN n) fun e w'' => e = .returned v ∧ ∃ m, w'' = w.drewN m :=
  h.mono fun _ _ ⟨he, hm⟩ => ⟨he, n, hm.symm⟩

set_option maxRecDepth 100000 in
set_option maxHeartbeats 400000 in
theorem impl_commonDivisor (a b : Int) (w : World) (ha : -4611686018427387904 ≤ a ∧ a ≤ 4611686018427387904) (hb : -4611686018427387904 ≤ b ∧ b ≤ 4611686018427387904) :
    Calls Try.prog 65 #[.int .i64 a, .int .i64 b] w fun e w' => e = .returned (.int .i64 (gcdI a b)) ∧ ∃ n, w' = w.drewN n := by
  go_enter Try.func65, Try.ntmps65
  go_wp2_with fail
  go_loopw [0, 1] (fun v0 v1 wr => ∃ x y : Int, v0 = .int .i64 x ∧ v1 = .int .i64 y ∧ gcdI x y = gcdI a b ∧ (-4611686018427387904 ≤ x ∧ x ≤ 4611686018427387904) ∧ (-4611686018427387904 ≤ y ∧ y ≤ 4611686018427387904) ∧ ∃ n, wr = w.drewN n) (fun _ v1 _ => (intOf v1).natAbs)
  case atStart => exact ⟨a, b, rfl, rfl, rfl, ha, hb, 0, rfl⟩
  case round =>
    obtain ⟨x, y, rfl, rfl, hg, hx, hy, n, rfl⟩ := hrel
    have Hg := Lib.hid hg
    clear hg
    by_cases h0 : y = 0
    · subst h0
      go_wp2_with fail
      all_goals go_ret
      all_goals exact ⟨ri (by rw [← Hg.out, gcdI_zero]; omega), _, rfl⟩
    · have h1 : (y != 0) = true := by simpa using h0
      have h2 : (y == 0) = false := by simpa using h0
      have ht : -4611686018427387904 ≤ x.tmod y ∧ x.tmod y ≤ 4611686018427387904 ∧ (x.tmod y).natAbs < y.natAbs := by
        have e := Int.natAbs_tmod x y
        have := Nat.mod_lt x.natAbs (show 0 < y.natAbs by omega)
        omega
      go_wp2_with fail
      go_quiet (fail)
      go_wp2_with fail
      exact ⟨⟨_, _, rfl, rfl, by rw [gcdI_step, Hg.out], hy, by omega, _, World.drewN_drewN _ _ _⟩, ht.2.2⟩

set_option maxRecDepth 100000 in
set_option maxHeartbeats 400000 in
theorem spec_l2Gcd (a b : Int) (w : World) (ha : 0 ≤ a ∧ a ≤ 4611686018427387904) (hb : 0 ≤ b ∧ b ≤ 4611686018427387904) :
    Calls Try.prog 63 #[.int .i64 a, .int .i64 b] w fun e w' => e = .returned (.int .i64 (gcdI a b)) ∧ ∃ n, w' = w.drewN n := by
  go_enter Try.func63, Try.ntmps63
  go_wp2_with fail
  go_loopw [0, 1] (fun v0 v1 wr => ∃ x y : Int, v0 = .int .i64 x ∧ v1 = .int .i64 y ∧ gcdI x y = gcdI a b ∧ (0 ≤ x ∧ x ≤ 4611686018427387904) ∧ (0 ≤ y ∧ y ≤ 4611686018427387904) ∧ ∃ n, wr = w.drewN n) (fun _ v1 _ => (intOf v1).natAbs)
  case atStart => exact ⟨a, b, rfl, rfl, rfl, ha, hb, 0, rfl⟩
  case round =>
    obtain ⟨x, y, rfl, rfl, hg, hx, hy, n, rfl⟩ := hrel
    have Hg := Lib.hid hg
    clear hg
    by_cases h0 : 0 < y
    · have h2 : (y == 0) = false := by rw [beq_eq_false_iff_ne]; omega
      have ht := gcdI_step x y
      rw [Int.tmod_eq_emod_of_nonneg hx.1] at ht
      have ht2 := Int.emod_lt_of_pos x h0
      have ht3 := Int.emod_nonneg x (show y ≠ 0 by omega)
      have Ht := Lib.hid ht
      clear ht
      go_wp2_with fail
      go_quiet (fail)
      go_wp2_with fail
      exact ⟨⟨_, _, rfl, rfl, by rw [Ht.out, Hg.out], hy, by omega, _, World.drewN_drewN _ _ _⟩, by simp only [intOf]; omega⟩
    · obtain rfl : y = 0 := by omega
      go_wp2_with fail
      go_ret
      exact ⟨ri (by rw [← Hg.out, gcdI_zero]; omega), _, rfl⟩

theorem spec_l2Abs (a : Int) (w : World) (ha : -9223372036854775807 ≤ a ∧ a ≤ 9223372036854775807) :
    Calls Try.prog 64 #[.int .i64 a] w fun e w' => e = .returned (.int .i64 (most a (-a))) ∧ w = w' := by
  go_enter Try.func64, Try.ntmps64
  go_wp2_with (go_at_call 36; refine (spec_l1Most _ _ _).mono ?_; rintro e w' ⟨rfl, rfl⟩)
  go_ret
  exact ⟨rfl, rfl⟩

set_option maxRecDepth 100000 in
set_option maxHeartbeats 400000 in
theorem spec_l2Cut (a b : Int) (w : World) (ha : -4611686018427387904 ≤ a ∧ a ≤ 4611686018427387904) (hb : 1 ≤ b ∧ b ≤ 4611686018427387904) :
    Calls Try.prog 39 #[.int .i64 a, .int .i64 b] w fun e w' => e = .returned (.agg #[.int .i64 (nm a b), .int .i64 (dn a b)]) ∧ Below w.heap.size w w' := by
  have hg1 := gcdI_pos (a := a) (show b ≠ 0 by omega)
  have hg2 := gcdI_le_r (a := a) (show b ≠ 0 by omega)
  have hd1 := Lib.hid (gcdI_dvd_l a b)
  have hd2 := Lib.hid (gcdI_dvd_r a b)
  have he := gcdI_abs a b
  have ha2 : 0 ≤ most a (-a) ∧ most a (-a) ≤ 4611686018427387904 := by unfold most; omega
  have Hg : Hid (∀ W : World, Calls Try.prog 63 #[.int .i64 (most a (-a)), .int .i64 b] W fun e w' => e = .returned (.int .i64 (gcdI a b)) ∧ ∃ n, w' = W.drewN n) := Lib.hid fun W => by rw [← he]; exact spec_l2Gcd _ _ W ha2 (by omega)
  have hnm : nm a b = a.tdiv (gcdI a b) ∧ dn a b = b.tdiv (gcdI a b) := by
    unfold nm dn
    rw [if_neg (by omega), if_neg (by omega)]
    exact ⟨(Int.tdiv_eq_ediv_of_dvd hd1.out).symm, (Int.tdiv_eq_ediv_of_dvd hd2.out).symm⟩
  have hbd := quot_bd a b (by omega) ha hb
  obtain ⟨nmv, hnv⟩ : ∃ x, x = nm a b := ⟨_, rfl⟩
  obtain ⟨dnv, hdv⟩ : ∃ x, x = dn a b := ⟨_, rfl⟩
  rw [← hnv, ← hdv] at hnm hbd ⊢
  have hdn : Hid (b.tdiv (gcdI a b) = dnv) := Lib.hid hnm.2.symm
  replace hnm : Hid (a.tdiv (gcdI a b) = nmv) := Lib.hid hnm.1.symm
  clear hnv hdv
  generalize gcdI a b = g at *
  clear he ha2 hd1 hd2
  go_enter Try.func39, Try.ntmps39
  go_wp2_with (first | (go_at_call 64; refine (spec_l2Abs _ _ (by omega)).mono ?_; rintro e w' ⟨rfl, rfl⟩) | (go_at_call 63; refine (Hg.out _).mono ?_; rintro e w1 ⟨rfl, n1, rfl⟩))
  have hq0 : ¬ g = 0 := by omega
  have hq1 : a.tdiv g = nmv := hnm.out
  have hq2 : b.tdiv g = dnv := hdn.out
  have hw1 : IntKind.i64.wrap nmv = nmv := IntWalk.i64_in _ (by omega)
  have hw2 : IntKind.i64.wrap dnv = dnv := IntWalk.i64_in _ (by omega)
  have hc0 : ((w.alloc (.cells #[.int .i64 0, .int .i64 0] 24)).drewN n1).cell? ⟨w.heap.size, 0, none⟩ = some (.int .i64 0) := by
    show (w.alloc (.cells #[.int .i64 0, .int .i64 0] 24)).cell? ⟨w.heap.size, 0, none⟩ = _
    rw [World.cell?_alloc_at _ _ _ _ rfl]; rfl
  have hc1 : ((w.alloc (.cells #[.int .i64 0, .int .i64 0] 24)).drewN n1).cell? ⟨w.heap.size, 1, none⟩ = some (.int .i64 0) := by
    show (w.alloc (.cells #[.int .i64 0, .int .i64 0] 24)).cell? ⟨w.heap.size, 1, none⟩ = _
    rw [World.cell?_alloc_at _ _ _ _ rfl]; rfl
  have hf0 : ((w.alloc (.cells #[.int .i64 0, .int .i64 0] 24)).drewN n1).frozen? ⟨w.heap.size, 0, none⟩ = false := World.frozen?_alloc_at _ _ _ _ rfl
  have hf1 : ((w.alloc (.cells #[.int .i64 0, .int .i64 0] 24)).drewN n1).frozen? ⟨w.heap.size, 1, none⟩ = false := World.frozen?_alloc_at _ _ _ _ rfl
  have hb2 : Below w.heap.size w ((w.alloc (.cells #[.int .i64 0, .int .i64 0] 24)).drewN n1) := below_drewN ((Below.refl _ _).alloc (Nat.le_refl _) _) _
  generalize ((w.alloc (.cells #[.int .i64 0, .int .i64 0] 24)).drewN n1) = w2 at *
  have hr := two_cells hc0 hc1 (.int .i64 nmv) (.int .i64 dnv)
  refine wp_region_still_tail 7 (by kernel_rfl) (by kernel_rfl) ?_
  simp only [List.take_succ_cons, List.take_zero, List.drop_succ_cons, List.drop_zero]
  still_step
  still_step
  still_step
  still_step
  still_step
  still_step
  still_step
  refine wpStill_nil ?_
  change wpList _ _ _ _ _ w2.drew
  go_wp2_with fail
  exact bodyPost_ret (v := .agg #[.int .i64 nmv, .int .i64 dnv]) (by simp [results, Try.results39, go_sem, hr.1, hr.2]) rfl ⟨rfl, (hb2.drew.setCell (Nat.le_refl _) _).setCell (Nat.le_refl _) _⟩

set_option maxRecDepth 100000 in
set_option maxHeartbeats 1000000 in
theorem spec_l2Frac (x y : Int) (w : World) :
    Calls Try.prog 62 #[.agg #[.int .i64 x, .int .i64 y]] w fun e w' => e = .returned (.bool (fracB x y)) ∧ Below w.heap.size w w' := by
  have hc0 : (w.alloc (.cells #[.int .i64 x, .int .i64 y] 24)).cell? ⟨w.heap.size, 0, none⟩ = some (.int .i64 x) := by rw [World.cell?_alloc_at _ _ _ _ rfl]; rfl
  have hc1 : (w.alloc (.cells #[.int .i64 x, .int .i64 y] 24)).cell? ⟨w.heap.size, 1, none⟩ = some (.int .i64 y) := by rw [World.cell?_alloc_at _ _ _ _ rfl]; rfl
  have hb2 : Below w.heap.size w (w.alloc (.cells #[.int .i64 x, .int .i64 y] 24)) := (Below.refl _ _).alloc (Nat.le_refl _) _
  cases h1 : inB x (-1000000000) 1000000000
  · go_enter Try.func62, Try.ntmps62
    go_wp2_with fail
    generalize (w.alloc (.cells #[.int .i64 x, .int .i64 y] 24)) = w2 at *
    go_quiet ((first | (go_at_call 45; exact quietL (spec_l1In _ _ _ _))))
    go_wp2_with fail
    go_ret
    exact ⟨rb (by simp [fracB, h1]), below_drewN hb2 _⟩
  · have hx := inB_t h1
    cases h2 : inB y 1 1000000
    · go_enter Try.func62, Try.ntmps62
      go_wp2_with fail
      generalize (w.alloc (.cells #[.int .i64 x, .int .i64 y] 24)) = w2 at *
      go_quiet ((first | (go_at_call 45; exact quietL (spec_l1In _ _ _ _))))
      go_wp2_with fail
      go_ret
      exact ⟨rb (by simp [fracB, h2]), below_drewN hb2 _⟩
    · have hy := inB_t h2
      have he := gcdI_abs x y
      have ha2 : 0 ≤ most x (-x) ∧ most x (-x) ≤ 4611686018427387904 := by unfold most; omega
      have Hg : Hid (∀ W : World, Calls Try.prog 63 #[.int .i64 (most x (-x)), .int .i64 y] W fun e w' => e = .returned (.int .i64 (gcdI x y)) ∧ ∃ n, w' = W.drewN n) := Lib.hid fun W => by rw [← he]; exact spec_l2Gcd _ _ W ha2 (by omega)
      unfold fracB
      generalize gcdI x y = g at *
      clear he ha2
      go_enter Try.func62, Try.ntmps62
      go_wp2_with fail
      generalize (w.alloc (.cells #[.int .i64 x, .int .i64 y] 24)) = w2 at *
      go_quiet ((first | (go_at_call 45; exact quietL (spec_l1In _ _ _ _)) | (go_at_call 64; exact quietL (spec_l2Abs _ _ (by omega))) | (go_at_call 63; exact Calls.quiet_of (Hg.out _))))
      go_wp2_with fail
      go_ret
      exact ⟨rb (by simp [h1, h2]), below_drewN hb2 _⟩
end Go.Proofs.Ytcoakeedgngogaa
