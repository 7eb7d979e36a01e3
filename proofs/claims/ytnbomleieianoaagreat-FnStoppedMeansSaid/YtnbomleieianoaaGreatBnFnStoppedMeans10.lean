/- Contracts and plain laws for the statement FnStoppedMeans, part 10. No conditions but those stated in each. -/
import Derived.Test.YtnbomleieianoaaGreatBnFnStoppedMeans1
import Derived.Deep.QuietTactic
import Derived.BigQuiet
import Derived.WalkSmall
import Derived.StillTailTactics
import Derived.Deep.Draws
/- Contracts on fractions: greatest common divisors, lowest terms, of the program and of the reference. -/
namespace Go.Proofs.YtnbomleieianoaaGreat
open Go.RowKit

/-- A contract that leaves the world as it is, inside a quiet region. -/
theorem quietL {f : FuncId} {args : Array Value} {w : World} {n : Nat} {v : Value}
    (h : Calls Tryz.prog f args (w.drewN n) fun e w' => e = .returned v ∧ w.drewN n = w') : Calls Tryz.prog f args (w.drewN n) fun e w'' => e = .returned v ∧ ∃ m, w'' = w.drewN m :=
  h.mono fun _ _ ⟨he, hm⟩ => ⟨he, n, hm.symm⟩

set_option maxRecDepth 100000 in
set_option maxHeartbeats 400000 in
theorem impl_commonDivisor (a b : Int) (w : World) (ha : -4611686018427387904 ≤ a ∧ a ≤ 4611686018427387904) (hb : -4611686018427387904 ≤ b ∧ b ≤ 4611686018427387904) :
    Calls Tryz.prog 132 #[.int .i64 a, .int .i64 b] w fun e w' => e = .returned (.int .i64 (gcdI a b)) ∧ ∃ n, w' = w.drewN n := by
  go_enter Tryz.func132, Tryz.ntmps132
  go_wp2_with fail
  go_loopw [0, 1] (fun v0 v1 wr => ∃ x y : Int, v0 = .int .i64 x ∧ v1 = .int .i64 y ∧ gcdI x y = gcdI a b ∧ (-4611686018427387904 ≤ x ∧ x ≤ 4611686018427387904) ∧ (-4611686018427387904 ≤ y ∧ y ≤ 4611686018427387904) ∧ ∃ n, wr = w.drewN n) (fun _ v1 _ => (intOf v1).natAbs)
  case atStart => exact ⟨a, b, rfl, rfl, rfl, ha, hb, 0, rfl⟩
  case round =>
    obtain ⟨x, y, rfl, rfl, hg, hx, hy, n, rfl⟩ := hrel
    have Hg := Lib.hid hg
    clear hg
    by_cases h0 : y = 0
    · subst h0
      go_wp2_with fail
      all_goals go_ret
      all_goals exact ⟨ri (by rw [← Hg.out, gcdI_zero]; omega), _, rfl⟩
    · have h1 : (y != 0) = true := by simpa using h0
      have h2 : (y == 0) = false := by simpa using h0
      have ht : -4611686018427387904 ≤ x.tmod y ∧ x.tmod y ≤ 4611686018427387904 ∧ (x.tmod y).natAbs < y.natAbs := by
        have e := Int.natAbs_tmod x y
        have := Nat.mod_lt x.natAbs (show 0 < y.natAbs by omega)
        omega
      go_wp2_with fail
      go_quiet (fail)
      go_wp2_with fail
      exact ⟨⟨_, _, rfl, rfl, by rw [gcdI_step, Hg.out], hy, by omega, _, World.drewN_drewN _ _ _⟩, ht.2.2⟩

set_option maxRecDepth 100000 in
set_option maxHeartbeats 400000 in
theorem spec_l2Gcd (a b : Int) (w : World) (ha : 0 ≤ a ∧ a ≤ 4611686018427387904) (hb : 0 ≤ b ∧ b ≤ 4611686018427387904) :
    Calls Tryz.prog 134 #[.int .i64 a, .int .i64 b] w fun e w' => e = .returned (.int .i64 (gcdI a b)) ∧ ∃ n, w' = w.drewN n := by
  go_enter Tryz.func134, Tryz.ntmps134
  go_wp2_with fail
  go_loopw [0, 1] (fun v0 v1 wr => ∃ x y : Int, v0 = .int .i64 x ∧ v1 = .int .i64 y ∧ gcdI x y = gcdI a b ∧ (0 ≤ x ∧ x ≤ 4611686018427387904) ∧ (0 ≤ y ∧ y ≤ 4611686018427387904) ∧ ∃ n, wr = w.drewN n) (fun _ v1 _ => (intOf v1).natAbs)
  case atStart => exact ⟨a, b, rfl, rfl, rfl, ha, hb, 0, rfl⟩
  case round =>
    obtain ⟨x, y, rfl, rfl, hg, hx, hy, n, rfl⟩ := hrel
    have Hg := Lib.hid hg
    clear hg
    by_cases h0 : 0 < y
    · have h2 : (y == 0) = false := by rw [beq_eq_false_iff_ne]; omega
      have ht := gcdI_step x y
      rw [Int.tmod_eq_emod_of_nonneg hx.1] at ht
      have ht2 := Int.emod_lt_of_pos x h0
      have ht3 := Int.emod_nonneg x (show y ≠ 0 by omega)
      have Ht := Lib.hid ht
      clear ht
      go_wp2_with fail
      go_quiet (fail)
      go_wp2_with fail
      exact ⟨⟨_, _, rfl, rfl, by rw [Ht.out, Hg.out], hy, by omega, _, World.drewN_drewN _ _ _⟩, by simp only [intOf]; omega⟩
    · obtain rfl : y = 0 := by omega
      go_wp2_with fail
      go_ret
      exact ⟨ri (by rw [← Hg.out, gcdI_zero]; omega), _, rfl⟩

theorem spec_l2Abs (a : Int) (w : World) (ha : -9223372036854775807 ≤ a ∧ a ≤ 9223372036854775807) :
    Calls Tryz.prog 135 #[.int .i64 a] w fun e w' => e = .returned (.int .i64 (most a (-a))) ∧ w = w' := by
  go_enter Tryz.func135, Tryz.ntmps135
  go_wp2_with (go_at_call 119; refine (spec_l1Most _ _ _).mono ?_; rintro e w' ⟨rfl, rfl⟩)
  go_ret
  exact ⟨rfl, rfl⟩

set_option maxRecDepth 100000 in
set_option maxHeartbeats 400000 in
theorem spec_l2Cut (a b : Int) (w : World) (ha : -4611686018427387904 ≤ a ∧ a ≤ 4611686018427387904) (hb : 1 ≤ b ∧ b ≤ 4611686018427387904) :
    Calls Tryz.prog 76 #[.int .i64 a, .int .i64 b] w fun e w' => e = .returned (.agg #[.int .i64 (nm a b), .int .i64 (dn a b)]) ∧ Below w.heap.size w w' := by
  have hg1 := gcdI_pos (a := a) (show b ≠ 0 by omega)
  have hg2 := gcdI_le_r (a := a) (show b ≠ 0 by omega)
  have hd1 := Lib.hid (gcdI_dvd_l a b)
  have hd2 := Lib.hid (gcdI_dvd_r a b)
  have he := gcdI_abs a b
  have ha2 : 0 ≤ most a (-a) ∧ most a (-a) ≤ 4611686018427387904 := by unfold most; omega
  have Hg : Hid (∀ W : World, Calls Tryz.prog 134 #[.int .i64 (most a (-a)), .int .i64 b] W fun e w' => e = .returned (.int .i64 (gcdI a b)) ∧ ∃ n, w' = W.drewN n) := Lib.hid fun W => by rw [← he]; exact spec_l2Gcd _ _ W ha2 (by omega)
  have hnm : nm a b = a.tdiv (gcdI a b) ∧ dn a b = b.tdiv (gcdI a b) := by
    unfold nm dn
    rw [if_neg (by omega), if_neg (by omega)]
    exact ⟨(Int.tdiv_eq_ediv_of_dvd hd1.out).symm, (Int.tdiv_eq_ediv_of_dvd hd2.out).symm⟩
  have hbd := quot_bd a b (by omega) ha hb
  obtain ⟨nmv, hnv⟩ : ∃ x, x = nm a b := ⟨_, rfl⟩
  obtain ⟨dnv, hdv⟩ : ∃ x, x = dn a b := ⟨_, rfl⟩
  rw [← hnv, ← hdv] at hnm hbd ⊢
  have hdn : Hid (b.tdiv (gcdI a b) = dnv) := Lib.hid hnm.2.symm
  replace hnm : Hid (a.tdiv (gcdI a b) = nmv) := Lib.hid hnm.1.symm
  clear hnv hdv
  generalize gcdI a b = g at *
  clear he ha2 hd1 hd2
  go_enter Tryz.func76, Tryz.ntmps76
  go_wp2_with (first | (go_at_call 135; refine (spec_l2Abs _ _ (by omega)).mono ?_; rintro e w' ⟨rfl, rfl⟩) | (go_at_call 134; refine (Hg.out _).mono ?_; rintro e w1 ⟨rfl, n1, rfl⟩))
  have hq0 : ¬ g = 0 := by omega
  have hq1 : a.tdiv g = nmv := hnm.out
  have hq2 : b.tdiv g = dnv := hdn.out
  have hw1 : IntKind.i64.wrap nmv = nmv := IntWalk.i64_in _ (by omega)
  have hw2 : IntKind.i64.wrap dnv = dnv := IntWalk.i64_in _ (by omega)
  have hc0 : ((w.alloc (.cells #[.int .i64 0, .int .i64 0] 29)).drewN n1).cell? ⟨w.heap.size, 0, none⟩ = some (.int .i64 0) := by
    show (w.alloc (.cells #[.int .i64 0, .int .i64 0] 29)).cell? ⟨w.heap.size, 0, none⟩ = _
    rw [World.cell?_alloc_at _ _ _ _ rfl]; rfl
  have hc1 : ((w.alloc (.cells #[.int .i64 0, .int .i64 0] 29)).drewN n1).cell? ⟨w.heap.size, 1, none⟩ = some (.int .i64 0) := by
    show (w.alloc (.cells #[.int .i64 0, .int .i64 0] 29)).cell? ⟨w.heap.size, 1, none⟩ = _
    rw [World.cell?_alloc_at _ _ _ _ rfl]; rfl
  have hf0 : ((w.alloc (.cells #[.int .i64 0, .int .i64 0] 29)).drewN n1).frozen? ⟨w.heap.size, 0, none⟩ = false := World.frozen?_alloc_at _ _ _ _ rfl
  have hf1 : ((w.alloc (.cells #[.int .i64 0, .int .i64 0] 29)).drewN n1).frozen? ⟨w.heap.size, 1, none⟩ = false := World.frozen?_alloc_at _ _ _ _ rfl
  have hb2 : Below w.heap.size w ((w.alloc (.cells #[.int .i64 0, .int .i64 0] 29)).drewN n1) := below_drewN ((Below.refl _ _).alloc (Nat.le_refl _) _) _
  generalize ((w.alloc (.cells #[.int .i64 0, .int .i64 0] 29)).drewN n1) = w2 at *
  have hr := two_cells hc0 hc1 (.int .i64 nmv) (.int .i64 dnv)
  refine wp_region_still_tail 7 (by kernel_rfl) (by kernel_rfl) ?_
  simp only [List.take_succ_cons, List.take_zero, List.drop_succ_cons, List.drop_zero]
  still_step
  still_step
  still_step
  still_step
  still_step
  still_step
  still_step
  refine wpStill_nil ?_
  change wpList _ _ _ _ _ w2.drew
  go_wp2_with fail
  exact bodyPost_ret (v := .agg #[.int .i64 nmv, .int .i64 dnv]) (by simp [results, Tryz.results76, go_sem, hr.1, hr.2]) rfl ⟨rfl, (hb2.drew.setCell (Nat.le_refl _) _).setCell (Nat.le_refl _) _⟩

end Go.Proofs.YtnbomleieianoaaGreat

/- Contracts on fractions, continued: lowest terms of the program, pairs kept by the reference, equal pairs. -/
namespace Go.Proofs.YtnbomleieianoaaGreat
open Go.RowKit


theorem okF_f1 {n d : Int} (h : inB n (-1000000000) 1000000000 = false) : okF n d = false := by unfold okF; rw [h]; rfl
theorem okF_f2 {n d : Int} (h : ¬ d ≤ 1000000) : okF n d = false := by unfold okF; rw [decide_eq_false h]; simp
theorem okF_tt {n d : Int} (h1 : inB n (-1000000000) 1000000000 = true) (h2 : d ≤ 1000000) : okF n d = true := by unfold okF; rw [h1, decide_eq_true h2]; rfl
set_option maxRecDepth 100000 in
set_option maxHeartbeats 1000000 in
theorem impl_lowest (a b : Int) (w : World) (hb0 : b ≠ 0) (ha : -4611686018427387904 ≤ a ∧ a ≤ 4611686018427387904) (hb : -4611686018427387904 ≤ b ∧ b ≤ 4611686018427387904) :
    Calls Tryz.prog 73 #[.int .i64 a, .int .i64 b] w fun e w' => e = .returned (.tuple #[.agg #[.int .i64 (lowN a b), .int .i64 (lowD a b)], .bool (lowB a b)]) ∧ Below w.heap.size w w' := by
  have hg1 := gcdI_pos (a := a) hb0
  have hg2 := gcdI_le_r (a := a) hb0
  have hbd := quot_bd' a b hb0 ha hb
  have hnp := fun h => nm_pos (a := a) (b := b) h
  have hnn := fun h => nm_neg (a := a) (b := b) h
  have Hg : Hid (∀ W : World, Calls Tryz.prog 132 #[.int .i64 a, .int .i64 b] W fun e w' => e = .returned (.int .i64 (gcdI a b)) ∧ ∃ n, w' = W.drewN n) := Lib.hid fun W => impl_commonDivisor a b W ha hb
  have hl1 : okF (nm a b) (dn a b) = true → lowN a b = nm a b ∧ lowD a b = dn a b ∧ lowB a b = true := fun h => by unfold lowN lowD lowB; rw [h]; exact ⟨rfl, rfl, rfl⟩
  have hl2 : okF (nm a b) (dn a b) = false → lowN a b = 0 ∧ lowD a b = 0 ∧ lowB a b = false := fun h => by unfold lowN lowD lowB; rw [h]; exact ⟨rfl, rfl, rfl⟩
  generalize lowN a b = ln at *
  generalize lowD a b = ld at *
  generalize lowB a b = lb at *
  generalize gcdI a b = g at *
  generalize nm a b = x at *
  generalize dn a b = y at *
  have Hl1 := Lib.hid hl1
  have Hl2 := Lib.hid hl2
  clear hl1 hl2
  have Hnp := Lib.hid hnp
  have Hnn := Lib.hid hnn
  clear hnp hnn
  have hc0 : ∀ k, ((w.alloc (.cells #[.int .i64 0, .int .i64 0] 29)).drewN k).cell? ⟨w.heap.size, 0, none⟩ = some (.int .i64 0) := fun k => by
    show (w.alloc (.cells #[.int .i64 0, .int .i64 0] 29)).cell? ⟨w.heap.size, 0, none⟩ = _
    rw [World.cell?_alloc_at _ _ _ _ rfl]; rfl
  have hc1 : ∀ k, ((w.alloc (.cells #[.int .i64 0, .int .i64 0] 29)).drewN k).cell? ⟨w.heap.size, 1, none⟩ = some (.int .i64 0) := fun k => by
    show (w.alloc (.cells #[.int .i64 0, .int .i64 0] 29)).cell? ⟨w.heap.size, 1, none⟩ = _
    rw [World.cell?_alloc_at _ _ _ _ rfl]; rfl
  have hf0 : ∀ k i, ((w.alloc (.cells #[.int .i64 0, .int .i64 0] 29)).drewN k).frozen? ⟨w.heap.size, i, none⟩ = false := fun k i => World.frozen?_alloc_at _ _ _ _ rfl
  have hb2 : ∀ k, Below w.heap.size w ((w.alloc (.cells #[.int .i64 0, .int .i64 0] 29)).drewN k) := fun k => below_drewN ((Below.refl _ _).alloc (Nat.le_refl _) _) _
  have Hc0 := Lib.hid hc0
  have Hc1 := Lib.hid hc1
  have Hf0 := Lib.hid hf0
  have Hb2 := Lib.hid hb2
  clear hc0 hc1 hf0 hb2
  by_cases hs : b < 0
  · obtain ⟨d, hd⟩ : ∃ d, d = -g := ⟨_, rfl⟩
    have hq := Hnn.out hs
    have hd1 : -4611686018427387904 ≤ -g ∧ -g ≤ 4611686018427387904 := by omega
    have hd0 : ¬ -g = 0 := by omega
    have hq1 : x = a.tdiv (-g) := hq.1
    have hq2 : y = b.tdiv (-g) := hq.2
    clear hq
    go_enter Tryz.func73, Tryz.ntmps73
    go_wp2_with (go_at_call 132; refine (Hg.out _).mono ?_; rintro e w1 ⟨rfl, n1, rfl⟩)
    have c0 := Hc0.out n1
    have c1 := Hc1.out n1
    have f0 := Hf0.out n1 0
    have f1 := Hf0.out n1 1
    have b2 := Hb2.out n1
    generalize ((w.alloc (.cells #[.int .i64 0, .int .i64 0] 29)).drewN n1) = w2 at *
    rw [← hd] at hd0 hq1 hq2 hd1
    simp only [← hd]
    clear hd Hc0 Hc1 Hf0 Hb2
    have e1 : a.tdiv d = x := hq1.symm
    have e2 : b.tdiv d = y := hq2.symm
    have e3 : IntKind.i64.wrap x = x := IntWalk.i64_in _ (by omega)
    have e4 : IntKind.i64.wrap y = y := IntWalk.i64_in _ (by omega)
    clear hq1 hq2
    go_quiet (fail)
    clear e1 e2 e3 e4 hd0
    cases hX : inB x (-1000000000) 1000000000
    · have hok := okF_f1 (d := y) hX
      have Hok := Lib.hid hok
      clear hok
      have hr := two_cells (w := w2.drewN nq) c0 c1 (.int .i64 0) (.int .i64 0)
      go_wp2_with (go_at_call 120; refine (impl_within _ _ _ _).mono ?_; rintro e w' ⟨rfl, rfl⟩)
      exact bodyPost_ret (v := .tuple #[.agg #[.int .i64 0, .int .i64 0], .bool false]) (by simp [results, Tryz.results73, go_sem, hr.1, hr.2]) rfl ⟨by obtain ⟨h1, h2, h3⟩ := Hl2.out Hok.out; rw [h1, h2, h3], ((below_drewN b2 _).setCell (by simp) _).setCell (by simp) _⟩
    · by_cases hY : y ≤ 1000000
      · have hok := okF_tt hX hY
        have Hok := Lib.hid hok
        clear hok
        have hr := two_cells (w := w2.drewN nq) c0 c1 (.int .i64 x) (.int .i64 y)
        go_wp2_with (go_at_call 120; refine (impl_within _ _ _ _).mono ?_; rintro e w' ⟨rfl, rfl⟩)
        exact bodyPost_ret (v := .tuple #[.agg #[.int .i64 x, .int .i64 y], .bool true]) (by simp [results, Tryz.results73, go_sem, hr.1, hr.2]) rfl ⟨by obtain ⟨h1, h2, h3⟩ := Hl1.out Hok.out; rw [h1, h2, h3], ((below_drewN b2 _).setCell (by simp) _).setCell (by simp) _⟩
      · have hok := okF_f2 (n := x) hY
        have Hok := Lib.hid hok
        clear hok
        have hr := two_cells (w := w2.drewN nq) c0 c1 (.int .i64 0) (.int .i64 0)
        go_wp2_with (go_at_call 120; refine (impl_within _ _ _ _).mono ?_; rintro e w' ⟨rfl, rfl⟩)
        exact bodyPost_ret (v := .tuple #[.agg #[.int .i64 0, .int .i64 0], .bool false]) (by simp [results, Tryz.results73, go_sem, hr.1, hr.2]) rfl ⟨by obtain ⟨h1, h2, h3⟩ := Hl2.out Hok.out; rw [h1, h2, h3], ((below_drewN b2 _).setCell (by simp) _).setCell (by simp) _⟩
  · obtain ⟨d, hd⟩ : ∃ d, d = g := ⟨_, rfl⟩
    have hq := Hnp.out hs
    have hd1 : -4611686018427387904 ≤ g ∧ g ≤ 4611686018427387904 := by omega
    have hd0 : ¬ g = 0 := by omega
    have hq1 : x = a.tdiv (g) := hq.1
    have hq2 : y = b.tdiv (g) := hq.2
    clear hq
    go_enter Tryz.func73, Tryz.ntmps73
    go_wp2_with (go_at_call 132; refine (Hg.out _).mono ?_; rintro e w1 ⟨rfl, n1, rfl⟩)
    have c0 := Hc0.out n1
    have c1 := Hc1.out n1
    have f0 := Hf0.out n1 0
    have f1 := Hf0.out n1 1
    have b2 := Hb2.out n1
    generalize ((w.alloc (.cells #[.int .i64 0, .int .i64 0] 29)).drewN n1) = w2 at *
    rw [← hd] at hd0 hq1 hq2 hd1
    simp only [← hd]
    clear hd Hc0 Hc1 Hf0 Hb2
    have e1 : a.tdiv d = x := hq1.symm
    have e2 : b.tdiv d = y := hq2.symm
    have e3 : IntKind.i64.wrap x = x := IntWalk.i64_in _ (by omega)
    have e4 : IntKind.i64.wrap y = y := IntWalk.i64_in _ (by omega)
    clear hq1 hq2
    go_quiet (fail)
    clear e1 e2 e3 e4 hd0
    cases hX : inB x (-1000000000) 1000000000
    · have hok := okF_f1 (d := y) hX
      have Hok := Lib.hid hok
      clear hok
      have hr := two_cells (w := w2.drewN nq) c0 c1 (.int .i64 0) (.int .i64 0)
      go_wp2_with (go_at_call 120; refine (impl_within _ _ _ _).mono ?_; rintro e w' ⟨rfl, rfl⟩)
      exact bodyPost_ret (v := .tuple #[.agg #[.int .i64 0, .int .i64 0], .bool false]) (by simp [results, Tryz.results73, go_sem, hr.1, hr.2]) rfl ⟨by obtain ⟨h1, h2, h3⟩ := Hl2.out Hok.out; rw [h1, h2, h3], ((below_drewN b2 _).setCell (by simp) _).setCell (by simp) _⟩
    · by_cases hY : y ≤ 1000000
      · have hok := okF_tt hX hY
        have Hok := Lib.hid hok
        clear hok
        have hr := two_cells (w := w2.drewN nq) c0 c1 (.int .i64 x) (.int .i64 y)
        go_wp2_with (go_at_call 120; refine (impl_within _ _ _ _).mono ?_; rintro e w' ⟨rfl, rfl⟩)
        exact bodyPost_ret (v := .tuple #[.agg #[.int .i64 x, .int .i64 y], .bool true]) (by simp [results, Tryz.results73, go_sem, hr.1, hr.2]) rfl ⟨by obtain ⟨h1, h2, h3⟩ := Hl1.out Hok.out; rw [h1, h2, h3], ((below_drewN b2 _).setCell (by simp) _).setCell (by simp) _⟩
      · have hok := okF_f2 (n := x) hY
        have Hok := Lib.hid hok
        clear hok
        have hr := two_cells (w := w2.drewN nq) c0 c1 (.int .i64 0) (.int .i64 0)
        go_wp2_with (go_at_call 120; refine (impl_within _ _ _ _).mono ?_; rintro e w' ⟨rfl, rfl⟩)
        exact bodyPost_ret (v := .tuple #[.agg #[.int .i64 0, .int .i64 0], .bool false]) (by simp [results, Tryz.results73, go_sem, hr.1, hr.2]) rfl ⟨by obtain ⟨h1, h2, h3⟩ := Hl2.out Hok.out; rw [h1, h2, h3], ((below_drewN b2 _).setCell (by simp) _).setCell (by simp) _⟩
end Go.Proofs.YtnbomleieianoaaGreat

/- Plain numbers and contracts: quotients of small numbers, of the program and of the reference. -/
namespace Go.Proofs.YtnbomleieianoaaGreat
open Go.RowKit

theorem low_small {a b : Int} (ha : -1000000000 ≤ a ∧ a ≤ 1000000000) (hb : 1 ≤ b ∧ b ≤ 1000000) : lowN a b = nm a b ∧ lowD a b = dn a b ∧ lowB a b = true := by
  have hp := gcdI_pos (a := a) (show b ≠ 0 by omega)
  have h1 : -1000000000 ≤ nm a b ∧ nm a b ≤ 1000000000 := by
    unfold nm; rw [if_neg (by omega)]
    have h1 := tdiv_abs_le a (gcdI a b)
    rw [Int.tdiv_eq_ediv_of_dvd (gcdI_dvd_l a b)] at h1
    omega
  have h2 : dn a b ≤ 1000000 := by
    unfold dn; rw [if_neg (by omega)]
    have h1 := tdiv_abs_le b (gcdI a b)
    rw [Int.tdiv_eq_ediv_of_dvd (gcdI_dvd_r a b)] at h1
    omega
  have ho : okF (nm a b) (dn a b) = true := okF_tt (inB_mk h1.1 h1.2) h2
  unfold lowN lowD lowB; rw [ho]; exact ⟨rfl, rfl, rfl⟩
theorem impl_lowest_s (a b : Int) (w : World) (ha : -1000000000 ≤ a ∧ a ≤ 1000000000) (hb : 1 ≤ b ∧ b ≤ 1000000) :
    Calls Tryz.prog 73 #[.int .i64 a, .int .i64 b] w fun e w' => e = .returned (.tuple #[.agg #[.int .i64 (nm a b), .int .i64 (dn a b)], .bool true]) ∧ Below w.heap.size w w' := by
  obtain ⟨e1, e2, e3⟩ := low_small ha hb
  have := impl_lowest a b w (by omega) (by omega) (by omega)
  rw [e1, e2, e3] at this
  exact this
end Go.Proofs.YtnbomleieianoaaGreat
