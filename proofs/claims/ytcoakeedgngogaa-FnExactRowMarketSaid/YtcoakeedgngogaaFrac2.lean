/- Contracts on fractions, continued: lowest terms of the program, pairs kept by the reference, equal pairs. -/
import Derived.Test.YtcoakeedgngogaaFrac
namespace Go.Proofs.Ytcoakeedgngogaa
open Go.RowKit

set_option maxRecDepth 100000 in
set_option maxHeartbeats 1000000 in
theorem spec_l2Kept (x y : Int) (w : World) :
    Calls Try.prog 38 #[.agg #[.int .i64 x, .int .i64 y]] w fun e w' =>
      e = .returned (.tuple #[.agg #[.int .i64 (if fracB x y then x else 0), .int .i64 (if fracB x y then y else 0)], .bool (fracB x y)]) ∧ Below w.heap.size w w' := by
  have hb2 : Below w.heap.size w ((w.alloc (.cells #[.int .i64 x, .int .i64 y] 24)).alloc (.cells #[.int .i64 0, .int .i64 0] 24)) := ((Below.refl _ _).alloc (Nat.le_refl _) _).alloc (by simp) _
  have hx0 : ((w.alloc (.cells #[.int .i64 x, .int .i64 y] 24)).alloc (.cells #[.int .i64 0, .int .i64 0] 24)).cell? ⟨w.heap.size, 0, none⟩ = some (.int .i64 x) := by
    rw [World.cell?_alloc_past _ _ _ (by simp), World.cell?_alloc_at _ _ _ _ rfl]; rfl
  have hx1 : ((w.alloc (.cells #[.int .i64 x, .int .i64 y] 24)).alloc (.cells #[.int .i64 0, .int .i64 0] 24)).cell? ⟨w.heap.size, 1, none⟩ = some (.int .i64 y) := by
    rw [World.cell?_alloc_past _ _ _ (by simp), World.cell?_alloc_at _ _ _ _ rfl]; rfl
  have hc0 : ((w.alloc (.cells #[.int .i64 x, .int .i64 y] 24)).alloc (.cells #[.int .i64 0, .int .i64 0] 24)).cell? ⟨w.heap.size + 1, 0, none⟩ = some (.int .i64 0) := by
    rw [World.cell?_alloc_at _ _ _ _ (by simp)]; rfl
  have hc1 : ((w.alloc (.cells #[.int .i64 x, .int .i64 y] 24)).alloc (.cells #[.int .i64 0, .int .i64 0] 24)).cell? ⟨w.heap.size + 1, 1, none⟩ = some (.int .i64 0) := by
    rw [World.cell?_alloc_at _ _ _ _ (by simp)]; rfl
  have hf0 : ((w.alloc (.cells #[.int .i64 x, .int .i64 y] 24)).alloc (.cells #[.int .i64 0, .int .i64 0] 24)).frozen? ⟨w.heap.size + 1, 0, none⟩ = false := World.frozen?_alloc_at _ _ _ _ (by simp)
  have hf1 : ((w.alloc (.cells #[.int .i64 x, .int .i64 y] 24)).alloc (.cells #[.int .i64 0, .int .i64 0] 24)).frozen? ⟨w.heap.size + 1, 1, none⟩ = false := World.frozen?_alloc_at _ _ _ _ (by simp)
  have hsz : w.heap.size + 1 < ((w.alloc (.cells #[.int .i64 x, .int .i64 y] 24)).alloc (.cells #[.int .i64 0, .int .i64 0] 24)).heap.size := by simp
  cases hB : fracB x y
  · go_enter Try.func38, Try.ntmps38
    go_wp2_with fail
    generalize ((w.alloc (.cells #[.int .i64 x, .int .i64 y] 24)).alloc (.cells #[.int .i64 0, .int .i64 0] 24)) = w2 at *
    refine (spec_l2Frac x y w2).mono ?_
    rintro e w3 ⟨rfl, hb3⟩
    have c0 := (hb3.cell (p := ⟨w.heap.size + 1, 0, none⟩) hsz).trans hc0
    have c1 := (hb3.cell (p := ⟨w.heap.size + 1, 1, none⟩) hsz).trans hc1
    have f0 := (hb3.frozen (p := ⟨w.heap.size + 1, 0, none⟩) hsz).trans hf0
    have f1 := (hb3.frozen (p := ⟨w.heap.size + 1, 1, none⟩) hsz).trans hf1
    have x0 := (hb3.cell (p := ⟨w.heap.size, 0, none⟩) (by show w.heap.size < w2.heap.size; omega)).trans hx0
    have x1 := (hb3.cell (p := ⟨w.heap.size, 1, none⟩) (by show w.heap.size < w2.heap.size; omega)).trans hx1
    have hb4 : Below w.heap.size w w3 := hb2.trans (hb3.mono hb2.size)
    have hr := two_cells c0 c1 (.int .i64 0) (.int .i64 0)
    clear hx0 hx1 hc0 hc1 hf0 hf1 hb3
    rw [hB]
    go_wp2_with fail
    exact bodyPost_ret (v := .tuple #[.agg #[.int .i64 0, .int .i64 0], .bool false]) (by simp [results, Try.results38, go_sem, hr.1, hr.2]) rfl ⟨rfl, (hb4.setCell (by simp) _).setCell (by simp) _⟩
  · go_enter Try.func38, Try.ntmps38
    go_wp2_with fail
    generalize ((w.alloc (.cells #[.int .i64 x, .int .i64 y] 24)).alloc (.cells #[.int .i64 0, .int .i64 0] 24)) = w2 at *
    refine (spec_l2Frac x y w2).mono ?_
    rintro e w3 ⟨rfl, hb3⟩
    have c0 := (hb3.cell (p := ⟨w.heap.size + 1, 0, none⟩) hsz).trans hc0
    have c1 := (hb3.cell (p := ⟨w.heap.size + 1, 1, none⟩) hsz).trans hc1
    have f0 := (hb3.frozen (p := ⟨w.heap.size + 1, 0, none⟩) hsz).trans hf0
    have f1 := (hb3.frozen (p := ⟨w.heap.size + 1, 1, none⟩) hsz).trans hf1
    have x0 := (hb3.cell (p := ⟨w.heap.size, 0, none⟩) (by show w.heap.size < w2.heap.size; omega)).trans hx0
    have x1 := (hb3.cell (p := ⟨w.heap.size, 1, none⟩) (by show w.heap.size < w2.heap.size; omega)).trans hx1
    have hb4 : Below w.heap.size w w3 := hb2.trans (hb3.mono hb2.size)
    have hr := two_cells c0 c1 (.int .i64 x) (.int .i64 y)
    clear hx0 hx1 hc0 hc1 hf0 hf1 hb3
    rw [hB]
    go_wp2_with fail
    exact bodyPost_ret (v := .tuple #[.agg #[.int .i64 x, .int .i64 y], .bool true]) (by simp [results, Try.results38, go_sem, hr.1, hr.2]) rfl ⟨rfl, (hb4.setCell (by simp) _).setCell (by simp) _⟩

theorem okF_f1 {n d : Int} (h : inB n (-1000000000) 1000000000 = false) : okF n d = false := by unfold okF; rw [h]; rfl
theorem okF_f2 {n d : Int} (h : ¬ d ≤ 1000000) : okF n d = false := by unfold okF; rw [decide_eq_false h]; simp
theorem okF_tt {n d : Int} (h1 : inB n (-1000000000) 1000000000 = true) (h2 : d ≤ 1000000) : okF n d = true := by unfold okF; rw [h1, decide_eq_true h2]; rfl
set_option maxRecDepth 100000 in
set_option maxHeartbeats 1000000 in
theorem impl_lowest (a b : Int) (w : World) (hb0 : b ≠ 0) (ha : -4611686018427387904 ≤ a ∧ a ≤ 4611686018427387904) (hb : -4611686018427387904 ≤ b ∧ b ≤ 4611686018427387904) :
    Calls Try.prog 44 #[.int .i64 a, .int .i64 b] w fun e w' => e = .returned (.tuple #[.agg #[.int .i64 (lowN a b), .int .i64 (lowD a b)], .bool (lowB a b)]) ∧ Below w.heap.size w w' := by
  have hg1 := gcdI_pos (a := a) hb0
  have hg2 := gcdI_le_r (a := a) hb0
  have hbd := quot_bd' a b hb0 ha hb
  have hnp := fun h => nm_pos (a := a) (b := b) h
  have hnn := fun h => nm_neg (a := a) (b := b) h
  have Hg : Hid (∀ W : World, Calls Try.prog 65 #[.int .i64 a, .int .i64 b] W fun e w' => e = .returned (.int .i64 (gcdI a b)) ∧ ∃ n, w' = W.drewN n) := Lib.hid fun W => impl_commonDivisor a b W ha hb
  have hl1 : okF (nm a b) (dn a b) = true → lowN a b = nm a b ∧ lowD a b = dn a b ∧ lowB a b = true := fun h => by unfold lowN lowD lowB; rw [h]; exact ⟨rfl, rfl, rfl⟩
  have hl2 : okF (nm a b) (dn a b) = false → lowN a b = 0 ∧ lowD a b = 0 ∧ lowB a b = false := fun h => by unfold lowN lowD lowB; rw [h]; exact ⟨rfl, rfl, rfl⟩
  generalize lowN a b = ln at *
  generalize lowD a b = ld at *
  generalize lowB a b = lb at *
  generalize gcdI a b = g at *
  generalize nm a b = x at *
  generalize dn a b = y at *
  have Hl1 := Lib.hid hl1
  have Hl2 := Lib.hid hl2
  clear hl1 hl2
  have Hnp := Lib.hid hnp
  have Hnn := Lib.hid hnn
  clear hnp hnn
  have hc0 : ∀ k, ((w.alloc (.cells #[.int .i64 0, .int .i64 0] 24)).drewN k).cell? ⟨w.heap.size, 0, none⟩ = some (.int .i64 0) := fun k => by
    show (w.alloc (.cells #[.int .i64 0, .int .i64 0] 24)).cell? ⟨w.heap.size, 0, none⟩ = _
    rw [World.cell?_alloc_at _ _ _ _ rfl]; rfl
  have hc1 : ∀ k, ((w.alloc (.cells #[.int .i64 0, .int .i64 0] 24)).drewN k).cell? ⟨w.heap.size, 1, none⟩ = some (.int .i64 0) := fun k => by
    show (w.alloc (.cells #[.int .i64 0, .int .i64 0] 24)).cell? ⟨w.heap.size, 1, none⟩ = _
    rw [World.cell?_alloc_at _ _ _ _ rfl]; rfl
  have hf0 : ∀ k i, ((w.alloc (.cells #[.int .i64 0, .int .i64 0] 24)).drewN k).frozen? ⟨w.heap.size, i, none⟩ = false := fun k i => World.frozen?_alloc_at _ _ _ _ rfl
  have hb2 : ∀ k, Below w.heap.size w ((w.alloc (.cells #[.int .i64 0, .int .i64 0] 24)).drewN k) := fun k => below_drewN ((Below.refl _ _).alloc (Nat.le_refl _) _) _
  have Hc0 := Lib.hid hc0
  have Hc1 := Lib.hid hc1
  have Hf0 := Lib.hid hf0
  have Hb2 := Lib.hid hb2
  clear hc0 hc1 hf0 hb2
  by_cases hs : b < 0
  · obtain ⟨d, hd⟩ : ∃ d, d = -g := ⟨_, rfl⟩
    have hq := Hnn.out hs
    have hd1 : -4611686018427387904 ≤ -g ∧ -g ≤ 4611686018427387904 := by omega
    have hd0 : ¬ -g = 0 := by omega
    have hq1 : x = a.tdiv (-g) := hq.1
    have hq2 : y = b.tdiv (-g) := hq.2
    clear hq
    go_enter Try.func44, Try.ntmps44
    go_wp2_with (go_at_call 65; refine (Hg.out _).mono ?_; rintro e w1 ⟨rfl, n1, rfl⟩)
    have c0 := Hc0.out n1
    have c1 := Hc1.out n1
    have f0 := Hf0.out n1 0
    have f1 := Hf0.out n1 1
    have b2 := Hb2.out n1
    generalize ((w.alloc (.cells #[.int .i64 0, .int .i64 0] 24)).drewN n1) = w2 at *
    rw [← hd] at hd0 hq1 hq2 hd1
    simp only [← hd]
    clear hd Hc0 Hc1 Hf0 Hb2
    have e1 : a.tdiv d = x := hq1.symm
    have e2 : b.tdiv d = y := hq2.symm
    have e3 : IntKind.i64.wrap x = x := IntWalk.i64_in _ (by omega)
    have e4 : IntKind.i64.wrap y = y := IntWalk.i64_in _ (by omega)
    clear hq1 hq2
    go_quiet (fail)
    clear e1 e2 e3 e4 hd0
    cases hX : inB x (-1000000000) 1000000000
    · have hok := okF_f1 (d := y) hX
      have Hok := Lib.hid hok
      clear hok
      have hr := two_cells (w := w2.drewN nq) c0 c1 (.int .i64 0) (.int .i64 0)
      go_wp2_with (go_at_call 49; refine (impl_within _ _ _ _).mono ?_; rintro e w' ⟨rfl, rfl⟩)
      exact bodyPost_ret (v := .tuple #[.agg #[.int .i64 0, .int .i64 0], .bool false]) (by simp [results, Try.results44, go_sem, hr.1, hr.2]) rfl ⟨by obtain ⟨h1, h2, h3⟩ := Hl2.out Hok.out; rw [h1, h2, h3], ((below_drewN b2 _).setCell (by simp) _).setCell (by simp) _⟩
    · by_cases hY : y ≤ 1000000
      · have hok := okF_tt hX hY
        have Hok := Lib.hid hok
        clear hok
        have hr := two_cells (w := w2.drewN nq) c0 c1 (.int .i64 x) (.int .i64 y)
        go_wp2_with (go_at_call 49; refine (impl_within _ _ _ _).mono ?_; rintro e w' ⟨rfl, rfl⟩)
        exact bodyPost_ret (v := .tuple #[.agg #[.int .i64 x, .int .i64 y], .bool true]) (by simp [results, Try.results44, go_sem, hr.1, hr.2]) rfl ⟨by obtain ⟨h1, h2, h3⟩ := Hl1.out Hok.out; rw [h1, h2, h3], ((below_drewN b2 _).setCell (by simp) _).setCell (by simp) _⟩
      · have hok := okF_f2 (n := x) hY
        have Hok := Lib.hid hok
        clear hok
        have hr := two_cells (w := w2.drewN nq) c0 c1 (.int .i64 0) (.int .i64 0)
        go_wp2_with (go_at_call 49; refine (impl_within _ _ _ _).mono ?_; rintro e w' ⟨rfl, rfl⟩)
        exact bodyPost_ret (v := .tuple #[.agg #[.int .i64 0, .int .i64 0], .bool false]) (by simp [results, Try.results44, go_sem, hr.1, hr.2]) rfl ⟨by obtain ⟨h1, h2, h3⟩ := Hl2.out Hok.out; rw [h1, h2, h3], ((below_drewN b2 _).setCell (by simp) _).setCell (by simp) _⟩
  · obtain ⟨d, hd⟩ : ∃ d, d = g := ⟨_, rfl⟩
    have hq := Hnp.out hs
    have hd1 : -4611686018427387904 ≤ g ∧ g ≤ 4611686018427387904 := by omega
    have hd0 : ¬ g = 0 := by omega
    have hq1 : x = a.tdiv (g) := hq.1
    have hq2 : y = b.tdiv (g) := hq.2
    clear hq
    go_enter Try.func44, Try.ntmps44
    go_wp2_with (go_at_call 65; refine (Hg.out _).mono ?_; rintro e w1 ⟨rfl, n1, rfl⟩)
    have c0 := Hc0.out n1
    have c1 := Hc1.out n1
    have f0 := Hf0.out n1 0
    have f1 := Hf0.out n1 1
    have b2 := Hb2.out n1
    generalize ((w.alloc (.cells #[.int .i64 0, .int .i64 0] 24)).drewN n1) = w2 at *
    rw [← hd] at hd0 hq1 hq2 hd1
    simp only [← hd]
    clear hd Hc0 Hc1 Hf0 Hb2
    have e1 : a.tdiv d = x := hq1.symm
    have e2 : b.tdiv d = y := hq2.symm
    have e3 : IntKind.i64.wrap x = x := IntWalk.i64_in _ (by omega)
    have e4 : IntKind.i64.wrap y = y := IntWalk.i64_in _ (by omega)
    clear hq1 hq2
    go_quiet (fail)
    clear e1 e2 e3 e4 hd0
    cases hX : inB x (-1000000000) 1000000000
    · have hok := okF_f1 (d := y) hX
      have Hok := Lib.hid hok
      clear hok
      have hr := two_cells (w := w2.drewN nq) c0 c1 (.int .i64 0) (.int .i64 0)
      go_wp2_with (go_at_call 49; refine (impl_within _ _ _ _).mono ?_; rintro e w' ⟨rfl, rfl⟩)
      exact bodyPost_ret (v := .tuple #[.agg #[.int .i64 0, .int .i64 0], .bool false]) (by simp [results, Try.results44, go_sem, hr.1, hr.2]) rfl ⟨by obtain ⟨h1, h2, h3⟩ := Hl2.out Hok.out; rw [h1, h2, h3], ((below_drewN b2 _).setCell (by simp) _).setCell (by simp) _⟩
    · by_cases hY : y ≤ 1000000
      · have hok := okF_tt hX hY
        have Hok := Lib.hid hok
        clear hok
        have hr := two_cells (w := w2.drewN nq) c0 c1 (.int .i64 x) (.int .i64 y)
        go_wp2_with (go_at_call 49; refine (impl_within _ _ _ _).mono ?_; rintro e w' ⟨rfl, rfl⟩)
        exact bodyPost_ret (v := .tuple #[.agg #[.int .i64 x, .int .i64 y], .bool true]) (by simp [results, Try.results44, go_sem, hr.1, hr.2]) rfl ⟨by obtain ⟨h1, h2, h3⟩ := Hl1.out Hok.out; rw [h1, h2, h3], ((below_drewN b2 _).setCell (by simp) _).setCell (by simp) _⟩
      · have hok := okF_f2 (n := x) hY
        have Hok := Lib.hid hok
        clear hok
        have hr := two_cells (w := w2.drewN nq) c0 c1 (.int .i64 0) (.int .i64 0)
        go_wp2_with (go_at_call 49; refine (impl_within _ _ _ _).mono ?_; rintro e w' ⟨rfl, rfl⟩)
        exact bodyPost_ret (v := .tuple #[.agg #[.int .i64 0, .int .i64 0], .bool false]) (by simp [results, Try.results44, go_sem, hr.1, hr.2]) rfl ⟨by obtain ⟨h1, h2, h3⟩ := Hl2.out Hok.out; rw [h1, h2, h3], ((below_drewN b2 _).setCell (by simp) _).setCell (by simp) _⟩
end Go.Proofs.Ytcoakeedgngogaa
