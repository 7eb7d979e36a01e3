/- Contract: the market of a row, by the program. -/
import Derived.Test.YtcoakeedgngogaaPlMk
import Derived.Test.YtcoakeedgngogaaRm0
import Derived.Deep.DeepCutAuto
import Derived.Deep.CutRange
namespace Go.Proofs.Ytcoakeedgngogaa
open Go.RowKit

set_option maxRecDepth 100000 in
set_option maxHeartbeats 8000000 in
theorem impl_RowMarket (n u d p : Int) (w : World) :
    Calls Try.prog 15 #[.int .i64 n, .int .i64 u, .int .i64 d, .int .i64 p] w fun e w' => (∃ v, e = .returned (.tuple #[v, .bool (mkOk n u d p)]) ∧ MkR w' w.heap.size v (mkP n u d p) (mkW n u d p) (mkL n u d p)) ∧ Below w.heap.size w w' := by
  have hb1 := below_new w (.cells #[.slice none 0 0, .slice none 0 0, .slice none 0 0] 35)
  have hR1 := Trip.new w (.slice none 0 0) (.slice none 0 0) (.slice none 0 0) 35
  have HR1 := Lib.hid hR1
  have hs1 : (w.alloc (.cells #[.slice none 0 0, .slice none 0 0, .slice none 0 0] 35)).heap.size = w.heap.size + 1 := by simp
  have q0 := hR1.c0
  have q1 := hR1.c1
  have q2 := hR1.c2
  have g0 := hR1.f0
  have g1 := hR1.f1
  have g2 := hR1.f2
  have hr := ((hR1.put0 (.slice none 0 0)).put1 (.slice none 0 0)).put2 (.slice none 0 0)
  have Hr := Lib.hid hr
  clear hR1 hr
  have NO : mkOk n u d p = false → ∀ W, Below w.heap.size w W → (∃ v, Ending.returned (.tuple #[.agg #[.slice none 0 0, .slice none 0 0, .slice none 0 0], .bool false]) = .returned (.tuple #[v, .bool (mkOk n u d p)]) ∧ MkR W w.heap.size v (mkP n u d p) (mkW n u d p) (mkL n u d p)) ∧ Below w.heap.size w W := fun h W hW => by
    obtain ⟨h1, h2, h3⟩ := mkV_no h
    rw [h, h1, h2, h3]
    exact ⟨⟨_, rfl, (Tri.nil W w.heap.size).mkr⟩, hW⟩
  have HNO := Lib.hid NO
  clear NO
  cases hrow : rowB n u d
  · have Hrow := Lib.hid hrow
    clear hrow
    go_enter Try.func15, Try.ntmps15
    go_wp2_with (go_at_call 40; refine (impl_isRow _ _ _ _).mono ?_; rintro e w' ⟨rfl, rfl⟩; rw [Hrow.out])
    have e0 := Hr.out.c0
    have e1 := Hr.out.c1
    have e2 := Hr.out.c2
    exact bodyPost_ret (v := .tuple #[.agg #[.slice none 0 0, .slice none 0 0, .slice none 0 0], .bool false]) (by simp [results, Try.results15, go_sem, e0, e1, e2]) rfl (HNO.out (mk_no1 Hrow.out) _ hb1)
  by_cases hn3 : n > 3
  · have Hrow := Lib.hid hrow
    clear hrow
    go_enter Try.func15, Try.ntmps15
    go_wp2_with (go_at_call 40; refine (impl_isRow _ _ _ _).mono ?_; rintro e w' ⟨rfl, rfl⟩; rw [Hrow.out])
    have e0 := Hr.out.c0
    have e1 := Hr.out.c1
    have e2 := Hr.out.c2
    exact bodyPost_ret (v := .tuple #[.agg #[.slice none 0 0, .slice none 0 0, .slice none 0 0], .bool false]) (by simp [results, Try.results15, go_sem, e0, e1, e2]) rfl (HNO.out (mk_no2 (by omega)) _ hb1)
  have hrt := rowB_t hrow
  obtain ⟨N, rfl⟩ : ∃ N : Nat, n = N := ⟨n.toNat, by omega⟩
  have hN := nodes_le (n := N) (by omega)
  obtain ⟨M, hM⟩ : ∃ M, M = nodesN N := ⟨_, rfl⟩
  rw [← hM] at hN
  have HM := Lib.hid hM
  have Hrow := Lib.hid hrow
  have hP1 := Trip.new (w.alloc (.cells #[.slice none 0 0, .slice none 0 0, .slice none 0 0] 35)) (.slice none 0 0) (.slice none 0 0) (.slice none 0 0) 35
  rw [hs1] at hP1
  have HP1 := Lib.hid hP1
  have HR2 := Lib.hid (HR1.out.alloc (.cells #[.slice none 0 0, .slice none 0 0, .slice none 0 0] 35))
  have hb2 := hb1.alloc hb1.size (.cells #[.slice none 0 0, .slice none 0 0, .slice none 0 0] 35)
  have p0 := hP1.c0
  have p1 := hP1.c1
  have p2 := hP1.c2
  have j0 := hP1.f0
  have j1 := hP1.f1
  have j2 := hP1.f2
  have k1 : IntKind.i64.wrap ((N : Int) + 1) = (N : Int) + 1 := IntWalk.i64_in _ (by omega)
  have k0 : (0 : Int) ≤ (N : Int) + 1 := by omega
  clear hP1 hrow hM HR1 Hr q0 q1 q2 g0 g1 g2
  go_enter Try.func15, Try.ntmps15
  go_upto_region 4 with (go_at_call 40; refine (impl_isRow _ _ _ _).mono ?_; rintro e w' ⟨rfl, rfl⟩; rw [Hrow.out])
  generalize ((w.alloc (.cells #[.slice none 0 0, .slice none 0 0, .slice none 0 0] 35)).alloc (.cells #[.slice none 0 0, .slice none 0 0, .slice none 0 0] 35)) = w2 at *
  clear p0 p1 p2 j0 j1 j2 hb1 hs1
  go_cut [11] (fun v11 wc => v11 = .int .i64 (M : Int) ∧ wc = w2)
  case first =>
    have hM := HM.out
    rcases (by omega : N = 0 ∨ N = 1 ∨ N = 2 ∨ N = 3) with rfl | rfl | rfl | rfl
    all_goals
      subst hM
      go_wp2_with fail
      trace_state
      go_meet
      exact ⟨rfl, rfl⟩
  case rest =>
    obtain ⟨rfl, hwc⟩ := hcut
    subst hwc
    clear k1 k0
    have hl2 := HP1.out.lt
    have hsz : w.heap.size + 2 ≤ wc.heap.size := by omega
    clear hl2
    obtain ⟨wo, hwo⟩ : ∃ z, z = wc := ⟨_, rfl⟩
    rw [← hwo] at HP1 HR2 hb2 hsz ⊢
    clear hwo
    go_wp2_with fail
    go_loopw [32] (fun v32 wr => ∃ (x : Nat) (vP vW vL : Value), x ≤ M ∧ v32 = .int .i64 (x : Int) ∧ Trip wr (w.heap.size + 1) vP vW vL ∧ Tri wr (w.heap.size + 2) vP vW vL (parL x) (wtL M x) (prL u d p x) ∧ (∀ y, y < x → inB (prI u d p y) 0 20 = true) ∧ Trip wr w.heap.size (.slice none 0 0) (.slice none 0 0) (.slice none 0 0) ∧ Below w.heap.size w wr) (fun v32 _ => M - (intOf v32).toNat)
    case atStart => exact ⟨0, _, _, _, Nat.zero_le _, rfl, HP1.out, Tri.nil _ _, fun y hy => by omega, HR2.out, hb2⟩
    case round =>
      clear HP1 HR2 hb2 hsz
      obtain ⟨x, vP, vW, vL, hx, rfl, hTB, hTR, hin, hRB, hbw⟩ := hrel
      have hl2 := hTB.lt
      have hsz : w.heap.size + 2 ≤ wr.heap.size := by omega
      have TB := Lib.hid hTB
      have TR := Lib.hid hTR
      have RB := Lib.hid hRB
      have BW := Lib.hid hbw
      have Hin := Lib.hid hin
      clear hTB hTR hRB hbw hin hl2
      by_cases hlt : (x : Int) < M
      · obtain ⟨wq, hwq⟩ : ∃ z, z = wr := ⟨_, rfl⟩
        rw [← hwq] at TB TR RB BW hsz ⊢
        clear hwq
        go_upto_if 37 with fail
        go_cut [13, 14] from 36 to 57 (fun v13 v14 wc => (v13 = .int .i64 (parI x) ∧ v14 = .int .i64 (prI u d p x)) ∧ wc = wq)
        case first =>
          by_cases hx0 : (x : Int) > 0
          · obtain ⟨gL, cL, hv, hg1, hg2⟩ := TR.out.l.form (by rw [prL_length]; omega)
            have hTl := TR.out.l
            rw [hv, prL_length] at hTl
            have b2 := TB.out.c2
            rw [hv, prL_length] at b2
            obtain ⟨y, hy⟩ : ∃ y, y = (x - 1) / 2 := ⟨_, rfl⟩
            have hyx : y < x := by omega
            have hcy := hTl.cell (i := y) (by rw [prL_length]; exact hyx)
            rw [nth_prL hyx] at hcy
            have hby := inB_t (Hin.out y hyx)
            have hud := hrt
            have hpar : parI x = (y : Int) := by unfold parI; rw [if_neg (by omega), hy]
            have k1 : IntKind.i64.wrap ((x : Int) - 1) = (x : Int) - 1 := IntWalk.i64_in _ (by omega)
            have k2 : ((x : Int) - 1).tdiv 2 = (y : Int) := by rw [Int.tdiv_eq_ediv_of_nonneg (by omega)]; omega
            have k3 : IntKind.i64.wrap (y : Int) = (y : Int) := IntWalk.i64_in _ (by omega)
            have k4 : IntKind.i64.wrap (prI u d p y + u) = prI u d p y + u := IntWalk.i64_in _ (by omega)
            have k5 : IntKind.i64.wrap (prI u d p y - d) = prI u d p y - d := IntWalk.i64_in _ (by omega)
            have k6 : (0 : Int) ≤ (y : Int) := by omega
            have k7 : (y : Int) < (x : Int) := by omega
            rcases Nat.mod_two_eq_zero_or_one x with hm | hm
            · have hpx : prI u d p x = prI u d p y - d := by rw [show x = 2 * y + 2 by omega]; exact pr_even _ _ _ _
              have k8 : (x : Int).tmod 2 = 0 := by rw [Int.tmod_eq_emod_of_nonneg (by omega)]; omega
              have Hpx := Lib.hid hpx
              have Hpar := Lib.hid hpar
              clear hTl hby hv hy hm hpx hpar
              generalize prI u d p y = z at *
              go_wp2_with fail
              go_meet
              exact ⟨⟨by rw [Hpar.out], by rw [Hpx.out]⟩, rfl⟩
            · have hpx : prI u d p x = prI u d p y + u := by rw [show x = 2 * y + 1 by omega]; exact pr_odd _ _ _ _
              have k8 : (x : Int).tmod 2 = 1 := by rw [Int.tmod_eq_emod_of_nonneg (by omega)]; omega
              have Hpx := Lib.hid hpx
              have Hpar := Lib.hid hpar
              clear hTl hby hv hy hm hpx hpar
              generalize prI u d p y = z at *
              go_wp2_with fail
              go_meet
              exact ⟨⟨by rw [Hpar.out], by rw [Hpx.out]⟩, rfl⟩
          · obtain rfl : x = 0 := by omega
            go_wp2_with fail
            go_meet
            exact ⟨⟨rfl, by rw [pr_zero]⟩, rfl⟩
        case rest =>
          obtain ⟨⟨rfl, rfl⟩, hwc⟩ := hcut
          subst hwc
          have k1 : IntKind.i64.wrap (2 * (x : Int)) = 2 * (x : Int) := IntWalk.i64_in _ (by omega)
          have k2 : IntKind.i64.wrap (2 * (x : Int) + 1) = 2 * (x : Int) + 1 := IntWalk.i64_in _ (by omega)
          go_upto_if 62 with fail
          go_cut [15] from 58 to 62 (fun v15 wc2 => v15 = .int .i64 (wtI M x) ∧ wc2 = wc)
          case first =>
            by_cases hw : 2 * (x : Int) + 1 ≥ M
            · have hwt : wtI M x = 1 := by unfold wtI; rw [if_pos (by omega)]
              have Hwt := Lib.hid hwt
              clear hwt
              go_wp2_with fail
              go_meet
              exact ⟨by rw [Hwt.out], rfl⟩
            · have hwt : wtI M x = 0 := by unfold wtI; rw [if_neg (by omega)]
              have Hwt := Lib.hid hwt
              clear hwt
              go_wp2_with fail
              go_meet
              exact ⟨by rw [Hwt.out], rfl⟩
          case rest =>
            obtain ⟨rfl, hwc⟩ := hcut
            subst hwc
            clear k1 k2
            cases hb : inB (prI u d p x) 0 20
            · have Hno := Lib.hid (mk_no3 (n := (N : Int)) (by rw [Int.toNat_natCast, ← HM.out]; omega : x < nodesN ((N : Int)).toNat) hb)
              have Hb := Lib.hid hb
              have q0 := RB.out.c0
              have q1 := RB.out.c1
              have q2 := RB.out.c2
              have g0 := RB.out.f0
              have g1 := RB.out.f1
              have g2 := RB.out.f2
              have hr := ((RB.out.put0 (.slice none 0 0)).put1 (.slice none 0 0)).put2 (.slice none 0 0)
              have e0 := hr.c0
              have e1 := hr.c1
              have e2 := hr.c2
              clear hb hr
              go_wp2_with (go_at_call 49; refine (impl_within _ _ _ _).mono ?_; rintro e w' ⟨rfl, rfl⟩; rw [Hb.out])
              exact bodyPost_ret (v := .tuple #[.agg #[.slice none 0 0, .slice none 0 0, .slice none 0 0], .bool false]) (by simp [results, Try.results15, go_sem, e0, e1, e2]) rfl (HNO.out Hno.out _ (((BW.out.setCell (Nat.le_refl _) _).setCell (Nat.le_refl _) _).setCell (Nat.le_refl _) _))
            · have Hb := Lib.hid hb
              have hb20 := inB_t hb
              clear hb
              have HPs := Lib.hid (parL_succ x)
              have HWs := Lib.hid (wtL_succ M x)
              have HLs := Lib.hid (prL_succ u d p x)
              have Hin2 : Hid (∀ y, y < x + 1 → inB (prI u d p y) 0 20 = true) := Lib.hid fun y hy => by
                rcases (by omega : y < x ∨ y = x) with h | rfl
                · exact Hin.out y h
                · exact Hb.out
              have HltP : Hid (∀ q, vP.ownBlock = some q → q < _) := Lib.hid fun q h => (World.ownsRow.lt TR.out.p q h).2
              have HltW : Hid (∀ q, vW.ownBlock = some q → q < _) := Lib.hid fun q h => (World.ownsRow.lt TR.out.q q h).2
              have HltL : Hid (∀ q, vL.ownBlock = some q → q < _) := Lib.hid fun q h => (World.ownsRow.lt TR.out.l q h).2
              go_upto_region 18 with (go_at_call 49; refine (impl_within _ _ _ _).mono ?_; rintro e w' ⟨rfl, rfl⟩; rw [Hb.out])
              generalize parI x = pv at *
              generalize wtI M x = wv at *
              generalize prI u d p x = qv at *
              refine wp_region_noPanic ?_
              refine startK (S := (fun W' => W'.cell? ⟨w.heap.size + 1, 0, none⟩ = some vP ∧ W'.cell? ⟨w.heap.size + 1, 1, none⟩ = some vW ∧ W'.cell? ⟨w.heap.size + 1, 2, none⟩ = some vL)) (k := 19) (by kernel_rfl) ?_ (fun hHeld0 => ?_)
              · (try dsimp only); first | assumption | exact TB.out.s | exact TB.out.drew.s | exact (TB.out.alloc _).s | exact (TB.out.alloc _).drew.s | exact ((TB.out.alloc _).alloc _).s | exact ((TB.out.alloc _).alloc _).drew.s | exact (((TB.out.alloc _).alloc _).alloc _).s | exact (((TB.out.alloc _).alloc _).alloc _).drew.s
              refine takeK (i := 0) (oi := _) (v := ?_) rfl (by kernel_rfl) (by kernel_rfl) (by kernel_rfl) (by kernel_rfl) (by kernel_rfl) (fun _ _ _ h => h) (Or.inl ⟨by rfl, ?_⟩) (by assumption) ?_
              rotate_left
              · first | (intro w hSw; (try dsimp only at hSw); go_simp; done) | (intro w hSw; (try dsimp only at hSw); go_simp; with_reducible rfl)
              (try simp only [Act.put, List.setIfInBounds_toArray, List.set_cons_zero, List.set_cons_succ])
              refine takeK (i := 1) (oi := _) (v := ?_) rfl (by kernel_rfl) (by kernel_rfl) (by kernel_rfl) (by kernel_rfl) (by kernel_rfl) (fun _ _ _ h => h) (Or.inl ⟨by rfl, ?_⟩) (by assumption) ?_
              rotate_left
              · first | (intro w hSw; (try dsimp only at hSw); go_simp; done) | (intro w hSw; (try dsimp only at hSw); go_simp; with_reducible rfl)
              (try simp only [Act.put, List.setIfInBounds_toArray, List.set_cons_zero, List.set_cons_succ])
              refine takeK (i := 2) (oi := _) (v := ?_) rfl (by kernel_rfl) (by kernel_rfl) (by kernel_rfl) (by kernel_rfl) (by kernel_rfl) (fun _ _ _ h => h) (Or.inl ⟨by rfl, ?_⟩) (by assumption) ?_
              rotate_left
              · first | (intro w hSw; (try dsimp only at hSw); go_simp; done) | (intro w hSw; (try dsimp only at hSw); go_simp; with_reducible rfl)
              (try simp only [Act.put, List.setIfInBounds_toArray, List.set_cons_zero, List.set_cons_succ])
              refine takeK (i := 3) (oi := _) (v := ?_) rfl (by kernel_rfl) (by kernel_rfl) (by kernel_rfl) (by kernel_rfl) (by kernel_rfl) (fun _ _ _ h => h) (Or.inl ⟨by rfl, ?_⟩) (by assumption) ?_
              rotate_left
              · first | (intro w hSw; (try dsimp only at hSw); go_simp; done) | (intro w hSw; (try dsimp only at hSw); go_simp; with_reducible rfl)
              (try simp only [Act.put, List.setIfInBounds_toArray, List.set_cons_zero, List.set_cons_succ])
              refine takeK (i := 6) (oi := _) (v := ?_) rfl (by kernel_rfl) (by kernel_rfl) (by kernel_rfl) (by kernel_rfl) (by kernel_rfl) (fun _ _ _ h => h) (Or.inl ⟨by rfl, ?_⟩) (by assumption) ?_
              rotate_left
              · first | (intro w hSw; (try dsimp only at hSw); go_simp; done) | (intro w hSw; (try dsimp only at hSw); go_simp; with_reducible rfl)
              (try simp only [Act.put, List.setIfInBounds_toArray, List.set_cons_zero, List.set_cons_succ])
              refine takeK (i := 7) (oi := _) (v := ?_) rfl (by kernel_rfl) (by kernel_rfl) (by kernel_rfl) (by kernel_rfl) (by kernel_rfl) (fun _ _ _ h => h) (Or.inl ⟨by rfl, ?_⟩) (by assumption) ?_
              rotate_left
              · first | (intro w hSw; (try dsimp only at hSw); go_simp; done) | (intro w hSw; (try dsimp only at hSw); go_simp; with_reducible rfl)
              (try simp only [Act.put, List.setIfInBounds_toArray, List.set_cons_zero, List.set_cons_succ])
              refine takeK (i := 8) (oi := _) (v := ?_) rfl (by kernel_rfl) (by kernel_rfl) (by kernel_rfl) (by kernel_rfl) (by kernel_rfl) (fun _ _ _ h => h) (Or.inl ⟨by rfl, ?_⟩) (by assumption) ?_
              rotate_left
              · first | (intro w hSw; (try dsimp only at hSw); go_simp; done) | (intro w hSw; (try dsimp only at hSw); go_simp; with_reducible rfl)
              (try simp only [Act.put, List.setIfInBounds_toArray, List.set_cons_zero, List.set_cons_succ])
              refine takeK (i := 9) (oi := _) (v := ?_) rfl (by kernel_rfl) (by kernel_rfl) (by kernel_rfl) (by kernel_rfl) (by kernel_rfl) (fun _ _ _ h => h) (Or.inl ⟨by rfl, ?_⟩) (by assumption) ?_
              rotate_left
              · first | (intro w hSw; (try dsimp only at hSw); go_simp; done) | (intro w hSw; (try dsimp only at hSw); go_simp; with_reducible rfl)
              (try simp only [Act.put, List.setIfInBounds_toArray, List.set_cons_zero, List.set_cons_succ])
              refine takeK (i := 12) (oi := _) (v := ?_) rfl (by kernel_rfl) (by kernel_rfl) (by kernel_rfl) (by kernel_rfl) (by kernel_rfl) (fun _ _ _ h => h) (Or.inl ⟨by rfl, ?_⟩) (by assumption) ?_
              rotate_left
              · first | (intro w hSw; (try dsimp only at hSw); go_simp; done) | (intro w hSw; (try dsimp only at hSw); go_simp; with_reducible rfl)
              (try simp only [Act.put, List.setIfInBounds_toArray, List.set_cons_zero, List.set_cons_succ])
              refine takeK (i := 13) (oi := _) (v := ?_) rfl (by kernel_rfl) (by kernel_rfl) (by kernel_rfl) (by kernel_rfl) (by kernel_rfl) (fun _ _ _ h => h) (Or.inl ⟨by rfl, ?_⟩) (by assumption) ?_
              rotate_left
              · first | (intro w hSw; (try dsimp only at hSw); go_simp; done) | (intro w hSw; (try dsimp only at hSw); go_simp; with_reducible rfl)
              (try simp only [Act.put, List.setIfInBounds_toArray, List.set_cons_zero, List.set_cons_succ])
              refine takeK (i := 14) (oi := _) (v := ?_) rfl (by kernel_rfl) (by kernel_rfl) (by kernel_rfl) (by kernel_rfl) (by kernel_rfl) (fun _ _ _ h => h) (Or.inl ⟨by rfl, ?_⟩) (by assumption) ?_
              rotate_left
              · first | (intro w hSw; (try dsimp only at hSw); go_simp; done) | (intro w hSw; (try dsimp only at hSw); go_simp; with_reducible rfl)
              (try simp only [Act.put, List.setIfInBounds_toArray, List.set_cons_zero, List.set_cons_succ])
              refine readyK (rs := [4, 10, 15]) (by kernel_rfl) (by simp) ?_
              refine (consA rfl (by decide) (fun Kq hKq => ?_) (consA rfl (by decide) (fun Kq hKq => ?_) (consA rfl (by decide) (fun Kq hKq => ?_) nilK)))
              · go_simp
                refine hKq.out _ _ ?_ (fun hHeld1 => ?_)
                · (try dsimp only); first | assumption | exact TB.out.s | exact TB.out.drew.s | exact (TB.out.alloc _).s | exact (TB.out.alloc _).drew.s | exact ((TB.out.alloc _).alloc _).s | exact ((TB.out.alloc _).alloc _).drew.s | exact (((TB.out.alloc _).alloc _).alloc _).s | exact (((TB.out.alloc _).alloc _).alloc _).drew.s
                clear hKq Kq
                (try simp only [Act.put, List.setIfInBounds_toArray, List.set_cons_zero, List.set_cons_succ])
                clear hHeld0
                refine readyK (rs := [5, 10, 15]) (by kernel_rfl) (by simp) ?_
                refine (consA rfl (by decide) (fun Kq hKq => ?_) (consA rfl (by decide) (fun Kq hKq => ?_) (consA rfl (by decide) (fun Kq hKq => ?_) nilK)))
                · (refine step_triP (w0 := wc) (B := w.heap.size + 2) rfl _ _ rfl (by rfl) (by rfl) TR.out (below_new _ _).drew (lit_new wc pv wc.heap.size (by simp)).drew (by rw [parL_length]; omega) (by omega) ?_
                   intro v1 y1 ht1 hb1 hk1
                   have hz1 : wc.heap.size ≤ y1.heap.size := by have := hb1.size; omega
                   obtain ⟨a1, c1, hv1⟩ := ht1.p.sliceN (n := x + 1) (by rw [List.length_append, parL_length]; rfl)
                   subst hv1
                   have TR := Lib.hid ht1
                   have TB := Lib.hid (TB.out.up hb1 (by omega))
                   have RB := Lib.hid (RB.out.up hb1 (by omega))
                   have BW := Lib.hid (BW.out.trans (hb1.mono (by omega)))
                   clear ht1 hb1 hk1)
                  refine hKq.out _ _ ?_ (fun hHeld2 => ?_)
                  · (try dsimp only); first | assumption | exact TB.out.s | exact TB.out.drew.s | exact (TB.out.alloc _).s | exact (TB.out.alloc _).drew.s | exact ((TB.out.alloc _).alloc _).s | exact ((TB.out.alloc _).alloc _).drew.s | exact (((TB.out.alloc _).alloc _).alloc _).s | exact (((TB.out.alloc _).alloc _).alloc _).drew.s
                  clear hKq Kq
                  (try simp only [Act.put, List.setIfInBounds_toArray, List.set_cons_zero, List.set_cons_succ])
                  clear hHeld1
                  refine takeK (i := 17) (oi := _) (v := ?_) rfl (by kernel_rfl) (by kernel_rfl) (by kernel_rfl) (by kernel_rfl) (by kernel_rfl) (fun _ _ _ h => h) (Or.inl ⟨by rfl, ?_⟩) (by assumption) ?_
                  rotate_left
                  · first | (intro w hSw; (try dsimp only at hSw); go_simp; done) | (intro w hSw; (try dsimp only at hSw); go_simp; with_reducible rfl)
                  (try simp only [Act.put, List.setIfInBounds_toArray, List.set_cons_zero, List.set_cons_succ])
                  refine takeK (i := 18) (oi := _) (v := ?_) rfl (by kernel_rfl) (by kernel_rfl) (by kernel_rfl) (by kernel_rfl) (by kernel_rfl) (fun _ _ _ h => h) (Or.inl ⟨by rfl, ?_⟩) (by assumption) ?_
                  rotate_left
                  · first | (intro w hSw; (try dsimp only at hSw); go_simp; done) | (intro w hSw; (try dsimp only at hSw); go_simp; with_reducible rfl)
                  (try simp only [Act.put, List.setIfInBounds_toArray, List.set_cons_zero, List.set_cons_succ])
                  refine readyK (rs := [10, 15]) (by kernel_rfl) (by simp) ?_
                  refine (consA rfl (by decide) (fun Kq hKq => ?_) (consA rfl (by decide) (fun Kq hKq => ?_) nilK))
                  · go_simp
                    refine hKq.out _ _ ?_ (fun hHeld3 => ?_)
                    · (try dsimp only); first | assumption | exact TB.out.s | exact TB.out.drew.s | exact (TB.out.alloc _).s | exact (TB.out.alloc _).drew.s | exact ((TB.out.alloc _).alloc _).s | exact ((TB.out.alloc _).alloc _).drew.s | exact (((TB.out.alloc _).alloc _).alloc _).s | exact (((TB.out.alloc _).alloc _).alloc _).drew.s
                    clear hKq Kq
                    (try simp only [Act.put, List.setIfInBounds_toArray, List.set_cons_zero, List.set_cons_succ])
                    clear hHeld2
                    refine readyK (rs := [11, 15]) (by kernel_rfl) (by simp) ?_
                    refine (consA rfl (by decide) (fun Kq hKq => ?_) (consA rfl (by decide) (fun Kq hKq => ?_) nilK))
                    · (refine step_triW (w0 := y1) (B := w.heap.size + 2) rfl _ _ rfl (by rfl) (by rfl) TR.out (below_new _ _) (lit_new y1 wv y1.heap.size (by simp)) (by rw [wtL_length]; omega) (by omega) ?_
                       intro v2 y2 ht2 hb2 hk2
                       have hz2 : wc.heap.size ≤ y2.heap.size := by have := hb2.size; omega
                       obtain ⟨a2, c2, hv2⟩ := ht2.q.sliceN (n := x + 1) (by rw [List.length_append, wtL_length]; rfl)
                       subst hv2
                       have TR := Lib.hid ht2
                       have TB := Lib.hid (TB.out.up hb2 (by omega))
                       have RB := Lib.hid (RB.out.up hb2 (by omega))
                       have BW := Lib.hid (BW.out.trans (hb2.mono (by omega)))
                       clear ht2 hb2 hk2)
                      refine hKq.out _ _ ?_ (fun hHeld4 => ?_)
                      · (try dsimp only); first | assumption | exact TB.out.s | exact TB.out.drew.s | exact (TB.out.alloc _).s | exact (TB.out.alloc _).drew.s | exact ((TB.out.alloc _).alloc _).s | exact ((TB.out.alloc _).alloc _).drew.s | exact (((TB.out.alloc _).alloc _).alloc _).s | exact (((TB.out.alloc _).alloc _).alloc _).drew.s
                      clear hKq Kq
                      (try simp only [Act.put, List.setIfInBounds_toArray, List.set_cons_zero, List.set_cons_succ])
                      clear hHeld3
                      refine readyK (rs := [15]) (by kernel_rfl) (by simp) ?_
                      refine (consA rfl (by decide) (fun Kq hKq => ?_) nilK)
                      go_simp
                      refine hKq.out _ _ ?_ (fun hHeld5 => ?_)
                      · (try dsimp only); first | assumption | exact TB.out.s | exact TB.out.drew.s | exact (TB.out.alloc _).s | exact (TB.out.alloc _).drew.s | exact ((TB.out.alloc _).alloc _).s | exact ((TB.out.alloc _).alloc _).drew.s | exact (((TB.out.alloc _).alloc _).alloc _).s | exact (((TB.out.alloc _).alloc _).alloc _).drew.s
                      clear hKq Kq
                      (try simp only [Act.put, List.setIfInBounds_toArray, List.set_cons_zero, List.set_cons_succ])
                      clear hHeld4
                      refine readyK (rs := [16]) (by kernel_rfl) (by simp) ?_
                      refine (consA rfl (by decide) (fun Kq hKq => ?_) nilK)
                      (refine step_triL (w0 := y2) (B := w.heap.size + 2) rfl _ _ rfl (by rfl) (by rfl) TR.out (below_new _ _) (lit_new y2 qv y2.heap.size (by simp)) (by rw [prL_length]; omega) (by omega) ?_
                       intro v3 y3 ht3 hb3 hk3
                       have hz3 : wc.heap.size ≤ y3.heap.size := by have := hb3.size; omega
                       obtain ⟨a3, c3, hv3⟩ := ht3.l.sliceN (n := x + 1) (by rw [List.length_append, prL_length]; rfl)
                       subst hv3
                       have TR := Lib.hid ht3
                       have TB := Lib.hid (TB.out.up hb3 (by omega))
                       have RB := Lib.hid (RB.out.up hb3 (by omega))
                       have BW := Lib.hid (BW.out.trans (hb3.mono (by omega)))
                       clear ht3 hb3 hk3
                       have zc0 := TB.out.c0
                       have zc1 := TB.out.c1
                       have zc2 := TB.out.c2
                       have zf0 := TB.out.f0
                       have zf1 := TB.out.f1
                       have zf2 := TB.out.f2)
                      refine hKq.out _ _ ?_ (fun hHeld6 => ?_)
                      · (try dsimp only); first | assumption | exact TB.out.s | exact TB.out.drew.s | exact (TB.out.alloc _).s | exact (TB.out.alloc _).drew.s | exact ((TB.out.alloc _).alloc _).s | exact ((TB.out.alloc _).alloc _).drew.s | exact (((TB.out.alloc _).alloc _).alloc _).s | exact (((TB.out.alloc _).alloc _).alloc _).drew.s
                      clear hKq Kq
                      (try simp only [Act.put, List.setIfInBounds_toArray, List.set_cons_zero, List.set_cons_succ])
                      clear hHeld5
                      refine readyK (rs := [19]) (by kernel_rfl) (by simp) ?_
                      refine (consB rfl (by decide) (fun Kq hKq => ?_) nilK)
                      go_simp
                      refine hKq.out _ _ trivial (fun _ => ?_)
                      clear hKq Kq
                      (try simp only [Act.put, List.setIfInBounds_toArray, List.set_cons_zero, List.set_cons_succ])
                      refine readyK (rs := [20]) (by kernel_rfl) (by simp) ?_
                      refine (consB rfl (by decide) (fun Kq hKq => ?_) nilK)
                      go_simp
                      refine hKq.out _ _ trivial (fun _ => ?_)
                      clear hKq Kq
                      (try simp only [Act.put, List.setIfInBounds_toArray, List.set_cons_zero, List.set_cons_succ])
                      refine readyK (rs := [21]) (by kernel_rfl) (by simp) ?_
                      refine (consB rfl (by decide) (fun Kq hKq => ?_) nilK)
                      go_simp
                      refine hKq.out _ _ trivial (fun _ => ?_)
                      clear hKq Kq
                      (try simp only [Act.put, List.setIfInBounds_toArray, List.set_cons_zero, List.set_cons_succ])
                      refine readyK (rs := [22]) (by kernel_rfl) (by simp) ?_
                      refine (consB rfl (by decide) (fun Kq hKq => ?_) nilK)
                      go_simp
                      refine hKq.out _ _ trivial (fun _ => ?_)
                      clear hKq Kq
                      (try simp only [Act.put, List.setIfInBounds_toArray, List.set_cons_zero, List.set_cons_succ])
                      refine readyK (rs := [23]) (by kernel_rfl) (by simp) ?_
                      refine (consB rfl (by decide) (fun Kq hKq => ?_) nilK)
                      go_simp
                      refine hKq.out _ _ trivial (fun _ => ?_)
                      clear hKq Kq
                      (try simp only [Act.put, List.setIfInBounds_toArray, List.set_cons_zero, List.set_cons_succ])
                      refine readyK (rs := [24]) (by kernel_rfl) (by simp) ?_
                      refine (consB rfl (by decide) (fun Kq hKq => ?_) nilK)
                      go_simp
                      refine hKq.out _ _ trivial (fun _ => ?_)
                      clear hKq Kq
                      (try simp only [Act.put, List.setIfInBounds_toArray, List.set_cons_zero, List.set_cons_succ])
                      refine doneK (by kernel_rfl) ?_ _
                      refine NoPanic.normal ?_
                      go_wp2_with fail
                      go_roundw
                      case rel => exact ⟨x + 1, _, _, _, by omega, by go_num, ((TB.out.put0 _).put1 _).put2 _, by rw [HPs.out, HWs.out, HLs.out]; exact ((TR.out.far (by omega)).far (by omega)).far (by omega), Hin2.out, ((RB.out.far (by omega) _).far (by omega) _).far (by omega) _, (((BW.out.setCell (by simp) _).setCell (by simp) _).setCell (by simp) _)⟩
                      case measure => simp [intOf]; omega
                    · go_simp
                      refine hKq.out _ _ ?_ (fun hHeld4 => ?_)
                      · (try dsimp only); first | assumption | exact TB.out.s | exact TB.out.drew.s | exact (TB.out.alloc _).s | exact (TB.out.alloc _).drew.s | exact ((TB.out.alloc _).alloc _).s | exact ((TB.out.alloc _).alloc _).drew.s | exact (((TB.out.alloc _).alloc _).alloc _).s | exact (((TB.out.alloc _).alloc _).alloc _).drew.s
                      clear hKq Kq
                      (try simp only [Act.put, List.setIfInBounds_toArray, List.set_cons_zero, List.set_cons_succ])
                      clear hHeld3
                      refine readyK (rs := [11]) (by kernel_rfl) (by simp) ?_
                      refine (consA rfl (by decide) (fun Kq hKq => ?_) nilK)
                      (refine step_triW (w0 := y1) (B := w.heap.size + 2) rfl _ _ rfl (by rfl) (by rfl) TR.out ((below_new _ _).alloc (by simp; try omega) _) ((lit_new y1 wv y1.heap.size (by simp)).alloc (.cells #[.int .i64 qv] 3)) (by rw [wtL_length]; omega) (by omega) ?_
                       intro v2 y2 ht2 hb2 hk2
                       have hz2 : wc.heap.size ≤ y2.heap.size := by have := hb2.size; omega
                       obtain ⟨a2, c2, hv2⟩ := ht2.q.sliceN (n := x + 1) (by rw [List.length_append, wtL_length]; rfl)
                       subst hv2
                       have TR := Lib.hid ht2
                       have TB := Lib.hid (TB.out.up hb2 (by omega))
                       have RB := Lib.hid (RB.out.up hb2 (by omega))
                       have BW := Lib.hid (BW.out.trans (hb2.mono (by omega)))
                       have HL15_2 := Lib.hid (hk2 _ _ (lit_new (y1.alloc (.cells #[.int .i64 wv] 3)) qv (y1.heap.size + 1) (by simp)) (fun e => by have h9 := HltW.out _ e; first | omega | (simp at h9; done) | (simp at h9; omega)))
                       clear ht2 hb2 hk2)
                      refine hKq.out _ _ ?_ (fun hHeld5 => ?_)
                      · (try dsimp only); first | assumption | exact TB.out.s | exact TB.out.drew.s | exact (TB.out.alloc _).s | exact (TB.out.alloc _).drew.s | exact ((TB.out.alloc _).alloc _).s | exact ((TB.out.alloc _).alloc _).drew.s | exact (((TB.out.alloc _).alloc _).alloc _).s | exact (((TB.out.alloc _).alloc _).alloc _).drew.s
                      clear hKq Kq
                      (try simp only [Act.put, List.setIfInBounds_toArray, List.set_cons_zero, List.set_cons_succ])
                      clear hHeld4
                      refine readyK (rs := [16]) (by kernel_rfl) (by simp) ?_
                      refine (consA rfl (by decide) (fun Kq hKq => ?_) nilK)
                      (refine step_triL (w0 := y2) (B := w.heap.size + 2) rfl _ _ rfl (by rfl) (by rfl) TR.out (Below.refl _ _) HL15_2.out (by rw [prL_length]; omega) (by omega) ?_
                       intro v3 y3 ht3 hb3 hk3
                       have hz3 : wc.heap.size ≤ y3.heap.size := by have := hb3.size; omega
                       obtain ⟨a3, c3, hv3⟩ := ht3.l.sliceN (n := x + 1) (by rw [List.length_append, prL_length]; rfl)
                       subst hv3
                       have TR := Lib.hid ht3
                       have TB := Lib.hid (TB.out.up hb3 (by omega))
                       have RB := Lib.hid (RB.out.up hb3 (by omega))
                       have BW := Lib.hid (BW.out.trans (hb3.mono (by omega)))
                       clear ht3 hb3 hk3
                       have zc0 := TB.out.c0
                       have zc1 := TB.out.c1
                       have zc2 := TB.out.c2
                       have zf0 := TB.out.f0
                       have zf1 := TB.out.f1
                       have zf2 := TB.out.f2)
                      refine hKq.out _ _ ?_ (fun hHeld6 => ?_)
                      · (try dsimp only); first | assumption | exact TB.out.s | exact TB.out.drew.s | exact (TB.out.alloc _).s | exact (TB.out.alloc _).drew.s | exact ((TB.out.alloc _).alloc _).s | exact ((TB.out.alloc _).alloc _).drew.s | exact (((TB.out.alloc _).alloc _).alloc _).s | exact (((TB.out.alloc _).alloc _).alloc _).drew.s
                      clear hKq Kq
                      (try simp only [Act.put, List.setIfInBounds_toArray, List.set_cons_zero, List.set_cons_succ])
                      clear hHeld5
                      refine readyK (rs := [19]) (by kernel_rfl) (by simp) ?_
                      refine (consB rfl (by decide) (fun Kq hKq => ?_) nilK)
                      go_simp
                      refine hKq.out _ _ trivial (fun _ => ?_)
                      clear hKq Kq
                      (try simp only [Act.put, List.setIfInBounds_toArray, List.set_cons_zero, List.set_cons_succ])
                      refine readyK (rs := [20]) (by kernel_rfl) (by simp) ?_
                      refine (consB rfl (by decide) (fun Kq hKq => ?_) nilK)
                      go_simp
                      refine hKq.out _ _ trivial (fun _ => ?_)
                      clear hKq Kq
                      (try simp only [Act.put, List.setIfInBounds_toArray, List.set_cons_zero, List.set_cons_succ])
                      refine readyK (rs := [21]) (by kernel_rfl) (by simp) ?_
                      refine (consB rfl (by decide) (fun Kq hKq => ?_) nilK)
                      go_simp
                      refine hKq.out _ _ trivial (fun _ => ?_)
                      clear hKq Kq
                      (try simp only [Act.put, List.setIfInBounds_toArray, List.set_cons_zero, List.set_cons_succ])
                      refine readyK (rs := [22]) (by kernel_rfl) (by simp) ?_
                      refine (consB rfl (by decide) (fun Kq hKq => ?_) nilK)
                      go_simp
                      refine hKq.out _ _ trivial (fun _ => ?_)
                      clear hKq Kq
                      (try simp only [Act.put, List.setIfInBounds_toArray, List.set_cons_zero, List.set_cons_succ])
                      refine readyK (rs := [23]) (by kernel_rfl) (by simp) ?_
                      refine (consB rfl (by decide) (fun Kq hKq => ?_) nilK)
                      go_simp
                      refine hKq.out _ _ trivial (fun _ => ?_)
                      clear hKq Kq
                      (try simp only [Act.put, List.setIfInBounds_toArray, List.set_cons_zero, List.set_cons_succ])
                      refine readyK (rs := [24]) (by kernel_rfl) (by simp) ?_
                      refine (consB rfl (by decide) (fun Kq hKq => ?_) nilK)
                      go_simp
                      refine hKq.out _ _ trivial (fun _ => ?_)
                      clear hKq Kq
                      (try simp only [Act.put, List.setIfInBounds_toArray, List.set_cons_zero, List.set_cons_succ])
                      refine doneK (by kernel_rfl) ?_ _
                      refine NoPanic.normal ?_
                      go_wp2_with fail
                      go_roundw
                      case rel => exact ⟨x + 1, _, _, _, by omega, by go_num, ((TB.out.put0 _).put1 _).put2 _, by rw [HPs.out, HWs.out, HLs.out]; exact ((TR.out.far (by omega)).far (by omega)).far (by omega), Hin2.out, ((RB.out.far (by omega) _).far (by omega) _).far (by omega) _, (((BW.out.setCell (by simp) _).setCell (by simp) _).setCell (by simp) _)⟩
                      case measure => simp [intOf]; omega
                  · go_simp
                    refine hKq.out _ _ ?_ (fun hHeld3 => ?_)
                    · (try dsimp only); first | assumption | exact TB.out.s | exact TB.out.drew.s | exact (TB.out.alloc _).s | exact (TB.out.alloc _).drew.s | exact ((TB.out.alloc _).alloc _).s | exact ((TB.out.alloc _).alloc _).drew.s | exact (((TB.out.alloc _).alloc _).alloc _).s | exact (((TB.out.alloc _).alloc _).alloc _).drew.s
                    clear hKq Kq
                    (try simp only [Act.put, List.setIfInBounds_toArray, List.set_cons_zero, List.set_cons_succ])
                    clear hHeld2
                    refine readyK (rs := [10]) (by kernel_rfl) (by simp) ?_
                    refine (consA rfl (by decide) (fun Kq hKq => ?_) nilK)
                    go_simp
                    refine hKq.out _ _ ?_ (fun hHeld4 => ?_)
                    · (try dsimp only); first | assumption | exact TB.out.s | exact TB.out.drew.s | exact (TB.out.alloc _).s | exact (TB.out.alloc _).drew.s | exact ((TB.out.alloc _).alloc _).s | exact ((TB.out.alloc _).alloc _).drew.s | exact (((TB.out.alloc _).alloc _).alloc _).s | exact (((TB.out.alloc _).alloc _).alloc _).drew.s
                    clear hKq Kq
                    (try simp only [Act.put, List.setIfInBounds_toArray, List.set_cons_zero, List.set_cons_succ])
                    clear hHeld3
                    refine readyK (rs := [11]) (by kernel_rfl) (by simp) ?_
                    refine (consA rfl (by decide) (fun Kq hKq => ?_) nilK)
                    (refine step_triW (w0 := y1) (B := w.heap.size + 2) rfl _ _ rfl (by rfl) (by rfl) TR.out ((below_new _ _).alloc (by simp; try omega) _) (lit_new (y1.alloc (.cells #[.int .i64 qv] 3)) wv (y1.heap.size + 1) (by simp)) (by rw [wtL_length]; omega) (by omega) ?_
                     intro v2 y2 ht2 hb2 hk2
                     have hz2 : wc.heap.size ≤ y2.heap.size := by have := hb2.size; omega
                     obtain ⟨a2, c2, hv2⟩ := ht2.q.sliceN (n := x + 1) (by rw [List.length_append, wtL_length]; rfl)
                     subst hv2
                     have TR := Lib.hid ht2
                     have TB := Lib.hid (TB.out.up hb2 (by omega))
                     have RB := Lib.hid (RB.out.up hb2 (by omega))
                     have BW := Lib.hid (BW.out.trans (hb2.mono (by omega)))
                     have HL15_2 := Lib.hid (hk2 _ _ ((lit_new y1 qv y1.heap.size (by simp)).alloc (.cells #[.int .i64 wv] 3)) (fun e => by have h9 := HltW.out _ e; first | omega | (simp at h9; done) | (simp at h9; omega)))
                     clear ht2 hb2 hk2)
                    refine hKq.out _ _ ?_ (fun hHeld5 => ?_)
                    · (try dsimp only); first | assumption | exact TB.out.s | exact TB.out.drew.s | exact (TB.out.alloc _).s | exact (TB.out.alloc _).drew.s | exact ((TB.out.alloc _).alloc _).s | exact ((TB.out.alloc _).alloc _).drew.s | exact (((TB.out.alloc _).alloc _).alloc _).s | exact (((TB.out.alloc _).alloc _).alloc _).drew.s
                    clear hKq Kq
                    (try simp only [Act.put, List.setIfInBounds_toArray, List.set_cons_zero, List.set_cons_succ])
                    clear hHeld4
                    refine readyK (rs := [16]) (by kernel_rfl) (by simp) ?_
                    refine (consA rfl (by decide) (fun Kq hKq => ?_) nilK)
                    (refine step_triL (w0 := y2) (B := w.heap.size + 2) rfl _ _ rfl (by rfl) (by rfl) TR.out (Below.refl _ _) HL15_2.out (by rw [prL_length]; omega) (by omega) ?_
                     intro v3 y3 ht3 hb3 hk3
                     have hz3 : wc.heap.size ≤ y3.heap.size := by have := hb3.size; omega
                     obtain ⟨a3, c3, hv3⟩ := ht3.l.sliceN (n := x + 1) (by rw [List.length_append, prL_length]; rfl)
                     subst hv3
                     have TR := Lib.hid ht3
                     have TB := Lib.hid (TB.out.up hb3 (by omega))
                     have RB := Lib.hid (RB.out.up hb3 (by omega))
                     have BW := Lib.hid (BW.out.trans (hb3.mono (by omega)))
                     clear ht3 hb3 hk3
                     have zc0 := TB.out.c0
                     have zc1 := TB.out.c1
                     have zc2 := TB.out.c2
                     have zf0 := TB.out.f0
                     have zf1 := TB.out.f1
                     have zf2 := TB.out.f2)
                    refine hKq.out _ _ ?_ (fun hHeld6 => ?_)
                    · (try dsimp only); first | assumption | exact TB.out.s | exact TB.out.drew.s | exact (TB.out.alloc _).s | exact (TB.out.alloc _).drew.s | exact ((TB.out.alloc _).alloc _).s | exact ((TB.out.alloc _).alloc _).drew.s | exact (((TB.out.alloc _).alloc _).alloc _).s | exact (((TB.out.alloc _).alloc _).alloc _).drew.s
                    clear hKq Kq
                    (try simp only [Act.put, List.setIfInBounds_toArray, List.set_cons_zero, List.set_cons_succ])
                    clear hHeld5
                    refine readyK (rs := [19]) (by kernel_rfl) (by simp) ?_
                    refine (consB rfl (by decide) (fun Kq hKq => ?_) nilK)
                    go_simp
                    refine hKq.out _ _ trivial (fun _ => ?_)
                    clear hKq Kq
                    (try simp only [Act.put, List.setIfInBounds_toArray, List.set_cons_zero, List.set_cons_succ])
                    refine readyK (rs := [20]) (by kernel_rfl) (by simp) ?_
                    refine (consB rfl (by decide) (fun Kq hKq => ?_) nilK)
                    go_simp
                    refine hKq.out _ _ trivial (fun _ => ?_)
                    clear hKq Kq
                    (try simp only [Act.put, List.setIfInBounds_toArray, List.set_cons_zero, List.set_cons_succ])
                    refine readyK (rs := [21]) (by kernel_rfl) (by simp) ?_
                    refine (consB rfl (by decide) (fun Kq hKq => ?_) nilK)
                    go_simp
                    refine hKq.out _ _ trivial (fun _ => ?_)
                    clear hKq Kq
                    (try simp only [Act.put, List.setIfInBounds_toArray, List.set_cons_zero, List.set_cons_succ])
                    refine readyK (rs := [22]) (by kernel_rfl) (by simp) ?_
                    refine (consB rfl (by decide) (fun Kq hKq => ?_) nilK)
                    go_simp
                    refine hKq.out _ _ trivial (fun _ => ?_)
                    clear hKq Kq
                    (try simp only [Act.put, List.setIfInBounds_toArray, List.set_cons_zero, List.set_cons_succ])
                    refine readyK (rs := [23]) (by kernel_rfl) (by simp) ?_
                    refine (consB rfl (by decide) (fun Kq hKq => ?_) nilK)
                    go_simp
                    refine hKq.out _ _ trivial (fun _ => ?_)
                    clear hKq Kq
                    (try simp only [Act.put, List.setIfInBounds_toArray, List.set_cons_zero, List.set_cons_succ])
                    refine readyK (rs := [24]) (by kernel_rfl) (by simp) ?_
                    refine (consB rfl (by decide) (fun Kq hKq => ?_) nilK)
                    go_simp
                    refine hKq.out _ _ trivial (fun _ => ?_)
                    clear hKq Kq
                    (try simp only [Act.put, List.setIfInBounds_toArray, List.set_cons_zero, List.set_cons_succ])
                    refine doneK (by kernel_rfl) ?_ _
                    refine NoPanic.normal ?_
                    go_wp2_with fail
                    go_roundw
                    case rel => exact ⟨x + 1, _, _, _, by omega, by go_num, ((TB.out.put0 _).put1 _).put2 _, by rw [HPs.out, HWs.out, HLs.out]; exact ((TR.out.far (by omega)).far (by omega)).far (by omega), Hin2.out, ((RB.out.far (by omega) _).far (by omega) _).far (by omega) _, (((BW.out.setCell (by simp) _).setCell (by simp) _).setCell (by simp) _)⟩
                    case measure => simp [intOf]; omega
                · go_simp
                  refine hKq.out _ _ ?_ (fun hHeld2 => ?_)
                  · (try dsimp only); first | assumption | exact TB.out.s | exact TB.out.drew.s | exact (TB.out.alloc _).s | exact (TB.out.alloc _).drew.s | exact ((TB.out.alloc _).alloc _).s | exact ((TB.out.alloc _).alloc _).drew.s | exact (((TB.out.alloc _).alloc _).alloc _).s | exact (((TB.out.alloc _).alloc _).alloc _).drew.s
                  clear hKq Kq
                  (try simp only [Act.put, List.setIfInBounds_toArray, List.set_cons_zero, List.set_cons_succ])
                  clear hHeld1
                  refine readyK (rs := [5, 15]) (by kernel_rfl) (by simp) ?_
                  refine (consA rfl (by decide) (fun Kq hKq => ?_) (consA rfl (by decide) (fun Kq hKq => ?_) nilK))
                  · (refine step_triP (w0 := wc) (B := w.heap.size + 2) rfl _ _ rfl (by rfl) (by rfl) TR.out ((below_new _ _).alloc (by simp; try omega) _).drew ((lit_new wc pv wc.heap.size (by simp)).alloc (.cells #[.int .i64 wv] 3)).drew (by rw [parL_length]; omega) (by omega) ?_
                     intro v1 y1 ht1 hb1 hk1
                     have hz1 : wc.heap.size ≤ y1.heap.size := by have := hb1.size; omega
                     obtain ⟨a1, c1, hv1⟩ := ht1.p.sliceN (n := x + 1) (by rw [List.length_append, parL_length]; rfl)
                     subst hv1
                     have TR := Lib.hid ht1
                     have TB := Lib.hid (TB.out.up hb1 (by omega))
                     have RB := Lib.hid (RB.out.up hb1 (by omega))
                     have BW := Lib.hid (BW.out.trans (hb1.mono (by omega)))
                     have HL10_1 := Lib.hid (hk1 _ _ (lit_new (wc.alloc (.cells #[.int .i64 pv] 3)) wv (wc.heap.size + 1) (by simp)).drew (fun e => by have h9 := HltP.out _ e; first | omega | (simp at h9; done) | (simp at h9; omega)))
                     clear ht1 hb1 hk1)
                    refine hKq.out _ _ ?_ (fun hHeld3 => ?_)
                    · (try dsimp only); first | assumption | exact TB.out.s | exact TB.out.drew.s | exact (TB.out.alloc _).s | exact (TB.out.alloc _).drew.s | exact ((TB.out.alloc _).alloc _).s | exact ((TB.out.alloc _).alloc _).drew.s | exact (((TB.out.alloc _).alloc _).alloc _).s | exact (((TB.out.alloc _).alloc _).alloc _).drew.s
                    clear hKq Kq
                    (try simp only [Act.put, List.setIfInBounds_toArray, List.set_cons_zero, List.set_cons_succ])
                    clear hHeld2
                    refine takeK (i := 17) (oi := _) (v := ?_) rfl (by kernel_rfl) (by kernel_rfl) (by kernel_rfl) (by kernel_rfl) (by kernel_rfl) (fun _ _ _ h => h) (Or.inl ⟨by rfl, ?_⟩) (by assumption) ?_
                    rotate_left
                    · first | (intro w hSw; (try dsimp only at hSw); go_simp; done) | (intro w hSw; (try dsimp only at hSw); go_simp; with_reducible rfl)
                    (try simp only [Act.put, List.setIfInBounds_toArray, List.set_cons_zero, List.set_cons_succ])
                    refine takeK (i := 18) (oi := _) (v := ?_) rfl (by kernel_rfl) (by kernel_rfl) (by kernel_rfl) (by kernel_rfl) (by kernel_rfl) (fun _ _ _ h => h) (Or.inl ⟨by rfl, ?_⟩) (by assumption) ?_
                    rotate_left
                    · first | (intro w hSw; (try dsimp only at hSw); go_simp; done) | (intro w hSw; (try dsimp only at hSw); go_simp; with_reducible rfl)
                    (try simp only [Act.put, List.setIfInBounds_toArray, List.set_cons_zero, List.set_cons_succ])
                    refine readyK (rs := [11, 15]) (by kernel_rfl) (by simp) ?_
                    refine (consA rfl (by decide) (fun Kq hKq => ?_) (consA rfl (by decide) (fun Kq hKq => ?_) nilK))
                    · (refine step_triW (w0 := y1) (B := w.heap.size + 2) rfl _ _ rfl (by rfl) (by rfl) TR.out (Below.refl _ _) HL10_1.out (by rw [wtL_length]; omega) (by omega) ?_
                       intro v2 y2 ht2 hb2 hk2
                       have hz2 : wc.heap.size ≤ y2.heap.size := by have := hb2.size; omega
                       obtain ⟨a2, c2, hv2⟩ := ht2.q.sliceN (n := x + 1) (by rw [List.length_append, wtL_length]; rfl)
                       subst hv2
                       have TR := Lib.hid ht2
                       have TB := Lib.hid (TB.out.up hb2 (by omega))
                       have RB := Lib.hid (RB.out.up hb2 (by omega))
                       have BW := Lib.hid (BW.out.trans (hb2.mono (by omega)))
                       clear ht2 hb2 hk2)
                      refine hKq.out _ _ ?_ (fun hHeld4 => ?_)
                      · (try dsimp only); first | assumption | exact TB.out.s | exact TB.out.drew.s | exact (TB.out.alloc _).s | exact (TB.out.alloc _).drew.s | exact ((TB.out.alloc _).alloc _).s | exact ((TB.out.alloc _).alloc _).drew.s | exact (((TB.out.alloc _).alloc _).alloc _).s | exact (((TB.out.alloc _).alloc _).alloc _).drew.s
                      clear hKq Kq
                      (try simp only [Act.put, List.setIfInBounds_toArray, List.set_cons_zero, List.set_cons_succ])
                      clear hHeld3
                      refine readyK (rs := [15]) (by kernel_rfl) (by simp) ?_
                      refine (consA rfl (by decide) (fun Kq hKq => ?_) nilK)
                      go_simp
                      refine hKq.out _ _ ?_ (fun hHeld5 => ?_)
                      · (try dsimp only); first | assumption | exact TB.out.s | exact TB.out.drew.s | exact (TB.out.alloc _).s | exact (TB.out.alloc _).drew.s | exact ((TB.out.alloc _).alloc _).s | exact ((TB.out.alloc _).alloc _).drew.s | exact (((TB.out.alloc _).alloc _).alloc _).s | exact (((TB.out.alloc _).alloc _).alloc _).drew.s
                      clear hKq Kq
                      (try simp only [Act.put, List.setIfInBounds_toArray, List.set_cons_zero, List.set_cons_succ])
                      clear hHeld4
                      refine readyK (rs := [16]) (by kernel_rfl) (by simp) ?_
                      refine (consA rfl (by decide) (fun Kq hKq => ?_) nilK)
                      (refine step_triL (w0 := y2) (B := w.heap.size + 2) rfl _ _ rfl (by rfl) (by rfl) TR.out (below_new _ _) (lit_new y2 qv y2.heap.size (by simp)) (by rw [prL_length]; omega) (by omega) ?_
                       intro v3 y3 ht3 hb3 hk3
                       have hz3 : wc.heap.size ≤ y3.heap.size := by have := hb3.size; omega
                       obtain ⟨a3, c3, hv3⟩ := ht3.l.sliceN (n := x + 1) (by rw [List.length_append, prL_length]; rfl)
                       subst hv3
                       have TR := Lib.hid ht3
                       have TB := Lib.hid (TB.out.up hb3 (by omega))
                       have RB := Lib.hid (RB.out.up hb3 (by omega))
                       have BW := Lib.hid (BW.out.trans (hb3.mono (by omega)))
                       clear ht3 hb3 hk3
                       have zc0 := TB.out.c0
                       have zc1 := TB.out.c1
                       have zc2 := TB.out.c2
                       have zf0 := TB.out.f0
                       have zf1 := TB.out.f1
                       have zf2 := TB.out.f2)
                      refine hKq.out _ _ ?_ (fun hHeld6 => ?_)
                      · (try dsimp only); first | assumption | exact TB.out.s | exact TB.out.drew.s | exact (TB.out.alloc _).s | exact (TB.out.alloc _).drew.s | exact ((TB.out.alloc _).alloc _).s | exact ((TB.out.alloc _).alloc _).drew.s | exact (((TB.out.alloc _).alloc _).alloc _).s | exact (((TB.out.alloc _).alloc _).alloc _).drew.s
                      clear hKq Kq
                      (try simp only [Act.put, List.setIfInBounds_toArray, List.set_cons_zero, List.set_cons_succ])
                      clear hHeld5
                      refine readyK (rs := [19]) (by kernel_rfl) (by simp) ?_
                      refine (consB rfl (by decide) (fun Kq hKq => ?_) nilK)
                      go_simp
                      refine hKq.out _ _ trivial (fun _ => ?_)
                      clear hKq Kq
                      (try simp only [Act.put, List.setIfInBounds_toArray, List.set_cons_zero, List.set_cons_succ])
                      refine readyK (rs := [20]) (by kernel_rfl) (by simp) ?_
                      refine (consB rfl (by decide) (fun Kq hKq => ?_) nilK)
                      go_simp
                      refine hKq.out _ _ trivial (fun _ => ?_)
                      clear hKq Kq
                      (try simp only [Act.put, List.setIfInBounds_toArray, List.set_cons_zero, List.set_cons_succ])
                      refine readyK (rs := [21]) (by kernel_rfl) (by simp) ?_
                      refine (consB rfl (by decide) (fun Kq hKq => ?_) nilK)
                      go_simp
                      refine hKq.out _ _ trivial (fun _ => ?_)
                      clear hKq Kq
                      (try simp only [Act.put, List.setIfInBounds_toArray, List.set_cons_zero, List.set_cons_succ])
                      refine readyK (rs := [22]) (by kernel_rfl) (by simp) ?_
                      refine (consB rfl (by decide) (fun Kq hKq => ?_) nilK)
                      go_simp
                      refine hKq.out _ _ trivial (fun _ => ?_)
                      clear hKq Kq
                      (try simp only [Act.put, List.setIfInBounds_toArray, List.set_cons_zero, List.set_cons_succ])
                      refine readyK (rs := [23]) (by kernel_rfl) (by simp) ?_
                      refine (consB rfl (by decide) (fun Kq hKq => ?_) nilK)
                      go_simp
                      refine hKq.out _ _ trivial (fun _ => ?_)
                      clear hKq Kq
                      (try simp only [Act.put, List.setIfInBounds_toArray, List.set_cons_zero, List.set_cons_succ])
                      refine readyK (rs := [24]) (by kernel_rfl) (by simp) ?_
                      refine (consB rfl (by decide) (fun Kq hKq => ?_) nilK)
                      go_simp
                      refine hKq.out _ _ trivial (fun _ => ?_)
                      clear hKq Kq
                      (try simp only [Act.put, List.setIfInBounds_toArray, List.set_cons_zero, List.set_cons_succ])
                      refine doneK (by kernel_rfl) ?_ _
                      refine NoPanic.normal ?_
                      go_wp2_with fail
                      go_roundw
                      case rel => exact ⟨x + 1, _, _, _, by omega, by go_num, ((TB.out.put0 _).put1 _).put2 _, by rw [HPs.out, HWs.out, HLs.out]; exact ((TR.out.far (by omega)).far (by omega)).far (by omega), Hin2.out, ((RB.out.far (by omega) _).far (by omega) _).far (by omega) _, (((BW.out.setCell (by simp) _).setCell (by simp) _).setCell (by simp) _)⟩
                      case measure => simp [intOf]; omega
                    · go_simp
                      refine hKq.out _ _ ?_ (fun hHeld4 => ?_)
                      · (try dsimp only); first | assumption | exact TB.out.s | exact TB.out.drew.s | exact (TB.out.alloc _).s | exact (TB.out.alloc _).drew.s | exact ((TB.out.alloc _).alloc _).s | exact ((TB.out.alloc _).alloc _).drew.s | exact (((TB.out.alloc _).alloc _).alloc _).s | exact (((TB.out.alloc _).alloc _).alloc _).drew.s
                      clear hKq Kq
                      (try simp only [Act.put, List.setIfInBounds_toArray, List.set_cons_zero, List.set_cons_succ])
                      clear hHeld3
                      refine readyK (rs := [11]) (by kernel_rfl) (by simp) ?_
                      refine (consA rfl (by decide) (fun Kq hKq => ?_) nilK)
                      (refine step_triW (w0 := y1) (B := w.heap.size + 2) rfl _ _ rfl (by rfl) (by rfl) TR.out (below_new _ _) (HL10_1.out.alloc (.cells #[.int .i64 qv] 3)) (by rw [wtL_length]; omega) (by omega) ?_
                       intro v2 y2 ht2 hb2 hk2
                       have hz2 : wc.heap.size ≤ y2.heap.size := by have := hb2.size; omega
                       obtain ⟨a2, c2, hv2⟩ := ht2.q.sliceN (n := x + 1) (by rw [List.length_append, wtL_length]; rfl)
                       subst hv2
                       have TR := Lib.hid ht2
                       have TB := Lib.hid (TB.out.up hb2 (by omega))
                       have RB := Lib.hid (RB.out.up hb2 (by omega))
                       have BW := Lib.hid (BW.out.trans (hb2.mono (by omega)))
                       have HL15_2 := Lib.hid (hk2 _ _ (lit_new y1 qv y1.heap.size (by simp)) (fun e => by have h9 := HltW.out _ e; first | omega | (simp at h9; done) | (simp at h9; omega)))
                       clear ht2 hb2 hk2)
                      refine hKq.out _ _ ?_ (fun hHeld5 => ?_)
                      · (try dsimp only); first | assumption | exact TB.out.s | exact TB.out.drew.s | exact (TB.out.alloc _).s | exact (TB.out.alloc _).drew.s | exact ((TB.out.alloc _).alloc _).s | exact ((TB.out.alloc _).alloc _).drew.s | exact (((TB.out.alloc _).alloc _).alloc _).s | exact (((TB.out.alloc _).alloc _).alloc _).drew.s
                      clear hKq Kq
                      (try simp only [Act.put, List.setIfInBounds_toArray, List.set_cons_zero, List.set_cons_succ])
                      clear hHeld4
                      refine readyK (rs := [16]) (by kernel_rfl) (by simp) ?_
                      refine (consA rfl (by decide) (fun Kq hKq => ?_) nilK)
                      (refine step_triL (w0 := y2) (B := w.heap.size + 2) rfl _ _ rfl (by rfl) (by rfl) TR.out (Below.refl _ _) HL15_2.out (by rw [prL_length]; omega) (by omega) ?_
                       intro v3 y3 ht3 hb3 hk3
                       have hz3 : wc.heap.size ≤ y3.heap.size := by have := hb3.size; omega
                       obtain ⟨a3, c3, hv3⟩ := ht3.l.sliceN (n := x + 1) (by rw [List.length_append, prL_length]; rfl)
                       subst hv3
                       have TR := Lib.hid ht3
                       have TB := Lib.hid (TB.out.up hb3 (by omega))
                       have RB := Lib.hid (RB.out.up hb3 (by omega))
                       have BW := Lib.hid (BW.out.trans (hb3.mono (by omega)))
                       clear ht3 hb3 hk3
                       have zc0 := TB.out.c0
                       have zc1 := TB.out.c1
                       have zc2 := TB.out.c2
                       have zf0 := TB.out.f0
                       have zf1 := TB.out.f1
                       have zf2 := TB.out.f2)
                      refine hKq.out _ _ ?_ (fun hHeld6 => ?_)
                      · (try dsimp only); first | assumption | exact TB.out.s | exact TB.out.drew.s | exact (TB.out.alloc _).s | exact (TB.out.alloc _).drew.s | exact ((TB.out.alloc _).alloc _).s | exact ((TB.out.alloc _).alloc _).drew.s | exact (((TB.out.alloc _).alloc _).alloc _).s | exact (((TB.out.alloc _).alloc _).alloc _).drew.s
                      clear hKq Kq
                      (try simp only [Act.put, List.setIfInBounds_toArray, List.set_cons_zero, List.set_cons_succ])
                      clear hHeld5
                      refine readyK (rs := [19]) (by kernel_rfl) (by simp) ?_
                      refine (consB rfl (by decide) (fun Kq hKq => ?_) nilK)
                      go_simp
                      refine hKq.out _ _ trivial (fun _ => ?_)
                      clear hKq Kq
                      (try simp only [Act.put, List.setIfInBounds_toArray, List.set_cons_zero, List.set_cons_succ])
                      refine readyK (rs := [20]) (by kernel_rfl) (by simp) ?_
                      refine (consB rfl (by decide) (fun Kq hKq => ?_) nilK)
                      go_simp
                      refine hKq.out _ _ trivial (fun _ => ?_)
                      clear hKq Kq
                      (try simp only [Act.put, List.setIfInBounds_toArray, List.set_cons_zero, List.set_cons_succ])
                      refine readyK (rs := [21]) (by kernel_rfl) (by simp) ?_
                      refine (consB rfl (by decide) (fun Kq hKq => ?_) nilK)
                      go_simp
                      refine hKq.out _ _ trivial (fun _ => ?_)
                      clear hKq Kq
                      (try simp only [Act.put, List.setIfInBounds_toArray, List.set_cons_zero, List.set_cons_succ])
                      refine readyK (rs := [22]) (by kernel_rfl) (by simp) ?_
                      refine (consB rfl (by decide) (fun Kq hKq => ?_) nilK)
                      go_simp
                      refine hKq.out _ _ trivial (fun _ => ?_)
                      clear hKq Kq
                      (try simp only [Act.put, List.setIfInBounds_toArray, List.set_cons_zero, List.set_cons_succ])
                      refine readyK (rs := [23]) (by kernel_rfl) (by simp) ?_
                      refine (consB rfl (by decide) (fun Kq hKq => ?_) nilK)
                      go_simp
                      refine hKq.out _ _ trivial (fun _ => ?_)
                      clear hKq Kq
                      (try simp only [Act.put, List.setIfInBounds_toArray, List.set_cons_zero, List.set_cons_succ])
                      refine readyK (rs := [24]) (by kernel_rfl) (by simp) ?_
                      refine (consB rfl (by decide) (fun Kq hKq => ?_) nilK)
                      go_simp
                      refine hKq.out _ _ trivial (fun _ => ?_)
                      clear hKq Kq
                      (try simp only [Act.put, List.setIfInBounds_toArray, List.set_cons_zero, List.set_cons_succ])
                      refine doneK (by kernel_rfl) ?_ _
                      refine NoPanic.normal ?_
                      go_wp2_with fail
                      go_roundw
                      case rel => exact ⟨x + 1, _, _, _, by omega, by go_num, ((TB.out.put0 _).put1 _).put2 _, by rw [HPs.out, HWs.out, HLs.out]; exact ((TR.out.far (by omega)).far (by omega)).far (by omega), Hin2.out, ((RB.out.far (by omega) _).far (by omega) _).far (by omega) _, (((BW.out.setCell (by simp) _).setCell (by simp) _).setCell (by simp) _)⟩
                      case measure => simp [intOf]; omega
                  · go_simp
                    refine hKq.out _ _ ?_ (fun hHeld3 => ?_)
                    · (try dsimp only); first | assumption | exact TB.out.s | exact TB.out.drew.s | exact (TB.out.alloc _).s | exact (TB.out.alloc _).drew.s | exact ((TB.out.alloc _).alloc _).s | exact ((TB.out.alloc _).alloc _).drew.s | exact (((TB.out.alloc _).alloc _).alloc _).s | exact (((TB.out.alloc _).alloc _).alloc _).drew.s
                    clear hKq Kq
                    (try simp only [Act.put, List.setIfInBounds_toArray, List.set_cons_zero, List.set_cons_succ])
                    clear hHeld2
                    refine readyK (rs := [5]) (by kernel_rfl) (by simp) ?_
                    refine (consA rfl (by decide) (fun Kq hKq => ?_) nilK)
                    (refine step_triP (w0 := wc) (B := w.heap.size + 2) rfl _ _ rfl (by rfl) (by rfl) TR.out (((below_new _ _).alloc (by simp; try omega) _).alloc (by simp; try omega) _).drew (((lit_new wc pv wc.heap.size (by simp)).alloc (.cells #[.int .i64 wv] 3)).alloc (.cells #[.int .i64 qv] 3)).drew (by rw [parL_length]; omega) (by omega) ?_
                     intro v1 y1 ht1 hb1 hk1
                     have hz1 : wc.heap.size ≤ y1.heap.size := by have := hb1.size; omega
                     obtain ⟨a1, c1, hv1⟩ := ht1.p.sliceN (n := x + 1) (by rw [List.length_append, parL_length]; rfl)
                     subst hv1
                     have TR := Lib.hid ht1
                     have TB := Lib.hid (TB.out.up hb1 (by omega))
                     have RB := Lib.hid (RB.out.up hb1 (by omega))
                     have BW := Lib.hid (BW.out.trans (hb1.mono (by omega)))
                     have HL10_1 := Lib.hid (hk1 _ _ ((lit_new (wc.alloc (.cells #[.int .i64 pv] 3)) wv (wc.heap.size + 1) (by simp)).alloc (.cells #[.int .i64 qv] 3)).drew (fun e => by have h9 := HltP.out _ e; first | omega | (simp at h9; done) | (simp at h9; omega)))
                     have HL15_1 := Lib.hid (hk1 _ _ (lit_new ((wc.alloc (.cells #[.int .i64 pv] 3)).alloc (.cells #[.int .i64 wv] 3)) qv (wc.heap.size + 2) (by simp)).drew (fun e => by have h9 := HltP.out _ e; first | omega | (simp at h9; done) | (simp at h9; omega)))
                     clear ht1 hb1 hk1)
                    refine hKq.out _ _ ?_ (fun hHeld4 => ?_)
                    · (try dsimp only); first | assumption | exact TB.out.s | exact TB.out.drew.s | exact (TB.out.alloc _).s | exact (TB.out.alloc _).drew.s | exact ((TB.out.alloc _).alloc _).s | exact ((TB.out.alloc _).alloc _).drew.s | exact (((TB.out.alloc _).alloc _).alloc _).s | exact (((TB.out.alloc _).alloc _).alloc _).drew.s
                    clear hKq Kq
                    (try simp only [Act.put, List.setIfInBounds_toArray, List.set_cons_zero, List.set_cons_succ])
                    clear hHeld3
                    refine takeK (i := 17) (oi := _) (v := ?_) rfl (by kernel_rfl) (by kernel_rfl) (by kernel_rfl) (by kernel_rfl) (by kernel_rfl) (fun _ _ _ h => h) (Or.inl ⟨by rfl, ?_⟩) (by assumption) ?_
                    rotate_left
                    · first | (intro w hSw; (try dsimp only at hSw); go_simp; done) | (intro w hSw; (try dsimp only at hSw); go_simp; with_reducible rfl)
                    (try simp only [Act.put, List.setIfInBounds_toArray, List.set_cons_zero, List.set_cons_succ])
                    refine takeK (i := 18) (oi := _) (v := ?_) rfl (by kernel_rfl) (by kernel_rfl) (by kernel_rfl) (by kernel_rfl) (by kernel_rfl) (fun _ _ _ h => h) (Or.inl ⟨by rfl, ?_⟩) (by assumption) ?_
                    rotate_left
                    · first | (intro w hSw; (try dsimp only at hSw); go_simp; done) | (intro w hSw; (try dsimp only at hSw); go_simp; with_reducible rfl)
                    (try simp only [Act.put, List.setIfInBounds_toArray, List.set_cons_zero, List.set_cons_succ])
                    refine readyK (rs := [11]) (by kernel_rfl) (by simp) ?_
                    refine (consA rfl (by decide) (fun Kq hKq => ?_) nilK)
                    (refine step_triW (w0 := y1) (B := w.heap.size + 2) rfl _ _ rfl (by rfl) (by rfl) TR.out (Below.refl _ _) HL10_1.out (by rw [wtL_length]; omega) (by omega) ?_
                     intro v2 y2 ht2 hb2 hk2
                     have hz2 : wc.heap.size ≤ y2.heap.size := by have := hb2.size; omega
                     obtain ⟨a2, c2, hv2⟩ := ht2.q.sliceN (n := x + 1) (by rw [List.length_append, wtL_length]; rfl)
                     subst hv2
                     have TR := Lib.hid ht2
                     have TB := Lib.hid (TB.out.up hb2 (by omega))
                     have RB := Lib.hid (RB.out.up hb2 (by omega))
                     have BW := Lib.hid (BW.out.trans (hb2.mono (by omega)))
                     have HL15_2 := Lib.hid (hk2 _ _ HL15_1.out (fun e => by have h9 := HltW.out _ e; first | omega | (simp at h9; done) | (simp at h9; omega)))
                     clear ht2 hb2 hk2)
                    refine hKq.out _ _ ?_ (fun hHeld5 => ?_)
                    · (try dsimp only); first | assumption | exact TB.out.s | exact TB.out.drew.s | exact (TB.out.alloc _).s | exact (TB.out.alloc _).drew.s | exact ((TB.out.alloc _).alloc _).s | exact ((TB.out.alloc _).alloc _).drew.s | exact (((TB.out.alloc _).alloc _).alloc _).s | exact (((TB.out.alloc _).alloc _).alloc _).drew.s
                    clear hKq Kq
                    (try simp only [Act.put, List.setIfInBounds_toArray, List.set_cons_zero, List.set_cons_succ])
                    clear hHeld4
                    refine readyK (rs := [16]) (by kernel_rfl) (by simp) ?_
                    refine (consA rfl (by decide) (fun Kq hKq => ?_) nilK)
                    (refine step_triL (w0 := y2) (B := w.heap.size + 2) rfl _ _ rfl (by rfl) (by rfl) TR.out (Below.refl _ _) HL15_2.out (by rw [prL_length]; omega) (by omega) ?_
                     intro v3 y3 ht3 hb3 hk3
                     have hz3 : wc.heap.size ≤ y3.heap.size := by have := hb3.size; omega
                     obtain ⟨a3, c3, hv3⟩ := ht3.l.sliceN (n := x + 1) (by rw [List.length_append, prL_length]; rfl)
                     subst hv3
                     have TR := Lib.hid ht3
                     have TB := Lib.hid (TB.out.up hb3 (by omega))
                     have RB := Lib.hid (RB.out.up hb3 (by omega))
                     have BW := Lib.hid (BW.out.trans (hb3.mono (by omega)))
                     clear ht3 hb3 hk3
                     have zc0 := TB.out.c0
                     have zc1 := TB.out.c1
                     have zc2 := TB.out.c2
                     have zf0 := TB.out.f0
                     have zf1 := TB.out.f1
                     have zf2 := TB.out.f2)
                    refine hKq.out _ _ ?_ (fun hHeld6 => ?_)
                    · (try dsimp only); first | assumption | exact TB.out.s | exact TB.out.drew.s | exact (TB.out.alloc _).s | exact (TB.out.alloc _).drew.s | exact ((TB.out.alloc _).alloc _).s | exact ((TB.out.alloc _).alloc _).drew.s | exact (((TB.out.alloc _).alloc _).alloc _).s | exact (((TB.out.alloc _).alloc _).alloc _).drew.s
                    clear hKq Kq
                    (try simp only [Act.put, List.setIfInBounds_toArray, List.set_cons_zero, List.set_cons_succ])
                    clear hHeld5
                    refine readyK (rs := [19]) (by kernel_rfl) (by simp) ?_
                    refine (consB rfl (by decide) (fun Kq hKq => ?_) nilK)
                    go_simp
                    refine hKq.out _ _ trivial (fun _ => ?_)
                    clear hKq Kq
                    (try simp only [Act.put, List.setIfInBounds_toArray, List.set_cons_zero, List.set_cons_succ])
                    refine readyK (rs := [20]) (by kernel_rfl) (by simp) ?_
                    refine (consB rfl (by decide) (fun Kq hKq => ?_) nilK)
                    go_simp
                    refine hKq.out _ _ trivial (fun _ => ?_)
                    clear hKq Kq
                    (try simp only [Act.put, List.setIfInBounds_toArray, List.set_cons_zero, List.set_cons_succ])
                    refine readyK (rs := [21]) (by kernel_rfl) (by simp) ?_
                    refine (consB rfl (by decide) (fun Kq hKq => ?_) nilK)
                    go_simp
                    refine hKq.out _ _ trivial (fun _ => ?_)
                    clear hKq Kq
                    (try simp only [Act.put, List.setIfInBounds_toArray, List.set_cons_zero, List.set_cons_succ])
                    refine readyK (rs := [22]) (by kernel_rfl) (by simp) ?_
                    refine (consB rfl (by decide) (fun Kq hKq => ?_) nilK)
                    go_simp
                    refine hKq.out _ _ trivial (fun _ => ?_)
                    clear hKq Kq
                    (try simp only [Act.put, List.setIfInBounds_toArray, List.set_cons_zero, List.set_cons_succ])
                    refine readyK (rs := [23]) (by kernel_rfl) (by simp) ?_
                    refine (consB rfl (by decide) (fun Kq hKq => ?_) nilK)
                    go_simp
                    refine hKq.out _ _ trivial (fun _ => ?_)
                    clear hKq Kq
                    (try simp only [Act.put, List.setIfInBounds_toArray, List.set_cons_zero, List.set_cons_succ])
                    refine readyK (rs := [24]) (by kernel_rfl) (by simp) ?_
                    refine (consB rfl (by decide) (fun Kq hKq => ?_) nilK)
                    go_simp
                    refine hKq.out _ _ trivial (fun _ => ?_)
                    clear hKq Kq
                    (try simp only [Act.put, List.setIfInBounds_toArray, List.set_cons_zero, List.set_cons_succ])
                    refine doneK (by kernel_rfl) ?_ _
                    refine NoPanic.normal ?_
                    go_wp2_with fail
                    go_roundw
                    case rel => exact ⟨x + 1, _, _, _, by omega, by go_num, ((TB.out.put0 _).put1 _).put2 _, by rw [HPs.out, HWs.out, HLs.out]; exact ((TR.out.far (by omega)).far (by omega)).far (by omega), Hin2.out, ((RB.out.far (by omega) _).far (by omega) _).far (by omega) _, (((BW.out.setCell (by simp) _).setCell (by simp) _).setCell (by simp) _)⟩
                    case measure => simp [intOf]; omega
                · go_simp
                  refine hKq.out _ _ ?_ (fun hHeld2 => ?_)
                  · (try dsimp only); first | assumption | exact TB.out.s | exact TB.out.drew.s | exact (TB.out.alloc _).s | exact (TB.out.alloc _).drew.s | exact ((TB.out.alloc _).alloc _).s | exact ((TB.out.alloc _).alloc _).drew.s | exact (((TB.out.alloc _).alloc _).alloc _).s | exact (((TB.out.alloc _).alloc _).alloc _).drew.s
                  clear hKq Kq
                  (try simp only [Act.put, List.setIfInBounds_toArray, List.set_cons_zero, List.set_cons_succ])
                  clear hHeld1
                  refine readyK (rs := [5, 10]) (by kernel_rfl) (by simp) ?_
                  refine (consA rfl (by decide) (fun Kq hKq => ?_) (consA rfl (by decide) (fun Kq hKq => ?_) nilK))
                  · (refine step_triP (w0 := wc) (B := w.heap.size + 2) rfl _ _ rfl (by rfl) (by rfl) TR.out ((below_new _ _).alloc (by simp; try omega) _).drew ((lit_new wc pv wc.heap.size (by simp)).alloc (.cells #[.int .i64 qv] 3)).drew (by rw [parL_length]; omega) (by omega) ?_
                     intro v1 y1 ht1 hb1 hk1
                     have hz1 : wc.heap.size ≤ y1.heap.size := by have := hb1.size; omega
                     obtain ⟨a1, c1, hv1⟩ := ht1.p.sliceN (n := x + 1) (by rw [List.length_append, parL_length]; rfl)
                     subst hv1
                     have TR := Lib.hid ht1
                     have TB := Lib.hid (TB.out.up hb1 (by omega))
                     have RB := Lib.hid (RB.out.up hb1 (by omega))
                     have BW := Lib.hid (BW.out.trans (hb1.mono (by omega)))
                     have HL15_1 := Lib.hid (hk1 _ _ (lit_new (wc.alloc (.cells #[.int .i64 pv] 3)) qv (wc.heap.size + 1) (by simp)).drew (fun e => by have h9 := HltP.out _ e; first | omega | (simp at h9; done) | (simp at h9; omega)))
                     clear ht1 hb1 hk1)
                    refine hKq.out _ _ ?_ (fun hHeld3 => ?_)
                    · (try dsimp only); first | assumption | exact TB.out.s | exact TB.out.drew.s | exact (TB.out.alloc _).s | exact (TB.out.alloc _).drew.s | exact ((TB.out.alloc _).alloc _).s | exact ((TB.out.alloc _).alloc _).drew.s | exact (((TB.out.alloc _).alloc _).alloc _).s | exact (((TB.out.alloc _).alloc _).alloc _).drew.s
                    clear hKq Kq
                    (try simp only [Act.put, List.setIfInBounds_toArray, List.set_cons_zero, List.set_cons_succ])
                    clear hHeld2
                    refine takeK (i := 17) (oi := _) (v := ?_) rfl (by kernel_rfl) (by kernel_rfl) (by kernel_rfl) (by kernel_rfl) (by kernel_rfl) (fun _ _ _ h => h) (Or.inl ⟨by rfl, ?_⟩) (by assumption) ?_
                    rotate_left
                    · first | (intro w hSw; (try dsimp only at hSw); go_simp; done) | (intro w hSw; (try dsimp only at hSw); go_simp; with_reducible rfl)
                    (try simp only [Act.put, List.setIfInBounds_toArray, List.set_cons_zero, List.set_cons_succ])
                    refine takeK (i := 18) (oi := _) (v := ?_) rfl (by kernel_rfl) (by kernel_rfl) (by kernel_rfl) (by kernel_rfl) (by kernel_rfl) (fun _ _ _ h => h) (Or.inl ⟨by rfl, ?_⟩) (by assumption) ?_
                    rotate_left
                    · first | (intro w hSw; (try dsimp only at hSw); go_simp; done) | (intro w hSw; (try dsimp only at hSw); go_simp; with_reducible rfl)
                    (try simp only [Act.put, List.setIfInBounds_toArray, List.set_cons_zero, List.set_cons_succ])
                    refine readyK (rs := [10]) (by kernel_rfl) (by simp) ?_
                    refine (consA rfl (by decide) (fun Kq hKq => ?_) nilK)
                    go_simp
                    refine hKq.out _ _ ?_ (fun hHeld4 => ?_)
                    · (try dsimp only); first | assumption | exact TB.out.s | exact TB.out.drew.s | exact (TB.out.alloc _).s | exact (TB.out.alloc _).drew.s | exact ((TB.out.alloc _).alloc _).s | exact ((TB.out.alloc _).alloc _).drew.s | exact (((TB.out.alloc _).alloc _).alloc _).s | exact (((TB.out.alloc _).alloc _).alloc _).drew.s
                    clear hKq Kq
                    (try simp only [Act.put, List.setIfInBounds_toArray, List.set_cons_zero, List.set_cons_succ])
                    clear hHeld3
                    refine readyK (rs := [11]) (by kernel_rfl) (by simp) ?_
                    refine (consA rfl (by decide) (fun Kq hKq => ?_) nilK)
                    (refine step_triW (w0 := y1) (B := w.heap.size + 2) rfl _ _ rfl (by rfl) (by rfl) TR.out (below_new _ _) (lit_new y1 wv y1.heap.size (by simp)) (by rw [wtL_length]; omega) (by omega) ?_
                     intro v2 y2 ht2 hb2 hk2
                     have hz2 : wc.heap.size ≤ y2.heap.size := by have := hb2.size; omega
                     obtain ⟨a2, c2, hv2⟩ := ht2.q.sliceN (n := x + 1) (by rw [List.length_append, wtL_length]; rfl)
                     subst hv2
                     have TR := Lib.hid ht2
                     have TB := Lib.hid (TB.out.up hb2 (by omega))
                     have RB := Lib.hid (RB.out.up hb2 (by omega))
                     have BW := Lib.hid (BW.out.trans (hb2.mono (by omega)))
                     have HL15_2 := Lib.hid (hk2 _ _ (HL15_1.out.alloc (.cells #[.int .i64 wv] 3)) (fun e => by have h9 := HltW.out _ e; first | omega | (simp at h9; done) | (simp at h9; omega)))
                     clear ht2 hb2 hk2)
                    refine hKq.out _ _ ?_ (fun hHeld5 => ?_)
                    · (try dsimp only); first | assumption | exact TB.out.s | exact TB.out.drew.s | exact (TB.out.alloc _).s | exact (TB.out.alloc _).drew.s | exact ((TB.out.alloc _).alloc _).s | exact ((TB.out.alloc _).alloc _).drew.s | exact (((TB.out.alloc _).alloc _).alloc _).s | exact (((TB.out.alloc _).alloc _).alloc _).drew.s
                    clear hKq Kq
                    (try simp only [Act.put, List.setIfInBounds_toArray, List.set_cons_zero, List.set_cons_succ])
                    clear hHeld4
                    refine readyK (rs := [16]) (by kernel_rfl) (by simp) ?_
                    refine (consA rfl (by decide) (fun Kq hKq => ?_) nilK)
                    (refine step_triL (w0 := y2) (B := w.heap.size + 2) rfl _ _ rfl (by rfl) (by rfl) TR.out (Below.refl _ _) HL15_2.out (by rw [prL_length]; omega) (by omega) ?_
                     intro v3 y3 ht3 hb3 hk3
                     have hz3 : wc.heap.size ≤ y3.heap.size := by have := hb3.size; omega
                     obtain ⟨a3, c3, hv3⟩ := ht3.l.sliceN (n := x + 1) (by rw [List.length_append, prL_length]; rfl)
                     subst hv3
                     have TR := Lib.hid ht3
                     have TB := Lib.hid (TB.out.up hb3 (by omega))
                     have RB := Lib.hid (RB.out.up hb3 (by omega))
                     have BW := Lib.hid (BW.out.trans (hb3.mono (by omega)))
                     clear ht3 hb3 hk3
                     have zc0 := TB.out.c0
                     have zc1 := TB.out.c1
                     have zc2 := TB.out.c2
                     have zf0 := TB.out.f0
                     have zf1 := TB.out.f1
                     have zf2 := TB.out.f2)
                    refine hKq.out _ _ ?_ (fun hHeld6 => ?_)
                    · (try dsimp only); first | assumption | exact TB.out.s | exact TB.out.drew.s | exact (TB.out.alloc _).s | exact (TB.out.alloc _).drew.s | exact ((TB.out.alloc _).alloc _).s | exact ((TB.out.alloc _).alloc _).drew.s | exact (((TB.out.alloc _).alloc _).alloc _).s | exact (((TB.out.alloc _).alloc _).alloc _).drew.s
                    clear hKq Kq
                    (try simp only [Act.put, List.setIfInBounds_toArray, List.set_cons_zero, List.set_cons_succ])
                    clear hHeld5
                    refine readyK (rs := [19]) (by kernel_rfl) (by simp) ?_
                    refine (consB rfl (by decide) (fun Kq hKq => ?_) nilK)
                    go_simp
                    refine hKq.out _ _ trivial (fun _ => ?_)
                    clear hKq Kq
                    (try simp only [Act.put, List.setIfInBounds_toArray, List.set_cons_zero, List.set_cons_succ])
                    refine readyK (rs := [20]) (by kernel_rfl) (by simp) ?_
                    refine (consB rfl (by decide) (fun Kq hKq => ?_) nilK)
                    go_simp
                    refine hKq.out _ _ trivial (fun _ => ?_)
                    clear hKq Kq
                    (try simp only [Act.put, List.setIfInBounds_toArray, List.set_cons_zero, List.set_cons_succ])
                    refine readyK (rs := [21]) (by kernel_rfl) (by simp) ?_
                    refine (consB rfl (by decide) (fun Kq hKq => ?_) nilK)
                    go_simp
                    refine hKq.out _ _ trivial (fun _ => ?_)
                    clear hKq Kq
                    (try simp only [Act.put, List.setIfInBounds_toArray, List.set_cons_zero, List.set_cons_succ])
                    refine readyK (rs := [22]) (by kernel_rfl) (by simp) ?_
                    refine (consB rfl (by decide) (fun Kq hKq => ?_) nilK)
                    go_simp
                    refine hKq.out _ _ trivial (fun _ => ?_)
                    clear hKq Kq
                    (try simp only [Act.put, List.setIfInBounds_toArray, List.set_cons_zero, List.set_cons_succ])
                    refine readyK (rs := [23]) (by kernel_rfl) (by simp) ?_
                    refine (consB rfl (by decide) (fun Kq hKq => ?_) nilK)
                    go_simp
                    refine hKq.out _ _ trivial (fun _ => ?_)
                    clear hKq Kq
                    (try simp only [Act.put, List.setIfInBounds_toArray, List.set_cons_zero, List.set_cons_succ])
                    refine readyK (rs := [24]) (by kernel_rfl) (by simp) ?_
                    refine (consB rfl (by decide) (fun Kq hKq => ?_) nilK)
                    go_simp
                    refine hKq.out _ _ trivial (fun _ => ?_)
                    clear hKq Kq
                    (try simp only [Act.put, List.setIfInBounds_toArray, List.set_cons_zero, List.set_cons_succ])
                    refine doneK (by kernel_rfl) ?_ _
                    refine NoPanic.normal ?_
                    go_wp2_with fail
                    go_roundw
                    case rel => exact ⟨x + 1, _, _, _, by omega, by go_num, ((TB.out.put0 _).put1 _).put2 _, by rw [HPs.out, HWs.out, HLs.out]; exact ((TR.out.far (by omega)).far (by omega)).far (by omega), Hin2.out, ((RB.out.far (by omega) _).far (by omega) _).far (by omega) _, (((BW.out.setCell (by simp) _).setCell (by simp) _).setCell (by simp) _)⟩
                    case measure => simp [intOf]; omega
                  · go_simp
                    refine hKq.out _ _ ?_ (fun hHeld3 => ?_)
                    · (try dsimp only); first | assumption | exact TB.out.s | exact TB.out.drew.s | exact (TB.out.alloc _).s | exact (TB.out.alloc _).drew.s | exact ((TB.out.alloc _).alloc _).s | exact ((TB.out.alloc _).alloc _).drew.s | exact (((TB.out.alloc _).alloc _).alloc _).s | exact (((TB.out.alloc _).alloc _).alloc _).drew.s
                    clear hKq Kq
                    (try simp only [Act.put, List.setIfInBounds_toArray, List.set_cons_zero, List.set_cons_succ])
                    clear hHeld2
                    refine readyK (rs := [5]) (by kernel_rfl) (by simp) ?_
                    refine (consA rfl (by decide) (fun Kq hKq => ?_) nilK)
                    (refine step_triP (w0 := wc) (B := w.heap.size + 2) rfl _ _ rfl (by rfl) (by rfl) TR.out (((below_new _ _).alloc (by simp; try omega) _).alloc (by simp; try omega) _).drew (((lit_new wc pv wc.heap.size (by simp)).alloc (.cells #[.int .i64 qv] 3)).alloc (.cells #[.int .i64 wv] 3)).drew (by rw [parL_length]; omega) (by omega) ?_
                     intro v1 y1 ht1 hb1 hk1
                     have hz1 : wc.heap.size ≤ y1.heap.size := by have := hb1.size; omega
                     obtain ⟨a1, c1, hv1⟩ := ht1.p.sliceN (n := x + 1) (by rw [List.length_append, parL_length]; rfl)
                     subst hv1
                     have TR := Lib.hid ht1
                     have TB := Lib.hid (TB.out.up hb1 (by omega))
                     have RB := Lib.hid (RB.out.up hb1 (by omega))
                     have BW := Lib.hid (BW.out.trans (hb1.mono (by omega)))
                     have HL15_1 := Lib.hid (hk1 _ _ ((lit_new (wc.alloc (.cells #[.int .i64 pv] 3)) qv (wc.heap.size + 1) (by simp)).alloc (.cells #[.int .i64 wv] 3)).drew (fun e => by have h9 := HltP.out _ e; first | omega | (simp at h9; done) | (simp at h9; omega)))
                     have HL10_1 := Lib.hid (hk1 _ _ (lit_new ((wc.alloc (.cells #[.int .i64 pv] 3)).alloc (.cells #[.int .i64 qv] 3)) wv (wc.heap.size + 2) (by simp)).drew (fun e => by have h9 := HltP.out _ e; first | omega | (simp at h9; done) | (simp at h9; omega)))
                     clear ht1 hb1 hk1)
                    refine hKq.out _ _ ?_ (fun hHeld4 => ?_)
                    · (try dsimp only); first | assumption | exact TB.out.s | exact TB.out.drew.s | exact (TB.out.alloc _).s | exact (TB.out.alloc _).drew.s | exact ((TB.out.alloc _).alloc _).s | exact ((TB.out.alloc _).alloc _).drew.s | exact (((TB.out.alloc _).alloc _).alloc _).s | exact (((TB.out.alloc _).alloc _).alloc _).drew.s
                    clear hKq Kq
                    (try simp only [Act.put, List.setIfInBounds_toArray, List.set_cons_zero, List.set_cons_succ])
                    clear hHeld3
                    refine takeK (i := 17) (oi := _) (v := ?_) rfl (by kernel_rfl) (by kernel_rfl) (by kernel_rfl) (by kernel_rfl) (by kernel_rfl) (fun _ _ _ h => h) (Or.inl ⟨by rfl, ?_⟩) (by assumption) ?_
                    rotate_left
                    · first | (intro w hSw; (try dsimp only at hSw); go_simp; done) | (intro w hSw; (try dsimp only at hSw); go_simp; with_reducible rfl)
                    (try simp only [Act.put, List.setIfInBounds_toArray, List.set_cons_zero, List.set_cons_succ])
                    refine takeK (i := 18) (oi := _) (v := ?_) rfl (by kernel_rfl) (by kernel_rfl) (by kernel_rfl) (by kernel_rfl) (by kernel_rfl) (fun _ _ _ h => h) (Or.inl ⟨by rfl, ?_⟩) (by assumption) ?_
                    rotate_left
                    · first | (intro w hSw; (try dsimp only at hSw); go_simp; done) | (intro w hSw; (try dsimp only at hSw); go_simp; with_reducible rfl)
                    (try simp only [Act.put, List.setIfInBounds_toArray, List.set_cons_zero, List.set_cons_succ])
                    refine readyK (rs := [11]) (by kernel_rfl) (by simp) ?_
                    refine (consA rfl (by decide) (fun Kq hKq => ?_) nilK)
                    (refine step_triW (w0 := y1) (B := w.heap.size + 2) rfl _ _ rfl (by rfl) (by rfl) TR.out (Below.refl _ _) HL10_1.out (by rw [wtL_length]; omega) (by omega) ?_
                     intro v2 y2 ht2 hb2 hk2
                     have hz2 : wc.heap.size ≤ y2.heap.size := by have := hb2.size; omega
                     obtain ⟨a2, c2, hv2⟩ := ht2.q.sliceN (n := x + 1) (by rw [List.length_append, wtL_length]; rfl)
                     subst hv2
                     have TR := Lib.hid ht2
                     have TB := Lib.hid (TB.out.up hb2 (by omega))
                     have RB := Lib.hid (RB.out.up hb2 (by omega))
                     have BW := Lib.hid (BW.out.trans (hb2.mono (by omega)))
                     have HL15_2 := Lib.hid (hk2 _ _ HL15_1.out (fun e => by have h9 := HltW.out _ e; first | omega | (simp at h9; done) | (simp at h9; omega)))
                     clear ht2 hb2 hk2)
                    refine hKq.out _ _ ?_ (fun hHeld5 => ?_)
                    · (try dsimp only); first | assumption | exact TB.out.s | exact TB.out.drew.s | exact (TB.out.alloc _).s | exact (TB.out.alloc _).drew.s | exact ((TB.out.alloc _).alloc _).s | exact ((TB.out.alloc _).alloc _).drew.s | exact (((TB.out.alloc _).alloc _).alloc _).s | exact (((TB.out.alloc _).alloc _).alloc _).drew.s
                    clear hKq Kq
                    (try simp only [Act.put, List.setIfInBounds_toArray, List.set_cons_zero, List.set_cons_succ])
                    clear hHeld4
                    refine readyK (rs := [16]) (by kernel_rfl) (by simp) ?_
                    refine (consA rfl (by decide) (fun Kq hKq => ?_) nilK)
                    (refine step_triL (w0 := y2) (B := w.heap.size + 2) rfl _ _ rfl (by rfl) (by rfl) TR.out (Below.refl _ _) HL15_2.out (by rw [prL_length]; omega) (by omega) ?_
                     intro v3 y3 ht3 hb3 hk3
                     have hz3 : wc.heap.size ≤ y3.heap.size := by have := hb3.size; omega
                     obtain ⟨a3, c3, hv3⟩ := ht3.l.sliceN (n := x + 1) (by rw [List.length_append, prL_length]; rfl)
                     subst hv3
                     have TR := Lib.hid ht3
                     have TB := Lib.hid (TB.out.up hb3 (by omega))
                     have RB := Lib.hid (RB.out.up hb3 (by omega))
                     have BW := Lib.hid (BW.out.trans (hb3.mono (by omega)))
                     clear ht3 hb3 hk3
                     have zc0 := TB.out.c0
                     have zc1 := TB.out.c1
                     have zc2 := TB.out.c2
                     have zf0 := TB.out.f0
                     have zf1 := TB.out.f1
                     have zf2 := TB.out.f2)
                    refine hKq.out _ _ ?_ (fun hHeld6 => ?_)
                    · (try dsimp only); first | assumption | exact TB.out.s | exact TB.out.drew.s | exact (TB.out.alloc _).s | exact (TB.out.alloc _).drew.s | exact ((TB.out.alloc _).alloc _).s | exact ((TB.out.alloc _).alloc _).drew.s | exact (((TB.out.alloc _).alloc _).alloc _).s | exact (((TB.out.alloc _).alloc _).alloc _).drew.s
                    clear hKq Kq
                    (try simp only [Act.put, List.setIfInBounds_toArray, List.set_cons_zero, List.set_cons_succ])
                    clear hHeld5
                    refine readyK (rs := [19]) (by kernel_rfl) (by simp) ?_
                    refine (consB rfl (by decide) (fun Kq hKq => ?_) nilK)
                    go_simp
                    refine hKq.out _ _ trivial (fun _ => ?_)
                    clear hKq Kq
                    (try simp only [Act.put, List.setIfInBounds_toArray, List.set_cons_zero, List.set_cons_succ])
                    refine readyK (rs := [20]) (by kernel_rfl) (by simp) ?_
                    refine (consB rfl (by decide) (fun Kq hKq => ?_) nilK)
                    go_simp
                    refine hKq.out _ _ trivial (fun _ => ?_)
                    clear hKq Kq
                    (try simp only [Act.put, List.setIfInBounds_toArray, List.set_cons_zero, List.set_cons_succ])
                    refine readyK (rs := [21]) (by kernel_rfl) (by simp) ?_
                    refine (consB rfl (by decide) (fun Kq hKq => ?_) nilK)
                    go_simp
                    refine hKq.out _ _ trivial (fun _ => ?_)
                    clear hKq Kq
                    (try simp only [Act.put, List.setIfInBounds_toArray, List.set_cons_zero, List.set_cons_succ])
                    refine readyK (rs := [22]) (by kernel_rfl) (by simp) ?_
                    refine (consB rfl (by decide) (fun Kq hKq => ?_) nilK)
                    go_simp
                    refine hKq.out _ _ trivial (fun _ => ?_)
                    clear hKq Kq
                    (try simp only [Act.put, List.setIfInBounds_toArray, List.set_cons_zero, List.set_cons_succ])
                    refine readyK (rs := [23]) (by kernel_rfl) (by simp) ?_
                    refine (consB rfl (by decide) (fun Kq hKq => ?_) nilK)
                    go_simp
                    refine hKq.out _ _ trivial (fun _ => ?_)
                    clear hKq Kq
                    (try simp only [Act.put, List.setIfInBounds_toArray, List.set_cons_zero, List.set_cons_succ])
                    refine readyK (rs := [24]) (by kernel_rfl) (by simp) ?_
                    refine (consB rfl (by decide) (fun Kq hKq => ?_) nilK)
                    go_simp
                    refine hKq.out _ _ trivial (fun _ => ?_)
                    clear hKq Kq
                    (try simp only [Act.put, List.setIfInBounds_toArray, List.set_cons_zero, List.set_cons_succ])
                    refine doneK (by kernel_rfl) ?_ _
                    refine NoPanic.normal ?_
                    go_wp2_with fail
                    go_roundw
                    case rel => exact ⟨x + 1, _, _, _, by omega, by go_num, ((TB.out.put0 _).put1 _).put2 _, by rw [HPs.out, HWs.out, HLs.out]; exact ((TR.out.far (by omega)).far (by omega)).far (by omega), Hin2.out, ((RB.out.far (by omega) _).far (by omega) _).far (by omega) _, (((BW.out.setCell (by simp) _).setCell (by simp) _).setCell (by simp) _)⟩
                    case measure => simp [intOf]; omega
              · go_simp
                refine hKq.out _ _ ?_ (fun hHeld1 => ?_)
                · (try dsimp only); first | assumption | exact TB.out.s | exact TB.out.drew.s | exact (TB.out.alloc _).s | exact (TB.out.alloc _).drew.s | exact ((TB.out.alloc _).alloc _).s | exact ((TB.out.alloc _).alloc _).drew.s | exact (((TB.out.alloc _).alloc _).alloc _).s | exact (((TB.out.alloc _).alloc _).alloc _).drew.s
                clear hKq Kq
                (try simp only [Act.put, List.setIfInBounds_toArray, List.set_cons_zero, List.set_cons_succ])
                clear hHeld0
                refine readyK (rs := [4, 15]) (by kernel_rfl) (by simp) ?_
                refine (consA rfl (by decide) (fun Kq hKq => ?_) (consA rfl (by decide) (fun Kq hKq => ?_) nilK))
                · go_simp
                  refine hKq.out _ _ ?_ (fun hHeld2 => ?_)
                  · (try dsimp only); first | assumption | exact TB.out.s | exact TB.out.drew.s | exact (TB.out.alloc _).s | exact (TB.out.alloc _).drew.s | exact ((TB.out.alloc _).alloc _).s | exact ((TB.out.alloc _).alloc _).drew.s | exact (((TB.out.alloc _).alloc _).alloc _).s | exact (((TB.out.alloc _).alloc _).alloc _).drew.s
                  clear hKq Kq
                  (try simp only [Act.put, List.setIfInBounds_toArray, List.set_cons_zero, List.set_cons_succ])
                  clear hHeld1
                  refine readyK (rs := [5, 15]) (by kernel_rfl) (by simp) ?_
                  refine (consA rfl (by decide) (fun Kq hKq => ?_) (consA rfl (by decide) (fun Kq hKq => ?_) nilK))
                  · (refine step_triP (w0 := wc) (B := w.heap.size + 2) rfl _ _ rfl (by rfl) (by rfl) TR.out ((below_new _ _).alloc (by simp; try omega) _).drew (lit_new (wc.alloc (.cells #[.int .i64 wv] 3)) pv (wc.heap.size + 1) (by simp)).drew (by rw [parL_length]; omega) (by omega) ?_
                     intro v1 y1 ht1 hb1 hk1
                     have hz1 : wc.heap.size ≤ y1.heap.size := by have := hb1.size; omega
                     obtain ⟨a1, c1, hv1⟩ := ht1.p.sliceN (n := x + 1) (by rw [List.length_append, parL_length]; rfl)
                     subst hv1
                     have TR := Lib.hid ht1
                     have TB := Lib.hid (TB.out.up hb1 (by omega))
                     have RB := Lib.hid (RB.out.up hb1 (by omega))
                     have BW := Lib.hid (BW.out.trans (hb1.mono (by omega)))
                     have HL10_1 := Lib.hid (hk1 _ _ ((lit_new wc wv wc.heap.size (by simp)).alloc (.cells #[.int .i64 pv] 3)).drew (fun e => by have h9 := HltP.out _ e; first | omega | (simp at h9; done) | (simp at h9; omega)))
                     clear ht1 hb1 hk1)
                    refine hKq.out _ _ ?_ (fun hHeld3 => ?_)
                    · (try dsimp only); first | assumption | exact TB.out.s | exact TB.out.drew.s | exact (TB.out.alloc _).s | exact (TB.out.alloc _).drew.s | exact ((TB.out.alloc _).alloc _).s | exact ((TB.out.alloc _).alloc _).drew.s | exact (((TB.out.alloc _).alloc _).alloc _).s | exact (((TB.out.alloc _).alloc _).alloc _).drew.s
                    clear hKq Kq
                    (try simp only [Act.put, List.setIfInBounds_toArray, List.set_cons_zero, List.set_cons_succ])
                    clear hHeld2
                    refine takeK (i := 17) (oi := _) (v := ?_) rfl (by kernel_rfl) (by kernel_rfl) (by kernel_rfl) (by kernel_rfl) (by kernel_rfl) (fun _ _ _ h => h) (Or.inl ⟨by rfl, ?_⟩) (by assumption) ?_
                    rotate_left
                    · first | (intro w hSw; (try dsimp only at hSw); go_simp; done) | (intro w hSw; (try dsimp only at hSw); go_simp; with_reducible rfl)
                    (try simp only [Act.put, List.setIfInBounds_toArray, List.set_cons_zero, List.set_cons_succ])
                    refine takeK (i := 18) (oi := _) (v := ?_) rfl (by kernel_rfl) (by kernel_rfl) (by kernel_rfl) (by kernel_rfl) (by kernel_rfl) (fun _ _ _ h => h) (Or.inl ⟨by rfl, ?_⟩) (by assumption) ?_
                    rotate_left
                    · first | (intro w hSw; (try dsimp only at hSw); go_simp; done) | (intro w hSw; (try dsimp only at hSw); go_simp; with_reducible rfl)
                    (try simp only [Act.put, List.setIfInBounds_toArray, List.set_cons_zero, List.set_cons_succ])
                    refine readyK (rs := [11, 15]) (by kernel_rfl) (by simp) ?_
                    refine (consA rfl (by decide) (fun Kq hKq => ?_) (consA rfl (by decide) (fun Kq hKq => ?_) nilK))
                    · (refine step_triW (w0 := y1) (B := w.heap.size + 2) rfl _ _ rfl (by rfl) (by rfl) TR.out (Below.refl _ _) HL10_1.out (by rw [wtL_length]; omega) (by omega) ?_
                       intro v2 y2 ht2 hb2 hk2
                       have hz2 : wc.heap.size ≤ y2.heap.size := by have := hb2.size; omega
                       obtain ⟨a2, c2, hv2⟩ := ht2.q.sliceN (n := x + 1) (by rw [List.length_append, wtL_length]; rfl)
                       subst hv2
                       have TR := Lib.hid ht2
                       have TB := Lib.hid (TB.out.up hb2 (by omega))
                       have RB := Lib.hid (RB.out.up hb2 (by omega))
                       have BW := Lib.hid (BW.out.trans (hb2.mono (by omega)))
                       clear ht2 hb2 hk2)
                      refine hKq.out _ _ ?_ (fun hHeld4 => ?_)
                      · (try dsimp only); first | assumption | exact TB.out.s | exact TB.out.drew.s | exact (TB.out.alloc _).s | exact (TB.out.alloc _).drew.s | exact ((TB.out.alloc _).alloc _).s | exact ((TB.out.alloc _).alloc _).drew.s | exact (((TB.out.alloc _).alloc _).alloc _).s | exact (((TB.out.alloc _).alloc _).alloc _).drew.s
                      clear hKq Kq
                      (try simp only [Act.put, List.setIfInBounds_toArray, List.set_cons_zero, List.set_cons_succ])
                      clear hHeld3
                      refine readyK (rs := [15]) (by kernel_rfl) (by simp) ?_
                      refine (consA rfl (by decide) (fun Kq hKq => ?_) nilK)
                      go_simp
                      refine hKq.out _ _ ?_ (fun hHeld5 => ?_)
                      · (try dsimp only); first | assumption | exact TB.out.s | exact TB.out.drew.s | exact (TB.out.alloc _).s | exact (TB.out.alloc _).drew.s | exact ((TB.out.alloc _).alloc _).s | exact ((TB.out.alloc _).alloc _).drew.s | exact (((TB.out.alloc _).alloc _).alloc _).s | exact (((TB.out.alloc _).alloc _).alloc _).drew.s
                      clear hKq Kq
                      (try simp only [Act.put, List.setIfInBounds_toArray, List.set_cons_zero, List.set_cons_succ])
                      clear hHeld4
                      refine readyK (rs := [16]) (by kernel_rfl) (by simp) ?_
                      refine (consA rfl (by decide) (fun Kq hKq => ?_) nilK)
                      (refine step_triL (w0 := y2) (B := w.heap.size + 2) rfl _ _ rfl (by rfl) (by rfl) TR.out (below_new _ _) (lit_new y2 qv y2.heap.size (by simp)) (by rw [prL_length]; omega) (by omega) ?_
                       intro v3 y3 ht3 hb3 hk3
                       have hz3 : wc.heap.size ≤ y3.heap.size := by have := hb3.size; omega
                       obtain ⟨a3, c3, hv3⟩ := ht3.l.sliceN (n := x + 1) (by rw [List.length_append, prL_length]; rfl)
                       subst hv3
                       have TR := Lib.hid ht3
                       have TB := Lib.hid (TB.out.up hb3 (by omega))
                       have RB := Lib.hid (RB.out.up hb3 (by omega))
                       have BW := Lib.hid (BW.out.trans (hb3.mono (by omega)))
                       clear ht3 hb3 hk3
                       have zc0 := TB.out.c0
                       have zc1 := TB.out.c1
                       have zc2 := TB.out.c2
                       have zf0 := TB.out.f0
                       have zf1 := TB.out.f1
                       have zf2 := TB.out.f2)
                      refine hKq.out _ _ ?_ (fun hHeld6 => ?_)
                      · (try dsimp only); first | assumption | exact TB.out.s | exact TB.out.drew.s | exact (TB.out.alloc _).s | exact (TB.out.alloc _).drew.s | exact ((TB.out.alloc _).alloc _).s | exact ((TB.out.alloc _).alloc _).drew.s | exact (((TB.out.alloc _).alloc _).alloc _).s | exact (((TB.out.alloc _).alloc _).alloc _).drew.s
                      clear hKq Kq
                      (try simp only [Act.put, List.setIfInBounds_toArray, List.set_cons_zero, List.set_cons_succ])
                      clear hHeld5
                      refine readyK (rs := [19]) (by kernel_rfl) (by simp) ?_
                      refine (consB rfl (by decide) (fun Kq hKq => ?_) nilK)
                      go_simp
                      refine hKq.out _ _ trivial (fun _ => ?_)
                      clear hKq Kq
                      (try simp only [Act.put, List.setIfInBounds_toArray, List.set_cons_zero, List.set_cons_succ])
                      refine readyK (rs := [20]) (by kernel_rfl) (by simp) ?_
                      refine (consB rfl (by decide) (fun Kq hKq => ?_) nilK)
                      go_simp
                      refine hKq.out _ _ trivial (fun _ => ?_)
                      clear hKq Kq
                      (try simp only [Act.put, List.setIfInBounds_toArray, List.set_cons_zero, List.set_cons_succ])
                      refine readyK (rs := [21]) (by kernel_rfl) (by simp) ?_
                      refine (consB rfl (by decide) (fun Kq hKq => ?_) nilK)
                      go_simp
                      refine hKq.out _ _ trivial (fun _ => ?_)
                      clear hKq Kq
                      (try simp only [Act.put, List.setIfInBounds_toArray, List.set_cons_zero, List.set_cons_succ])
                      refine readyK (rs := [22]) (by kernel_rfl) (by simp) ?_
                      refine (consB rfl (by decide) (fun Kq hKq => ?_) nilK)
                      go_simp
                      refine hKq.out _ _ trivial (fun _ => ?_)
                      clear hKq Kq
                      (try simp only [Act.put, List.setIfInBounds_toArray, List.set_cons_zero, List.set_cons_succ])
                      refine readyK (rs := [23]) (by kernel_rfl) (by simp) ?_
                      refine (consB rfl (by decide) (fun Kq hKq => ?_) nilK)
                      go_simp
                      refine hKq.out _ _ trivial (fun _ => ?_)
                      clear hKq Kq
                      (try simp only [Act.put, List.setIfInBounds_toArray, List.set_cons_zero, List.set_cons_succ])
                      refine readyK (rs := [24]) (by kernel_rfl) (by simp) ?_
                      refine (consB rfl (by decide) (fun Kq hKq => ?_) nilK)
                      go_simp
                      refine hKq.out _ _ trivial (fun _ => ?_)
                      clear hKq Kq
                      (try simp only [Act.put, List.setIfInBounds_toArray, List.set_cons_zero, List.set_cons_succ])
                      refine doneK (by kernel_rfl) ?_ _
                      refine NoPanic.normal ?_
                      go_wp2_with fail
                      go_roundw
                      case rel => exact ⟨x + 1, _, _, _, by omega, by go_num, ((TB.out.put0 _).put1 _).put2 _, by rw [HPs.out, HWs.out, HLs.out]; exact ((TR.out.far (by omega)).far (by omega)).far (by omega), Hin2.out, ((RB.out.far (by omega) _).far (by omega) _).far (by omega) _, (((BW.out.setCell (by simp) _).setCell (by simp) _).setCell (by simp) _)⟩
                      case measure => simp [intOf]; omega
                    · go_simp
                      refine hKq.out _ _ ?_ (fun hHeld4 => ?_)
                      · (try dsimp only); first | assumption | exact TB.out.s | exact TB.out.drew.s | exact (TB.out.alloc _).s | exact (TB.out.alloc _).drew.s | exact ((TB.out.alloc _).alloc _).s | exact ((TB.out.alloc _).alloc _).drew.s | exact (((TB.out.alloc _).alloc _).alloc _).s | exact (((TB.out.alloc _).alloc _).alloc _).drew.s
                      clear hKq Kq
                      (try simp only [Act.put, List.setIfInBounds_toArray, List.set_cons_zero, List.set_cons_succ])
                      clear hHeld3
                      refine readyK (rs := [11]) (by kernel_rfl) (by simp) ?_
                      refine (consA rfl (by decide) (fun Kq hKq => ?_) nilK)
                      (refine step_triW (w0 := y1) (B := w.heap.size + 2) rfl _ _ rfl (by rfl) (by rfl) TR.out (below_new _ _) (HL10_1.out.alloc (.cells #[.int .i64 qv] 3)) (by rw [wtL_length]; omega) (by omega) ?_
                       intro v2 y2 ht2 hb2 hk2
                       have hz2 : wc.heap.size ≤ y2.heap.size := by have := hb2.size; omega
                       obtain ⟨a2, c2, hv2⟩ := ht2.q.sliceN (n := x + 1) (by rw [List.length_append, wtL_length]; rfl)
                       subst hv2
                       have TR := Lib.hid ht2
                       have TB := Lib.hid (TB.out.up hb2 (by omega))
                       have RB := Lib.hid (RB.out.up hb2 (by omega))
                       have BW := Lib.hid (BW.out.trans (hb2.mono (by omega)))
                       have HL15_2 := Lib.hid (hk2 _ _ (lit_new y1 qv y1.heap.size (by simp)) (fun e => by have h9 := HltW.out _ e; first | omega | (simp at h9; done) | (simp at h9; omega)))
                       clear ht2 hb2 hk2)
                      refine hKq.out _ _ ?_ (fun hHeld5 => ?_)
                      · (try dsimp only); first | assumption | exact TB.out.s | exact TB.out.drew.s | exact (TB.out.alloc _).s | exact (TB.out.alloc _).drew.s | exact ((TB.out.alloc _).alloc _).s | exact ((TB.out.alloc _).alloc _).drew.s | exact (((TB.out.alloc _).alloc _).alloc _).s | exact (((TB.out.alloc _).alloc _).alloc _).drew.s
                      clear hKq Kq
                      (try simp only [Act.put, List.setIfInBounds_toArray, List.set_cons_zero, List.set_cons_succ])
                      clear hHeld4
                      refine readyK (rs := [16]) (by kernel_rfl) (by simp) ?_
                      refine (consA rfl (by decide) (fun Kq hKq => ?_) nilK)
                      (refine step_triL (w0 := y2) (B := w.heap.size + 2) rfl _ _ rfl (by rfl) (by rfl) TR.out (Below.refl _ _) HL15_2.out (by rw [prL_length]; omega) (by omega) ?_
                       intro v3 y3 ht3 hb3 hk3
                       have hz3 : wc.heap.size ≤ y3.heap.size := by have := hb3.size; omega
                       obtain ⟨a3, c3, hv3⟩ := ht3.l.sliceN (n := x + 1) (by rw [List.length_append, prL_length]; rfl)
                       subst hv3
                       have TR := Lib.hid ht3
                       have TB := Lib.hid (TB.out.up hb3 (by omega))
                       have RB := Lib.hid (RB.out.up hb3 (by omega))
                       have BW := Lib.hid (BW.out.trans (hb3.mono (by omega)))
                       clear ht3 hb3 hk3
                       have zc0 := TB.out.c0
                       have zc1 := TB.out.c1
                       have zc2 := TB.out.c2
                       have zf0 := TB.out.f0
                       have zf1 := TB.out.f1
                       have zf2 := TB.out.f2)
                      refine hKq.out _ _ ?_ (fun hHeld6 => ?_)
                      · (try dsimp only); first | assumption | exact TB.out.s | exact TB.out.drew.s | exact (TB.out.alloc _).s | exact (TB.out.alloc _).drew.s | exact ((TB.out.alloc _).alloc _).s | exact ((TB.out.alloc _).alloc _).drew.s | exact (((TB.out.alloc _).alloc _).alloc _).s | exact (((TB.out.alloc _).alloc _).alloc _).drew.s
                      clear hKq Kq
                      (try simp only [Act.put, List.setIfInBounds_toArray, List.set_cons_zero, List.set_cons_succ])
                      clear hHeld5
                      refine readyK (rs := [19]) (by kernel_rfl) (by simp) ?_
                      refine (consB rfl (by decide) (fun Kq hKq => ?_) nilK)
                      go_simp
                      refine hKq.out _ _ trivial (fun _ => ?_)
                      clear hKq Kq
                      (try simp only [Act.put, List.setIfInBounds_toArray, List.set_cons_zero, List.set_cons_succ])
                      refine readyK (rs := [20]) (by kernel_rfl) (by simp) ?_
                      refine (consB rfl (by decide) (fun Kq hKq => ?_) nilK)
                      go_simp
                      refine hKq.out _ _ trivial (fun _ => ?_)
                      clear hKq Kq
                      (try simp only [Act.put, List.setIfInBounds_toArray, List.set_cons_zero, List.set_cons_succ])
                      refine readyK (rs := [21]) (by kernel_rfl) (by simp) ?_
                      refine (consB rfl (by decide) (fun Kq hKq => ?_) nilK)
                      go_simp
                      refine hKq.out _ _ trivial (fun _ => ?_)
                      clear hKq Kq
                      (try simp only [Act.put, List.setIfInBounds_toArray, List.set_cons_zero, List.set_cons_succ])
                      refine readyK (rs := [22]) (by kernel_rfl) (by simp) ?_
                      refine (consB rfl (by decide) (fun Kq hKq => ?_) nilK)
                      go_simp
                      refine hKq.out _ _ trivial (fun _ => ?_)
                      clear hKq Kq
                      (try simp only [Act.put, List.setIfInBounds_toArray, List.set_cons_zero, List.set_cons_succ])
                      refine readyK (rs := [23]) (by kernel_rfl) (by simp) ?_
                      refine (consB rfl (by decide) (fun Kq hKq => ?_) nilK)
                      go_simp
                      refine hKq.out _ _ trivial (fun _ => ?_)
                      clear hKq Kq
                      (try simp only [Act.put, List.setIfInBounds_toArray, List.set_cons_zero, List.set_cons_succ])
                      refine readyK (rs := [24]) (by kernel_rfl) (by simp) ?_
                      refine (consB rfl (by decide) (fun Kq hKq => ?_) nilK)
                      go_simp
                      refine hKq.out _ _ trivial (fun _ => ?_)
                      clear hKq Kq
                      (try simp only [Act.put, List.setIfInBounds_toArray, List.set_cons_zero, List.set_cons_succ])
                      refine doneK (by kernel_rfl) ?_ _
                      refine NoPanic.normal ?_
                      go_wp2_with fail
                      go_roundw
                      case rel => exact ⟨x + 1, _, _, _, by omega, by go_num, ((TB.out.put0 _).put1 _).put2 _, by rw [HPs.out, HWs.out, HLs.out]; exact ((TR.out.far (by omega)).far (by omega)).far (by omega), Hin2.out, ((RB.out.far (by omega) _).far (by omega) _).far (by omega) _, (((BW.out.setCell (by simp) _).setCell (by simp) _).setCell (by simp) _)⟩
                      case measure => simp [intOf]; omega
                  · go_simp
                    refine hKq.out _ _ ?_ (fun hHeld3 => ?_)
                    · (try dsimp only); first | assumption | exact TB.out.s | exact TB.out.drew.s | exact (TB.out.alloc _).s | exact (TB.out.alloc _).drew.s | exact ((TB.out.alloc _).alloc _).s | exact ((TB.out.alloc _).alloc _).drew.s | exact (((TB.out.alloc _).alloc _).alloc _).s | exact (((TB.out.alloc _).alloc _).alloc _).drew.s
                    clear hKq Kq
                    (try simp only [Act.put, List.setIfInBounds_toArray, List.set_cons_zero, List.set_cons_succ])
                    clear hHeld2
                    refine readyK (rs := [5]) (by kernel_rfl) (by simp) ?_
                    refine (consA rfl (by decide) (fun Kq hKq => ?_) nilK)
                    (refine step_triP (w0 := wc) (B := w.heap.size + 2) rfl _ _ rfl (by rfl) (by rfl) TR.out (((below_new _ _).alloc (by simp; try omega) _).alloc (by simp; try omega) _).drew ((lit_new (wc.alloc (.cells #[.int .i64 wv] 3)) pv (wc.heap.size + 1) (by simp)).alloc (.cells #[.int .i64 qv] 3)).drew (by rw [parL_length]; omega) (by omega) ?_
                     intro v1 y1 ht1 hb1 hk1
                     have hz1 : wc.heap.size ≤ y1.heap.size := by have := hb1.size; omega
                     obtain ⟨a1, c1, hv1⟩ := ht1.p.sliceN (n := x + 1) (by rw [List.length_append, parL_length]; rfl)
                     subst hv1
                     have TR := Lib.hid ht1
                     have TB := Lib.hid (TB.out.up hb1 (by omega))
                     have RB := Lib.hid (RB.out.up hb1 (by omega))
                     have BW := Lib.hid (BW.out.trans (hb1.mono (by omega)))
                     have HL10_1 := Lib.hid (hk1 _ _ (((lit_new wc wv wc.heap.size (by simp)).alloc (.cells #[.int .i64 pv] 3)).alloc (.cells #[.int .i64 qv] 3)).drew (fun e => by have h9 := HltP.out _ e; first | omega | (simp at h9; done) | (simp at h9; omega)))
                     have HL15_1 := Lib.hid (hk1 _ _ (lit_new ((wc.alloc (.cells #[.int .i64 wv] 3)).alloc (.cells #[.int .i64 pv] 3)) qv (wc.heap.size + 2) (by simp)).drew (fun e => by have h9 := HltP.out _ e; first | omega | (simp at h9; done) | (simp at h9; omega)))
                     clear ht1 hb1 hk1)
                    refine hKq.out _ _ ?_ (fun hHeld4 => ?_)
                    · (try dsimp only); first | assumption | exact TB.out.s | exact TB.out.drew.s | exact (TB.out.alloc _).s | exact (TB.out.alloc _).drew.s | exact ((TB.out.alloc _).alloc _).s | exact ((TB.out.alloc _).alloc _).drew.s | exact (((TB.out.alloc _).alloc _).alloc _).s | exact (((TB.out.alloc _).alloc _).alloc _).drew.s
                    clear hKq Kq
                    (try simp only [Act.put, List.setIfInBounds_toArray, List.set_cons_zero, List.set_cons_succ])
                    clear hHeld3
                    refine takeK (i := 17) (oi := _) (v := ?_) rfl (by kernel_rfl) (by kernel_rfl) (by kernel_rfl) (by kernel_rfl) (by kernel_rfl) (fun _ _ _ h => h) (Or.inl ⟨by rfl, ?_⟩) (by assumption) ?_
                    rotate_left
                    · first | (intro w hSw; (try dsimp only at hSw); go_simp; done) | (intro w hSw; (try dsimp only at hSw); go_simp; with_reducible rfl)
                    (try simp only [Act.put, List.setIfInBounds_toArray, List.set_cons_zero, List.set_cons_succ])
                    refine takeK (i := 18) (oi := _) (v := ?_) rfl (by kernel_rfl) (by kernel_rfl) (by kernel_rfl) (by kernel_rfl) (by kernel_rfl) (fun _ _ _ h => h) (Or.inl ⟨by rfl, ?_⟩) (by assumption) ?_
                    rotate_left
                    · first | (intro w hSw; (try dsimp only at hSw); go_simp; done) | (intro w hSw; (try dsimp only at hSw); go_simp; with_reducible rfl)
                    (try simp only [Act.put, List.setIfInBounds_toArray, List.set_cons_zero, List.set_cons_succ])
                    refine readyK (rs := [11]) (by kernel_rfl) (by simp) ?_
                    refine (consA rfl (by decide) (fun Kq hKq => ?_) nilK)
                    (refine step_triW (w0 := y1) (B := w.heap.size + 2) rfl _ _ rfl (by rfl) (by rfl) TR.out (Below.refl _ _) HL10_1.out (by rw [wtL_length]; omega) (by omega) ?_
                     intro v2 y2 ht2 hb2 hk2
                     have hz2 : wc.heap.size ≤ y2.heap.size := by have := hb2.size; omega
                     obtain ⟨a2, c2, hv2⟩ := ht2.q.sliceN (n := x + 1) (by rw [List.length_append, wtL_length]; rfl)
                     subst hv2
                     have TR := Lib.hid ht2
                     have TB := Lib.hid (TB.out.up hb2 (by omega))
                     have RB := Lib.hid (RB.out.up hb2 (by omega))
                     have BW := Lib.hid (BW.out.trans (hb2.mono (by omega)))
                     have HL15_2 := Lib.hid (hk2 _ _ HL15_1.out (fun e => by have h9 := HltW.out _ e; first | omega | (simp at h9; done) | (simp at h9; omega)))
                     clear ht2 hb2 hk2)
                    refine hKq.out _ _ ?_ (fun hHeld5 => ?_)
                    · (try dsimp only); first | assumption | exact TB.out.s | exact TB.out.drew.s | exact (TB.out.alloc _).s | exact (TB.out.alloc _).drew.s | exact ((TB.out.alloc _).alloc _).s | exact ((TB.out.alloc _).alloc _).drew.s | exact (((TB.out.alloc _).alloc _).alloc _).s | exact (((TB.out.alloc _).alloc _).alloc _).drew.s
                    clear hKq Kq
                    (try simp only [Act.put, List.setIfInBounds_toArray, List.set_cons_zero, List.set_cons_succ])
                    clear hHeld4
                    refine readyK (rs := [16]) (by kernel_rfl) (by simp) ?_
                    refine (consA rfl (by decide) (fun Kq hKq => ?_) nilK)
                    (refine step_triL (w0 := y2) (B := w.heap.size + 2) rfl _ _ rfl (by rfl) (by rfl) TR.out (Below.refl _ _) HL15_2.out (by rw [prL_length]; omega) (by omega) ?_
                     intro v3 y3 ht3 hb3 hk3
                     have hz3 : wc.heap.size ≤ y3.heap.size := by have := hb3.size; omega
                     obtain ⟨a3, c3, hv3⟩ := ht3.l.sliceN (n := x + 1) (by rw [List.length_append, prL_length]; rfl)
                     subst hv3
                     have TR := Lib.hid ht3
                     have TB := Lib.hid (TB.out.up hb3 (by omega))
                     have RB := Lib.hid (RB.out.up hb3 (by omega))
                     have BW := Lib.hid (BW.out.trans (hb3.mono (by omega)))
                     clear ht3 hb3 hk3
                     have zc0 := TB.out.c0
                     have zc1 := TB.out.c1
                     have zc2 := TB.out.c2
                     have zf0 := TB.out.f0
                     have zf1 := TB.out.f1
                     have zf2 := TB.out.f2)
                    refine hKq.out _ _ ?_ (fun hHeld6 => ?_)
                    · (try dsimp only); first | assumption | exact TB.out.s | exact TB.out.drew.s | exact (TB.out.alloc _).s | exact (TB.out.alloc _).drew.s | exact ((TB.out.alloc _).alloc _).s | exact ((TB.out.alloc _).alloc _).drew.s | exact (((TB.out.alloc _).alloc _).alloc _).s | exact (((TB.out.alloc _).alloc _).alloc _).drew.s
                    clear hKq Kq
                    (try simp only [Act.put, List.setIfInBounds_toArray, List.set_cons_zero, List.set_cons_succ])
                    clear hHeld5
                    refine readyK (rs := [19]) (by kernel_rfl) (by simp) ?_
                    refine (consB rfl (by decide) (fun Kq hKq => ?_) nilK)
                    go_simp
                    refine hKq.out _ _ trivial (fun _ => ?_)
                    clear hKq Kq
                    (try simp only [Act.put, List.setIfInBounds_toArray, List.set_cons_zero, List.set_cons_succ])
                    refine readyK (rs := [20]) (by kernel_rfl) (by simp) ?_
                    refine (consB rfl (by decide) (fun Kq hKq => ?_) nilK)
                    go_simp
                    refine hKq.out _ _ trivial (fun _ => ?_)
                    clear hKq Kq
                    (try simp only [Act.put, List.setIfInBounds_toArray, List.set_cons_zero, List.set_cons_succ])
                    refine readyK (rs := [21]) (by kernel_rfl) (by simp) ?_
                    refine (consB rfl (by decide) (fun Kq hKq => ?_) nilK)
                    go_simp
                    refine hKq.out _ _ trivial (fun _ => ?_)
                    clear hKq Kq
                    (try simp only [Act.put, List.setIfInBounds_toArray, List.set_cons_zero, List.set_cons_succ])
                    refine readyK (rs := [22]) (by kernel_rfl) (by simp) ?_
                    refine (consB rfl (by decide) (fun Kq hKq => ?_) nilK)
                    go_simp
                    refine hKq.out _ _ trivial (fun _ => ?_)
                    clear hKq Kq
                    (try simp only [Act.put, List.setIfInBounds_toArray, List.set_cons_zero, List.set_cons_succ])
                    refine readyK (rs := [23]) (by kernel_rfl) (by simp) ?_
                    refine (consB rfl (by decide) (fun Kq hKq => ?_) nilK)
                    go_simp
                    refine hKq.out _ _ trivial (fun _ => ?_)
                    clear hKq Kq
                    (try simp only [Act.put, List.setIfInBounds_toArray, List.set_cons_zero, List.set_cons_succ])
                    refine readyK (rs := [24]) (by kernel_rfl) (by simp) ?_
                    refine (consB rfl (by decide) (fun Kq hKq => ?_) nilK)
                    go_simp
                    refine hKq.out _ _ trivial (fun _ => ?_)
                    clear hKq Kq
                    (try simp only [Act.put, List.setIfInBounds_toArray, List.set_cons_zero, List.set_cons_succ])
                    refine doneK (by kernel_rfl) ?_ _
                    refine NoPanic.normal ?_
                    go_wp2_with fail
                    go_roundw
                    case rel => exact ⟨x + 1, _, _, _, by omega, by go_num, ((TB.out.put0 _).put1 _).put2 _, by rw [HPs.out, HWs.out, HLs.out]; exact ((TR.out.far (by omega)).far (by omega)).far (by omega), Hin2.out, ((RB.out.far (by omega) _).far (by omega) _).far (by omega) _, (((BW.out.setCell (by simp) _).setCell (by simp) _).setCell (by simp) _)⟩
                    case measure => simp [intOf]; omega
                · go_simp
                  refine hKq.out _ _ ?_ (fun hHeld2 => ?_)
                  · (try dsimp only); first | assumption | exact TB.out.s | exact TB.out.drew.s | exact (TB.out.alloc _).s | exact (TB.out.alloc _).drew.s | exact ((TB.out.alloc _).alloc _).s | exact ((TB.out.alloc _).alloc _).drew.s | exact (((TB.out.alloc _).alloc _).alloc _).s | exact (((TB.out.alloc _).alloc _).alloc _).drew.s
                  clear hKq Kq
                  (try simp only [Act.put, List.setIfInBounds_toArray, List.set_cons_zero, List.set_cons_succ])
                  clear hHeld1
                  refine readyK (rs := [4]) (by kernel_rfl) (by simp) ?_
                  refine (consA rfl (by decide) (fun Kq hKq => ?_) nilK)
                  go_simp
                  refine hKq.out _ _ ?_ (fun hHeld3 => ?_)
                  · (try dsimp only); first | assumption | exact TB.out.s | exact TB.out.drew.s | exact (TB.out.alloc _).s | exact (TB.out.alloc _).drew.s | exact ((TB.out.alloc _).alloc _).s | exact ((TB.out.alloc _).alloc _).drew.s | exact (((TB.out.alloc _).alloc _).alloc _).s | exact (((TB.out.alloc _).alloc _).alloc _).drew.s
                  clear hKq Kq
                  (try simp only [Act.put, List.setIfInBounds_toArray, List.set_cons_zero, List.set_cons_succ])
                  clear hHeld2
                  refine readyK (rs := [5]) (by kernel_rfl) (by simp) ?_
                  refine (consA rfl (by decide) (fun Kq hKq => ?_) nilK)
                  (refine step_triP (w0 := wc) (B := w.heap.size + 2) rfl _ _ rfl (by rfl) (by rfl) TR.out (((below_new _ _).alloc (by simp; try omega) _).alloc (by simp; try omega) _).drew (lit_new ((wc.alloc (.cells #[.int .i64 wv] 3)).alloc (.cells #[.int .i64 qv] 3)) pv (wc.heap.size + 2) (by simp)).drew (by rw [parL_length]; omega) (by omega) ?_
                   intro v1 y1 ht1 hb1 hk1
                   have hz1 : wc.heap.size ≤ y1.heap.size := by have := hb1.size; omega
                   obtain ⟨a1, c1, hv1⟩ := ht1.p.sliceN (n := x + 1) (by rw [List.length_append, parL_length]; rfl)
                   subst hv1
                   have TR := Lib.hid ht1
                   have TB := Lib.hid (TB.out.up hb1 (by omega))
                   have RB := Lib.hid (RB.out.up hb1 (by omega))
                   have BW := Lib.hid (BW.out.trans (hb1.mono (by omega)))
                   have HL10_1 := Lib.hid (hk1 _ _ (((lit_new wc wv wc.heap.size (by simp)).alloc (.cells #[.int .i64 qv] 3)).alloc (.cells #[.int .i64 pv] 3)).drew (fun e => by have h9 := HltP.out _ e; first | omega | (simp at h9; done) | (simp at h9; omega)))
                   have HL15_1 := Lib.hid (hk1 _ _ ((lit_new (wc.alloc (.cells #[.int .i64 wv] 3)) qv (wc.heap.size + 1) (by simp)).alloc (.cells #[.int .i64 pv] 3)).drew (fun e => by have h9 := HltP.out _ e; first | omega | (simp at h9; done) | (simp at h9; omega)))
                   clear ht1 hb1 hk1)
                  refine hKq.out _ _ ?_ (fun hHeld4 => ?_)
                  · (try dsimp only); first | assumption | exact TB.out.s | exact TB.out.drew.s | exact (TB.out.alloc _).s | exact (TB.out.alloc _).drew.s | exact ((TB.out.alloc _).alloc _).s | exact ((TB.out.alloc _).alloc _).drew.s | exact (((TB.out.alloc _).alloc _).alloc _).s | exact (((TB.out.alloc _).alloc _).alloc _).drew.s
                  clear hKq Kq
                  (try simp only [Act.put, List.setIfInBounds_toArray, List.set_cons_zero, List.set_cons_succ])
                  clear hHeld3
                  refine takeK (i := 17) (oi := _) (v := ?_) rfl (by kernel_rfl) (by kernel_rfl) (by kernel_rfl) (by kernel_rfl) (by kernel_rfl) (fun _ _ _ h => h) (Or.inl ⟨by rfl, ?_⟩) (by assumption) ?_
                  rotate_left
                  · first | (intro w hSw; (try dsimp only at hSw); go_simp; done) | (intro w hSw; (try dsimp only at hSw); go_simp; with_reducible rfl)
                  (try simp only [Act.put, List.setIfInBounds_toArray, List.set_cons_zero, List.set_cons_succ])
                  refine takeK (i := 18) (oi := _) (v := ?_) rfl (by kernel_rfl) (by kernel_rfl) (by kernel_rfl) (by kernel_rfl) (by kernel_rfl) (fun _ _ _ h => h) (Or.inl ⟨by rfl, ?_⟩) (by assumption) ?_
                  rotate_left
                  · first | (intro w hSw; (try dsimp only at hSw); go_simp; done) | (intro w hSw; (try dsimp only at hSw); go_simp; with_reducible rfl)
                  (try simp only [Act.put, List.setIfInBounds_toArray, List.set_cons_zero, List.set_cons_succ])
                  refine readyK (rs := [11]) (by kernel_rfl) (by simp) ?_
                  refine (consA rfl (by decide) (fun Kq hKq => ?_) nilK)
                  (refine step_triW (w0 := y1) (B := w.heap.size + 2) rfl _ _ rfl (by rfl) (by rfl) TR.out (Below.refl _ _) HL10_1.out (by rw [wtL_length]; omega) (by omega) ?_
                   intro v2 y2 ht2 hb2 hk2
                   have hz2 : wc.heap.size ≤ y2.heap.size := by have := hb2.size; omega
                   obtain ⟨a2, c2, hv2⟩ := ht2.q.sliceN (n := x + 1) (by rw [List.length_append, wtL_length]; rfl)
                   subst hv2
                   have TR := Lib.hid ht2
                   have TB := Lib.hid (TB.out.up hb2 (by omega))
                   have RB := Lib.hid (RB.out.up hb2 (by omega))
                   have BW := Lib.hid (BW.out.trans (hb2.mono (by omega)))
                   have HL15_2 := Lib.hid (hk2 _ _ HL15_1.out (fun e => by have h9 := HltW.out _ e; first | omega | (simp at h9; done) | (simp at h9; omega)))
                   clear ht2 hb2 hk2)
                  refine hKq.out _ _ ?_ (fun hHeld5 => ?_)
                  · (try dsimp only); first | assumption | exact TB.out.s | exact TB.out.drew.s | exact (TB.out.alloc _).s | exact (TB.out.alloc _).drew.s | exact ((TB.out.alloc _).alloc _).s | exact ((TB.out.alloc _).alloc _).drew.s | exact (((TB.out.alloc _).alloc _).alloc _).s | exact (((TB.out.alloc _).alloc _).alloc _).drew.s
                  clear hKq Kq
                  (try simp only [Act.put, List.setIfInBounds_toArray, List.set_cons_zero, List.set_cons_succ])
                  clear hHeld4
                  refine readyK (rs := [16]) (by kernel_rfl) (by simp) ?_
                  refine (consA rfl (by decide) (fun Kq hKq => ?_) nilK)
                  (refine step_triL (w0 := y2) (B := w.heap.size + 2) rfl _ _ rfl (by rfl) (by rfl) TR.out (Below.refl _ _) HL15_2.out (by rw [prL_length]; omega) (by omega) ?_
                   intro v3 y3 ht3 hb3 hk3
                   have hz3 : wc.heap.size ≤ y3.heap.size := by have := hb3.size; omega
                   obtain ⟨a3, c3, hv3⟩ := ht3.l.sliceN (n := x + 1) (by rw [List.length_append, prL_length]; rfl)
                   subst hv3
                   have TR := Lib.hid ht3
                   have TB := Lib.hid (TB.out.up hb3 (by omega))
                   have RB := Lib.hid (RB.out.up hb3 (by omega))
                   have BW := Lib.hid (BW.out.trans (hb3.mono (by omega)))
                   clear ht3 hb3 hk3
                   have zc0 := TB.out.c0
                   have zc1 := TB.out.c1
                   have zc2 := TB.out.c2
                   have zf0 := TB.out.f0
                   have zf1 := TB.out.f1
                   have zf2 := TB.out.f2)
                  refine hKq.out _ _ ?_ (fun hHeld6 => ?_)
                  · (try dsimp only); first | assumption | exact TB.out.s | exact TB.out.drew.s | exact (TB.out.alloc _).s | exact (TB.out.alloc _).drew.s | exact ((TB.out.alloc _).alloc _).s | exact ((TB.out.alloc _).alloc _).drew.s | exact (((TB.out.alloc _).alloc _).alloc _).s | exact (((TB.out.alloc _).alloc _).alloc _).drew.s
                  clear hKq Kq
                  (try simp only [Act.put, List.setIfInBounds_toArray, List.set_cons_zero, List.set_cons_succ])
                  clear hHeld5
                  refine readyK (rs := [19]) (by kernel_rfl) (by simp) ?_
                  refine (consB rfl (by decide) (fun Kq hKq => ?_) nilK)
                  go_simp
                  refine hKq.out _ _ trivial (fun _ => ?_)
                  clear hKq Kq
                  (try simp only [Act.put, List.setIfInBounds_toArray, List.set_cons_zero, List.set_cons_succ])
                  refine readyK (rs := [20]) (by kernel_rfl) (by simp) ?_
                  refine (consB rfl (by decide) (fun Kq hKq => ?_) nilK)
                  go_simp
                  refine hKq.out _ _ trivial (fun _ => ?_)
                  clear hKq Kq
                  (try simp only [Act.put, List.setIfInBounds_toArray, List.set_cons_zero, List.set_cons_succ])
                  refine readyK (rs := [21]) (by kernel_rfl) (by simp) ?_
                  refine (consB rfl (by decide) (fun Kq hKq => ?_) nilK)
                  go_simp
                  refine hKq.out _ _ trivial (fun _ => ?_)
                  clear hKq Kq
                  (try simp only [Act.put, List.setIfInBounds_toArray, List.set_cons_zero, List.set_cons_succ])
                  refine readyK (rs := [22]) (by kernel_rfl) (by simp) ?_
                  refine (consB rfl (by decide) (fun Kq hKq => ?_) nilK)
                  go_simp
                  refine hKq.out _ _ trivial (fun _ => ?_)
                  clear hKq Kq
                  (try simp only [Act.put, List.setIfInBounds_toArray, List.set_cons_zero, List.set_cons_succ])
                  refine readyK (rs := [23]) (by kernel_rfl) (by simp) ?_
                  refine (consB rfl (by decide) (fun Kq hKq => ?_) nilK)
                  go_simp
                  refine hKq.out _ _ trivial (fun _ => ?_)
                  clear hKq Kq
                  (try simp only [Act.put, List.setIfInBounds_toArray, List.set_cons_zero, List.set_cons_succ])
                  refine readyK (rs := [24]) (by kernel_rfl) (by simp) ?_
                  refine (consB rfl (by decide) (fun Kq hKq => ?_) nilK)
                  go_simp
                  refine hKq.out _ _ trivial (fun _ => ?_)
                  clear hKq Kq
                  (try simp only [Act.put, List.setIfInBounds_toArray, List.set_cons_zero, List.set_cons_succ])
                  refine doneK (by kernel_rfl) ?_ _
                  refine NoPanic.normal ?_
                  go_wp2_with fail
                  go_roundw
                  case rel => exact ⟨x + 1, _, _, _, by omega, by go_num, ((TB.out.put0 _).put1 _).put2 _, by rw [HPs.out, HWs.out, HLs.out]; exact ((TR.out.far (by omega)).far (by omega)).far (by omega), Hin2.out, ((RB.out.far (by omega) _).far (by omega) _).far (by omega) _, (((BW.out.setCell (by simp) _).setCell (by simp) _).setCell (by simp) _)⟩
                  case measure => simp [intOf]; omega
              · go_simp
                refine hKq.out _ _ ?_ (fun hHeld1 => ?_)
                · (try dsimp only); first | assumption | exact TB.out.s | exact TB.out.drew.s | exact (TB.out.alloc _).s | exact (TB.out.alloc _).drew.s | exact ((TB.out.alloc _).alloc _).s | exact ((TB.out.alloc _).alloc _).drew.s | exact (((TB.out.alloc _).alloc _).alloc _).s | exact (((TB.out.alloc _).alloc _).alloc _).drew.s
                clear hKq Kq
                (try simp only [Act.put, List.setIfInBounds_toArray, List.set_cons_zero, List.set_cons_succ])
                clear hHeld0
                refine readyK (rs := [4, 10]) (by kernel_rfl) (by simp) ?_
                refine (consA rfl (by decide) (fun Kq hKq => ?_) (consA rfl (by decide) (fun Kq hKq => ?_) nilK))
                · go_simp
                  refine hKq.out _ _ ?_ (fun hHeld2 => ?_)
                  · (try dsimp only); first | assumption | exact TB.out.s | exact TB.out.drew.s | exact (TB.out.alloc _).s | exact (TB.out.alloc _).drew.s | exact ((TB.out.alloc _).alloc _).s | exact ((TB.out.alloc _).alloc _).drew.s | exact (((TB.out.alloc _).alloc _).alloc _).s | exact (((TB.out.alloc _).alloc _).alloc _).drew.s
                  clear hKq Kq
                  (try simp only [Act.put, List.setIfInBounds_toArray, List.set_cons_zero, List.set_cons_succ])
                  clear hHeld1
                  refine readyK (rs := [5, 10]) (by kernel_rfl) (by simp) ?_
                  refine (consA rfl (by decide) (fun Kq hKq => ?_) (consA rfl (by decide) (fun Kq hKq => ?_) nilK))
                  · (refine step_triP (w0 := wc) (B := w.heap.size + 2) rfl _ _ rfl (by rfl) (by rfl) TR.out ((below_new _ _).alloc (by simp; try omega) _).drew (lit_new (wc.alloc (.cells #[.int .i64 qv] 3)) pv (wc.heap.size + 1) (by simp)).drew (by rw [parL_length]; omega) (by omega) ?_
                     intro v1 y1 ht1 hb1 hk1
                     have hz1 : wc.heap.size ≤ y1.heap.size := by have := hb1.size; omega
                     obtain ⟨a1, c1, hv1⟩ := ht1.p.sliceN (n := x + 1) (by rw [List.length_append, parL_length]; rfl)
                     subst hv1
                     have TR := Lib.hid ht1
                     have TB := Lib.hid (TB.out.up hb1 (by omega))
                     have RB := Lib.hid (RB.out.up hb1 (by omega))
                     have BW := Lib.hid (BW.out.trans (hb1.mono (by omega)))
                     have HL15_1 := Lib.hid (hk1 _ _ ((lit_new wc qv wc.heap.size (by simp)).alloc (.cells #[.int .i64 pv] 3)).drew (fun e => by have h9 := HltP.out _ e; first | omega | (simp at h9; done) | (simp at h9; omega)))
                     clear ht1 hb1 hk1)
                    refine hKq.out _ _ ?_ (fun hHeld3 => ?_)
                    · (try dsimp only); first | assumption | exact TB.out.s | exact TB.out.drew.s | exact (TB.out.alloc _).s | exact (TB.out.alloc _).drew.s | exact ((TB.out.alloc _).alloc _).s | exact ((TB.out.alloc _).alloc _).drew.s | exact (((TB.out.alloc _).alloc _).alloc _).s | exact (((TB.out.alloc _).alloc _).alloc _).drew.s
                    clear hKq Kq
                    (try simp only [Act.put, List.setIfInBounds_toArray, List.set_cons_zero, List.set_cons_succ])
                    clear hHeld2
                    refine takeK (i := 17) (oi := _) (v := ?_) rfl (by kernel_rfl) (by kernel_rfl) (by kernel_rfl) (by kernel_rfl) (by kernel_rfl) (fun _ _ _ h => h) (Or.inl ⟨by rfl, ?_⟩) (by assumption) ?_
                    rotate_left
                    · first | (intro w hSw; (try dsimp only at hSw); go_simp; done) | (intro w hSw; (try dsimp only at hSw); go_simp; with_reducible rfl)
                    (try simp only [Act.put, List.setIfInBounds_toArray, List.set_cons_zero, List.set_cons_succ])
                    refine takeK (i := 18) (oi := _) (v := ?_) rfl (by kernel_rfl) (by kernel_rfl) (by kernel_rfl) (by kernel_rfl) (by kernel_rfl) (fun _ _ _ h => h) (Or.inl ⟨by rfl, ?_⟩) (by assumption) ?_
                    rotate_left
                    · first | (intro w hSw; (try dsimp only at hSw); go_simp; done) | (intro w hSw; (try dsimp only at hSw); go_simp; with_reducible rfl)
                    (try simp only [Act.put, List.setIfInBounds_toArray, List.set_cons_zero, List.set_cons_succ])
                    refine readyK (rs := [10]) (by kernel_rfl) (by simp) ?_
                    refine (consA rfl (by decide) (fun Kq hKq => ?_) nilK)
                    go_simp
                    refine hKq.out _ _ ?_ (fun hHeld4 => ?_)
                    · (try dsimp only); first | assumption | exact TB.out.s | exact TB.out.drew.s | exact (TB.out.alloc _).s | exact (TB.out.alloc _).drew.s | exact ((TB.out.alloc _).alloc _).s | exact ((TB.out.alloc _).alloc _).drew.s | exact (((TB.out.alloc _).alloc _).alloc _).s | exact (((TB.out.alloc _).alloc _).alloc _).drew.s
                    clear hKq Kq
                    (try simp only [Act.put, List.setIfInBounds_toArray, List.set_cons_zero, List.set_cons_succ])
                    clear hHeld3
                    refine readyK (rs := [11]) (by kernel_rfl) (by simp) ?_
                    refine (consA rfl (by decide) (fun Kq hKq => ?_) nilK)
                    (refine step_triW (w0 := y1) (B := w.heap.size + 2) rfl _ _ rfl (by rfl) (by rfl) TR.out (below_new _ _) (lit_new y1 wv y1.heap.size (by simp)) (by rw [wtL_length]; omega) (by omega) ?_
                     intro v2 y2 ht2 hb2 hk2
                     have hz2 : wc.heap.size ≤ y2.heap.size := by have := hb2.size; omega
                     obtain ⟨a2, c2, hv2⟩ := ht2.q.sliceN (n := x + 1) (by rw [List.length_append, wtL_length]; rfl)
                     subst hv2
                     have TR := Lib.hid ht2
                     have TB := Lib.hid (TB.out.up hb2 (by omega))
                     have RB := Lib.hid (RB.out.up hb2 (by omega))
                     have BW := Lib.hid (BW.out.trans (hb2.mono (by omega)))
                     have HL15_2 := Lib.hid (hk2 _ _ (HL15_1.out.alloc (.cells #[.int .i64 wv] 3)) (fun e => by have h9 := HltW.out _ e; first | omega | (simp at h9; done) | (simp at h9; omega)))
                     clear ht2 hb2 hk2)
                    refine hKq.out _ _ ?_ (fun hHeld5 => ?_)
                    · (try dsimp only); first | assumption | exact TB.out.s | exact TB.out.drew.s | exact (TB.out.alloc _).s | exact (TB.out.alloc _).drew.s | exact ((TB.out.alloc _).alloc _).s | exact ((TB.out.alloc _).alloc _).drew.s | exact (((TB.out.alloc _).alloc _).alloc _).s | exact (((TB.out.alloc _).alloc _).alloc _).drew.s
                    clear hKq Kq
                    (try simp only [Act.put, List.setIfInBounds_toArray, List.set_cons_zero, List.set_cons_succ])
                    clear hHeld4
                    refine readyK (rs := [16]) (by kernel_rfl) (by simp) ?_
                    refine (consA rfl (by decide) (fun Kq hKq => ?_) nilK)
                    (refine step_triL (w0 := y2) (B := w.heap.size + 2) rfl _ _ rfl (by rfl) (by rfl) TR.out (Below.refl _ _) HL15_2.out (by rw [prL_length]; omega) (by omega) ?_
                     intro v3 y3 ht3 hb3 hk3
                     have hz3 : wc.heap.size ≤ y3.heap.size := by have := hb3.size; omega
                     obtain ⟨a3, c3, hv3⟩ := ht3.l.sliceN (n := x + 1) (by rw [List.length_append, prL_length]; rfl)
                     subst hv3
                     have TR := Lib.hid ht3
                     have TB := Lib.hid (TB.out.up hb3 (by omega))
                     have RB := Lib.hid (RB.out.up hb3 (by omega))
                     have BW := Lib.hid (BW.out.trans (hb3.mono (by omega)))
                     clear ht3 hb3 hk3
                     have zc0 := TB.out.c0
                     have zc1 := TB.out.c1
                     have zc2 := TB.out.c2
                     have zf0 := TB.out.f0
                     have zf1 := TB.out.f1
                     have zf2 := TB.out.f2)
                    refine hKq.out _ _ ?_ (fun hHeld6 => ?_)
                    · (try dsimp only); first | assumption | exact TB.out.s | exact TB.out.drew.s | exact (TB.out.alloc _).s | exact (TB.out.alloc _).drew.s | exact ((TB.out.alloc _).alloc _).s | exact ((TB.out.alloc _).alloc _).drew.s | exact (((TB.out.alloc _).alloc _).alloc _).s | exact (((TB.out.alloc _).alloc _).alloc _).drew.s
                    clear hKq Kq
                    (try simp only [Act.put, List.setIfInBounds_toArray, List.set_cons_zero, List.set_cons_succ])
                    clear hHeld5
                    refine readyK (rs := [19]) (by kernel_rfl) (by simp) ?_
                    refine (consB rfl (by decide) (fun Kq hKq => ?_) nilK)
                    go_simp
                    refine hKq.out _ _ trivial (fun _ => ?_)
                    clear hKq Kq
                    (try simp only [Act.put, List.setIfInBounds_toArray, List.set_cons_zero, List.set_cons_succ])
                    refine readyK (rs := [20]) (by kernel_rfl) (by simp) ?_
                    refine (consB rfl (by decide) (fun Kq hKq => ?_) nilK)
                    go_simp
                    refine hKq.out _ _ trivial (fun _ => ?_)
                    clear hKq Kq
                    (try simp only [Act.put, List.setIfInBounds_toArray, List.set_cons_zero, List.set_cons_succ])
                    refine readyK (rs := [21]) (by kernel_rfl) (by simp) ?_
                    refine (consB rfl (by decide) (fun Kq hKq => ?_) nilK)
                    go_simp
                    refine hKq.out _ _ trivial (fun _ => ?_)
                    clear hKq Kq
                    (try simp only [Act.put, List.setIfInBounds_toArray, List.set_cons_zero, List.set_cons_succ])
                    refine readyK (rs := [22]) (by kernel_rfl) (by simp) ?_
                    refine (consB rfl (by decide) (fun Kq hKq => ?_) nilK)
                    go_simp
                    refine hKq.out _ _ trivial (fun _ => ?_)
                    clear hKq Kq
                    (try simp only [Act.put, List.setIfInBounds_toArray, List.set_cons_zero, List.set_cons_succ])
                    refine readyK (rs := [23]) (by kernel_rfl) (by simp) ?_
                    refine (consB rfl (by decide) (fun Kq hKq => ?_) nilK)
                    go_simp
                    refine hKq.out _ _ trivial (fun _ => ?_)
                    clear hKq Kq
                    (try simp only [Act.put, List.setIfInBounds_toArray, List.set_cons_zero, List.set_cons_succ])
                    refine readyK (rs := [24]) (by kernel_rfl) (by simp) ?_
                    refine (consB rfl (by decide) (fun Kq hKq => ?_) nilK)
                    go_simp
                    refine hKq.out _ _ trivial (fun _ => ?_)
                    clear hKq Kq
                    (try simp only [Act.put, List.setIfInBounds_toArray, List.set_cons_zero, List.set_cons_succ])
                    refine doneK (by kernel_rfl) ?_ _
                    refine NoPanic.normal ?_
                    go_wp2_with fail
                    go_roundw
                    case rel => exact ⟨x + 1, _, _, _, by omega, by go_num, ((TB.out.put0 _).put1 _).put2 _, by rw [HPs.out, HWs.out, HLs.out]; exact ((TR.out.far (by omega)).far (by omega)).far (by omega), Hin2.out, ((RB.out.far (by omega) _).far (by omega) _).far (by omega) _, (((BW.out.setCell (by simp) _).setCell (by simp) _).setCell (by simp) _)⟩
                    case measure => simp [intOf]; omega
                  · go_simp
                    refine hKq.out _ _ ?_ (fun hHeld3 => ?_)
                    · (try dsimp only); first | assumption | exact TB.out.s | exact TB.out.drew.s | exact (TB.out.alloc _).s | exact (TB.out.alloc _).drew.s | exact ((TB.out.alloc _).alloc _).s | exact ((TB.out.alloc _).alloc _).drew.s | exact (((TB.out.alloc _).alloc _).alloc _).s | exact (((TB.out.alloc _).alloc _).alloc _).drew.s
                    clear hKq Kq
                    (try simp only [Act.put, List.setIfInBounds_toArray, List.set_cons_zero, List.set_cons_succ])
                    clear hHeld2
                    refine readyK (rs := [5]) (by kernel_rfl) (by simp) ?_
                    refine (consA rfl (by decide) (fun Kq hKq => ?_) nilK)
                    (refine step_triP (w0 := wc) (B := w.heap.size + 2) rfl _ _ rfl (by rfl) (by rfl) TR.out (((below_new _ _).alloc (by simp; try omega) _).alloc (by simp; try omega) _).drew ((lit_new (wc.alloc (.cells #[.int .i64 qv] 3)) pv (wc.heap.size + 1) (by simp)).alloc (.cells #[.int .i64 wv] 3)).drew (by rw [parL_length]; omega) (by omega) ?_
                     intro v1 y1 ht1 hb1 hk1
                     have hz1 : wc.heap.size ≤ y1.heap.size := by have := hb1.size; omega
                     obtain ⟨a1, c1, hv1⟩ := ht1.p.sliceN (n := x + 1) (by rw [List.length_append, parL_length]; rfl)
                     subst hv1
                     have TR := Lib.hid ht1
                     have TB := Lib.hid (TB.out.up hb1 (by omega))
                     have RB := Lib.hid (RB.out.up hb1 (by omega))
                     have BW := Lib.hid (BW.out.trans (hb1.mono (by omega)))
                     have HL15_1 := Lib.hid (hk1 _ _ (((lit_new wc qv wc.heap.size (by simp)).alloc (.cells #[.int .i64 pv] 3)).alloc (.cells #[.int .i64 wv] 3)).drew (fun e => by have h9 := HltP.out _ e; first | omega | (simp at h9; done) | (simp at h9; omega)))
                     have HL10_1 := Lib.hid (hk1 _ _ (lit_new ((wc.alloc (.cells #[.int .i64 qv] 3)).alloc (.cells #[.int .i64 pv] 3)) wv (wc.heap.size + 2) (by simp)).drew (fun e => by have h9 := HltP.out _ e; first | omega | (simp at h9; done) | (simp at h9; omega)))
                     clear ht1 hb1 hk1)
                    refine hKq.out _ _ ?_ (fun hHeld4 => ?_)
                    · (try dsimp only); first | assumption | exact TB.out.s | exact TB.out.drew.s | exact (TB.out.alloc _).s | exact (TB.out.alloc _).drew.s | exact ((TB.out.alloc _).alloc _).s | exact ((TB.out.alloc _).alloc _).drew.s | exact (((TB.out.alloc _).alloc _).alloc _).s | exact (((TB.out.alloc _).alloc _).alloc _).drew.s
                    clear hKq Kq
                    (try simp only [Act.put, List.setIfInBounds_toArray, List.set_cons_zero, List.set_cons_succ])
                    clear hHeld3
                    refine takeK (i := 17) (oi := _) (v := ?_) rfl (by kernel_rfl) (by kernel_rfl) (by kernel_rfl) (by kernel_rfl) (by kernel_rfl) (fun _ _ _ h => h) (Or.inl ⟨by rfl, ?_⟩) (by assumption) ?_
                    rotate_left
                    · first | (intro w hSw; (try dsimp only at hSw); go_simp; done) | (intro w hSw; (try dsimp only at hSw); go_simp; with_reducible rfl)
                    (try simp only [Act.put, List.setIfInBounds_toArray, List.set_cons_zero, List.set_cons_succ])
                    refine takeK (i := 18) (oi := _) (v := ?_) rfl (by kernel_rfl) (by kernel_rfl) (by kernel_rfl) (by kernel_rfl) (by kernel_rfl) (fun _ _ _ h => h) (Or.inl ⟨by rfl, ?_⟩) (by assumption) ?_
                    rotate_left
                    · first | (intro w hSw; (try dsimp only at hSw); go_simp; done) | (intro w hSw; (try dsimp only at hSw); go_simp; with_reducible rfl)
                    (try simp only [Act.put, List.setIfInBounds_toArray, List.set_cons_zero, List.set_cons_succ])
                    refine readyK (rs := [11]) (by kernel_rfl) (by simp) ?_
                    refine (consA rfl (by decide) (fun Kq hKq => ?_) nilK)
                    (refine step_triW (w0 := y1) (B := w.heap.size + 2) rfl _ _ rfl (by rfl) (by rfl) TR.out (Below.refl _ _) HL10_1.out (by rw [wtL_length]; omega) (by omega) ?_
                     intro v2 y2 ht2 hb2 hk2
                     have hz2 : wc.heap.size ≤ y2.heap.size := by have := hb2.size; omega
                     obtain ⟨a2, c2, hv2⟩ := ht2.q.sliceN (n := x + 1) (by rw [List.length_append, wtL_length]; rfl)
                     subst hv2
                     have TR := Lib.hid ht2
                     have TB := Lib.hid (TB.out.up hb2 (by omega))
                     have RB := Lib.hid (RB.out.up hb2 (by omega))
                     have BW := Lib.hid (BW.out.trans (hb2.mono (by omega)))
                     have HL15_2 := Lib.hid (hk2 _ _ HL15_1.out (fun e => by have h9 := HltW.out _ e; first | omega | (simp at h9; done) | (simp at h9; omega)))
                     clear ht2 hb2 hk2)
                    refine hKq.out _ _ ?_ (fun hHeld5 => ?_)
                    · (try dsimp only); first | assumption | exact TB.out.s | exact TB.out.drew.s | exact (TB.out.alloc _).s | exact (TB.out.alloc _).drew.s | exact ((TB.out.alloc _).alloc _).s | exact ((TB.out.alloc _).alloc _).drew.s | exact (((TB.out.alloc _).alloc _).alloc _).s | exact (((TB.out.alloc _).alloc _).alloc _).drew.s
                    clear hKq Kq
                    (try simp only [Act.put, List.setIfInBounds_toArray, List.set_cons_zero, List.set_cons_succ])
                    clear hHeld4
                    refine readyK (rs := [16]) (by kernel_rfl) (by simp) ?_
                    refine (consA rfl (by decide) (fun Kq hKq => ?_) nilK)
                    (refine step_triL (w0 := y2) (B := w.heap.size + 2) rfl _ _ rfl (by rfl) (by rfl) TR.out (Below.refl _ _) HL15_2.out (by rw [prL_length]; omega) (by omega) ?_
                     intro v3 y3 ht3 hb3 hk3
                     have hz3 : wc.heap.size ≤ y3.heap.size := by have := hb3.size; omega
                     obtain ⟨a3, c3, hv3⟩ := ht3.l.sliceN (n := x + 1) (by rw [List.length_append, prL_length]; rfl)
                     subst hv3
                     have TR := Lib.hid ht3
                     have TB := Lib.hid (TB.out.up hb3 (by omega))
                     have RB := Lib.hid (RB.out.up hb3 (by omega))
                     have BW := Lib.hid (BW.out.trans (hb3.mono (by omega)))
                     clear ht3 hb3 hk3
                     have zc0 := TB.out.c0
                     have zc1 := TB.out.c1
                     have zc2 := TB.out.c2
                     have zf0 := TB.out.f0
                     have zf1 := TB.out.f1
                     have zf2 := TB.out.f2)
                    refine hKq.out _ _ ?_ (fun hHeld6 => ?_)
                    · (try dsimp only); first | assumption | exact TB.out.s | exact TB.out.drew.s | exact (TB.out.alloc _).s | exact (TB.out.alloc _).drew.s | exact ((TB.out.alloc _).alloc _).s | exact ((TB.out.alloc _).alloc _).drew.s | exact (((TB.out.alloc _).alloc _).alloc _).s | exact (((TB.out.alloc _).alloc _).alloc _).drew.s
                    clear hKq Kq
                    (try simp only [Act.put, List.setIfInBounds_toArray, List.set_cons_zero, List.set_cons_succ])
                    clear hHeld5
                    refine readyK (rs := [19]) (by kernel_rfl) (by simp) ?_
                    refine (consB rfl (by decide) (fun Kq hKq => ?_) nilK)
                    go_simp
                    refine hKq.out _ _ trivial (fun _ => ?_)
                    clear hKq Kq
                    (try simp only [Act.put, List.setIfInBounds_toArray, List.set_cons_zero, List.set_cons_succ])
                    refine readyK (rs := [20]) (by kernel_rfl) (by simp) ?_
                    refine (consB rfl (by decide) (fun Kq hKq => ?_) nilK)
                    go_simp
                    refine hKq.out _ _ trivial (fun _ => ?_)
                    clear hKq Kq
                    (try simp only [Act.put, List.setIfInBounds_toArray, List.set_cons_zero, List.set_cons_succ])
                    refine readyK (rs := [21]) (by kernel_rfl) (by simp) ?_
                    refine (consB rfl (by decide) (fun Kq hKq => ?_) nilK)
                    go_simp
                    refine hKq.out _ _ trivial (fun _ => ?_)
                    clear hKq Kq
                    (try simp only [Act.put, List.setIfInBounds_toArray, List.set_cons_zero, List.set_cons_succ])
                    refine readyK (rs := [22]) (by kernel_rfl) (by simp) ?_
                    refine (consB rfl (by decide) (fun Kq hKq => ?_) nilK)
                    go_simp
                    refine hKq.out _ _ trivial (fun _ => ?_)
                    clear hKq Kq
                    (try simp only [Act.put, List.setIfInBounds_toArray, List.set_cons_zero, List.set_cons_succ])
                    refine readyK (rs := [23]) (by kernel_rfl) (by simp) ?_
                    refine (consB rfl (by decide) (fun Kq hKq => ?_) nilK)
                    go_simp
                    refine hKq.out _ _ trivial (fun _ => ?_)
                    clear hKq Kq
                    (try simp only [Act.put, List.setIfInBounds_toArray, List.set_cons_zero, List.set_cons_succ])
                    refine readyK (rs := [24]) (by kernel_rfl) (by simp) ?_
                    refine (consB rfl (by decide) (fun Kq hKq => ?_) nilK)
                    go_simp
                    refine hKq.out _ _ trivial (fun _ => ?_)
                    clear hKq Kq
                    (try simp only [Act.put, List.setIfInBounds_toArray, List.set_cons_zero, List.set_cons_succ])
                    refine doneK (by kernel_rfl) ?_ _
                    refine NoPanic.normal ?_
                    go_wp2_with fail
                    go_roundw
                    case rel => exact ⟨x + 1, _, _, _, by omega, by go_num, ((TB.out.put0 _).put1 _).put2 _, by rw [HPs.out, HWs.out, HLs.out]; exact ((TR.out.far (by omega)).far (by omega)).far (by omega), Hin2.out, ((RB.out.far (by omega) _).far (by omega) _).far (by omega) _, (((BW.out.setCell (by simp) _).setCell (by simp) _).setCell (by simp) _)⟩
                    case measure => simp [intOf]; omega
                · go_simp
                  refine hKq.out _ _ ?_ (fun hHeld2 => ?_)
                  · (try dsimp only); first | assumption | exact TB.out.s | exact TB.out.drew.s | exact (TB.out.alloc _).s | exact (TB.out.alloc _).drew.s | exact ((TB.out.alloc _).alloc _).s | exact ((TB.out.alloc _).alloc _).drew.s | exact (((TB.out.alloc _).alloc _).alloc _).s | exact (((TB.out.alloc _).alloc _).alloc _).drew.s
                  clear hKq Kq
                  (try simp only [Act.put, List.setIfInBounds_toArray, List.set_cons_zero, List.set_cons_succ])
                  clear hHeld1
                  refine readyK (rs := [4]) (by kernel_rfl) (by simp) ?_
                  refine (consA rfl (by decide) (fun Kq hKq => ?_) nilK)
                  go_simp
                  refine hKq.out _ _ ?_ (fun hHeld3 => ?_)
                  · (try dsimp only); first | assumption | exact TB.out.s | exact TB.out.drew.s | exact (TB.out.alloc _).s | exact (TB.out.alloc _).drew.s | exact ((TB.out.alloc _).alloc _).s | exact ((TB.out.alloc _).alloc _).drew.s | exact (((TB.out.alloc _).alloc _).alloc _).s | exact (((TB.out.alloc _).alloc _).alloc _).drew.s
                  clear hKq Kq
                  (try simp only [Act.put, List.setIfInBounds_toArray, List.set_cons_zero, List.set_cons_succ])
                  clear hHeld2
                  refine readyK (rs := [5]) (by kernel_rfl) (by simp) ?_
                  refine (consA rfl (by decide) (fun Kq hKq => ?_) nilK)
                  (refine step_triP (w0 := wc) (B := w.heap.size + 2) rfl _ _ rfl (by rfl) (by rfl) TR.out (((below_new _ _).alloc (by simp; try omega) _).alloc (by simp; try omega) _).drew (lit_new ((wc.alloc (.cells #[.int .i64 qv] 3)).alloc (.cells #[.int .i64 wv] 3)) pv (wc.heap.size + 2) (by simp)).drew (by rw [parL_length]; omega) (by omega) ?_
                   intro v1 y1 ht1 hb1 hk1
                   have hz1 : wc.heap.size ≤ y1.heap.size := by have := hb1.size; omega
                   obtain ⟨a1, c1, hv1⟩ := ht1.p.sliceN (n := x + 1) (by rw [List.length_append, parL_length]; rfl)
                   subst hv1
                   have TR := Lib.hid ht1
                   have TB := Lib.hid (TB.out.up hb1 (by omega))
                   have RB := Lib.hid (RB.out.up hb1 (by omega))
                   have BW := Lib.hid (BW.out.trans (hb1.mono (by omega)))
                   have HL15_1 := Lib.hid (hk1 _ _ (((lit_new wc qv wc.heap.size (by simp)).alloc (.cells #[.int .i64 wv] 3)).alloc (.cells #[.int .i64 pv] 3)).drew (fun e => by have h9 := HltP.out _ e; first | omega | (simp at h9; done) | (simp at h9; omega)))
                   have HL10_1 := Lib.hid (hk1 _ _ ((lit_new (wc.alloc (.cells #[.int .i64 qv] 3)) wv (wc.heap.size + 1) (by simp)).alloc (.cells #[.int .i64 pv] 3)).drew (fun e => by have h9 := HltP.out _ e; first | omega | (simp at h9; done) | (simp at h9; omega)))
                   clear ht1 hb1 hk1)
                  refine hKq.out _ _ ?_ (fun hHeld4 => ?_)
                  · (try dsimp only); first | assumption | exact TB.out.s | exact TB.out.drew.s | exact (TB.out.alloc _).s | exact (TB.out.alloc _).drew.s | exact ((TB.out.alloc _).alloc _).s | exact ((TB.out.alloc _).alloc _).drew.s | exact (((TB.out.alloc _).alloc _).alloc _).s | exact (((TB.out.alloc _).alloc _).alloc _).drew.s
                  clear hKq Kq
                  (try simp only [Act.put, List.setIfInBounds_toArray, List.set_cons_zero, List.set_cons_succ])
                  clear hHeld3
                  refine takeK (i := 17) (oi := _) (v := ?_) rfl (by kernel_rfl) (by kernel_rfl) (by kernel_rfl) (by kernel_rfl) (by kernel_rfl) (fun _ _ _ h => h) (Or.inl ⟨by rfl, ?_⟩) (by assumption) ?_
                  rotate_left
                  · first | (intro w hSw; (try dsimp only at hSw); go_simp; done) | (intro w hSw; (try dsimp only at hSw); go_simp; with_reducible rfl)
                  (try simp only [Act.put, List.setIfInBounds_toArray, List.set_cons_zero, List.set_cons_succ])
                  refine takeK (i := 18) (oi := _) (v := ?_) rfl (by kernel_rfl) (by kernel_rfl) (by kernel_rfl) (by kernel_rfl) (by kernel_rfl) (fun _ _ _ h => h) (Or.inl ⟨by rfl, ?_⟩) (by assumption) ?_
                  rotate_left
                  · first | (intro w hSw; (try dsimp only at hSw); go_simp; done) | (intro w hSw; (try dsimp only at hSw); go_simp; with_reducible rfl)
                  (try simp only [Act.put, List.setIfInBounds_toArray, List.set_cons_zero, List.set_cons_succ])
                  refine readyK (rs := [11]) (by kernel_rfl) (by simp) ?_
                  refine (consA rfl (by decide) (fun Kq hKq => ?_) nilK)
                  (refine step_triW (w0 := y1) (B := w.heap.size + 2) rfl _ _ rfl (by rfl) (by rfl) TR.out (Below.refl _ _) HL10_1.out (by rw [wtL_length]; omega) (by omega) ?_
                   intro v2 y2 ht2 hb2 hk2
                   have hz2 : wc.heap.size ≤ y2.heap.size := by have := hb2.size; omega
                   obtain ⟨a2, c2, hv2⟩ := ht2.q.sliceN (n := x + 1) (by rw [List.length_append, wtL_length]; rfl)
                   subst hv2
                   have TR := Lib.hid ht2
                   have TB := Lib.hid (TB.out.up hb2 (by omega))
                   have RB := Lib.hid (RB.out.up hb2 (by omega))
                   have BW := Lib.hid (BW.out.trans (hb2.mono (by omega)))
                   have HL15_2 := Lib.hid (hk2 _ _ HL15_1.out (fun e => by have h9 := HltW.out _ e; first | omega | (simp at h9; done) | (simp at h9; omega)))
                   clear ht2 hb2 hk2)
                  refine hKq.out _ _ ?_ (fun hHeld5 => ?_)
                  · (try dsimp only); first | assumption | exact TB.out.s | exact TB.out.drew.s | exact (TB.out.alloc _).s | exact (TB.out.alloc _).drew.s | exact ((TB.out.alloc _).alloc _).s | exact ((TB.out.alloc _).alloc _).drew.s | exact (((TB.out.alloc _).alloc _).alloc _).s | exact (((TB.out.alloc _).alloc _).alloc _).drew.s
                  clear hKq Kq
                  (try simp only [Act.put, List.setIfInBounds_toArray, List.set_cons_zero, List.set_cons_succ])
                  clear hHeld4
                  refine readyK (rs := [16]) (by kernel_rfl) (by simp) ?_
                  refine (consA rfl (by decide) (fun Kq hKq => ?_) nilK)
                  (refine step_triL (w0 := y2) (B := w.heap.size + 2) rfl _ _ rfl (by rfl) (by rfl) TR.out (Below.refl _ _) HL15_2.out (by rw [prL_length]; omega) (by omega) ?_
                   intro v3 y3 ht3 hb3 hk3
                   have hz3 : wc.heap.size ≤ y3.heap.size := by have := hb3.size; omega
                   obtain ⟨a3, c3, hv3⟩ := ht3.l.sliceN (n := x + 1) (by rw [List.length_append, prL_length]; rfl)
                   subst hv3
                   have TR := Lib.hid ht3
                   have TB := Lib.hid (TB.out.up hb3 (by omega))
                   have RB := Lib.hid (RB.out.up hb3 (by omega))
                   have BW := Lib.hid (BW.out.trans (hb3.mono (by omega)))
                   clear ht3 hb3 hk3
                   have zc0 := TB.out.c0
                   have zc1 := TB.out.c1
                   have zc2 := TB.out.c2
                   have zf0 := TB.out.f0
                   have zf1 := TB.out.f1
                   have zf2 := TB.out.f2)
                  refine hKq.out _ _ ?_ (fun hHeld6 => ?_)
                  · (try dsimp only); first | assumption | exact TB.out.s | exact TB.out.drew.s | exact (TB.out.alloc _).s | exact (TB.out.alloc _).drew.s | exact ((TB.out.alloc _).alloc _).s | exact ((TB.out.alloc _).alloc _).drew.s | exact (((TB.out.alloc _).alloc _).alloc _).s | exact (((TB.out.alloc _).alloc _).alloc _).drew.s
                  clear hKq Kq
                  (try simp only [Act.put, List.setIfInBounds_toArray, List.set_cons_zero, List.set_cons_succ])
                  clear hHeld5
                  refine readyK (rs := [19]) (by kernel_rfl) (by simp) ?_
                  refine (consB rfl (by decide) (fun Kq hKq => ?_) nilK)
                  go_simp
                  refine hKq.out _ _ trivial (fun _ => ?_)
                  clear hKq Kq
                  (try simp only [Act.put, List.setIfInBounds_toArray, List.set_cons_zero, List.set_cons_succ])
                  refine readyK (rs := [20]) (by kernel_rfl) (by simp) ?_
                  refine (consB rfl (by decide) (fun Kq hKq => ?_) nilK)
                  go_simp
                  refine hKq.out _ _ trivial (fun _ => ?_)
                  clear hKq Kq
                  (try simp only [Act.put, List.setIfInBounds_toArray, List.set_cons_zero, List.set_cons_succ])
                  refine readyK (rs := [21]) (by kernel_rfl) (by simp) ?_
                  refine (consB rfl (by decide) (fun Kq hKq => ?_) nilK)
                  go_simp
                  refine hKq.out _ _ trivial (fun _ => ?_)
                  clear hKq Kq
                  (try simp only [Act.put, List.setIfInBounds_toArray, List.set_cons_zero, List.set_cons_succ])
                  refine readyK (rs := [22]) (by kernel_rfl) (by simp) ?_
                  refine (consB rfl (by decide) (fun Kq hKq => ?_) nilK)
                  go_simp
                  refine hKq.out _ _ trivial (fun _ => ?_)
                  clear hKq Kq
                  (try simp only [Act.put, List.setIfInBounds_toArray, List.set_cons_zero, List.set_cons_succ])
                  refine readyK (rs := [23]) (by kernel_rfl) (by simp) ?_
                  refine (consB rfl (by decide) (fun Kq hKq => ?_) nilK)
                  go_simp
                  refine hKq.out _ _ trivial (fun _ => ?_)
                  clear hKq Kq
                  (try simp only [Act.put, List.setIfInBounds_toArray, List.set_cons_zero, List.set_cons_succ])
                  refine readyK (rs := [24]) (by kernel_rfl) (by simp) ?_
                  refine (consB rfl (by decide) (fun Kq hKq => ?_) nilK)
                  go_simp
                  refine hKq.out _ _ trivial (fun _ => ?_)
                  clear hKq Kq
                  (try simp only [Act.put, List.setIfInBounds_toArray, List.set_cons_zero, List.set_cons_succ])
                  refine doneK (by kernel_rfl) ?_ _
                  refine NoPanic.normal ?_
                  go_wp2_with fail
                  go_roundw
                  case rel => exact ⟨x + 1, _, _, _, by omega, by go_num, ((TB.out.put0 _).put1 _).put2 _, by rw [HPs.out, HWs.out, HLs.out]; exact ((TR.out.far (by omega)).far (by omega)).far (by omega), Hin2.out, ((RB.out.far (by omega) _).far (by omega) _).far (by omega) _, (((BW.out.setCell (by simp) _).setCell (by simp) _).setCell (by simp) _)⟩
                  case measure => simp [intOf]; omega
      · obtain rfl : x = M := by omega
        have Hy := Lib.hid (mk_yes (n := (N : Int)) (u := u) (d := d) (p := p) Hrow.out (by omega) (fun y hy => Hin.out y (by rw [Int.toNat_natCast, ← HM.out] at hy; exact hy)))
        obtain ⟨aP, cP, hvP⟩ := TR.out.p.sliceN (parL_length x)
        obtain ⟨aW, cW, hvW⟩ := TR.out.q.sliceN (wtL_length x x)
        obtain ⟨aL, cL, hvL⟩ := TR.out.l.sliceN (prL_length u d p x)
        subst hvP hvW hvL
        have b0 := TB.out.c0
        have b1 := TB.out.c1
        have b2 := TB.out.c2
        have q0 := RB.out.c0
        have q1 := RB.out.c1
        have q2 := RB.out.c2
        have g0 := RB.out.f0
        have g1 := RB.out.f1
        have g2 := RB.out.f2
        have hr := ((RB.out.put0 (.slice aP x cP)).put1 (.slice aW x cW)).put2 (.slice aL x cL)
        have e0 := hr.c0
        have e1 := hr.c1
        have e2 := hr.c2
        have HT := Lib.hid (((TR.out.far (g := w.heap.size) (i := 0) (u := .slice aP x cP) (by omega)).far (g := w.heap.size) (i := 1) (u := .slice aW x cW) (by omega)).far (g := w.heap.size) (i := 2) (u := .slice aL x cL) (by omega))
        clear hr
        go_wp2_with fail
        obtain ⟨h1, h2, h3⟩ := mkV_yes Hy.out
        rw [Int.toNat_natCast, ← HM.out] at h1 h2 h3
        exact bodyPost_ret (v := .tuple #[.agg #[.slice aP x cP, .slice aW x cW, .slice aL x cL], .bool true]) (by simp [results, Try.results15, go_sem, e0, e1, e2]) rfl ⟨⟨_, by rw [Hy.out], by rw [h1, h2, h3]; exact (HT.out.mono (by omega)).mkr⟩, (((BW.out.setCell (Nat.le_refl _) _).setCell (Nat.le_refl _) _).setCell (Nat.le_refl _) _)⟩
end Go.Proofs.Ytcoakeedgngogaa
