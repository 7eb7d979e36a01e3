/- Contract: the market of a row, by the reference. -/
import Derived.Test.YtcoakeedgngogaaPlMk2
import Derived.Test.YtcoakeedgngogaaRm0
import Derived.Test.YtcoakeedgngogaaTree3
import Derived.Deep.DeepCutAuto
import Derived.Deep.CutRange
namespace Go.Proofs.Ytcoakeedgngogaa
open Go.RowKit

set_option maxRecDepth 100000 in
set_option maxHeartbeats 8000000 in
theorem spec_RowMarket (n u d p : Int) (w : World) :
    Calls Try.prog 14 #[.int .i64 n, .int .i64 u, .int .i64 d, .int .i64 p] w fun e w' => (∃ v, e = .returned (.tuple #[v, .bool (mkOk n u d p)]) ∧ MkR w' w.heap.size v (mkP n u d p) (mkW n u d p) (mkL n u d p)) ∧ Below w.heap.size w w' := by
  have hb1 := below_new w (.cells #[.slice none 0 0, .slice none 0 0, .slice none 0 0] 35)
  have hR1 := Trip.new w (.slice none 0 0) (.slice none 0 0) (.slice none 0 0) 35
  have HR1 := Lib.hid hR1
  have q0 := hR1.c0
  have q1 := hR1.c1
  have q2 := hR1.c2
  have g0 := hR1.f0
  have g1 := hR1.f1
  have g2 := hR1.f2
  have hr := ((hR1.put0 (.slice none 0 0)).put1 (.slice none 0 0)).put2 (.slice none 0 0)
  have Hr := Lib.hid hr
  clear hR1 hr
  have NO : mkOk n u d p = false → ∀ W, Below w.heap.size w W → (∃ v, Ending.returned (.tuple #[.agg #[.slice none 0 0, .slice none 0 0, .slice none 0 0], .bool false]) = .returned (.tuple #[v, .bool (mkOk n u d p)]) ∧ MkR W w.heap.size v (mkP n u d p) (mkW n u d p) (mkL n u d p)) ∧ Below w.heap.size w W := fun h W hW => by
    obtain ⟨h1, h2, h3⟩ := mkV_no h
    rw [h, h1, h2, h3]
    exact ⟨⟨_, rfl, (Tri.nil W w.heap.size).mkr⟩, hW⟩
  have HNO := Lib.hid NO
  clear NO
  cases hrow : rowB n u d
  · have Hrow := Lib.hid hrow
    clear hrow
    go_enter Try.func14, Try.ntmps14
    go_wp2_with (go_at_call 33; refine (spec_l6Row _ _ _ _).mono ?_; rintro e w' ⟨rfl, rfl⟩; rw [Hrow.out])
    have e0 := Hr.out.c0
    have e1 := Hr.out.c1
    have e2 := Hr.out.c2
    exact bodyPost_ret (v := .tuple #[.agg #[.slice none 0 0, .slice none 0 0, .slice none 0 0], .bool false]) (by simp [results, Try.results14, go_sem, e0, e1, e2]) rfl (HNO.out (mk_no1 Hrow.out) _ hb1)
  by_cases hn3 : n > 3
  · have Hrow := Lib.hid hrow
    clear hrow
    go_enter Try.func14, Try.ntmps14
    go_wp2_with (go_at_call 33; refine (spec_l6Row _ _ _ _).mono ?_; rintro e w' ⟨rfl, rfl⟩; rw [Hrow.out])
    have e0 := Hr.out.c0
    have e1 := Hr.out.c1
    have e2 := Hr.out.c2
    exact bodyPost_ret (v := .tuple #[.agg #[.slice none 0 0, .slice none 0 0, .slice none 0 0], .bool false]) (by simp [results, Try.results14, go_sem, e0, e1, e2]) rfl (HNO.out (mk_no2 (by omega)) _ hb1)
  have hrt := rowB_t hrow
  obtain ⟨N, rfl⟩ : ∃ N : Nat, n = N := ⟨n.toNat, by omega⟩
  have Hrow := Lib.hid hrow
  have hN3 : N ≤ 3 := by omega
  have hn4 : (N : Int) ≤ 3 := by omega
  go_enter Try.func14, Try.ntmps14
  clear hrow hn3 q0 q1 q2 g0 g1 g2 Hr
  have HR := Lib.hid ((((HR1.out.alloc (.cells #[.int .i64 (-1)] 3)).alloc (.cells #[] 3)).alloc (.cells #[.int .i64 p] 3)))
  obtain ⟨w1, hw1⟩ : ∃ z, z = w.alloc (.cells #[.slice none 0 0, .slice none 0 0, .slice none 0 0] 35) := ⟨_, rfl⟩
  have hs1 : w1.heap.size = w.heap.size + 1 := by rw [hw1]; simp
  have hP := own_lit1 w1 (w.heap.size + 1) (-1) (by omega)
  have hW := (own_nil0 (w1.alloc (.cells #[.int .i64 (-1)] 3))).mono (base' := w.heap.size + 1) (by simp; omega)
  have hL := own_lit1 ((w1.alloc (.cells #[.int .i64 (-1)] 3)).alloc (.cells #[] 3)) (w.heap.size + 1) p (by simp; omega)
  rw [show (w1.alloc (.cells #[.int .i64 (-1)] 3)).heap.size = w.heap.size + 2 by simp [hs1]] at hW
  rw [show ((w1.alloc (.cells #[.int .i64 (-1)] 3)).alloc (.cells #[] 3)).heap.size = w.heap.size + 3 by simp [hs1]] at hL
  rw [hs1] at hP
  have hTr : Tri (((w1.alloc (.cells #[.int .i64 (-1)] 3)).alloc (.cells #[] 3)).alloc (.cells #[.int .i64 p] 3)) (w.heap.size + 1) (.slice (some ⟨w.heap.size + 1, 0, none⟩) 1 1) (.slice (some ⟨w.heap.size + 2, 0, none⟩) 0 0) (.slice (some ⟨w.heap.size + 3, 0, none⟩) 1 1) [-1] [] [p] :=
    ⟨(hP.below (below_new _ _)).below (below_new _ _), hW.below (below_new _ _), hL, fun k hk => by simp [Value.ownBlock] at hk ⊢; omega, fun k hk => by simp [Value.ownBlock] at hk ⊢; omega, fun k hk => by simp [Value.ownBlock] at hk ⊢; omega⟩
  have hb4 : Below w.heap.size w (((w1.alloc (.cells #[.int .i64 (-1)] 3)).alloc (.cells #[] 3)).alloc (.cells #[.int .i64 p] 3)) := by
    rw [hw1]; exact ((hb1.alloc hb1.size _).alloc (by simp; omega) _).alloc (by simp; omega) _
  have hs4 : (((w1.alloc (.cells #[.int .i64 (-1)] 3)).alloc (.cells #[] 3)).alloc (.cells #[.int .i64 p] 3)).heap.size = w.heap.size + 4 := by simp [hs1]
  subst hw1
  go_upto_region 4 with (go_at_call 33; refine (spec_l6Row _ _ _ _).mono ?_; rintro e w' ⟨rfl, rfl⟩; rw [Hrow.out])
  generalize ((((w.alloc (.cells #[.slice none 0 0, .slice none 0 0, .slice none 0 0] 35)).alloc (.cells #[.int .i64 (-1)] 3)).alloc (.cells #[] 3)).alloc (.cells #[.int .i64 p] 3)) = w4 at *
  have hbx := Trip.new w4 (.slice (some ⟨w.heap.size + 1, 0, none⟩) 1 1) (.slice (some ⟨w.heap.size + 1 + 1, 0, none⟩) 0 0) (.slice (some ⟨w.heap.size + 1 + 1 + 1, 0, none⟩) 1 1) 35
  have hb5 := hb4.alloc hb4.size (.cells #[.slice (some ⟨w.heap.size + 1, 0, none⟩) 1 1, .slice (some ⟨w.heap.size + 1 + 1, 0, none⟩) 0 0, .slice (some ⟨w.heap.size + 1 + 1 + 1, 0, none⟩) 1 1] 35)
  rw [hs4] at hbx
  have BX0 : Hid (BxM (w4.alloc (.cells #[.slice (some ⟨w.heap.size + 1, 0, none⟩) 1 1, .slice (some ⟨w.heap.size + 1 + 1, 0, none⟩) 0 0, .slice (some ⟨w.heap.size + 1 + 1 + 1, 0, none⟩) 1 1] 35)) (w.heap.size + 1) (w.heap.size + 4) _ _ _ [-1] [] [p]) := Lib.hid ⟨hbx, hTr.below (below_new _ _), by simp [Value.ownBlock], by simp [Value.ownBlock], by simp [Value.ownBlock]⟩
  have HR5 := Lib.hid (HR.out.alloc (.cells #[.slice (some ⟨w.heap.size + 1, 0, none⟩) 1 1, .slice (some ⟨w.heap.size + 1 + 1, 0, none⟩) 0 0, .slice (some ⟨w.heap.size + 1 + 1 + 1, 0, none⟩) 1 1] 35))
  generalize (w4.alloc (.cells #[.slice (some ⟨w.heap.size + 1, 0, none⟩) 1 1, .slice (some ⟨w.heap.size + 1 + 1, 0, none⟩) 0 0, .slice (some ⟨w.heap.size + 1 + 1 + 1, 0, none⟩) 1 1] 35)) = w5 at *
  clear hbx hTr hL hb4 hs4 HR HR1
  generalize (Value.slice (some ⟨w.heap.size + 1, 0, none⟩) 1 1) = vP0 at BX0
  generalize (Value.slice (some ⟨w.heap.size + 1 + 1, 0, none⟩) 0 0) = vW0 at BX0
  generalize (Value.slice (some ⟨w.heap.size + 1 + 1 + 1, 0, none⟩) 1 1) = vL0 at BX0
  go_wp2_with fail
  go_loopw [11, 12] (fun v11 v12 wr => ∃ (s fr tt e : Nat) (vP vW vL : Value) (ps qs : List Int), s ≤ N ∧ v12 = .int .i64 (s : Int) ∧ v11 = .int .i64 (fr : Int) ∧ e = 2 ^ s ∧ fr ≤ tt ∧ tt ≤ fr + e ∧ tt + 1 ≤ 2 * e ∧ ps.length = tt ∧ qs.length = tt ∧ Pa ps ∧ (badM (N : Int) u d p qs ∨ (fr + 1 = e ∧ tt + 1 = 2 * e ∧ ps = parL tt ∧ qs = prL u d p tt ∧ ∀ y, y < fr → inB (prI u d p y) 0 20 = true)) ∧ BxM wr (w.heap.size + 1) (w.heap.size + 4) vP vW vL ps [] qs ∧ Trip wr w.heap.size (.slice none 0 0) (.slice none 0 0) (.slice none 0 0) ∧ Below w.heap.size w wr) (fun _ v12 _ => N - (intOf v12).toNat)
  case atStart => exact ⟨0, 0, 1, 1, _, _, _, [-1], [p], Nat.zero_le _, rfl, rfl, rfl, by omega, by omega, by omega, rfl, rfl, pa_one, .inr ⟨rfl, rfl, rfl, by rw [prL]; simp [pr_zero], fun y hy => by omega⟩, BX0.out, HR5.out, hb5⟩
  case round =>
    clear BX0 HR5 hb5
    obtain ⟨s, fr, tt, e, vP, vW, vL, ps, qs, hs, rfl, rfl, he, h1, h2, h3, hpl, hql, hpa, hex, hBX, hRB, hbw⟩ := hrel
    have BX := Lib.hid hBX
    have RB := Lib.hid hRB
    have BW := Lib.hid hbw
    have Hpa := Lib.hid hpa
    have Hex := Lib.hid hex
    have He := Lib.hid he
    clear hBX hRB hbw hpa hex he
    by_cases hlt : (s : Int) < N
    · have he4 : e ≤ 4 := by
        rw [He.out]
        have : s ≤ 2 := by omega
        rcases (by omega : s = 0 ∨ s = 1 ∨ s = 2) with rfl | rfl | rfl <;> decide
      obtain ⟨aL, cL, hvL⟩ := BX.out.t.l.sliceN hql
      subst hvL
      have c2 := BX.out.box.c2
      have HplT := Lib.hid hpl
      have HqlT := Lib.hid hql
      obtain ⟨wo, hwo⟩ : ∃ z, z = wr := ⟨_, rfl⟩
      rw [← hwo] at BX RB BW c2 ⊢
      clear hwo
      clear hpl hql
      go_wp2_with fail
      clear c2
      go_loopw [14] (fun v14 wr => ∃ (x L : Nat) (vP vL : Value) (ps qs : List Int), fr ≤ x ∧ x ≤ tt ∧ L + 2 * fr = tt + 2 * x ∧ v14 = .int .i64 (x : Int) ∧ ps.length = L ∧ qs.length = L ∧ Pa ps ∧ (badM (N : Int) u d p qs ∨ (fr + 1 = e ∧ tt + 1 = 2 * e ∧ ps = parL (2 * x + 1) ∧ qs = prL u d p (2 * x + 1) ∧ ∀ y, y < x → inB (prI u d p y) 0 20 = true)) ∧ BxM wr (w.heap.size + 1) (w.heap.size + 4) vP vW vL ps [] qs ∧ Trip wr w.heap.size (.slice none 0 0) (.slice none 0 0) (.slice none 0 0) ∧ Below w.heap.size w wr) (fun v14 _ => tt - (intOf v14).toNat)
      case atStart => exact ⟨fr, tt, _, _, ps, qs, Nat.le_refl _, h1, by omega, rfl, HplT.out, HqlT.out, Hpa.out, Hex.out.imp id (fun ⟨e1, e2, e3, e4, e5⟩ => ⟨e1, e2, by rw [e3]; congr 1; omega, by rw [e4]; congr 1; omega, e5⟩), BX.out, RB.out, BW.out⟩
      case round =>
        clear BX RB BW HplT HqlT Hpa Hex ps qs vP
        obtain ⟨x, L, vP, vL, ps, qs, hx1, hx2, hL, rfl, hpl, hql, hpa, hex, hBX, hRB, hbw⟩ := hrel
        have BX := Lib.hid hBX
        have RB := Lib.hid hRB
        have BW := Lib.hid hbw
        have Hpa := Lib.hid hpa
        have Hex := Lib.hid hex
        clear hBX hRB hbw hpa hex
        by_cases hlt2 : (x : Int) < tt
        · obtain ⟨gL, cL2, hvL, hgL1, hgL2⟩ := BX.out.t.l.form (by omega)
          rw [hql] at hvL
          subst hvL
          obtain ⟨aP, cP, hvP⟩ := BX.out.t.p.sliceN hpl
          subst hvP
          have c0 := BX.out.box.c0
          have c2 := BX.out.box.c2
          have cx := BX.out.t.l.cell (i := x) (by omega)
          have k1 : (0 : Int) ≤ (x : Int) := by omega
          have k2 : (x : Int) < (L : Int) := by omega
          obtain ⟨q, hq⟩ : ∃ q, q = nth qs x := ⟨_, rfl⟩
          rw [← hq] at cx
          cases hin : inB q 0 20
          · have Hin := Lib.hid hin
            have hbad : badM (N : Int) u d p qs := by
              rcases Hex.out with h | ⟨e1, e2, e3, e4, e5⟩
              · exact h
              · have hqx : q = prI u d p x := by rw [hq, e4, nth_prL (by omega)]
                refine ⟨mk_no3 (x := x) ?_ (by rw [← hqx]; exact hin), x, by omega, by rw [← hq]; exact hin⟩
                rw [Int.toNat_natCast]
                have : 2 ^ (s + 1) ≤ 2 ^ N := Nat.pow_le_pow_right (by omega) (by omega)
                have h5 := He.out
                unfold nodesN
                rw [Nat.pow_succ] at this ⊢
                omega
            have Hbad := Lib.hid hbad
            clear hin hbad hq
            go_wp2_with (go_at_call 45; refine (spec_l1In _ _ _ _).mono ?_; rintro e w' ⟨rfl, rfl⟩; rw [Hin.out])
            go_roundw
            case rel => exact ⟨s + 1, tt, L, 2 * e, _, _, _, ps, qs, by omega, by go_num, rfl, by rw [He.out, Nat.pow_succ]; omega, by omega, by omega, by omega, hpl, hql, Hpa.out, .inl Hbad.out, BX.out, RB.out, BW.out⟩
            case measure => simp [intOf]; omega
          · have Hin := Lib.hid hin
            have hq20 := inB_t hin
            have hud := hrt
            have Hqx := Lib.hid hq
            clear hin hq
            have hpsx : Pa (ps ++ [(x : Int), (x : Int)]) := pa_push Hpa.out (by omega) (by omega)
            have Hps2 := Lib.hid hpsx
            clear hpsx
            go_upto_region 13 with (first
              | (go_at_call 45; refine (spec_l1In _ _ _ _).mono ?_; rintro e w' ⟨rfl, rfl⟩; rw [Hin.out])
              | (at_builtin; refine wp_appM (.tmp 56) (.tmp 59) rfl rfl (w.heap.size + 1) _ ps rfl (BX.out.t.p.below (below_new _ _)) _ 2 2 [(x : Int), (x : Int)] rfl (fun h => by cases h) (ints_two _ _ _) (by omega) (by have := BX.out.box.lt; simp; omega) ?_
                 intro v1 y1 ho1 hb1 hm1
                 obtain ⟨a1, c1, hv1⟩ := ho1.sliceN (n := L + 2) (by rw [List.length_append, hpl]; rfl)
                 subst hv1
                 have hst := (BX.out.below (below_new _ _)).stP ho1 hm1
                 have zc := hst.1.c0
                 have zf := hst.1.f0))
            have hex2 : badM (N : Int) u d p (qs ++ [q + u, q - d]) ∨ (fr + 1 = e ∧ tt + 1 = 2 * e ∧ ps ++ [(x : Int), (x : Int)] = parL (2 * (x + 1) + 1) ∧ qs ++ [q + u, q - d] = prL u d p (2 * (x + 1) + 1) ∧ ∀ y, y < x + 1 → inB (prI u d p y) 0 20 = true) := by
              refine Hex.out.imp (bad_app _) (fun ⟨e1, e2, e3, e4, e5⟩ => ?_)
              have hqx : q = prI u d p x := by rw [Hqx.out, e4, nth_prL (by omega)]
              refine ⟨e1, e2, ?_, ?_, fun y hy => ?_⟩
              · rw [e3, show 2 * (x + 1) + 1 = 2 * x + 1 + 2 by omega, par_two]
              · rw [e4, show 2 * (x + 1) + 1 = 2 * x + 1 + 2 by omega, pr_two, hqx]
              · rcases (by omega : y < x ∨ y = x) with h | rfl
                · exact e5 y h
                · rw [← hqx]; exact Hin.out
            have Hex2 := Lib.hid hex2
            have BX2 := Lib.hid hst.2
            have RB2 := Lib.hid (((RB.out.alloc _).up hb1 (by omega)).far (b := w.heap.size + 4) (i := 0) (by omega) (.slice a1 (L + 2) c1))
            have BW2 := Lib.hid (((BW.out.trans ((below_new wr _).mono BW.out.size)).trans (hb1.mono (by omega))).setCell (p := ⟨w.heap.size + 4, 0, none⟩) (by simp) (.slice a1 (L + 2) c1))
            clear hex2 hst hb1 hm1 ho1 zc zf c0 c2 cx
            generalize y1.setCell ⟨w.heap.size + 4, 0, none⟩ (.slice a1 (L + 2) c1) = wB at *
            have cA := BX2.out.box.c2
            have cB := BX2.out.t.l.cell (i := x) (by omega)
            rw [← Hqx.out] at cB
            have k3 : IntKind.i64.wrap (q + u) = q + u := IntWalk.i64_in _ (by omega)
            have k4 : IntKind.i64.wrap (q - d) = q - d := IntWalk.i64_in _ (by omega)
            refine wp_region_noPanic ?_
            refine startK (S := (fun W' => W'.cell? ⟨w.heap.size + 4, 2, none⟩ = some (.slice (some ⟨gL, 0, none⟩) L cL2) ∧ W'.cell? ⟨gL, x, none⟩ = some (.int .i64 q))) (k := 17) (by kernel_rfl) ?_ (fun hHeld0 => ?_)
            · (try dsimp only); first | assumption | exact ⟨cA, cB⟩ | exact ⟨cell_up (below_new _ _).drew cA, cell_up (below_new _ _).drew cB⟩
            refine takeK (i := 0) (oi := _) (v := ?_) rfl (by kernel_rfl) (by kernel_rfl) (by kernel_rfl) (by kernel_rfl) (by kernel_rfl) (fun _ _ _ h => h) (Or.inl ⟨by rfl, ?_⟩) (by assumption) ?_
            rotate_left
            · first | (intro w hSw; (try dsimp only at hSw); go_simp; done) | (intro w hSw; (try dsimp only at hSw); go_simp; with_reducible rfl)
            (try simp only [Act.put, List.setIfInBounds_toArray, List.set_cons_zero, List.set_cons_succ])
            refine takeK (i := 1) (oi := _) (v := ?_) rfl (by kernel_rfl) (by kernel_rfl) (by kernel_rfl) (by kernel_rfl) (by kernel_rfl) (fun _ _ _ h => h) (Or.inl ⟨by rfl, ?_⟩) (by assumption) ?_
            rotate_left
            · first | (intro w hSw; (try dsimp only at hSw); go_simp; done) | (intro w hSw; (try dsimp only at hSw); go_simp; with_reducible rfl)
            (try simp only [Act.put, List.setIfInBounds_toArray, List.set_cons_zero, List.set_cons_succ])
            refine takeK (i := 2) (oi := _) (v := ?_) rfl (by kernel_rfl) (by kernel_rfl) (by kernel_rfl) (by kernel_rfl) (by kernel_rfl) (fun _ _ _ h => h) (Or.inl ⟨by rfl, ?_⟩) (by assumption) ?_
            rotate_left
            · first | (intro w hSw; (try dsimp only at hSw); go_simp; done) | (intro w hSw; (try dsimp only at hSw); go_simp; with_reducible rfl)
            (try simp only [Act.put, List.setIfInBounds_toArray, List.set_cons_zero, List.set_cons_succ])
            refine takeK (i := 3) (oi := _) (v := ?_) rfl (by kernel_rfl) (by kernel_rfl) (by kernel_rfl) (by kernel_rfl) (by kernel_rfl) (fun _ _ _ h => h) (Or.inl ⟨by rfl, ?_⟩) (by assumption) ?_
            rotate_left
            · first | (intro w hSw; (try dsimp only at hSw); go_simp; done) | (intro w hSw; (try dsimp only at hSw); go_simp; with_reducible rfl)
            (try simp only [Act.put, List.setIfInBounds_toArray, List.set_cons_zero, List.set_cons_succ])
            refine takeK (i := 4) (oi := _) (v := ?_) rfl (by kernel_rfl) (by kernel_rfl) (by kernel_rfl) (by kernel_rfl) (by kernel_rfl) (fun _ _ _ h => h) (Or.inl ⟨by rfl, ?_⟩) (by assumption) ?_
            rotate_left
            · first | (intro w hSw; (try dsimp only at hSw); go_simp; done) | (intro w hSw; (try dsimp only at hSw); go_simp; with_reducible rfl)
            (try simp only [Act.put, List.setIfInBounds_toArray, List.set_cons_zero, List.set_cons_succ])
            refine takeK (i := 5) (oi := _) (v := ?_) rfl (by kernel_rfl) (by kernel_rfl) (by kernel_rfl) (by kernel_rfl) (by kernel_rfl) (fun _ _ _ h => h) (Or.inl ⟨by rfl, ?_⟩) (by assumption) ?_
            rotate_left
            · first | (intro w hSw; (try dsimp only at hSw); go_simp; done) | (intro w hSw; (try dsimp only at hSw); go_simp; with_reducible rfl)
            (try simp only [Act.put, List.setIfInBounds_toArray, List.set_cons_zero, List.set_cons_succ])
            refine takeK (i := 6) (oi := _) (v := ?_) rfl (by kernel_rfl) (by kernel_rfl) (by kernel_rfl) (by kernel_rfl) (by kernel_rfl) (fun _ _ _ h => h) (Or.inl ⟨by rfl, ?_⟩) (by assumption) ?_
            rotate_left
            · first | (intro w hSw; (try dsimp only at hSw); go_simp; done) | (intro w hSw; (try dsimp only at hSw); go_simp; with_reducible rfl)
            (try simp only [Act.put, List.setIfInBounds_toArray, List.set_cons_zero, List.set_cons_succ])
            refine takeK (i := 7) (oi := _) (v := ?_) rfl (by kernel_rfl) (by kernel_rfl) (by kernel_rfl) (by kernel_rfl) (by kernel_rfl) (fun _ _ _ h => h) (Or.inl ⟨by rfl, ?_⟩) (by assumption) ?_
            rotate_left
            · first | (intro w hSw; (try dsimp only at hSw); go_simp; done) | (intro w hSw; (try dsimp only at hSw); go_simp; with_reducible rfl)
            (try simp only [Act.put, List.setIfInBounds_toArray, List.set_cons_zero, List.set_cons_succ])
            refine takeK (i := 8) (oi := _) (v := ?_) rfl (by kernel_rfl) (by kernel_rfl) (by kernel_rfl) (by kernel_rfl) (by kernel_rfl) (fun _ _ _ h => h) (Or.inl ⟨by rfl, ?_⟩) (by assumption) ?_
            rotate_left
            · first | (intro w hSw; (try dsimp only at hSw); go_simp; done) | (intro w hSw; (try dsimp only at hSw); go_simp; with_reducible rfl)
            (try simp only [Act.put, List.setIfInBounds_toArray, List.set_cons_zero, List.set_cons_succ])
            refine takeK (i := 9) (oi := _) (v := ?_) rfl (by kernel_rfl) (by kernel_rfl) (by kernel_rfl) (by kernel_rfl) (by kernel_rfl) (fun _ _ _ h => h) (Or.inl ⟨by rfl, ?_⟩) (by assumption) ?_
            rotate_left
            · first | (intro w hSw; (try dsimp only at hSw); go_simp; done) | (intro w hSw; (try dsimp only at hSw); go_simp; with_reducible rfl)
            (try simp only [Act.put, List.setIfInBounds_toArray, List.set_cons_zero, List.set_cons_succ])
            refine takeK (i := 10) (oi := _) (v := ?_) rfl (by kernel_rfl) (by kernel_rfl) (by kernel_rfl) (by kernel_rfl) (by kernel_rfl) (fun _ _ _ h => h) (Or.inl ⟨by rfl, ?_⟩) (by assumption) ?_
            rotate_left
            · first | (intro w hSw; (try dsimp only at hSw); go_simp; done) | (intro w hSw; (try dsimp only at hSw); go_simp; with_reducible rfl)
            (try simp only [Act.put, List.setIfInBounds_toArray, List.set_cons_zero, List.set_cons_succ])
            refine takeK (i := 11) (oi := _) (v := ?_) rfl (by kernel_rfl) (by kernel_rfl) (by kernel_rfl) (by kernel_rfl) (by kernel_rfl) (fun _ _ _ h => h) (Or.inl ⟨by rfl, ?_⟩) (by assumption) ?_
            rotate_left
            · first | (intro w hSw; (try dsimp only at hSw); go_simp; done) | (intro w hSw; (try dsimp only at hSw); go_simp; with_reducible rfl)
            (try simp only [Act.put, List.setIfInBounds_toArray, List.set_cons_zero, List.set_cons_succ])
            refine takeK (i := 12) (oi := _) (v := ?_) rfl (by kernel_rfl) (by kernel_rfl) (by kernel_rfl) (by kernel_rfl) (by kernel_rfl) (fun _ _ _ h => h) (Or.inl ⟨by rfl, ?_⟩) (by assumption) ?_
            rotate_left
            · first | (intro w hSw; (try dsimp only at hSw); go_simp; done) | (intro w hSw; (try dsimp only at hSw); go_simp; with_reducible rfl)
            (try simp only [Act.put, List.setIfInBounds_toArray, List.set_cons_zero, List.set_cons_succ])
            refine takeK (i := 13) (oi := _) (v := ?_) rfl (by kernel_rfl) (by kernel_rfl) (by kernel_rfl) (by kernel_rfl) (by kernel_rfl) (fun _ _ _ h => h) (Or.inl ⟨by rfl, ?_⟩) (by assumption) ?_
            rotate_left
            · first | (intro w hSw; (try dsimp only at hSw); go_simp; done) | (intro w hSw; (try dsimp only at hSw); go_simp; with_reducible rfl)
            (try simp only [Act.put, List.setIfInBounds_toArray, List.set_cons_zero, List.set_cons_succ])
            refine takeK (i := 14) (oi := _) (v := ?_) rfl (by kernel_rfl) (by kernel_rfl) (by kernel_rfl) (by kernel_rfl) (by kernel_rfl) (fun _ _ _ h => h) (Or.inl ⟨by rfl, ?_⟩) (by assumption) ?_
            rotate_left
            · first | (intro w hSw; (try dsimp only at hSw); go_simp; done) | (intro w hSw; (try dsimp only at hSw); go_simp; with_reducible rfl)
            (try simp only [Act.put, List.setIfInBounds_toArray, List.set_cons_zero, List.set_cons_succ])
            refine takeK (i := 15) (oi := _) (v := ?_) rfl (by kernel_rfl) (by kernel_rfl) (by kernel_rfl) (by kernel_rfl) (by kernel_rfl) (fun _ _ _ h => h) (Or.inl ⟨by rfl, ?_⟩) (by assumption) ?_
            rotate_left
            · first | (intro w hSw; (try dsimp only at hSw); go_simp; done) | (intro w hSw; (try dsimp only at hSw); go_simp; with_reducible rfl)
            (try simp only [Act.put, List.setIfInBounds_toArray, List.set_cons_zero, List.set_cons_succ])
            refine readyK (rs := [16]) (by kernel_rfl) (by simp) ?_
            refine (consA rfl (by decide) (fun Kq hKq => ?_) nilK)
            go_simp
            refine hKq.out _ _ ?_ (fun hHeld1 => ?_)
            · (try dsimp only); first | assumption | exact ⟨cA, cB⟩ | exact ⟨cell_up (below_new _ _).drew cA, cell_up (below_new _ _).drew cB⟩
            clear hKq Kq
            (try simp only [Act.put, List.setIfInBounds_toArray, List.set_cons_zero, List.set_cons_succ])
            clear hHeld0
            refine readyK (rs := [17]) (by kernel_rfl) (by simp) ?_
            refine (consB rfl (by decide) (fun Kq hKq => ?_) nilK)
            (refine step_appI rfl _ _ rfl (w.heap.size + 1) _ qs (by rfl) (BX2.out.t.l.below (below_new _ _).drew) _ 2 2 [q + u, q - d] (by rfl) (fun h => by cases h) ((ints_two _ _ _).below (Below.refl _ _).drew) (by omega) (by have := BX2.out.box.lt; simp; omega) ?_
             intro v2 y2 ho2 hb2 hm2
             obtain ⟨a2, c2, hv2⟩ := ho2.sliceN (n := L + 2) (by rw [List.length_append, hql]; rfl)
             subst hv2
             have hst2 := (BX2.out.below (below_new _ _).drew).stL ho2 hm2
             have RB3 := Lib.hid ((((RB2.out.alloc _).drew).up hb2 (by omega)).far (b := w.heap.size + 4) (i := 2) (by omega) (.slice a2 (L + 2) c2))
             have BW3 := Lib.hid (((BW2.out.trans ((below_new wB _).drew.mono BW2.out.size)).trans (hb2.mono (by omega))).setCell (p := ⟨w.heap.size + 4, 2, none⟩) (by simp) (.slice a2 (L + 2) c2))
             have zc := hst2.1.c2
             have zf := hst2.1.f2
             have BX4 := Lib.hid hst2.2
             clear hst2 hb2 hm2 ho2)
            refine hKq.out _ _ trivial (fun _ => ?_)
            clear hKq Kq
            (try simp only [Act.put, List.setIfInBounds_toArray, List.set_cons_zero, List.set_cons_succ])
            refine readyK (rs := [18]) (by kernel_rfl) (by simp) ?_
            refine (consB rfl (by decide) (fun Kq hKq => ?_) nilK)
            go_simp
            refine hKq.out _ _ trivial (fun _ => ?_)
            clear hKq Kq
            (try simp only [Act.put, List.setIfInBounds_toArray, List.set_cons_zero, List.set_cons_succ])
            refine readyK (rs := [19]) (by kernel_rfl) (by simp) ?_
            refine (consB rfl (by decide) (fun Kq hKq => ?_) nilK)
            go_simp
            refine hKq.out _ _ trivial (fun _ => ?_)
            clear hKq Kq
            (try simp only [Act.put, List.setIfInBounds_toArray, List.set_cons_zero, List.set_cons_succ])
            refine doneK (by kernel_rfl) ?_ _
            refine NoPanic.normal ?_
            go_wp2_with fail
            go_roundw
            case rel => exact ⟨x + 1, L + 2, _, _, ps ++ [(x : Int), (x : Int)], qs ++ [q + u, q - d], by omega, by omega, by omega, by go_num, by rw [List.length_append, hpl]; rfl, by rw [List.length_append, hql]; rfl, Hps2.out, Hex2.out, BX4.out, RB3.out, BW3.out⟩
            case measure => simp [intOf]; omega
        · obtain rfl : x = tt := by omega
          obtain ⟨aL2, cL2, hvL⟩ := BX.out.t.l.sliceN hql
          subst hvL
          clear hlt2
          go_wp2_with fail
          go_roundw
          case rel => exact ⟨s + 1, x, L, 2 * e, _, _, _, ps, qs, by omega, by go_num, rfl, by rw [He.out, Nat.pow_succ]; omega, by omega, by omega, by omega, hpl, hql, Hpa.out, Hex.out.imp id (fun ⟨e1, e2, e3, e4, e5⟩ => ⟨by omega, by omega, by rw [e3]; congr 1; omega, by rw [e4]; congr 1; omega, e5⟩), BX.out, RB.out, BW.out⟩
          case measure => simp [intOf]; omega
    · obtain rfl : s = N := by omega
      clear hlt
      obtain ⟨aP, cP, hvP⟩ := BX.out.t.p.sliceN hpl
      subst hvP
      obtain ⟨aL, cL, hvL⟩ := BX.out.t.l.sliceN hql
      subst hvL
      have Hpl := Lib.hid hpl
      have Hql := Lib.hid hql
      have htt : tt ≤ 15 := by
        have h5 := He.out
        rcases (by omega : s = 0 ∨ s = 1 ∨ s = 2 ∨ s = 3) with rfl | rfl | rfl | rfl <;> simp at h5 <;> omega
      have c2 := BX.out.box.c2
      clear hpl hql
      obtain ⟨wo, hwo⟩ : ∃ z, z = wr := ⟨_, rfl⟩
      rw [← hwo] at BX RB BW c2 ⊢
      clear hwo
      go_wp2_with fail
      clear c2
      go_loopw [15] (fun v15 wr => ∃ (x : Nat) (vW : Value), x ≤ tt ∧ v15 = .int .i64 (x : Int) ∧ BxM wr (w.heap.size + 1) (w.heap.size + 4) (.slice aP tt cP) vW (.slice aL tt cL) ps ((List.range x).map (kW ps)) qs ∧ Trip wr w.heap.size (.slice none 0 0) (.slice none 0 0) (.slice none 0 0) ∧ Below w.heap.size w wr) (fun v15 _ => tt - (intOf v15).toNat)
      case atStart => exact ⟨0, _, Nat.zero_le _, rfl, BX.out, RB.out, BW.out⟩
      case round =>
        clear BX RB BW vW
        obtain ⟨x, vW, hx, rfl, hBX, hRB, hbw⟩ := hrel
        have BX := Lib.hid hBX
        have RB := Lib.hid hRB
        have BW := Lib.hid hbw
        clear hBX hRB hbw
        have hwl : ((List.range x).map (kW ps)).length = x := by simp
        obtain ⟨aW, cW, hvW⟩ := BX.out.t.q.sliceN hwl
        subst hvW
        have Hwl := Lib.hid hwl
        clear hwl
        have c0 := BX.out.box.c0
        have c1 := BX.out.box.c1
        have c2 := BX.out.box.c2
        by_cases hlt : (x : Int) < tt
        · have hTre : Tre wr aP tt cP aW x cW ps ((List.range x).map (kW ps)) := ⟨BX.out.t.p.ints, BX.out.t.q.ints, by omega, by omega, BX.out.t.p.cap.2.1, BX.out.t.q.cap.2.1⟩
          have HTre := Lib.hid hTre
          have hkw : 0 ≤ kW ps x ∧ kW ps x ≤ 1 := by unfold kW least; split <;> omega
          have kk : IntKind.i64.wrap (1 - least ((kids ps x).length : Int) 1) = kW ps x := by
            rw [IntWalk.i64_in _ (by unfold kW at hkw; omega)]; rfl
          obtain ⟨kl, hkl⟩ : ∃ z, z = (kids ps x).length := ⟨_, rfl⟩
          rw [← hkl] at kk
          have Hkl := Lib.hid hkl
          clear hTre hkl
          generalize hwx : (List.range x).map (kW ps) = wx at *
          have Hwx := Lib.hid hwx
          clear hwx
          generalize hkx : kW ps x = kx at *
          have Hkx := Lib.hid hkx
          clear hkx hkw
          go_upto_region 18 with fail
          refine wp_region_noPanic ?_
          refine startK (S := (fun W' => W'.cell? ⟨w.heap.size + 4, 0, none⟩ = some (.slice aP tt cP) ∧ W'.cell? ⟨w.heap.size + 4, 1, none⟩ = some (.slice aW x cW))) (k := 11) (by kernel_rfl) ?_ (fun hHeld0 => ?_)
          · (try dsimp only); first | assumption | exact ⟨c0, c1⟩ | exact ⟨cell_up (below_new _ _) hSS.1, cell_up (below_new _ _) hSS.2⟩
          refine takeK (i := 0) (oi := _) (v := ?_) rfl (by kernel_rfl) (by kernel_rfl) (by kernel_rfl) (by kernel_rfl) (by kernel_rfl) (fun _ _ _ h => h) (Or.inl ⟨by rfl, ?_⟩) (by assumption) ?_
          rotate_left
          · first | (intro w hSw; (try dsimp only at hSw); go_simp; done) | (intro w hSw; (try dsimp only at hSw); go_simp; with_reducible rfl)
          (try simp only [Act.put, List.setIfInBounds_toArray, List.set_cons_zero, List.set_cons_succ])
          refine takeK (i := 1) (oi := _) (v := ?_) rfl (by kernel_rfl) (by kernel_rfl) (by kernel_rfl) (by kernel_rfl) (by kernel_rfl) (fun _ _ _ h => h) (Or.inl ⟨by rfl, ?_⟩) (by assumption) ?_
          rotate_left
          · first | (intro w hSw; (try dsimp only at hSw); go_simp; done) | (intro w hSw; (try dsimp only at hSw); go_simp; with_reducible rfl)
          (try simp only [Act.put, List.setIfInBounds_toArray, List.set_cons_zero, List.set_cons_succ])
          refine takeK (i := 2) (oi := _) (v := ?_) rfl (by kernel_rfl) (by kernel_rfl) (by kernel_rfl) (by kernel_rfl) (by kernel_rfl) (fun _ _ _ h => h) (Or.inl ⟨by rfl, ?_⟩) (by assumption) ?_
          rotate_left
          · first | (intro w hSw; (try dsimp only at hSw); go_simp; done) | (intro w hSw; (try dsimp only at hSw); go_simp; with_reducible rfl)
          (try simp only [Act.put, List.setIfInBounds_toArray, List.set_cons_zero, List.set_cons_succ])
          refine takeK (i := 3) (oi := _) (v := ?_) rfl (by kernel_rfl) (by kernel_rfl) (by kernel_rfl) (by kernel_rfl) (by kernel_rfl) (fun _ _ _ h => h) (Or.inl ⟨by rfl, ?_⟩) (by assumption) ?_
          rotate_left
          · first | (intro w hSw; (try dsimp only at hSw); go_simp; done) | (intro w hSw; (try dsimp only at hSw); go_simp; with_reducible rfl)
          (try simp only [Act.put, List.setIfInBounds_toArray, List.set_cons_zero, List.set_cons_succ])
          refine takeK (i := 4) (oi := _) (v := ?_) rfl (by kernel_rfl) (by kernel_rfl) (by kernel_rfl) (by kernel_rfl) (by kernel_rfl) (fun _ _ _ h => h) (Or.inl ⟨by rfl, ?_⟩) (by assumption) ?_
          rotate_left
          · first | (intro w hSw; (try dsimp only at hSw); go_simp; done) | (intro w hSw; (try dsimp only at hSw); go_simp; with_reducible rfl)
          (try simp only [Act.put, List.setIfInBounds_toArray, List.set_cons_zero, List.set_cons_succ])
          refine takeK (i := 5) (oi := _) (v := ?_) rfl (by kernel_rfl) (by kernel_rfl) (by kernel_rfl) (by kernel_rfl) (by kernel_rfl) (fun _ _ _ h => h) (Or.inl ⟨by rfl, ?_⟩) (by assumption) ?_
          rotate_left
          · first | (intro w hSw; (try dsimp only at hSw); go_simp; done) | (intro w hSw; (try dsimp only at hSw); go_simp; with_reducible rfl)
          (try simp only [Act.put, List.setIfInBounds_toArray, List.set_cons_zero, List.set_cons_succ])
          refine readyK (rs := [6]) (by kernel_rfl) (by simp) ?_
          refine (consA rfl (by decide) (fun Kq hKq => ?_) nilK)
          go_simp
          refine (spec_l2Kids _ _ _ _ _ _ ps wx (x : Int) _ (HTre.out.below (Below.refl _ _).drew) Hpa.out (by omega)).mono ?_
          rintro e1 y1 ⟨v1, rfl, o1, b1⟩
          rw [Int.toNat_natCast] at o1
          obtain ⟨a1, c1', hv1⟩ := o1.sliceN Hkl.out.symm
          subst hv1
          have bk : Below wr.heap.size wr y1 := (Below.refl wr.heap.size wr).drew.trans b1
          have hSS := And.intro (cell_up bk c0) (cell_up bk c1)
          clear o1 b1
          refine hKq.out _ _ ?_ (fun hHeld1 => ?_)
          · (try dsimp only); first | assumption | exact ⟨c0, c1⟩ | exact ⟨cell_up (below_new _ _) hSS.1, cell_up (below_new _ _) hSS.2⟩
          clear hKq Kq
          (try simp only [Act.put, List.setIfInBounds_toArray, List.set_cons_zero, List.set_cons_succ])
          clear hHeld0
          refine takeK (i := 7) (oi := _) (v := ?_) rfl (by kernel_rfl) (by kernel_rfl) (by kernel_rfl) (by kernel_rfl) (by kernel_rfl) (fun _ _ _ h => h) (Or.inl ⟨by rfl, ?_⟩) (by assumption) ?_
          rotate_left
          · first | (intro w hSw; (try dsimp only at hSw); go_simp; done) | (intro w hSw; (try dsimp only at hSw); go_simp; with_reducible rfl)
          (try simp only [Act.put, List.setIfInBounds_toArray, List.set_cons_zero, List.set_cons_succ])
          refine readyK (rs := [8]) (by kernel_rfl) (by simp) ?_
          refine (consA rfl (by decide) (fun Kq hKq => ?_) nilK)
          go_simp
          refine (spec_l1Least _ _ _).mono ?_
          rintro e2 y2 ⟨rfl, hq⟩
          subst hq
          refine hKq.out _ _ ?_ (fun hHeld2 => ?_)
          · (try dsimp only); first | assumption | exact ⟨c0, c1⟩ | exact ⟨cell_up (below_new _ _) hSS.1, cell_up (below_new _ _) hSS.2⟩
          clear hKq Kq
          (try simp only [Act.put, List.setIfInBounds_toArray, List.set_cons_zero, List.set_cons_succ])
          clear hHeld1
          refine takeK (i := 9) (oi := _) (v := ?_) rfl (by kernel_rfl) (by kernel_rfl) (by kernel_rfl) (by kernel_rfl) (by kernel_rfl) (fun _ _ _ h => h) (Or.inl ⟨by rfl, ?_⟩) (by assumption) ?_
          rotate_left
          · first | (intro w hSw; (try dsimp only at hSw); go_simp; done) | (intro w hSw; (try dsimp only at hSw); go_simp; with_reducible rfl)
          (try simp only [Act.put, List.setIfInBounds_toArray, List.set_cons_zero, List.set_cons_succ])
          refine readyK (rs := [10]) (by kernel_rfl) (by simp) ?_
          refine (consA rfl (by decide) (fun Kq hKq => ?_) nilK)
          go_simp
          refine hKq.out _ _ ?_ (fun hHeld3 => ?_)
          · (try dsimp only); first | assumption | exact ⟨c0, c1⟩ | exact ⟨cell_up (below_new _ _) hSS.1, cell_up (below_new _ _) hSS.2⟩
          clear hKq Kq
          (try simp only [Act.put, List.setIfInBounds_toArray, List.set_cons_zero, List.set_cons_succ])
          clear hHeld2
          refine readyK (rs := [11]) (by kernel_rfl) (by simp) ?_
          refine (consB rfl (by decide) (fun Kq hKq => ?_) nilK)
          (have bk2 := bk.trans ((below_new y1 (.cells #[.int .i64 kx] 3)).mono bk.size)
           refine step_pushI rfl _ _ rfl (w.heap.size + 1) _ wx (by rfl) (BX.out.below bk2).t.q (by rfl) (lit_new y1 kx y1.heap.size rfl) (by have := Hwl.out; omega) (by have := BX.out.box.lt; have := bk2.size; omega) ?_
           intro v2 y2 ho2 hb2 hm2
           obtain ⟨a2, c2', hv2⟩ := ho2.sliceN (n := x + 1) (by rw [List.length_append, Hwl.out]; rfl)
           subst hv2
           have hst2 := (BX.out.below bk2).stW ho2 hm2
           have RB3 := Lib.hid (((RB.out.below bk2).up hb2 (by omega)).far (b := w.heap.size + 4) (i := 1) (by omega) (.slice a2 (x + 1) c2'))
           have BW3 := Lib.hid (((BW.out.trans (bk2.mono BW.out.size)).trans (hb2.mono (by omega))).setCell (p := ⟨w.heap.size + 4, 1, none⟩) (by simp) (.slice a2 (x + 1) c2'))
           have zc := hst2.1.c1
           have zf := hst2.1.f1
           have BX4 := Lib.hid hst2.2
           clear hst2 hb2 hm2 ho2)
          refine hKq.out _ _ trivial (fun _ => ?_)
          clear hKq Kq
          (try simp only [Act.put, List.setIfInBounds_toArray, List.set_cons_zero, List.set_cons_succ])
          refine readyK (rs := [12]) (by kernel_rfl) (by simp) ?_
          refine (consB rfl (by decide) (fun Kq hKq => ?_) nilK)
          go_simp
          refine hKq.out _ _ trivial (fun _ => ?_)
          clear hKq Kq
          (try simp only [Act.put, List.setIfInBounds_toArray, List.set_cons_zero, List.set_cons_succ])
          refine readyK (rs := [13]) (by kernel_rfl) (by simp) ?_
          refine (consB rfl (by decide) (fun Kq hKq => ?_) nilK)
          go_simp
          refine hKq.out _ _ trivial (fun _ => ?_)
          clear hKq Kq
          (try simp only [Act.put, List.setIfInBounds_toArray, List.set_cons_zero, List.set_cons_succ])
          refine readyK (rs := [14]) (by kernel_rfl) (by simp) ?_
          refine (consB rfl (by decide) (fun Kq hKq => ?_) nilK)
          go_simp
          refine hKq.out _ _ trivial (fun _ => ?_)
          clear hKq Kq
          (try simp only [Act.put, List.setIfInBounds_toArray, List.set_cons_zero, List.set_cons_succ])
          refine doneK (by kernel_rfl) ?_ _
          refine NoPanic.normal ?_
          go_wp2_with fail
          go_roundw
          case rel => exact ⟨x + 1, _, by omega, by go_num, by rw [List.range_succ, List.map_append, Hwx.out]; simp only [List.map_cons, List.map_nil, Hkx.out]; exact BX4.out, RB3.out, BW3.out⟩
          case measure => simp [intOf]; omega
        · obtain rfl : x = tt := by omega
          have hval : mktB ps ((List.range x).map (kW ps)) qs = mkOk (s : Int) u d p := by
            rcases Hex.out with h | ⟨e1, e2, e3, e4, e5⟩
            · exact bad_mkt h
            · have hx2 : x = nodesN s := by unfold nodesN; rw [Nat.pow_succ, ← He.out]; omega
              rw [e3, e4, hx2, kw_exact hN3]
              exact ex_mkt rfl Hrow.out hN3
          have Hval := Lib.hid hval
          have hlist : mkOk (s : Int) u d p = true → ps = mkP (s : Int) u d p ∧ (List.range x).map (kW ps) = mkW (s : Int) u d p ∧ qs = mkL (s : Int) u d p := fun h => by
            rcases Hex.out with hb | ⟨e1, e2, e3, e4, e5⟩
            · rw [hb.1] at h; cases h
            · have hx2 : x = nodesN s := by unfold nodesN; rw [Nat.pow_succ, ← He.out]; omega
              obtain ⟨h1, h2, h3⟩ := mkV_yes h
              rw [Int.toNat_natCast] at h1 h2 h3
              rw [h1, h2, h3, e3, e4, hx2, kw_exact hN3]
              exact ⟨rfl, rfl, rfl⟩
          have Hlist := Lib.hid hlist
          have hM : Mkt wr aP x cP aW x cW aL x cL ps ((List.range x).map (kW ps)) qs := ⟨⟨BX.out.t.p.ints, BX.out.t.q.ints, by omega, by omega, BX.out.t.p.cap.2.1, BX.out.t.q.cap.2.1⟩, BX.out.t.l.ints, by omega, BX.out.t.l.cap.2.1⟩
          have HMk := Lib.hid hM
          clear hval hlist hM hlt
          generalize (List.range x).map (kW ps) = wx at *
          go_wp2_with fail
          refine (spec_l6Market _ _ _ _ _ _ _ _ _ ps wx qs _ HMk.out).mono ?_
          rintro e1 y1 ⟨rfl, b1⟩
          rw [Hval.out]
          have BX3 := BX.out.below b1
          have RB3 := RB.out.below b1
          have BW3 := Lib.hid (BW.out.trans (b1.mono BW.out.size))
          have d0 := BX3.box.c0
          have d1 := BX3.box.c1
          have d2 := BX3.box.c2
          have q0 := RB3.c0
          have q1 := RB3.c1
          have q2 := RB3.c2
          have g0 := RB3.f0
          have g1 := RB3.f1
          have g2 := RB3.f2
          have HT := Lib.hid BX3.t
          clear c0 c1 c2 BX3
          cases hmk : mkOk (s : Int) u d p
          · have Hno := Lib.hid hmk
            have hr := ((RB3.put0 (.slice none 0 0)).put1 (.slice none 0 0)).put2 (.slice none 0 0)
            have e0 := hr.c0
            have e1 := hr.c1
            have e2 := hr.c2
            clear hmk hr RB3
            go_wp2_with fail
            exact bodyPost_ret (v := .tuple #[.agg #[.slice none 0 0, .slice none 0 0, .slice none 0 0], .bool false]) (by simp [results, Try.results14, go_sem, e0, e1, e2]) rfl (HNO.out Hno.out _ (((BW3.out.setCell (Nat.le_refl _) _).setCell (Nat.le_refl _) _).setCell (Nat.le_refl _) _))
          · have Hy := Lib.hid hmk
            have hr := ((RB3.put0 (.slice aP x cP)).put1 (.slice aW x cW)).put2 (.slice aL x cL)
            have e0 := hr.c0
            have e1 := hr.c1
            have e2 := hr.c2
            have HT2 := Lib.hid (((HT.out.far (g := w.heap.size) (i := 0) (u := .slice aP x cP) (by omega)).far (g := w.heap.size) (i := 1) (u := .slice aW x cW) (by omega)).far (g := w.heap.size) (i := 2) (u := .slice aL x cL) (by omega))
            clear hmk hr RB3
            go_wp2_with fail
            obtain ⟨h1, h2, h3⟩ := Hlist.out Hy.out
            exact bodyPost_ret (v := .tuple #[.agg #[.slice aP x cP, .slice aW x cW, .slice aL x cL], .bool true]) (by simp [results, Try.results14, go_sem, e0, e1, e2]) rfl ⟨⟨_, by rw [Hy.out], by rw [← h1, ← h2, ← h3]; exact (HT2.out.mono (by omega)).mkr⟩, (((BW3.out.setCell (Nat.le_refl _) _).setCell (Nat.le_refl _) _).setCell (Nat.le_refl _) _)⟩
end Go.Proofs.Ytcoakeedgngogaa
