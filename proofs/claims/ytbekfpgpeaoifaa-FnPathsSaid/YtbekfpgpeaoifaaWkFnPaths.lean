/- The walk through the law FnPaths: it returns true. No conditions but that the argument can be read. -/
import Derived.Test.YtbekfpgpeaoifaaPlFnP
import Derived.Test.YtbekfpgpeaoifaaLawV
import Derived.Test.YtbekfpgpeaoifaaOpenB
import Derived.Test.YtbekfpgpeaoifaaDrawP
import Derived.Test.YtbekfpgpeaoifaaCutR
import Derived.Deep.DeepCutAuto
namespace Go.Proofs.Ytbekfpgpeaoifaa.fnPaths
open Go.RowKit
set_option linter.unusedVariables false
set_option maxRecDepth 100000 in
set_option maxHeartbeats 4000000 in
theorem walk (a : Option Addr) (n c : Nat) (w : World) (hm : n ≤ maxLen) (hc : n ≤ c ∧ c ≤ maxLen ∧ (a = none → c = 0)) (h : Bytes0 w a n) :
    Calls Try.prog 4 #[.slice a n c] w fun e w' => e = .returned (.bool true) ∧ Below w.heap.size w w' := by
  clear hm
  by_cases hbig : (n : Int) > 65536
  · go_enter Try.func4, Try.ntmps4
    go_wp2_with (go_at_call 7; refine (laws_vBig _ _ _ _).mono ?_; rintro e w' ⟨rfl, rfl⟩; rw [decide_eq_true hbig])
    go_ret
    exact ⟨rfl, Below.refl _ _⟩
  · have HB := Lib.hid (h.few (by omega))
    have Hc := Lib.hid hc
    clear h hc
    go_enter Try.func4, Try.ntmps4
    go_wp2_with (first
      | (go_at_call 7; refine (laws_vBig _ _ _ _).mono ?_; rintro e w' ⟨rfl, rfl⟩; rw [decide_eq_false hbig])
      | (go_at_call 20; refine (spec_DrawPathsAbove _ _ _ _ HB.out).mono ?_; rintro e w1 ⟨⟨m, x, fl, rfl⟩, b1⟩)
      | (go_at_call 21; refine (iA _ _ _ _).mono ?_; rintro e w2 ⟨rfl, b2⟩)
      | (go_at_call 22; refine (sA _ _ _ _).mono ?_; rintro e w' ⟨rfl, rfl⟩)
      | (go_at_call 23; refine (iC _ _ _).mono ?_; rintro e w3 ⟨rfl, b3⟩)
      | (go_at_call 24; refine (sC _ _ _).mono ?_; rintro e w' ⟨rfl, rfl⟩))
    have B3 := b1.trans ((b2.trans (b3.mono b2.size)).mono b1.size)
    clear b1 b2 b3
    have HB3 := Lib.hid (HB.out.below B3)
    refine (laws_vCut _ _ _ _ (by omega) Hc.out.1 Hc.out.2.2 HB3.out).mono ?_
    rintro e w4 ⟨v4, rfl, ⟨a4, n4, c4, rfl, hy4⟩, b4⟩
    have HY4 := Lib.hid hy4
    have B4 := B3.trans (b4.mono B3.size)
    clear b4 B3 hy4
    go_wp2_with (first
      | (go_at_call 25; refine (spec_DrawFirstPassages _ _ _ _ HY4.out).mono ?_; rintro e w5 ⟨⟨k, y, rfl⟩, b5⟩)
      | (go_at_call 26; refine (iF _ _ _).mono ?_; rintro e w6 ⟨rfl, b6⟩)
      | (go_at_call 27; refine (sF _ _ _).mono ?_; rintro e w' ⟨rfl, rfl⟩))
    have B6 := B4.trans ((b5.trans (b6.mono b5.size)).mono B4.size)
    clear b5 b6 B4
    have HB6 := Lib.hid (HB.out.below B6)
    refine (laws_vCut2 _ _ _ _ (by omega) Hc.out.1 Hc.out.2.2 HB6.out).mono ?_
    rintro e w7 ⟨v7, rfl, ⟨a7, n7, c7, rfl, hy7⟩, b7⟩
    have HY7 := Lib.hid hy7
    have B7 := B6.trans (b7.mono B6.size)
    clear b7 B6 hy7
    go_upto_region 18 with (first
      | (go_at_call 28; refine (spec_DrawBallotCount _ _ _ _ HY7.out).mono ?_; rintro e w8 ⟨⟨p, q, rfl⟩, b8⟩)
      | (go_at_call 29; refine (iB _ _ _).mono ?_; rintro e w9 ⟨rfl, b9⟩)
      | (go_at_call 30; refine (sB _ _ _).mono ?_; rintro e w' ⟨rfl, rfl⟩)
      | (go_at_call 31; refine (iT _ _ _).mono ?_; rintro e w10 ⟨rfl, b10⟩)
      | (go_at_call 32; refine (sT _ _ _).mono ?_; rintro e w' ⟨rfl, rfl⟩))
    have B10 := B7.trans ((b8.trans ((b9.trans (b10.mono b9.size)).mono b8.size)).mono B7.size)
    clear b8 b9 b10 B7
    go_cut [7, 9, 186] (fun v7 v9 v186 wc => v7 = .bool (aB m fl) ∧ v9 = .bool (aB m fl) ∧ v186 = .bool false ∧ Below w.heap.size w wc)
    case first => as_aux_lemma =>
      cases hab : aB m fl
      · go_wp2_with fail
        go_meet
        case rel => exact ⟨by rw [hab], by rw [hab], rfl, B10⟩
      · have h1 := aV_le (x := x) hab
        have h2 := aV_nn (x := x) hab
        go_wp2_with fail
        go_meet
        case rel => exact ⟨by rw [hab], by rw [hab], by simp; omega, B10⟩
    case rest => as_aux_lemma =>
      clear B10
      obtain ⟨rfl, rfl, rfl, B⟩ := hcut
      go_upto_region 20 with fail
      obtain ⟨R, hR⟩ : ∃ R, R = (aB m fl && decide (fl ≤ x) && decide (x ≤ m)) := ⟨_, rfl⟩
      go_cut [7, 9, 197] (fun v7 v9 v197 wc => v197 = .bool R ∧ Below w.heap.size w wc)
      case first => as_aux_lemma =>
        cases hab : aB m fl
        · rw [hab] at hR
          obtain rfl : R = false := by rw [hR]; simp
          clear hR
          go_wp2_with fail
          go_meet
          case rel => exact ⟨rfl, B⟩
        · rw [hab] at hR
          by_cases h1 : fl ≤ x
          · by_cases h2 : x ≤ m
            · obtain rfl : R = true := by rw [hR]; simp [h1, h2]
              clear hR
              go_wp2_with fail
              go_meet
              case rel => exact ⟨rfl, B⟩
            · obtain rfl : R = false := by rw [hR]; simp [h2]
              clear hR
              go_wp2_with fail
              go_meet
              case rel => exact ⟨rfl, B⟩
          · obtain rfl : R = false := by rw [hR]; simp [h1]
            clear hR
            go_wp2_with fail
            go_meet
            case rel => exact ⟨rfl, B⟩
      case rest => as_aux_lemma =>
        clear B
        obtain ⟨rfl, B⟩ := hcut
        go_upto_if 197 with fail
        go_cut [6, 7, 8, 9, 10, 11, 12, 13] (fun _ _ _ _ _ _ _ _ wc => Below w.heap.size w wc)
        case first => as_aux_lemma =>
          cases R
          · go_wp2_with fail
            go_meet
            case rel => exact B
          · have h1 : aB m fl = true ∧ fl ≤ x ∧ x ≤ m := by
              have := hR.symm
              simp only [Bool.and_eq_true, decide_eq_true_eq] at this
              exact ⟨this.1.1, this.1.2, this.2⟩
            have hb := aB_t h1.1
            obtain ⟨A0, hA0⟩ : ∃ A0, A0 = aV m x fl := ⟨_, rfl⟩
            obtain ⟨C0, hC0⟩ : ∃ C0, C0 = cV m x := ⟨_, rfl⟩
            obtain ⟨Z, hZ⟩ : ∃ Z, Z = cV m (2 * (fl - 1) - x) := ⟨_, rfl⟩
            have hmir := aV_mirror h1.1 h1.2
            have c1 := cV_bd m x
            have c2 := cV_bd m (2 * (fl - 1) - x)
            rw [← hA0, ← hC0, ← hZ] at hmir
            rw [← hC0] at c1
            rw [← hZ] at c2
            have HZ : Hid (∀ W : World, Calls Try.prog 23 #[.int .i64 m, .int .i64 (2 * (fl - 1) - x)] W fun e w' => e = .returned (.tuple #[.int .i64 Z, .bool true]) ∧ Below W.heap.size W w') := Lib.hid fun W => by
              have := iC m (2 * (fl - 1) - x) W
              rw [hb.2.2.2, ← hZ] at this
              exact this
            have k1 : IntKind.i64.wrap (fl - 1) = fl - 1 := IntWalk.i64_in _ (by omega)
            have k2 : IntKind.i64.wrap (2 * (fl - 1)) = 2 * (fl - 1) := IntWalk.i64_in _ (by omega)
            have k3 : IntKind.i64.wrap (2 * (fl - 1) - x) = 2 * (fl - 1) - x := IntWalk.i64_in _ (by omega)
            have k4 : IntKind.i64.wrap (C0 - Z) = C0 - Z := IntWalk.i64_in _ (by omega)
            by_cases hm0 : 0 < m
            · obtain ⟨L0, hL0⟩ : ∃ L0, L0 = aV (m - 1) (x - 1) fl := ⟨_, rfl⟩
              obtain ⟨R0, hR0⟩ : ∃ R0, R0 = aV (m - 1) (x + 1) fl := ⟨_, rfl⟩
              have hst := aV_step h1.1 hm0 h1.2
              have d1 := aV_bd (m := m - 1) (x := x - 1) (fl := fl)
              have d2 := aV_bd (m := m - 1) (x := x + 1) (fl := fl)
              rw [← hA0, ← hL0, ← hR0] at hst
              rw [← hL0] at d1
              rw [← hR0] at d2
              have hpb := aB_prev h1.1 hm0
              have HL : Hid (∀ W : World, Calls Try.prog 21 #[.int .i64 (m - 1), .int .i64 (x - 1), .int .i64 fl] W fun e w' => e = .returned (.tuple #[.int .i64 L0, .bool true]) ∧ Below W.heap.size W w') := Lib.hid fun W => by
                have := iA (m - 1) (x - 1) fl W
                rw [hpb, ← hL0] at this
                exact this
              have HR : Hid (∀ W : World, Calls Try.prog 21 #[.int .i64 (m - 1), .int .i64 (x + 1), .int .i64 fl] W fun e w' => e = .returned (.tuple #[.int .i64 R0, .bool true]) ∧ Below W.heap.size W w') := Lib.hid fun W => by
                have := iA (m - 1) (x + 1) fl W
                rw [hpb, ← hR0] at this
                exact this
              have k5 : IntKind.i64.wrap (m - 1) = m - 1 := IntWalk.i64_in _ (by omega)
              have k6 : IntKind.i64.wrap (x - 1) = x - 1 := IntWalk.i64_in _ (by omega)
              have k7 : IntKind.i64.wrap (x + 1) = x + 1 := IntWalk.i64_in _ (by omega)
              have k8 : IntKind.i64.wrap (L0 + R0) = L0 + R0 := IntWalk.i64_in _ (by omega)
              have e1 : (A0 != C0 - Z) = false := by rw [hmir]; simp
              have e2 : (A0 != L0 + R0) = false := by rw [hst]; simp
              have e1' : (A0 == C0 - Z) = true := by rw [hmir]; simp
              have e2' : (A0 == L0 + R0) = true := by rw [hst]; simp
              rw [← hA0, ← hC0]
              clear hmir hst hR h1 hA0 hC0 hZ hL0 hR0
              go_wp2_with fail
              refine (HZ.out _).mono ?_
              rintro e w11 ⟨rfl, b11⟩
              go_wp2_with fail
              refine (HL.out _).mono ?_
              rintro e w12 ⟨rfl, b12⟩
              go_wp2_with fail
              refine (HR.out _).mono ?_
              rintro e w13 ⟨rfl, b13⟩
              go_wp2_with fail
              go_meet
              case rel => exact B.trans ((b11.trans ((b12.trans (b13.mono b12.size)).mono b11.size)).mono B.size)
            · have e1 : (A0 != C0 - Z) = false := by rw [hmir]; simp
              have e1' : (A0 == C0 - Z) = true := by rw [hmir]; simp
              rw [← hA0, ← hC0]
              clear hmir hR h1 hA0 hC0 hZ
              go_wp2_with fail
              refine (HZ.out _).mono ?_
              rintro e w11 ⟨rfl, b11⟩
              go_wp2_with fail
              go_meet
              case rel => exact B.trans (b11.mono B.size)
        case rest => as_aux_lemma =>
          clear B
          have B := hcut
          clear hcut hR
          go_upto_region 29 with fail
          obtain ⟨R, hR⟩ : ∃ R, R = (fB k y && decide (0 < y) && decide (y ≤ k)) := ⟨_, rfl⟩
          go_cut [17, 19, 251] (fun v17 v19 v251 wc => v251 = .bool R ∧ Below w.heap.size w wc)
          case first => as_aux_lemma =>
            cases hab : fB k y
            · rw [hab] at hR
              obtain rfl : R = false := by rw [hR]; simp
              clear hR
              go_wp2_with fail
              go_meet
              case rel => exact ⟨rfl, B⟩
            · rw [hab] at hR
              by_cases h1 : 0 < y
              · by_cases h2 : y ≤ k
                · obtain rfl : R = true := by rw [hR]; simp [h1, h2]
                  clear hR
                  go_wp2_with fail
                  go_meet
                  case rel => exact ⟨rfl, B⟩
                · obtain rfl : R = false := by rw [hR]; simp [h2]
                  clear hR
                  go_wp2_with fail
                  go_meet
                  case rel => exact ⟨rfl, B⟩
              · obtain rfl : R = false := by rw [hR]; simp [h1]
                clear hR
                go_wp2_with fail
                go_meet
                case rel => exact ⟨rfl, B⟩
          case rest => as_aux_lemma =>
            clear B
            obtain ⟨rfl, B⟩ := hcut
            go_upto_if 251 with fail
            go_cut [16, 17, 18, 19] (fun _ _ _ _ wc => Below w.heap.size w wc)
            case first => as_aux_lemma =>
              cases R
              · go_wp2_with fail
                go_meet
                case rel => exact B
              · have h1 : fB k y = true ∧ 0 < y ∧ y ≤ k := by
                  have := hR.symm
                  simp only [Bool.and_eq_true, decide_eq_true_eq] at this
                  exact ⟨this.1.1, this.1.2, this.2⟩
                have hb := fB_t h1.1
                have ht := turn hb ⟨by omega, h1.2.2⟩
                obtain ⟨FF, hFf⟩ : ∃ FF, FF = fV k y := ⟨_, rfl⟩
                obtain ⟨V1, hV1⟩ : ∃ V1, V1 = bV ((k + y) / 2) ((k - y) / 2) := ⟨_, rfl⟩
                have hvo : votes ((k + y) / 2) ((k - y) / 2) = true := votes_mk (by omega)
                have HV : Hid (∀ W : World, Calls Try.prog 29 #[.int .i64 ((k + y) / 2), .int .i64 ((k - y) / 2)] W fun e w' => e = .returned (.tuple #[.int .i64 V1, .bool true]) ∧ Below W.heap.size W w') := Lib.hid fun W => by
                  have := iB ((k + y) / 2) ((k - y) / 2) W
                  rw [hvo, ← hV1] at this
                  exact this
                rw [← hFf, ← hV1] at ht
                rw [← hFf]
                have k1 : IntKind.i64.wrap (k + y) = k + y := IntWalk.i64_in _ (by omega)
                have k2 : IntKind.i64.wrap (k - y) = k - y := IntWalk.i64_in _ (by omega)
                have k3 : (k + y).tdiv 2 = (k + y) / 2 := Int.tdiv_eq_ediv_of_nonneg (by omega)
                have k4 : (k - y).tdiv 2 = (k - y) / 2 := Int.tdiv_eq_ediv_of_nonneg (by omega)
                have k5 : (k + y).tmod 2 = (k + y) % 2 := Int.tmod_eq_emod_of_nonneg (by omega)
                have k6 : IntKind.i64.wrap ((k + y) / 2) = (k + y) / 2 := IntWalk.i64_in _ (by omega)
                have k7 : IntKind.i64.wrap ((k - y) / 2) = (k - y) / 2 := IntWalk.i64_in _ (by omega)
                have k8 : IntKind.i64.wrap ((k + y) % 2) = (k + y) % 2 := IntWalk.i64_in _ (by omega)
                have k9 : ¬ (2 : Int) = 0 := by omega
                by_cases hpar : (k + y) % 2 = 0
                · have hv := ht.1 hpar
                  have e1 : ((k + y) % 2 == 0) = true := by simp [hpar]
                  have e2 : ((k + y) % 2 != 0) = false := by simp [hpar]
                  have e3 : (V1 != FF) = false := by simp [hv]
                  subst hv
                  clear ht hR h1 hFf hV1 hpar hb hvo e3
                  go_wp2_with fail
                  refine (HV.out _).mono ?_
                  rintro e w16 ⟨rfl, b16⟩
                  go_wp2_with fail
                  go_meet
                  case rel => exact B.trans (b16.mono B.size)
                · have hv := ht.2 hpar
                  have e1 : ((k + y) % 2 == 0) = false := by simp [hpar]
                  have e2 : ((k + y) % 2 != 0) = true := by simp [hpar]
                  subst hv
                  clear ht hR h1 hFf hV1 hpar hb hvo
                  go_wp2_with fail
                  refine (HV.out _).mono ?_
                  rintro e w16 ⟨rfl, b16⟩
                  go_wp2_with fail
                  go_meet
                  case rel => exact B.trans (b16.mono B.size)
            case rest => as_aux_lemma =>
              clear B
              have B := hcut
              clear hcut hR
              cases hv : votes p q
              · go_wp2_with fail
                go_ret
                exact ⟨rfl, B⟩
              · have hb := votes_t hv
                have ht := ties hb
                obtain ⟨TT, hTt⟩ : ∃ tt, tt = tV p q := ⟨_, rfl⟩
                obtain ⟨Bb, hBb⟩ : ∃ b, b = bV p q := ⟨_, rfl⟩
                have hab : aB (p + q) 0 = true := by unfold aB; rw [inB_mk (by omega) (by omega), inB_mk (by omega) (by omega)]; rfl
                have HA : Hid (∀ W : World, Calls Try.prog 21 #[.int .i64 (p + q), .int .i64 (p - q), .int .i64 0] W fun e w' => e = .returned (.tuple #[.int .i64 TT, .bool true]) ∧ Below W.heap.size W w') := Lib.hid fun W => by
                  have := iA (p + q) (p - q) 0 W
                  rw [hab, ← ht.1, ← hTt] at this
                  exact this
                have k1 : IntKind.i64.wrap (p + q) = p + q := IntWalk.i64_in _ (by omega)
                have k2 : IntKind.i64.wrap (p - q) = p - q := IntWalk.i64_in _ (by omega)
                have k3 : IntKind.i64.wrap (p - 1) = p - 1 := IntWalk.i64_in _ (by omega)
                rw [← hTt, ← hBb]
                by_cases hp : 0 < p
                · have hrest := ht.2.1 hp
                  have HR : Hid (∀ W : World, Calls Try.prog 31 #[.int .i64 (p - 1), .int .i64 q] W fun e w' => e = .returned (.tuple #[.int .i64 Bb, .bool true]) ∧ Below W.heap.size W w') := Lib.hid fun W => by
                    have := iT (p - 1) q W
                    rw [votes_mk (by omega), ← hrest, ← hBb] at this
                    exact this
                  clear ht hrest hTt hBb hab hv
                  go_wp2_with fail
                  refine (HA.out _).mono ?_
                  rintro e w21 ⟨rfl, b21⟩
                  go_wp2_with fail
                  refine (HR.out _).mono ?_
                  rintro e w22 ⟨rfl, b22⟩
                  go_wp2_with fail
                  go_ret
                  exact ⟨by simp, B.trans ((b21.trans (b22.mono b21.size)).mono B.size)⟩
                · by_cases hq : q = 0
                  · have e0 : (q == 0) = true := by simp [hq]
                    clear ht hTt hBb hab hv hq
                    go_wp2_with fail
                    refine (HA.out _).mono ?_
                    rintro e w21 ⟨rfl, b21⟩
                    go_wp2_with fail
                    all_goals (go_ret; exact ⟨by simp, B.trans (b21.mono B.size)⟩)
                  · have hz := ht.2.2 (by omega) hq
                    rw [← hBb] at hz
                    have e0 : (q == 0) = false := by simp [hq]
                    subst hz
                    clear ht hTt hBb hab hv
                    go_wp2_with fail
                    refine (HA.out _).mono ?_
                    rintro e w21 ⟨rfl, b21⟩
                    go_wp2_with fail
                    go_ret
                    exact ⟨by simp, B.trans (b21.mono B.size)⟩
end Go.Proofs.Ytbekfpgpeaoifaa.fnPaths
