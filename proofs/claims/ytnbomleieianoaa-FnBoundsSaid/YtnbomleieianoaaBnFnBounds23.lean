/- Contracts and plain laws for the statement FnBounds, part 23. No conditions but those stated in each. -/
import Derived.Test.YtnbomleieianoaaBnFnBounds17
import Derived.Test.YtnbomleieianoaaBnFnBounds9
import Derived.Test.YtnbomleieianoaaBnFnBounds22
import Derived.Test.YtnbomleieianoaaBnFnBounds19
import Derived.Test.YtnbomleieianoaaBnFnBounds18
import Derived.Test.YtnbomleieianoaaBnFnBounds14
import Derived.Test.YtnbomleieianoaaBnFnBounds10
import Derived.Deep.DeepCutAuto
/- The walk through the law FnBounds: it returns true. No conditions but that the argument can be read. -/
namespace Go.Proofs.Ytnbomleieianoaa.fnBounds
open Go.RowKit
set_option linter.unusedVariables false
theorem ok_t {ps ws pay num : List Int} (h : bbB ps ws pay num = true) : balV ps ws num = true ∧ paysB ps ws pay = true := by
  simpa only [bbB, Bool.and_eq_true] using h
theorem cost_len (ps ws l : List Int) (c : Int) : (costV ps ws l c).length ≤ 40 := by
  cases h : costB ps ws l c
  · rw [costV_no h]; simp
  · rw [costV_yes h, costL_length]
    simp only [costB, Bool.and_eq_true] at h
    have := (paysB_t h.1).1.n24; omega
set_option maxRecDepth 100000 in
set_option maxHeartbeats 4000000 in
theorem walk (a : Option Addr) (n c : Nat) (w : World) (hm : n ≤ maxLen) (hc : n ≤ c ∧ c ≤ maxLen ∧ (a = none → c = 0)) (h : Bytes0 w a n) :
    Calls Try.prog 6 #[.slice a n c] w fun e w' => e = .returned (.bool true) ∧ Below w.heap.size w w' := by
  clear hm hc
  by_cases hbig : (n : Int) > 65536
  · go_enter Try.func6, Try.ntmps6
    go_wp2_with (go_at_call 43; refine (laws_rBig _ _ _ _).mono ?_; rintro e w' ⟨rfl, rfl⟩; rw [decide_eq_true hbig])
    go_ret
    exact ⟨rfl, Below.refl _ _⟩
  · have HB := Lib.hid (h.few (by omega))
    clear h
    go_enter Try.func6, Try.ntmps6
    go_wp2_with (go_at_call 43; refine (laws_rBig _ _ _ _).mono ?_; rintro e w' ⟨rfl, rfl⟩; rw [decide_eq_false hbig])
    refine (spec_DrawBalanceBound _ _ _ _ HB.out).mono ?_
    rintro e w1 ⟨⟨v, rfl, aP, nP, cP, aW, nW, cW, ps, ws, vL, vM, rfl, hD, oL, oM⟩, b1⟩
    obtain ⟨pay, oL, hpl⟩ := oL
    obtain ⟨num, oM, hml⟩ := oM
    obtain ⟨aL, cL, rfl⟩ := oL.shape
    obtain ⟨aM, cM, rfl⟩ := oM.shape
    obtain ⟨nL, hnL⟩ : ∃ z, z = pay.length := ⟨_, rfl⟩
    obtain ⟨nM, hnM⟩ : ∃ z, z = num.length := ⟨_, rfl⟩
    rw [← hnL] at oL hpl ⊢
    rw [← hnM] at oM hml ⊢
    have HBB := Lib.hid b1
    have HB1 := Lib.hid (HB.out.below b1)
    have hT := hD.tre
    have hIL := oL.ints
    have hIM := oM.ints
    have hcL := oL.cap.2.1
    have hcM := oM.cap.2.1
    obtain ⟨ok, hok⟩ : ∃ z, z = bbB ps ws pay num := ⟨_, rfl⟩
    obtain ⟨Bn, hBn⟩ : ∃ z, z = boN (bbB ps ws pay num) ps ws pay num := ⟨_, rfl⟩
    obtain ⟨Bd, hBd⟩ : ∃ z, z = boD (bbB ps ws pay num) ps ws pay num := ⟨_, rfl⟩
    obtain ⟨bal, hbal⟩ : ∃ z, z = balV ps ws num := ⟨_, rfl⟩
    obtain ⟨isb, hisb⟩ : ∃ z, z = paysB ps ws num := ⟨_, rfl⟩
    obtain ⟨two, htwo⟩ : ∃ z, z = paysB ps ws pay := ⟨_, rfl⟩
    obtain ⟨Sn, hSn⟩ : ∃ z, z = boN (paysB ps ws pay) ps ws pay (zeL ps) := ⟨_, rfl⟩
    obtain ⟨Sd, hSd⟩ : ∃ z, z = boD (paysB ps ws pay) ps ws pay (zeL ps) := ⟨_, rfl⟩
    obtain ⟨env, henv⟩ : ∃ z, z = envV ps ws pay := ⟨_, rfl⟩
    have H1 : Hid (∀ W, Below w1.heap.size w1 W → Calls Try.prog 45 #[.agg #[.slice aP nP cP, .slice aW nW cW], .slice aL nL cL, .slice aM nM cM] W fun e w' => e = .returned (.tuple #[.agg #[.int .i64 Bn, .int .i64 Bd], .bool ok]) ∧ Below W.heap.size W w') := Lib.hid fun W hW => by
      rw [hok, hBn, hBd]; exact impl_BalanceBound _ _ _ _ _ _ ps ws _ _ _ pay _ _ _ num W (hT.below hW) (hIL.below hW) hcL (by omega) (hIM.below hW) hcM (by omega)
    have H2 : Hid (∀ W, Below w1.heap.size w1 W → Calls Try.prog 46 #[.agg #[.slice aP nP cP, .slice aW nW cW], .slice aL nL cL, .slice aM nM cM] W fun e w' => e = .returned (.tuple #[.agg #[.int .i64 Bn, .int .i64 Bd], .bool ok]) ∧ Below W.heap.size W w') := Lib.hid fun W hW => by
      rw [hok, hBn, hBd]; exact spec_BalanceBound _ _ _ _ _ _ ps ws _ _ _ pay _ _ _ num W (hT.below hW) (hIL.below hW) hcL (by omega) (hIM.below hW) hcM (by omega)
    have H3 : Hid (∀ W, Below w1.heap.size w1 W → Calls Try.prog 47 #[.agg #[.slice aP nP cP, .slice aW nW cW], .slice aM nM cM] W fun e w' => e = .returned (.tuple #[.bool bal, .bool isb]) ∧ Below W.heap.size W w') := Lib.hid fun W hW => by
      rw [hbal, hisb]; exact impl_IsBalanced _ _ _ _ _ _ ps ws _ _ _ num W (hT.below hW) (hIM.below hW) hcM (by omega)
    have H4 : Hid (∀ W, Below w1.heap.size w1 W → Calls Try.prog 48 #[.agg #[.slice aP nP cP, .slice aW nW cW], .slice aM nM cM] W fun e w' => e = .returned (.tuple #[.bool bal, .bool isb]) ∧ Below W.heap.size W w') := Lib.hid fun W hW => by
      rw [hbal, hisb]; exact spec_IsBalanced _ _ _ _ _ _ ps ws _ _ _ num W (hT.below hW) (hIM.below hW) hcM (by omega)
    have H5 : Hid (∀ W, Below w1.heap.size w1 W → Calls Try.prog 49 #[.agg #[.slice aP nP cP, .slice aW nW cW], .slice aL nL cL] W fun e w' => e = .returned (.tuple #[.agg #[.int .i64 Sn, .int .i64 Sd], .bool two]) ∧ Below W.heap.size W w') := Lib.hid fun W hW => by
      rw [htwo, hSn, hSd]; exact impl_SeerMean _ _ _ _ _ _ ps ws _ _ _ pay W (hT.below hW) (hIL.below hW) hcL (by omega)
    have H6 : Hid (∀ W, Below w1.heap.size w1 W → Calls Try.prog 50 #[.agg #[.slice aP nP cP, .slice aW nW cW], .slice aL nL cL] W fun e w' => e = .returned (.tuple #[.agg #[.int .i64 Sn, .int .i64 Sd], .bool two]) ∧ Below W.heap.size W w') := Lib.hid fun W hW => by
      rw [htwo, hSn, hSd]; exact spec_SeerMean _ _ _ _ _ _ ps ws _ _ _ pay W (hT.below hW) (hIL.below hW) hcL (by omega)
    have H7 : Hid (∀ W, Below w1.heap.size w1 W → Calls Try.prog 55 #[.agg #[.slice aP nP cP, .slice aW nW cW], .slice aL nL cL] W fun e w' => ∃ v, e = .returned (.tuple #[v, .bool two]) ∧ Fr.Own w' W.heap.size v env ∧ Below W.heap.size W w') := Lib.hid fun W hW => by
      rw [htwo, henv]; exact impl_EnvelopeOf _ _ _ _ _ _ ps ws _ _ _ pay W (hT.below hW) (hIL.below hW) hcL (by omega)
    have H8 : Hid (∀ W, Below w1.heap.size w1 W → Calls Try.prog 56 #[.agg #[.slice aP nP cP, .slice aW nW cW], .slice aL nL cL] W fun e w' => ∃ v, e = .returned (.tuple #[v, .bool two]) ∧ Fr.Own w' W.heap.size v env ∧ Below W.heap.size W w') := Lib.hid fun W hW => by
      rw [htwo, henv]; exact spec_EnvelopeOf _ _ _ _ _ _ ps ws _ _ _ pay W (hT.below hW) (hIL.below hW) hcL (by omega)
    have hP1 : ok = true → bal = true ∧ two = true := fun h => by rw [hbal, htwo]; exact ok_t (hok ▸ h)
    have hP2 : two = true → env.length ≤ 24 ∧ 1 ≤ env.length ∧ (-4611686018427387904 ≤ Sn * Fr.at2 env 0 ∧ Sn * Fr.at2 env 0 ≤ 4611686018427387904) ∧ (-4611686018427387904 ≤ Fr.at1 env 0 * Sd ∧ Fr.at1 env 0 * Sd ≤ 4611686018427387904) ∧ decide (Sn * Fr.at2 env 0 < Fr.at1 env 0 * Sd) = false := fun h => by
      rw [hSn, hSd, henv]; exact seer_cmp (htwo ▸ h)
    have hP3 : ok = true → (-4611686018427387904 ≤ Bn * Fr.at2 env 0 ∧ Bn * Fr.at2 env 0 ≤ 4611686018427387904) ∧ (-4611686018427387904 ≤ Fr.at1 env 0 * Bd ∧ Fr.at1 env 0 * Bd ≤ 4611686018427387904) ∧ decide (Bn * Fr.at2 env 0 < Fr.at1 env 0 * Bd) = false := fun h => by
      rw [hBn, hBd, henv]; exact bound_cmp (hok ▸ h)
    have HP1 := Lib.hid hP1
    have HP2 := Lib.hid hP2
    have HP3 := Lib.hid hP3
    have HL0 := Lib.hid (Below.refl w1.heap.size w1)
    clear hP1 hP2 hP3 hok hBn hBd hbal hisb htwo hSn hSd henv hT hIL hIM hcL hcM hD oL oM b1 hnL hnM
    have zz := Pair.new w1 (.slice none 0 0) (.slice none 0 0) 26
    have zz0 := zz.c0
    have zz1 := zz.c1
    have zz2 := zz.f0
    have zz3 := zz.f1
    clear zz
    have nb := below_new w1 (.cells #[.slice aP nP cP, .slice aW nW cW] 26)
    have PT_2 := Lib.hid (Pair.new w1 (.slice aP nP cP) (.slice aW nW cW) 26)
    have HB1_2 := Lib.hid (HB1.out.below nb)
    have HL0_2 := Lib.hid (HL0.out.trans (nb.mono HL0.out.size))
    have HBB_2 := Lib.hid (HBB.out.trans (nb.mono HBB.out.size))
    clear nb HB1 HL0 HBB
    go_wp2_with fail
    clear zz0 zz1 zz2 zz3 
    generalize (w1.alloc (.cells #[.slice aP nP cP, .slice aW nW cW] 26)) = w2 at *
    refine (H1.out _ HL0_2.out).mono ?_
    rintro e w3 ⟨rfl, b3⟩
    have HB1_3 := Lib.hid (HB1_2.out.below b3)
    have PT_3 := Lib.hid (PT_2.out.below b3)
    have HL0_3 := Lib.hid (HL0_2.out.trans (b3.mono HL0_2.out.size))
    have HBB_3 := Lib.hid (HBB_2.out.trans (b3.mono HBB_2.out.size))
    clear b3 HB1_2 PT_2 HL0_2 HBB_2
    have zz := Pair.new w3 (.int .i64 0) (.int .i64 0) 48
    have zz0 := zz.c0
    have zz1 := zz.c1
    have zz2 := zz.f0
    have zz3 := zz.f1
    clear zz
    have op0 := PT_3.out.c0
    have op1 := PT_3.out.c1
    have op2 := PT_3.out.lt
    have nb := below_new w3 (.cells #[.int .i64 Bn, .int .i64 Bd] 48)
    have A6_4 := Lib.hid (Pair.new w3 (.int .i64 Bn) (.int .i64 Bd) 48)
    have HB1_4 := Lib.hid (HB1_3.out.below nb)
    have PT_4 := Lib.hid (PT_3.out.below nb)
    have HL0_4 := Lib.hid (HL0_3.out.trans (nb.mono HL0_3.out.size))
    have HBB_4 := Lib.hid (HBB_3.out.trans (nb.mono HBB_3.out.size))
    clear nb HB1_3 PT_3 HL0_3 HBB_3
    go_wp2_with fail
    clear zz0 zz1 zz2 zz3 op0 op1 op2
    generalize (w3.alloc (.cells #[.int .i64 Bn, .int .i64 Bd] 48)) = w4 at *
    refine (H2.out _ HL0_4.out).mono ?_
    rintro e w5 ⟨rfl, b5⟩
    have HB1_5 := Lib.hid (HB1_4.out.below b5)
    have PT_5 := Lib.hid (PT_4.out.below b5)
    have A6_5 := Lib.hid (A6_4.out.below b5)
    have HL0_5 := Lib.hid (HL0_4.out.trans (b5.mono HL0_4.out.size))
    have HBB_5 := Lib.hid (HBB_4.out.trans (b5.mono HBB_4.out.size))
    clear b5 HB1_4 PT_4 A6_4 HL0_4 HBB_4
    have zz := Pair.new w5 (.int .i64 0) (.int .i64 0) 48
    have zz0 := zz.c0
    have zz1 := zz.c1
    have zz2 := zz.f0
    have zz3 := zz.f1
    clear zz
    have op0 := PT_5.out.c0
    have op1 := PT_5.out.c1
    have op2 := PT_5.out.lt
    have op3 := A6_5.out.c0
    have op4 := A6_5.out.c1
    have op5 := A6_5.out.lt
    have op6 := (fun W => by rw [eqA2]; simp : ∀ W, (Op.equalIn 10000 48 (.agg #[.int .i64 Bn, .int .i64 Bd]) (.agg #[.int .i64 Bn, .int .i64 Bd])).run Try.prog W = .ok true W)
    have nb := below_new w5 (.cells #[.int .i64 Bn, .int .i64 Bd] 48)
    have A8_6 := Lib.hid (Pair.new w5 (.int .i64 Bn) (.int .i64 Bd) 48)
    have HB1_6 := Lib.hid (HB1_5.out.below nb)
    have PT_6 := Lib.hid (PT_5.out.below nb)
    have A6_6 := Lib.hid (A6_5.out.below nb)
    have HL0_6 := Lib.hid (HL0_5.out.trans (nb.mono HL0_5.out.size))
    have HBB_6 := Lib.hid (HBB_5.out.trans (nb.mono HBB_5.out.size))
    clear nb HB1_5 PT_5 A6_5 HL0_5 HBB_5
    go_wp2_with fail
    clear zz0 zz1 zz2 zz3 op0 op1 op2 op3 op4 op5 op6
    generalize (w5.alloc (.cells #[.int .i64 Bn, .int .i64 Bd] 48)) = w6 at *
    refine (H3.out _ HL0_6.out).mono ?_
    rintro e w7 ⟨rfl, b7⟩
    have HB1_7 := Lib.hid (HB1_6.out.below b7)
    have PT_7 := Lib.hid (PT_6.out.below b7)
    have A6_7 := Lib.hid (A6_6.out.below b7)
    have A8_7 := Lib.hid (A8_6.out.below b7)
    have HL0_7 := Lib.hid (HL0_6.out.trans (b7.mono HL0_6.out.size))
    have HBB_7 := Lib.hid (HBB_6.out.trans (b7.mono HBB_6.out.size))
    clear b7 HB1_6 PT_6 A6_6 A8_6 HL0_6 HBB_6
    have op0 := PT_7.out.c0
    have op1 := PT_7.out.c1
    have op2 := PT_7.out.lt
    go_wp2_with fail
    clear op0 op1 op2
    refine (H4.out _ HL0_7.out).mono ?_
    rintro e w8 ⟨rfl, b8⟩
    have HB1_8 := Lib.hid (HB1_7.out.below b8)
    have PT_8 := Lib.hid (PT_7.out.below b8)
    have A6_8 := Lib.hid (A6_7.out.below b8)
    have A8_8 := Lib.hid (A8_7.out.below b8)
    have HL0_8 := Lib.hid (HL0_7.out.trans (b8.mono HL0_7.out.size))
    have HBB_8 := Lib.hid (HBB_7.out.trans (b8.mono HBB_7.out.size))
    clear b8 HB1_7 PT_7 A6_7 A8_7 HL0_7 HBB_7
    go_upto_region 10 with fail
    go_cut [7, 10, 12, 91] (fun v7 v10 v12 v91 wc => v7 = .bool ok ∧ v10 = .bool bal ∧ v12 = .bool bal ∧ v91 = .bool false ∧ Below w8.heap.size w8 wc)
    case first => as_aux_lemma =>
      cases ok
      · go_wp2_with fail
        go_meet
        case rel => exact ⟨rfl, rfl, rfl, by simp, Below.refl _ _⟩
      · obtain rfl := (HP1.out rfl).1
        go_wp2_with fail
        go_meet
        case rel => exact ⟨rfl, rfl, rfl, by simp, Below.refl _ _⟩
    case rest =>
    obtain ⟨rfl, rfl, rfl, rfl, b9⟩ := hcut
    obtain ⟨w9, hwc⟩ : ∃ z, z = wc := ⟨_, rfl⟩
    rw [← hwc] at b9 ⊢
    clear hwc wc
    have HB1_9 := Lib.hid (HB1_8.out.below b9)
    have PT_9 := Lib.hid (PT_8.out.below b9)
    have A6_9 := Lib.hid (A6_8.out.below b9)
    have A8_9 := Lib.hid (A8_8.out.below b9)
    have HL0_9 := Lib.hid (HL0_8.out.trans (b9.mono HL0_8.out.size))
    have HBB_9 := Lib.hid (HBB_8.out.trans (b9.mono HBB_8.out.size))
    clear b9 HB1_8 PT_8 A6_8 A8_8 HL0_8 HBB_8
    clear A8_9
    have op0 := PT_9.out.c0
    have op1 := PT_9.out.c1
    have op2 := PT_9.out.lt
    go_wp2_with fail
    clear op0 op1 op2
    refine (H5.out _ HL0_9.out).mono ?_
    rintro e w10 ⟨rfl, b10⟩
    have HB1_10 := Lib.hid (HB1_9.out.below b10)
    have PT_10 := Lib.hid (PT_9.out.below b10)
    have A6_10 := Lib.hid (A6_9.out.below b10)
    have HL0_10 := Lib.hid (HL0_9.out.trans (b10.mono HL0_9.out.size))
    have HBB_10 := Lib.hid (HBB_9.out.trans (b10.mono HBB_9.out.size))
    clear b10 HB1_9 PT_9 A6_9 HL0_9 HBB_9
    have zz := Pair.new w10 (.int .i64 0) (.int .i64 0) 48
    have zz0 := zz.c0
    have zz1 := zz.c1
    have zz2 := zz.f0
    have zz3 := zz.f1
    clear zz
    have op0 := PT_10.out.c0
    have op1 := PT_10.out.c1
    have op2 := PT_10.out.lt
    have nb := below_new w10 (.cells #[.int .i64 Sn, .int .i64 Sd] 48)
    have A14_11 := Lib.hid (Pair.new w10 (.int .i64 Sn) (.int .i64 Sd) 48)
    have HB1_11 := Lib.hid (HB1_10.out.below nb)
    have PT_11 := Lib.hid (PT_10.out.below nb)
    have A6_11 := Lib.hid (A6_10.out.below nb)
    have HL0_11 := Lib.hid (HL0_10.out.trans (nb.mono HL0_10.out.size))
    have HBB_11 := Lib.hid (HBB_10.out.trans (nb.mono HBB_10.out.size))
    clear nb HB1_10 PT_10 A6_10 HL0_10 HBB_10
    go_wp2_with fail
    clear zz0 zz1 zz2 zz3 op0 op1 op2
    generalize (w10.alloc (.cells #[.int .i64 Sn, .int .i64 Sd] 48)) = w11 at *
    refine (H6.out _ HL0_11.out).mono ?_
    rintro e w12 ⟨rfl, b12⟩
    have HB1_12 := Lib.hid (HB1_11.out.below b12)
    have PT_12 := Lib.hid (PT_11.out.below b12)
    have A6_12 := Lib.hid (A6_11.out.below b12)
    have A14_12 := Lib.hid (A14_11.out.below b12)
    have HL0_12 := Lib.hid (HL0_11.out.trans (b12.mono HL0_11.out.size))
    have HBB_12 := Lib.hid (HBB_11.out.trans (b12.mono HBB_11.out.size))
    clear b12 HB1_11 PT_11 A6_11 A14_11 HL0_11 HBB_11
    have zz := Pair.new w12 (.int .i64 0) (.int .i64 0) 48
    have zz0 := zz.c0
    have zz1 := zz.c1
    have zz2 := zz.f0
    have zz3 := zz.f1
    clear zz
    have nb := below_new w12 (.cells #[.int .i64 Sn, .int .i64 Sd] 48)
    have A16_13 := Lib.hid (Pair.new w12 (.int .i64 Sn) (.int .i64 Sd) 48)
    have HB1_13 := Lib.hid (HB1_12.out.below nb)
    have PT_13 := Lib.hid (PT_12.out.below nb)
    have A6_13 := Lib.hid (A6_12.out.below nb)
    have A14_13 := Lib.hid (A14_12.out.below nb)
    have HL0_13 := Lib.hid (HL0_12.out.trans (nb.mono HL0_12.out.size))
    have HBB_13 := Lib.hid (HBB_12.out.trans (nb.mono HBB_12.out.size))
    clear nb HB1_12 PT_12 A6_12 A14_12 HL0_12 HBB_12
    go_upto_region 14 with fail
    clear zz0 zz1 zz2 zz3 
    generalize (w12.alloc (.cells #[.int .i64 Sn, .int .i64 Sd] 48)) = w13 at *
    go_cut [7, 15, 17, 118] (fun v7 v15 v17 v118 wc => v7 = .bool ok ∧ v15 = .bool two ∧ v17 = .bool two ∧ v118 = .bool false ∧ Below w13.heap.size w13 wc)
    case first => as_aux_lemma =>
      have op0 := A14_13.out.c0
      have op1 := A14_13.out.c1
      have op2 := A14_13.out.lt
      have op3 := A16_13.out.c0
      have op4 := A16_13.out.c1
      have op5 := A16_13.out.lt
      have hq := (fun W => by rw [eqA2]; simp : ∀ W, (Op.equalIn 10000 48 (.agg #[.int .i64 Sn, .int .i64 Sd]) (.agg #[.int .i64 Sn, .int .i64 Sd])).run Try.prog W = .ok true W)
      cases ok
      · go_wp2_with fail
        go_meet
        case rel => exact ⟨rfl, rfl, rfl, by simp, Below.refl _ _⟩
      · obtain rfl := (HP1.out rfl).2
        go_wp2_with fail
        go_meet
        case rel => exact ⟨rfl, rfl, rfl, by simp, Below.refl _ _⟩
    case rest =>
    obtain ⟨rfl, rfl, rfl, rfl, b14⟩ := hcut
    obtain ⟨w14, hwc⟩ : ∃ z, z = wc := ⟨_, rfl⟩
    rw [← hwc] at b14 ⊢
    clear hwc wc
    have HB1_14 := Lib.hid (HB1_13.out.below b14)
    have PT_14 := Lib.hid (PT_13.out.below b14)
    have A6_14 := Lib.hid (A6_13.out.below b14)
    have A14_14 := Lib.hid (A14_13.out.below b14)
    have A16_14 := Lib.hid (A16_13.out.below b14)
    have HL0_14 := Lib.hid (HL0_13.out.trans (b14.mono HL0_13.out.size))
    have HBB_14 := Lib.hid (HBB_13.out.trans (b14.mono HBB_13.out.size))
    clear b14 HB1_13 PT_13 A6_13 A14_13 A16_13 HL0_13 HBB_13
    clear A16_14
    go_wp2_with fail
    refine (spec_DrawCostlySteps _ _ _ _ HB1_14.out).mono ?_
    rintro e w15 ⟨⟨v15, rfl, bP, mP, dP, bW, mW, dW, qs, us, vQ, cst, rfl, hD2, oQ, -⟩, b15⟩
    have HB1_15 := Lib.hid (HB1_14.out.below b15)
    have PT_15 := Lib.hid (PT_14.out.below b15)
    have A6_15 := Lib.hid (A6_14.out.below b15)
    have A14_15 := Lib.hid (A14_14.out.below b15)
    have HL0_15 := Lib.hid (HL0_14.out.trans (b15.mono HL0_14.out.size))
    have HBB_15 := Lib.hid (HBB_14.out.trans (b15.mono HBB_14.out.size))
    clear b15 HB1_14 PT_14 A6_14 A14_14 HL0_14 HBB_14
    have HM_15 := Lib.hid (Below.refl w15.heap.size w15)
    obtain ⟨pq, oQ, hql⟩ := oQ
    obtain ⟨aQ, cQ, rfl⟩ := oQ.shape
    obtain ⟨nQ, hnQ⟩ : ∃ z, z = pq.length := ⟨_, rfl⟩
    rw [← hnQ] at oQ hql ⊢
    have hT2 := hD2.tre
    have hIQ := oQ.ints
    have hcQ := oQ.cap.2.1
    obtain ⟨three, hthree⟩ : ∃ z, z = costB qs us pq cst := ⟨_, rfl⟩
    obtain ⟨less, hless⟩ : ∃ z, z = costV qs us pq cst := ⟨_, rfl⟩
    obtain ⟨nl, hnl⟩ : ∃ z, z = less.length := ⟨_, rfl⟩
    obtain ⟨pg, hpg⟩ : ∃ z, z = paysB qs us pq := ⟨_, rfl⟩
    obtain ⟨pl, hpl2⟩ : ∃ z, z = paysB qs us less := ⟨_, rfl⟩
    obtain ⟨enA, henA⟩ : ∃ z, z = envV qs us pq := ⟨_, rfl⟩
    obtain ⟨enB, henB⟩ : ∃ z, z = envV qs us less := ⟨_, rfl⟩
    have G1 : Hid (∀ W, Below w15.heap.size w15 W → Calls Try.prog 52 #[.agg #[.slice bP mP dP, .slice bW mW dW], .slice aQ nQ cQ, .int .i64 cst] W fun e w' => ∃ v, e = .returned (.tuple #[v, .bool three]) ∧ Own w' W.heap.size v less ∧ Below W.heap.size W w') := Lib.hid fun W hW => by
      rw [hthree, hless]; exact impl_CostlySteps _ _ _ _ _ _ qs us _ _ _ pq cst W (hT2.below hW) (hIQ.below hW) hcQ (by omega)
    have G2 : Hid (∀ W, Below w15.heap.size w15 W → Calls Try.prog 53 #[.agg #[.slice bP mP dP, .slice bW mW dW], .slice aQ nQ cQ, .int .i64 cst] W fun e w' => ∃ v, e = .returned (.tuple #[v, .bool three]) ∧ Own w' W.heap.size v less ∧ Below W.heap.size W w') := Lib.hid fun W hW => by
      rw [hthree, hless]; exact spec_CostlySteps _ _ _ _ _ _ qs us _ _ _ pq cst W (hT2.below hW) (hIQ.below hW) hcQ (by omega)
    have G3 : Hid (∀ W, Below w15.heap.size w15 W → Calls Try.prog 55 #[.agg #[.slice bP mP dP, .slice bW mW dW], .slice aQ nQ cQ] W fun e w' => ∃ v, e = .returned (.tuple #[v, .bool pg]) ∧ Fr.Own w' W.heap.size v enA ∧ Below W.heap.size W w') := Lib.hid fun W hW => by
      rw [hpg, henA]; exact impl_EnvelopeOf _ _ _ _ _ _ qs us _ _ _ pq W (hT2.below hW) (hIQ.below hW) hcQ (by omega)
    have G4 : Hid (∀ W a n c, Below w15.heap.size w15 W → Ints W a n less → (a = none → c = 0) → n ≤ 100 → Calls Try.prog 55 #[.agg #[.slice bP mP dP, .slice bW mW dW], .slice a n c] W fun e w' => ∃ v, e = .returned (.tuple #[v, .bool pl]) ∧ Fr.Own w' W.heap.size v enB ∧ Below W.heap.size W w') := Lib.hid fun W a n c hW hI hc hn => by
      rw [hpl2, henB]; exact impl_EnvelopeOf _ _ _ _ _ _ qs us _ _ _ less W (hT2.below hW) hI hc (by omega)
    have G5 : Hid (∀ W a n c, Below w15.heap.size w15 W → Ints W a n less → (a = none → c = 0) → n ≤ 100 → Calls Try.prog 56 #[.agg #[.slice bP mP dP, .slice bW mW dW], .slice a n c] W fun e w' => ∃ v, e = .returned (.tuple #[v, .bool pl]) ∧ Fr.Own w' W.heap.size v enB ∧ Below W.heap.size W w') := Lib.hid fun W a n c hW hI hc hn => by
      rw [hpl2, henB]; exact spec_EnvelopeOf _ _ _ _ _ _ qs us _ _ _ less W (hT2.below hW) hI hc (by omega)
    have hnl2 : nl ≤ 40 := by rw [hnl, hless]; exact cost_len _ _ _ _
    have hQ : three = true → pg = true ∧ pl = true ∧ (enA.length ≤ 24 ∧ 1 ≤ enA.length) ∧ (enB.length ≤ 24 ∧ 1 ≤ enB.length) ∧ (-4611686018427387904 ≤ Fr.at1 enA 0 * Fr.at2 enB 0 ∧ Fr.at1 enA 0 * Fr.at2 enB 0 ≤ 4611686018427387904) ∧ (-4611686018427387904 ≤ Fr.at1 enB 0 * Fr.at2 enA 0 ∧ Fr.at1 enB 0 * Fr.at2 enA 0 ≤ 4611686018427387904) ∧ decide (Fr.at1 enA 0 * Fr.at2 enB 0 < Fr.at1 enB 0 * Fr.at2 enA 0) = false := fun h => by
      rw [hpg, hpl2, henA, henB, hless]; exact three_t (hthree ▸ h)
    have HQ := Lib.hid hQ
    have HNL := Lib.hid hnl
    clear hQ hthree hless hpg hpl2 henA henB hT2 hIQ hcQ hD2 oQ hnl hnQ
    have zz := Pair.new w15 (.slice none 0 0) (.slice none 0 0) 26
    have zz0 := zz.c0
    have zz1 := zz.c1
    have zz2 := zz.f0
    have zz3 := zz.f1
    clear zz
    have nb := below_new w15 (.cells #[.slice bP mP dP, .slice bW mW dW] 26)
    have GT_16 := Lib.hid (Pair.new w15 (.slice bP mP dP) (.slice bW mW dW) 26)
    have HB1_16 := Lib.hid (HB1_15.out.below nb)
    have PT_16 := Lib.hid (PT_15.out.below nb)
    have A6_16 := Lib.hid (A6_15.out.below nb)
    have A14_16 := Lib.hid (A14_15.out.below nb)
    have HL0_16 := Lib.hid (HL0_15.out.trans (nb.mono HL0_15.out.size))
    have HBB_16 := Lib.hid (HBB_15.out.trans (nb.mono HBB_15.out.size))
    have HM_16 := Lib.hid (HM_15.out.trans (nb.mono HM_15.out.size))
    clear nb HB1_15 PT_15 A6_15 A14_15 HL0_15 HBB_15 HM_15
    go_wp2_with fail
    clear zz0 zz1 zz2 zz3 
    generalize (w15.alloc (.cells #[.slice bP mP dP, .slice bW mW dW] 26)) = w16 at *
    refine (G1.out _ HM_16.out).mono ?_
    rintro e w17 ⟨v17, rfl, o17, b17⟩
    obtain ⟨aX, cX, rfl⟩ := o17.shape
    rw [← HNL.out] at o17 ⊢
    have HB1_17 := Lib.hid (HB1_16.out.below b17)
    have PT_17 := Lib.hid (PT_16.out.below b17)
    have A6_17 := Lib.hid (A6_16.out.below b17)
    have A14_17 := Lib.hid (A14_16.out.below b17)
    have GT_17 := Lib.hid (GT_16.out.below b17)
    have HL0_17 := Lib.hid (HL0_16.out.trans (b17.mono HL0_16.out.size))
    have HBB_17 := Lib.hid (HBB_16.out.trans (b17.mono HBB_16.out.size))
    have HM_17 := Lib.hid (HM_16.out.trans (b17.mono HM_16.out.size))
    clear b17 HB1_16 PT_16 A6_16 A14_16 GT_16 HL0_16 HBB_16 HM_16
    have hcX := o17.cap.2.1
    have X1_17 := Lib.hid (o17)
    clear o17
    have op0 := GT_17.out.c0
    have op1 := GT_17.out.c1
    have op2 := GT_17.out.lt
    go_wp2_with fail
    clear op0 op1 op2
    refine (G2.out _ HM_17.out).mono ?_
    rintro e w18 ⟨v18, rfl, o18, b18⟩
    obtain ⟨aY, cY, rfl⟩ := o18.shape
    rw [← HNL.out] at o18 ⊢
    have HB1_18 := Lib.hid (HB1_17.out.below b18)
    have PT_18 := Lib.hid (PT_17.out.below b18)
    have A6_18 := Lib.hid (A6_17.out.below b18)
    have A14_18 := Lib.hid (A14_17.out.below b18)
    have GT_18 := Lib.hid (GT_17.out.below b18)
    have X1_18 := Lib.hid (X1_17.out.below b18)
    have HL0_18 := Lib.hid (HL0_17.out.trans (b18.mono HL0_17.out.size))
    have HBB_18 := Lib.hid (HBB_17.out.trans (b18.mono HBB_17.out.size))
    have HM_18 := Lib.hid (HM_17.out.trans (b18.mono HM_17.out.size))
    clear b18 HB1_17 PT_17 A6_17 A14_17 GT_17 X1_17 HL0_17 HBB_17 HM_17
    have X2_18 := Lib.hid (o18)
    clear o18
    go_wp2_with fail
    refine (laws_rInts _ _ _ _ _ less _ (by omega) X1_18.out.ints X2_18.out.ints).mono ?_
    rintro e w19 ⟨rfl, b19⟩
    have HB1_19 := Lib.hid (HB1_18.out.below b19)
    have PT_19 := Lib.hid (PT_18.out.below b19)
    have A6_19 := Lib.hid (A6_18.out.below b19)
    have A14_19 := Lib.hid (A14_18.out.below b19)
    have GT_19 := Lib.hid (GT_18.out.below b19)
    have X1_19 := Lib.hid (X1_18.out.below b19)
    have X2_19 := Lib.hid (X2_18.out.below b19)
    have HL0_19 := Lib.hid (HL0_18.out.trans (b19.mono HL0_18.out.size))
    have HBB_19 := Lib.hid (HBB_18.out.trans (b19.mono HBB_18.out.size))
    have HM_19 := Lib.hid (HM_18.out.trans (b19.mono HM_18.out.size))
    clear b19 HB1_18 PT_18 A6_18 A14_18 GT_18 X1_18 X2_18 HL0_18 HBB_18 HM_18
    clear X2_19
    go_upto_if 148 with fail
    go_cut [22] (fun v22 wc => v22 = .bool three ∧ Below w19.heap.size w19 wc)
    case first => as_aux_lemma =>
      have HS_19 := Lib.hid (Below.refl w19.heap.size w19)
      cases three
      · go_wp2_with fail
        go_meet
        case rel => exact ⟨rfl, Below.refl _ _⟩
      · obtain ⟨rfl, rfl, hlA, hlB, hm1, hm2, hdec⟩ := HQ.out rfl
        have Hdec := Lib.hid hdec
        clear hdec
        have op0 := GT_19.out.c0
        have op1 := GT_19.out.c1
        have op2 := GT_19.out.lt
        go_wp2_with fail
        clear op0 op1 op2
        refine (G3.out _ HM_19.out).mono ?_
        rintro e w20 ⟨v20, rfl, o20, b20⟩
        obtain ⟨aA, cA, rfl⟩ := o20.shape
        have HB1_20 := Lib.hid (HB1_19.out.below b20)
        have PT_20 := Lib.hid (PT_19.out.below b20)
        have A6_20 := Lib.hid (A6_19.out.below b20)
        have A14_20 := Lib.hid (A14_19.out.below b20)
        have GT_20 := Lib.hid (GT_19.out.below b20)
        have X1_20 := Lib.hid (X1_19.out.below b20)
        have HL0_20 := Lib.hid (HL0_19.out.trans (b20.mono HL0_19.out.size))
        have HBB_20 := Lib.hid (HBB_19.out.trans (b20.mono HBB_19.out.size))
        have HM_20 := Lib.hid (HM_19.out.trans (b20.mono HM_19.out.size))
        have HS_20 := Lib.hid (HS_19.out.trans (b20.mono HS_19.out.size))
        clear b20 HB1_19 PT_19 A6_19 A14_19 GT_19 X1_19 HL0_19 HBB_19 HM_19 HS_19
        have EA_20 := Lib.hid (o20)
        clear o20
        have op0 := GT_20.out.c0
        have op1 := GT_20.out.c1
        have op2 := GT_20.out.lt
        go_wp2_with fail
        clear op0 op1 op2
        refine (G4.out _ _ _ _ HM_20.out X1_20.out.ints hcX (by omega)).mono ?_
        rintro e w21 ⟨v21, rfl, o21, b21⟩
        obtain ⟨aB, cB, rfl⟩ := o21.shape
        have HB1_21 := Lib.hid (HB1_20.out.below b21)
        have PT_21 := Lib.hid (PT_20.out.below b21)
        have A6_21 := Lib.hid (A6_20.out.below b21)
        have A14_21 := Lib.hid (A14_20.out.below b21)
        have GT_21 := Lib.hid (GT_20.out.below b21)
        have X1_21 := Lib.hid (X1_20.out.below b21)
        have EA_21 := Lib.hid (EA_20.out.below b21)
        have HL0_21 := Lib.hid (HL0_20.out.trans (b21.mono HL0_20.out.size))
        have HBB_21 := Lib.hid (HBB_20.out.trans (b21.mono HBB_20.out.size))
        have HM_21 := Lib.hid (HM_20.out.trans (b21.mono HM_20.out.size))
        have HS_21 := Lib.hid (HS_20.out.trans (b21.mono HS_20.out.size))
        clear b21 HB1_20 PT_20 A6_20 A14_20 GT_20 X1_20 EA_20 HL0_20 HBB_20 HM_20 HS_20
        have EB_21 := Lib.hid (o21)
        clear o21
        have op0 := GT_21.out.c0
        have op1 := GT_21.out.c1
        have op2 := GT_21.out.lt
        go_wp2_with fail
        clear op0 op1 op2
        refine (G5.out _ _ _ _ HM_21.out X1_21.out.ints hcX (by omega)).mono ?_
        rintro e w22 ⟨v22, rfl, o22, b22⟩
        obtain ⟨aC, cC, rfl⟩ := o22.shape
        have HB1_22 := Lib.hid (HB1_21.out.below b22)
        have PT_22 := Lib.hid (PT_21.out.below b22)
        have A6_22 := Lib.hid (A6_21.out.below b22)
        have A14_22 := Lib.hid (A14_21.out.below b22)
        have GT_22 := Lib.hid (GT_21.out.below b22)
        have X1_22 := Lib.hid (X1_21.out.below b22)
        have EA_22 := Lib.hid (EA_21.out.below b22)
        have EB_22 := Lib.hid (EB_21.out.below b22)
        have HL0_22 := Lib.hid (HL0_21.out.trans (b22.mono HL0_21.out.size))
        have HBB_22 := Lib.hid (HBB_21.out.trans (b22.mono HBB_21.out.size))
        have HM_22 := Lib.hid (HM_21.out.trans (b22.mono HM_21.out.size))
        have HS_22 := Lib.hid (HS_21.out.trans (b22.mono HS_21.out.size))
        clear b22 HB1_21 PT_21 A6_21 A14_21 GT_21 X1_21 EA_21 EB_21 HL0_21 HBB_21 HM_21 HS_21
        have EC_22 := Lib.hid (o22)
        clear o22
        go_upto_region 25 with fail
        obtain ⟨bA, oA, rfl, hbA, hcA⟩ := EA_22.out.ints.2 (by omega)
        have ca1 := (hcA 0 (by omega)).1
        have ca2 := (hcA 0 (by omega)).2
        rw [Nat.zero_mul, Nat.add_zero] at ca1 ca2
        clear hcA
        obtain ⟨bB, oB, rfl, hbB, hcB⟩ := EB_22.out.ints.2 (by omega)
        have cb1 := (hcB 0 (by omega)).1
        have cb2 := (hcB 0 (by omega)).2
        rw [Nat.zero_mul, Nat.add_zero] at cb1 cb2
        clear hcB
        have hnA : 0 < enA.length := by omega
        have hnB : 0 < enB.length := by omega
        refine wp_region_noPanic ?_
        refine wp_region_held_drew (S := (fun W' => (W'.cell? ⟨bA, oA, none⟩ = some (.int .i64 (Fr.at1 enA 0)) ∧ W'.cell? ⟨bA, oA + 1, none⟩ = some (.int .i64 (Fr.at2 enA 0))) ∧ W'.cell? ⟨bB, oB, none⟩ = some (.int .i64 (Fr.at1 enB 0)) ∧ W'.cell? ⟨bB, oB + 1, none⟩ = some (.int .i64 (Fr.at2 enB 0)))) (by kernel_rfl) ?_ (fun hHeld0 => ?_)
        · (try dsimp only); first | assumption | exact ⟨⟨ca1, ca2⟩, cb1, cb2⟩
        refine takeH (i := 0) (oi := _) (v := ?_) rfl (by kernel_rfl) (by kernel_rfl) (by kernel_rfl) (fun _ _ _ h => h) (Or.inl ⟨by rfl, ?_⟩) (by assumption) ?_
        rotate_left
        · first | (intro w hSw; (try dsimp only at hSw); go_simp; done) | (intro w hSw; (try dsimp only at hSw); go_simp; with_reducible rfl)
        (try simp only [Act.put, List.setIfInBounds_toArray, List.set_cons_zero, List.set_cons_succ])
        refine takeH (i := 1) (oi := _) (v := ?_) rfl (by kernel_rfl) (by kernel_rfl) (by kernel_rfl) (fun _ _ _ h => h) (Or.inl ⟨by rfl, ?_⟩) (by assumption) ?_
        rotate_left
        · first | (intro w hSw; (try dsimp only at hSw); go_simp; done) | (intro w hSw; (try dsimp only at hSw); go_simp; with_reducible rfl)
        (try simp only [Act.put, List.setIfInBounds_toArray, List.set_cons_zero, List.set_cons_succ])
        refine takeH (i := 2) (oi := _) (v := ?_) rfl (by kernel_rfl) (by kernel_rfl) (by kernel_rfl) (fun _ _ _ h => h) (Or.inl ⟨by rfl, ?_⟩) (by assumption) ?_
        rotate_left
        · first | (intro w hSw; (try dsimp only at hSw); go_simp; done) | (intro w hSw; (try dsimp only at hSw); go_simp; with_reducible rfl)
        (try simp only [Act.put, List.setIfInBounds_toArray, List.set_cons_zero, List.set_cons_succ])
        refine takeH (i := 3) (oi := _) (v := ?_) rfl (by kernel_rfl) (by kernel_rfl) (by kernel_rfl) (fun _ _ _ h => h) (Or.inl ⟨by rfl, ?_⟩) (by assumption) ?_
        rotate_left
        · first | (intro w hSw; (try dsimp only at hSw); go_simp; done) | (intro w hSw; (try dsimp only at hSw); go_simp; with_reducible rfl)
        (try simp only [Act.put, List.setIfInBounds_toArray, List.set_cons_zero, List.set_cons_succ])
        refine takeH (i := 4) (oi := _) (v := ?_) rfl (by kernel_rfl) (by kernel_rfl) (by kernel_rfl) (fun _ _ _ h => h) (Or.inl ⟨by rfl, ?_⟩) (by assumption) ?_
        rotate_left
        · first | (intro w hSw; (try dsimp only at hSw); go_simp; done) | (intro w hSw; (try dsimp only at hSw); go_simp; with_reducible rfl)
        (try simp only [Act.put, List.setIfInBounds_toArray, List.set_cons_zero, List.set_cons_succ])
        refine takeH (i := 5) (oi := _) (v := ?_) rfl (by kernel_rfl) (by kernel_rfl) (by kernel_rfl) (fun _ _ _ h => h) (Or.inl ⟨by rfl, ?_⟩) (by assumption) ?_
        rotate_left
        · first | (intro w hSw; (try dsimp only at hSw); go_simp; done) | (intro w hSw; (try dsimp only at hSw); go_simp; with_reducible rfl)
        (try simp only [Act.put, List.setIfInBounds_toArray, List.set_cons_zero, List.set_cons_succ])
        refine takeH (i := 6) (oi := _) (v := ?_) rfl (by kernel_rfl) (by kernel_rfl) (by kernel_rfl) (fun _ _ _ h => h) (Or.inl ⟨by rfl, ?_⟩) (by assumption) ?_
        rotate_left
        · first | (intro w hSw; (try dsimp only at hSw); go_simp; done) | (intro w hSw; (try dsimp only at hSw); go_simp; with_reducible rfl)
        (try simp only [Act.put, List.setIfInBounds_toArray, List.set_cons_zero, List.set_cons_succ])
        refine takeH (i := 7) (oi := _) (v := ?_) rfl (by kernel_rfl) (by kernel_rfl) (by kernel_rfl) (fun _ _ _ h => h) (Or.inl ⟨by rfl, ?_⟩) (by assumption) ?_
        rotate_left
        · first | (intro w hSw; (try dsimp only at hSw); go_simp; done) | (intro w hSw; (try dsimp only at hSw); go_simp; with_reducible rfl)
        (try simp only [Act.put, List.setIfInBounds_toArray, List.set_cons_zero, List.set_cons_succ])
        refine takeH (i := 8) (oi := _) (v := ?_) rfl (by kernel_rfl) (by kernel_rfl) (by kernel_rfl) (fun _ _ _ h => h) (Or.inl ⟨by rfl, ?_⟩) (by assumption) ?_
        rotate_left
        · first | (intro w hSw; (try dsimp only at hSw); go_simp; done) | (intro w hSw; (try dsimp only at hSw); go_simp; with_reducible rfl)
        (try simp only [Act.put, List.setIfInBounds_toArray, List.set_cons_zero, List.set_cons_succ])
        refine takeH (i := 9) (oi := _) (v := ?_) rfl (by kernel_rfl) (by kernel_rfl) (by kernel_rfl) (fun _ _ _ h => h) (Or.inl ⟨by rfl, ?_⟩) (by assumption) ?_
        rotate_left
        · first | (intro w hSw; (try dsimp only at hSw); go_simp; done) | (intro w hSw; (try dsimp only at hSw); go_simp; with_reducible rfl)
        (try simp only [Act.put, List.setIfInBounds_toArray, List.set_cons_zero, List.set_cons_succ])
        refine takeH (i := 10) (oi := _) (v := ?_) rfl (by kernel_rfl) (by kernel_rfl) (by kernel_rfl) (fun _ _ _ h => h) (Or.inl ⟨by rfl, ?_⟩) (by assumption) ?_
        rotate_left
        · first | (intro w hSw; (try dsimp only at hSw); go_simp; done) | (intro w hSw; (try dsimp only at hSw); go_simp; with_reducible rfl)
        (try simp only [Act.put, List.setIfInBounds_toArray, List.set_cons_zero, List.set_cons_succ])
        refine takeH (i := 11) (oi := _) (v := ?_) rfl (by kernel_rfl) (by kernel_rfl) (by kernel_rfl) (fun _ _ _ h => h) (Or.inl ⟨by rfl, ?_⟩) (by assumption) ?_
        rotate_left
        · first | (intro w hSw; (try dsimp only at hSw); go_simp; done) | (intro w hSw; (try dsimp only at hSw); go_simp; with_reducible rfl)
        (try simp only [Act.put, List.setIfInBounds_toArray, List.set_cons_zero, List.set_cons_succ])
        refine takeH (i := 12) (oi := _) (v := ?_) rfl (by kernel_rfl) (by kernel_rfl) (by kernel_rfl) (fun _ _ _ h => h) (Or.inl ⟨by rfl, ?_⟩) (by assumption) ?_
        rotate_left
        · first | (intro w hSw; (try dsimp only at hSw); go_simp; done) | (intro w hSw; (try dsimp only at hSw); go_simp; with_reducible rfl)
        (try simp only [Act.put, List.setIfInBounds_toArray, List.set_cons_zero, List.set_cons_succ])
        refine wpAnyH_ready (rs := [13]) (by kernel_rfl) (by simp) ?_
        refine consH rfl (fun Kq hKq => ?_)
        go_simp
        refine (laws_rFracs _ _ _ _ _ enB _ (by omega) (EB_22.out.below (Below.refl _ _).drew).ints (EC_22.out.below (Below.refl _ _).drew).ints).mono ?_
        rintro e wq ⟨rfl, bq⟩
        have bq2 := (Below.refl w22.heap.size w22).drew.trans bq
        have hSS := And.intro (And.intro (cell_up bq2 ca1) (cell_up bq2 ca2)) (And.intro (cell_up bq2 cb1) (cell_up bq2 cb2))
        clear bq
        refine hKq.out _ _ ?_ (fun hHeld1 => ?_)
        · (try dsimp only); first | assumption | exact ⟨⟨ca1, ca2⟩, cb1, cb2⟩
        clear hKq Kq
        (try simp only [Act.put, List.setIfInBounds_toArray, List.set_cons_zero, List.set_cons_succ])
        clear hHeld0
        refine takeH (i := 14) (oi := _) (v := ?_) rfl (by kernel_rfl) (by kernel_rfl) (by kernel_rfl) (fun _ _ _ h => h) (Or.inl ⟨by rfl, ?_⟩) (by assumption) ?_
        rotate_left
        · first | (intro w hSw; (try dsimp only at hSw); go_simp; done) | (intro w hSw; (try dsimp only at hSw); go_simp; with_reducible rfl)
        (try simp only [Act.put, List.setIfInBounds_toArray, List.set_cons_zero, List.set_cons_succ])
        refine takeH (i := 15) (oi := _) (v := ?_) rfl (by kernel_rfl) (by kernel_rfl) (by kernel_rfl) (fun _ _ _ h => h) (Or.inl ⟨by rfl, ?_⟩) (by assumption) ?_
        rotate_left
        · first | (intro w hSw; (try dsimp only at hSw); go_simp; done) | (intro w hSw; (try dsimp only at hSw); go_simp; with_reducible rfl)
        (try simp only [Act.put, List.setIfInBounds_toArray, List.set_cons_zero, List.set_cons_succ])
        refine takeH (i := 16) (oi := _) (v := ?_) rfl (by kernel_rfl) (by kernel_rfl) (by kernel_rfl) (fun _ _ _ h => h) (Or.inl ⟨by rfl, ?_⟩) (by assumption) ?_
        rotate_left
        · first | (intro w hSw; (try dsimp only at hSw); go_simp; done) | (intro w hSw; (try dsimp only at hSw); go_simp; with_reducible rfl)
        (try simp only [Act.put, List.setIfInBounds_toArray, List.set_cons_zero, List.set_cons_succ])
        refine takeH (i := 17) (oi := _) (v := ?_) rfl (by kernel_rfl) (by kernel_rfl) (by kernel_rfl) (fun _ _ _ h => h) (Or.inl ⟨by rfl, ?_⟩) (by assumption) ?_
        rotate_left
        · first | (intro w hSw; (try dsimp only at hSw); go_simp; done) | (intro w hSw; (try dsimp only at hSw); go_simp; with_reducible rfl)
        (try simp only [Act.put, List.setIfInBounds_toArray, List.set_cons_zero, List.set_cons_succ])
        refine takeH (i := 18) (oi := _) (v := ?_) rfl (by kernel_rfl) (by kernel_rfl) (by kernel_rfl) (fun _ _ _ h => h) (Or.inl ⟨by rfl, ?_⟩) (by assumption) ?_
        rotate_left
        · first | (intro w hSw; (try dsimp only at hSw); go_simp; done) | (intro w hSw; (try dsimp only at hSw); go_simp; with_reducible rfl)
        (try simp only [Act.put, List.setIfInBounds_toArray, List.set_cons_zero, List.set_cons_succ])
        refine takeH (i := 19) (oi := _) (v := ?_) rfl (by kernel_rfl) (by kernel_rfl) (by kernel_rfl) (fun _ _ _ h => h) (Or.inl ⟨by rfl, ?_⟩) (by assumption) ?_
        rotate_left
        · first | (intro w hSw; (try dsimp only at hSw); go_simp; done) | (intro w hSw; (try dsimp only at hSw); go_simp; with_reducible rfl)
        (try simp only [Act.put, List.setIfInBounds_toArray, List.set_cons_zero, List.set_cons_succ])
        refine takeH (i := 20) (oi := _) (v := ?_) rfl (by kernel_rfl) (by kernel_rfl) (by kernel_rfl) (fun _ _ _ h => h) (Or.inl ⟨by rfl, ?_⟩) (by assumption) ?_
        rotate_left
        · first | (intro w hSw; (try dsimp only at hSw); go_simp; done) | (intro w hSw; (try dsimp only at hSw); go_simp; with_reducible rfl)
        (try simp only [Act.put, List.setIfInBounds_toArray, List.set_cons_zero, List.set_cons_succ])
        refine takeH (i := 21) (oi := _) (v := ?_) rfl (by kernel_rfl) (by kernel_rfl) (by kernel_rfl) (fun _ _ _ h => h) (Or.inl ⟨by rfl, ?_⟩) (by assumption) ?_
        rotate_left
        · first | (intro w hSw; (try dsimp only at hSw); go_simp; done) | (intro w hSw; (try dsimp only at hSw); go_simp; with_reducible rfl)
        (try simp only [Act.put, List.setIfInBounds_toArray, List.set_cons_zero, List.set_cons_succ])
        refine takeH (i := 22) (oi := _) (v := ?_) rfl (by kernel_rfl) (by kernel_rfl) (by kernel_rfl) (fun _ _ _ h => h) (Or.inl ⟨by rfl, ?_⟩) (by assumption) ?_
        rotate_left
        · first | (intro w hSw; (try dsimp only at hSw); go_simp; done) | (intro w hSw; (try dsimp only at hSw); go_simp; with_reducible rfl)
        (try simp only [Act.put, List.setIfInBounds_toArray, List.set_cons_zero, List.set_cons_succ])
        refine wpAnyH_ready (rs := [23]) (by kernel_rfl) (by simp) ?_
        refine consH rfl (fun Kq hKq => ?_)
        go_simp
        refine (laws_rLess _ _ _ _ _ hm1 hm2).mono ?_
        rintro e wz ⟨rfl, bz⟩
        rw [Hdec.out]
        have bz2 := bq2.trans (bz.mono bq2.size)
        have hSS2 := And.intro (And.intro (cell_up bz2 ca1) (cell_up bz2 ca2)) (And.intro (cell_up bz2 cb1) (cell_up bz2 cb2))
        clear bz
        refine hKq.out _ _ ?_ (fun hHeld2 => ?_)
        · (try dsimp only); first | assumption | exact ⟨⟨ca1, ca2⟩, cb1, cb2⟩
        clear hKq Kq
        (try simp only [Act.put, List.setIfInBounds_toArray, List.set_cons_zero, List.set_cons_succ])
        clear hHeld1
        refine takeH (i := 24) (oi := _) (v := ?_) rfl (by kernel_rfl) (by kernel_rfl) (by kernel_rfl) (fun _ _ _ h => h) (Or.inl ⟨by rfl, ?_⟩) (by assumption) ?_
        rotate_left
        · first | (intro w hSw; (try dsimp only at hSw); go_simp; done) | (intro w hSw; (try dsimp only at hSw); go_simp; with_reducible rfl)
        (try simp only [Act.put, List.setIfInBounds_toArray, List.set_cons_zero, List.set_cons_succ])
        refine wpAnyH_done (by kernel_rfl) ?_ _
        refine NoPanic.normal ?_
        go_wp2_with fail
        go_meet
        case rel => exact ⟨rfl, HS_22.out.trans (bz2.mono HS_22.out.size)⟩
    case rest =>
    obtain ⟨rfl, b20⟩ := hcut
    obtain ⟨w20, hwc⟩ : ∃ z, z = wc := ⟨_, rfl⟩
    rw [← hwc] at b20 ⊢
    clear hwc wc
    have HB1_20 := Lib.hid (HB1_19.out.below b20)
    have PT_20 := Lib.hid (PT_19.out.below b20)
    have A6_20 := Lib.hid (A6_19.out.below b20)
    have A14_20 := Lib.hid (A14_19.out.below b20)
    have GT_20 := Lib.hid (GT_19.out.below b20)
    have X1_20 := Lib.hid (X1_19.out.below b20)
    have HL0_20 := Lib.hid (HL0_19.out.trans (b20.mono HL0_19.out.size))
    have HBB_20 := Lib.hid (HBB_19.out.trans (b20.mono HBB_19.out.size))
    have HM_20 := Lib.hid (HM_19.out.trans (b20.mono HM_19.out.size))
    clear b20 HB1_19 PT_19 A6_19 A14_19 GT_19 X1_19 HL0_19 HBB_19 HM_19
    clear GT_20
    clear HM_20
    clear X1_20
    cases two
    · go_wp2_with fail
      go_ret
      exact ⟨rfl, HBB_20.out⟩
    · obtain ⟨hlE, hlE1, hm1, hm2, hdec⟩ := HP2.out rfl
      have Hdec := Lib.hid hdec
      clear hdec
      have op0 := PT_20.out.c0
      have op1 := PT_20.out.c1
      have op2 := PT_20.out.lt
      go_wp2_with fail
      clear op0 op1 op2
      refine (H7.out _ HL0_20.out).mono ?_
      rintro e w21 ⟨v21, rfl, o21, b21⟩
      obtain ⟨aA, cA, rfl⟩ := o21.shape
      have HB1_21 := Lib.hid (HB1_20.out.below b21)
      have PT_21 := Lib.hid (PT_20.out.below b21)
      have A6_21 := Lib.hid (A6_20.out.below b21)
      have A14_21 := Lib.hid (A14_20.out.below b21)
      have HL0_21 := Lib.hid (HL0_20.out.trans (b21.mono HL0_20.out.size))
      have HBB_21 := Lib.hid (HBB_20.out.trans (b21.mono HBB_20.out.size))
      clear b21 HB1_20 PT_20 A6_20 A14_20 HL0_20 HBB_20
      have EA_21 := Lib.hid (o21)
      clear o21
      have op0 := PT_21.out.c0
      have op1 := PT_21.out.c1
      have op2 := PT_21.out.lt
      go_wp2_with fail
      clear op0 op1 op2
      refine (H8.out _ HL0_21.out).mono ?_
      rintro e w22 ⟨v22, rfl, o22, b22⟩
      obtain ⟨aB, cB, rfl⟩ := o22.shape
      have HB1_22 := Lib.hid (HB1_21.out.below b22)
      have PT_22 := Lib.hid (PT_21.out.below b22)
      have A6_22 := Lib.hid (A6_21.out.below b22)
      have A14_22 := Lib.hid (A14_21.out.below b22)
      have EA_22 := Lib.hid (EA_21.out.below b22)
      have HL0_22 := Lib.hid (HL0_21.out.trans (b22.mono HL0_21.out.size))
      have HBB_22 := Lib.hid (HBB_21.out.trans (b22.mono HBB_21.out.size))
      clear b22 HB1_21 PT_21 A6_21 A14_21 EA_21 HL0_21 HBB_21
      have EB_22 := Lib.hid (o22)
      clear o22
      go_upto_region 31 with fail
      obtain ⟨bA, oA, rfl, hbA, hcA⟩ := EA_22.out.ints.2 (by omega)
      have ca1 := (hcA 0 (by omega)).1
      have ca2 := (hcA 0 (by omega)).2
      rw [Nat.zero_mul, Nat.add_zero] at ca1 ca2
      clear hcA
      have hnA : 0 < env.length := by omega
      have cs1 := A14_22.out.c0
      have cs2 := A14_22.out.c1
      have cw1 := A6_22.out.c0
      have cw2 := A6_22.out.c1
      refine wp_region_noPanic ?_
      refine wp_region_held_drew (S := (fun W' => ((W'.cell? ⟨bA, oA, none⟩ = some (.int .i64 (Fr.at1 env 0)) ∧ W'.cell? ⟨bA, oA + 1, none⟩ = some (.int .i64 (Fr.at2 env 0))) ∧ W'.cell? ⟨w10.heap.size, 0, none⟩ = some (.int .i64 Sn) ∧ W'.cell? ⟨w10.heap.size, 1, none⟩ = some (.int .i64 Sd)) ∧ W'.cell? ⟨w3.heap.size, 0, none⟩ = some (.int .i64 Bn) ∧ W'.cell? ⟨w3.heap.size, 1, none⟩ = some (.int .i64 Bd))) (by kernel_rfl) ?_ (fun hHeld0 => ?_)
      · (try dsimp only); first | assumption | exact ⟨⟨⟨ca1, ca2⟩, cs1, cs2⟩, cw1, cw2⟩
      refine takeH (i := 0) (oi := _) (v := ?_) rfl (by kernel_rfl) (by kernel_rfl) (by kernel_rfl) (fun _ _ _ h => h) (Or.inl ⟨by rfl, ?_⟩) (by assumption) ?_
      rotate_left
      · first | (intro w hSw; (try dsimp only at hSw); go_simp; done) | (intro w hSw; (try dsimp only at hSw); go_simp; with_reducible rfl)
      (try simp only [Act.put, List.setIfInBounds_toArray, List.set_cons_zero, List.set_cons_succ])
      refine takeH (i := 1) (oi := _) (v := ?_) rfl (by kernel_rfl) (by kernel_rfl) (by kernel_rfl) (fun _ _ _ h => h) (Or.inl ⟨by rfl, ?_⟩) (by assumption) ?_
      rotate_left
      · first | (intro w hSw; (try dsimp only at hSw); go_simp; done) | (intro w hSw; (try dsimp only at hSw); go_simp; with_reducible rfl)
      (try simp only [Act.put, List.setIfInBounds_toArray, List.set_cons_zero, List.set_cons_succ])
      refine takeH (i := 2) (oi := _) (v := ?_) rfl (by kernel_rfl) (by kernel_rfl) (by kernel_rfl) (fun _ _ _ h => h) (Or.inl ⟨by rfl, ?_⟩) (by assumption) ?_
      rotate_left
      · first | (intro w hSw; (try dsimp only at hSw); go_simp; done) | (intro w hSw; (try dsimp only at hSw); go_simp; with_reducible rfl)
      (try simp only [Act.put, List.setIfInBounds_toArray, List.set_cons_zero, List.set_cons_succ])
      refine takeH (i := 3) (oi := _) (v := ?_) rfl (by kernel_rfl) (by kernel_rfl) (by kernel_rfl) (fun _ _ _ h => h) (Or.inl ⟨by rfl, ?_⟩) (by assumption) ?_
      rotate_left
      · first | (intro w hSw; (try dsimp only at hSw); go_simp; done) | (intro w hSw; (try dsimp only at hSw); go_simp; with_reducible rfl)
      (try simp only [Act.put, List.setIfInBounds_toArray, List.set_cons_zero, List.set_cons_succ])
      refine takeH (i := 4) (oi := _) (v := ?_) rfl (by kernel_rfl) (by kernel_rfl) (by kernel_rfl) (fun _ _ _ h => h) (Or.inl ⟨by rfl, ?_⟩) (by assumption) ?_
      rotate_left
      · first | (intro w hSw; (try dsimp only at hSw); go_simp; done) | (intro w hSw; (try dsimp only at hSw); go_simp; with_reducible rfl)
      (try simp only [Act.put, List.setIfInBounds_toArray, List.set_cons_zero, List.set_cons_succ])
      refine takeH (i := 5) (oi := _) (v := ?_) rfl (by kernel_rfl) (by kernel_rfl) (by kernel_rfl) (fun _ _ _ h => h) (Or.inl ⟨by rfl, ?_⟩) (by assumption) ?_
      rotate_left
      · first | (intro w hSw; (try dsimp only at hSw); go_simp; done) | (intro w hSw; (try dsimp only at hSw); go_simp; with_reducible rfl)
      (try simp only [Act.put, List.setIfInBounds_toArray, List.set_cons_zero, List.set_cons_succ])
      refine takeH (i := 6) (oi := _) (v := ?_) rfl (by kernel_rfl) (by kernel_rfl) (by kernel_rfl) (fun _ _ _ h => h) (Or.inl ⟨by rfl, ?_⟩) (by assumption) ?_
      rotate_left
      · first | (intro w hSw; (try dsimp only at hSw); go_simp; done) | (intro w hSw; (try dsimp only at hSw); go_simp; with_reducible rfl)
      (try simp only [Act.put, List.setIfInBounds_toArray, List.set_cons_zero, List.set_cons_succ])
      refine takeH (i := 7) (oi := _) (v := ?_) rfl (by kernel_rfl) (by kernel_rfl) (by kernel_rfl) (fun _ _ _ h => h) (Or.inl ⟨by rfl, ?_⟩) (by assumption) ?_
      rotate_left
      · first | (intro w hSw; (try dsimp only at hSw); go_simp; done) | (intro w hSw; (try dsimp only at hSw); go_simp; with_reducible rfl)
      (try simp only [Act.put, List.setIfInBounds_toArray, List.set_cons_zero, List.set_cons_succ])
      refine takeH (i := 8) (oi := _) (v := ?_) rfl (by kernel_rfl) (by kernel_rfl) (by kernel_rfl) (fun _ _ _ h => h) (Or.inl ⟨by rfl, ?_⟩) (by assumption) ?_
      rotate_left
      · first | (intro w hSw; (try dsimp only at hSw); go_simp; done) | (intro w hSw; (try dsimp only at hSw); go_simp; with_reducible rfl)
      (try simp only [Act.put, List.setIfInBounds_toArray, List.set_cons_zero, List.set_cons_succ])
      refine wpAnyH_ready (rs := [9]) (by kernel_rfl) (by simp) ?_
      refine consH rfl (fun Kq hKq => ?_)
      go_simp
      refine (laws_rFracs _ _ _ _ _ env _ (by omega) (EA_22.out.below (Below.refl _ _).drew).ints (EB_22.out.below (Below.refl _ _).drew).ints).mono ?_
      rintro e wq ⟨rfl, bq⟩
      have bq2 := (Below.refl w22.heap.size w22).drew.trans bq
      have hSS := And.intro (And.intro (And.intro (cell_up bq2 ca1) (cell_up bq2 ca2)) (And.intro (cell_up bq2 cs1) (cell_up bq2 cs2))) (And.intro (cell_up bq2 cw1) (cell_up bq2 cw2))
      clear bq
      refine hKq.out _ _ ?_ (fun hHeld1 => ?_)
      · (try dsimp only); first | assumption | exact ⟨⟨⟨ca1, ca2⟩, cs1, cs2⟩, cw1, cw2⟩
      clear hKq Kq
      (try simp only [Act.put, List.setIfInBounds_toArray, List.set_cons_zero, List.set_cons_succ])
      clear hHeld0
      refine takeH (i := 10) (oi := _) (v := ?_) rfl (by kernel_rfl) (by kernel_rfl) (by kernel_rfl) (fun _ _ _ h => h) (Or.inl ⟨by rfl, ?_⟩) (by assumption) ?_
      rotate_left
      · first | (intro w hSw; (try dsimp only at hSw); go_simp; done) | (intro w hSw; (try dsimp only at hSw); go_simp; with_reducible rfl)
      (try simp only [Act.put, List.setIfInBounds_toArray, List.set_cons_zero, List.set_cons_succ])
      refine takeH (i := 11) (oi := _) (v := ?_) rfl (by kernel_rfl) (by kernel_rfl) (by kernel_rfl) (fun _ _ _ h => h) (Or.inl ⟨by rfl, ?_⟩) (by assumption) ?_
      rotate_left
      · first | (intro w hSw; (try dsimp only at hSw); go_simp; done) | (intro w hSw; (try dsimp only at hSw); go_simp; with_reducible rfl)
      (try simp only [Act.put, List.setIfInBounds_toArray, List.set_cons_zero, List.set_cons_succ])
      refine takeH (i := 12) (oi := _) (v := ?_) rfl (by kernel_rfl) (by kernel_rfl) (by kernel_rfl) (fun _ _ _ h => h) (Or.inl ⟨by rfl, ?_⟩) (by assumption) ?_
      rotate_left
      · first | (intro w hSw; (try dsimp only at hSw); go_simp; done) | (intro w hSw; (try dsimp only at hSw); go_simp; with_reducible rfl)
      (try simp only [Act.put, List.setIfInBounds_toArray, List.set_cons_zero, List.set_cons_succ])
      refine takeH (i := 13) (oi := _) (v := ?_) rfl (by kernel_rfl) (by kernel_rfl) (by kernel_rfl) (fun _ _ _ h => h) (Or.inl ⟨by rfl, ?_⟩) (by assumption) ?_
      rotate_left
      · first | (intro w hSw; (try dsimp only at hSw); go_simp; done) | (intro w hSw; (try dsimp only at hSw); go_simp; with_reducible rfl)
      (try simp only [Act.put, List.setIfInBounds_toArray, List.set_cons_zero, List.set_cons_succ])
      refine takeH (i := 14) (oi := _) (v := ?_) rfl (by kernel_rfl) (by kernel_rfl) (by kernel_rfl) (fun _ _ _ h => h) (Or.inl ⟨by rfl, ?_⟩) (by assumption) ?_
      rotate_left
      · first | (intro w hSw; (try dsimp only at hSw); go_simp; done) | (intro w hSw; (try dsimp only at hSw); go_simp; with_reducible rfl)
      (try simp only [Act.put, List.setIfInBounds_toArray, List.set_cons_zero, List.set_cons_succ])
      refine takeH (i := 15) (oi := _) (v := ?_) rfl (by kernel_rfl) (by kernel_rfl) (by kernel_rfl) (fun _ _ _ h => h) (Or.inl ⟨by rfl, ?_⟩) (by assumption) ?_
      rotate_left
      · first | (intro w hSw; (try dsimp only at hSw); go_simp; done) | (intro w hSw; (try dsimp only at hSw); go_simp; with_reducible rfl)
      (try simp only [Act.put, List.setIfInBounds_toArray, List.set_cons_zero, List.set_cons_succ])
      refine takeH (i := 16) (oi := _) (v := ?_) rfl (by kernel_rfl) (by kernel_rfl) (by kernel_rfl) (fun _ _ _ h => h) (Or.inl ⟨by rfl, ?_⟩) (by assumption) ?_
      rotate_left
      · first | (intro w hSw; (try dsimp only at hSw); go_simp; done) | (intro w hSw; (try dsimp only at hSw); go_simp; with_reducible rfl)
      (try simp only [Act.put, List.setIfInBounds_toArray, List.set_cons_zero, List.set_cons_succ])
      refine wpAnyH_ready (rs := [17]) (by kernel_rfl) (by simp) ?_
      refine consH rfl (fun Kq hKq => ?_)
      go_simp
      refine (laws_rLess _ _ _ _ _ hm1 hm2).mono ?_
      rintro e wz ⟨rfl, bz⟩
      rw [Hdec.out]
      have bz2 := bq2.trans (bz.mono bq2.size)
      have hSS2 := And.intro (And.intro (And.intro (cell_up bz2 ca1) (cell_up bz2 ca2)) (And.intro (cell_up bz2 cs1) (cell_up bz2 cs2))) (And.intro (cell_up bz2 cw1) (cell_up bz2 cw2))
      clear bz
      refine hKq.out _ _ ?_ (fun hHeld2 => ?_)
      · (try dsimp only); first | assumption | exact ⟨⟨⟨ca1, ca2⟩, cs1, cs2⟩, cw1, cw2⟩
      clear hKq Kq
      (try simp only [Act.put, List.setIfInBounds_toArray, List.set_cons_zero, List.set_cons_succ])
      clear hHeld1
      refine takeH (i := 18) (oi := _) (v := ?_) rfl (by kernel_rfl) (by kernel_rfl) (by kernel_rfl) (fun _ _ _ h => h) (Or.inl ⟨by rfl, ?_⟩) (by assumption) ?_
      rotate_left
      · first | (intro w hSw; (try dsimp only at hSw); go_simp; done) | (intro w hSw; (try dsimp only at hSw); go_simp; with_reducible rfl)
      (try simp only [Act.put, List.setIfInBounds_toArray, List.set_cons_zero, List.set_cons_succ])
      refine wpAnyH_done (by kernel_rfl) ?_ _
      refine NoPanic.normal ?_
      have BZ := Lib.hid (HBB_22.out.trans (bz2.mono HBB_22.out.size))
      have da1 := cell_up bz2 ca1
      have da2 := cell_up bz2 ca2
      have dw1 := cell_up bz2 cw1
      have dw2 := cell_up bz2 cw2
      clear hSS hSS2 bz2 bq2 ca1 ca2 cs1 cs2 cw1 cw2 Hdec hm1 hm2
      cases ok
      · go_upto_region 33 with fail
        refine wp_region_noPanic ?_
        refine wp_region_held_drew (S := (fun _ => True)) (by kernel_rfl) ?_ (fun hHeld0 => ?_)
        · trivial
        refine takeH (i := 0) (oi := _) (v := ?_) rfl (by kernel_rfl) (by kernel_rfl) (by kernel_rfl) (fun _ _ _ h => h) (Or.inl ⟨by rfl, ?_⟩) (by assumption) ?_
        rotate_left
        · first | (intro w hSw; (try dsimp only at hSw); go_simp; done) | (intro w hSw; (try dsimp only at hSw); go_simp; with_reducible rfl)
        (try simp only [Act.put, List.setIfInBounds_toArray, List.set_cons_zero, List.set_cons_succ])
        refine takeH (i := 1) (oi := _) (v := ?_) rfl (by kernel_rfl) (by kernel_rfl) (by kernel_rfl) (fun _ _ _ h => h) (Or.inl ⟨by rfl, ?_⟩) (by assumption) ?_
        rotate_left
        · first | (intro w hSw; (try dsimp only at hSw); go_simp; done) | (intro w hSw; (try dsimp only at hSw); go_simp; with_reducible rfl)
        (try simp only [Act.put, List.setIfInBounds_toArray, List.set_cons_zero, List.set_cons_succ])
        refine takeH (i := 2) (oi := _) (v := ?_) rfl (by kernel_rfl) (by kernel_rfl) (by kernel_rfl) (fun _ _ _ h => h) (Or.inl ⟨by rfl, ?_⟩) (by assumption) ?_
        rotate_left
        · first | (intro w hSw; (try dsimp only at hSw); go_simp; done) | (intro w hSw; (try dsimp only at hSw); go_simp; with_reducible rfl)
        (try simp only [Act.put, List.setIfInBounds_toArray, List.set_cons_zero, List.set_cons_succ])
        refine takeH (i := 3) (oi := _) (v := undef) rfl (by kernel_rfl) (by kernel_rfl) (by kernel_rfl) (fun _ _ _ h => h) (Or.inr ⟨by rfl, rfl⟩) (by assumption) ?_
        (try simp only [Act.put, List.setIfInBounds_toArray, List.set_cons_zero, List.set_cons_succ])
        refine takeH (i := 4) (oi := _) (v := undef) rfl (by kernel_rfl) (by kernel_rfl) (by kernel_rfl) (fun _ _ _ h => h) (Or.inr ⟨by rfl, rfl⟩) (by assumption) ?_
        (try simp only [Act.put, List.setIfInBounds_toArray, List.set_cons_zero, List.set_cons_succ])
        refine takeH (i := 5) (oi := _) (v := undef) rfl (by kernel_rfl) (by kernel_rfl) (by kernel_rfl) (fun _ _ _ h => h) (Or.inr ⟨by rfl, rfl⟩) (by assumption) ?_
        (try simp only [Act.put, List.setIfInBounds_toArray, List.set_cons_zero, List.set_cons_succ])
        refine takeH (i := 6) (oi := _) (v := undef) rfl (by kernel_rfl) (by kernel_rfl) (by kernel_rfl) (fun _ _ _ h => h) (Or.inr ⟨by rfl, rfl⟩) (by assumption) ?_
        (try simp only [Act.put, List.setIfInBounds_toArray, List.set_cons_zero, List.set_cons_succ])
        refine takeH (i := 7) (oi := _) (v := undef) rfl (by kernel_rfl) (by kernel_rfl) (by kernel_rfl) (fun _ _ _ h => h) (Or.inr ⟨by rfl, rfl⟩) (by assumption) ?_
        (try simp only [Act.put, List.setIfInBounds_toArray, List.set_cons_zero, List.set_cons_succ])
        refine takeH (i := 8) (oi := _) (v := undef) rfl (by kernel_rfl) (by kernel_rfl) (by kernel_rfl) (fun _ _ _ h => h) (Or.inr ⟨by rfl, rfl⟩) (by assumption) ?_
        (try simp only [Act.put, List.setIfInBounds_toArray, List.set_cons_zero, List.set_cons_succ])
        refine takeH (i := 9) (oi := _) (v := ?_) rfl (by kernel_rfl) (by kernel_rfl) (by kernel_rfl) (fun _ _ _ h => h) (Or.inl ⟨by rfl, ?_⟩) (by assumption) ?_
        rotate_left
        · first | (intro w hSw; (try dsimp only at hSw); go_simp; done) | (intro w hSw; (try dsimp only at hSw); go_simp; with_reducible rfl)
        (try simp only [Act.put, List.setIfInBounds_toArray, List.set_cons_zero, List.set_cons_succ])
        refine takeH (i := 10) (oi := _) (v := ?_) rfl (by kernel_rfl) (by kernel_rfl) (by kernel_rfl) (fun _ _ _ h => h) (Or.inl ⟨by rfl, ?_⟩) (by assumption) ?_
        rotate_left
        · first | (intro w hSw; (try dsimp only at hSw); go_simp; done) | (intro w hSw; (try dsimp only at hSw); go_simp; with_reducible rfl)
        (try simp only [Act.put, List.setIfInBounds_toArray, List.set_cons_zero, List.set_cons_succ])
        refine wpAnyH_done (by kernel_rfl) ?_ _
        refine NoPanic.normal ?_
        go_wp2_with fail
        go_ret
        exact ⟨rfl, BZ.out.drew⟩
      · obtain ⟨hm1, hm2, hdec⟩ := HP3.out rfl
        have Hdec := Lib.hid hdec
        clear hdec
        go_upto_region 33 with fail
        refine wp_region_noPanic ?_
        refine wp_region_held_drew (S := (fun W' => (W'.cell? ⟨bA, oA, none⟩ = some (.int .i64 (Fr.at1 env 0)) ∧ W'.cell? ⟨bA, oA + 1, none⟩ = some (.int .i64 (Fr.at2 env 0))) ∧ W'.cell? ⟨w3.heap.size, 0, none⟩ = some (.int .i64 Bn) ∧ W'.cell? ⟨w3.heap.size, 1, none⟩ = some (.int .i64 Bd))) (by kernel_rfl) ?_ (fun hHeld0 => ?_)
        · (try dsimp only); first | assumption | exact ⟨⟨da1, da2⟩, dw1, dw2⟩
        refine takeH (i := 0) (oi := _) (v := ?_) rfl (by kernel_rfl) (by kernel_rfl) (by kernel_rfl) (fun _ _ _ h => h) (Or.inl ⟨by rfl, ?_⟩) (by assumption) ?_
        rotate_left
        · first | (intro w hSw; (try dsimp only at hSw); go_simp; done) | (intro w hSw; (try dsimp only at hSw); go_simp; with_reducible rfl)
        (try simp only [Act.put, List.setIfInBounds_toArray, List.set_cons_zero, List.set_cons_succ])
        refine takeH (i := 1) (oi := _) (v := ?_) rfl (by kernel_rfl) (by kernel_rfl) (by kernel_rfl) (fun _ _ _ h => h) (Or.inl ⟨by rfl, ?_⟩) (by assumption) ?_
        rotate_left
        · first | (intro w hSw; (try dsimp only at hSw); go_simp; done) | (intro w hSw; (try dsimp only at hSw); go_simp; with_reducible rfl)
        (try simp only [Act.put, List.setIfInBounds_toArray, List.set_cons_zero, List.set_cons_succ])
        refine takeH (i := 2) (oi := _) (v := ?_) rfl (by kernel_rfl) (by kernel_rfl) (by kernel_rfl) (fun _ _ _ h => h) (Or.inl ⟨by rfl, ?_⟩) (by assumption) ?_
        rotate_left
        · first | (intro w hSw; (try dsimp only at hSw); go_simp; done) | (intro w hSw; (try dsimp only at hSw); go_simp; with_reducible rfl)
        (try simp only [Act.put, List.setIfInBounds_toArray, List.set_cons_zero, List.set_cons_succ])
        refine takeH (i := 3) (oi := _) (v := ?_) rfl (by kernel_rfl) (by kernel_rfl) (by kernel_rfl) (fun _ _ _ h => h) (Or.inl ⟨by rfl, ?_⟩) (by assumption) ?_
        rotate_left
        · first | (intro w hSw; (try dsimp only at hSw); go_simp; done) | (intro w hSw; (try dsimp only at hSw); go_simp; with_reducible rfl)
        (try simp only [Act.put, List.setIfInBounds_toArray, List.set_cons_zero, List.set_cons_succ])
        refine takeH (i := 4) (oi := _) (v := ?_) rfl (by kernel_rfl) (by kernel_rfl) (by kernel_rfl) (fun _ _ _ h => h) (Or.inl ⟨by rfl, ?_⟩) (by assumption) ?_
        rotate_left
        · first | (intro w hSw; (try dsimp only at hSw); go_simp; done) | (intro w hSw; (try dsimp only at hSw); go_simp; with_reducible rfl)
        (try simp only [Act.put, List.setIfInBounds_toArray, List.set_cons_zero, List.set_cons_succ])
        refine takeH (i := 5) (oi := _) (v := ?_) rfl (by kernel_rfl) (by kernel_rfl) (by kernel_rfl) (fun _ _ _ h => h) (Or.inl ⟨by rfl, ?_⟩) (by assumption) ?_
        rotate_left
        · first | (intro w hSw; (try dsimp only at hSw); go_simp; done) | (intro w hSw; (try dsimp only at hSw); go_simp; with_reducible rfl)
        (try simp only [Act.put, List.setIfInBounds_toArray, List.set_cons_zero, List.set_cons_succ])
        refine takeH (i := 6) (oi := _) (v := ?_) rfl (by kernel_rfl) (by kernel_rfl) (by kernel_rfl) (fun _ _ _ h => h) (Or.inl ⟨by rfl, ?_⟩) (by assumption) ?_
        rotate_left
        · first | (intro w hSw; (try dsimp only at hSw); go_simp; done) | (intro w hSw; (try dsimp only at hSw); go_simp; with_reducible rfl)
        (try simp only [Act.put, List.setIfInBounds_toArray, List.set_cons_zero, List.set_cons_succ])
        refine wpAnyH_ready (rs := [7]) (by kernel_rfl) (by simp) ?_
        refine consH rfl (fun Kq hKq => ?_)
        go_simp
        refine (laws_rLess _ _ _ _ _ hm1 hm2).mono ?_
        rintro e wy ⟨rfl, bY⟩
        rw [Hdec.out]
        have by2 := (Below.refl wz.heap.size wz).drew.trans bY
        have hSS := And.intro (And.intro (cell_up by2 da1) (cell_up by2 da2)) (And.intro (cell_up by2 dw1) (cell_up by2 dw2))
        clear bY
        refine hKq.out _ _ ?_ (fun hHeld1 => ?_)
        · (try dsimp only); first | assumption | exact ⟨⟨da1, da2⟩, dw1, dw2⟩
        clear hKq Kq
        (try simp only [Act.put, List.setIfInBounds_toArray, List.set_cons_zero, List.set_cons_succ])
        clear hHeld0
        refine takeH (i := 8) (oi := _) (v := ?_) rfl (by kernel_rfl) (by kernel_rfl) (by kernel_rfl) (fun _ _ _ h => h) (Or.inl ⟨by rfl, ?_⟩) (by assumption) ?_
        rotate_left
        · first | (intro w hSw; (try dsimp only at hSw); go_simp; done) | (intro w hSw; (try dsimp only at hSw); go_simp; with_reducible rfl)
        (try simp only [Act.put, List.setIfInBounds_toArray, List.set_cons_zero, List.set_cons_succ])
        refine takeH (i := 9) (oi := _) (v := ?_) rfl (by kernel_rfl) (by kernel_rfl) (by kernel_rfl) (fun _ _ _ h => h) (Or.inl ⟨by rfl, ?_⟩) (by assumption) ?_
        rotate_left
        · first | (intro w hSw; (try dsimp only at hSw); go_simp; done) | (intro w hSw; (try dsimp only at hSw); go_simp; with_reducible rfl)
        (try simp only [Act.put, List.setIfInBounds_toArray, List.set_cons_zero, List.set_cons_succ])
        refine takeH (i := 10) (oi := _) (v := ?_) rfl (by kernel_rfl) (by kernel_rfl) (by kernel_rfl) (fun _ _ _ h => h) (Or.inl ⟨by rfl, ?_⟩) (by assumption) ?_
        rotate_left
        · first | (intro w hSw; (try dsimp only at hSw); go_simp; done) | (intro w hSw; (try dsimp only at hSw); go_simp; with_reducible rfl)
        (try simp only [Act.put, List.setIfInBounds_toArray, List.set_cons_zero, List.set_cons_succ])
        refine wpAnyH_done (by kernel_rfl) ?_ _
        refine NoPanic.normal ?_
        go_wp2_with fail
        go_ret
        exact ⟨rfl, BZ.out.trans (by2.mono BZ.out.size)⟩
end Go.Proofs.Ytnbomleieianoaa.fnBounds
