/- Contracts and plain laws for the statement FnEnvelopes, part 23. No conditions but those stated in each. -/
import Derived.Test.YtnbomleieianoaaGreatBnFnEnvelopes18
import Derived.Test.YtnbomleieianoaaGreatBnFnEnvelopes13
import Derived.Test.YtnbomleieianoaaGreatBnFnEnvelopes22
import Derived.Test.YtnbomleieianoaaGreatBnFnEnvelopes16
import Derived.Test.YtnbomleieianoaaGreatBnFnEnvelopes14
import Derived.Test.YtnbomleieianoaaGreatBnFnEnvelopes11
import Derived.Test.YtnbomleieianoaaGreatBnFnEnvelopes15
import Derived.Test.YtnbomleieianoaaGreatBnFnEnvelopes19
import Derived.Deep.DeepCutAuto
/- The walk through the law FnEnvelopes: it returns true. No conditions but that the argument can be read. -/
namespace Go.Proofs.YtnbomleieianoaaGreat.fnEnvelopes
open Go.RowKit
set_option linter.unusedVariables false
set_option maxRecDepth 100000 in
set_option maxHeartbeats 4000000 in
theorem walk (a : Option Addr) (n c : Nat) (w : World) (hm : n ≤ maxLen) (hc : n ≤ c ∧ c ≤ maxLen ∧ (a = none → c = 0)) (h : Bytes0 w a n) :
    Calls Tryz.prog 4 #[.slice a n c] w fun e w' => e = .returned (.bool true) ∧ Below w.heap.size w w' := by
  clear hm hc
  by_cases hbig : (n : Int) > 65536
  · go_enter Tryz.func4, Tryz.ntmps4
    go_wp2_with (go_at_call 29; refine (laws_rBig _ _ _ _).mono ?_; rintro e w' ⟨rfl, rfl⟩; rw [decide_eq_true hbig])
    go_ret
    exact ⟨rfl, Below.refl _ _⟩
  · have HB := Lib.hid (h.few (by omega))
    clear h
    go_enter Tryz.func4, Tryz.ntmps4
    go_wp2_with (go_at_call 29; refine (laws_rBig _ _ _ _).mono ?_; rintro e w' ⟨rfl, rfl⟩; rw [decide_eq_false hbig])
    refine (spec_DrawRuleMean _ _ _ _ HB.out).mono ?_
    rintro e w1 ⟨⟨v, rfl, aP, nP, cP, aW, nW, cW, ps, ws, vL, vR, rfl, hD, oL, oR⟩, b1⟩
    obtain ⟨pay, oL, hpl⟩ := oL
    obtain ⟨aL, cL, rfl⟩ := oL.shape
    obtain ⟨nL, hnL⟩ : ∃ z, z = pay.length := ⟨_, rfl⟩
    rw [← hnL] at oL hpl ⊢
    obtain ⟨aR, nR, cR, rule, rfl, hIR, hrl, hcR, -⟩ := oR
    have HBB := Lib.hid b1
    have HB1 := Lib.hid (HB.out.below b1)
    have hT := hD.tre
    have hIL := oL.ints
    have hcL := oL.cap.2.1
    obtain ⟨ok, hok⟩ : ∃ z, z = rmB ps ws pay rule := ⟨_, rfl⟩
    obtain ⟨one, hone⟩ : ∃ z, z = paysB ps ws pay := ⟨_, rfl⟩
    obtain ⟨Mn, hMn⟩ : ∃ z, z = rmN ps ws pay rule := ⟨_, rfl⟩
    obtain ⟨Md, hMd⟩ : ∃ z, z = rmD ps ws pay rule := ⟨_, rfl⟩
    obtain ⟨env, henv⟩ : ∃ z, z = envV ps ws pay := ⟨_, rfl⟩
    obtain ⟨En, hEn⟩ : ∃ z, z = Fr.at1 env 0 := ⟨_, rfl⟩
    obtain ⟨Ed, hEd⟩ : ∃ z, z = Fr.at2 env 0 := ⟨_, rfl⟩
    obtain ⟨best, hbest⟩ : ∃ z, z = bestV ps ws pay := ⟨_, rfl⟩
    obtain ⟨late, hlate⟩ : ∃ z, z = lateV ps ws pay := ⟨_, rfl⟩
    obtain ⟨least, hleast⟩ : ∃ z, z = lcV ps ws pay := ⟨_, rfl⟩
    obtain ⟨nb, hnb⟩ : ∃ z, z = noLV ps ws (bestV ps ws pay) rule := ⟨_, rfl⟩
    obtain ⟨tb, htb⟩ : ∃ z, z = twoB ps ws (bestV ps ws pay) rule := ⟨_, rfl⟩
    obtain ⟨eqq, heqq⟩ : ∃ z, z = (Mn == En && Md == Ed) := ⟨_, rfl⟩
    have H1 : Hid (∀ W, Below w1.heap.size w1 W → Calls Tryz.prog 31 #[.agg #[.slice aP nP cP, .slice aW nW cW], .slice aL nL cL, .slice aR nR cR] W fun e w' => e = .returned (.tuple #[.agg #[.int .i64 Mn, .int .i64 Md], .bool ok]) ∧ Below W.heap.size W w') := Lib.hid fun W hW => by
      rw [hok, hMn, hMd]; exact impl_RuleMean _ _ _ _ _ _ ps ws _ _ _ pay _ _ _ rule W (hT.below hW) (hIL.below hW) hcL (by omega) (hIR.below hW) hcR (by omega)
    have H2 : Hid (∀ W, Below w1.heap.size w1 W → Calls Tryz.prog 32 #[.agg #[.slice aP nP cP, .slice aW nW cW], .slice aL nL cL, .slice aR nR cR] W fun e w' => e = .returned (.tuple #[.agg #[.int .i64 Mn, .int .i64 Md], .bool ok]) ∧ Below W.heap.size W w') := Lib.hid fun W hW => by
      rw [hok, hMn, hMd]; exact spec_RuleMean _ _ _ _ _ _ ps ws _ _ _ pay _ _ _ rule W (hT.below hW) (hIL.below hW) hcL (by omega) (hIR.below hW) hcR (by omega)
    have H3 : Hid (∀ W, Below w1.heap.size w1 W → Calls Tryz.prog 33 #[.agg #[.slice aP nP cP, .slice aW nW cW], .slice aL nL cL] W fun e w' => ∃ v, e = .returned (.tuple #[v, .bool one]) ∧ Fr.Own w' W.heap.size v env ∧ Below W.heap.size W w') := Lib.hid fun W hW => by
      rw [hone, henv]; exact impl_EnvelopeOf _ _ _ _ _ _ ps ws _ _ _ pay W (hT.below hW) (hIL.below hW) hcL (by omega)
    have H4 : Hid (∀ W, Below w1.heap.size w1 W → Calls Tryz.prog 34 #[.agg #[.slice aP nP cP, .slice aW nW cW], .slice aL nL cL] W fun e w' => ∃ v, e = .returned (.tuple #[v, .bool one]) ∧ Fr.Own w' W.heap.size v env ∧ Below W.heap.size W w') := Lib.hid fun W hW => by
      rw [hone, henv]; exact spec_EnvelopeOf _ _ _ _ _ _ ps ws _ _ _ pay W (hT.below hW) (hIL.below hW) hcL (by omega)
    have H5 : Hid (∀ W, Below w1.heap.size w1 W → Calls Tryz.prog 36 #[.agg #[.slice aP nP cP, .slice aW nW cW], .slice aL nL cL] W fun e w' => ∃ v, e = .returned (.tuple #[v, .bool one]) ∧ Own w' W.heap.size v best ∧ Below W.heap.size W w') := Lib.hid fun W hW => by
      rw [hone, hbest]; exact impl_BestRule _ _ _ _ _ _ ps ws _ _ _ pay W (hT.below hW) (hIL.below hW) hcL (by omega)
    have H6 : Hid (∀ W, Below w1.heap.size w1 W → Calls Tryz.prog 37 #[.agg #[.slice aP nP cP, .slice aW nW cW], .slice aL nL cL] W fun e w' => ∃ v, e = .returned (.tuple #[v, .bool one]) ∧ Own w' W.heap.size v best ∧ Below W.heap.size W w') := Lib.hid fun W hW => by
      rw [hone, hbest]; exact spec_BestRule _ _ _ _ _ _ ps ws _ _ _ pay W (hT.below hW) (hIL.below hW) hcL (by omega)
    have H7 : Hid (∀ W, Below w1.heap.size w1 W → Calls Tryz.prog 39 #[.agg #[.slice aP nP cP, .slice aW nW cW], .slice aL nL cL] W fun e w' => ∃ v, e = .returned (.tuple #[v, .bool one]) ∧ Own w' W.heap.size v late ∧ Below W.heap.size W w') := Lib.hid fun W hW => by
      rw [hone, hlate]; exact impl_LatestRule _ _ _ _ _ _ ps ws _ _ _ pay W (hT.below hW) (hIL.below hW) hcL (by omega)
    have H8 : Hid (∀ W, Below w1.heap.size w1 W → Calls Tryz.prog 40 #[.agg #[.slice aP nP cP, .slice aW nW cW], .slice aL nL cL] W fun e w' => ∃ v, e = .returned (.tuple #[v, .bool one]) ∧ Own w' W.heap.size v late ∧ Below W.heap.size W w') := Lib.hid fun W hW => by
      rw [hone, hlate]; exact spec_LatestRule _ _ _ _ _ _ ps ws _ _ _ pay W (hT.below hW) (hIL.below hW) hcL (by omega)
    have H9 : Hid (∀ W, Below w1.heap.size w1 W → Calls Tryz.prog 41 #[.agg #[.slice aP nP cP, .slice aW nW cW], .slice aL nL cL] W fun e w' => ∃ v, e = .returned (.tuple #[v, .bool one]) ∧ Own w' W.heap.size v least ∧ Below W.heap.size W w') := Lib.hid fun W hW => by
      rw [hone, hleast]; exact impl_LeastCaps _ _ _ _ _ _ ps ws _ _ _ pay W (hT.below hW) (hIL.below hW) hcL (by omega)
    have H10 : Hid (∀ W, Below w1.heap.size w1 W → Calls Tryz.prog 42 #[.agg #[.slice aP nP cP, .slice aW nW cW], .slice aL nL cL] W fun e w' => ∃ v, e = .returned (.tuple #[v, .bool one]) ∧ Own w' W.heap.size v least ∧ Below W.heap.size W w') := Lib.hid fun W hW => by
      rw [hone, hleast]; exact spec_LeastCaps _ _ _ _ _ _ ps ws _ _ _ pay W (hT.below hW) (hIL.below hW) hcL (by omega)
    have H11 : Hid (one = true → ∀ W a n c, Below w1.heap.size w1 W → Ints W a n best → (a = none → c = 0) → n ≤ 1048576 → Calls Tryz.prog 31 #[.agg #[.slice aP nP cP, .slice aW nW cW], .slice aL nL cL, .slice a n c] W fun e w' => e = .returned (.tuple #[.agg #[.int .i64 En, .int .i64 Ed], .bool true]) ∧ Below W.heap.size W w') := Lib.hid fun h1 W a n c hW hI hc hn => by
      have hx := (env_one (hone ▸ h1)).2.1
      have hy := impl_RuleMean _ _ _ _ _ _ ps ws _ _ _ pay a n c best W (hT.below hW) (hIL.below hW) hcL (by omega) hI hc (by omega)
      rw [hbest, hx.1, hx.2.1, hx.2.2, ← henv, ← hEn, ← hEd] at hy
      exact hy
    have H12 : Hid (one = true → ∀ W a n c, Below w1.heap.size w1 W → Ints W a n late → (a = none → c = 0) → n ≤ 1048576 → Calls Tryz.prog 31 #[.agg #[.slice aP nP cP, .slice aW nW cW], .slice aL nL cL, .slice a n c] W fun e w' => e = .returned (.tuple #[.agg #[.int .i64 En, .int .i64 Ed], .bool true]) ∧ Below W.heap.size W w') := Lib.hid fun h1 W a n c hW hI hc hn => by
      have hx := (env_one (hone ▸ h1)).2.2.1
      have hy := impl_RuleMean _ _ _ _ _ _ ps ws _ _ _ pay a n c late W (hT.below hW) (hIL.below hW) hcL (by omega) hI hc (by omega)
      rw [hlate, hx.1, hx.2.1, hx.2.2, ← henv, ← hEn, ← hEd] at hy
      exact hy
    have H13 : Hid (one = true → ∀ W a n c, Below w1.heap.size w1 W → Ints W a n least → (a = none → c = 0) → n ≤ 1048576 → Calls Tryz.prog 44 #[.agg #[.slice aP nP cP, .slice aW nW cW], .slice aL nL cL, .slice a n c] W fun e w' => e = .returned (.tuple #[.bool true, .bool true]) ∧ Below W.heap.size W w') := Lib.hid fun h1 W a n c hW hI hc hn => by
      have hx := (env_one (hone ▸ h1)).2.2.2.1
      have hy := impl_DoCover _ _ _ _ _ _ ps ws _ _ _ pay a n c least W (hT.below hW) (hIL.below hW) hcL (by omega) hI hc (by omega)
      rw [hleast, hx, ← hone, h1] at hy
      exact hy
    have H14 : Hid (one = true → ∀ W a n c a2 n2 c2, Below w1.heap.size w1 W → Ints W a n best → (a = none → c = 0) → n ≤ 1048576 → Ints W a2 n2 late → (a2 = none → c2 = 0) → n2 ≤ 1048576 → Calls Tryz.prog 23 #[.agg #[.slice aP nP cP, .slice aW nW cW], .slice a n c, .slice a2 n2 c2] W fun e w' => e = .returned (.tuple #[.bool true, .bool true]) ∧ Below W.heap.size W w') := Lib.hid fun h1 W a n c a2 n2 c2 hW hI hc hn hI2 hc2 hn2 => by
      have hx := (env_one (hone ▸ h1)).2.2.2.2
      have hy := impl_IsNoLater _ _ _ _ _ _ ps ws a n c best a2 n2 c2 late W (hT.below hW) hI hc (by omega) hI2 hc2 (by omega)
      rw [hbest, hlate, hx.1, hx.2] at hy
      exact hy
    have H15 : Hid (∀ W a n c, Below w1.heap.size w1 W → Ints W a n best → (a = none → c = 0) → n ≤ 1048576 → Calls Tryz.prog 23 #[.agg #[.slice aP nP cP, .slice aW nW cW], .slice a n c, .slice aR nR cR] W fun e w' => e = .returned (.tuple #[.bool nb, .bool tb]) ∧ Below W.heap.size W w') := Lib.hid fun W a n c hW hI hc hn => by
      have hy := impl_IsNoLater _ _ _ _ _ _ ps ws a n c best _ _ _ rule W (hT.below hW) hI hc (by omega) (hIR.below hW) hcR (by omega)
      rw [hbest, ← hnb, ← htb] at hy
      exact hy
    have HP1 : Hid (ok = true → one = true) := Lib.hid fun h => by
      rw [hok, rmB, Bool.and_eq_true] at h; rw [hone]; exact h.1
    have HP2 : Hid (one = true → env.length ≤ 24 ∧ 1 ≤ env.length) := Lib.hid fun h => by
      rw [henv]; exact (env_one (hone ▸ h)).1
    have HP3 : Hid (ok = true → (eqq = true → nb = true ∧ tb = true) ∧ (-4611686018427387904 ≤ En * Md ∧ En * Md ≤ 4611686018427387904) ∧ (-4611686018427387904 ≤ Mn * Ed ∧ Mn * Ed ≤ 4611686018427387904) ∧ decide (En * Md < Mn * Ed) = false) := Lib.hid fun h => by
      obtain ⟨e1, e2⟩ := env_rule (hok ▸ h)
      rw [← henv, ← hEn, ← hEd, ← hMn, ← hMd] at e1 e2
      refine ⟨fun he => ?_, e2⟩
      rw [heqq, Bool.and_eq_true, beq_iff_eq, beq_iff_eq] at he
      rw [hnb, htb]
      exact e1 he.1 he.2
    have HEQ : Hid (∀ W : World, (Op.equalIn 10000 29 (.agg #[.int .i64 Mn, .int .i64 Md]) (.agg #[.int .i64 En, .int .i64 Ed])).run Tryz.prog W = .ok eqq W) := Lib.hid fun W => by rw [eqA2, heqq]
    have HEL : Hid (env.length ≤ 4294967296) := Lib.hid (by rw [henv]; have := envV_len (ps := ps) (ws := ws) (l := pay); omega)
    have HC1 : Hid (Fr.at1 env 0 = En) := Lib.hid hEn.symm
    have HC2 : Hid (Fr.at2 env 0 = Ed) := Lib.hid hEd.symm
    have HL0 := Lib.hid (Below.refl w1.heap.size w1)
    obtain ⟨nB, hnB⟩ : ∃ z, z = best.length := ⟨_, rfl⟩
    obtain ⟨nT, hnT⟩ : ∃ z, z = late.length := ⟨_, rfl⟩
    obtain ⟨nC, hnC⟩ : ∃ z, z = least.length := ⟨_, rfl⟩
    have hnB2 : nB ≤ 1048576 := by rw [hnB, hbest]; exact bestV_len
    have hnT2 : nT ≤ 1048576 := by rw [hnT, hlate]; exact lateV_len
    have hnC2 : nC ≤ 1048576 := by rw [hnC, hleast]; exact lcV_len
    have HNB := Lib.hid hnB
    have HNT := Lib.hid hnT
    have HNC := Lib.hid hnC
    clear hok hone hMn hMd henv hEn hEd hbest hlate hleast hnb htb heqq hT hIL hIR hcL hcR hD oL b1 hnL hpl hrl hnB hnT hnC
    have zz := Pair.new w1 (.slice none 0 0) (.slice none 0 0) 26
    have zz0 := zz.c0
    have zz1 := zz.c1
    have zz2 := zz.f0
    have zz3 := zz.f1
    clear zz
    have nb := below_new w1 (.cells #[.slice aP nP cP, .slice aW nW cW] 26)
    have PT_2 := Lib.hid (Pair.new w1 (.slice aP nP cP) (.slice aW nW cW) 26)
    have HB1_2 := Lib.hid (HB1.out.below nb)
    have HL0_2 := Lib.hid (HL0.out.trans (nb.mono HL0.out.size))
    have HBB_2 := Lib.hid (HBB.out.trans (nb.mono HBB.out.size))
    clear nb HB1 HL0 HBB
    go_wp2_with fail
    clear zz0 zz1 zz2 zz3 
    generalize (w1.alloc (.cells #[.slice aP nP cP, .slice aW nW cW] 26)) = w2 at *
    refine (H1.out _ HL0_2.out).mono ?_
    rintro e w3 ⟨rfl, b3⟩
    have HB1_3 := Lib.hid (HB1_2.out.below b3)
    have PT_3 := Lib.hid (PT_2.out.below b3)
    have HL0_3 := Lib.hid (HL0_2.out.trans (b3.mono HL0_2.out.size))
    have HBB_3 := Lib.hid (HBB_2.out.trans (b3.mono HBB_2.out.size))
    clear b3 HB1_2 PT_2 HL0_2 HBB_2
    have zz := Pair.new w3 (.int .i64 0) (.int .i64 0) 29
    have zz0 := zz.c0
    have zz1 := zz.c1
    have zz2 := zz.f0
    have zz3 := zz.f1
    clear zz
    have op0 := PT_3.out.c0
    have op1 := PT_3.out.c1
    have op2 := PT_3.out.lt
    have nb := below_new w3 (.cells #[.int .i64 Mn, .int .i64 Md] 29)
    have A6_4 := Lib.hid (Pair.new w3 (.int .i64 Mn) (.int .i64 Md) 29)
    have HB1_4 := Lib.hid (HB1_3.out.below nb)
    have PT_4 := Lib.hid (PT_3.out.below nb)
    have HL0_4 := Lib.hid (HL0_3.out.trans (nb.mono HL0_3.out.size))
    have HBB_4 := Lib.hid (HBB_3.out.trans (nb.mono HBB_3.out.size))
    clear nb HB1_3 PT_3 HL0_3 HBB_3
    go_wp2_with fail
    clear zz0 zz1 zz2 zz3 op0 op1 op2
    generalize (w3.alloc (.cells #[.int .i64 Mn, .int .i64 Md] 29)) = w4 at *
    refine (H2.out _ HL0_4.out).mono ?_
    rintro e w5 ⟨rfl, b5⟩
    have HB1_5 := Lib.hid (HB1_4.out.below b5)
    have PT_5 := Lib.hid (PT_4.out.below b5)
    have A6_5 := Lib.hid (A6_4.out.below b5)
    have HL0_5 := Lib.hid (HL0_4.out.trans (b5.mono HL0_4.out.size))
    have HBB_5 := Lib.hid (HBB_4.out.trans (b5.mono HBB_4.out.size))
    clear b5 HB1_4 PT_4 A6_4 HL0_4 HBB_4
    have zz := Pair.new w5 (.int .i64 0) (.int .i64 0) 29
    have zz0 := zz.c0
    have zz1 := zz.c1
    have zz2 := zz.f0
    have zz3 := zz.f1
    clear zz
    have op0 := PT_5.out.c0
    have op1 := PT_5.out.c1
    have op2 := PT_5.out.lt
    have op3 := A6_5.out.c0
    have op4 := A6_5.out.c1
    have op5 := A6_5.out.lt
    have op6 := (fun W => by rw [eqA2]; simp : ∀ W, (Op.equalIn 10000 29 (.agg #[.int .i64 Mn, .int .i64 Md]) (.agg #[.int .i64 Mn, .int .i64 Md])).run Tryz.prog W = .ok true W)
    have nb := below_new w5 (.cells #[.int .i64 Mn, .int .i64 Md] 29)
    have A8_6 := Lib.hid (Pair.new w5 (.int .i64 Mn) (.int .i64 Md) 29)
    have HB1_6 := Lib.hid (HB1_5.out.below nb)
    have PT_6 := Lib.hid (PT_5.out.below nb)
    have A6_6 := Lib.hid (A6_5.out.below nb)
    have HL0_6 := Lib.hid (HL0_5.out.trans (nb.mono HL0_5.out.size))
    have HBB_6 := Lib.hid (HBB_5.out.trans (nb.mono HBB_5.out.size))
    clear nb HB1_5 PT_5 A6_5 HL0_5 HBB_5
    go_wp2_with fail
    clear zz0 zz1 zz2 zz3 op0 op1 op2 op3 op4 op5 op6
    generalize (w5.alloc (.cells #[.int .i64 Mn, .int .i64 Md] 29)) = w6 at *
    clear A8_6
    refine (H3.out _ HL0_6.out).mono ?_
    rintro e w7 ⟨v7, rfl, o7, b7⟩
    obtain ⟨aE, cE, rfl⟩ := o7.shape
    have HB1_7 := Lib.hid (HB1_6.out.below b7)
    have PT_7 := Lib.hid (PT_6.out.below b7)
    have A6_7 := Lib.hid (A6_6.out.below b7)
    have HL0_7 := Lib.hid (HL0_6.out.trans (b7.mono HL0_6.out.size))
    have HBB_7 := Lib.hid (HBB_6.out.trans (b7.mono HBB_6.out.size))
    clear b7 HB1_6 PT_6 A6_6 HL0_6 HBB_6
    have EA_7 := Lib.hid (o7)
    clear o7
    have op0 := PT_7.out.c0
    have op1 := PT_7.out.c1
    have op2 := PT_7.out.lt
    go_wp2_with fail
    clear op0 op1 op2
    refine (H4.out _ HL0_7.out).mono ?_
    rintro e w8 ⟨v8, rfl, o8, b8⟩
    obtain ⟨aE2, cE2, rfl⟩ := o8.shape
    have HB1_8 := Lib.hid (HB1_7.out.below b8)
    have PT_8 := Lib.hid (PT_7.out.below b8)
    have A6_8 := Lib.hid (A6_7.out.below b8)
    have EA_8 := Lib.hid (EA_7.out.below b8)
    have HL0_8 := Lib.hid (HL0_7.out.trans (b8.mono HL0_7.out.size))
    have HBB_8 := Lib.hid (HBB_7.out.trans (b8.mono HBB_7.out.size))
    clear b8 HB1_7 PT_7 A6_7 EA_7 HL0_7 HBB_7
    have EB_8 := Lib.hid (o8)
    clear o8
    go_upto_region 10 with fail
    go_cut [7, 11, 112] (fun v7 v11 v112 wc => v7 = .bool ok ∧ v11 = .bool one ∧ v112 = .bool false ∧ Below w8.heap.size w8 wc)
    case first => as_aux_lemma =>
      cases ok
      · go_wp2_with fail
        refine (laws_rFracs _ _ _ _ _ env _ HEL.out EA_8.out.ints EB_8.out.ints).mono ?_
        rintro e wz ⟨rfl, bz⟩
        go_wp2_with fail
        go_meet
        case rel => exact ⟨rfl, rfl, rfl, bz⟩
      · obtain rfl := HP1.out rfl
        go_wp2_with fail
        refine (laws_rFracs _ _ _ _ _ env _ HEL.out EA_8.out.ints EB_8.out.ints).mono ?_
        rintro e wz ⟨rfl, bz⟩
        go_wp2_with fail
        go_meet
        case rel => exact ⟨rfl, rfl, rfl, bz⟩
    case rest =>
    obtain ⟨rfl, rfl, rfl, b9⟩ := hcut
    obtain ⟨w9, hwc⟩ : ∃ z, z = wc := ⟨_, rfl⟩
    rw [← hwc] at b9 ⊢
    clear hwc wc
    have HB1_9 := Lib.hid (HB1_8.out.below b9)
    have PT_9 := Lib.hid (PT_8.out.below b9)
    have A6_9 := Lib.hid (A6_8.out.below b9)
    have EA_9 := Lib.hid (EA_8.out.below b9)
    have EB_9 := Lib.hid (EB_8.out.below b9)
    have HL0_9 := Lib.hid (HL0_8.out.trans (b9.mono HL0_8.out.size))
    have HBB_9 := Lib.hid (HBB_8.out.trans (b9.mono HBB_8.out.size))
    clear b9 HB1_8 PT_8 A6_8 EA_8 EB_8 HL0_8 HBB_8
    clear EB_9
    as_aux_lemma =>
    have op0 := PT_9.out.c0
    have op1 := PT_9.out.c1
    have op2 := PT_9.out.lt
    go_wp2_with fail
    clear op0 op1 op2
    refine (H5.out _ HL0_9.out).mono ?_
    rintro e w10 ⟨v10, rfl, o10, b10⟩
    obtain ⟨aB, cB, rfl⟩ := o10.shape
    rw [← HNB.out] at o10 ⊢
    have hcB := o10.cap.2.1
    have HB1_10 := Lib.hid (HB1_9.out.below b10)
    have PT_10 := Lib.hid (PT_9.out.below b10)
    have A6_10 := Lib.hid (A6_9.out.below b10)
    have EA_10 := Lib.hid (EA_9.out.below b10)
    have HL0_10 := Lib.hid (HL0_9.out.trans (b10.mono HL0_9.out.size))
    have HBB_10 := Lib.hid (HBB_9.out.trans (b10.mono HBB_9.out.size))
    clear b10 HB1_9 PT_9 A6_9 EA_9 HL0_9 HBB_9
    have XB_10 := Lib.hid (o10)
    clear o10
    have op0 := PT_10.out.c0
    have op1 := PT_10.out.c1
    have op2 := PT_10.out.lt
    go_wp2_with fail
    clear op0 op1 op2
    refine (H6.out _ HL0_10.out).mono ?_
    rintro e w11 ⟨v11, rfl, o11, b11⟩
    obtain ⟨aB2, cB2, rfl⟩ := o11.shape
    rw [← HNB.out] at o11 ⊢
    have HB1_11 := Lib.hid (HB1_10.out.below b11)
    have PT_11 := Lib.hid (PT_10.out.below b11)
    have A6_11 := Lib.hid (A6_10.out.below b11)
    have EA_11 := Lib.hid (EA_10.out.below b11)
    have XB_11 := Lib.hid (XB_10.out.below b11)
    have HL0_11 := Lib.hid (HL0_10.out.trans (b11.mono HL0_10.out.size))
    have HBB_11 := Lib.hid (HBB_10.out.trans (b11.mono HBB_10.out.size))
    clear b11 HB1_10 PT_10 A6_10 EA_10 XB_10 HL0_10 HBB_10
    have XBW_11 := Lib.hid (o11)
    clear o11
    go_wp2_with fail
    refine (laws_rInts _ _ _ _ _ best _ (by omega) XB_11.out.ints XBW_11.out.ints).mono ?_
    rintro e w12 ⟨rfl, b12⟩
    have HB1_12 := Lib.hid (HB1_11.out.below b12)
    have PT_12 := Lib.hid (PT_11.out.below b12)
    have A6_12 := Lib.hid (A6_11.out.below b12)
    have EA_12 := Lib.hid (EA_11.out.below b12)
    have XB_12 := Lib.hid (XB_11.out.below b12)
    have XBW_12 := Lib.hid (XBW_11.out.below b12)
    have HL0_12 := Lib.hid (HL0_11.out.trans (b12.mono HL0_11.out.size))
    have HBB_12 := Lib.hid (HBB_11.out.trans (b12.mono HBB_11.out.size))
    clear b12 HB1_11 PT_11 A6_11 EA_11 XB_11 XBW_11 HL0_11 HBB_11
    clear XBW_12
    have op0 := PT_12.out.c0
    have op1 := PT_12.out.c1
    have op2 := PT_12.out.lt
    go_wp2_with fail
    clear op0 op1 op2
    refine (H7.out _ HL0_12.out).mono ?_
    rintro e w13 ⟨v13, rfl, o13, b13⟩
    obtain ⟨aT, cT, rfl⟩ := o13.shape
    rw [← HNT.out] at o13 ⊢
    have hcT := o13.cap.2.1
    have HB1_13 := Lib.hid (HB1_12.out.below b13)
    have PT_13 := Lib.hid (PT_12.out.below b13)
    have A6_13 := Lib.hid (A6_12.out.below b13)
    have EA_13 := Lib.hid (EA_12.out.below b13)
    have XB_13 := Lib.hid (XB_12.out.below b13)
    have HL0_13 := Lib.hid (HL0_12.out.trans (b13.mono HL0_12.out.size))
    have HBB_13 := Lib.hid (HBB_12.out.trans (b13.mono HBB_12.out.size))
    clear b13 HB1_12 PT_12 A6_12 EA_12 XB_12 HL0_12 HBB_12
    have XT_13 := Lib.hid (o13)
    clear o13
    have op0 := PT_13.out.c0
    have op1 := PT_13.out.c1
    have op2 := PT_13.out.lt
    go_wp2_with fail
    clear op0 op1 op2
    refine (H8.out _ HL0_13.out).mono ?_
    rintro e w14 ⟨v14, rfl, o14, b14⟩
    obtain ⟨aT2, cT2, rfl⟩ := o14.shape
    rw [← HNT.out] at o14 ⊢
    have HB1_14 := Lib.hid (HB1_13.out.below b14)
    have PT_14 := Lib.hid (PT_13.out.below b14)
    have A6_14 := Lib.hid (A6_13.out.below b14)
    have EA_14 := Lib.hid (EA_13.out.below b14)
    have XB_14 := Lib.hid (XB_13.out.below b14)
    have XT_14 := Lib.hid (XT_13.out.below b14)
    have HL0_14 := Lib.hid (HL0_13.out.trans (b14.mono HL0_13.out.size))
    have HBB_14 := Lib.hid (HBB_13.out.trans (b14.mono HBB_13.out.size))
    clear b14 HB1_13 PT_13 A6_13 EA_13 XB_13 XT_13 HL0_13 HBB_13
    have XTW_14 := Lib.hid (o14)
    clear o14
    go_wp2_with fail
    refine (laws_rInts _ _ _ _ _ late _ (by omega) XT_14.out.ints XTW_14.out.ints).mono ?_
    rintro e w15 ⟨rfl, b15⟩
    have HB1_15 := Lib.hid (HB1_14.out.below b15)
    have PT_15 := Lib.hid (PT_14.out.below b15)
    have A6_15 := Lib.hid (A6_14.out.below b15)
    have EA_15 := Lib.hid (EA_14.out.below b15)
    have XB_15 := Lib.hid (XB_14.out.below b15)
    have XT_15 := Lib.hid (XT_14.out.below b15)
    have XTW_15 := Lib.hid (XTW_14.out.below b15)
    have HL0_15 := Lib.hid (HL0_14.out.trans (b15.mono HL0_14.out.size))
    have HBB_15 := Lib.hid (HBB_14.out.trans (b15.mono HBB_14.out.size))
    clear b15 HB1_14 PT_14 A6_14 EA_14 XB_14 XT_14 XTW_14 HL0_14 HBB_14
    clear XTW_15
    have op0 := PT_15.out.c0
    have op1 := PT_15.out.c1
    have op2 := PT_15.out.lt
    go_wp2_with fail
    clear op0 op1 op2
    refine (H9.out _ HL0_15.out).mono ?_
    rintro e w16 ⟨v16, rfl, o16, b16⟩
    obtain ⟨aC, cC, rfl⟩ := o16.shape
    rw [← HNC.out] at o16 ⊢
    have hcC := o16.cap.2.1
    have HB1_16 := Lib.hid (HB1_15.out.below b16)
    have PT_16 := Lib.hid (PT_15.out.below b16)
    have A6_16 := Lib.hid (A6_15.out.below b16)
    have EA_16 := Lib.hid (EA_15.out.below b16)
    have XB_16 := Lib.hid (XB_15.out.below b16)
    have XT_16 := Lib.hid (XT_15.out.below b16)
    have HL0_16 := Lib.hid (HL0_15.out.trans (b16.mono HL0_15.out.size))
    have HBB_16 := Lib.hid (HBB_15.out.trans (b16.mono HBB_15.out.size))
    clear b16 HB1_15 PT_15 A6_15 EA_15 XB_15 XT_15 HL0_15 HBB_15
    have XC_16 := Lib.hid (o16)
    clear o16
    have op0 := PT_16.out.c0
    have op1 := PT_16.out.c1
    have op2 := PT_16.out.lt
    go_wp2_with fail
    clear op0 op1 op2
    refine (H10.out _ HL0_16.out).mono ?_
    rintro e w17 ⟨v17, rfl, o17, b17⟩
    obtain ⟨aC2, cC2, rfl⟩ := o17.shape
    rw [← HNC.out] at o17 ⊢
    have HB1_17 := Lib.hid (HB1_16.out.below b17)
    have PT_17 := Lib.hid (PT_16.out.below b17)
    have A6_17 := Lib.hid (A6_16.out.below b17)
    have EA_17 := Lib.hid (EA_16.out.below b17)
    have XB_17 := Lib.hid (XB_16.out.below b17)
    have XT_17 := Lib.hid (XT_16.out.below b17)
    have XC_17 := Lib.hid (XC_16.out.below b17)
    have HL0_17 := Lib.hid (HL0_16.out.trans (b17.mono HL0_16.out.size))
    have HBB_17 := Lib.hid (HBB_16.out.trans (b17.mono HBB_16.out.size))
    clear b17 HB1_16 PT_16 A6_16 EA_16 XB_16 XT_16 XC_16 HL0_16 HBB_16
    have XCW_17 := Lib.hid (o17)
    clear o17
    go_wp2_with fail
    refine (laws_rInts _ _ _ _ _ least _ (by omega) XC_17.out.ints XCW_17.out.ints).mono ?_
    rintro e w18 ⟨rfl, b18⟩
    have HB1_18 := Lib.hid (HB1_17.out.below b18)
    have PT_18 := Lib.hid (PT_17.out.below b18)
    have A6_18 := Lib.hid (A6_17.out.below b18)
    have EA_18 := Lib.hid (EA_17.out.below b18)
    have XB_18 := Lib.hid (XB_17.out.below b18)
    have XT_18 := Lib.hid (XT_17.out.below b18)
    have XC_18 := Lib.hid (XC_17.out.below b18)
    have XCW_18 := Lib.hid (XCW_17.out.below b18)
    have HL0_18 := Lib.hid (HL0_17.out.trans (b18.mono HL0_17.out.size))
    have HBB_18 := Lib.hid (HBB_17.out.trans (b18.mono HBB_17.out.size))
    clear b18 HB1_17 PT_17 A6_17 EA_17 XB_17 XT_17 XC_17 XCW_17 HL0_17 HBB_17
    clear XCW_18
    as_aux_lemma =>
    go_wp2_with fail
    refine (spec_DrawDoCover _ _ _ _ HB1_18.out).mono ?_
    rintro e w19 ⟨⟨v19, rfl, gP, ngP, dgP, gW, ngW, dgW, qs, us, vQ, vS, rfl, hD2, oQ, oS⟩, b19⟩
    have HB1_19 := Lib.hid (HB1_18.out.below b19)
    have PT_19 := Lib.hid (PT_18.out.below b19)
    have A6_19 := Lib.hid (A6_18.out.below b19)
    have EA_19 := Lib.hid (EA_18.out.below b19)
    have XB_19 := Lib.hid (XB_18.out.below b19)
    have XT_19 := Lib.hid (XT_18.out.below b19)
    have XC_19 := Lib.hid (XC_18.out.below b19)
    have HL0_19 := Lib.hid (HL0_18.out.trans (b19.mono HL0_18.out.size))
    have HBB_19 := Lib.hid (HBB_18.out.trans (b19.mono HBB_18.out.size))
    clear b19 HB1_18 PT_18 A6_18 EA_18 XB_18 XT_18 XC_18 HL0_18 HBB_18
    have HM_19 := Lib.hid (Below.refl w19.heap.size w19)
    obtain ⟨pq, oQ, hql⟩ := oQ
    obtain ⟨aQ, cQ, rfl⟩ := oQ.shape
    obtain ⟨nQ, hnQ⟩ : ∃ z, z = pq.length := ⟨_, rfl⟩
    rw [← hnQ] at oQ hql ⊢
    obtain ⟨aS, nS, cS, caps, rfl, hIS, hsl, hcS, -⟩ := oS
    have hT2 := hD2.tre
    have hIQ := oQ.ints
    have hcQ := oQ.cap.2.1
    obtain ⟨cover, hcover⟩ : ∃ z, z = coverV qs us pq caps := ⟨_, rfl⟩
    obtain ⟨five, hfive⟩ : ∃ z, z = paysB qs us pq := ⟨_, rfl⟩
    obtain ⟨low, hlow⟩ : ∃ z, z = lcV qs us pq := ⟨_, rfl⟩
    obtain ⟨nlo, hnlo⟩ : ∃ z, z = low.length := ⟨_, rfl⟩
    have G1 : Hid (∀ W, Below w19.heap.size w19 W → Calls Tryz.prog 44 #[.agg #[.slice gP ngP dgP, .slice gW ngW dgW], .slice aQ nQ cQ, .slice aS nS cS] W fun e w' => e = .returned (.tuple #[.bool cover, .bool five]) ∧ Below W.heap.size W w') := Lib.hid fun W hW => by
      rw [hcover, hfive]; exact impl_DoCover _ _ _ _ _ _ qs us _ _ _ pq _ _ _ caps W (hT2.below hW) (hIQ.below hW) hcQ (by omega) (hIS.below hW) hcS (by omega)
    have G2 : Hid (∀ W, Below w19.heap.size w19 W → Calls Tryz.prog 45 #[.agg #[.slice gP ngP dgP, .slice gW ngW dgW], .slice aQ nQ cQ, .slice aS nS cS] W fun e w' => e = .returned (.tuple #[.bool cover, .bool five]) ∧ Below W.heap.size W w') := Lib.hid fun W hW => by
      rw [hcover, hfive]; exact spec_DoCover _ _ _ _ _ _ qs us _ _ _ pq _ _ _ caps W (hT2.below hW) (hIQ.below hW) hcQ (by omega) (hIS.below hW) hcS (by omega)
    have G3 : Hid (∀ W, Below w19.heap.size w19 W → Calls Tryz.prog 41 #[.agg #[.slice gP ngP dgP, .slice gW ngW dgW], .slice aQ nQ cQ] W fun e w' => ∃ v, e = .returned (.tuple #[v, .bool five]) ∧ Own w' W.heap.size v low ∧ Below W.heap.size W w') := Lib.hid fun W hW => by
      rw [hlow, hfive]; exact impl_LeastCaps _ _ _ _ _ _ qs us _ _ _ pq W (hT2.below hW) (hIQ.below hW) hcQ (by omega)
    have G4 : Hid (∀ W, Below w19.heap.size w19 W → Calls Tryz.prog 42 #[.agg #[.slice gP ngP dgP, .slice gW ngW dgW], .slice aQ nQ cQ] W fun e w' => ∃ v, e = .returned (.tuple #[v, .bool five]) ∧ Own w' W.heap.size v low ∧ Below W.heap.size W w') := Lib.hid fun W hW => by
      rw [hlow, hfive]; exact spec_LeastCaps _ _ _ _ _ _ qs us _ _ _ pq W (hT2.below hW) (hIQ.below hW) hcQ (by omega)
    have HQ : Hid (cover = true → five = true ∧ nlo = nS ∧ ∀ i, i < nlo → ¬ nth caps i < nth low i) := Lib.hid fun h => by
      obtain ⟨e1, e2, e3⟩ := cover_low (hcover ▸ h)
      rw [← hlow] at e2 e3
      have hsn := hIS.1
      rw [hfive, hnlo]
      exact ⟨e1, by omega, fun i hi => by have := e3 i hi; omega⟩
    have hnlo2 : nlo ≤ 1048576 := by rw [hnlo, hlow]; exact lcV_len
    have HS0 := hIS
    have HNLO := Lib.hid hnlo
    clear hcover hfive hlow hT2 hIQ hcQ hD2 oQ hnQ hnlo hIS hql
    have CS_19 := Lib.hid (HS0)
    clear HS0
    as_aux_lemma =>
    have zz := Pair.new w19 (.slice none 0 0) (.slice none 0 0) 26
    have zz0 := zz.c0
    have zz1 := zz.c1
    have zz2 := zz.f0
    have zz3 := zz.f1
    clear zz
    have nb := below_new w19 (.cells #[.slice gP ngP dgP, .slice gW ngW dgW] 26)
    have GT_20 := Lib.hid (Pair.new w19 (.slice gP ngP dgP) (.slice gW ngW dgW) 26)
    have HB1_20 := Lib.hid (HB1_19.out.below nb)
    have PT_20 := Lib.hid (PT_19.out.below nb)
    have A6_20 := Lib.hid (A6_19.out.below nb)
    have EA_20 := Lib.hid (EA_19.out.below nb)
    have XB_20 := Lib.hid (XB_19.out.below nb)
    have XT_20 := Lib.hid (XT_19.out.below nb)
    have XC_20 := Lib.hid (XC_19.out.below nb)
    have CS_20 := Lib.hid (CS_19.out.below nb)
    have HL0_20 := Lib.hid (HL0_19.out.trans (nb.mono HL0_19.out.size))
    have HBB_20 := Lib.hid (HBB_19.out.trans (nb.mono HBB_19.out.size))
    have HM_20 := Lib.hid (HM_19.out.trans (nb.mono HM_19.out.size))
    clear nb HB1_19 PT_19 A6_19 EA_19 XB_19 XT_19 XC_19 CS_19 HL0_19 HBB_19 HM_19
    go_wp2_with fail
    clear zz0 zz1 zz2 zz3 
    generalize (w19.alloc (.cells #[.slice gP ngP dgP, .slice gW ngW dgW] 26)) = w20 at *
    refine (G1.out _ HM_20.out).mono ?_
    rintro e w21 ⟨rfl, b21⟩
    have HB1_21 := Lib.hid (HB1_20.out.below b21)
    have PT_21 := Lib.hid (PT_20.out.below b21)
    have A6_21 := Lib.hid (A6_20.out.below b21)
    have EA_21 := Lib.hid (EA_20.out.below b21)
    have XB_21 := Lib.hid (XB_20.out.below b21)
    have XT_21 := Lib.hid (XT_20.out.below b21)
    have XC_21 := Lib.hid (XC_20.out.below b21)
    have CS_21 := Lib.hid (CS_20.out.below b21)
    have GT_21 := Lib.hid (GT_20.out.below b21)
    have HL0_21 := Lib.hid (HL0_20.out.trans (b21.mono HL0_20.out.size))
    have HBB_21 := Lib.hid (HBB_20.out.trans (b21.mono HBB_20.out.size))
    have HM_21 := Lib.hid (HM_20.out.trans (b21.mono HM_20.out.size))
    clear b21 HB1_20 PT_20 A6_20 EA_20 XB_20 XT_20 XC_20 CS_20 GT_20 HL0_20 HBB_20 HM_20
    have op0 := GT_21.out.c0
    have op1 := GT_21.out.c1
    have op2 := GT_21.out.lt
    go_wp2_with fail
    clear op0 op1 op2
    refine (G2.out _ HM_21.out).mono ?_
    rintro e w22 ⟨rfl, b22⟩
    have HB1_22 := Lib.hid (HB1_21.out.below b22)
    have PT_22 := Lib.hid (PT_21.out.below b22)
    have A6_22 := Lib.hid (A6_21.out.below b22)
    have EA_22 := Lib.hid (EA_21.out.below b22)
    have XB_22 := Lib.hid (XB_21.out.below b22)
    have XT_22 := Lib.hid (XT_21.out.below b22)
    have XC_22 := Lib.hid (XC_21.out.below b22)
    have CS_22 := Lib.hid (CS_21.out.below b22)
    have GT_22 := Lib.hid (GT_21.out.below b22)
    have HL0_22 := Lib.hid (HL0_21.out.trans (b22.mono HL0_21.out.size))
    have HBB_22 := Lib.hid (HBB_21.out.trans (b22.mono HBB_21.out.size))
    have HM_22 := Lib.hid (HM_21.out.trans (b22.mono HM_21.out.size))
    clear b22 HB1_21 PT_21 A6_21 EA_21 XB_21 XT_21 XC_21 CS_21 GT_21 HL0_21 HBB_21 HM_21
    go_upto_if 219 with fail
    go_cut [29] (fun v29 wc => v29 = .bool cover ∧ Below w22.heap.size w22 wc)
    case first => as_aux_lemma =>
      cases cover
      · go_wp2_with fail
        go_meet
        case rel => exact ⟨rfl, Below.refl _ _⟩
      · obtain ⟨rfl, hns, hle⟩ := HQ.out rfl
        have Hle := Lib.hid hle
        have Hns := Lib.hid hns
        clear hle hns
        have HS_22 := Lib.hid (Below.refl w22.heap.size w22)
        have op0 := GT_22.out.c0
        have op1 := GT_22.out.c1
        have op2 := GT_22.out.lt
        go_wp2_with fail
        clear op0 op1 op2
        refine (G3.out _ HM_22.out).mono ?_
        rintro e w23 ⟨v23, rfl, o23, b23⟩
        obtain ⟨aX, cX, rfl⟩ := o23.shape
        rw [← HNLO.out] at o23 ⊢
        have HB1_23 := Lib.hid (HB1_22.out.below b23)
        have PT_23 := Lib.hid (PT_22.out.below b23)
        have A6_23 := Lib.hid (A6_22.out.below b23)
        have EA_23 := Lib.hid (EA_22.out.below b23)
        have XB_23 := Lib.hid (XB_22.out.below b23)
        have XT_23 := Lib.hid (XT_22.out.below b23)
        have XC_23 := Lib.hid (XC_22.out.below b23)
        have CS_23 := Lib.hid (CS_22.out.below b23)
        have GT_23 := Lib.hid (GT_22.out.below b23)
        have HL0_23 := Lib.hid (HL0_22.out.trans (b23.mono HL0_22.out.size))
        have HBB_23 := Lib.hid (HBB_22.out.trans (b23.mono HBB_22.out.size))
        have HM_23 := Lib.hid (HM_22.out.trans (b23.mono HM_22.out.size))
        have HS_23 := Lib.hid (HS_22.out.trans (b23.mono HS_22.out.size))
        clear b23 HB1_22 PT_22 A6_22 EA_22 XB_22 XT_22 XC_22 CS_22 GT_22 HL0_22 HBB_22 HM_22 HS_22
        have X1_23 := Lib.hid (o23)
        clear o23
        have op0 := GT_23.out.c0
        have op1 := GT_23.out.c1
        have op2 := GT_23.out.lt
        go_wp2_with fail
        clear op0 op1 op2
        refine (G4.out _ HM_23.out).mono ?_
        rintro e w24 ⟨v24, rfl, o24, b24⟩
        obtain ⟨aY, cY, rfl⟩ := o24.shape
        rw [← HNLO.out] at o24 ⊢
        have HB1_24 := Lib.hid (HB1_23.out.below b24)
        have PT_24 := Lib.hid (PT_23.out.below b24)
        have A6_24 := Lib.hid (A6_23.out.below b24)
        have EA_24 := Lib.hid (EA_23.out.below b24)
        have XB_24 := Lib.hid (XB_23.out.below b24)
        have XT_24 := Lib.hid (XT_23.out.below b24)
        have XC_24 := Lib.hid (XC_23.out.below b24)
        have CS_24 := Lib.hid (CS_23.out.below b24)
        have GT_24 := Lib.hid (GT_23.out.below b24)
        have X1_24 := Lib.hid (X1_23.out.below b24)
        have HL0_24 := Lib.hid (HL0_23.out.trans (b24.mono HL0_23.out.size))
        have HBB_24 := Lib.hid (HBB_23.out.trans (b24.mono HBB_23.out.size))
        have HM_24 := Lib.hid (HM_23.out.trans (b24.mono HM_23.out.size))
        have HS_24 := Lib.hid (HS_23.out.trans (b24.mono HS_23.out.size))
        clear b24 HB1_23 PT_23 A6_23 EA_23 XB_23 XT_23 XC_23 CS_23 GT_23 X1_23 HL0_23 HBB_23 HM_23 HS_23
        have X2_24 := Lib.hid (o24)
        clear o24
        go_wp2_with fail
        refine (laws_rInts _ _ _ _ _ low _ (by omega) X1_24.out.ints X2_24.out.ints).mono ?_
        rintro e w25 ⟨rfl, b25⟩
        have HB1_25 := Lib.hid (HB1_24.out.below b25)
        have PT_25 := Lib.hid (PT_24.out.below b25)
        have A6_25 := Lib.hid (A6_24.out.below b25)
        have EA_25 := Lib.hid (EA_24.out.below b25)
        have XB_25 := Lib.hid (XB_24.out.below b25)
        have XT_25 := Lib.hid (XT_24.out.below b25)
        have XC_25 := Lib.hid (XC_24.out.below b25)
        have CS_25 := Lib.hid (CS_24.out.below b25)
        have GT_25 := Lib.hid (GT_24.out.below b25)
        have X1_25 := Lib.hid (X1_24.out.below b25)
        have X2_25 := Lib.hid (X2_24.out.below b25)
        have HL0_25 := Lib.hid (HL0_24.out.trans (b25.mono HL0_24.out.size))
        have HBB_25 := Lib.hid (HBB_24.out.trans (b25.mono HBB_24.out.size))
        have HM_25 := Lib.hid (HM_24.out.trans (b25.mono HM_24.out.size))
        have HS_25 := Lib.hid (HS_24.out.trans (b25.mono HS_24.out.size))
        clear b25 HB1_24 PT_24 A6_24 EA_24 XB_24 XT_24 XC_24 CS_24 GT_24 X1_24 X2_24 HL0_24 HBB_24 HM_24 HS_24
        clear X2_25
        go_wp2_with fail
        obtain ⟨wo, hwo⟩ : ∃ z, z = w25 := ⟨_, rfl⟩
        have X9 := X1_25.out.ints
        have C9 := CS_25.out
        have S9 := HS_25.out
        rw [← hwo] at X9 C9 S9 ⊢
        have X9 := Lib.hid X9
        have C9 := Lib.hid C9
        have S9 := Lib.hid S9
        clear hwo
        go_loopw [37] (fun v37 wr => ∃ i : Nat, i ≤ nlo ∧ v37 = .int .i64 i ∧ Below wo.heap.size wo wr) (fun v37 _ => nlo - (intOf v37).toNat)
        case atStart => exact ⟨0, Nat.zero_le _, rfl, Below.refl _ _⟩
        case round =>
          obtain ⟨i, hi, rfl, hbr⟩ := hrel
          have HBR := Lib.hid hbr
          clear hbr
          by_cases hlt : (i : Int) < nlo
          · have hX := X9.out.below HBR.out
            have hC := C9.out.below HBR.out
            obtain ⟨ba, oa, rfl, hba, hca⟩ := hX.2 (by omega)
            obtain ⟨bb, ob, rfl, hbb, hcb⟩ := hC.2 (by have := Hns.out; omega)
            have h1 := hca i (by omega)
            have h2 := hcb i (by have := Hns.out; omega)
            have h3 := Hle.out i (by omega)
            have h4 : (i : Int) < (nS : Int) := by have := Hns.out; omega
            clear hca hcb hX hC
            generalize nth low i = q at *
            generalize nth caps i = p at *
            go_wp2_with fail
            go_quiet (fail)
            go_wp2_with fail
            go_roundw
            case rel => exact ⟨i + 1, by omega, by go_num, below_drewN HBR.out _⟩
            case measure => simp [intOf]; omega
          · go_wp2_with fail
            go_meet
            case rel => exact ⟨rfl, S9.out.trans (HBR.out.mono S9.out.size)⟩
    case rest =>
    obtain ⟨rfl, b23⟩ := hcut
    obtain ⟨w23, hwc⟩ : ∃ z, z = wc := ⟨_, rfl⟩
    rw [← hwc] at b23 ⊢
    clear hwc wc
    have HB1_23 := Lib.hid (HB1_22.out.below b23)
    have PT_23 := Lib.hid (PT_22.out.below b23)
    have A6_23 := Lib.hid (A6_22.out.below b23)
    have EA_23 := Lib.hid (EA_22.out.below b23)
    have XB_23 := Lib.hid (XB_22.out.below b23)
    have XT_23 := Lib.hid (XT_22.out.below b23)
    have XC_23 := Lib.hid (XC_22.out.below b23)
    have CS_23 := Lib.hid (CS_22.out.below b23)
    have GT_23 := Lib.hid (GT_22.out.below b23)
    have HL0_23 := Lib.hid (HL0_22.out.trans (b23.mono HL0_22.out.size))
    have HBB_23 := Lib.hid (HBB_22.out.trans (b23.mono HBB_22.out.size))
    have HM_23 := Lib.hid (HM_22.out.trans (b23.mono HM_22.out.size))
    clear b23 HB1_22 PT_22 A6_22 EA_22 XB_22 XT_22 XC_22 CS_22 GT_22 HL0_22 HBB_22 HM_22
    clear GT_23
    clear HM_23
    clear CS_23
    as_aux_lemma =>
    go_wp2_with fail
    refine (spec_DrawGoingOn _ _ _ _ HB1_23.out).mono ?_
    rintro e w24 ⟨⟨v24, rfl, kP, nkP, dkP, kW, nkW, dkW, ys, zs, vK, xk, rfl, hD3, oK, -⟩, b24⟩
    have HB1_24 := Lib.hid (HB1_23.out.below b24)
    have PT_24 := Lib.hid (PT_23.out.below b24)
    have A6_24 := Lib.hid (A6_23.out.below b24)
    have EA_24 := Lib.hid (EA_23.out.below b24)
    have XB_24 := Lib.hid (XB_23.out.below b24)
    have XT_24 := Lib.hid (XT_23.out.below b24)
    have XC_24 := Lib.hid (XC_23.out.below b24)
    have HL0_24 := Lib.hid (HL0_23.out.trans (b24.mono HL0_23.out.size))
    have HBB_24 := Lib.hid (HBB_23.out.trans (b24.mono HBB_23.out.size))
    clear b24 HB1_23 PT_23 A6_23 EA_23 XB_23 XT_23 XC_23 HL0_23 HBB_23
    have HN_24 := Lib.hid (Below.refl w24.heap.size w24)
    obtain ⟨pk, oK, hkl⟩ := oK
    obtain ⟨aK, cK, rfl⟩ := oK.shape
    obtain ⟨nK, hnK⟩ : ∃ z, z = pk.length := ⟨_, rfl⟩
    rw [← hnK] at oK hkl ⊢
    have hT3 := hD3.tre
    have hIK := oK.ints
    have hcK := oK.cap.2.1
    obtain ⟨gn, hgn⟩ : ∃ z, z = goN ys zs pk xk := ⟨_, rfl⟩
    obtain ⟨gd, hgd⟩ : ∃ z, z = goD ys zs pk xk := ⟨_, rfl⟩
    obtain ⟨gb, hgb⟩ : ∃ z, z = goB ys zs pk xk := ⟨_, rfl⟩
    have K1 : Hid (∀ W, Below w24.heap.size w24 W → Calls Tryz.prog 47 #[.agg #[.slice kP nkP dkP, .slice kW nkW dkW], .slice aK nK cK, .int .i64 xk] W fun e w' => e = .returned (.tuple #[.agg #[.int .i64 gn, .int .i64 gd], .bool gb]) ∧ Below W.heap.size W w') := Lib.hid fun W hW => by
      rw [hgn, hgd, hgb]; exact impl_GoingOn _ _ _ _ _ _ ys zs _ _ _ pk xk W (hT3.below hW) (hIK.below hW) hcK (by omega)
    have K2 : Hid (∀ W, Below w24.heap.size w24 W → Calls Tryz.prog 48 #[.agg #[.slice kP nkP dkP, .slice kW nkW dkW], .slice aK nK cK, .int .i64 xk] W fun e w' => e = .returned (.tuple #[.agg #[.int .i64 gn, .int .i64 gd], .bool gb]) ∧ Below W.heap.size W w') := Lib.hid fun W hW => by
      rw [hgn, hgd, hgb]; exact spec_GoingOn _ _ _ _ _ _ ys zs _ _ _ pk xk W (hT3.below hW) (hIK.below hW) hcK (by omega)
    clear hgn hgd hgb hT3 hIK hcK hD3 oK hnK hkl
    have zz := Pair.new w24 (.slice none 0 0) (.slice none 0 0) 26
    have zz0 := zz.c0
    have zz1 := zz.c1
    have zz2 := zz.f0
    have zz3 := zz.f1
    clear zz
    have nb := below_new w24 (.cells #[.slice kP nkP dkP, .slice kW nkW dkW] 26)
    have KT_25 := Lib.hid (Pair.new w24 (.slice kP nkP dkP) (.slice kW nkW dkW) 26)
    have HB1_25 := Lib.hid (HB1_24.out.below nb)
    have PT_25 := Lib.hid (PT_24.out.below nb)
    have A6_25 := Lib.hid (A6_24.out.below nb)
    have EA_25 := Lib.hid (EA_24.out.below nb)
    have XB_25 := Lib.hid (XB_24.out.below nb)
    have XT_25 := Lib.hid (XT_24.out.below nb)
    have XC_25 := Lib.hid (XC_24.out.below nb)
    have HL0_25 := Lib.hid (HL0_24.out.trans (nb.mono HL0_24.out.size))
    have HBB_25 := Lib.hid (HBB_24.out.trans (nb.mono HBB_24.out.size))
    have HN_25 := Lib.hid (HN_24.out.trans (nb.mono HN_24.out.size))
    clear nb HB1_24 PT_24 A6_24 EA_24 XB_24 XT_24 XC_24 HL0_24 HBB_24 HN_24
    go_wp2_with fail
    clear zz0 zz1 zz2 zz3 
    generalize (w24.alloc (.cells #[.slice kP nkP dkP, .slice kW nkW dkW] 26)) = w25 at *
    refine (K1.out _ HN_25.out).mono ?_
    rintro e w26 ⟨rfl, b26⟩
    have HB1_26 := Lib.hid (HB1_25.out.below b26)
    have PT_26 := Lib.hid (PT_25.out.below b26)
    have A6_26 := Lib.hid (A6_25.out.below b26)
    have EA_26 := Lib.hid (EA_25.out.below b26)
    have XB_26 := Lib.hid (XB_25.out.below b26)
    have XT_26 := Lib.hid (XT_25.out.below b26)
    have XC_26 := Lib.hid (XC_25.out.below b26)
    have KT_26 := Lib.hid (KT_25.out.below b26)
    have HL0_26 := Lib.hid (HL0_25.out.trans (b26.mono HL0_25.out.size))
    have HBB_26 := Lib.hid (HBB_25.out.trans (b26.mono HBB_25.out.size))
    have HN_26 := Lib.hid (HN_25.out.trans (b26.mono HN_25.out.size))
    clear b26 HB1_25 PT_25 A6_25 EA_25 XB_25 XT_25 XC_25 KT_25 HL0_25 HBB_25 HN_25
    have zz := Pair.new w26 (.int .i64 0) (.int .i64 0) 29
    have zz0 := zz.c0
    have zz1 := zz.c1
    have zz2 := zz.f0
    have zz3 := zz.f1
    clear zz
    have op0 := KT_26.out.c0
    have op1 := KT_26.out.c1
    have op2 := KT_26.out.lt
    have nb := below_new w26 (.cells #[.int .i64 gn, .int .i64 gd] 29)
    have A41_27 := Lib.hid (Pair.new w26 (.int .i64 gn) (.int .i64 gd) 29)
    have HB1_27 := Lib.hid (HB1_26.out.below nb)
    have PT_27 := Lib.hid (PT_26.out.below nb)
    have A6_27 := Lib.hid (A6_26.out.below nb)
    have EA_27 := Lib.hid (EA_26.out.below nb)
    have XB_27 := Lib.hid (XB_26.out.below nb)
    have XT_27 := Lib.hid (XT_26.out.below nb)
    have XC_27 := Lib.hid (XC_26.out.below nb)
    have KT_27 := Lib.hid (KT_26.out.below nb)
    have HL0_27 := Lib.hid (HL0_26.out.trans (nb.mono HL0_26.out.size))
    have HBB_27 := Lib.hid (HBB_26.out.trans (nb.mono HBB_26.out.size))
    have HN_27 := Lib.hid (HN_26.out.trans (nb.mono HN_26.out.size))
    clear nb HB1_26 PT_26 A6_26 EA_26 XB_26 XT_26 XC_26 KT_26 HL0_26 HBB_26 HN_26
    go_wp2_with fail
    clear zz0 zz1 zz2 zz3 op0 op1 op2
    generalize (w26.alloc (.cells #[.int .i64 gn, .int .i64 gd] 29)) = w27 at *
    refine (K2.out _ HN_27.out).mono ?_
    rintro e w28 ⟨rfl, b28⟩
    have HB1_28 := Lib.hid (HB1_27.out.below b28)
    have PT_28 := Lib.hid (PT_27.out.below b28)
    have A6_28 := Lib.hid (A6_27.out.below b28)
    have EA_28 := Lib.hid (EA_27.out.below b28)
    have XB_28 := Lib.hid (XB_27.out.below b28)
    have XT_28 := Lib.hid (XT_27.out.below b28)
    have XC_28 := Lib.hid (XC_27.out.below b28)
    have KT_28 := Lib.hid (KT_27.out.below b28)
    have A41_28 := Lib.hid (A41_27.out.below b28)
    have HL0_28 := Lib.hid (HL0_27.out.trans (b28.mono HL0_27.out.size))
    have HBB_28 := Lib.hid (HBB_27.out.trans (b28.mono HBB_27.out.size))
    have HN_28 := Lib.hid (HN_27.out.trans (b28.mono HN_27.out.size))
    clear b28 HB1_27 PT_27 A6_27 EA_27 XB_27 XT_27 XC_27 KT_27 A41_27 HL0_27 HBB_27 HN_27
    have zz := Pair.new w28 (.int .i64 0) (.int .i64 0) 29
    have zz0 := zz.c0
    have zz1 := zz.c1
    have zz2 := zz.f0
    have zz3 := zz.f1
    clear zz
    have op0 := KT_28.out.c0
    have op1 := KT_28.out.c1
    have op2 := KT_28.out.lt
    have op3 := A41_28.out.c0
    have op4 := A41_28.out.c1
    have op5 := A41_28.out.lt
    have op6 := (fun W => by rw [eqA2]; simp : ∀ W, (Op.equalIn 10000 29 (.agg #[.int .i64 gn, .int .i64 gd]) (.agg #[.int .i64 gn, .int .i64 gd])).run Tryz.prog W = .ok true W)
    have nb := below_new w28 (.cells #[.int .i64 gn, .int .i64 gd] 29)
    have A43_29 := Lib.hid (Pair.new w28 (.int .i64 gn) (.int .i64 gd) 29)
    have HB1_29 := Lib.hid (HB1_28.out.below nb)
    have PT_29 := Lib.hid (PT_28.out.below nb)
    have A6_29 := Lib.hid (A6_28.out.below nb)
    have EA_29 := Lib.hid (EA_28.out.below nb)
    have XB_29 := Lib.hid (XB_28.out.below nb)
    have XT_29 := Lib.hid (XT_28.out.below nb)
    have XC_29 := Lib.hid (XC_28.out.below nb)
    have KT_29 := Lib.hid (KT_28.out.below nb)
    have A41_29 := Lib.hid (A41_28.out.below nb)
    have HL0_29 := Lib.hid (HL0_28.out.trans (nb.mono HL0_28.out.size))
    have HBB_29 := Lib.hid (HBB_28.out.trans (nb.mono HBB_28.out.size))
    have HN_29 := Lib.hid (HN_28.out.trans (nb.mono HN_28.out.size))
    clear nb HB1_28 PT_28 A6_28 EA_28 XB_28 XT_28 XC_28 KT_28 A41_28 HL0_28 HBB_28 HN_28
    go_upto_if 288 with fail
    clear zz0 zz1 zz2 zz3 op0 op1 op2 op3 op4 op5 op6
    generalize (w28.alloc (.cells #[.int .i64 gn, .int .i64 gd] 29)) = w29 at *
    clear A41_29
    clear A43_29
    clear KT_29
    clear HN_29
    cases one
    · go_wp2_with fail
      go_ret
      exact ⟨rfl, HBB_29.out⟩
    · as_aux_lemma =>
      have J11 := Lib.hid (H11.out rfl)
      clear H11
      have J12 := Lib.hid (H12.out rfl)
      clear H12
      have J13 := Lib.hid (H13.out rfl)
      clear H13
      have J14 := Lib.hid (H14.out rfl)
      clear H14
      obtain ⟨hlE, hlE1⟩ := HP2.out rfl
      have op0 := PT_29.out.c0
      have op1 := PT_29.out.c1
      have op2 := PT_29.out.lt
      go_wp2_with fail
      clear op0 op1 op2
      refine (J11.out _ _ _ _ HL0_29.out XB_29.out.ints hcB hnB2).mono ?_
      rintro e w30 ⟨rfl, b30⟩
      have HB1_30 := Lib.hid (HB1_29.out.below b30)
      have PT_30 := Lib.hid (PT_29.out.below b30)
      have A6_30 := Lib.hid (A6_29.out.below b30)
      have EA_30 := Lib.hid (EA_29.out.below b30)
      have XB_30 := Lib.hid (XB_29.out.below b30)
      have XT_30 := Lib.hid (XT_29.out.below b30)
      have XC_30 := Lib.hid (XC_29.out.below b30)
      have HL0_30 := Lib.hid (HL0_29.out.trans (b30.mono HL0_29.out.size))
      have HBB_30 := Lib.hid (HBB_29.out.trans (b30.mono HBB_29.out.size))
      clear b30 HB1_29 PT_29 A6_29 EA_29 XB_29 XT_29 XC_29 HL0_29 HBB_29
      have zz := Pair.new w30 (.int .i64 0) (.int .i64 0) 29
      have zz0 := zz.c0
      have zz1 := zz.c1
      have zz2 := zz.f0
      have zz3 := zz.f1
      clear zz
      have op0 := PT_30.out.c0
      have op1 := PT_30.out.c1
      have op2 := PT_30.out.lt
      have nb := below_new w30 (.cells #[.int .i64 En, .int .i64 Ed] 29)
      have A45_31 := Lib.hid (Pair.new w30 (.int .i64 En) (.int .i64 Ed) 29)
      have HB1_31 := Lib.hid (HB1_30.out.below nb)
      have PT_31 := Lib.hid (PT_30.out.below nb)
      have A6_31 := Lib.hid (A6_30.out.below nb)
      have EA_31 := Lib.hid (EA_30.out.below nb)
      have XB_31 := Lib.hid (XB_30.out.below nb)
      have XT_31 := Lib.hid (XT_30.out.below nb)
      have XC_31 := Lib.hid (XC_30.out.below nb)
      have HL0_31 := Lib.hid (HL0_30.out.trans (nb.mono HL0_30.out.size))
      have HBB_31 := Lib.hid (HBB_30.out.trans (nb.mono HBB_30.out.size))
      clear nb HB1_30 PT_30 A6_30 EA_30 XB_30 XT_30 XC_30 HL0_30 HBB_30
      go_wp2_with fail
      clear zz0 zz1 zz2 zz3 op0 op1 op2
      generalize (w30.alloc (.cells #[.int .i64 En, .int .i64 Ed] 29)) = w31 at *
      refine (J12.out _ _ _ _ HL0_31.out XT_31.out.ints hcT hnT2).mono ?_
      rintro e w32 ⟨rfl, b32⟩
      have HB1_32 := Lib.hid (HB1_31.out.below b32)
      have PT_32 := Lib.hid (PT_31.out.below b32)
      have A6_32 := Lib.hid (A6_31.out.below b32)
      have EA_32 := Lib.hid (EA_31.out.below b32)
      have XB_32 := Lib.hid (XB_31.out.below b32)
      have XT_32 := Lib.hid (XT_31.out.below b32)
      have XC_32 := Lib.hid (XC_31.out.below b32)
      have A45_32 := Lib.hid (A45_31.out.below b32)
      have HL0_32 := Lib.hid (HL0_31.out.trans (b32.mono HL0_31.out.size))
      have HBB_32 := Lib.hid (HBB_31.out.trans (b32.mono HBB_31.out.size))
      clear b32 HB1_31 PT_31 A6_31 EA_31 XB_31 XT_31 XC_31 A45_31 HL0_31 HBB_31
      have zz := Pair.new w32 (.int .i64 0) (.int .i64 0) 29
      have zz0 := zz.c0
      have zz1 := zz.c1
      have zz2 := zz.f0
      have zz3 := zz.f1
      clear zz
      have op0 := PT_32.out.c0
      have op1 := PT_32.out.c1
      have op2 := PT_32.out.lt
      have nb := below_new w32 (.cells #[.int .i64 En, .int .i64 Ed] 29)
      have A47_33 := Lib.hid (Pair.new w32 (.int .i64 En) (.int .i64 Ed) 29)
      have HB1_33 := Lib.hid (HB1_32.out.below nb)
      have PT_33 := Lib.hid (PT_32.out.below nb)
      have A6_33 := Lib.hid (A6_32.out.below nb)
      have EA_33 := Lib.hid (EA_32.out.below nb)
      have XB_33 := Lib.hid (XB_32.out.below nb)
      have XT_33 := Lib.hid (XT_32.out.below nb)
      have XC_33 := Lib.hid (XC_32.out.below nb)
      have A45_33 := Lib.hid (A45_32.out.below nb)
      have HL0_33 := Lib.hid (HL0_32.out.trans (nb.mono HL0_32.out.size))
      have HBB_33 := Lib.hid (HBB_32.out.trans (nb.mono HBB_32.out.size))
      clear nb HB1_32 PT_32 A6_32 EA_32 XB_32 XT_32 XC_32 A45_32 HL0_32 HBB_32
      go_wp2_with fail
      clear zz0 zz1 zz2 zz3 op0 op1 op2
      generalize (w32.alloc (.cells #[.int .i64 En, .int .i64 Ed] 29)) = w33 at *
      refine (J13.out _ _ _ _ HL0_33.out XC_33.out.ints hcC hnC2).mono ?_
      rintro e w34 ⟨rfl, b34⟩
      have HB1_34 := Lib.hid (HB1_33.out.below b34)
      have PT_34 := Lib.hid (PT_33.out.below b34)
      have A6_34 := Lib.hid (A6_33.out.below b34)
      have EA_34 := Lib.hid (EA_33.out.below b34)
      have XB_34 := Lib.hid (XB_33.out.below b34)
      have XT_34 := Lib.hid (XT_33.out.below b34)
      have XC_34 := Lib.hid (XC_33.out.below b34)
      have A45_34 := Lib.hid (A45_33.out.below b34)
      have A47_34 := Lib.hid (A47_33.out.below b34)
      have HL0_34 := Lib.hid (HL0_33.out.trans (b34.mono HL0_33.out.size))
      have HBB_34 := Lib.hid (HBB_33.out.trans (b34.mono HBB_33.out.size))
      clear b34 HB1_33 PT_33 A6_33 EA_33 XB_33 XT_33 XC_33 A45_33 A47_33 HL0_33 HBB_33
      have op0 := PT_34.out.c0
      have op1 := PT_34.out.c1
      have op2 := PT_34.out.lt
      go_wp2_with fail
      clear op0 op1 op2
      refine (J14.out _ _ _ _ _ _ _ HL0_34.out XB_34.out.ints hcB hnB2 XT_34.out.ints hcT hnT2).mono ?_
      rintro e w35 ⟨rfl, b35⟩
      have HB1_35 := Lib.hid (HB1_34.out.below b35)
      have PT_35 := Lib.hid (PT_34.out.below b35)
      have A6_35 := Lib.hid (A6_34.out.below b35)
      have EA_35 := Lib.hid (EA_34.out.below b35)
      have XB_35 := Lib.hid (XB_34.out.below b35)
      have XT_35 := Lib.hid (XT_34.out.below b35)
      have XC_35 := Lib.hid (XC_34.out.below b35)
      have A45_35 := Lib.hid (A45_34.out.below b35)
      have A47_35 := Lib.hid (A47_34.out.below b35)
      have HL0_35 := Lib.hid (HL0_34.out.trans (b35.mono HL0_34.out.size))
      have HBB_35 := Lib.hid (HBB_34.out.trans (b35.mono HBB_34.out.size))
      clear b35 HB1_34 PT_34 A6_34 EA_34 XB_34 XT_34 XC_34 A45_34 A47_34 HL0_34 HBB_34
      go_upto_region 50 with fail
      obtain ⟨bE, oE, rfl, hbE, hcE⟩ := EA_35.out.ints.2 (by omega)
      have ca1 := (hcE 0 (by omega)).1
      have ca2 := (hcE 0 (by omega)).2
      rw [Nat.zero_mul, Nat.add_zero] at ca1 ca2
      rw [HC1.out] at ca1
      rw [HC2.out] at ca2
      clear hcE
      have hnE : 0 < env.length := by omega
      have hq := (fun W => by rw [eqA2]; simp : ∀ W, (Op.equalIn 10000 29 (.agg #[.int .i64 En, .int .i64 Ed]) (.agg #[.int .i64 En, .int .i64 Ed])).run Tryz.prog W = .ok true W)
      have cb1 := A45_35.out.c0
      have cb2 := A45_35.out.c1
      have cc1 := A47_35.out.c0
      have cc2 := A47_35.out.c1
      have cm1 := A6_35.out.c0
      have cm2 := A6_35.out.c1
      have BZ := HBB_35
      go_quiet (fail)
      clear hq cb1 cb2 cc1 cc2
      clear A45_35
      clear A47_35
      clear XT_35
      clear XC_35
      obtain ⟨w36, hwq⟩ : ∃ z, z = w35.drewN nq := ⟨_, rfl⟩
      have bq : Below w35.heap.size w35 w36 := by rw [hwq]; exact below_drewN (Below.refl _ _) _
      rw [← hwq]
      clear hwq
      have ca1 := cell_up bq ca1
      have ca2 := cell_up bq ca2
      have cm1 := cell_up bq cm1
      have cm2 := cell_up bq cm2
      have HB1_36 := Lib.hid (HB1_35.out.below bq)
      have PT_36 := Lib.hid (PT_35.out.below bq)
      have A6_36 := Lib.hid (A6_35.out.below bq)
      have EA_36 := Lib.hid (EA_35.out.below bq)
      have XB_36 := Lib.hid (XB_35.out.below bq)
      have HL0_36 := Lib.hid (HL0_35.out.trans (bq.mono HL0_35.out.size))
      have HBB_36 := Lib.hid (HBB_35.out.trans (bq.mono HBB_35.out.size))
      clear bq HB1_35 PT_35 A6_35 EA_35 XB_35 HL0_35 HBB_35
      clear BZ
      cases ok
      · go_wp2_with fail
        go_ret
        exact ⟨rfl, HBB_36.out⟩
      · as_aux_lemma =>
        obtain ⟨hE, hm1, hm2, hdec⟩ := HP3.out rfl
        have HE := Lib.hid hE
        have Hdec := Lib.hid hdec
        clear hE hdec
        have hq := HEQ.out
        go_upto_region 54 with fail
        go_quiet (fail)
        clear hq
        obtain ⟨w37, hwq⟩ : ∃ z, z = w36.drewN nq := ⟨_, rfl⟩
        have bq : Below w36.heap.size w36 w37 := by rw [hwq]; exact below_drewN (Below.refl _ _) _
        rw [← hwq]
        clear hwq
        have ca1 := cell_up bq ca1
        have ca2 := cell_up bq ca2
        have cm1 := cell_up bq cm1
        have cm2 := cell_up bq cm2
        have HB1_37 := Lib.hid (HB1_36.out.below bq)
        have PT_37 := Lib.hid (PT_36.out.below bq)
        have A6_37 := Lib.hid (A6_36.out.below bq)
        have EA_37 := Lib.hid (EA_36.out.below bq)
        have XB_37 := Lib.hid (XB_36.out.below bq)
        have HL0_37 := Lib.hid (HL0_36.out.trans (bq.mono HL0_36.out.size))
        have HBB_37 := Lib.hid (HBB_36.out.trans (bq.mono HBB_36.out.size))
        clear bq HB1_36 PT_36 A6_36 EA_36 XB_36 HL0_36 HBB_36
        clear HEQ HP3
        cases eqq
        · go_upto_region 58 with fail
          refine wp_region_noPanic ?_
          refine wp_region_held_drew (S := (fun W' => (W'.cell? ⟨bE, oE, none⟩ = some (.int .i64 En) ∧ W'.cell? ⟨bE, oE + 1, none⟩ = some (.int .i64 Ed)) ∧ W'.cell? ⟨w3.heap.size, 0, none⟩ = some (.int .i64 Mn) ∧ W'.cell? ⟨w3.heap.size, 1, none⟩ = some (.int .i64 Md))) (by kernel_rfl) ?_ (fun hHeld0 => ?_)
          · (try dsimp only); first | assumption | exact ⟨⟨ca1, ca2⟩, cm1, cm2⟩
          refine takeH (i := 0) (oi := _) (v := ?_) rfl (by kernel_rfl) (by kernel_rfl) (by kernel_rfl) (fun _ _ _ h => h) (Or.inl ⟨by rfl, ?_⟩) (by assumption) ?_
          rotate_left
          · first | (intro w hSw; (try dsimp only at hSw); go_simp; done) | (intro w hSw; (try dsimp only at hSw); go_simp; with_reducible rfl)
          (try simp only [Act.put, List.setIfInBounds_toArray, List.set_cons_zero, List.set_cons_succ])
          refine takeH (i := 1) (oi := _) (v := ?_) rfl (by kernel_rfl) (by kernel_rfl) (by kernel_rfl) (fun _ _ _ h => h) (Or.inl ⟨by rfl, ?_⟩) (by assumption) ?_
          rotate_left
          · first | (intro w hSw; (try dsimp only at hSw); go_simp; done) | (intro w hSw; (try dsimp only at hSw); go_simp; with_reducible rfl)
          (try simp only [Act.put, List.setIfInBounds_toArray, List.set_cons_zero, List.set_cons_succ])
          refine takeH (i := 2) (oi := _) (v := ?_) rfl (by kernel_rfl) (by kernel_rfl) (by kernel_rfl) (fun _ _ _ h => h) (Or.inl ⟨by rfl, ?_⟩) (by assumption) ?_
          rotate_left
          · first | (intro w hSw; (try dsimp only at hSw); go_simp; done) | (intro w hSw; (try dsimp only at hSw); go_simp; with_reducible rfl)
          (try simp only [Act.put, List.setIfInBounds_toArray, List.set_cons_zero, List.set_cons_succ])
          refine takeH (i := 3) (oi := _) (v := ?_) rfl (by kernel_rfl) (by kernel_rfl) (by kernel_rfl) (fun _ _ _ h => h) (Or.inl ⟨by rfl, ?_⟩) (by assumption) ?_
          rotate_left
          · first | (intro w hSw; (try dsimp only at hSw); go_simp; done) | (intro w hSw; (try dsimp only at hSw); go_simp; with_reducible rfl)
          (try simp only [Act.put, List.setIfInBounds_toArray, List.set_cons_zero, List.set_cons_succ])
          refine wpAnyH_ready (rs := [4]) (by kernel_rfl) (by simp) ?_
          refine consH rfl (fun Kq hKq => ?_)
          go_simp
          refine (laws_rLess _ _ _ _ _ hm1 hm2).mono ?_
          rintro e wz ⟨rfl, bz⟩
          rw [Hdec.out]
          have bz2 := (Below.refl w37.heap.size w37).drew.trans bz
          have hSS := And.intro (And.intro (cell_up bz2 ca1) (cell_up bz2 ca2)) (And.intro (cell_up bz2 cm1) (cell_up bz2 cm2))
          clear bz
          refine hKq.out _ _ ?_ (fun hHeld1 => ?_)
          · (try dsimp only); first | assumption | exact ⟨⟨ca1, ca2⟩, cm1, cm2⟩
          clear hKq Kq
          (try simp only [Act.put, List.setIfInBounds_toArray, List.set_cons_zero, List.set_cons_succ])
          clear hHeld0
          refine takeH (i := 5) (oi := _) (v := ?_) rfl (by kernel_rfl) (by kernel_rfl) (by kernel_rfl) (fun _ _ _ h => h) (Or.inl ⟨by rfl, ?_⟩) (by assumption) ?_
          rotate_left
          · first | (intro w hSw; (try dsimp only at hSw); go_simp; done) | (intro w hSw; (try dsimp only at hSw); go_simp; with_reducible rfl)
          (try simp only [Act.put, List.setIfInBounds_toArray, List.set_cons_zero, List.set_cons_succ])
          refine takeH (i := 6) (oi := _) (v := ?_) rfl (by kernel_rfl) (by kernel_rfl) (by kernel_rfl) (fun _ _ _ h => h) (Or.inl ⟨by rfl, ?_⟩) (by assumption) ?_
          rotate_left
          · first | (intro w hSw; (try dsimp only at hSw); go_simp; done) | (intro w hSw; (try dsimp only at hSw); go_simp; with_reducible rfl)
          (try simp only [Act.put, List.setIfInBounds_toArray, List.set_cons_zero, List.set_cons_succ])
          refine wpAnyH_done (by kernel_rfl) ?_ _
          refine NoPanic.normal ?_
          go_wp2_with fail
          go_ret
          exact ⟨rfl, HBB_37.out.trans (bz2.mono HBB_37.out.size)⟩
        · obtain ⟨rfl, rfl⟩ := HE.out rfl
          have op0 := PT_37.out.c0
          have op1 := PT_37.out.c1
          have op2 := PT_37.out.lt
          go_wp2_with fail
          clear op0 op1 op2
          refine (H15.out _ _ _ _ HL0_37.out XB_37.out.ints hcB hnB2).mono ?_
          rintro e w38 ⟨rfl, b38⟩
          have bq := b38
          have ca1 := cell_up bq ca1
          have ca2 := cell_up bq ca2
          have cm1 := cell_up bq cm1
          have cm2 := cell_up bq cm2
          clear bq
          have HB1_38 := Lib.hid (HB1_37.out.below b38)
          have PT_38 := Lib.hid (PT_37.out.below b38)
          have A6_38 := Lib.hid (A6_37.out.below b38)
          have EA_38 := Lib.hid (EA_37.out.below b38)
          have XB_38 := Lib.hid (XB_37.out.below b38)
          have HL0_38 := Lib.hid (HL0_37.out.trans (b38.mono HL0_37.out.size))
          have HBB_38 := Lib.hid (HBB_37.out.trans (b38.mono HBB_37.out.size))
          clear b38 HB1_37 PT_37 A6_37 EA_37 XB_37 HL0_37 HBB_37
          go_upto_region 58 with fail
          refine wp_region_noPanic ?_
          refine wp_region_held_drew (S := (fun W' => (W'.cell? ⟨bE, oE, none⟩ = some (.int .i64 En) ∧ W'.cell? ⟨bE, oE + 1, none⟩ = some (.int .i64 Ed)) ∧ W'.cell? ⟨w3.heap.size, 0, none⟩ = some (.int .i64 Mn) ∧ W'.cell? ⟨w3.heap.size, 1, none⟩ = some (.int .i64 Md))) (by kernel_rfl) ?_ (fun hHeld0 => ?_)
          · (try dsimp only); first | assumption | exact ⟨⟨ca1, ca2⟩, cm1, cm2⟩
          refine takeH (i := 0) (oi := _) (v := ?_) rfl (by kernel_rfl) (by kernel_rfl) (by kernel_rfl) (fun _ _ _ h => h) (Or.inl ⟨by rfl, ?_⟩) (by assumption) ?_
          rotate_left
          · first | (intro w hSw; (try dsimp only at hSw); go_simp; done) | (intro w hSw; (try dsimp only at hSw); go_simp; with_reducible rfl)
          (try simp only [Act.put, List.setIfInBounds_toArray, List.set_cons_zero, List.set_cons_succ])
          refine takeH (i := 1) (oi := _) (v := ?_) rfl (by kernel_rfl) (by kernel_rfl) (by kernel_rfl) (fun _ _ _ h => h) (Or.inl ⟨by rfl, ?_⟩) (by assumption) ?_
          rotate_left
          · first | (intro w hSw; (try dsimp only at hSw); go_simp; done) | (intro w hSw; (try dsimp only at hSw); go_simp; with_reducible rfl)
          (try simp only [Act.put, List.setIfInBounds_toArray, List.set_cons_zero, List.set_cons_succ])
          refine takeH (i := 2) (oi := _) (v := ?_) rfl (by kernel_rfl) (by kernel_rfl) (by kernel_rfl) (fun _ _ _ h => h) (Or.inl ⟨by rfl, ?_⟩) (by assumption) ?_
          rotate_left
          · first | (intro w hSw; (try dsimp only at hSw); go_simp; done) | (intro w hSw; (try dsimp only at hSw); go_simp; with_reducible rfl)
          (try simp only [Act.put, List.setIfInBounds_toArray, List.set_cons_zero, List.set_cons_succ])
          refine takeH (i := 3) (oi := _) (v := ?_) rfl (by kernel_rfl) (by kernel_rfl) (by kernel_rfl) (fun _ _ _ h => h) (Or.inl ⟨by rfl, ?_⟩) (by assumption) ?_
          rotate_left
          · first | (intro w hSw; (try dsimp only at hSw); go_simp; done) | (intro w hSw; (try dsimp only at hSw); go_simp; with_reducible rfl)
          (try simp only [Act.put, List.setIfInBounds_toArray, List.set_cons_zero, List.set_cons_succ])
          refine wpAnyH_ready (rs := [4]) (by kernel_rfl) (by simp) ?_
          refine consH rfl (fun Kq hKq => ?_)
          go_simp
          refine (laws_rLess _ _ _ _ _ hm1 hm2).mono ?_
          rintro e wz ⟨rfl, bz⟩
          rw [Hdec.out]
          have bz2 := (Below.refl w38.heap.size w38).drew.trans bz
          have hSS := And.intro (And.intro (cell_up bz2 ca1) (cell_up bz2 ca2)) (And.intro (cell_up bz2 cm1) (cell_up bz2 cm2))
          clear bz
          refine hKq.out _ _ ?_ (fun hHeld1 => ?_)
          · (try dsimp only); first | assumption | exact ⟨⟨ca1, ca2⟩, cm1, cm2⟩
          clear hKq Kq
          (try simp only [Act.put, List.setIfInBounds_toArray, List.set_cons_zero, List.set_cons_succ])
          clear hHeld0
          refine takeH (i := 5) (oi := _) (v := ?_) rfl (by kernel_rfl) (by kernel_rfl) (by kernel_rfl) (fun _ _ _ h => h) (Or.inl ⟨by rfl, ?_⟩) (by assumption) ?_
          rotate_left
          · first | (intro w hSw; (try dsimp only at hSw); go_simp; done) | (intro w hSw; (try dsimp only at hSw); go_simp; with_reducible rfl)
          (try simp only [Act.put, List.setIfInBounds_toArray, List.set_cons_zero, List.set_cons_succ])
          refine takeH (i := 6) (oi := _) (v := ?_) rfl (by kernel_rfl) (by kernel_rfl) (by kernel_rfl) (fun _ _ _ h => h) (Or.inl ⟨by rfl, ?_⟩) (by assumption) ?_
          rotate_left
          · first | (intro w hSw; (try dsimp only at hSw); go_simp; done) | (intro w hSw; (try dsimp only at hSw); go_simp; with_reducible rfl)
          (try simp only [Act.put, List.setIfInBounds_toArray, List.set_cons_zero, List.set_cons_succ])
          refine wpAnyH_done (by kernel_rfl) ?_ _
          refine NoPanic.normal ?_
          go_wp2_with fail
          go_ret
          exact ⟨rfl, HBB_38.out.trans (bz2.mono HBB_38.out.size)⟩
end Go.Proofs.YtnbomleieianoaaGreat.fnEnvelopes
