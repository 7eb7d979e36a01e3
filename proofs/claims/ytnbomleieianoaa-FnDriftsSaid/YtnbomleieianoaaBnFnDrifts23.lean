/- Contracts and plain laws for the statement FnDrifts, part 23. No conditions but those stated in each. -/
import Derived.Test.YtnbomleieianoaaBnFnDrifts15
import Derived.Test.YtnbomleieianoaaBnFnDrifts17
import Derived.Test.YtnbomleieianoaaBnFnDrifts3
import Derived.Test.YtnbomleieianoaaBnFnDrifts19
import Derived.Test.YtnbomleieianoaaBnFnDrifts21
import Derived.Test.YtnbomleieianoaaBnFnDrifts22
import Derived.Deep.DeepCutAuto
/- The walk through the law FnDrifts: it returns true. No conditions but that the argument can be read. -/
namespace Go.Proofs.Ytnbomleieianoaa.fnDrifts
open Go.RowKit
set_option linter.unusedVariables false
set_option maxRecDepth 100000 in
set_option maxHeartbeats 4000000 in
theorem walk (a : Option Addr) (n c : Nat) (w : World) (hm : n ≤ maxLen) (hc : n ≤ c ∧ c ≤ maxLen ∧ (a = none → c = 0)) (h : Bytes0 w a n) :
    Calls Try.prog 5 #[.slice a n c] w fun e w' => e = .returned (.bool true) ∧ Below w.heap.size w w' := by
  clear hm
  by_cases hbig : (n : Int) > 65536
  · go_enter Try.func5, Try.ntmps5
    go_wp2_with (go_at_call 10; refine (laws_vBig _ _ _ _).mono ?_; rintro e w' ⟨rfl, rfl⟩; rw [decide_eq_true hbig])
    go_ret
    exact ⟨rfl, Below.refl _ _⟩
  · have HB := Lib.hid (h.few (by omega))
    have Hc := Lib.hid hc
    have Hnb := Lib.hid hbig
    clear h hc
    go_enter Try.func5, Try.ntmps5
    go_wp2_with (go_at_call 10; refine (laws_vBig _ _ _ _).mono ?_; rintro e w' ⟨rfl, rfl⟩; rw [decide_eq_false hbig])
    refine (spec_DrawDriftsOf _ _ _ _ HB.out).mono ?_
    rintro e w1 ⟨⟨v, rfl, aP, nP, cP, aW, nW, cW, ps, ws, vL, rfl, hD, oL⟩, b1⟩
    obtain ⟨l, oL, hpl⟩ := oL
    obtain ⟨aL, cL, rfl⟩ := oL.shape
    obtain ⟨nL, hnL⟩ : ∃ z, z = l.length := ⟨_, rfl⟩
    rw [← hnL] at oL hpl ⊢
    have HBB := Lib.hid b1
    have HB1 := Lib.hid (HB.out.below b1)
    have hT := hD.tre
    have hIL := oL.ints
    have hcL := oL.cap.2.1
    obtain ⟨ok, hok⟩ : ∃ z, z = paysB ps ws l := ⟨_, rfl⟩
    obtain ⟨dl, hdl⟩ : ∃ z, z = dofV ps ws l := ⟨_, rfl⟩
    obtain ⟨nD, hnD⟩ : ∃ z, z = dl.length := ⟨_, rfl⟩
    obtain ⟨fair, hfair⟩ : ∃ z, z = balV ps ws l := ⟨_, rfl⟩
    obtain ⟨fall, hfall⟩ : ∃ z, z = falV ps ws l := ⟨_, rfl⟩
    have E1 : Hid (∀ W, Below w1.heap.size w1 W → Calls Try.prog 28 #[.agg #[.slice aP nP cP, .slice aW nW cW], .slice aL nL cL] W fun e w' => ∃ v, e = .returned (.tuple #[v, .bool ok]) ∧ Fr.Own w' W.heap.size v dl ∧ Below W.heap.size W w') := Lib.hid fun W hW => by
      rw [hok, hdl]; exact impl_DriftsOf _ _ _ _ _ _ ps ws _ _ _ l W (hT.below hW) (hIL.below hW) hcL (by omega)
    have E2 : Hid (∀ W, Below w1.heap.size w1 W → Calls Try.prog 31 #[.agg #[.slice aP nP cP, .slice aW nW cW], .slice aL nL cL] W fun e w' => ∃ v, e = .returned (.tuple #[v, .bool ok]) ∧ Fr.Own w' W.heap.size v dl ∧ Below W.heap.size W w') := Lib.hid fun W hW => by
      rw [hok, hdl]; exact spec_DriftsOf _ _ _ _ _ _ ps ws _ _ _ l W (hT.below hW) (hIL.below hW) hcL (by omega)
    have E3 : Hid (∀ W, Below w1.heap.size w1 W → Calls Try.prog 32 #[.agg #[.slice aP nP cP, .slice aW nW cW], .slice aL nL cL] W fun e w' => e = .returned (.tuple #[.bool fair, .bool ok]) ∧ Below W.heap.size W w') := Lib.hid fun W hW => by
      rw [hok, hfair]; exact impl_IsFairProcess _ _ _ _ _ _ ps ws _ _ _ l W (hT.below hW) (hIL.below hW) hcL (by omega)
    have E4 : Hid (∀ W, Below w1.heap.size w1 W → Calls Try.prog 33 #[.agg #[.slice aP nP cP, .slice aW nW cW], .slice aL nL cL] W fun e w' => e = .returned (.tuple #[.bool fair, .bool ok]) ∧ Below W.heap.size W w') := Lib.hid fun W hW => by
      rw [hok, hfair]; exact spec_IsFairProcess _ _ _ _ _ _ ps ws _ _ _ l W (hT.below hW) (hIL.below hW) hcL (by omega)
    have E5 : Hid (∀ W, Below w1.heap.size w1 W → Calls Try.prog 21 #[.agg #[.slice aP nP cP, .slice aW nW cW], .slice aL nL cL] W fun e w' => e = .returned (.tuple #[.bool fall, .bool ok]) ∧ Below W.heap.size W w') := Lib.hid fun W hW => by
      rw [hok, hfall]; exact impl_IsFalling _ _ _ _ _ _ ps ws _ _ _ l W (hT.below hW) (hIL.below hW) hcL (by omega)
    have E6 : Hid (∀ W, Below w1.heap.size w1 W → Calls Try.prog 34 #[.agg #[.slice aP nP cP, .slice aW nW cW], .slice aL nL cL] W fun e w' => e = .returned (.tuple #[.bool fall, .bool ok]) ∧ Below W.heap.size W w') := Lib.hid fun W hW => by
      rw [hok, hfall]; exact spec_IsFalling _ _ _ _ _ _ ps ws _ _ _ l W (hT.below hW) (hIL.below hW) hcL (by omega)
    have E7 : Hid (ok = true → ∀ W, Below w1.heap.size w1 W → Calls Try.prog 41 #[.agg #[.slice aP nP cP, .slice aW nW cW]] W fun e w' => ∃ v, e = .returned (.tuple #[v, .bool true]) ∧ Own w' W.heap.size v (sums ps ws) ∧ Below W.heap.size W w') := Lib.hid fun h1 W hW => by
      have ht : treeB ps ws = true := (paysB_t (hok ▸ h1 : paysB ps ws l = true)).2.1
      have hz := impl_SumsOf _ _ _ _ _ _ ps ws W (hT.below hW)
      rw [soV_yes ht, ht] at hz
      exact hz
    have E8 : Hid (ok = true → ∀ W (x : Nat), Below w1.heap.size w1 W → x < nP → Calls Try.prog 42 #[.agg #[.slice aP nP cP, .slice aW nW cW], .int .i64 (x : Int)] W fun e w' => ∃ v, e = .returned (.tuple #[v, .bool true]) ∧ Own w' W.heap.size v (kids ps x) ∧ Below W.heap.size W w') := Lib.hid fun h1 W x hW hx => by
      have ht : treeB ps ws = true := (paysB_t (hok ▸ h1 : paysB ps ws l = true)).2.1
      exact impl_ChildrenOf_t _ _ _ _ _ _ ps ws x W (hT.below hW) ht hx
    have hnD2 : nD ≤ 24 := by rw [hnD, hdl]; exact dofV_len
    have HND := Lib.hid hnD
    have HNL := Lib.hid hnL
    have HL0 := Lib.hid (Below.refl w1.heap.size w1)
    have HIL := Lib.hid hIL
    have HTre := Lib.hid hT
    have HOK := Lib.hid hok
    have HDL := Lib.hid hdl
    have HFA := Lib.hid hfair
    have HFL := Lib.hid hfall
    clear hok hdl hfair hfall hT hIL hcL hD b1 hnL hnD oL hpl
    have zz := Pair.new w1 (.slice none 0 0) (.slice none 0 0) 26
    have zz0 := zz.c0
    have zz1 := zz.c1
    have zz2 := zz.f0
    have zz3 := zz.f1
    clear zz
    have nb := below_new w1 (.cells #[.slice aP nP cP, .slice aW nW cW] 26)
    have PT_2 := Lib.hid (Pair.new w1 (.slice aP nP cP) (.slice aW nW cW) 26)
    have HB1_2 := Lib.hid (HB1.out.below nb)
    have HL0_2 := Lib.hid (HL0.out.trans (nb.mono HL0.out.size))
    have HBB_2 := Lib.hid (HBB.out.trans (nb.mono HBB.out.size))
    clear nb HB1 HL0 HBB
    go_wp2_with fail
    clear zz0 zz1 zz2 zz3 
    generalize (w1.alloc (.cells #[.slice aP nP cP, .slice aW nW cW] 26)) = w2 at *
    refine (E1.out _ HL0_2.out).mono ?_
    rintro e w3 ⟨v3, rfl, o3, b3⟩
    obtain ⟨aD, cD, rfl⟩ := o3.shape
    rw [← HND.out] at o3 ⊢
    have HB1_3 := Lib.hid (HB1_2.out.below b3)
    have PT_3 := Lib.hid (PT_2.out.below b3)
    have HL0_3 := Lib.hid (HL0_2.out.trans (b3.mono HL0_2.out.size))
    have HBB_3 := Lib.hid (HBB_2.out.trans (b3.mono HBB_2.out.size))
    clear b3 HB1_2 PT_2 HL0_2 HBB_2
    have XD_3 := Lib.hid (o3)
    clear o3
    have op0 := PT_3.out.c0
    have op1 := PT_3.out.c1
    have op2 := PT_3.out.lt
    go_wp2_with fail
    clear op0 op1 op2
    refine (E2.out _ HL0_3.out).mono ?_
    rintro e w4 ⟨v4, rfl, o4, b4⟩
    obtain ⟨aD2, cD2, rfl⟩ := o4.shape
    rw [← HND.out] at o4 ⊢
    have HB1_4 := Lib.hid (HB1_3.out.below b4)
    have PT_4 := Lib.hid (PT_3.out.below b4)
    have XD_4 := Lib.hid (XD_3.out.below b4)
    have HL0_4 := Lib.hid (HL0_3.out.trans (b4.mono HL0_3.out.size))
    have HBB_4 := Lib.hid (HBB_3.out.trans (b4.mono HBB_3.out.size))
    clear b4 HB1_3 PT_3 XD_3 HL0_3 HBB_3
    have XD2_4 := Lib.hid (o4)
    clear o4
    have op0 := PT_4.out.c0
    have op1 := PT_4.out.c1
    have op2 := PT_4.out.lt
    go_wp2_with fail
    clear op0 op1 op2
    refine (E3.out _ HL0_4.out).mono ?_
    rintro e w5 ⟨rfl, b5⟩
    have HB1_5 := Lib.hid (HB1_4.out.below b5)
    have PT_5 := Lib.hid (PT_4.out.below b5)
    have XD_5 := Lib.hid (XD_4.out.below b5)
    have XD2_5 := Lib.hid (XD2_4.out.below b5)
    have HL0_5 := Lib.hid (HL0_4.out.trans (b5.mono HL0_4.out.size))
    have HBB_5 := Lib.hid (HBB_4.out.trans (b5.mono HBB_4.out.size))
    clear b5 HB1_4 PT_4 XD_4 XD2_4 HL0_4 HBB_4
    have op0 := PT_5.out.c0
    have op1 := PT_5.out.c1
    have op2 := PT_5.out.lt
    go_wp2_with fail
    clear op0 op1 op2
    refine (E4.out _ HL0_5.out).mono ?_
    rintro e w6 ⟨rfl, b6⟩
    have HB1_6 := Lib.hid (HB1_5.out.below b6)
    have PT_6 := Lib.hid (PT_5.out.below b6)
    have XD_6 := Lib.hid (XD_5.out.below b6)
    have XD2_6 := Lib.hid (XD2_5.out.below b6)
    have HL0_6 := Lib.hid (HL0_5.out.trans (b6.mono HL0_5.out.size))
    have HBB_6 := Lib.hid (HBB_5.out.trans (b6.mono HBB_5.out.size))
    clear b6 HB1_5 PT_5 XD_5 XD2_5 HL0_5 HBB_5
    have op0 := PT_6.out.c0
    have op1 := PT_6.out.c1
    have op2 := PT_6.out.lt
    go_wp2_with fail
    clear op0 op1 op2
    refine (E5.out _ HL0_6.out).mono ?_
    rintro e w7 ⟨rfl, b7⟩
    have HB1_7 := Lib.hid (HB1_6.out.below b7)
    have PT_7 := Lib.hid (PT_6.out.below b7)
    have XD_7 := Lib.hid (XD_6.out.below b7)
    have XD2_7 := Lib.hid (XD2_6.out.below b7)
    have HL0_7 := Lib.hid (HL0_6.out.trans (b7.mono HL0_6.out.size))
    have HBB_7 := Lib.hid (HBB_6.out.trans (b7.mono HBB_6.out.size))
    clear b7 HB1_6 PT_6 XD_6 XD2_6 HL0_6 HBB_6
    have op0 := PT_7.out.c0
    have op1 := PT_7.out.c1
    have op2 := PT_7.out.lt
    go_wp2_with fail
    clear op0 op1 op2
    refine (E6.out _ HL0_7.out).mono ?_
    rintro e w8 ⟨rfl, b8⟩
    have HB1_8 := Lib.hid (HB1_7.out.below b8)
    have PT_8 := Lib.hid (PT_7.out.below b8)
    have XD_8 := Lib.hid (XD_7.out.below b8)
    have XD2_8 := Lib.hid (XD2_7.out.below b8)
    have HL0_8 := Lib.hid (HL0_7.out.trans (b8.mono HL0_7.out.size))
    have HBB_8 := Lib.hid (HBB_7.out.trans (b8.mono HBB_7.out.size))
    clear b8 HB1_7 PT_7 XD_7 XD2_7 HL0_7 HBB_7
    go_wp2_with fail
    clear E1 E2 E3 E4 E5 E6
    as_aux_lemma =>
    refine (laws_vCut _ _ _ _ (by have := Hnb.out; omega) Hc.out.1 Hc.out.2.2 HB1_8.out).mono ?_
    rintro e w9 ⟨v9, rfl, ⟨a20, n20, c20, rfl, hy20⟩, b9⟩
    have HY20 := Lib.hid hy20
    clear hy20
    have HB1_9 := Lib.hid (HB1_8.out.below b9)
    have PT_9 := Lib.hid (PT_8.out.below b9)
    have XD_9 := Lib.hid (XD_8.out.below b9)
    have XD2_9 := Lib.hid (XD2_8.out.below b9)
    have HL0_9 := Lib.hid (HL0_8.out.trans (b9.mono HL0_8.out.size))
    have HBB_9 := Lib.hid (HBB_8.out.trans (b9.mono HBB_8.out.size))
    clear b9 HB1_8 PT_8 XD_8 XD2_8 HL0_8 HBB_8
    go_wp2_with fail
    refine (spec_DrawFairProcess _ _ _ _ HY20.out).mono ?_
    rintro e w10 ⟨⟨v10, rfl, uP, nuP, duP, uW, nuW, duW, us, vs, vQ, rfl, hD2, oQ⟩, b10⟩
    have HB1_10 := Lib.hid (HB1_9.out.below b10)
    have PT_10 := Lib.hid (PT_9.out.below b10)
    have XD_10 := Lib.hid (XD_9.out.below b10)
    have XD2_10 := Lib.hid (XD2_9.out.below b10)
    have HL0_10 := Lib.hid (HL0_9.out.trans (b10.mono HL0_9.out.size))
    have HBB_10 := Lib.hid (HBB_9.out.trans (b10.mono HBB_9.out.size))
    clear b10 HB1_9 PT_9 XD_9 XD2_9 HL0_9 HBB_9
    have HM_10 := Lib.hid (Below.refl w10.heap.size w10)
    obtain ⟨q, oQ, hql⟩ := oQ
    obtain ⟨aQ, cQ, rfl⟩ := oQ.shape
    obtain ⟨nQ, hnQ⟩ : ∃ z, z = q.length := ⟨_, rfl⟩
    rw [← hnQ] at oQ hql ⊢
    have hT2 := hD2.tre
    have hIQ := oQ.ints
    have hcQ := oQ.cap.2.1
    obtain ⟨one, hone⟩ : ∃ z, z = fpB us vs q := ⟨_, rfl⟩
    obtain ⟨ml, hml⟩ : ∃ z, z = fpV us vs q := ⟨_, rfl⟩
    obtain ⟨nM, hnM⟩ : ∃ z, z = ml.length := ⟨_, rfl⟩
    have M1 : Hid (∀ W, Below w10.heap.size w10 W → Calls Try.prog 36 #[.agg #[.slice uP nuP duP, .slice uW nuW duW], .slice aQ nQ cQ] W fun e w' => ∃ v, e = .returned (.tuple #[v, .bool one]) ∧ Own w' W.heap.size v ml ∧ Below W.heap.size W w') := Lib.hid fun W hW => by
      rw [hone, hml]; exact impl_FairProcess _ _ _ _ _ _ us vs _ _ _ q W (hT2.below hW) (hIQ.below hW) hcQ (by omega)
    have M2 : Hid (∀ W, Below w10.heap.size w10 W → Calls Try.prog 37 #[.agg #[.slice uP nuP duP, .slice uW nuW duW], .slice aQ nQ cQ] W fun e w' => ∃ v, e = .returned (.tuple #[v, .bool one]) ∧ Own w' W.heap.size v ml ∧ Below W.heap.size W w') := Lib.hid fun W hW => by
      rw [hone, hml]; exact spec_FairProcess _ _ _ _ _ _ us vs _ _ _ q W (hT2.below hW) (hIQ.below hW) hcQ (by omega)
    have M3 : Hid (one = true → ∀ W a0 n0 c0, Below w10.heap.size w10 W → Ints W a0 n0 ml → (a0 = none → c0 = 0) → n0 ≤ 1048576 → Calls Try.prog 32 #[.agg #[.slice uP nuP duP, .slice uW nuW duW], .slice a0 n0 c0] W fun e w' => e = .returned (.tuple #[.bool true, .bool true]) ∧ Below W.heap.size W w') := Lib.hid fun h1 W a0 n0 c0 hW hI0 hc0 hn0 => by
      have hb : fpB us vs q = true := hone ▸ h1
      have hf := fp_fair hb
      have hz := impl_IsFairProcess _ _ _ _ _ _ us vs a0 n0 c0 ml W (hT2.below hW) hI0 hc0 hn0
      rw [hml, fpV_yes hb, balV_yes hf.1, hf.1, hf.2] at hz
      exact hz
    have hnM2 : nM ≤ 24 := by
      rw [hnM, hml]
      cases hb : fpB us vs q
      · rw [fpV_no hb]; exact Nat.zero_le _
      · rw [fpV_yes hb, fpL_length]; exact (epB_t (fpB_t hb).1).1.n24
    have HNM := Lib.hid hnM
    clear hone hml hnM hT2 hIQ hcQ hD2 oQ hql hnQ
    have zz := Pair.new w10 (.slice none 0 0) (.slice none 0 0) 26
    have zz0 := zz.c0
    have zz1 := zz.c1
    have zz2 := zz.f0
    have zz3 := zz.f1
    clear zz
    have nb := below_new w10 (.cells #[.slice uP nuP duP, .slice uW nuW duW] 26)
    have UT_11 := Lib.hid (Pair.new w10 (.slice uP nuP duP) (.slice uW nuW duW) 26)
    have HB1_11 := Lib.hid (HB1_10.out.below nb)
    have PT_11 := Lib.hid (PT_10.out.below nb)
    have XD_11 := Lib.hid (XD_10.out.below nb)
    have XD2_11 := Lib.hid (XD2_10.out.below nb)
    have HL0_11 := Lib.hid (HL0_10.out.trans (nb.mono HL0_10.out.size))
    have HBB_11 := Lib.hid (HBB_10.out.trans (nb.mono HBB_10.out.size))
    have HM_11 := Lib.hid (HM_10.out.trans (nb.mono HM_10.out.size))
    clear nb HB1_10 PT_10 XD_10 XD2_10 HL0_10 HBB_10 HM_10
    go_wp2_with fail
    clear zz0 zz1 zz2 zz3 
    generalize (w10.alloc (.cells #[.slice uP nuP duP, .slice uW nuW duW] 26)) = w11 at *
    refine (M1.out _ HM_11.out).mono ?_
    rintro e w12 ⟨v12, rfl, o12, b12⟩
    obtain ⟨aM, cM, rfl⟩ := o12.shape
    rw [← HNM.out] at o12 ⊢
    have hcM := o12.cap.2.1
    have HB1_12 := Lib.hid (HB1_11.out.below b12)
    have PT_12 := Lib.hid (PT_11.out.below b12)
    have XD_12 := Lib.hid (XD_11.out.below b12)
    have XD2_12 := Lib.hid (XD2_11.out.below b12)
    have UT_12 := Lib.hid (UT_11.out.below b12)
    have HL0_12 := Lib.hid (HL0_11.out.trans (b12.mono HL0_11.out.size))
    have HBB_12 := Lib.hid (HBB_11.out.trans (b12.mono HBB_11.out.size))
    have HM_12 := Lib.hid (HM_11.out.trans (b12.mono HM_11.out.size))
    clear b12 HB1_11 PT_11 XD_11 XD2_11 UT_11 HL0_11 HBB_11 HM_11
    have XM_12 := Lib.hid (o12)
    clear o12
    have op0 := UT_12.out.c0
    have op1 := UT_12.out.c1
    have op2 := UT_12.out.lt
    go_wp2_with fail
    clear op0 op1 op2
    refine (M2.out _ HM_12.out).mono ?_
    rintro e w13 ⟨v13, rfl, o13, b13⟩
    obtain ⟨aM2, cM2, rfl⟩ := o13.shape
    rw [← HNM.out] at o13 ⊢
    have hcM2 := o13.cap.2.1
    have HB1_13 := Lib.hid (HB1_12.out.below b13)
    have PT_13 := Lib.hid (PT_12.out.below b13)
    have XD_13 := Lib.hid (XD_12.out.below b13)
    have XD2_13 := Lib.hid (XD2_12.out.below b13)
    have UT_13 := Lib.hid (UT_12.out.below b13)
    have XM_13 := Lib.hid (XM_12.out.below b13)
    have HL0_13 := Lib.hid (HL0_12.out.trans (b13.mono HL0_12.out.size))
    have HBB_13 := Lib.hid (HBB_12.out.trans (b13.mono HBB_12.out.size))
    have HM_13 := Lib.hid (HM_12.out.trans (b13.mono HM_12.out.size))
    clear b13 HB1_12 PT_12 XD_12 XD2_12 UT_12 XM_12 HL0_12 HBB_12 HM_12
    have XM2_13 := Lib.hid (o13)
    clear o13
    go_wp2_with fail
    clear M1 M2
    as_aux_lemma =>
    refine (laws_vCut2 _ _ _ _ (by have := Hnb.out; omega) Hc.out.1 Hc.out.2.2 HB1_13.out).mono ?_
    rintro e w14 ⟨v14, rfl, ⟨a30, n30, c30, rfl, hy30⟩, b14⟩
    have HY30 := Lib.hid hy30
    clear hy30
    have HB1_14 := Lib.hid (HB1_13.out.below b14)
    have PT_14 := Lib.hid (PT_13.out.below b14)
    have XD_14 := Lib.hid (XD_13.out.below b14)
    have XD2_14 := Lib.hid (XD2_13.out.below b14)
    have UT_14 := Lib.hid (UT_13.out.below b14)
    have XM_14 := Lib.hid (XM_13.out.below b14)
    have XM2_14 := Lib.hid (XM2_13.out.below b14)
    have HL0_14 := Lib.hid (HL0_13.out.trans (b14.mono HL0_13.out.size))
    have HBB_14 := Lib.hid (HBB_13.out.trans (b14.mono HBB_13.out.size))
    have HM_14 := Lib.hid (HM_13.out.trans (b14.mono HM_13.out.size))
    clear b14 HB1_13 PT_13 XD_13 XD2_13 UT_13 XM_13 XM2_13 HL0_13 HBB_13 HM_13
    go_wp2_with fail
    refine (spec_DrawIsProcess _ _ _ _ HY30.out).mono ?_
    rintro e w15 ⟨⟨v15, rfl, kP, nkP, dkP, kW, nkW, dkW, ys, zs, vR, rfl, hD3, oR⟩, b15⟩
    have HB1_15 := Lib.hid (HB1_14.out.below b15)
    have PT_15 := Lib.hid (PT_14.out.below b15)
    have XD_15 := Lib.hid (XD_14.out.below b15)
    have XD2_15 := Lib.hid (XD2_14.out.below b15)
    have UT_15 := Lib.hid (UT_14.out.below b15)
    have XM_15 := Lib.hid (XM_14.out.below b15)
    have XM2_15 := Lib.hid (XM2_14.out.below b15)
    have HL0_15 := Lib.hid (HL0_14.out.trans (b15.mono HL0_14.out.size))
    have HBB_15 := Lib.hid (HBB_14.out.trans (b15.mono HBB_14.out.size))
    have HM_15 := Lib.hid (HM_14.out.trans (b15.mono HM_14.out.size))
    clear b15 HB1_14 PT_14 XD_14 XD2_14 UT_14 XM_14 XM2_14 HL0_14 HBB_14 HM_14
    have HN_15 := Lib.hid (Below.refl w15.heap.size w15)
    obtain ⟨r, oR, hrl⟩ := oR
    obtain ⟨aR, cR, rfl⟩ := oR.shape
    obtain ⟨nR, hnR⟩ : ∃ z, z = r.length := ⟨_, rfl⟩
    rw [← hnR] at oR hrl ⊢
    have hT3 := hD3.tre
    have hIR := oR.ints
    have hcR := oR.cap.2.1
    obtain ⟨isp, hisp⟩ : ∃ z, z = paysB ys zs r := ⟨_, rfl⟩
    obtain ⟨two, htwo⟩ : ∃ z, z = treeB ys zs := ⟨_, rfl⟩
    have N1 : Hid (∀ W, Below w15.heap.size w15 W → Calls Try.prog 39 #[.agg #[.slice kP nkP dkP, .slice kW nkW dkW], .slice aR nR cR] W fun e w' => e = .returned (.tuple #[.bool isp, .bool two]) ∧ Below W.heap.size W w') := Lib.hid fun W hW => by
      rw [hisp, htwo]; exact impl_IsProcess _ _ _ _ _ _ ys zs _ _ _ r W (hT3.below hW) (hIR.below hW) hcR (by omega)
    have N2 : Hid (∀ W, Below w15.heap.size w15 W → Calls Try.prog 40 #[.agg #[.slice kP nkP dkP, .slice kW nkW dkW], .slice aR nR cR] W fun e w' => e = .returned (.tuple #[.bool isp, .bool two]) ∧ Below W.heap.size W w') := Lib.hid fun W hW => by
      rw [hisp, htwo]; exact spec_IsProcess _ _ _ _ _ _ ys zs _ _ _ r W (hT3.below hW) (hIR.below hW) hcR (by omega)
    clear hisp htwo hT3 hD3 hIR hcR oR hrl hnR
    have zz := Pair.new w15 (.slice none 0 0) (.slice none 0 0) 26
    have zz0 := zz.c0
    have zz1 := zz.c1
    have zz2 := zz.f0
    have zz3 := zz.f1
    clear zz
    have nb := below_new w15 (.cells #[.slice kP nkP dkP, .slice kW nkW dkW] 26)
    have KT_16 := Lib.hid (Pair.new w15 (.slice kP nkP dkP) (.slice kW nkW dkW) 26)
    have HB1_16 := Lib.hid (HB1_15.out.below nb)
    have PT_16 := Lib.hid (PT_15.out.below nb)
    have XD_16 := Lib.hid (XD_15.out.below nb)
    have XD2_16 := Lib.hid (XD2_15.out.below nb)
    have UT_16 := Lib.hid (UT_15.out.below nb)
    have XM_16 := Lib.hid (XM_15.out.below nb)
    have XM2_16 := Lib.hid (XM2_15.out.below nb)
    have HL0_16 := Lib.hid (HL0_15.out.trans (nb.mono HL0_15.out.size))
    have HBB_16 := Lib.hid (HBB_15.out.trans (nb.mono HBB_15.out.size))
    have HM_16 := Lib.hid (HM_15.out.trans (nb.mono HM_15.out.size))
    have HN_16 := Lib.hid (HN_15.out.trans (nb.mono HN_15.out.size))
    clear nb HB1_15 PT_15 XD_15 XD2_15 UT_15 XM_15 XM2_15 HL0_15 HBB_15 HM_15 HN_15
    go_wp2_with fail
    clear zz0 zz1 zz2 zz3 
    generalize (w15.alloc (.cells #[.slice kP nkP dkP, .slice kW nkW dkW] 26)) = w16 at *
    refine (N1.out _ HN_16.out).mono ?_
    rintro e w17 ⟨rfl, b17⟩
    have HB1_17 := Lib.hid (HB1_16.out.below b17)
    have PT_17 := Lib.hid (PT_16.out.below b17)
    have XD_17 := Lib.hid (XD_16.out.below b17)
    have XD2_17 := Lib.hid (XD2_16.out.below b17)
    have UT_17 := Lib.hid (UT_16.out.below b17)
    have XM_17 := Lib.hid (XM_16.out.below b17)
    have XM2_17 := Lib.hid (XM2_16.out.below b17)
    have KT_17 := Lib.hid (KT_16.out.below b17)
    have HL0_17 := Lib.hid (HL0_16.out.trans (b17.mono HL0_16.out.size))
    have HBB_17 := Lib.hid (HBB_16.out.trans (b17.mono HBB_16.out.size))
    have HM_17 := Lib.hid (HM_16.out.trans (b17.mono HM_16.out.size))
    have HN_17 := Lib.hid (HN_16.out.trans (b17.mono HN_16.out.size))
    clear b17 HB1_16 PT_16 XD_16 XD2_16 UT_16 XM_16 XM2_16 KT_16 HL0_16 HBB_16 HM_16 HN_16
    have op0 := KT_17.out.c0
    have op1 := KT_17.out.c1
    have op2 := KT_17.out.lt
    go_wp2_with fail
    clear op0 op1 op2
    refine (N2.out _ HN_17.out).mono ?_
    rintro e w18 ⟨rfl, b18⟩
    have HB1_18 := Lib.hid (HB1_17.out.below b18)
    have PT_18 := Lib.hid (PT_17.out.below b18)
    have XD_18 := Lib.hid (XD_17.out.below b18)
    have XD2_18 := Lib.hid (XD2_17.out.below b18)
    have UT_18 := Lib.hid (UT_17.out.below b18)
    have XM_18 := Lib.hid (XM_17.out.below b18)
    have XM2_18 := Lib.hid (XM2_17.out.below b18)
    have KT_18 := Lib.hid (KT_17.out.below b18)
    have HL0_18 := Lib.hid (HL0_17.out.trans (b18.mono HL0_17.out.size))
    have HBB_18 := Lib.hid (HBB_17.out.trans (b18.mono HBB_17.out.size))
    have HM_18 := Lib.hid (HM_17.out.trans (b18.mono HM_17.out.size))
    have HN_18 := Lib.hid (HN_17.out.trans (b18.mono HN_17.out.size))
    clear b18 HB1_17 PT_17 XD_17 XD2_17 UT_17 XM_17 XM2_17 KT_17 HL0_17 HBB_17 HM_17 HN_17
    clear KT_18
    clear HN_18
    clear N1 N2
    go_wp2_with fail
    refine (laws_vPairs _ _ _ _ _ dl _ (by omega) XD_18.out.ints XD2_18.out.ints).mono ?_
    rintro e w19 ⟨rfl, b19⟩
    have HB1_19 := Lib.hid (HB1_18.out.below b19)
    have PT_19 := Lib.hid (PT_18.out.below b19)
    have XD_19 := Lib.hid (XD_18.out.below b19)
    have XD2_19 := Lib.hid (XD2_18.out.below b19)
    have UT_19 := Lib.hid (UT_18.out.below b19)
    have XM_19 := Lib.hid (XM_18.out.below b19)
    have XM2_19 := Lib.hid (XM2_18.out.below b19)
    have HL0_19 := Lib.hid (HL0_18.out.trans (b19.mono HL0_18.out.size))
    have HBB_19 := Lib.hid (HBB_18.out.trans (b19.mono HBB_18.out.size))
    have HM_19 := Lib.hid (HM_18.out.trans (b19.mono HM_18.out.size))
    clear b19 HB1_18 PT_18 XD_18 XD2_18 UT_18 XM_18 XM2_18 HL0_18 HBB_18 HM_18
    clear XD2_19
    go_wp2_with fail
    refine (laws_vInts _ _ _ _ _ ml _ (by omega) XM_19.out.ints XM2_19.out.ints).mono ?_
    rintro e w20 ⟨rfl, b20⟩
    have HB1_20 := Lib.hid (HB1_19.out.below b20)
    have PT_20 := Lib.hid (PT_19.out.below b20)
    have XD_20 := Lib.hid (XD_19.out.below b20)
    have UT_20 := Lib.hid (UT_19.out.below b20)
    have XM_20 := Lib.hid (XM_19.out.below b20)
    have XM2_20 := Lib.hid (XM2_19.out.below b20)
    have HL0_20 := Lib.hid (HL0_19.out.trans (b20.mono HL0_19.out.size))
    have HBB_20 := Lib.hid (HBB_19.out.trans (b20.mono HBB_19.out.size))
    have HM_20 := Lib.hid (HM_19.out.trans (b20.mono HM_19.out.size))
    clear b20 HB1_19 PT_19 XD_19 UT_19 XM_19 XM2_19 HL0_19 HBB_19 HM_19
    clear XM2_20
    as_aux_lemma =>
    go_upto_if 169 with fail
    go_cut [20] (fun v20 wc => v20 = .bool one ∧ Below w20.heap.size w20 wc)
    case first => as_aux_lemma =>
      have HS_20 := Lib.hid (Below.refl w20.heap.size w20)
      cases one
      · go_wp2_with fail
        go_meet
        case rel => exact ⟨rfl, Below.refl _ _⟩
      · have J3 := Lib.hid (M3.out rfl)
        have op0 := UT_20.out.c0
        have op1 := UT_20.out.c1
        have op2 := UT_20.out.lt
        go_wp2_with fail
        clear op0 op1 op2
        refine (J3.out _ _ _ _ HM_20.out XM_20.out.ints hcM (by omega)).mono ?_
        rintro e w21 ⟨rfl, b21⟩
        have HB1_21 := Lib.hid (HB1_20.out.below b21)
        have PT_21 := Lib.hid (PT_20.out.below b21)
        have XD_21 := Lib.hid (XD_20.out.below b21)
        have UT_21 := Lib.hid (UT_20.out.below b21)
        have XM_21 := Lib.hid (XM_20.out.below b21)
        have HL0_21 := Lib.hid (HL0_20.out.trans (b21.mono HL0_20.out.size))
        have HBB_21 := Lib.hid (HBB_20.out.trans (b21.mono HBB_20.out.size))
        have HM_21 := Lib.hid (HM_20.out.trans (b21.mono HM_20.out.size))
        have HS_21 := Lib.hid (HS_20.out.trans (b21.mono HS_20.out.size))
        clear b21 HB1_20 PT_20 XD_20 UT_20 XM_20 HL0_20 HBB_20 HM_20 HS_20
        go_wp2_with fail
        go_meet
        case rel => exact ⟨rfl, HS_21.out⟩
    case rest =>
    obtain ⟨rfl, b21⟩ := hcut
    obtain ⟨w21, hwc⟩ : ∃ z, z = wc := ⟨_, rfl⟩
    rw [← hwc] at b21 ⊢
    clear hwc wc
    have HB1_21 := Lib.hid (HB1_20.out.below b21)
    have PT_21 := Lib.hid (PT_20.out.below b21)
    have XD_21 := Lib.hid (XD_20.out.below b21)
    have UT_21 := Lib.hid (UT_20.out.below b21)
    have XM_21 := Lib.hid (XM_20.out.below b21)
    have HL0_21 := Lib.hid (HL0_20.out.trans (b21.mono HL0_20.out.size))
    have HBB_21 := Lib.hid (HBB_20.out.trans (b21.mono HBB_20.out.size))
    have HM_21 := Lib.hid (HM_20.out.trans (b21.mono HM_20.out.size))
    clear b21 HB1_20 PT_20 XD_20 UT_20 XM_20 HL0_20 HBB_20 HM_20
    clear UT_21
    clear HM_21
    clear XM_21
    clear M3
    as_aux_lemma =>
    go_upto_if 183 with fail
    cases ok
    · go_wp2_with fail
      go_ret
      exact ⟨rfl, HBB_21.out⟩
    · as_aux_lemma =>
      have J7 := Lib.hid (E7.out rfl)
      have J8 := Lib.hid (E8.out rfl)
      clear E7 E8
      have hpy := HOK.out.symm
      have hpt := paysB_t hpy
      have hdv : dl = driftL ps ws l := by rw [HDL.out, dofV_yes hpy]
      have hlen : ps.length = nL := by rw [HNL.out]; exact hpt.2.2.2.1.symm
      have hnPL : nP = nL := by have := HTre.out.p.1; omega
      have hnDL : nD = nL := by rw [HND.out, hdv, driftL_length, hlen]
      have hn1 : 1 ≤ nL ∧ nL ≤ 24 := by have := hpt.1.n1; have := hpt.1.n24; omega
      have hsl : (sums ps ws).length = nL := by rw [sums_length hpt.1, hlen]
      have Hsl := Lib.hid hsl
      have Hat : Hid (∀ x, x < nL → (1 ≤ nth (sums ps ws) x ∧ nth (sums ps ws) x ≤ 480) ∧ (-23016960 ≤ Fr.at1 dl x ∧ Fr.at1 dl x ≤ 23016960) ∧ (1 ≤ Fr.at2 dl x ∧ Fr.at2 dl x ≤ 480) ∧ (endB ps x = false → Fr.at1 dl x * nth (sums ps ws) x = (mS (sums ps ws) l (kids ps x) (kids ps x).length - nth (sums ps ws) x * nth l x) * Fr.at2 dl x) ∧ (endB ps x = true → Fr.at1 dl x * nth (sums ps ws) x = (nth (sums ps ws) x * nth l x - nth (sums ps ws) x * nth l x) * Fr.at2 dl x)) := Lib.hid fun x hx => by
        have hz := drf_at hpy (x := x) (by omega)
        rw [hdv]
        exact ⟨hz.1, hz.2.1, hz.2.2.1, hz.2.2.2.1, hz.2.2.2.2.1⟩
      have Hfa : Hid (fair = noB dl nL) := Lib.hid (by rw [HFA.out, balV_yes hpy, hdv, ← hlen, noB_all hpy])
      have Hfl : Hid (fall = loB dl nL) := Lib.hid (by rw [HFL.out, falV_yes hpy, hdv, ← hlen, loB_all hpy])
      have Hns := Lib.hid (noB_succ dl)
      have Hls := Lib.hid (loB_succ dl)
      have Hn0 : Hid (noB dl 0 = true) := Lib.hid rfl
      have Hl0 : Hid (loB dl 0 = true) := Lib.hid rfl
      have Hlb := Lib.hid hpt.2.2.2.2
      have Hkx : Hid (∀ x k, k < (kids ps x).length → ∃ Y : Nat, Y < nL ∧ nth (kids ps x) k = (Y : Int)) := Lib.hid fun x k hk => by
        obtain ⟨Y, h1, _, h2⟩ := nth_filt hk
        exact ⟨Y, by omega, h2⟩
      have Hkl : Hid (∀ x, (kids ps x).length ≤ 24) := Lib.hid fun x => by
        have h1 : (kids ps x).length ≤ ps.length := by rw [kids]; exact filt_length _ _
        omega
      have Hke : Hid (∀ x, endB ps x = ((kids ps x).length == 0)) := Lib.hid fun x => kids_isEmpty
      have Hmb : Hid (∀ x k : Nat, k ≤ 24 → -11508480 ≤ mS (sums ps ws) l (kids ps x) k ∧ mS (sums ps ws) l (kids ps x) k ≤ 11508480) := Lib.hid fun x k hk => by have := mS_bd (rule := kids ps x) hpt.1 hpt.2.2.2.2 k; omega
      have Hmu : Hid (∀ x : Nat, -479520 ≤ nth (sums ps ws) x * nth l x ∧ nth (sums ps ws) x * nth l x ≤ 479520) := Lib.hid fun x => by rw [Int.mul_comm]; exact mul_abs (B := 999) (U := 480) (hpt.2.2.2.2 x) (sums_bd hpt.1 x) (by omega)
      have Hm0 : Hid (∀ x, mS (sums ps ws) l (kids ps x) 0 = 0) := Lib.hid fun x => rfl
      have Hms : Hid (∀ (x k y : Nat), nth (kids ps x) k = (y : Int) → mS (sums ps ws) l (kids ps x) (k + 1) = mS (sums ps ws) l (kids ps x) k + nth (sums ps ws) y * nth l y) := Lib.hid fun x k y hy => by rw [mS, hy, Int.toNat_natCast]
      clear hpy hpt hdv hlen hsl HOK HDL HFA HFL
      subst hnPL
      subst hnDL
      have op0 := PT_21.out.c0
      have op1 := PT_21.out.c1
      have op2 := PT_21.out.lt
      go_wp2_with fail
      clear op0 op1 op2
      refine (J7.out _ HL0_21.out).mono ?_
      rintro e w22 ⟨v22, rfl, o22, b22⟩
      obtain ⟨aS, cS, rfl⟩ := o22.shape
      rw [Hsl.out] at o22 ⊢
      have HB1_22 := Lib.hid (HB1_21.out.below b22)
      have PT_22 := Lib.hid (PT_21.out.below b22)
      have XD_22 := Lib.hid (XD_21.out.below b22)
      have HL0_22 := Lib.hid (HL0_21.out.trans (b22.mono HL0_21.out.size))
      have HBB_22 := Lib.hid (HBB_21.out.trans (b22.mono HBB_21.out.size))
      clear b22 HB1_21 PT_21 XD_21 HL0_21 HBB_21
      have XS_22 := Lib.hid (o22)
      clear o22
      go_wp2_with fail
      have QS := XS_22.out.ints
      have QD := XD_22.out.ints
      have QL := HIL.out.below HL0_22.out
      have QT := PT_22.out
      have QH := HL0_22.out
      have QB := HBB_22.out
      obtain ⟨wo, hwo⟩ : ∃ z, z = w22 := ⟨_, rfl⟩
      rw [← hwo] at QS QD QL QT QH QB ⊢
      have QS := Lib.hid QS
      have QD := Lib.hid QD
      have QL := Lib.hid QL
      have QT := Lib.hid QT
      have QH := Lib.hid QH
      have QB := Lib.hid QB
      clear hwo
      go_loopw [33, 34, 35] (fun v33 v34 v35 wr => ∃ x : Nat, x ≤ nD ∧ v35 = .int .i64 (x : Int) ∧ v33 = .bool (noB dl x) ∧ v34 = .bool (loB dl x) ∧ Below wo.heap.size wo wr) (fun _ _ v35 _ => nD - (intOf v35).toNat)
      case atStart => exact ⟨0, Nat.zero_le _, rfl, by rw [Hn0.out], by rw [Hl0.out], Below.refl _ _⟩
      case round =>
        obtain ⟨x, hx, rfl, rfl, rfl, hbr⟩ := hrel
        by_cases hlt : (x : Int) < nD
        · have hPb := QT.out.below hbr
          have x0 := hPb.c0
          have x1 := hPb.c1
          have HW1 := Lib.hid (QH.out.trans (hbr.mono QH.out.size))
          clear hPb
          obtain ⟨wq, rfl⟩ : ∃ z, z = wr := ⟨_, rfl⟩
          go_wp2_with fail
          refine (J8.out _ x HW1.out (by omega)).mono ?_
          rintro e w5 ⟨v5, rfl, o5, b5⟩
          obtain ⟨aK, cK, rfl⟩ := o5.shape
          obtain ⟨nK, hnK⟩ : ∃ z, z = (kids ps x).length := ⟨_, rfl⟩
          rw [← hnK] at o5 ⊢
          have hkl := Hkl.out x
          rw [← hnK] at hkl
          have HnK := Lib.hid hnK
          have hb5 := hbr.trans (b5.mono hbr.size)
          have QK := Lib.hid o5.ints
          have QS5 := Lib.hid (QS.out.below hb5)
          have QL5 := Lib.hid (QL.out.below hb5)
          have QD5 := Lib.hid (QD.out.below hb5)
          have Hb5 := Lib.hid hb5
          clear x0 x1 o5 b5 hnK hb5 hbr
          obtain ⟨wk, hwk⟩ : ∃ z, z = w5 := ⟨_, rfl⟩
          rw [← hwk] at QK QS5 QL5 QD5 Hb5 ⊢
          clear hwk
          go_wp2_with fail
          go_loopw [38, 39] (fun v38 v39 wr => ∃ k m : Nat, k ≤ nK ∧ v39 = .int .i64 (k : Int) ∧ v38 = .int .i64 (mS (sums ps ws) l (kids ps x) k) ∧ wr = wk.drewN m) (fun _ v39 _ => nK - (intOf v39).toNat)
          case atStart => exact ⟨0, 0, Nat.zero_le _, rfl, by rw [Hm0.out], rfl⟩
          case round =>
            obtain ⟨k, m, hk, rfl, rfl, hwr⟩ := hrel
            have hbr : Below wk.heap.size wk wr := by rw [hwr]; exact below_drewN (Below.refl _ _) m
            have Hwr := Lib.hid hwr
            clear hwr
            by_cases hlt2 : (k : Int) < nK
            · obtain ⟨b1, o1, rfl, hc1⟩ := QK.out.at (i := k) hbr (by omega)
              obtain ⟨y, hy, hye⟩ := Hkx.out x k (by have := HnK.out; omega)
              rw [hye] at hc1
              obtain ⟨b2, o2, rfl, hc2⟩ := QL5.out.at (i := y) hbr (by omega)
              obtain ⟨b3, o3, rfl, hc3⟩ := QS5.out.at (i := y) hbr (by omega)
              have Hst2 := Lib.hid (Hms.out x k y hye)
              have h1 := Hmb.out x k (by omega)
              have h2 := Hmu.out y
              clear hye
              generalize mS (sums ps ws) l (kids ps x) k = sm at *
              generalize nth l y = u at *
              generalize nth (sums ps ws) y = v at *
              have k1 : IntKind.i64.wrap (v * u) = v * u := IntWalk.i64_in _ (by omega)
              have k2 : IntKind.i64.wrap (sm + v * u) = sm + v * u := IntWalk.i64_in _ (by omega)
              have k3 : (0 : Int) ≤ (y : Int) := by omega
              have k4 : (y : Int) < (nD : Int) := by omega
              have k5 : (0 : Int) ≤ (k : Int) := by omega
              clear h1 h2
              go_wp2_with fail
              go_quiet (fail)
              go_wp2_with fail
              go_roundw
              case rel => exact ⟨k + 1, _, by omega, by go_num, by rw [Hst2.out], by first | rw [Hwr.out, World.drewN_drewN] | rw [Hwr.out, World.drewN_drewN, World.drewN_drewN]⟩
              case measure => simp [intOf] <;> omega
            · obtain rfl : k = nK := by omega
              obtain ⟨b3, o3, rfl, hc3⟩ := QS5.out.at (i := x) hbr (by omega)
              obtain ⟨b2, o2, rfl, hc2⟩ := QL5.out.at (i := x) hbr (by omega)
              obtain ⟨b4, o4, rfl, hb4, hcs⟩ := QD5.out.2 (by omega)
              obtain ⟨hA, hB⟩ := hcs x (by omega)
              have hA' := (hbr.cell (p := ⟨b4, o4 + x * 2, none⟩) hb4).trans hA
              have hB' := (hbr.cell (p := ⟨b4, o4 + x * 2 + 1, none⟩) hb4).trans hB
              have hmb := Hmb.out x k (by omega)
              have hmu := Hmu.out x
              obtain ⟨⟨hs1, hs2⟩, ⟨hg1, hg2⟩, ⟨hg3, hg4⟩, hin, hen⟩ := Hat.out x (by omega)
              rw [Hke.out, ← HnK.out] at hin hen
              have Hnx := Lib.hid (Hns.out x)
              have Hlx := Lib.hid (Hls.out x)
              have HBk := Lib.hid (Hb5.out.trans (hbr.mono Hb5.out.size))
              clear hcs hA hB
              generalize mS (sums ps ws) l (kids ps x) k = sm at *
              generalize nth l x = p at *
              generalize nth (sums ps ws) x = s at *
              generalize Fr.at1 dl x = g1 at *
              generalize Fr.at2 dl x = g2 at *
              obtain ⟨nb, hnb⟩ : ∃ z, z = noB dl x := ⟨_, rfl⟩
              obtain ⟨lb, hlb⟩ : ∃ z, z = loB dl x := ⟨_, rfl⟩
              rw [← hnb] at Hnx ⊢
              rw [← hlb] at Hlx ⊢
              clear hnb hlb
              have k1 : IntKind.i64.wrap (s * p) = s * p := IntWalk.i64_in _ (by omega)
              have m1 := mul_abs3 (a := g1) (b := s) (M := 23016960) (N := 480) (by omega) (by omega)
              have k2 : IntKind.i64.wrap (g1 * s) = g1 * s := IntWalk.i64_in _ (by omega)
              have k7 : (0 : Int) ≤ (x : Int) := by omega
              by_cases hk0 : k = 0
              · subst hk0
                have he := hen (by rfl)
                have k3 : IntKind.i64.wrap (s * p - s * p) = s * p - s * p := IntWalk.i64_in _ (by omega)
                have k4 : IntKind.i64.wrap ((s * p - s * p) * g2) = (s * p - s * p) * g2 := IntWalk.i64_in _ (by rw [Int.sub_self, Int.zero_mul]; omega)
                have k5 : (g1 * s != (s * p - s * p) * g2) = false := by rw [bne_eq_false_iff_eq]; exact he
                clear he hin hen hmb hmu hs1 hs2 m1
                go_wp2_with fail
                go_quiet (fail)
                go_wp2_with fail
                go_quiet (fail)
                go_upto_region 39 with fail
                cases nb
                · cases lb
                  · go_wp2_with fail
                    go_roundw
                    case rel => exact ⟨x + 1, by omega, by go_num, by rw [Hnx.out]; rfl, by rw [Hlx.out]; rfl, below_drewN HBk.out _⟩
                    case measure => simp [intOf] <;> omega
                  · by_cases hl : g1 ≤ 0
                    · go_wp2_with fail
                      go_roundw
                      case rel => exact ⟨x + 1, by omega, by go_num, by rw [Hnx.out]; rfl, by rw [Hlx.out, decide_eq_true hl]; rfl, below_drewN HBk.out _⟩
                      case measure => simp [intOf] <;> omega
                    · go_wp2_with fail
                      go_roundw
                      case rel => exact ⟨x + 1, by omega, by go_num, by rw [Hnx.out]; rfl, by rw [Hlx.out, decide_eq_false hl]; rfl, below_drewN HBk.out _⟩
                      case measure => simp [intOf] <;> omega
                · by_cases hz : g1 = 0
                  · have hzb : (g1 == 0) = true := by rw [beq_iff_eq]; exact hz
                    have Hzb := Lib.hid hzb
                    have hl : g1 ≤ 0 := by omega
                    have Hl := Lib.hid hl
                    cases lb
                    · go_wp2_with fail
                      go_roundw
                      case rel => exact ⟨x + 1, by omega, by go_num, by rw [Hnx.out, Hzb.out]; rfl, by rw [Hlx.out]; rfl, below_drewN HBk.out _⟩
                      case measure => simp [intOf] <;> omega
                    · go_wp2_with fail
                      go_roundw
                      case rel => exact ⟨x + 1, by omega, by go_num, by rw [Hnx.out, Hzb.out]; rfl, by rw [Hlx.out, decide_eq_true Hl.out]; rfl, below_drewN HBk.out _⟩
                      case measure => simp [intOf] <;> omega
                  · have hzb : (g1 == 0) = false := by rw [beq_eq_false_iff_ne]; exact hz
                    have Hzb := Lib.hid hzb
                    cases lb
                    · go_wp2_with fail
                      go_roundw
                      case rel => exact ⟨x + 1, by omega, by go_num, by rw [Hnx.out, Hzb.out]; rfl, by rw [Hlx.out]; rfl, below_drewN HBk.out _⟩
                      case measure => simp [intOf] <;> omega
                    · by_cases hl : g1 ≤ 0
                      · go_wp2_with fail
                        go_roundw
                        case rel => exact ⟨x + 1, by omega, by go_num, by rw [Hnx.out, Hzb.out]; rfl, by rw [Hlx.out, decide_eq_true hl]; rfl, below_drewN HBk.out _⟩
                        case measure => simp [intOf] <;> omega
                      · go_wp2_with fail
                        go_roundw
                        case rel => exact ⟨x + 1, by omega, by go_num, by rw [Hnx.out, Hzb.out]; rfl, by rw [Hlx.out, decide_eq_false hl]; rfl, below_drewN HBk.out _⟩
                        case measure => simp [intOf] <;> omega
              · have he := hin (by rw [beq_eq_false_iff_ne]; exact hk0)
                have m2 := mul_abs3 (a := sm - s * p) (b := g2) (M := 12000000) (N := 480) (by omega) (by omega)
                have k3 : IntKind.i64.wrap (sm - s * p) = sm - s * p := IntWalk.i64_in _ (by omega)
                have k4 : IntKind.i64.wrap ((sm - s * p) * g2) = (sm - s * p) * g2 := IntWalk.i64_in _ (by omega)
                have k5 : (g1 * s != (sm - s * p) * g2) = false := by rw [bne_eq_false_iff_eq]; exact he
                have k6 : ((k : Int) == 0) = false := by rw [beq_eq_false_iff_ne]; omega
                clear he hin hen hmb hmu hs1 hs2 m1 m2
                go_wp2_with fail
                go_quiet (fail)
                go_upto_region 39 with fail
                cases nb
                · cases lb
                  · go_wp2_with fail
                    go_roundw
                    case rel => exact ⟨x + 1, by omega, by go_num, by rw [Hnx.out]; rfl, by rw [Hlx.out]; rfl, below_drewN HBk.out _⟩
                    case measure => simp [intOf] <;> omega
                  · by_cases hl : g1 ≤ 0
                    · go_wp2_with fail
                      go_roundw
                      case rel => exact ⟨x + 1, by omega, by go_num, by rw [Hnx.out]; rfl, by rw [Hlx.out, decide_eq_true hl]; rfl, below_drewN HBk.out _⟩
                      case measure => simp [intOf] <;> omega
                    · go_wp2_with fail
                      go_roundw
                      case rel => exact ⟨x + 1, by omega, by go_num, by rw [Hnx.out]; rfl, by rw [Hlx.out, decide_eq_false hl]; rfl, below_drewN HBk.out _⟩
                      case measure => simp [intOf] <;> omega
                · by_cases hz : g1 = 0
                  · have hzb : (g1 == 0) = true := by rw [beq_iff_eq]; exact hz
                    have Hzb := Lib.hid hzb
                    have hl : g1 ≤ 0 := by omega
                    have Hl := Lib.hid hl
                    cases lb
                    · go_wp2_with fail
                      go_roundw
                      case rel => exact ⟨x + 1, by omega, by go_num, by rw [Hnx.out, Hzb.out]; rfl, by rw [Hlx.out]; rfl, below_drewN HBk.out _⟩
                      case measure => simp [intOf] <;> omega
                    · go_wp2_with fail
                      go_roundw
                      case rel => exact ⟨x + 1, by omega, by go_num, by rw [Hnx.out, Hzb.out]; rfl, by rw [Hlx.out, decide_eq_true Hl.out]; rfl, below_drewN HBk.out _⟩
                      case measure => simp [intOf] <;> omega
                  · have hzb : (g1 == 0) = false := by rw [beq_eq_false_iff_ne]; exact hz
                    have Hzb := Lib.hid hzb
                    cases lb
                    · go_wp2_with fail
                      go_roundw
                      case rel => exact ⟨x + 1, by omega, by go_num, by rw [Hnx.out, Hzb.out]; rfl, by rw [Hlx.out]; rfl, below_drewN HBk.out _⟩
                      case measure => simp [intOf] <;> omega
                    · by_cases hl : g1 ≤ 0
                      · go_wp2_with fail
                        go_roundw
                        case rel => exact ⟨x + 1, by omega, by go_num, by rw [Hnx.out, Hzb.out]; rfl, by rw [Hlx.out, decide_eq_true hl]; rfl, below_drewN HBk.out _⟩
                        case measure => simp [intOf] <;> omega
                      · go_wp2_with fail
                        go_roundw
                        case rel => exact ⟨x + 1, by omega, by go_num, by rw [Hnx.out, Hzb.out]; rfl, by rw [Hlx.out, decide_eq_false hl]; rfl, below_drewN HBk.out _⟩
                        case measure => simp [intOf] <;> omega
        · obtain rfl : x = nD := by omega
          have hfa := Hfa.out
          have hfl := Hfl.out
          have HBZ := Lib.hid (QB.out.trans (hbr.mono QB.out.size))
          generalize noB dl x = nb at *
          generalize loB dl x = lb at *
          subst hfa
          subst hfl
          clear Hat Hns Hls Hn0 Hl0 Hfa Hfl
          cases fair
          · cases fall
            · go_wp2_with fail
              go_ret
              exact ⟨rfl, HBZ.out⟩
            · go_wp2_with fail
              go_ret
              exact ⟨rfl, HBZ.out⟩
          · cases fall
            · go_wp2_with fail
              go_ret
              exact ⟨rfl, HBZ.out⟩
            · go_wp2_with fail
              go_ret
              exact ⟨rfl, HBZ.out⟩
end Go.Proofs.Ytnbomleieianoaa.fnDrifts
