/- Contracts and plain laws for the statement FnRules, part 22. No conditions but those stated in each. -/
import Derived.Test.YtnbomleieianoaaGreatBnFnRules16
import Derived.Test.YtnbomleieianoaaGreatBnFnRules14
import Derived.Test.YtnbomleieianoaaGreatBnFnRules21
import Derived.Test.YtnbomleieianoaaGreatBnFnRules12
import Derived.Test.YtnbomleieianoaaGreatBnFnRules11
import Derived.Test.YtnbomleieianoaaGreatBnFnRules18
import Derived.Test.YtnbomleieianoaaGreatBnFnRules13
import Derived.Test.YtnbomleieianoaaGreatBnFnRules9
import Derived.Test.YtnbomleieianoaaGreatBnFnRules3
import Derived.Deep.DeepCutAuto
import Derived.Deep.CutRange
/- The walk through the law FnRules: it returns true. No conditions but that the argument can be read. -/
namespace Go.Proofs.YtnbomleieianoaaGreat.fnRules
open Go.RowKit
set_option linter.unusedVariables false
set_option maxRecDepth 100000 in
set_option maxHeartbeats 4000000 in
theorem walk (a : Option Addr) (n c : Nat) (w : World) (hm : n ≤ maxLen) (hc : n ≤ c ∧ c ≤ maxLen ∧ (a = none → c = 0)) (h : Bytes0 w a n) :
    Calls Tryz.prog 5 #[.slice a n c] w fun e w' => e = .returned (.bool true) ∧ Below w.heap.size w w' := by
  clear hm hc
  by_cases hbig : (n : Int) > 65536
  · go_enter Tryz.func5, Tryz.ntmps5
    go_wp2_with (go_at_call 29; refine (laws_rBig _ _ _ _).mono ?_; rintro e w' ⟨rfl, rfl⟩; rw [decide_eq_true hbig])
    go_ret
    exact ⟨rfl, Below.refl _ _⟩
  · have HB := Lib.hid (h.few (by omega))
    clear h
    go_enter Tryz.func5, Tryz.ntmps5
    go_wp2_with (go_at_call 29; refine (laws_rBig _ _ _ _).mono ?_; rintro e w' ⟨rfl, rfl⟩; rw [decide_eq_false hbig])
    refine (spec_DrawEarlierRule _ _ _ _ HB.out).mono ?_
    rintro e w1 ⟨⟨v, rfl, aP, nP, cP, aW, nW, cW, ps, ws, vA, vB, rfl, hD, oA, oB⟩, b1⟩
    obtain ⟨aA, nA, cA, la, rfl, hIA, hla, hcA, -⟩ := oA
    obtain ⟨aB, nB, cB, lb, rfl, hIB, hlb, hcB, -⟩ := oB
    have HBB := Lib.hid b1
    have HB1 := Lib.hid (HB.out.below b1)
    have hT := hD.tre
    obtain ⟨ok, hok⟩ : ∃ z, z = twoB ps ws la lb := ⟨_, rfl⟩
    obtain ⟨first, hfirst⟩ : ∃ z, z = erlV ps ws la lb true := ⟨_, rfl⟩
    obtain ⟨last, hlast⟩ : ∃ z, z = erlV ps ws la lb false := ⟨_, rfl⟩
    have E1 : Hid (∀ W, Below w1.heap.size w1 W → Calls Tryz.prog 51 #[.agg #[.slice aP nP cP, .slice aW nW cW], .slice aA nA cA, .slice aB nB cB] W fun e w' => ∃ v, e = .returned (.tuple #[v, .bool ok]) ∧ Own w' W.heap.size v first ∧ Below W.heap.size W w') := Lib.hid fun W hW => by
      rw [hok, hfirst]; exact impl_EarlierRule _ _ _ _ _ _ ps ws _ _ _ la _ _ _ lb W (hT.below hW) (hIA.below hW) hcA (by omega) (hIB.below hW) hcB (by omega)
    have E2 : Hid (∀ W, Below w1.heap.size w1 W → Calls Tryz.prog 52 #[.agg #[.slice aP nP cP, .slice aW nW cW], .slice aA nA cA, .slice aB nB cB] W fun e w' => ∃ v, e = .returned (.tuple #[v, .bool ok]) ∧ Own w' W.heap.size v first ∧ Below W.heap.size W w') := Lib.hid fun W hW => by
      rw [hok, hfirst]; exact spec_EarlierRule _ _ _ _ _ _ ps ws _ _ _ la _ _ _ lb W (hT.below hW) (hIA.below hW) hcA (by omega) (hIB.below hW) hcB (by omega)
    have E3 : Hid (∀ W, Below w1.heap.size w1 W → Calls Tryz.prog 53 #[.agg #[.slice aP nP cP, .slice aW nW cW], .slice aA nA cA, .slice aB nB cB] W fun e w' => ∃ v, e = .returned (.tuple #[v, .bool ok]) ∧ Own w' W.heap.size v last ∧ Below W.heap.size W w') := Lib.hid fun W hW => by
      rw [hok, hlast]; exact impl_LaterRule _ _ _ _ _ _ ps ws _ _ _ la _ _ _ lb W (hT.below hW) (hIA.below hW) hcA (by omega) (hIB.below hW) hcB (by omega)
    have E4 : Hid (∀ W, Below w1.heap.size w1 W → Calls Tryz.prog 54 #[.agg #[.slice aP nP cP, .slice aW nW cW], .slice aA nA cA, .slice aB nB cB] W fun e w' => ∃ v, e = .returned (.tuple #[v, .bool ok]) ∧ Own w' W.heap.size v last ∧ Below W.heap.size W w') := Lib.hid fun W hW => by
      rw [hok, hlast]; exact spec_LaterRule _ _ _ _ _ _ ps ws _ _ _ la _ _ _ lb W (hT.below hW) (hIA.below hW) hcA (by omega) (hIB.below hW) hcB (by omega)
    obtain ⟨num, hnum⟩ : ∃ z, z = numL ps.length := ⟨_, rfl⟩
    obtain ⟨np, hnp⟩ : ∃ z, z = ps.length := ⟨_, rfl⟩
    obtain ⟨xA, hxA⟩ : ∃ z, z = rmN ps ws num la := ⟨_, rfl⟩
    obtain ⟨yA, hyA⟩ : ∃ z, z = rmD ps ws num la := ⟨_, rfl⟩
    obtain ⟨xB, hxB⟩ : ∃ z, z = rmN ps ws num lb := ⟨_, rfl⟩
    obtain ⟨yB, hyB⟩ : ∃ z, z = rmD ps ws num lb := ⟨_, rfl⟩
    obtain ⟨xF, hxF⟩ : ∃ z, z = rmN ps ws num first := ⟨_, rfl⟩
    obtain ⟨yF, hyF⟩ : ∃ z, z = rmD ps ws num first := ⟨_, rfl⟩
    obtain ⟨xG, hxG⟩ : ∃ z, z = rmN ps ws num last := ⟨_, rfl⟩
    obtain ⟨yG, hyG⟩ : ∃ z, z = rmD ps ws num last := ⟨_, rfl⟩
    obtain ⟨sn, hsn⟩ : ∃ z, z = lowN (xA * yB + xB * yA) (yA * yB) := ⟨_, rfl⟩
    obtain ⟨sd, hsd⟩ : ∃ z, z = lowD (xA * yB + xB * yA) (yA * yB) := ⟨_, rfl⟩
    obtain ⟨sb, hsb⟩ : ∃ z, z = lowB (xA * yB + xB * yA) (yA * yB) := ⟨_, rfl⟩
    have hRS := fun h => rules_sum (hok ▸ h : twoB ps ws la lb = true) hnum
    rw [← hfirst, ← hlast, ← hxA, ← hyA, ← hxB, ← hyB, ← hxF, ← hyF, ← hxG, ← hyG, ← hsn, ← hsd, ← hsb] at hRS
    have hnuml : num.length = np := by rw [hnum, numL_length, hnp]
    have R0 : Hid (ok = true → ∀ W a0 n0 c0, Below w1.heap.size w1 W → Ints W a0 n0 num → (a0 = none → c0 = 0) → n0 ≤ 1048576 → Calls Tryz.prog 31 #[.agg #[.slice aP nP cP, .slice aW nW cW], .slice a0 n0 c0, .slice aA nA cA] W fun e w' => e = .returned (.tuple #[.agg #[.int .i64 xA, .int .i64 yA], .bool true]) ∧ Below W.heap.size W w') := Lib.hid fun h1 W a0 n0 c0 hW hI0 hc0 hn0 => by
      have hRS := hRS h1
      have hz := impl_RuleMean _ _ _ _ _ _ ps ws a0 n0 c0 num _ _ _ la W (hT.below hW) hI0 hc0 (by omega) (hIA.below hW) hcA (by omega)
      rw [hRS.1.1, ← hxA, ← hyA] at hz
      exact hz
    have R1 : Hid (ok = true → ∀ W a0 n0 c0, Below w1.heap.size w1 W → Ints W a0 n0 num → (a0 = none → c0 = 0) → n0 ≤ 1048576 → Calls Tryz.prog 31 #[.agg #[.slice aP nP cP, .slice aW nW cW], .slice a0 n0 c0, .slice aB nB cB] W fun e w' => e = .returned (.tuple #[.agg #[.int .i64 xB, .int .i64 yB], .bool true]) ∧ Below W.heap.size W w') := Lib.hid fun h1 W a0 n0 c0 hW hI0 hc0 hn0 => by
      have hRS := hRS h1
      have hz := impl_RuleMean _ _ _ _ _ _ ps ws a0 n0 c0 num _ _ _ lb W (hT.below hW) hI0 hc0 (by omega) (hIB.below hW) hcB (by omega)
      rw [hRS.1.2.1, ← hxB, ← hyB] at hz
      exact hz
    have R2 : Hid (ok = true → ∀ W a0 n0 c0 a2 n2 c2, Below w1.heap.size w1 W → Ints W a0 n0 num → (a0 = none → c0 = 0) → n0 ≤ 1048576 → Ints W a2 n2 first → (a2 = none → c2 = 0) → n2 ≤ 1048576 → Calls Tryz.prog 31 #[.agg #[.slice aP nP cP, .slice aW nW cW], .slice a0 n0 c0, .slice a2 n2 c2] W fun e w' => e = .returned (.tuple #[.agg #[.int .i64 xF, .int .i64 yF], .bool true]) ∧ Below W.heap.size W w') := Lib.hid fun h1 W a0 n0 c0 a2 n2 c2 hW hI0 hc0 hn0 hI2 hc2 hn2 => by
      have hRS := hRS h1
      have hz := impl_RuleMean _ _ _ _ _ _ ps ws a0 n0 c0 num a2 n2 c2 first W (hT.below hW) hI0 hc0 (by omega) hI2 hc2 (by omega)
      rw [hRS.1.2.2.1, ← hxF, ← hyF] at hz
      exact hz
    have R3 : Hid (ok = true → ∀ W a0 n0 c0 a2 n2 c2, Below w1.heap.size w1 W → Ints W a0 n0 num → (a0 = none → c0 = 0) → n0 ≤ 1048576 → Ints W a2 n2 last → (a2 = none → c2 = 0) → n2 ≤ 1048576 → Calls Tryz.prog 31 #[.agg #[.slice aP nP cP, .slice aW nW cW], .slice a0 n0 c0, .slice a2 n2 c2] W fun e w' => e = .returned (.tuple #[.agg #[.int .i64 xG, .int .i64 yG], .bool true]) ∧ Below W.heap.size W w') := Lib.hid fun h1 W a0 n0 c0 a2 n2 c2 hW hI0 hc0 hn0 hI2 hc2 hn2 => by
      have hRS := hRS h1
      have hz := impl_RuleMean _ _ _ _ _ _ ps ws a0 n0 c0 num a2 n2 c2 last W (hT.below hW) hI0 hc0 (by omega) hI2 hc2 (by omega)
      rw [hRS.1.2.2.2, ← hxG, ← hyG] at hz
      exact hz
    have S1 : Hid (ok = true → ∀ W, Calls Tryz.prog 68 #[.agg #[.int .i64 xA, .int .i64 yA], .agg #[.int .i64 xB, .int .i64 yB]] W fun e w' => e = .returned (.tuple #[.agg #[.int .i64 sn, .int .i64 sd], .bool sb]) ∧ Below W.heap.size W w') := Lib.hid fun h1 W => by
      have hRS := (hRS h1).2.1
      have hz := impl_AddFractions_t xA yA xB yB W hRS.1 hRS.2.1
      rw [← hsn, ← hsd, ← hsb] at hz
      exact hz
    have S2 : Hid (ok = true → ∀ W, Calls Tryz.prog 68 #[.agg #[.int .i64 xF, .int .i64 yF], .agg #[.int .i64 xG, .int .i64 yG]] W fun e w' => e = .returned (.tuple #[.agg #[.int .i64 sn, .int .i64 sd], .bool sb]) ∧ Below W.heap.size W w') := Lib.hid fun h1 W => by
      have hRS := hRS h1
      have hz := impl_AddFractions_t xF yF xG yG W hRS.2.1.2.2.1 hRS.2.1.2.2.2
      rw [← hRS.2.2.1, ← hRS.2.2.2.1, ← hRS.2.2.2.2] at hz
      exact hz
    have HNUM := Lib.hid hnum
    have HNP := Lib.hid hnp
    have HNL := Lib.hid hnuml
    have HPL : Hid (np = nP) := Lib.hid (by rw [hnp]; exact hT.p.1)
    have hnp24 : ok = true → np ≤ 24 := fun h1 => by
      have h0 := hok ▸ h1
      simp only [twoB, Bool.and_eq_true] at h0
      rw [hnp]; exact (treeB_t h0.1).n24
    have HNP24 := Lib.hid hnp24
    clear hnum hnp hnuml hRS hxA hyA hxB hyB hxF hyF hxG hyG hsn hsd hsb hnp24
    have hlp := hT.p.1
    have hfl : first.length ≤ 24 := by rw [hfirst]; exact erl_len
    have hll : last.length ≤ 24 := by rw [hlast]; exact erl_len
    obtain ⟨nF, hnF⟩ : ∃ z, z = first.length := ⟨_, rfl⟩
    obtain ⟨nG, hnG⟩ : ∃ z, z = last.length := ⟨_, rfl⟩
    have hnF2 : nF ≤ 24 := by omega
    have hnG2 : nG ≤ 24 := by omega
    have HNF := Lib.hid hnF
    have HNG := Lib.hid hnG
    have HL0 := Lib.hid (Below.refl w1.heap.size w1)
    clear hok hfirst hlast hT hIA hIB hcA hcB hD b1 hla hlb hfl hll hnF hnG hlp
    have zz := Pair.new w1 (.slice none 0 0) (.slice none 0 0) 26
    have zz0 := zz.c0
    have zz1 := zz.c1
    have zz2 := zz.f0
    have zz3 := zz.f1
    clear zz
    have nb := below_new w1 (.cells #[.slice aP nP cP, .slice aW nW cW] 26)
    have PT_2 := Lib.hid (Pair.new w1 (.slice aP nP cP) (.slice aW nW cW) 26)
    have HB1_2 := Lib.hid (HB1.out.below nb)
    have HL0_2 := Lib.hid (HL0.out.trans (nb.mono HL0.out.size))
    have HBB_2 := Lib.hid (HBB.out.trans (nb.mono HBB.out.size))
    clear nb HB1 HL0 HBB
    go_wp2_with fail
    clear zz0 zz1 zz2 zz3 
    generalize (w1.alloc (.cells #[.slice aP nP cP, .slice aW nW cW] 26)) = w2 at *
    refine (E1.out _ HL0_2.out).mono ?_
    rintro e w3 ⟨v3, rfl, o3, b3⟩
    obtain ⟨aF, cF, rfl⟩ := o3.shape
    rw [← HNF.out] at o3 ⊢
    have hcF := o3.cap.2.1
    have HB1_3 := Lib.hid (HB1_2.out.below b3)
    have PT_3 := Lib.hid (PT_2.out.below b3)
    have HL0_3 := Lib.hid (HL0_2.out.trans (b3.mono HL0_2.out.size))
    have HBB_3 := Lib.hid (HBB_2.out.trans (b3.mono HBB_2.out.size))
    clear b3 HB1_2 PT_2 HL0_2 HBB_2
    have XF_3 := Lib.hid (o3)
    clear o3
    have op0 := PT_3.out.c0
    have op1 := PT_3.out.c1
    have op2 := PT_3.out.lt
    go_wp2_with fail
    clear op0 op1 op2
    refine (E2.out _ HL0_3.out).mono ?_
    rintro e w4 ⟨v4, rfl, o4, b4⟩
    obtain ⟨aF2, cF2, rfl⟩ := o4.shape
    rw [← HNF.out] at o4 ⊢
    have HB1_4 := Lib.hid (HB1_3.out.below b4)
    have PT_4 := Lib.hid (PT_3.out.below b4)
    have XF_4 := Lib.hid (XF_3.out.below b4)
    have HL0_4 := Lib.hid (HL0_3.out.trans (b4.mono HL0_3.out.size))
    have HBB_4 := Lib.hid (HBB_3.out.trans (b4.mono HBB_3.out.size))
    clear b4 HB1_3 PT_3 XF_3 HL0_3 HBB_3
    have XFW_4 := Lib.hid (o4)
    clear o4
    go_wp2_with fail
    refine (laws_rInts _ _ _ _ _ first _ (by omega) XF_4.out.ints XFW_4.out.ints).mono ?_
    rintro e w5 ⟨rfl, b5⟩
    have HB1_5 := Lib.hid (HB1_4.out.below b5)
    have PT_5 := Lib.hid (PT_4.out.below b5)
    have XF_5 := Lib.hid (XF_4.out.below b5)
    have XFW_5 := Lib.hid (XFW_4.out.below b5)
    have HL0_5 := Lib.hid (HL0_4.out.trans (b5.mono HL0_4.out.size))
    have HBB_5 := Lib.hid (HBB_4.out.trans (b5.mono HBB_4.out.size))
    clear b5 HB1_4 PT_4 XF_4 XFW_4 HL0_4 HBB_4
    clear XFW_5
    have op0 := PT_5.out.c0
    have op1 := PT_5.out.c1
    have op2 := PT_5.out.lt
    go_wp2_with fail
    clear op0 op1 op2
    refine (E3.out _ HL0_5.out).mono ?_
    rintro e w6 ⟨v6, rfl, o6, b6⟩
    obtain ⟨aG, cG, rfl⟩ := o6.shape
    rw [← HNG.out] at o6 ⊢
    have hcG := o6.cap.2.1
    have HB1_6 := Lib.hid (HB1_5.out.below b6)
    have PT_6 := Lib.hid (PT_5.out.below b6)
    have XF_6 := Lib.hid (XF_5.out.below b6)
    have HL0_6 := Lib.hid (HL0_5.out.trans (b6.mono HL0_5.out.size))
    have HBB_6 := Lib.hid (HBB_5.out.trans (b6.mono HBB_5.out.size))
    clear b6 HB1_5 PT_5 XF_5 HL0_5 HBB_5
    have XG_6 := Lib.hid (o6)
    clear o6
    have op0 := PT_6.out.c0
    have op1 := PT_6.out.c1
    have op2 := PT_6.out.lt
    go_wp2_with fail
    clear op0 op1 op2
    refine (E4.out _ HL0_6.out).mono ?_
    rintro e w7 ⟨v7, rfl, o7, b7⟩
    obtain ⟨aG2, cG2, rfl⟩ := o7.shape
    rw [← HNG.out] at o7 ⊢
    have HB1_7 := Lib.hid (HB1_6.out.below b7)
    have PT_7 := Lib.hid (PT_6.out.below b7)
    have XF_7 := Lib.hid (XF_6.out.below b7)
    have XG_7 := Lib.hid (XG_6.out.below b7)
    have HL0_7 := Lib.hid (HL0_6.out.trans (b7.mono HL0_6.out.size))
    have HBB_7 := Lib.hid (HBB_6.out.trans (b7.mono HBB_6.out.size))
    clear b7 HB1_6 PT_6 XF_6 XG_6 HL0_6 HBB_6
    have XGW_7 := Lib.hid (o7)
    clear o7
    go_wp2_with fail
    refine (laws_rInts _ _ _ _ _ last _ (by omega) XG_7.out.ints XGW_7.out.ints).mono ?_
    rintro e w8 ⟨rfl, b8⟩
    have HB1_8 := Lib.hid (HB1_7.out.below b8)
    have PT_8 := Lib.hid (PT_7.out.below b8)
    have XF_8 := Lib.hid (XF_7.out.below b8)
    have XG_8 := Lib.hid (XG_7.out.below b8)
    have XGW_8 := Lib.hid (XGW_7.out.below b8)
    have HL0_8 := Lib.hid (HL0_7.out.trans (b8.mono HL0_7.out.size))
    have HBB_8 := Lib.hid (HBB_7.out.trans (b8.mono HBB_7.out.size))
    clear b8 HB1_7 PT_7 XF_7 XG_7 XGW_7 HL0_7 HBB_7
    clear XGW_8
    as_aux_lemma =>
    go_wp2_with fail
    refine (spec_DrawIsNoLater _ _ _ _ HB1_8.out).mono ?_
    rintro e w9 ⟨⟨v9, rfl, uP, nuP, duP, uW, nuW, duW, us, vs, vP, vQ, rfl, hD2, oP, oQ⟩, b9⟩
    have HB1_9 := Lib.hid (HB1_8.out.below b9)
    have PT_9 := Lib.hid (PT_8.out.below b9)
    have XF_9 := Lib.hid (XF_8.out.below b9)
    have XG_9 := Lib.hid (XG_8.out.below b9)
    have HL0_9 := Lib.hid (HL0_8.out.trans (b9.mono HL0_8.out.size))
    have HBB_9 := Lib.hid (HBB_8.out.trans (b9.mono HBB_8.out.size))
    clear b9 HB1_8 PT_8 XF_8 XG_8 HL0_8 HBB_8
    have HM_9 := Lib.hid (Below.refl w9.heap.size w9)
    obtain ⟨aQ, nQ, cQ, lq, rfl, hIQ, hlq, hcQ, -⟩ := oQ
    obtain ⟨aJ, nJ, cJ, lp, rfl, hIJ, hlp, hcJ, -⟩ := oP
    have hT2 := hD2.tre
    obtain ⟨soon, hsoon⟩ : ∃ z, z = noLV us vs lp lq := ⟨_, rfl⟩
    obtain ⟨two, htwo⟩ : ∃ z, z = twoB us vs lp lq := ⟨_, rfl⟩
    have N1 : Hid (∀ W, Below w9.heap.size w9 W → Calls Tryz.prog 23 #[.agg #[.slice uP nuP duP, .slice uW nuW duW], .slice aJ nJ cJ, .slice aQ nQ cQ] W fun e w' => e = .returned (.tuple #[.bool soon, .bool two]) ∧ Below W.heap.size W w') := Lib.hid fun W hW => by
      rw [hsoon, htwo]; exact impl_IsNoLater _ _ _ _ _ _ us vs _ _ _ lp _ _ _ lq W (hT2.below hW) (hIJ.below hW) hcJ (by omega) (hIQ.below hW) hcQ (by omega)
    have N2 : Hid (∀ W, Below w9.heap.size w9 W → Calls Tryz.prog 56 #[.agg #[.slice uP nuP duP, .slice uW nuW duW], .slice aJ nJ cJ, .slice aQ nQ cQ] W fun e w' => e = .returned (.tuple #[.bool soon, .bool two]) ∧ Below W.heap.size W w') := Lib.hid fun W hW => by
      rw [hsoon, htwo]; exact spec_IsNoLater _ _ _ _ _ _ us vs _ _ _ lp _ _ _ lq W (hT2.below hW) (hIJ.below hW) hcJ (by omega) (hIQ.below hW) hcQ (by omega)
    clear hsoon htwo hT2 hD2 hIQ hIJ hcQ hcJ hlq hlp
    have zz := Pair.new w9 (.slice none 0 0) (.slice none 0 0) 26
    have zz0 := zz.c0
    have zz1 := zz.c1
    have zz2 := zz.f0
    have zz3 := zz.f1
    clear zz
    have nb := below_new w9 (.cells #[.slice uP nuP duP, .slice uW nuW duW] 26)
    have UT_10 := Lib.hid (Pair.new w9 (.slice uP nuP duP) (.slice uW nuW duW) 26)
    have HB1_10 := Lib.hid (HB1_9.out.below nb)
    have PT_10 := Lib.hid (PT_9.out.below nb)
    have XF_10 := Lib.hid (XF_9.out.below nb)
    have XG_10 := Lib.hid (XG_9.out.below nb)
    have HL0_10 := Lib.hid (HL0_9.out.trans (nb.mono HL0_9.out.size))
    have HBB_10 := Lib.hid (HBB_9.out.trans (nb.mono HBB_9.out.size))
    have HM_10 := Lib.hid (HM_9.out.trans (nb.mono HM_9.out.size))
    clear nb HB1_9 PT_9 XF_9 XG_9 HL0_9 HBB_9 HM_9
    go_wp2_with fail
    clear zz0 zz1 zz2 zz3 
    generalize (w9.alloc (.cells #[.slice uP nuP duP, .slice uW nuW duW] 26)) = w10 at *
    refine (N1.out _ HM_10.out).mono ?_
    rintro e w11 ⟨rfl, b11⟩
    have HB1_11 := Lib.hid (HB1_10.out.below b11)
    have PT_11 := Lib.hid (PT_10.out.below b11)
    have XF_11 := Lib.hid (XF_10.out.below b11)
    have XG_11 := Lib.hid (XG_10.out.below b11)
    have UT_11 := Lib.hid (UT_10.out.below b11)
    have HL0_11 := Lib.hid (HL0_10.out.trans (b11.mono HL0_10.out.size))
    have HBB_11 := Lib.hid (HBB_10.out.trans (b11.mono HBB_10.out.size))
    have HM_11 := Lib.hid (HM_10.out.trans (b11.mono HM_10.out.size))
    clear b11 HB1_10 PT_10 XF_10 XG_10 UT_10 HL0_10 HBB_10 HM_10
    have op0 := UT_11.out.c0
    have op1 := UT_11.out.c1
    have op2 := UT_11.out.lt
    go_wp2_with fail
    clear op0 op1 op2
    refine (N2.out _ HM_11.out).mono ?_
    rintro e w12 ⟨rfl, b12⟩
    have HB1_12 := Lib.hid (HB1_11.out.below b12)
    have PT_12 := Lib.hid (PT_11.out.below b12)
    have XF_12 := Lib.hid (XF_11.out.below b12)
    have XG_12 := Lib.hid (XG_11.out.below b12)
    have UT_12 := Lib.hid (UT_11.out.below b12)
    have HL0_12 := Lib.hid (HL0_11.out.trans (b12.mono HL0_11.out.size))
    have HBB_12 := Lib.hid (HBB_11.out.trans (b12.mono HBB_11.out.size))
    have HM_12 := Lib.hid (HM_11.out.trans (b12.mono HM_11.out.size))
    clear b12 HB1_11 PT_11 XF_11 XG_11 UT_11 HL0_11 HBB_11 HM_11
    clear UT_12
    clear HM_12
    clear N1 N2
    go_wp2_with fail
    refine (spec_DrawIsRule _ _ _ _ HB1_12.out).mono ?_
    rintro e w13 ⟨⟨v13, rfl, gP, ngP, dgP, gW, ngW, dgW, gs, hs, vG, rfl, hD3, oG⟩, b13⟩
    have HB1_13 := Lib.hid (HB1_12.out.below b13)
    have PT_13 := Lib.hid (PT_12.out.below b13)
    have XF_13 := Lib.hid (XF_12.out.below b13)
    have XG_13 := Lib.hid (XG_12.out.below b13)
    have HL0_13 := Lib.hid (HL0_12.out.trans (b13.mono HL0_12.out.size))
    have HBB_13 := Lib.hid (HBB_12.out.trans (b13.mono HBB_12.out.size))
    clear b13 HB1_12 PT_12 XF_12 XG_12 HL0_12 HBB_12
    have HM_13 := Lib.hid (Below.refl w13.heap.size w13)
    obtain ⟨aH, nH, cH, lg, rfl, hIH, hlg, hcH, -⟩ := oG
    have hT3 := hD3.tre
    obtain ⟨isr, hisr⟩ : ∃ z, z = isRuleV gs hs lg := ⟨_, rfl⟩
    obtain ⟨three, hthree⟩ : ∃ z, z = treeB gs hs := ⟨_, rfl⟩
    have I1 : Hid (∀ W, Below w13.heap.size w13 W → Calls Tryz.prog 22 #[.agg #[.slice gP ngP dgP, .slice gW ngW dgW], .slice aH nH cH] W fun e w' => e = .returned (.tuple #[.bool isr, .bool three]) ∧ Below W.heap.size W w') := Lib.hid fun W hW => by
      rw [hisr, hthree]; exact impl_IsRule _ _ _ _ _ _ gs hs _ _ _ lg W (hT3.below hW) (hIH.below hW) hcH (by omega)
    have I2 : Hid (∀ W, Below w13.heap.size w13 W → Calls Tryz.prog 58 #[.agg #[.slice gP ngP dgP, .slice gW ngW dgW], .slice aH nH cH] W fun e w' => e = .returned (.tuple #[.bool isr, .bool three]) ∧ Below W.heap.size W w') := Lib.hid fun W hW => by
      rw [hisr, hthree]; exact spec_IsRule _ _ _ _ _ _ gs hs _ _ _ lg W (hT3.below hW) (hIH.below hW) hcH (by omega)
    have I3 : Hid (∀ W, Below w13.heap.size w13 W → Calls Tryz.prog 59 #[.agg #[.slice gP ngP dgP, .slice gW ngW dgW]] W fun e w' => e = .returned (.bool three) ∧ Below W.heap.size W w') := Lib.hid fun W hW => by
      rw [hthree]; exact impl_IsTree _ _ _ _ _ _ gs hs W (hT3.below hW)
    clear hisr hthree hT3 hD3 hIH hcH hlg
    have zz := Pair.new w13 (.slice none 0 0) (.slice none 0 0) 26
    have zz0 := zz.c0
    have zz1 := zz.c1
    have zz2 := zz.f0
    have zz3 := zz.f1
    clear zz
    have nb := below_new w13 (.cells #[.slice gP ngP dgP, .slice gW ngW dgW] 26)
    have GT_14 := Lib.hid (Pair.new w13 (.slice gP ngP dgP) (.slice gW ngW dgW) 26)
    have HB1_14 := Lib.hid (HB1_13.out.below nb)
    have PT_14 := Lib.hid (PT_13.out.below nb)
    have XF_14 := Lib.hid (XF_13.out.below nb)
    have XG_14 := Lib.hid (XG_13.out.below nb)
    have HL0_14 := Lib.hid (HL0_13.out.trans (nb.mono HL0_13.out.size))
    have HBB_14 := Lib.hid (HBB_13.out.trans (nb.mono HBB_13.out.size))
    have HM_14 := Lib.hid (HM_13.out.trans (nb.mono HM_13.out.size))
    clear nb HB1_13 PT_13 XF_13 XG_13 HL0_13 HBB_13 HM_13
    go_wp2_with fail
    clear zz0 zz1 zz2 zz3 
    generalize (w13.alloc (.cells #[.slice gP ngP dgP, .slice gW ngW dgW] 26)) = w14 at *
    refine (I1.out _ HM_14.out).mono ?_
    rintro e w15 ⟨rfl, b15⟩
    have HB1_15 := Lib.hid (HB1_14.out.below b15)
    have PT_15 := Lib.hid (PT_14.out.below b15)
    have XF_15 := Lib.hid (XF_14.out.below b15)
    have XG_15 := Lib.hid (XG_14.out.below b15)
    have GT_15 := Lib.hid (GT_14.out.below b15)
    have HL0_15 := Lib.hid (HL0_14.out.trans (b15.mono HL0_14.out.size))
    have HBB_15 := Lib.hid (HBB_14.out.trans (b15.mono HBB_14.out.size))
    have HM_15 := Lib.hid (HM_14.out.trans (b15.mono HM_14.out.size))
    clear b15 HB1_14 PT_14 XF_14 XG_14 GT_14 HL0_14 HBB_14 HM_14
    have op0 := GT_15.out.c0
    have op1 := GT_15.out.c1
    have op2 := GT_15.out.lt
    go_wp2_with fail
    clear op0 op1 op2
    refine (I2.out _ HM_15.out).mono ?_
    rintro e w16 ⟨rfl, b16⟩
    have HB1_16 := Lib.hid (HB1_15.out.below b16)
    have PT_16 := Lib.hid (PT_15.out.below b16)
    have XF_16 := Lib.hid (XF_15.out.below b16)
    have XG_16 := Lib.hid (XG_15.out.below b16)
    have GT_16 := Lib.hid (GT_15.out.below b16)
    have HL0_16 := Lib.hid (HL0_15.out.trans (b16.mono HL0_15.out.size))
    have HBB_16 := Lib.hid (HBB_15.out.trans (b16.mono HBB_15.out.size))
    have HM_16 := Lib.hid (HM_15.out.trans (b16.mono HM_15.out.size))
    clear b16 HB1_15 PT_15 XF_15 XG_15 GT_15 HL0_15 HBB_15 HM_15
    have op0 := GT_16.out.c0
    have op1 := GT_16.out.c1
    have op2 := GT_16.out.lt
    go_wp2_with fail
    clear op0 op1 op2
    refine (I3.out _ HM_16.out).mono ?_
    rintro e w17 ⟨rfl, b17⟩
    have HB1_17 := Lib.hid (HB1_16.out.below b17)
    have PT_17 := Lib.hid (PT_16.out.below b17)
    have XF_17 := Lib.hid (XF_16.out.below b17)
    have XG_17 := Lib.hid (XG_16.out.below b17)
    have GT_17 := Lib.hid (GT_16.out.below b17)
    have HL0_17 := Lib.hid (HL0_16.out.trans (b17.mono HL0_16.out.size))
    have HBB_17 := Lib.hid (HBB_16.out.trans (b17.mono HBB_16.out.size))
    have HM_17 := Lib.hid (HM_16.out.trans (b17.mono HM_16.out.size))
    clear b17 HB1_16 PT_16 XF_16 XG_16 GT_16 HL0_16 HBB_16 HM_16
    clear GT_17
    clear HM_17
    clear I1 I2 I3
    as_aux_lemma =>
    go_wp2_with fail
    refine (spec_DrawLookAhead _ _ _ _ HB1_17.out).mono ?_
    rintro e w18 ⟨⟨v18, rfl, kP, nkP, dkP, kW, nkW, dkW, ys, zs, vK, xk, rfl, hD4, oK, -⟩, b18⟩
    have HB1_18 := Lib.hid (HB1_17.out.below b18)
    have PT_18 := Lib.hid (PT_17.out.below b18)
    have XF_18 := Lib.hid (XF_17.out.below b18)
    have XG_18 := Lib.hid (XG_17.out.below b18)
    have HL0_18 := Lib.hid (HL0_17.out.trans (b18.mono HL0_17.out.size))
    have HBB_18 := Lib.hid (HBB_17.out.trans (b18.mono HBB_17.out.size))
    clear b18 HB1_17 PT_17 XF_17 XG_17 HL0_17 HBB_17
    have HK_18 := Lib.hid (Below.refl w18.heap.size w18)
    obtain ⟨pk, oK, hKl⟩ := oK
    obtain ⟨aK, cK, rfl⟩ := oK.shape
    obtain ⟨nK, hnK⟩ : ∃ z, z = pk.length := ⟨_, rfl⟩
    rw [← hnK] at oK hKl ⊢
    have hT4 := hD4.tre
    have hIK := oK.ints
    have hcK := oK.cap.2.1
    obtain ⟨four, hfour⟩ : ∃ z, z = lookOk ys zs pk xk := ⟨_, rfl⟩
    obtain ⟨look, hlook⟩ : ∃ z, z = lookV ys zs pk xk := ⟨_, rfl⟩
    obtain ⟨envK, henvK⟩ : ∃ z, z = envV ys zs pk := ⟨_, rfl⟩
    obtain ⟨bestK, hbestK⟩ : ∃ z, z = bestV ys zs pk := ⟨_, rfl⟩
    obtain ⟨kn, hkn⟩ : ∃ z, z = rmN ys zs pk look := ⟨_, rfl⟩
    obtain ⟨kd, hkd⟩ : ∃ z, z = rmD ys zs pk look := ⟨_, rfl⟩
    obtain ⟨nO, hnO⟩ : ∃ z, z = look.length := ⟨_, rfl⟩
    obtain ⟨nU, hnU⟩ : ∃ z, z = bestK.length := ⟨_, rfl⟩
    have K1 : Hid (∀ W, Below w18.heap.size w18 W → Calls Tryz.prog 61 #[.agg #[.slice kP nkP dkP, .slice kW nkW dkW], .slice aK nK cK, .int .i64 xk] W fun e w' => ∃ v, e = .returned (.tuple #[v, .bool four]) ∧ Own w' W.heap.size v look ∧ Below W.heap.size W w') := Lib.hid fun W hW => by
      rw [hfour, hlook]; exact impl_LookAhead _ _ _ _ _ _ ys zs _ _ _ pk xk W (hT4.below hW) (hIK.below hW) hcK (by omega)
    have K2 : Hid (∀ W, Below w18.heap.size w18 W → Calls Tryz.prog 62 #[.agg #[.slice kP nkP dkP, .slice kW nkW dkW], .slice aK nK cK, .int .i64 xk] W fun e w' => ∃ v, e = .returned (.tuple #[v, .bool four]) ∧ Own w' W.heap.size v look ∧ Below W.heap.size W w') := Lib.hid fun W hW => by
      rw [hfour, hlook]; exact spec_LookAhead _ _ _ _ _ _ ys zs _ _ _ pk xk W (hT4.below hW) (hIK.below hW) hcK (by omega)
    have K3 : Hid (four = true → ∀ W a0 n0 c0, Below w18.heap.size w18 W → Ints W a0 n0 look → (a0 = none → c0 = 0) → n0 ≤ 1048576 → Calls Tryz.prog 31 #[.agg #[.slice kP nkP dkP, .slice kW nkW dkW], .slice aK nK cK, .slice a0 n0 c0] W fun e w' => e = .returned (.tuple #[.agg #[.int .i64 kn, .int .i64 kd], .bool true]) ∧ Below W.heap.size W w') := Lib.hid fun h1 W a0 n0 c0 hW hI0 hc0 hn0 => by
      have hx := (look_cmp (hfour ▸ h1)).2.1
      rw [← hlook] at hx
      have hz := impl_RuleMean _ _ _ _ _ _ ys zs _ _ _ pk a0 n0 c0 look W (hT4.below hW) (hIK.below hW) hcK (by omega) hI0 hc0 (by omega)
      rw [hx, ← hkn, ← hkd] at hz
      exact hz
    have K4 : Hid (four = true → ∀ W, Below w18.heap.size w18 W → Calls Tryz.prog 33 #[.agg #[.slice kP nkP dkP, .slice kW nkW dkW], .slice aK nK cK] W fun e w' => ∃ v, e = .returned (.tuple #[v, .bool true]) ∧ Fr.Own w' W.heap.size v envK ∧ Below W.heap.size W w') := Lib.hid fun h1 W hW => by
      have hx := (look_cmp (hfour ▸ h1)).1
      have hz := impl_EnvelopeOf _ _ _ _ _ _ ys zs _ _ _ pk W (hT4.below hW) (hIK.below hW) hcK (by omega)
      rw [hx, ← henvK] at hz
      exact hz
    have K5 : Hid (four = true → ∀ W, Below w18.heap.size w18 W → Calls Tryz.prog 34 #[.agg #[.slice kP nkP dkP, .slice kW nkW dkW], .slice aK nK cK] W fun e w' => ∃ v, e = .returned (.tuple #[v, .bool true]) ∧ Fr.Own w' W.heap.size v envK ∧ Below W.heap.size W w') := Lib.hid fun h1 W hW => by
      have hx := (look_cmp (hfour ▸ h1)).1
      have hz := spec_EnvelopeOf _ _ _ _ _ _ ys zs _ _ _ pk W (hT4.below hW) (hIK.below hW) hcK (by omega)
      rw [hx, ← henvK] at hz
      exact hz
    have K6 : Hid (four = true → ∀ W, Below w18.heap.size w18 W → Calls Tryz.prog 61 #[.agg #[.slice kP nkP dkP, .slice kW nkW dkW], .slice aK nK cK, .int .i64 24] W fun e w' => ∃ v, e = .returned (.tuple #[v, .bool true]) ∧ Own w' W.heap.size v bestK ∧ Below W.heap.size W w') := Lib.hid fun h1 W hW => by
      have hx := (look_cmp (hfour ▸ h1)).2.2
      have hz := impl_LookAhead _ _ _ _ _ _ ys zs _ _ _ pk 24 W (hT4.below hW) (hIK.below hW) hcK (by omega)
      rw [hx.1, hx.2, ← hbestK] at hz
      exact hz
    have K7 : Hid (four = true → ∀ W, Below w18.heap.size w18 W → Calls Tryz.prog 36 #[.agg #[.slice kP nkP dkP, .slice kW nkW dkW], .slice aK nK cK] W fun e w' => ∃ v, e = .returned (.tuple #[v, .bool true]) ∧ Own w' W.heap.size v bestK ∧ Below W.heap.size W w') := Lib.hid fun h1 W hW => by
      have hx := (look_cmp (hfour ▸ h1)).1
      have hz := impl_BestRule _ _ _ _ _ _ ys zs _ _ _ pk W (hT4.below hW) (hIK.below hW) hcK (by omega)
      rw [hx, ← hbestK] at hz
      exact hz
    have KP : Hid (four = true → (envK.length ≤ 24 ∧ 1 ≤ envK.length) ∧ (-4611686018427387904 ≤ Fr.at1 envK 0 * kd ∧ Fr.at1 envK 0 * kd ≤ 4611686018427387904) ∧ (-4611686018427387904 ≤ kn * Fr.at2 envK 0 ∧ kn * Fr.at2 envK 0 ≤ 4611686018427387904) ∧ decide (Fr.at1 envK 0 * kd < kn * Fr.at2 envK 0) = false) := Lib.hid fun h1 => by
      have hx := look_cmp (hfour ▸ h1)
      rw [hkn, hkd, henvK, hlook]
      exact ⟨(env_one hx.1).1, (env_rule hx.2.1).2⟩
    have hnO2 : nO ≤ 1048576 := by rw [hnO, hlook]; exact lookV_len
    have hnU2 : nU ≤ 1048576 := by rw [hnU, hbestK]; exact bestV_len
    have HNO := Lib.hid hnO
    have HNU := Lib.hid hnU
    clear hfour hlook henvK hbestK hkn hkd hnO hnU hT4 hIK hcK hD4 oK hnK hKl
    have zz := Pair.new w18 (.slice none 0 0) (.slice none 0 0) 26
    have zz0 := zz.c0
    have zz1 := zz.c1
    have zz2 := zz.f0
    have zz3 := zz.f1
    clear zz
    have nb := below_new w18 (.cells #[.slice kP nkP dkP, .slice kW nkW dkW] 26)
    have KT_19 := Lib.hid (Pair.new w18 (.slice kP nkP dkP) (.slice kW nkW dkW) 26)
    have HB1_19 := Lib.hid (HB1_18.out.below nb)
    have PT_19 := Lib.hid (PT_18.out.below nb)
    have XF_19 := Lib.hid (XF_18.out.below nb)
    have XG_19 := Lib.hid (XG_18.out.below nb)
    have HL0_19 := Lib.hid (HL0_18.out.trans (nb.mono HL0_18.out.size))
    have HBB_19 := Lib.hid (HBB_18.out.trans (nb.mono HBB_18.out.size))
    have HK_19 := Lib.hid (HK_18.out.trans (nb.mono HK_18.out.size))
    clear nb HB1_18 PT_18 XF_18 XG_18 HL0_18 HBB_18 HK_18
    go_wp2_with fail
    clear zz0 zz1 zz2 zz3 
    generalize (w18.alloc (.cells #[.slice kP nkP dkP, .slice kW nkW dkW] 26)) = w19 at *
    refine (K1.out _ HK_19.out).mono ?_
    rintro e w20 ⟨v20, rfl, o20, b20⟩
    obtain ⟨aO, cO, rfl⟩ := o20.shape
    rw [← HNO.out] at o20 ⊢
    have hcO := o20.cap.2.1
    have HB1_20 := Lib.hid (HB1_19.out.below b20)
    have PT_20 := Lib.hid (PT_19.out.below b20)
    have XF_20 := Lib.hid (XF_19.out.below b20)
    have XG_20 := Lib.hid (XG_19.out.below b20)
    have KT_20 := Lib.hid (KT_19.out.below b20)
    have HL0_20 := Lib.hid (HL0_19.out.trans (b20.mono HL0_19.out.size))
    have HBB_20 := Lib.hid (HBB_19.out.trans (b20.mono HBB_19.out.size))
    have HK_20 := Lib.hid (HK_19.out.trans (b20.mono HK_19.out.size))
    clear b20 HB1_19 PT_19 XF_19 XG_19 KT_19 HL0_19 HBB_19 HK_19
    have XO_20 := Lib.hid (o20)
    clear o20
    have op0 := KT_20.out.c0
    have op1 := KT_20.out.c1
    have op2 := KT_20.out.lt
    go_wp2_with fail
    clear op0 op1 op2
    refine (K2.out _ HK_20.out).mono ?_
    rintro e w21 ⟨v21, rfl, o21, b21⟩
    obtain ⟨aO2, cO2, rfl⟩ := o21.shape
    rw [← HNO.out] at o21 ⊢
    have HB1_21 := Lib.hid (HB1_20.out.below b21)
    have PT_21 := Lib.hid (PT_20.out.below b21)
    have XF_21 := Lib.hid (XF_20.out.below b21)
    have XG_21 := Lib.hid (XG_20.out.below b21)
    have KT_21 := Lib.hid (KT_20.out.below b21)
    have XO_21 := Lib.hid (XO_20.out.below b21)
    have HL0_21 := Lib.hid (HL0_20.out.trans (b21.mono HL0_20.out.size))
    have HBB_21 := Lib.hid (HBB_20.out.trans (b21.mono HBB_20.out.size))
    have HK_21 := Lib.hid (HK_20.out.trans (b21.mono HK_20.out.size))
    clear b21 HB1_20 PT_20 XF_20 XG_20 KT_20 XO_20 HL0_20 HBB_20 HK_20
    have XOW_21 := Lib.hid (o21)
    clear o21
    go_wp2_with fail
    refine (laws_rInts _ _ _ _ _ look _ (by omega) XO_21.out.ints XOW_21.out.ints).mono ?_
    rintro e w22 ⟨rfl, b22⟩
    have HB1_22 := Lib.hid (HB1_21.out.below b22)
    have PT_22 := Lib.hid (PT_21.out.below b22)
    have XF_22 := Lib.hid (XF_21.out.below b22)
    have XG_22 := Lib.hid (XG_21.out.below b22)
    have KT_22 := Lib.hid (KT_21.out.below b22)
    have XO_22 := Lib.hid (XO_21.out.below b22)
    have XOW_22 := Lib.hid (XOW_21.out.below b22)
    have HL0_22 := Lib.hid (HL0_21.out.trans (b22.mono HL0_21.out.size))
    have HBB_22 := Lib.hid (HBB_21.out.trans (b22.mono HBB_21.out.size))
    have HK_22 := Lib.hid (HK_21.out.trans (b22.mono HK_21.out.size))
    clear b22 HB1_21 PT_21 XF_21 XG_21 KT_21 XO_21 XOW_21 HL0_21 HBB_21 HK_21
    clear XOW_22
    as_aux_lemma =>
    go_wp2_with fail
    refine (spec_DrawThresholdRule _ _ _ _ HB1_22.out).mono ?_
    rintro e w23 ⟨⟨v23, rfl, tP, ntP, dtP, tW, ntW, dtW, qs, rs, vV, lev, rfl, hD5, oV, -⟩, b23⟩
    have HB1_23 := Lib.hid (HB1_22.out.below b23)
    have PT_23 := Lib.hid (PT_22.out.below b23)
    have XF_23 := Lib.hid (XF_22.out.below b23)
    have XG_23 := Lib.hid (XG_22.out.below b23)
    have KT_23 := Lib.hid (KT_22.out.below b23)
    have XO_23 := Lib.hid (XO_22.out.below b23)
    have HL0_23 := Lib.hid (HL0_22.out.trans (b23.mono HL0_22.out.size))
    have HBB_23 := Lib.hid (HBB_22.out.trans (b23.mono HBB_22.out.size))
    have HK_23 := Lib.hid (HK_22.out.trans (b23.mono HK_22.out.size))
    clear b23 HB1_22 PT_22 XF_22 XG_22 KT_22 XO_22 HL0_22 HBB_22 HK_22
    have HV_23 := Lib.hid (Below.refl w23.heap.size w23)
    obtain ⟨pv, oV, hVl⟩ := oV
    obtain ⟨aV, cV, rfl⟩ := oV.shape
    obtain ⟨nV, hnV⟩ : ∃ z, z = pv.length := ⟨_, rfl⟩
    rw [← hnV] at oV hVl ⊢
    have hT5 := hD5.tre
    have hIV := oV.ints
    have hcV := oV.cap.2.1
    obtain ⟨five, hfive⟩ : ∃ z, z = paysB qs rs pv := ⟨_, rfl⟩
    obtain ⟨rule, hrule⟩ : ∃ z, z = entryV qs rs pv lev := ⟨_, rfl⟩
    obtain ⟨envW, henvW⟩ : ∃ z, z = envV qs rs pv := ⟨_, rfl⟩
    obtain ⟨bar, hbar⟩ : ∃ z, z = lvV qs rs pv := ⟨_, rfl⟩
    obtain ⟨bn, hbn⟩ : ∃ z, z = lvN qs rs pv := ⟨_, rfl⟩
    obtain ⟨bd, hbd⟩ : ∃ z, z = lvD qs rs pv := ⟨_, rfl⟩
    obtain ⟨on, hon⟩ : ∃ z, z = rmN qs rs pv rule := ⟨_, rfl⟩
    obtain ⟨od, hod⟩ : ∃ z, z = rmD qs rs pv rule := ⟨_, rfl⟩
    obtain ⟨nY, hnY⟩ : ∃ z, z = rule.length := ⟨_, rfl⟩
    have V1 : Hid (∀ W, Below w23.heap.size w23 W → Calls Tryz.prog 64 #[.agg #[.slice tP ntP dtP, .slice tW ntW dtW], .slice aV nV cV, .int .i64 lev] W fun e w' => ∃ v, e = .returned (.tuple #[v, .bool five]) ∧ Own w' W.heap.size v rule ∧ Below W.heap.size W w') := Lib.hid fun W hW => by
      rw [hfive, hrule]; exact impl_ThresholdRule _ _ _ _ _ _ qs rs _ _ _ pv lev W (hT5.below hW) (hIV.below hW) hcV (by omega)
    have V2 : Hid (∀ W, Below w23.heap.size w23 W → Calls Tryz.prog 65 #[.agg #[.slice tP ntP dtP, .slice tW ntW dtW], .slice aV nV cV, .int .i64 lev] W fun e w' => ∃ v, e = .returned (.tuple #[v, .bool five]) ∧ Own w' W.heap.size v rule ∧ Below W.heap.size W w') := Lib.hid fun W hW => by
      rw [hfive, hrule]; exact spec_ThresholdRule _ _ _ _ _ _ qs rs _ _ _ pv lev W (hT5.below hW) (hIV.below hW) hcV (by omega)
    have V3 : Hid (∀ W, Below w23.heap.size w23 W → Calls Tryz.prog 66 #[.agg #[.slice tP ntP dtP, .slice tW ntW dtW], .slice aV nV cV] W fun e w' => e = .returned (.tuple #[.int .i64 bar, .agg #[.int .i64 bn, .int .i64 bd], .bool five]) ∧ Below W.heap.size W w') := Lib.hid fun W hW => by
      rw [hfive, hbar, hbn, hbd]; exact impl_BestLevel _ _ _ _ _ _ qs rs _ _ _ pv W (hT5.below hW) (hIV.below hW) hcV (by omega)
    have V4 : Hid (∀ W, Below w23.heap.size w23 W → Calls Tryz.prog 67 #[.agg #[.slice tP ntP dtP, .slice tW ntW dtW], .slice aV nV cV] W fun e w' => e = .returned (.tuple #[.int .i64 bar, .agg #[.int .i64 bn, .int .i64 bd], .bool five]) ∧ Below W.heap.size W w') := Lib.hid fun W hW => by
      rw [hfive, hbar, hbn, hbd]; exact spec_BestLevel _ _ _ _ _ _ qs rs _ _ _ pv W (hT5.below hW) (hIV.below hW) hcV (by omega)
    have V5 : Hid (five = true → ∀ W a0 n0 c0, Below w23.heap.size w23 W → Ints W a0 n0 rule → (a0 = none → c0 = 0) → n0 ≤ 1048576 → Calls Tryz.prog 31 #[.agg #[.slice tP ntP dtP, .slice tW ntW dtW], .slice aV nV cV, .slice a0 n0 c0] W fun e w' => e = .returned (.tuple #[.agg #[.int .i64 on, .int .i64 od], .bool true]) ∧ Below W.heap.size W w') := Lib.hid fun h1 W a0 n0 c0 hW hI0 hc0 hn0 => by
      have hx := (thr_cmp (hfive ▸ h1) lev).1
      rw [← hrule] at hx
      have hz := impl_RuleMean _ _ _ _ _ _ qs rs _ _ _ pv a0 n0 c0 rule W (hT5.below hW) (hIV.below hW) hcV (by omega) hI0 hc0 (by omega)
      rw [hx, ← hon, ← hod] at hz
      exact hz
    have V6 : Hid (∀ W, Below w23.heap.size w23 W → Calls Tryz.prog 33 #[.agg #[.slice tP ntP dtP, .slice tW ntW dtW], .slice aV nV cV] W fun e w' => ∃ v, e = .returned (.tuple #[v, .bool five]) ∧ Fr.Own w' W.heap.size v envW ∧ Below W.heap.size W w') := Lib.hid fun W hW => by
      rw [hfive, henvW]; exact impl_EnvelopeOf _ _ _ _ _ _ qs rs _ _ _ pv W (hT5.below hW) (hIV.below hW) hcV (by omega)
    have V7 : Hid (∀ W, Below w23.heap.size w23 W → Calls Tryz.prog 34 #[.agg #[.slice tP ntP dtP, .slice tW ntW dtW], .slice aV nV cV] W fun e w' => ∃ v, e = .returned (.tuple #[v, .bool five]) ∧ Fr.Own w' W.heap.size v envW ∧ Below W.heap.size W w') := Lib.hid fun W hW => by
      rw [hfive, henvW]; exact spec_EnvelopeOf _ _ _ _ _ _ qs rs _ _ _ pv W (hT5.below hW) (hIV.below hW) hcV (by omega)
    have VP : Hid (five = true → (envW.length ≤ 24 ∧ 1 ≤ envW.length) ∧ ((-4611686018427387904 ≤ bn * od ∧ bn * od ≤ 4611686018427387904) ∧ (-4611686018427387904 ≤ on * bd ∧ on * bd ≤ 4611686018427387904) ∧ decide (bn * od < on * bd) = false) ∧ (-4611686018427387904 ≤ Fr.at1 envW 0 * bd ∧ Fr.at1 envW 0 * bd ≤ 4611686018427387904) ∧ (-4611686018427387904 ≤ bn * Fr.at2 envW 0 ∧ bn * Fr.at2 envW 0 ≤ 4611686018427387904) ∧ decide (Fr.at1 envW 0 * bd < bn * Fr.at2 envW 0) = false) := Lib.hid fun h1 => by
      have hx := thr_cmp (hfive ▸ h1) lev
      rw [hbn, hbd, hon, hod, henvW, hrule]
      exact ⟨(env_one (hfive ▸ h1)).1, hx.2⟩
    have hnY2 : nY ≤ 1048576 := by rw [hnY, hrule]; exact entryV_len
    have HNY := Lib.hid hnY
    clear hfive hrule henvW hbar hbn hbd hon hod hnY hT5 hIV hcV hD5 oV hnV hVl
    have zz := Pair.new w23 (.slice none 0 0) (.slice none 0 0) 26
    have zz0 := zz.c0
    have zz1 := zz.c1
    have zz2 := zz.f0
    have zz3 := zz.f1
    clear zz
    have nb := below_new w23 (.cells #[.slice tP ntP dtP, .slice tW ntW dtW] 26)
    have VT_24 := Lib.hid (Pair.new w23 (.slice tP ntP dtP) (.slice tW ntW dtW) 26)
    have HB1_24 := Lib.hid (HB1_23.out.below nb)
    have PT_24 := Lib.hid (PT_23.out.below nb)
    have XF_24 := Lib.hid (XF_23.out.below nb)
    have XG_24 := Lib.hid (XG_23.out.below nb)
    have KT_24 := Lib.hid (KT_23.out.below nb)
    have XO_24 := Lib.hid (XO_23.out.below nb)
    have HL0_24 := Lib.hid (HL0_23.out.trans (nb.mono HL0_23.out.size))
    have HBB_24 := Lib.hid (HBB_23.out.trans (nb.mono HBB_23.out.size))
    have HK_24 := Lib.hid (HK_23.out.trans (nb.mono HK_23.out.size))
    have HV_24 := Lib.hid (HV_23.out.trans (nb.mono HV_23.out.size))
    clear nb HB1_23 PT_23 XF_23 XG_23 KT_23 XO_23 HL0_23 HBB_23 HK_23 HV_23
    go_wp2_with fail
    clear zz0 zz1 zz2 zz3 
    generalize (w23.alloc (.cells #[.slice tP ntP dtP, .slice tW ntW dtW] 26)) = w24 at *
    refine (V1.out _ HV_24.out).mono ?_
    rintro e w25 ⟨v25, rfl, o25, b25⟩
    obtain ⟨aY, cY, rfl⟩ := o25.shape
    rw [← HNY.out] at o25 ⊢
    have hcY := o25.cap.2.1
    have HB1_25 := Lib.hid (HB1_24.out.below b25)
    have PT_25 := Lib.hid (PT_24.out.below b25)
    have XF_25 := Lib.hid (XF_24.out.below b25)
    have XG_25 := Lib.hid (XG_24.out.below b25)
    have KT_25 := Lib.hid (KT_24.out.below b25)
    have XO_25 := Lib.hid (XO_24.out.below b25)
    have VT_25 := Lib.hid (VT_24.out.below b25)
    have HL0_25 := Lib.hid (HL0_24.out.trans (b25.mono HL0_24.out.size))
    have HBB_25 := Lib.hid (HBB_24.out.trans (b25.mono HBB_24.out.size))
    have HK_25 := Lib.hid (HK_24.out.trans (b25.mono HK_24.out.size))
    have HV_25 := Lib.hid (HV_24.out.trans (b25.mono HV_24.out.size))
    clear b25 HB1_24 PT_24 XF_24 XG_24 KT_24 XO_24 VT_24 HL0_24 HBB_24 HK_24 HV_24
    have XY_25 := Lib.hid (o25)
    clear o25
    have op0 := VT_25.out.c0
    have op1 := VT_25.out.c1
    have op2 := VT_25.out.lt
    go_wp2_with fail
    clear op0 op1 op2
    refine (V2.out _ HV_25.out).mono ?_
    rintro e w26 ⟨v26, rfl, o26, b26⟩
    obtain ⟨aY2, cY2, rfl⟩ := o26.shape
    rw [← HNY.out] at o26 ⊢
    have HB1_26 := Lib.hid (HB1_25.out.below b26)
    have PT_26 := Lib.hid (PT_25.out.below b26)
    have XF_26 := Lib.hid (XF_25.out.below b26)
    have XG_26 := Lib.hid (XG_25.out.below b26)
    have KT_26 := Lib.hid (KT_25.out.below b26)
    have XO_26 := Lib.hid (XO_25.out.below b26)
    have VT_26 := Lib.hid (VT_25.out.below b26)
    have XY_26 := Lib.hid (XY_25.out.below b26)
    have HL0_26 := Lib.hid (HL0_25.out.trans (b26.mono HL0_25.out.size))
    have HBB_26 := Lib.hid (HBB_25.out.trans (b26.mono HBB_25.out.size))
    have HK_26 := Lib.hid (HK_25.out.trans (b26.mono HK_25.out.size))
    have HV_26 := Lib.hid (HV_25.out.trans (b26.mono HV_25.out.size))
    clear b26 HB1_25 PT_25 XF_25 XG_25 KT_25 XO_25 VT_25 XY_25 HL0_25 HBB_25 HK_25 HV_25
    have XYW_26 := Lib.hid (o26)
    clear o26
    go_wp2_with fail
    refine (laws_rInts _ _ _ _ _ rule _ (by omega) XY_26.out.ints XYW_26.out.ints).mono ?_
    rintro e w27 ⟨rfl, b27⟩
    have HB1_27 := Lib.hid (HB1_26.out.below b27)
    have PT_27 := Lib.hid (PT_26.out.below b27)
    have XF_27 := Lib.hid (XF_26.out.below b27)
    have XG_27 := Lib.hid (XG_26.out.below b27)
    have KT_27 := Lib.hid (KT_26.out.below b27)
    have XO_27 := Lib.hid (XO_26.out.below b27)
    have VT_27 := Lib.hid (VT_26.out.below b27)
    have XY_27 := Lib.hid (XY_26.out.below b27)
    have XYW_27 := Lib.hid (XYW_26.out.below b27)
    have HL0_27 := Lib.hid (HL0_26.out.trans (b27.mono HL0_26.out.size))
    have HBB_27 := Lib.hid (HBB_26.out.trans (b27.mono HBB_26.out.size))
    have HK_27 := Lib.hid (HK_26.out.trans (b27.mono HK_26.out.size))
    have HV_27 := Lib.hid (HV_26.out.trans (b27.mono HV_26.out.size))
    clear b27 HB1_26 PT_26 XF_26 XG_26 KT_26 XO_26 VT_26 XY_26 XYW_26 HL0_26 HBB_26 HK_26 HV_26
    clear XYW_27
    have op0 := VT_27.out.c0
    have op1 := VT_27.out.c1
    have op2 := VT_27.out.lt
    go_wp2_with fail
    clear op0 op1 op2
    refine (V3.out _ HV_27.out).mono ?_
    rintro e w28 ⟨rfl, b28⟩
    have HB1_28 := Lib.hid (HB1_27.out.below b28)
    have PT_28 := Lib.hid (PT_27.out.below b28)
    have XF_28 := Lib.hid (XF_27.out.below b28)
    have XG_28 := Lib.hid (XG_27.out.below b28)
    have KT_28 := Lib.hid (KT_27.out.below b28)
    have XO_28 := Lib.hid (XO_27.out.below b28)
    have VT_28 := Lib.hid (VT_27.out.below b28)
    have XY_28 := Lib.hid (XY_27.out.below b28)
    have HL0_28 := Lib.hid (HL0_27.out.trans (b28.mono HL0_27.out.size))
    have HBB_28 := Lib.hid (HBB_27.out.trans (b28.mono HBB_27.out.size))
    have HK_28 := Lib.hid (HK_27.out.trans (b28.mono HK_27.out.size))
    have HV_28 := Lib.hid (HV_27.out.trans (b28.mono HV_27.out.size))
    clear b28 HB1_27 PT_27 XF_27 XG_27 KT_27 XO_27 VT_27 XY_27 HL0_27 HBB_27 HK_27 HV_27
    have zz := Pair.new w28 (.int .i64 0) (.int .i64 0) 29
    have zz0 := zz.c0
    have zz1 := zz.c1
    have zz2 := zz.f0
    have zz3 := zz.f1
    clear zz
    have op0 := VT_28.out.c0
    have op1 := VT_28.out.c1
    have op2 := VT_28.out.lt
    have nb := below_new w28 (.cells #[.int .i64 bn, .int .i64 bd] 29)
    have A42_29 := Lib.hid (Pair.new w28 (.int .i64 bn) (.int .i64 bd) 29)
    have HB1_29 := Lib.hid (HB1_28.out.below nb)
    have PT_29 := Lib.hid (PT_28.out.below nb)
    have XF_29 := Lib.hid (XF_28.out.below nb)
    have XG_29 := Lib.hid (XG_28.out.below nb)
    have KT_29 := Lib.hid (KT_28.out.below nb)
    have XO_29 := Lib.hid (XO_28.out.below nb)
    have VT_29 := Lib.hid (VT_28.out.below nb)
    have XY_29 := Lib.hid (XY_28.out.below nb)
    have HL0_29 := Lib.hid (HL0_28.out.trans (nb.mono HL0_28.out.size))
    have HBB_29 := Lib.hid (HBB_28.out.trans (nb.mono HBB_28.out.size))
    have HK_29 := Lib.hid (HK_28.out.trans (nb.mono HK_28.out.size))
    have HV_29 := Lib.hid (HV_28.out.trans (nb.mono HV_28.out.size))
    clear nb HB1_28 PT_28 XF_28 XG_28 KT_28 XO_28 VT_28 XY_28 HL0_28 HBB_28 HK_28 HV_28
    go_wp2_with fail
    clear zz0 zz1 zz2 zz3 op0 op1 op2
    generalize (w28.alloc (.cells #[.int .i64 bn, .int .i64 bd] 29)) = w29 at *
    refine (V4.out _ HV_29.out).mono ?_
    rintro e w30 ⟨rfl, b30⟩
    have HB1_30 := Lib.hid (HB1_29.out.below b30)
    have PT_30 := Lib.hid (PT_29.out.below b30)
    have XF_30 := Lib.hid (XF_29.out.below b30)
    have XG_30 := Lib.hid (XG_29.out.below b30)
    have KT_30 := Lib.hid (KT_29.out.below b30)
    have XO_30 := Lib.hid (XO_29.out.below b30)
    have VT_30 := Lib.hid (VT_29.out.below b30)
    have XY_30 := Lib.hid (XY_29.out.below b30)
    have A42_30 := Lib.hid (A42_29.out.below b30)
    have HL0_30 := Lib.hid (HL0_29.out.trans (b30.mono HL0_29.out.size))
    have HBB_30 := Lib.hid (HBB_29.out.trans (b30.mono HBB_29.out.size))
    have HK_30 := Lib.hid (HK_29.out.trans (b30.mono HK_29.out.size))
    have HV_30 := Lib.hid (HV_29.out.trans (b30.mono HV_29.out.size))
    clear b30 HB1_29 PT_29 XF_29 XG_29 KT_29 XO_29 VT_29 XY_29 A42_29 HL0_29 HBB_29 HK_29 HV_29
    have zz := Pair.new w30 (.int .i64 0) (.int .i64 0) 29
    have zz0 := zz.c0
    have zz1 := zz.c1
    have zz2 := zz.f0
    have zz3 := zz.f1
    clear zz
    have op0 := VT_30.out.c0
    have op1 := VT_30.out.c1
    have op2 := VT_30.out.lt
    have op3 := A42_30.out.c0
    have op4 := A42_30.out.c1
    have op5 := A42_30.out.lt
    have op6 := (fun W => by rw [eqA2]; simp : ∀ W, (Op.equalIn 10000 29 (.agg #[.int .i64 bn, .int .i64 bd]) (.agg #[.int .i64 bn, .int .i64 bd])).run Tryz.prog W = .ok true W)
    have nb := below_new w30 (.cells #[.int .i64 bn, .int .i64 bd] 29)
    have A45_31 := Lib.hid (Pair.new w30 (.int .i64 bn) (.int .i64 bd) 29)
    have HB1_31 := Lib.hid (HB1_30.out.below nb)
    have PT_31 := Lib.hid (PT_30.out.below nb)
    have XF_31 := Lib.hid (XF_30.out.below nb)
    have XG_31 := Lib.hid (XG_30.out.below nb)
    have KT_31 := Lib.hid (KT_30.out.below nb)
    have XO_31 := Lib.hid (XO_30.out.below nb)
    have VT_31 := Lib.hid (VT_30.out.below nb)
    have XY_31 := Lib.hid (XY_30.out.below nb)
    have A42_31 := Lib.hid (A42_30.out.below nb)
    have HL0_31 := Lib.hid (HL0_30.out.trans (nb.mono HL0_30.out.size))
    have HBB_31 := Lib.hid (HBB_30.out.trans (nb.mono HBB_30.out.size))
    have HK_31 := Lib.hid (HK_30.out.trans (nb.mono HK_30.out.size))
    have HV_31 := Lib.hid (HV_30.out.trans (nb.mono HV_30.out.size))
    clear nb HB1_30 PT_30 XF_30 XG_30 KT_30 XO_30 VT_30 XY_30 A42_30 HL0_30 HBB_30 HK_30 HV_30
    go_upto_if 285 with fail
    clear zz0 zz1 zz2 zz3 op0 op1 op2 op3 op4 op5 op6
    generalize (w30.alloc (.cells #[.int .i64 bn, .int .i64 bd] 29)) = w31 at *
    clear A45_31
    as_aux_lemma =>
    go_cut [38] from 38 to 38 (fun v38 wc => v38 = .bool five ∧ Below w31.heap.size w31 wc)
    case first => as_aux_lemma =>
      have HS_31 := Lib.hid (Below.refl w31.heap.size w31)
      cases five
      · go_wp2_with fail
        go_meet
        case rel => exact ⟨rfl, Below.refl _ _⟩
      · obtain ⟨⟨hlE, hlE1⟩, ⟨hm1, hm2, hdec1⟩, hm3, hm4, hdec2⟩ := VP.out rfl
        have Hdec1 := Lib.hid hdec1
        have Hdec2 := Lib.hid hdec2
        have J5 := Lib.hid (V5.out rfl)
        clear hdec1 hdec2
        have op0 := VT_31.out.c0
        have op1 := VT_31.out.c1
        have op2 := VT_31.out.lt
        go_wp2_with fail
        clear op0 op1 op2
        refine (J5.out _ _ _ _ HV_31.out XY_31.out.ints hcY hnY2).mono ?_
        rintro e w32 ⟨rfl, b32⟩
        have HB1_32 := Lib.hid (HB1_31.out.below b32)
        have PT_32 := Lib.hid (PT_31.out.below b32)
        have XF_32 := Lib.hid (XF_31.out.below b32)
        have XG_32 := Lib.hid (XG_31.out.below b32)
        have KT_32 := Lib.hid (KT_31.out.below b32)
        have XO_32 := Lib.hid (XO_31.out.below b32)
        have VT_32 := Lib.hid (VT_31.out.below b32)
        have XY_32 := Lib.hid (XY_31.out.below b32)
        have A42_32 := Lib.hid (A42_31.out.below b32)
        have HL0_32 := Lib.hid (HL0_31.out.trans (b32.mono HL0_31.out.size))
        have HBB_32 := Lib.hid (HBB_31.out.trans (b32.mono HBB_31.out.size))
        have HK_32 := Lib.hid (HK_31.out.trans (b32.mono HK_31.out.size))
        have HV_32 := Lib.hid (HV_31.out.trans (b32.mono HV_31.out.size))
        have HS_32 := Lib.hid (HS_31.out.trans (b32.mono HS_31.out.size))
        clear b32 HB1_31 PT_31 XF_31 XG_31 KT_31 XO_31 VT_31 XY_31 A42_31 HL0_31 HBB_31 HK_31 HV_31 HS_31
        have zz := Pair.new w32 (.int .i64 0) (.int .i64 0) 29
        have zz0 := zz.c0
        have zz1 := zz.c1
        have zz2 := zz.f0
        have zz3 := zz.f1
        clear zz
        have op0 := VT_32.out.c0
        have op1 := VT_32.out.c1
        have op2 := VT_32.out.lt
        have nb := below_new w32 (.cells #[.int .i64 on, .int .i64 od] 29)
        have A47_33 := Lib.hid (Pair.new w32 (.int .i64 on) (.int .i64 od) 29)
        have HB1_33 := Lib.hid (HB1_32.out.below nb)
        have PT_33 := Lib.hid (PT_32.out.below nb)
        have XF_33 := Lib.hid (XF_32.out.below nb)
        have XG_33 := Lib.hid (XG_32.out.below nb)
        have KT_33 := Lib.hid (KT_32.out.below nb)
        have XO_33 := Lib.hid (XO_32.out.below nb)
        have VT_33 := Lib.hid (VT_32.out.below nb)
        have XY_33 := Lib.hid (XY_32.out.below nb)
        have A42_33 := Lib.hid (A42_32.out.below nb)
        have HL0_33 := Lib.hid (HL0_32.out.trans (nb.mono HL0_32.out.size))
        have HBB_33 := Lib.hid (HBB_32.out.trans (nb.mono HBB_32.out.size))
        have HK_33 := Lib.hid (HK_32.out.trans (nb.mono HK_32.out.size))
        have HV_33 := Lib.hid (HV_32.out.trans (nb.mono HV_32.out.size))
        have HS_33 := Lib.hid (HS_32.out.trans (nb.mono HS_32.out.size))
        clear nb HB1_32 PT_32 XF_32 XG_32 KT_32 XO_32 VT_32 XY_32 A42_32 HL0_32 HBB_32 HK_32 HV_32 HS_32
        go_wp2_with fail
        clear zz0 zz1 zz2 zz3 op0 op1 op2
        generalize (w32.alloc (.cells #[.int .i64 on, .int .i64 od] 29)) = w33 at *
        refine (V6.out _ HV_33.out).mono ?_
        rintro e w34 ⟨v34, rfl, o34, b34⟩
        obtain ⟨aE, cE, rfl⟩ := o34.shape
        have HB1_34 := Lib.hid (HB1_33.out.below b34)
        have PT_34 := Lib.hid (PT_33.out.below b34)
        have XF_34 := Lib.hid (XF_33.out.below b34)
        have XG_34 := Lib.hid (XG_33.out.below b34)
        have KT_34 := Lib.hid (KT_33.out.below b34)
        have XO_34 := Lib.hid (XO_33.out.below b34)
        have VT_34 := Lib.hid (VT_33.out.below b34)
        have XY_34 := Lib.hid (XY_33.out.below b34)
        have A42_34 := Lib.hid (A42_33.out.below b34)
        have A47_34 := Lib.hid (A47_33.out.below b34)
        have HL0_34 := Lib.hid (HL0_33.out.trans (b34.mono HL0_33.out.size))
        have HBB_34 := Lib.hid (HBB_33.out.trans (b34.mono HBB_33.out.size))
        have HK_34 := Lib.hid (HK_33.out.trans (b34.mono HK_33.out.size))
        have HV_34 := Lib.hid (HV_33.out.trans (b34.mono HV_33.out.size))
        have HS_34 := Lib.hid (HS_33.out.trans (b34.mono HS_33.out.size))
        clear b34 HB1_33 PT_33 XF_33 XG_33 KT_33 XO_33 VT_33 XY_33 A42_33 A47_33 HL0_33 HBB_33 HK_33 HV_33 HS_33
        have EA_34 := Lib.hid (o34)
        clear o34
        have op0 := VT_34.out.c0
        have op1 := VT_34.out.c1
        have op2 := VT_34.out.lt
        go_wp2_with fail
        clear op0 op1 op2
        refine (V7.out _ HV_34.out).mono ?_
        rintro e w35 ⟨v35, rfl, o35, b35⟩
        obtain ⟨aE2, cE2, rfl⟩ := o35.shape
        have HB1_35 := Lib.hid (HB1_34.out.below b35)
        have PT_35 := Lib.hid (PT_34.out.below b35)
        have XF_35 := Lib.hid (XF_34.out.below b35)
        have XG_35 := Lib.hid (XG_34.out.below b35)
        have KT_35 := Lib.hid (KT_34.out.below b35)
        have XO_35 := Lib.hid (XO_34.out.below b35)
        have VT_35 := Lib.hid (VT_34.out.below b35)
        have XY_35 := Lib.hid (XY_34.out.below b35)
        have A42_35 := Lib.hid (A42_34.out.below b35)
        have A47_35 := Lib.hid (A47_34.out.below b35)
        have EA_35 := Lib.hid (EA_34.out.below b35)
        have HL0_35 := Lib.hid (HL0_34.out.trans (b35.mono HL0_34.out.size))
        have HBB_35 := Lib.hid (HBB_34.out.trans (b35.mono HBB_34.out.size))
        have HK_35 := Lib.hid (HK_34.out.trans (b35.mono HK_34.out.size))
        have HV_35 := Lib.hid (HV_34.out.trans (b35.mono HV_34.out.size))
        have HS_35 := Lib.hid (HS_34.out.trans (b35.mono HS_34.out.size))
        clear b35 HB1_34 PT_34 XF_34 XG_34 KT_34 XO_34 VT_34 XY_34 A42_34 A47_34 EA_34 HL0_34 HBB_34 HK_34 HV_34 HS_34
        have EB_35 := Lib.hid (o35)
        clear o35
        go_upto_region 40 with fail
        obtain ⟨bE, oE, rfl, hbE, hcE⟩ := EA_35.out.ints.2 (by omega)
        have ca1 := (hcE 0 (by omega)).1
        have ca2 := (hcE 0 (by omega)).2
        rw [Nat.zero_mul, Nat.add_zero] at ca1 ca2
        clear hcE
        have hnE : 0 < envW.length := by omega
        have cb1 := A42_35.out.c0
        have cb2 := A42_35.out.c1
        have cc1 := A47_35.out.c0
        have cc2 := A47_35.out.c1
        refine wp_region_noPanic ?_
        refine wp_region_held_drew (S := (fun W' => ((W'.cell? ⟨bE, oE, none⟩ = some (.int .i64 (Fr.at1 envW 0)) ∧ W'.cell? ⟨bE, oE + 1, none⟩ = some (.int .i64 (Fr.at2 envW 0))) ∧ W'.cell? ⟨w28.heap.size, 0, none⟩ = some (.int .i64 bn) ∧ W'.cell? ⟨w28.heap.size, 1, none⟩ = some (.int .i64 bd)) ∧ W'.cell? ⟨w32.heap.size, 0, none⟩ = some (.int .i64 on) ∧ W'.cell? ⟨w32.heap.size, 1, none⟩ = some (.int .i64 od))) (by kernel_rfl) ?_ (fun hHeld0 => ?_)
        · (try dsimp only); first | assumption | exact ⟨⟨⟨ca1, ca2⟩, cb1, cb2⟩, cc1, cc2⟩
        refine takeH (i := 0) (oi := _) (v := ?_) rfl (by kernel_rfl) (by kernel_rfl) (by kernel_rfl) (fun _ _ _ h => h) (Or.inl ⟨by rfl, ?_⟩) (by assumption) ?_
        rotate_left
        · first | (intro w hSw; (try dsimp only at hSw); go_simp; done) | (intro w hSw; (try dsimp only at hSw); go_simp; with_reducible rfl)
        (try simp only [Act.put, List.setIfInBounds_toArray, List.set_cons_zero, List.set_cons_succ])
        refine takeH (i := 1) (oi := _) (v := ?_) rfl (by kernel_rfl) (by kernel_rfl) (by kernel_rfl) (fun _ _ _ h => h) (Or.inl ⟨by rfl, ?_⟩) (by assumption) ?_
        rotate_left
        · first | (intro w hSw; (try dsimp only at hSw); go_simp; done) | (intro w hSw; (try dsimp only at hSw); go_simp; with_reducible rfl)
        (try simp only [Act.put, List.setIfInBounds_toArray, List.set_cons_zero, List.set_cons_succ])
        refine takeH (i := 2) (oi := _) (v := ?_) rfl (by kernel_rfl) (by kernel_rfl) (by kernel_rfl) (fun _ _ _ h => h) (Or.inl ⟨by rfl, ?_⟩) (by assumption) ?_
        rotate_left
        · first | (intro w hSw; (try dsimp only at hSw); go_simp; done) | (intro w hSw; (try dsimp only at hSw); go_simp; with_reducible rfl)
        (try simp only [Act.put, List.setIfInBounds_toArray, List.set_cons_zero, List.set_cons_succ])
        refine takeH (i := 3) (oi := _) (v := ?_) rfl (by kernel_rfl) (by kernel_rfl) (by kernel_rfl) (fun _ _ _ h => h) (Or.inl ⟨by rfl, ?_⟩) (by assumption) ?_
        rotate_left
        · first | (intro w hSw; (try dsimp only at hSw); go_simp; done) | (intro w hSw; (try dsimp only at hSw); go_simp; with_reducible rfl)
        (try simp only [Act.put, List.setIfInBounds_toArray, List.set_cons_zero, List.set_cons_succ])
        refine takeH (i := 4) (oi := _) (v := ?_) rfl (by kernel_rfl) (by kernel_rfl) (by kernel_rfl) (fun _ _ _ h => h) (Or.inl ⟨by rfl, ?_⟩) (by assumption) ?_
        rotate_left
        · first | (intro w hSw; (try dsimp only at hSw); go_simp; done) | (intro w hSw; (try dsimp only at hSw); go_simp; with_reducible rfl)
        (try simp only [Act.put, List.setIfInBounds_toArray, List.set_cons_zero, List.set_cons_succ])
        as_aux_lemma =>
        refine takeH (i := 5) (oi := _) (v := ?_) rfl (by kernel_rfl) (by kernel_rfl) (by kernel_rfl) (fun _ _ _ h => h) (Or.inl ⟨by rfl, ?_⟩) (by assumption) ?_
        rotate_left
        · first | (intro w hSw; (try dsimp only at hSw); go_simp; done) | (intro w hSw; (try dsimp only at hSw); go_simp; with_reducible rfl)
        (try simp only [Act.put, List.setIfInBounds_toArray, List.set_cons_zero, List.set_cons_succ])
        refine takeH (i := 6) (oi := _) (v := ?_) rfl (by kernel_rfl) (by kernel_rfl) (by kernel_rfl) (fun _ _ _ h => h) (Or.inl ⟨by rfl, ?_⟩) (by assumption) ?_
        rotate_left
        · first | (intro w hSw; (try dsimp only at hSw); go_simp; done) | (intro w hSw; (try dsimp only at hSw); go_simp; with_reducible rfl)
        (try simp only [Act.put, List.setIfInBounds_toArray, List.set_cons_zero, List.set_cons_succ])
        refine takeH (i := 7) (oi := _) (v := ?_) rfl (by kernel_rfl) (by kernel_rfl) (by kernel_rfl) (fun _ _ _ h => h) (Or.inl ⟨by rfl, ?_⟩) (by assumption) ?_
        rotate_left
        · first | (intro w hSw; (try dsimp only at hSw); go_simp; done) | (intro w hSw; (try dsimp only at hSw); go_simp; with_reducible rfl)
        (try simp only [Act.put, List.setIfInBounds_toArray, List.set_cons_zero, List.set_cons_succ])
        refine takeH (i := 8) (oi := _) (v := ?_) rfl (by kernel_rfl) (by kernel_rfl) (by kernel_rfl) (fun _ _ _ h => h) (Or.inl ⟨by rfl, ?_⟩) (by assumption) ?_
        rotate_left
        · first | (intro w hSw; (try dsimp only at hSw); go_simp; done) | (intro w hSw; (try dsimp only at hSw); go_simp; with_reducible rfl)
        (try simp only [Act.put, List.setIfInBounds_toArray, List.set_cons_zero, List.set_cons_succ])
        refine takeH (i := 9) (oi := _) (v := ?_) rfl (by kernel_rfl) (by kernel_rfl) (by kernel_rfl) (fun _ _ _ h => h) (Or.inl ⟨by rfl, ?_⟩) (by assumption) ?_
        rotate_left
        · first | (intro w hSw; (try dsimp only at hSw); go_simp; done) | (intro w hSw; (try dsimp only at hSw); go_simp; with_reducible rfl)
        (try simp only [Act.put, List.setIfInBounds_toArray, List.set_cons_zero, List.set_cons_succ])
        as_aux_lemma =>
        refine takeH (i := 10) (oi := _) (v := ?_) rfl (by kernel_rfl) (by kernel_rfl) (by kernel_rfl) (fun _ _ _ h => h) (Or.inl ⟨by rfl, ?_⟩) (by assumption) ?_
        rotate_left
        · first | (intro w hSw; (try dsimp only at hSw); go_simp; done) | (intro w hSw; (try dsimp only at hSw); go_simp; with_reducible rfl)
        (try simp only [Act.put, List.setIfInBounds_toArray, List.set_cons_zero, List.set_cons_succ])
        refine takeH (i := 11) (oi := _) (v := ?_) rfl (by kernel_rfl) (by kernel_rfl) (by kernel_rfl) (fun _ _ _ h => h) (Or.inl ⟨by rfl, ?_⟩) (by assumption) ?_
        rotate_left
        · first | (intro w hSw; (try dsimp only at hSw); go_simp; done) | (intro w hSw; (try dsimp only at hSw); go_simp; with_reducible rfl)
        (try simp only [Act.put, List.setIfInBounds_toArray, List.set_cons_zero, List.set_cons_succ])
        refine takeH (i := 12) (oi := _) (v := ?_) rfl (by kernel_rfl) (by kernel_rfl) (by kernel_rfl) (fun _ _ _ h => h) (Or.inl ⟨by rfl, ?_⟩) (by assumption) ?_
        rotate_left
        · first | (intro w hSw; (try dsimp only at hSw); go_simp; done) | (intro w hSw; (try dsimp only at hSw); go_simp; with_reducible rfl)
        (try simp only [Act.put, List.setIfInBounds_toArray, List.set_cons_zero, List.set_cons_succ])
        refine wpAnyH_ready (rs := [13]) (by kernel_rfl) (by simp) ?_
        refine consH rfl (fun Kq hKq => ?_)
        go_simp
        refine (laws_rFracs _ _ _ _ _ envW _ (by omega) (EA_35.out.below (Below.refl _ _).drew).ints (EB_35.out.below (Below.refl _ _).drew).ints).mono ?_
        rintro e wq ⟨rfl, bq⟩
        have bq2 := (Below.refl w35.heap.size w35).drew.trans bq
        have hSS := And.intro (And.intro (And.intro (cell_up bq2 ca1) (cell_up bq2 ca2)) (And.intro (cell_up bq2 cb1) (cell_up bq2 cb2))) (And.intro (cell_up bq2 cc1) (cell_up bq2 cc2))
        clear bq
        refine hKq.out _ _ ?_ (fun hHeld1 => ?_)
        · (try dsimp only); first | assumption | exact ⟨⟨⟨ca1, ca2⟩, cb1, cb2⟩, cc1, cc2⟩
        clear hKq Kq
        (try simp only [Act.put, List.setIfInBounds_toArray, List.set_cons_zero, List.set_cons_succ])
        clear hHeld0
        refine takeH (i := 14) (oi := _) (v := ?_) rfl (by kernel_rfl) (by kernel_rfl) (by kernel_rfl) (fun _ _ _ h => h) (Or.inl ⟨by rfl, ?_⟩) (by assumption) ?_
        rotate_left
        · first | (intro w hSw; (try dsimp only at hSw); go_simp; done) | (intro w hSw; (try dsimp only at hSw); go_simp; with_reducible rfl)
        (try simp only [Act.put, List.setIfInBounds_toArray, List.set_cons_zero, List.set_cons_succ])
        as_aux_lemma =>
        refine takeH (i := 15) (oi := _) (v := ?_) rfl (by kernel_rfl) (by kernel_rfl) (by kernel_rfl) (fun _ _ _ h => h) (Or.inl ⟨by rfl, ?_⟩) (by assumption) ?_
        rotate_left
        · first | (intro w hSw; (try dsimp only at hSw); go_simp; done) | (intro w hSw; (try dsimp only at hSw); go_simp; with_reducible rfl)
        (try simp only [Act.put, List.setIfInBounds_toArray, List.set_cons_zero, List.set_cons_succ])
        refine takeH (i := 16) (oi := _) (v := ?_) rfl (by kernel_rfl) (by kernel_rfl) (by kernel_rfl) (fun _ _ _ h => h) (Or.inl ⟨by rfl, ?_⟩) (by assumption) ?_
        rotate_left
        · first | (intro w hSw; (try dsimp only at hSw); go_simp; done) | (intro w hSw; (try dsimp only at hSw); go_simp; with_reducible rfl)
        (try simp only [Act.put, List.setIfInBounds_toArray, List.set_cons_zero, List.set_cons_succ])
        refine takeH (i := 17) (oi := _) (v := ?_) rfl (by kernel_rfl) (by kernel_rfl) (by kernel_rfl) (fun _ _ _ h => h) (Or.inl ⟨by rfl, ?_⟩) (by assumption) ?_
        rotate_left
        · first | (intro w hSw; (try dsimp only at hSw); go_simp; done) | (intro w hSw; (try dsimp only at hSw); go_simp; with_reducible rfl)
        (try simp only [Act.put, List.setIfInBounds_toArray, List.set_cons_zero, List.set_cons_succ])
        refine takeH (i := 18) (oi := _) (v := ?_) rfl (by kernel_rfl) (by kernel_rfl) (by kernel_rfl) (fun _ _ _ h => h) (Or.inl ⟨by rfl, ?_⟩) (by assumption) ?_
        rotate_left
        · first | (intro w hSw; (try dsimp only at hSw); go_simp; done) | (intro w hSw; (try dsimp only at hSw); go_simp; with_reducible rfl)
        (try simp only [Act.put, List.setIfInBounds_toArray, List.set_cons_zero, List.set_cons_succ])
        refine wpAnyH_ready (rs := [19]) (by kernel_rfl) (by simp) ?_
        refine consH rfl (fun Kq hKq => ?_)
        go_simp
        refine (laws_rLess _ _ _ _ _ hm1 hm2).mono ?_
        rintro e wy ⟨rfl, bz⟩
        rw [Hdec1.out]
        have by2 := bq2.trans (bz.mono bq2.size)
        have hSS2 := And.intro (And.intro (And.intro (cell_up by2 ca1) (cell_up by2 ca2)) (And.intro (cell_up by2 cb1) (cell_up by2 cb2))) (And.intro (cell_up by2 cc1) (cell_up by2 cc2))
        clear bz
        refine hKq.out _ _ ?_ (fun hHeld2 => ?_)
        · (try dsimp only); first | assumption | exact ⟨⟨⟨ca1, ca2⟩, cb1, cb2⟩, cc1, cc2⟩
        clear hKq Kq
        (try simp only [Act.put, List.setIfInBounds_toArray, List.set_cons_zero, List.set_cons_succ])
        clear hHeld1
        as_aux_lemma =>
        refine takeH (i := 20) (oi := _) (v := ?_) rfl (by kernel_rfl) (by kernel_rfl) (by kernel_rfl) (fun _ _ _ h => h) (Or.inl ⟨by rfl, ?_⟩) (by assumption) ?_
        rotate_left
        · first | (intro w hSw; (try dsimp only at hSw); go_simp; done) | (intro w hSw; (try dsimp only at hSw); go_simp; with_reducible rfl)
        (try simp only [Act.put, List.setIfInBounds_toArray, List.set_cons_zero, List.set_cons_succ])
        refine takeH (i := 21) (oi := _) (v := ?_) rfl (by kernel_rfl) (by kernel_rfl) (by kernel_rfl) (fun _ _ _ h => h) (Or.inl ⟨by rfl, ?_⟩) (by assumption) ?_
        rotate_left
        · first | (intro w hSw; (try dsimp only at hSw); go_simp; done) | (intro w hSw; (try dsimp only at hSw); go_simp; with_reducible rfl)
        (try simp only [Act.put, List.setIfInBounds_toArray, List.set_cons_zero, List.set_cons_succ])
        refine takeH (i := 22) (oi := _) (v := ?_) rfl (by kernel_rfl) (by kernel_rfl) (by kernel_rfl) (fun _ _ _ h => h) (Or.inl ⟨by rfl, ?_⟩) (by assumption) ?_
        rotate_left
        · first | (intro w hSw; (try dsimp only at hSw); go_simp; done) | (intro w hSw; (try dsimp only at hSw); go_simp; with_reducible rfl)
        (try simp only [Act.put, List.setIfInBounds_toArray, List.set_cons_zero, List.set_cons_succ])
        refine takeH (i := 23) (oi := _) (v := ?_) rfl (by kernel_rfl) (by kernel_rfl) (by kernel_rfl) (fun _ _ _ h => h) (Or.inl ⟨by rfl, ?_⟩) (by assumption) ?_
        rotate_left
        · first | (intro w hSw; (try dsimp only at hSw); go_simp; done) | (intro w hSw; (try dsimp only at hSw); go_simp; with_reducible rfl)
        (try simp only [Act.put, List.setIfInBounds_toArray, List.set_cons_zero, List.set_cons_succ])
        refine takeH (i := 24) (oi := _) (v := ?_) rfl (by kernel_rfl) (by kernel_rfl) (by kernel_rfl) (fun _ _ _ h => h) (Or.inl ⟨by rfl, ?_⟩) (by assumption) ?_
        rotate_left
        · first | (intro w hSw; (try dsimp only at hSw); go_simp; done) | (intro w hSw; (try dsimp only at hSw); go_simp; with_reducible rfl)
        (try simp only [Act.put, List.setIfInBounds_toArray, List.set_cons_zero, List.set_cons_succ])
        as_aux_lemma =>
        refine takeH (i := 25) (oi := _) (v := ?_) rfl (by kernel_rfl) (by kernel_rfl) (by kernel_rfl) (fun _ _ _ h => h) (Or.inl ⟨by rfl, ?_⟩) (by assumption) ?_
        rotate_left
        · first | (intro w hSw; (try dsimp only at hSw); go_simp; done) | (intro w hSw; (try dsimp only at hSw); go_simp; with_reducible rfl)
        (try simp only [Act.put, List.setIfInBounds_toArray, List.set_cons_zero, List.set_cons_succ])
        refine wpAnyH_ready (rs := [26]) (by kernel_rfl) (by simp) ?_
        refine consH rfl (fun Kq hKq => ?_)
        go_simp
        refine (laws_rLess _ _ _ _ _ hm3 hm4).mono ?_
        rintro e wz ⟨rfl, bz⟩
        rw [Hdec2.out]
        have bz2 := by2.trans (bz.mono by2.size)
        have hSS3 := And.intro (And.intro (And.intro (cell_up bz2 ca1) (cell_up bz2 ca2)) (And.intro (cell_up bz2 cb1) (cell_up bz2 cb2))) (And.intro (cell_up bz2 cc1) (cell_up bz2 cc2))
        clear bz
        refine hKq.out _ _ ?_ (fun hHeld3 => ?_)
        · (try dsimp only); first | assumption | exact ⟨⟨⟨ca1, ca2⟩, cb1, cb2⟩, cc1, cc2⟩
        clear hKq Kq
        (try simp only [Act.put, List.setIfInBounds_toArray, List.set_cons_zero, List.set_cons_succ])
        clear hHeld2
        refine takeH (i := 27) (oi := _) (v := ?_) rfl (by kernel_rfl) (by kernel_rfl) (by kernel_rfl) (fun _ _ _ h => h) (Or.inl ⟨by rfl, ?_⟩) (by assumption) ?_
        rotate_left
        · first | (intro w hSw; (try dsimp only at hSw); go_simp; done) | (intro w hSw; (try dsimp only at hSw); go_simp; with_reducible rfl)
        (try simp only [Act.put, List.setIfInBounds_toArray, List.set_cons_zero, List.set_cons_succ])
        refine wpAnyH_done (by kernel_rfl) ?_ _
        refine NoPanic.normal ?_
        go_wp2_with fail
        go_meet
        case rel => exact ⟨rfl, HS_35.out.trans (bz2.mono HS_35.out.size)⟩
    case rest =>
    obtain ⟨rfl, b32⟩ := hcut
    obtain ⟨w32, hwc⟩ : ∃ z, z = wc := ⟨_, rfl⟩
    rw [← hwc] at b32 ⊢
    clear hwc wc
    have HB1_32 := Lib.hid (HB1_31.out.below b32)
    have PT_32 := Lib.hid (PT_31.out.below b32)
    have XF_32 := Lib.hid (XF_31.out.below b32)
    have XG_32 := Lib.hid (XG_31.out.below b32)
    have KT_32 := Lib.hid (KT_31.out.below b32)
    have XO_32 := Lib.hid (XO_31.out.below b32)
    have VT_32 := Lib.hid (VT_31.out.below b32)
    have XY_32 := Lib.hid (XY_31.out.below b32)
    have A42_32 := Lib.hid (A42_31.out.below b32)
    have HL0_32 := Lib.hid (HL0_31.out.trans (b32.mono HL0_31.out.size))
    have HBB_32 := Lib.hid (HBB_31.out.trans (b32.mono HBB_31.out.size))
    have HK_32 := Lib.hid (HK_31.out.trans (b32.mono HK_31.out.size))
    have HV_32 := Lib.hid (HV_31.out.trans (b32.mono HV_31.out.size))
    clear b32 HB1_31 PT_31 XF_31 XG_31 KT_31 XO_31 VT_31 XY_31 A42_31 HL0_31 HBB_31 HK_31 HV_31
    clear VT_32
    clear A42_32
    clear HV_32
    clear XY_32
    clear V1 V2 V3 V4 V5 V6 V7 VP
    as_aux_lemma =>
    go_upto_if 333 with fail
    go_cut [31] from 31 to 31 (fun v31 wc => v31 = .bool four ∧ Below w32.heap.size w32 wc)
    case first => as_aux_lemma =>
      have HS_32 := Lib.hid (Below.refl w32.heap.size w32)
      cases four
      · go_wp2_with fail
        go_meet
        case rel => exact ⟨rfl, Below.refl _ _⟩
      · obtain ⟨⟨hlE, hlE1⟩, hm1, hm2, hdec⟩ := KP.out rfl
        have Hdec := Lib.hid hdec
        clear hdec
        have J3 := Lib.hid (K3.out rfl)
        have J4 := Lib.hid (K4.out rfl)
        have J5 := Lib.hid (K5.out rfl)
        have J6 := Lib.hid (K6.out rfl)
        have J7 := Lib.hid (K7.out rfl)
        have op0 := KT_32.out.c0
        have op1 := KT_32.out.c1
        have op2 := KT_32.out.lt
        go_wp2_with fail
        clear op0 op1 op2
        refine (J3.out _ _ _ _ HK_32.out XO_32.out.ints hcO hnO2).mono ?_
        rintro e w33 ⟨rfl, b33⟩
        have HB1_33 := Lib.hid (HB1_32.out.below b33)
        have PT_33 := Lib.hid (PT_32.out.below b33)
        have XF_33 := Lib.hid (XF_32.out.below b33)
        have XG_33 := Lib.hid (XG_32.out.below b33)
        have KT_33 := Lib.hid (KT_32.out.below b33)
        have XO_33 := Lib.hid (XO_32.out.below b33)
        have HL0_33 := Lib.hid (HL0_32.out.trans (b33.mono HL0_32.out.size))
        have HBB_33 := Lib.hid (HBB_32.out.trans (b33.mono HBB_32.out.size))
        have HK_33 := Lib.hid (HK_32.out.trans (b33.mono HK_32.out.size))
        have HS_33 := Lib.hid (HS_32.out.trans (b33.mono HS_32.out.size))
        clear b33 HB1_32 PT_32 XF_32 XG_32 KT_32 XO_32 HL0_32 HBB_32 HK_32 HS_32
        have zz := Pair.new w33 (.int .i64 0) (.int .i64 0) 29
        have zz0 := zz.c0
        have zz1 := zz.c1
        have zz2 := zz.f0
        have zz3 := zz.f1
        clear zz
        have op0 := KT_33.out.c0
        have op1 := KT_33.out.c1
        have op2 := KT_33.out.lt
        have nb := below_new w33 (.cells #[.int .i64 kn, .int .i64 kd] 29)
        have A53_34 := Lib.hid (Pair.new w33 (.int .i64 kn) (.int .i64 kd) 29)
        have HB1_34 := Lib.hid (HB1_33.out.below nb)
        have PT_34 := Lib.hid (PT_33.out.below nb)
        have XF_34 := Lib.hid (XF_33.out.below nb)
        have XG_34 := Lib.hid (XG_33.out.below nb)
        have KT_34 := Lib.hid (KT_33.out.below nb)
        have XO_34 := Lib.hid (XO_33.out.below nb)
        have HL0_34 := Lib.hid (HL0_33.out.trans (nb.mono HL0_33.out.size))
        have HBB_34 := Lib.hid (HBB_33.out.trans (nb.mono HBB_33.out.size))
        have HK_34 := Lib.hid (HK_33.out.trans (nb.mono HK_33.out.size))
        have HS_34 := Lib.hid (HS_33.out.trans (nb.mono HS_33.out.size))
        clear nb HB1_33 PT_33 XF_33 XG_33 KT_33 XO_33 HL0_33 HBB_33 HK_33 HS_33
        go_wp2_with fail
        clear zz0 zz1 zz2 zz3 op0 op1 op2
        generalize (w33.alloc (.cells #[.int .i64 kn, .int .i64 kd] 29)) = w34 at *
        refine (J4.out _ HK_34.out).mono ?_
        rintro e w35 ⟨v35, rfl, o35, b35⟩
        obtain ⟨aE, cE, rfl⟩ := o35.shape
        have HB1_35 := Lib.hid (HB1_34.out.below b35)
        have PT_35 := Lib.hid (PT_34.out.below b35)
        have XF_35 := Lib.hid (XF_34.out.below b35)
        have XG_35 := Lib.hid (XG_34.out.below b35)
        have KT_35 := Lib.hid (KT_34.out.below b35)
        have XO_35 := Lib.hid (XO_34.out.below b35)
        have A53_35 := Lib.hid (A53_34.out.below b35)
        have HL0_35 := Lib.hid (HL0_34.out.trans (b35.mono HL0_34.out.size))
        have HBB_35 := Lib.hid (HBB_34.out.trans (b35.mono HBB_34.out.size))
        have HK_35 := Lib.hid (HK_34.out.trans (b35.mono HK_34.out.size))
        have HS_35 := Lib.hid (HS_34.out.trans (b35.mono HS_34.out.size))
        clear b35 HB1_34 PT_34 XF_34 XG_34 KT_34 XO_34 A53_34 HL0_34 HBB_34 HK_34 HS_34
        have EA_35 := Lib.hid (o35)
        clear o35
        have op0 := KT_35.out.c0
        have op1 := KT_35.out.c1
        have op2 := KT_35.out.lt
        go_wp2_with fail
        clear op0 op1 op2
        as_aux_lemma =>
        refine (J6.out _ HK_35.out).mono ?_
        rintro e w36 ⟨v36, rfl, o36, b36⟩
        obtain ⟨aZ1, cZ1, rfl⟩ := o36.shape
        rw [← HNU.out] at o36 ⊢
        have HB1_36 := Lib.hid (HB1_35.out.below b36)
        have PT_36 := Lib.hid (PT_35.out.below b36)
        have XF_36 := Lib.hid (XF_35.out.below b36)
        have XG_36 := Lib.hid (XG_35.out.below b36)
        have KT_36 := Lib.hid (KT_35.out.below b36)
        have XO_36 := Lib.hid (XO_35.out.below b36)
        have A53_36 := Lib.hid (A53_35.out.below b36)
        have EA_36 := Lib.hid (EA_35.out.below b36)
        have HL0_36 := Lib.hid (HL0_35.out.trans (b36.mono HL0_35.out.size))
        have HBB_36 := Lib.hid (HBB_35.out.trans (b36.mono HBB_35.out.size))
        have HK_36 := Lib.hid (HK_35.out.trans (b36.mono HK_35.out.size))
        have HS_36 := Lib.hid (HS_35.out.trans (b36.mono HS_35.out.size))
        clear b36 HB1_35 PT_35 XF_35 XG_35 KT_35 XO_35 A53_35 EA_35 HL0_35 HBB_35 HK_35 HS_35
        have XZ1_36 := Lib.hid (o36)
        clear o36
        have op0 := KT_36.out.c0
        have op1 := KT_36.out.c1
        have op2 := KT_36.out.lt
        go_wp2_with fail
        clear op0 op1 op2
        refine (J7.out _ HK_36.out).mono ?_
        rintro e w37 ⟨v37, rfl, o37, b37⟩
        obtain ⟨aZ2, cZ2, rfl⟩ := o37.shape
        rw [← HNU.out] at o37 ⊢
        have HB1_37 := Lib.hid (HB1_36.out.below b37)
        have PT_37 := Lib.hid (PT_36.out.below b37)
        have XF_37 := Lib.hid (XF_36.out.below b37)
        have XG_37 := Lib.hid (XG_36.out.below b37)
        have KT_37 := Lib.hid (KT_36.out.below b37)
        have XO_37 := Lib.hid (XO_36.out.below b37)
        have A53_37 := Lib.hid (A53_36.out.below b37)
        have EA_37 := Lib.hid (EA_36.out.below b37)
        have XZ1_37 := Lib.hid (XZ1_36.out.below b37)
        have HL0_37 := Lib.hid (HL0_36.out.trans (b37.mono HL0_36.out.size))
        have HBB_37 := Lib.hid (HBB_36.out.trans (b37.mono HBB_36.out.size))
        have HK_37 := Lib.hid (HK_36.out.trans (b37.mono HK_36.out.size))
        have HS_37 := Lib.hid (HS_36.out.trans (b37.mono HS_36.out.size))
        clear b37 HB1_36 PT_36 XF_36 XG_36 KT_36 XO_36 A53_36 EA_36 XZ1_36 HL0_36 HBB_36 HK_36 HS_36
        have XZ2_37 := Lib.hid (o37)
        clear o37
        have op0 := KT_37.out.c0
        have op1 := KT_37.out.c1
        have op2 := KT_37.out.lt
        go_wp2_with fail
        clear op0 op1 op2
        refine (J5.out _ HK_37.out).mono ?_
        rintro e w38 ⟨v38, rfl, o38, b38⟩
        obtain ⟨aE2, cE2, rfl⟩ := o38.shape
        have HB1_38 := Lib.hid (HB1_37.out.below b38)
        have PT_38 := Lib.hid (PT_37.out.below b38)
        have XF_38 := Lib.hid (XF_37.out.below b38)
        have XG_38 := Lib.hid (XG_37.out.below b38)
        have KT_38 := Lib.hid (KT_37.out.below b38)
        have XO_38 := Lib.hid (XO_37.out.below b38)
        have A53_38 := Lib.hid (A53_37.out.below b38)
        have EA_38 := Lib.hid (EA_37.out.below b38)
        have XZ1_38 := Lib.hid (XZ1_37.out.below b38)
        have XZ2_38 := Lib.hid (XZ2_37.out.below b38)
        have HL0_38 := Lib.hid (HL0_37.out.trans (b38.mono HL0_37.out.size))
        have HBB_38 := Lib.hid (HBB_37.out.trans (b38.mono HBB_37.out.size))
        have HK_38 := Lib.hid (HK_37.out.trans (b38.mono HK_37.out.size))
        have HS_38 := Lib.hid (HS_37.out.trans (b38.mono HS_37.out.size))
        clear b38 HB1_37 PT_37 XF_37 XG_37 KT_37 XO_37 A53_37 EA_37 XZ1_37 XZ2_37 HL0_37 HBB_37 HK_37 HS_37
        have EB_38 := Lib.hid (o38)
        clear o38
        as_aux_lemma =>
        go_upto_region 48 with fail
        obtain ⟨bE, oE, rfl, hbE, hcE⟩ := EA_38.out.ints.2 (by omega)
        have ca1 := (hcE 0 (by omega)).1
        have ca2 := (hcE 0 (by omega)).2
        rw [Nat.zero_mul, Nat.add_zero] at ca1 ca2
        clear hcE
        have hnE : 0 < envK.length := by omega
        have cb1 := A53_38.out.c0
        have cb2 := A53_38.out.c1
        refine wp_region_noPanic ?_
        refine wp_region_held_drew (S := (fun W' => (W'.cell? ⟨bE, oE, none⟩ = some (.int .i64 (Fr.at1 envK 0)) ∧ W'.cell? ⟨bE, oE + 1, none⟩ = some (.int .i64 (Fr.at2 envK 0))) ∧ W'.cell? ⟨w33.heap.size, 0, none⟩ = some (.int .i64 kn) ∧ W'.cell? ⟨w33.heap.size, 1, none⟩ = some (.int .i64 kd))) (by kernel_rfl) ?_ (fun hHeld0 => ?_)
        · (try dsimp only); first | assumption | exact ⟨⟨ca1, ca2⟩, cb1, cb2⟩
        refine takeH (i := 0) (oi := _) (v := ?_) rfl (by kernel_rfl) (by kernel_rfl) (by kernel_rfl) (fun _ _ _ h => h) (Or.inl ⟨by rfl, ?_⟩) (by assumption) ?_
        rotate_left
        · first | (intro w hSw; (try dsimp only at hSw); go_simp; done) | (intro w hSw; (try dsimp only at hSw); go_simp; with_reducible rfl)
        (try simp only [Act.put, List.setIfInBounds_toArray, List.set_cons_zero, List.set_cons_succ])
        refine takeH (i := 1) (oi := _) (v := ?_) rfl (by kernel_rfl) (by kernel_rfl) (by kernel_rfl) (fun _ _ _ h => h) (Or.inl ⟨by rfl, ?_⟩) (by assumption) ?_
        rotate_left
        · first | (intro w hSw; (try dsimp only at hSw); go_simp; done) | (intro w hSw; (try dsimp only at hSw); go_simp; with_reducible rfl)
        (try simp only [Act.put, List.setIfInBounds_toArray, List.set_cons_zero, List.set_cons_succ])
        refine takeH (i := 2) (oi := _) (v := ?_) rfl (by kernel_rfl) (by kernel_rfl) (by kernel_rfl) (fun _ _ _ h => h) (Or.inl ⟨by rfl, ?_⟩) (by assumption) ?_
        rotate_left
        · first | (intro w hSw; (try dsimp only at hSw); go_simp; done) | (intro w hSw; (try dsimp only at hSw); go_simp; with_reducible rfl)
        (try simp only [Act.put, List.setIfInBounds_toArray, List.set_cons_zero, List.set_cons_succ])
        refine takeH (i := 3) (oi := _) (v := ?_) rfl (by kernel_rfl) (by kernel_rfl) (by kernel_rfl) (fun _ _ _ h => h) (Or.inl ⟨by rfl, ?_⟩) (by assumption) ?_
        rotate_left
        · first | (intro w hSw; (try dsimp only at hSw); go_simp; done) | (intro w hSw; (try dsimp only at hSw); go_simp; with_reducible rfl)
        (try simp only [Act.put, List.setIfInBounds_toArray, List.set_cons_zero, List.set_cons_succ])
        refine takeH (i := 4) (oi := _) (v := ?_) rfl (by kernel_rfl) (by kernel_rfl) (by kernel_rfl) (fun _ _ _ h => h) (Or.inl ⟨by rfl, ?_⟩) (by assumption) ?_
        rotate_left
        · first | (intro w hSw; (try dsimp only at hSw); go_simp; done) | (intro w hSw; (try dsimp only at hSw); go_simp; with_reducible rfl)
        (try simp only [Act.put, List.setIfInBounds_toArray, List.set_cons_zero, List.set_cons_succ])
        as_aux_lemma =>
        refine takeH (i := 5) (oi := _) (v := ?_) rfl (by kernel_rfl) (by kernel_rfl) (by kernel_rfl) (fun _ _ _ h => h) (Or.inl ⟨by rfl, ?_⟩) (by assumption) ?_
        rotate_left
        · first | (intro w hSw; (try dsimp only at hSw); go_simp; done) | (intro w hSw; (try dsimp only at hSw); go_simp; with_reducible rfl)
        (try simp only [Act.put, List.setIfInBounds_toArray, List.set_cons_zero, List.set_cons_succ])
        refine takeH (i := 6) (oi := _) (v := ?_) rfl (by kernel_rfl) (by kernel_rfl) (by kernel_rfl) (fun _ _ _ h => h) (Or.inl ⟨by rfl, ?_⟩) (by assumption) ?_
        rotate_left
        · first | (intro w hSw; (try dsimp only at hSw); go_simp; done) | (intro w hSw; (try dsimp only at hSw); go_simp; with_reducible rfl)
        (try simp only [Act.put, List.setIfInBounds_toArray, List.set_cons_zero, List.set_cons_succ])
        refine takeH (i := 7) (oi := _) (v := ?_) rfl (by kernel_rfl) (by kernel_rfl) (by kernel_rfl) (fun _ _ _ h => h) (Or.inl ⟨by rfl, ?_⟩) (by assumption) ?_
        rotate_left
        · first | (intro w hSw; (try dsimp only at hSw); go_simp; done) | (intro w hSw; (try dsimp only at hSw); go_simp; with_reducible rfl)
        (try simp only [Act.put, List.setIfInBounds_toArray, List.set_cons_zero, List.set_cons_succ])
        refine takeH (i := 8) (oi := _) (v := ?_) rfl (by kernel_rfl) (by kernel_rfl) (by kernel_rfl) (fun _ _ _ h => h) (Or.inl ⟨by rfl, ?_⟩) (by assumption) ?_
        rotate_left
        · first | (intro w hSw; (try dsimp only at hSw); go_simp; done) | (intro w hSw; (try dsimp only at hSw); go_simp; with_reducible rfl)
        (try simp only [Act.put, List.setIfInBounds_toArray, List.set_cons_zero, List.set_cons_succ])
        refine takeH (i := 9) (oi := _) (v := ?_) rfl (by kernel_rfl) (by kernel_rfl) (by kernel_rfl) (fun _ _ _ h => h) (Or.inl ⟨by rfl, ?_⟩) (by assumption) ?_
        rotate_left
        · first | (intro w hSw; (try dsimp only at hSw); go_simp; done) | (intro w hSw; (try dsimp only at hSw); go_simp; with_reducible rfl)
        (try simp only [Act.put, List.setIfInBounds_toArray, List.set_cons_zero, List.set_cons_succ])
        as_aux_lemma =>
        refine takeH (i := 10) (oi := _) (v := ?_) rfl (by kernel_rfl) (by kernel_rfl) (by kernel_rfl) (fun _ _ _ h => h) (Or.inl ⟨by rfl, ?_⟩) (by assumption) ?_
        rotate_left
        · first | (intro w hSw; (try dsimp only at hSw); go_simp; done) | (intro w hSw; (try dsimp only at hSw); go_simp; with_reducible rfl)
        (try simp only [Act.put, List.setIfInBounds_toArray, List.set_cons_zero, List.set_cons_succ])
        refine takeH (i := 11) (oi := _) (v := ?_) rfl (by kernel_rfl) (by kernel_rfl) (by kernel_rfl) (fun _ _ _ h => h) (Or.inl ⟨by rfl, ?_⟩) (by assumption) ?_
        rotate_left
        · first | (intro w hSw; (try dsimp only at hSw); go_simp; done) | (intro w hSw; (try dsimp only at hSw); go_simp; with_reducible rfl)
        (try simp only [Act.put, List.setIfInBounds_toArray, List.set_cons_zero, List.set_cons_succ])
        refine takeH (i := 12) (oi := _) (v := ?_) rfl (by kernel_rfl) (by kernel_rfl) (by kernel_rfl) (fun _ _ _ h => h) (Or.inl ⟨by rfl, ?_⟩) (by assumption) ?_
        rotate_left
        · first | (intro w hSw; (try dsimp only at hSw); go_simp; done) | (intro w hSw; (try dsimp only at hSw); go_simp; with_reducible rfl)
        (try simp only [Act.put, List.setIfInBounds_toArray, List.set_cons_zero, List.set_cons_succ])
        refine takeH (i := 13) (oi := _) (v := ?_) rfl (by kernel_rfl) (by kernel_rfl) (by kernel_rfl) (fun _ _ _ h => h) (Or.inl ⟨by rfl, ?_⟩) (by assumption) ?_
        rotate_left
        · first | (intro w hSw; (try dsimp only at hSw); go_simp; done) | (intro w hSw; (try dsimp only at hSw); go_simp; with_reducible rfl)
        (try simp only [Act.put, List.setIfInBounds_toArray, List.set_cons_zero, List.set_cons_succ])
        refine takeH (i := 14) (oi := _) (v := ?_) rfl (by kernel_rfl) (by kernel_rfl) (by kernel_rfl) (fun _ _ _ h => h) (Or.inl ⟨by rfl, ?_⟩) (by assumption) ?_
        rotate_left
        · first | (intro w hSw; (try dsimp only at hSw); go_simp; done) | (intro w hSw; (try dsimp only at hSw); go_simp; with_reducible rfl)
        (try simp only [Act.put, List.setIfInBounds_toArray, List.set_cons_zero, List.set_cons_succ])
        as_aux_lemma =>
        refine takeH (i := 15) (oi := _) (v := ?_) rfl (by kernel_rfl) (by kernel_rfl) (by kernel_rfl) (fun _ _ _ h => h) (Or.inl ⟨by rfl, ?_⟩) (by assumption) ?_
        rotate_left
        · first | (intro w hSw; (try dsimp only at hSw); go_simp; done) | (intro w hSw; (try dsimp only at hSw); go_simp; with_reducible rfl)
        (try simp only [Act.put, List.setIfInBounds_toArray, List.set_cons_zero, List.set_cons_succ])
        refine takeH (i := 16) (oi := _) (v := ?_) rfl (by kernel_rfl) (by kernel_rfl) (by kernel_rfl) (fun _ _ _ h => h) (Or.inl ⟨by rfl, ?_⟩) (by assumption) ?_
        rotate_left
        · first | (intro w hSw; (try dsimp only at hSw); go_simp; done) | (intro w hSw; (try dsimp only at hSw); go_simp; with_reducible rfl)
        (try simp only [Act.put, List.setIfInBounds_toArray, List.set_cons_zero, List.set_cons_succ])
        refine takeH (i := 17) (oi := _) (v := ?_) rfl (by kernel_rfl) (by kernel_rfl) (by kernel_rfl) (fun _ _ _ h => h) (Or.inl ⟨by rfl, ?_⟩) (by assumption) ?_
        rotate_left
        · first | (intro w hSw; (try dsimp only at hSw); go_simp; done) | (intro w hSw; (try dsimp only at hSw); go_simp; with_reducible rfl)
        (try simp only [Act.put, List.setIfInBounds_toArray, List.set_cons_zero, List.set_cons_succ])
        refine takeH (i := 18) (oi := _) (v := ?_) rfl (by kernel_rfl) (by kernel_rfl) (by kernel_rfl) (fun _ _ _ h => h) (Or.inl ⟨by rfl, ?_⟩) (by assumption) ?_
        rotate_left
        · first | (intro w hSw; (try dsimp only at hSw); go_simp; done) | (intro w hSw; (try dsimp only at hSw); go_simp; with_reducible rfl)
        (try simp only [Act.put, List.setIfInBounds_toArray, List.set_cons_zero, List.set_cons_succ])
        refine takeH (i := 19) (oi := _) (v := ?_) rfl (by kernel_rfl) (by kernel_rfl) (by kernel_rfl) (fun _ _ _ h => h) (Or.inl ⟨by rfl, ?_⟩) (by assumption) ?_
        rotate_left
        · first | (intro w hSw; (try dsimp only at hSw); go_simp; done) | (intro w hSw; (try dsimp only at hSw); go_simp; with_reducible rfl)
        (try simp only [Act.put, List.setIfInBounds_toArray, List.set_cons_zero, List.set_cons_succ])
        as_aux_lemma =>
        refine takeH (i := 20) (oi := _) (v := ?_) rfl (by kernel_rfl) (by kernel_rfl) (by kernel_rfl) (fun _ _ _ h => h) (Or.inl ⟨by rfl, ?_⟩) (by assumption) ?_
        rotate_left
        · first | (intro w hSw; (try dsimp only at hSw); go_simp; done) | (intro w hSw; (try dsimp only at hSw); go_simp; with_reducible rfl)
        (try simp only [Act.put, List.setIfInBounds_toArray, List.set_cons_zero, List.set_cons_succ])
        refine wpAnyH_ready (rs := [21]) (by kernel_rfl) (by simp) ?_
        refine consH rfl (fun Kq hKq => ?_)
        go_simp
        refine (laws_rFracs _ _ _ _ _ envK _ (by omega) (EA_38.out.below (Below.refl _ _).drew).ints (EB_38.out.below (Below.refl _ _).drew).ints).mono ?_
        rintro e wq ⟨rfl, bq⟩
        have bq2 := (Below.refl w38.heap.size w38).drew.trans bq
        have hSS := And.intro (And.intro (cell_up bq2 ca1) (cell_up bq2 ca2)) (And.intro (cell_up bq2 cb1) (cell_up bq2 cb2))
        clear bq
        refine hKq.out _ _ ?_ (fun hHeld1 => ?_)
        · (try dsimp only); first | assumption | exact ⟨⟨ca1, ca2⟩, cb1, cb2⟩
        clear hKq Kq
        (try simp only [Act.put, List.setIfInBounds_toArray, List.set_cons_zero, List.set_cons_succ])
        clear hHeld0
        refine takeH (i := 22) (oi := _) (v := ?_) rfl (by kernel_rfl) (by kernel_rfl) (by kernel_rfl) (fun _ _ _ h => h) (Or.inl ⟨by rfl, ?_⟩) (by assumption) ?_
        rotate_left
        · first | (intro w hSw; (try dsimp only at hSw); go_simp; done) | (intro w hSw; (try dsimp only at hSw); go_simp; with_reducible rfl)
        (try simp only [Act.put, List.setIfInBounds_toArray, List.set_cons_zero, List.set_cons_succ])
        refine takeH (i := 23) (oi := _) (v := ?_) rfl (by kernel_rfl) (by kernel_rfl) (by kernel_rfl) (fun _ _ _ h => h) (Or.inl ⟨by rfl, ?_⟩) (by assumption) ?_
        rotate_left
        · first | (intro w hSw; (try dsimp only at hSw); go_simp; done) | (intro w hSw; (try dsimp only at hSw); go_simp; with_reducible rfl)
        (try simp only [Act.put, List.setIfInBounds_toArray, List.set_cons_zero, List.set_cons_succ])
        refine takeH (i := 24) (oi := _) (v := ?_) rfl (by kernel_rfl) (by kernel_rfl) (by kernel_rfl) (fun _ _ _ h => h) (Or.inl ⟨by rfl, ?_⟩) (by assumption) ?_
        rotate_left
        · first | (intro w hSw; (try dsimp only at hSw); go_simp; done) | (intro w hSw; (try dsimp only at hSw); go_simp; with_reducible rfl)
        (try simp only [Act.put, List.setIfInBounds_toArray, List.set_cons_zero, List.set_cons_succ])
        as_aux_lemma =>
        refine takeH (i := 25) (oi := _) (v := ?_) rfl (by kernel_rfl) (by kernel_rfl) (by kernel_rfl) (fun _ _ _ h => h) (Or.inl ⟨by rfl, ?_⟩) (by assumption) ?_
        rotate_left
        · first | (intro w hSw; (try dsimp only at hSw); go_simp; done) | (intro w hSw; (try dsimp only at hSw); go_simp; with_reducible rfl)
        (try simp only [Act.put, List.setIfInBounds_toArray, List.set_cons_zero, List.set_cons_succ])
        refine takeH (i := 26) (oi := _) (v := ?_) rfl (by kernel_rfl) (by kernel_rfl) (by kernel_rfl) (fun _ _ _ h => h) (Or.inl ⟨by rfl, ?_⟩) (by assumption) ?_
        rotate_left
        · first | (intro w hSw; (try dsimp only at hSw); go_simp; done) | (intro w hSw; (try dsimp only at hSw); go_simp; with_reducible rfl)
        (try simp only [Act.put, List.setIfInBounds_toArray, List.set_cons_zero, List.set_cons_succ])
        refine takeH (i := 27) (oi := _) (v := ?_) rfl (by kernel_rfl) (by kernel_rfl) (by kernel_rfl) (fun _ _ _ h => h) (Or.inl ⟨by rfl, ?_⟩) (by assumption) ?_
        rotate_left
        · first | (intro w hSw; (try dsimp only at hSw); go_simp; done) | (intro w hSw; (try dsimp only at hSw); go_simp; with_reducible rfl)
        (try simp only [Act.put, List.setIfInBounds_toArray, List.set_cons_zero, List.set_cons_succ])
        refine takeH (i := 28) (oi := _) (v := ?_) rfl (by kernel_rfl) (by kernel_rfl) (by kernel_rfl) (fun _ _ _ h => h) (Or.inl ⟨by rfl, ?_⟩) (by assumption) ?_
        rotate_left
        · first | (intro w hSw; (try dsimp only at hSw); go_simp; done) | (intro w hSw; (try dsimp only at hSw); go_simp; with_reducible rfl)
        (try simp only [Act.put, List.setIfInBounds_toArray, List.set_cons_zero, List.set_cons_succ])
        refine wpAnyH_ready (rs := [29]) (by kernel_rfl) (by simp) ?_
        refine consH rfl (fun Kq hKq => ?_)
        go_simp
        refine (laws_rLess _ _ _ _ _ hm1 hm2).mono ?_
        rintro e wy ⟨rfl, bz⟩
        rw [Hdec.out]
        have by2 := bq2.trans (bz.mono bq2.size)
        have hSS2 := And.intro (And.intro (cell_up by2 ca1) (cell_up by2 ca2)) (And.intro (cell_up by2 cb1) (cell_up by2 cb2))
        clear bz
        refine hKq.out _ _ ?_ (fun hHeld2 => ?_)
        · (try dsimp only); first | assumption | exact ⟨⟨ca1, ca2⟩, cb1, cb2⟩
        clear hKq Kq
        (try simp only [Act.put, List.setIfInBounds_toArray, List.set_cons_zero, List.set_cons_succ])
        clear hHeld1
        as_aux_lemma =>
        refine takeH (i := 30) (oi := _) (v := ?_) rfl (by kernel_rfl) (by kernel_rfl) (by kernel_rfl) (fun _ _ _ h => h) (Or.inl ⟨by rfl, ?_⟩) (by assumption) ?_
        rotate_left
        · first | (intro w hSw; (try dsimp only at hSw); go_simp; done) | (intro w hSw; (try dsimp only at hSw); go_simp; with_reducible rfl)
        (try simp only [Act.put, List.setIfInBounds_toArray, List.set_cons_zero, List.set_cons_succ])
        refine takeH (i := 31) (oi := _) (v := ?_) rfl (by kernel_rfl) (by kernel_rfl) (by kernel_rfl) (fun _ _ _ h => h) (Or.inl ⟨by rfl, ?_⟩) (by assumption) ?_
        rotate_left
        · first | (intro w hSw; (try dsimp only at hSw); go_simp; done) | (intro w hSw; (try dsimp only at hSw); go_simp; with_reducible rfl)
        (try simp only [Act.put, List.setIfInBounds_toArray, List.set_cons_zero, List.set_cons_succ])
        refine takeH (i := 32) (oi := _) (v := ?_) rfl (by kernel_rfl) (by kernel_rfl) (by kernel_rfl) (fun _ _ _ h => h) (Or.inl ⟨by rfl, ?_⟩) (by assumption) ?_
        rotate_left
        · first | (intro w hSw; (try dsimp only at hSw); go_simp; done) | (intro w hSw; (try dsimp only at hSw); go_simp; with_reducible rfl)
        (try simp only [Act.put, List.setIfInBounds_toArray, List.set_cons_zero, List.set_cons_succ])
        refine takeH (i := 33) (oi := _) (v := ?_) rfl (by kernel_rfl) (by kernel_rfl) (by kernel_rfl) (fun _ _ _ h => h) (Or.inl ⟨by rfl, ?_⟩) (by assumption) ?_
        rotate_left
        · first | (intro w hSw; (try dsimp only at hSw); go_simp; done) | (intro w hSw; (try dsimp only at hSw); go_simp; with_reducible rfl)
        (try simp only [Act.put, List.setIfInBounds_toArray, List.set_cons_zero, List.set_cons_succ])
        refine wpAnyH_ready (rs := [34]) (by kernel_rfl) (by simp) ?_
        refine consH rfl (fun Kq hKq => ?_)
        go_simp
        refine (laws_rInts _ _ _ _ _ bestK _ (by omega) (XZ1_38.out.below by2).ints (XZ2_38.out.below by2).ints).mono ?_
        rintro e wz ⟨rfl, bz⟩
        have bz2 := by2.trans (bz.mono by2.size)
        have hSS3 := And.intro (And.intro (cell_up bz2 ca1) (cell_up bz2 ca2)) (And.intro (cell_up bz2 cb1) (cell_up bz2 cb2))
        clear bz
        refine hKq.out _ _ ?_ (fun hHeld3 => ?_)
        · (try dsimp only); first | assumption | exact ⟨⟨ca1, ca2⟩, cb1, cb2⟩
        clear hKq Kq
        (try simp only [Act.put, List.setIfInBounds_toArray, List.set_cons_zero, List.set_cons_succ])
        clear hHeld2
        as_aux_lemma =>
        refine takeH (i := 35) (oi := _) (v := ?_) rfl (by kernel_rfl) (by kernel_rfl) (by kernel_rfl) (fun _ _ _ h => h) (Or.inl ⟨by rfl, ?_⟩) (by assumption) ?_
        rotate_left
        · first | (intro w hSw; (try dsimp only at hSw); go_simp; done) | (intro w hSw; (try dsimp only at hSw); go_simp; with_reducible rfl)
        (try simp only [Act.put, List.setIfInBounds_toArray, List.set_cons_zero, List.set_cons_succ])
        refine takeH (i := 36) (oi := _) (v := ?_) rfl (by kernel_rfl) (by kernel_rfl) (by kernel_rfl) (fun _ _ _ h => h) (Or.inl ⟨by rfl, ?_⟩) (by assumption) ?_
        rotate_left
        · first | (intro w hSw; (try dsimp only at hSw); go_simp; done) | (intro w hSw; (try dsimp only at hSw); go_simp; with_reducible rfl)
        (try simp only [Act.put, List.setIfInBounds_toArray, List.set_cons_zero, List.set_cons_succ])
        refine wpAnyH_done (by kernel_rfl) ?_ _
        refine NoPanic.normal ?_
        go_wp2_with fail
        go_meet
        case rel => exact ⟨rfl, HS_38.out.trans (bz2.mono HS_38.out.size)⟩
    case rest =>
    obtain ⟨rfl, b33⟩ := hcut
    obtain ⟨w33, hwc⟩ : ∃ z, z = wc := ⟨_, rfl⟩
    rw [← hwc] at b33 ⊢
    clear hwc wc
    have HB1_33 := Lib.hid (HB1_32.out.below b33)
    have PT_33 := Lib.hid (PT_32.out.below b33)
    have XF_33 := Lib.hid (XF_32.out.below b33)
    have XG_33 := Lib.hid (XG_32.out.below b33)
    have KT_33 := Lib.hid (KT_32.out.below b33)
    have XO_33 := Lib.hid (XO_32.out.below b33)
    have HL0_33 := Lib.hid (HL0_32.out.trans (b33.mono HL0_32.out.size))
    have HBB_33 := Lib.hid (HBB_32.out.trans (b33.mono HBB_32.out.size))
    have HK_33 := Lib.hid (HK_32.out.trans (b33.mono HK_32.out.size))
    clear b33 HB1_32 PT_32 XF_32 XG_32 KT_32 XO_32 HL0_32 HBB_32 HK_32
    clear KT_33
    clear HK_33
    clear XO_33
    clear K1 K2 K3 K4 K5 K6 K7 KP
    as_aux_lemma =>
    go_upto_if 403 with fail
    cases ok
    · go_wp2_with fail
      go_ret
      exact ⟨rfl, HBB_33.out⟩
    · as_aux_lemma =>
      have J8 := Lib.hid (S1.out rfl)
      have J9 := Lib.hid (S2.out rfl)
      have J0 := Lib.hid (R0.out rfl)
      have J1 := Lib.hid (R1.out rfl)
      have J2 := Lib.hid (R2.out rfl)
      have J3 := Lib.hid (R3.out rfl)
      clear S1 S2 R0 R1 R2 R3
      have hnp24 : nP ≤ 24 := by have := HNP24.out rfl; have := HPL.out; omega
      have Hnum : Hid (num = numL nP) := Lib.hid (by rw [HNUM.out, ← HNP.out, HPL.out])
      clear HNP24 HNUM HNP HNL HPL E1 E2 E3 E4
      have O0 := Lib.hid (own_nil0 w33)
      have B0 := Lib.hid (below_new w33 (.cells #[] 3))
      go_upto_region 53 with fail
      obtain ⟨wo, hwo⟩ : ∃ z, z = w33.alloc (.cells #[] 3) := ⟨_, rfl⟩
      rw [← hwo] at O0 B0 ⊢
      clear hwo
      go_wp2_with fail
      simp only [Bool.not_true]
      go_loopw [63, 64] (fun v63 v64 wr => ∃ k : Nat, k ≤ nP ∧ v64 = .int .i64 (k : Int) ∧ Own wr w33.heap.size v63 (numL k) ∧ Below w33.heap.size w33 wr) (fun _ v64 _ => nP - (intOf v64).toNat)
      case atStart => exact ⟨0, Nat.zero_le _, rfl, O0.out, B0.out⟩
      case round =>
        clear O0 B0
        obtain ⟨k, hk, rfl, hown, hbr⟩ := hrel
        have hPT := PT_33.out.below hbr
        have x0 := hPT.c0
        have x1 := hPT.c1
        clear hPT
        by_cases hlt : (k : Int) < nP
        · have hkk0 : 0 ≤ (k : Int) * k := Int.mul_nonneg (by omega) (by omega)
          have hkk : (k : Int) * k ≤ 24 * 24 := Int.mul_le_mul (by omega) (by omega) (by omega) (by omega)
          have hnb := numAt_bd k
          have hns := numL_succ k
          have hll := numL_length k
          obtain ⟨u, hu⟩ : ∃ u, u = ((k : Int) * k * 7).tmod 31 := ⟨_, rfl⟩
          have hv : numAt k = u - 10 := by rw [hu]; rfl
          rw [hv] at hnb hns
          obtain ⟨m1, hm1⟩ : ∃ m, m = (k : Int) * k := ⟨_, rfl⟩
          obtain ⟨m2, hm2⟩ : ∃ m, m = m1 * 7 := ⟨_, rfl⟩
          have k1 : IntKind.i64.wrap ((k : Int) * k) = m1 := by rw [hm1]; exact IntWalk.i64_in _ (by omega)
          have k2 : IntKind.i64.wrap (m1 * 7) = m2 := by rw [hm2, hm1]; exact IntWalk.i64_in _ (by omega)
          have k3 : m2.tmod 31 = u := by rw [hm2, hm1]; exact hu.symm
          have k4 : IntKind.i64.wrap u = u := IntWalk.i64_in _ (by omega)
          obtain ⟨u2, hu2⟩ : ∃ m, m = u - 10 := ⟨_, rfl⟩
          have k5 : IntKind.i64.wrap (u - 10) = u2 := by rw [hu2]; exact IntWalk.i64_in _ (by omega)
          rw [← hu2] at hns
          have k6 : ¬ (31 : Int) = 0 := by omega
          have Hns := Lib.hid hns
          have Hll := Lib.hid hll
          obtain ⟨a8, c8, rfl⟩ := hown.shape
          have hle : w33.heap.size ≤ wr.heap.size := hbr.size
          clear hu hv hns hll hnb hkk hkk0 hm1 hm2 hu2
          generalize numL k = acc at *
          go_wp2_with (at_builtin; refine wp_push (.tmp 412) (.tmp 419) rfl rfl w33.heap.size _ _ rfl hown rfl (by have := Hll.out; omega) hle ?_; intro v' w' ho hb)
          go_roundw
          case rel => exact ⟨k + 1, by omega, by go_num, by rw [Hns.out]; exact ho, hbr.trans hb⟩
          case measure => simp [intOf] <;> omega
        · obtain rfl : k = nP := by omega
          obtain ⟨a8, c8, rfl⟩ := hown.shape
          rw [numL_length] at hown ⊢
          rw [← Hnum.out] at hown
          have hcN := hown.cap.2.1
          obtain ⟨w34, hwc⟩ : ∃ z, z = wr := ⟨_, rfl⟩
          rw [← hwc] at hbr hown x0 x1 ⊢
          have b34 := hbr
          have XN_34 := Lib.hid hown
          clear hwc hbr hown Hnum x0 x1 hlt
          have HB1_34 := Lib.hid (HB1_33.out.below b34)
          have PT_34 := Lib.hid (PT_33.out.below b34)
          have XF_34 := Lib.hid (XF_33.out.below b34)
          have XG_34 := Lib.hid (XG_33.out.below b34)
          have HL0_34 := Lib.hid (HL0_33.out.trans (b34.mono HL0_33.out.size))
          have HBB_34 := Lib.hid (HBB_33.out.trans (b34.mono HBB_33.out.size))
          clear b34 HB1_33 PT_33 XF_33 XG_33 HL0_33 HBB_33
          as_aux_lemma =>
          have op0 := PT_34.out.c0
          have op1 := PT_34.out.c1
          have op2 := PT_34.out.lt
          go_wp2_with fail
          clear op0 op1 op2
          refine (J0.out _ _ _ _ HL0_34.out XN_34.out.ints hcN (by omega)).mono ?_
          rintro e w35 ⟨rfl, b35⟩
          have HB1_35 := Lib.hid (HB1_34.out.below b35)
          have PT_35 := Lib.hid (PT_34.out.below b35)
          have XF_35 := Lib.hid (XF_34.out.below b35)
          have XG_35 := Lib.hid (XG_34.out.below b35)
          have XN_35 := Lib.hid (XN_34.out.below b35)
          have HL0_35 := Lib.hid (HL0_34.out.trans (b35.mono HL0_34.out.size))
          have HBB_35 := Lib.hid (HBB_34.out.trans (b35.mono HBB_34.out.size))
          clear b35 HB1_34 PT_34 XF_34 XG_34 XN_34 HL0_34 HBB_34
          have zz := Pair.new w35 (.int .i64 0) (.int .i64 0) 29
          have zz0 := zz.c0
          have zz1 := zz.c1
          have zz2 := zz.f0
          have zz3 := zz.f1
          clear zz
          have op0 := PT_35.out.c0
          have op1 := PT_35.out.c1
          have op2 := PT_35.out.lt
          have nb := below_new w35 (.cells #[.int .i64 xA, .int .i64 yA] 29)
          have MA_36 := Lib.hid (Pair.new w35 (.int .i64 xA) (.int .i64 yA) 29)
          have HB1_36 := Lib.hid (HB1_35.out.below nb)
          have PT_36 := Lib.hid (PT_35.out.below nb)
          have XF_36 := Lib.hid (XF_35.out.below nb)
          have XG_36 := Lib.hid (XG_35.out.below nb)
          have XN_36 := Lib.hid (XN_35.out.below nb)
          have HL0_36 := Lib.hid (HL0_35.out.trans (nb.mono HL0_35.out.size))
          have HBB_36 := Lib.hid (HBB_35.out.trans (nb.mono HBB_35.out.size))
          clear nb HB1_35 PT_35 XF_35 XG_35 XN_35 HL0_35 HBB_35
          go_wp2_with fail
          clear zz0 zz1 zz2 zz3 op0 op1 op2
          generalize (w35.alloc (.cells #[.int .i64 xA, .int .i64 yA] 29)) = w36 at *
          refine (J1.out _ _ _ _ HL0_36.out XN_36.out.ints hcN (by omega)).mono ?_
          rintro e w37 ⟨rfl, b37⟩
          have HB1_37 := Lib.hid (HB1_36.out.below b37)
          have PT_37 := Lib.hid (PT_36.out.below b37)
          have XF_37 := Lib.hid (XF_36.out.below b37)
          have XG_37 := Lib.hid (XG_36.out.below b37)
          have XN_37 := Lib.hid (XN_36.out.below b37)
          have MA_37 := Lib.hid (MA_36.out.below b37)
          have HL0_37 := Lib.hid (HL0_36.out.trans (b37.mono HL0_36.out.size))
          have HBB_37 := Lib.hid (HBB_36.out.trans (b37.mono HBB_36.out.size))
          clear b37 HB1_36 PT_36 XF_36 XG_36 XN_36 MA_36 HL0_36 HBB_36
          have zz := Pair.new w37 (.int .i64 0) (.int .i64 0) 29
          have zz0 := zz.c0
          have zz1 := zz.c1
          have zz2 := zz.f0
          have zz3 := zz.f1
          clear zz
          have op0 := PT_37.out.c0
          have op1 := PT_37.out.c1
          have op2 := PT_37.out.lt
          have nb := below_new w37 (.cells #[.int .i64 xB, .int .i64 yB] 29)
          have MB_38 := Lib.hid (Pair.new w37 (.int .i64 xB) (.int .i64 yB) 29)
          have HB1_38 := Lib.hid (HB1_37.out.below nb)
          have PT_38 := Lib.hid (PT_37.out.below nb)
          have XF_38 := Lib.hid (XF_37.out.below nb)
          have XG_38 := Lib.hid (XG_37.out.below nb)
          have XN_38 := Lib.hid (XN_37.out.below nb)
          have MA_38 := Lib.hid (MA_37.out.below nb)
          have HL0_38 := Lib.hid (HL0_37.out.trans (nb.mono HL0_37.out.size))
          have HBB_38 := Lib.hid (HBB_37.out.trans (nb.mono HBB_37.out.size))
          clear nb HB1_37 PT_37 XF_37 XG_37 XN_37 MA_37 HL0_37 HBB_37
          go_wp2_with fail
          clear zz0 zz1 zz2 zz3 op0 op1 op2
          generalize (w37.alloc (.cells #[.int .i64 xB, .int .i64 yB] 29)) = w38 at *
          as_aux_lemma =>
          refine (J2.out _ _ _ _ _ _ _ HL0_38.out XN_38.out.ints hcN (by omega) XF_38.out.ints hcF (by omega)).mono ?_
          rintro e w39 ⟨rfl, b39⟩
          have HB1_39 := Lib.hid (HB1_38.out.below b39)
          have PT_39 := Lib.hid (PT_38.out.below b39)
          have XF_39 := Lib.hid (XF_38.out.below b39)
          have XG_39 := Lib.hid (XG_38.out.below b39)
          have XN_39 := Lib.hid (XN_38.out.below b39)
          have MA_39 := Lib.hid (MA_38.out.below b39)
          have MB_39 := Lib.hid (MB_38.out.below b39)
          have HL0_39 := Lib.hid (HL0_38.out.trans (b39.mono HL0_38.out.size))
          have HBB_39 := Lib.hid (HBB_38.out.trans (b39.mono HBB_38.out.size))
          clear b39 HB1_38 PT_38 XF_38 XG_38 XN_38 MA_38 MB_38 HL0_38 HBB_38
          have zz := Pair.new w39 (.int .i64 0) (.int .i64 0) 29
          have zz0 := zz.c0
          have zz1 := zz.c1
          have zz2 := zz.f0
          have zz3 := zz.f1
          clear zz
          have op0 := PT_39.out.c0
          have op1 := PT_39.out.c1
          have op2 := PT_39.out.lt
          have nb := below_new w39 (.cells #[.int .i64 xF, .int .i64 yF] 29)
          have MF_40 := Lib.hid (Pair.new w39 (.int .i64 xF) (.int .i64 yF) 29)
          have HB1_40 := Lib.hid (HB1_39.out.below nb)
          have PT_40 := Lib.hid (PT_39.out.below nb)
          have XF_40 := Lib.hid (XF_39.out.below nb)
          have XG_40 := Lib.hid (XG_39.out.below nb)
          have XN_40 := Lib.hid (XN_39.out.below nb)
          have MA_40 := Lib.hid (MA_39.out.below nb)
          have MB_40 := Lib.hid (MB_39.out.below nb)
          have HL0_40 := Lib.hid (HL0_39.out.trans (nb.mono HL0_39.out.size))
          have HBB_40 := Lib.hid (HBB_39.out.trans (nb.mono HBB_39.out.size))
          clear nb HB1_39 PT_39 XF_39 XG_39 XN_39 MA_39 MB_39 HL0_39 HBB_39
          go_wp2_with fail
          clear zz0 zz1 zz2 zz3 op0 op1 op2
          generalize (w39.alloc (.cells #[.int .i64 xF, .int .i64 yF] 29)) = w40 at *
          refine (J3.out _ _ _ _ _ _ _ HL0_40.out XN_40.out.ints hcN (by omega) XG_40.out.ints hcG (by omega)).mono ?_
          rintro e w41 ⟨rfl, b41⟩
          have HB1_41 := Lib.hid (HB1_40.out.below b41)
          have PT_41 := Lib.hid (PT_40.out.below b41)
          have XF_41 := Lib.hid (XF_40.out.below b41)
          have XG_41 := Lib.hid (XG_40.out.below b41)
          have XN_41 := Lib.hid (XN_40.out.below b41)
          have MA_41 := Lib.hid (MA_40.out.below b41)
          have MB_41 := Lib.hid (MB_40.out.below b41)
          have MF_41 := Lib.hid (MF_40.out.below b41)
          have HL0_41 := Lib.hid (HL0_40.out.trans (b41.mono HL0_40.out.size))
          have HBB_41 := Lib.hid (HBB_40.out.trans (b41.mono HBB_40.out.size))
          clear b41 HB1_40 PT_40 XF_40 XG_40 XN_40 MA_40 MB_40 MF_40 HL0_40 HBB_40
          have zz := Pair.new w41 (.int .i64 0) (.int .i64 0) 29
          have zz0 := zz.c0
          have zz1 := zz.c1
          have zz2 := zz.f0
          have zz3 := zz.f1
          clear zz
          have op0 := PT_41.out.c0
          have op1 := PT_41.out.c1
          have op2 := PT_41.out.lt
          have op3 := MA_41.out.c0
          have op4 := MA_41.out.c1
          have op5 := MA_41.out.lt
          have op6 := MB_41.out.c0
          have op7 := MB_41.out.c1
          have op8 := MB_41.out.lt
          have nb := below_new w41 (.cells #[.int .i64 xG, .int .i64 yG] 29)
          have MG_42 := Lib.hid (Pair.new w41 (.int .i64 xG) (.int .i64 yG) 29)
          have HB1_42 := Lib.hid (HB1_41.out.below nb)
          have PT_42 := Lib.hid (PT_41.out.below nb)
          have XF_42 := Lib.hid (XF_41.out.below nb)
          have XG_42 := Lib.hid (XG_41.out.below nb)
          have XN_42 := Lib.hid (XN_41.out.below nb)
          have MA_42 := Lib.hid (MA_41.out.below nb)
          have MB_42 := Lib.hid (MB_41.out.below nb)
          have MF_42 := Lib.hid (MF_41.out.below nb)
          have HL0_42 := Lib.hid (HL0_41.out.trans (nb.mono HL0_41.out.size))
          have HBB_42 := Lib.hid (HBB_41.out.trans (nb.mono HBB_41.out.size))
          clear nb HB1_41 PT_41 XF_41 XG_41 XN_41 MA_41 MB_41 MF_41 HL0_41 HBB_41
          go_wp2_with fail
          clear zz0 zz1 zz2 zz3 op0 op1 op2 op3 op4 op5 op6 op7 op8
          generalize (w41.alloc (.cells #[.int .i64 xG, .int .i64 yG] 29)) = w42 at *
          as_aux_lemma =>
          refine (J8.out _).mono ?_
          rintro e w43 ⟨rfl, b43⟩
          have HB1_43 := Lib.hid (HB1_42.out.below b43)
          have PT_43 := Lib.hid (PT_42.out.below b43)
          have XF_43 := Lib.hid (XF_42.out.below b43)
          have XG_43 := Lib.hid (XG_42.out.below b43)
          have XN_43 := Lib.hid (XN_42.out.below b43)
          have MA_43 := Lib.hid (MA_42.out.below b43)
          have MB_43 := Lib.hid (MB_42.out.below b43)
          have MF_43 := Lib.hid (MF_42.out.below b43)
          have MG_43 := Lib.hid (MG_42.out.below b43)
          have HL0_43 := Lib.hid (HL0_42.out.trans (b43.mono HL0_42.out.size))
          have HBB_43 := Lib.hid (HBB_42.out.trans (b43.mono HBB_42.out.size))
          clear b43 HB1_42 PT_42 XF_42 XG_42 XN_42 MA_42 MB_42 MF_42 MG_42 HL0_42 HBB_42
          have zz := Pair.new w43 (.int .i64 0) (.int .i64 0) 29
          have zz0 := zz.c0
          have zz1 := zz.c1
          have zz2 := zz.f0
          have zz3 := zz.f1
          clear zz
          have op0 := MF_43.out.c0
          have op1 := MF_43.out.c1
          have op2 := MF_43.out.lt
          have op3 := MG_43.out.c0
          have op4 := MG_43.out.c1
          have op5 := MG_43.out.lt
          have nb := below_new w43 (.cells #[.int .i64 sn, .int .i64 sd] 29)
          have X1_44 := Lib.hid (Pair.new w43 (.int .i64 sn) (.int .i64 sd) 29)
          have HB1_44 := Lib.hid (HB1_43.out.below nb)
          have PT_44 := Lib.hid (PT_43.out.below nb)
          have XF_44 := Lib.hid (XF_43.out.below nb)
          have XG_44 := Lib.hid (XG_43.out.below nb)
          have XN_44 := Lib.hid (XN_43.out.below nb)
          have MA_44 := Lib.hid (MA_43.out.below nb)
          have MB_44 := Lib.hid (MB_43.out.below nb)
          have MF_44 := Lib.hid (MF_43.out.below nb)
          have MG_44 := Lib.hid (MG_43.out.below nb)
          have HL0_44 := Lib.hid (HL0_43.out.trans (nb.mono HL0_43.out.size))
          have HBB_44 := Lib.hid (HBB_43.out.trans (nb.mono HBB_43.out.size))
          clear nb HB1_43 PT_43 XF_43 XG_43 XN_43 MA_43 MB_43 MF_43 MG_43 HL0_43 HBB_43
          go_wp2_with fail
          clear zz0 zz1 zz2 zz3 op0 op1 op2 op3 op4 op5
          generalize (w43.alloc (.cells #[.int .i64 sn, .int .i64 sd] 29)) = w44 at *
          refine (J9.out _).mono ?_
          rintro e w45 ⟨rfl, b45⟩
          have HB1_45 := Lib.hid (HB1_44.out.below b45)
          have PT_45 := Lib.hid (PT_44.out.below b45)
          have XF_45 := Lib.hid (XF_44.out.below b45)
          have XG_45 := Lib.hid (XG_44.out.below b45)
          have XN_45 := Lib.hid (XN_44.out.below b45)
          have MA_45 := Lib.hid (MA_44.out.below b45)
          have MB_45 := Lib.hid (MB_44.out.below b45)
          have MF_45 := Lib.hid (MF_44.out.below b45)
          have MG_45 := Lib.hid (MG_44.out.below b45)
          have X1_45 := Lib.hid (X1_44.out.below b45)
          have HL0_45 := Lib.hid (HL0_44.out.trans (b45.mono HL0_44.out.size))
          have HBB_45 := Lib.hid (HBB_44.out.trans (b45.mono HBB_44.out.size))
          clear b45 HB1_44 PT_44 XF_44 XG_44 XN_44 MA_44 MB_44 MF_44 MG_44 X1_44 HL0_44 HBB_44
          have zz := Pair.new w45 (.int .i64 0) (.int .i64 0) 29
          have zz0 := zz.c0
          have zz1 := zz.c1
          have zz2 := zz.f0
          have zz3 := zz.f1
          clear zz
          have op0 := X1_45.out.c0
          have op1 := X1_45.out.c1
          have op2 := X1_45.out.lt
          have op3 := (fun W => by rw [eqA2]; simp : ∀ W, (Op.equalIn 10000 29 (.agg #[.int .i64 sn, .int .i64 sd]) (.agg #[.int .i64 sn, .int .i64 sd])).run Tryz.prog W = .ok true W)
          have nb := below_new w45 (.cells #[.int .i64 sn, .int .i64 sd] 29)
          have X2_46 := Lib.hid (Pair.new w45 (.int .i64 sn) (.int .i64 sd) 29)
          have HB1_46 := Lib.hid (HB1_45.out.below nb)
          have PT_46 := Lib.hid (PT_45.out.below nb)
          have XF_46 := Lib.hid (XF_45.out.below nb)
          have XG_46 := Lib.hid (XG_45.out.below nb)
          have XN_46 := Lib.hid (XN_45.out.below nb)
          have MA_46 := Lib.hid (MA_45.out.below nb)
          have MB_46 := Lib.hid (MB_45.out.below nb)
          have MF_46 := Lib.hid (MF_45.out.below nb)
          have MG_46 := Lib.hid (MG_45.out.below nb)
          have X1_46 := Lib.hid (X1_45.out.below nb)
          have HL0_46 := Lib.hid (HL0_45.out.trans (nb.mono HL0_45.out.size))
          have HBB_46 := Lib.hid (HBB_45.out.trans (nb.mono HBB_45.out.size))
          clear nb HB1_45 PT_45 XF_45 XG_45 XN_45 MA_45 MB_45 MF_45 MG_45 X1_45 HL0_45 HBB_45
          go_wp2_with fail
          clear zz0 zz1 zz2 zz3 op0 op1 op2 op3
          generalize (w45.alloc (.cells #[.int .i64 sn, .int .i64 sd] 29)) = w46 at *
          go_ret
          exact ⟨by simp, HBB_46.out⟩
end Go.Proofs.YtnbomleieianoaaGreat.fnRules
