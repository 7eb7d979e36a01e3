/- Contracts and plain laws for the statement FnStoppedMeans, part 21. No conditions but those stated in each. -/
import Derived.Test.YtnbomleieianoaaGreatBnFnStoppedMeans14
import Derived.Test.YtnbomleieianoaaGreatBnFnStoppedMeans13
import Derived.Test.YtnbomleieianoaaGreatBnFnStoppedMeans7
import Derived.Test.YtnbomleieianoaaGreatBnFnStoppedMeans19
import Derived.Test.YtnbomleieianoaaGreatBnFnStoppedMeans20
import Derived.Test.YtnbomleieianoaaGreatBnFnStoppedMeans15
import Derived.Test.YtnbomleieianoaaGreatBnFnStoppedMeans16
import Derived.Test.YtnbomleieianoaaGreatBnFnStoppedMeans9
import Derived.Test.YtnbomleieianoaaGreatBnFnStoppedMeans12
import Derived.Test.YtnbomleieianoaaGreatBnFnStoppedMeans3
import Derived.Deep.DeepCutAuto
import Derived.Deep.CutRange
/- The walk through the law FnStoppedMeans: it returns true. No conditions but that the argument can be read. -/
namespace Go.Proofs.YtnbomleieianoaaGreat.fnStoppedMeans
open Go.RowKit
set_option linter.unusedVariables false
set_option maxRecDepth 100000 in
set_option maxHeartbeats 4000000 in
theorem walk (a : Option Addr) (n c : Nat) (w : World) (hm : n ≤ maxLen) (hc : n ≤ c ∧ c ≤ maxLen ∧ (a = none → c = 0)) (h : Bytes0 w a n) :
    Calls Tryz.prog 3 #[.slice a n c] w fun e w' => e = .returned (.bool true) ∧ Below w.heap.size w w' := by
  clear hm
  by_cases hbig : (n : Int) > 65536
  · go_enter Tryz.func3, Tryz.ntmps3
    go_wp2_with (go_at_call 6; refine (laws_vBig _ _ _ _).mono ?_; rintro e w' ⟨rfl, rfl⟩; rw [decide_eq_true hbig])
    go_ret
    exact ⟨rfl, Below.refl _ _⟩
  · have HB := Lib.hid (h.few (by omega))
    have Hc := Lib.hid hc
    have Hnb := Lib.hid hbig
    clear h hc
    go_enter Tryz.func3, Tryz.ntmps3
    go_wp2_with (go_at_call 6; refine (laws_vBig _ _ _ _).mono ?_; rintro e w' ⟨rfl, rfl⟩; rw [decide_eq_false hbig])
    refine (spec_DrawStoppedMean _ _ _ _ HB.out).mono ?_
    rintro e w1 ⟨⟨v, rfl, aP, nP, cP, aW, nW, cW, ps, ws, vL, vS, rfl, hD, oL, oS⟩, b1⟩
    obtain ⟨l, oL, hpl⟩ := oL
    obtain ⟨aL, cL, rfl⟩ := oL.shape
    obtain ⟨nL, hnL⟩ : ∃ z, z = l.length := ⟨_, rfl⟩
    rw [← hnL] at oL hpl ⊢
    obtain ⟨rule, oS, hps⟩ := oS
    obtain ⟨aS, cS, rfl⟩ := oS.shape
    obtain ⟨nS, hnS⟩ : ∃ z, z = rule.length := ⟨_, rfl⟩
    rw [← hnS] at oS hps ⊢
    have HBB := Lib.hid b1
    have HB1 := Lib.hid (HB.out.below b1)
    have hT := hD.tre
    have hIL := oL.ints
    have hcL := oL.cap.2.1
    have hIS := oS.ints
    have hcS := oS.cap.2.1
    obtain ⟨ok, hok⟩ : ∃ z, z = rmB ps ws l rule := ⟨_, rfl⟩
    obtain ⟨gn, hgn⟩ : ∃ z, z = rmN ps ws l rule := ⟨_, rfl⟩
    obtain ⟨gd, hgd⟩ : ∃ z, z = rmD ps ws l rule := ⟨_, rfl⟩
    obtain ⟨held, hheld⟩ : ∃ z, z = spV ps ws l rule := ⟨_, rfl⟩
    obtain ⟨nH, hnH⟩ : ∃ z, z = held.length := ⟨_, rfl⟩
    obtain ⟨fair, hfair⟩ : ∃ z, z = balV ps ws l := ⟨_, rfl⟩
    obtain ⟨falls, hfalls⟩ : ∃ z, z = falV ps ws l := ⟨_, rfl⟩
    obtain ⟨pp, hpp⟩ : ∃ z, z = paysB ps ws l := ⟨_, rfl⟩
    obtain ⟨same, hsame⟩ : ∃ z, z = balV ps ws held := ⟨_, rfl⟩
    obtain ⟨pq, hpq⟩ : ∃ z, z = paysB ps ws held := ⟨_, rfl⟩
    obtain ⟨es, hes⟩ : ∃ z, z = ends ps := ⟨_, rfl⟩
    obtain ⟨nE, hnE⟩ : ∃ z, z = es.length := ⟨_, rfl⟩
    obtain ⟨means, hmeans⟩ : ∃ z, z = mofV ps ws (smP held es) := ⟨_, rfl⟩
    obtain ⟨fn, hfn⟩ : ∃ z, z = rmN ps ws l es := ⟨_, rfl⟩
    obtain ⟨fd, hfd⟩ : ∃ z, z = rmD ps ws l es := ⟨_, rfl⟩
    obtain ⟨l0, hl0⟩ : ∃ z, z = nth l 0 := ⟨_, rfl⟩
    have E1 : Hid (∀ W, Below w1.heap.size w1 W → Calls Tryz.prog 8 #[.agg #[.slice aP nP cP, .slice aW nW cW], .slice aL nL cL, .slice aS nS cS] W fun e w' => e = .returned (.tuple #[.agg #[.int .i64 gn, .int .i64 gd], .bool ok]) ∧ Below W.heap.size W w') := Lib.hid fun W hW => by
      rw [hok, hgn, hgd]; exact impl_StoppedMean _ _ _ _ _ _ ps ws _ _ _ l _ _ _ rule W (hT.below hW) (hIL.below hW) hcL (by omega) (hIS.below hW) hcS (by omega)
    have E2 : Hid (∀ W, Below w1.heap.size w1 W → Calls Tryz.prog 9 #[.agg #[.slice aP nP cP, .slice aW nW cW], .slice aL nL cL, .slice aS nS cS] W fun e w' => e = .returned (.tuple #[.agg #[.int .i64 gn, .int .i64 gd], .bool ok]) ∧ Below W.heap.size W w') := Lib.hid fun W hW => by
      rw [hok, hgn, hgd]; exact spec_StoppedMean _ _ _ _ _ _ ps ws _ _ _ l _ _ _ rule W (hT.below hW) (hIL.below hW) hcL (by omega) (hIS.below hW) hcS (by omega)
    have E3 : Hid (∀ W, Below w1.heap.size w1 W → Calls Tryz.prog 10 #[.agg #[.slice aP nP cP, .slice aW nW cW], .slice aL nL cL, .slice aS nS cS] W fun e w' => ∃ v, e = .returned (.tuple #[v, .bool ok]) ∧ Own w' W.heap.size v held ∧ Below W.heap.size W w') := Lib.hid fun W hW => by
      rw [hok, hheld]; exact impl_StoppedProcess _ _ _ _ _ _ ps ws _ _ _ l _ _ _ rule W (hT.below hW) (hIL.below hW) hcL (by omega) (hIS.below hW) hcS (by omega)
    have E4 : Hid (∀ W, Below w1.heap.size w1 W → Calls Tryz.prog 11 #[.agg #[.slice aP nP cP, .slice aW nW cW], .slice aL nL cL, .slice aS nS cS] W fun e w' => ∃ v, e = .returned (.tuple #[v, .bool ok]) ∧ Own w' W.heap.size v held ∧ Below W.heap.size W w') := Lib.hid fun W hW => by
      rw [hok, hheld]; exact spec_StoppedProcess _ _ _ _ _ _ ps ws _ _ _ l _ _ _ rule W (hT.below hW) (hIL.below hW) hcL (by omega) (hIS.below hW) hcS (by omega)
    have E5 : Hid (∀ W, Below w1.heap.size w1 W → Calls Tryz.prog 24 #[.agg #[.slice aP nP cP, .slice aW nW cW], .slice aL nL cL] W fun e w' => e = .returned (.tuple #[.bool fair, .bool pp]) ∧ Below W.heap.size W w') := Lib.hid fun W hW => by
      rw [hfair, hpp]; exact impl_IsFairProcess _ _ _ _ _ _ ps ws _ _ _ l W (hT.below hW) (hIL.below hW) hcL (by omega)
    have E6 : Hid (∀ W, Below w1.heap.size w1 W → Calls Tryz.prog 25 #[.agg #[.slice aP nP cP, .slice aW nW cW], .slice aL nL cL] W fun e w' => e = .returned (.tuple #[.bool falls, .bool pp]) ∧ Below W.heap.size W w') := Lib.hid fun W hW => by
      rw [hfalls, hpp]; exact impl_IsFalling _ _ _ _ _ _ ps ws _ _ _ l W (hT.below hW) (hIL.below hW) hcL (by omega)
    have E7 : Hid (ok = true → ∀ W, Below w1.heap.size w1 W → Calls Tryz.prog 27 #[.agg #[.slice aP nP cP, .slice aW nW cW]] W fun e w' => ∃ v, e = .returned (.tuple #[v, .bool true]) ∧ Own w' W.heap.size v es ∧ Below W.heap.size W w') := Lib.hid fun h1 W hW => by
      have hp := (paysB_t (rmB_t (hok ▸ h1)).1).2.1
      have hz := impl_EndsOf _ _ _ _ _ _ ps ws W (hT.below hW)
      rw [eoV_yes hp, hp, ← hes] at hz
      exact hz
    have E8 : Hid (ok = true → ∀ W a0 n0 c0, Below w1.heap.size w1 W → Ints W a0 n0 (smP held es) → (a0 = none → c0 = 0) → n0 ≤ 1048576 → Calls Tryz.prog 28 #[.agg #[.slice aP nP cP, .slice aW nW cW], .slice a0 n0 c0] W fun e w' => ∃ v, e = .returned (.tuple #[v, .bool true]) ∧ Fr.Own w' W.heap.size v means ∧ Below W.heap.size W w') := Lib.hid fun h1 W a0 n0 c0 hW hI0 hc0 hn0 => by
      have hp := (sm_pays (hok ▸ h1)).1
      rw [← hes, ← spV_yes (hok ▸ h1), ← hheld] at hp
      have hz := impl_MeansOf _ _ _ _ _ _ ps ws a0 n0 c0 (smP held es) W (hT.below hW) hI0 hc0 hn0
      rw [hp, ← hmeans] at hz
      exact hz
    have E9 : Hid ((ok = true ∧ falls = true) → ∀ W a0 n0 c0, Below w1.heap.size w1 W → Ints W a0 n0 es → (a0 = none → c0 = 0) → n0 ≤ 1048576 → Calls Tryz.prog 8 #[.agg #[.slice aP nP cP, .slice aW nW cW], .slice aL nL cL, .slice a0 n0 c0] W fun e w' => e = .returned (.tuple #[.agg #[.int .i64 fn, .int .i64 fd], .bool true]) ∧ Below W.heap.size W w') := Lib.hid fun h1 W a0 n0 c0 hW hI0 hc0 hn0 => by
      have hk : rmB ps ws l rule = true := hok ▸ h1.1
      have hb : fallB ps ws l = true := by rw [← falV_yes (rmB_t hk).1, ← hfalls]; exact h1.2
      have hp := (sm_last hk hb).1
      rw [← hes] at hp
      have hz := impl_StoppedMean _ _ _ _ _ _ ps ws _ _ _ l a0 n0 c0 es W (hT.below hW) (hIL.below hW) hcL (by omega) hI0 hc0 hn0
      rw [hp, ← hfn, ← hfd] at hz
      exact hz
    have EA : Hid (∀ W a0 n0 c0, Below w1.heap.size w1 W → Ints W a0 n0 held → (a0 = none → c0 = 0) → n0 ≤ 1048576 → Calls Tryz.prog 24 #[.agg #[.slice aP nP cP, .slice aW nW cW], .slice a0 n0 c0] W fun e w' => e = .returned (.tuple #[.bool same, .bool pq]) ∧ Below W.heap.size W w') := Lib.hid fun W a0 n0 c0 hW hI0 hc0 hn0 => by
      rw [hsame, hpq]; exact impl_IsFairProcess _ _ _ _ _ _ ps ws a0 n0 c0 held W (hT.below hW) hI0 hc0 hn0
    have PF : Hid (ok = true → (1 ≤ nL ∧ nE ≤ 24 ∧ (∀ k, k < nE → ∃ e : Nat, e < nH ∧ nth es k = (e : Int))) ∧ (1 ≤ means.length ∧ means.length ≤ 24 ∧ Fr.at1 means 0 = gn ∧ Fr.at2 means 0 = gd) ∧ ((-11508480 ≤ gn ∧ gn ≤ 11508480) ∧ (1 ≤ gd ∧ gd ≤ 480) ∧ (-480000 ≤ l0 * gd ∧ l0 * gd ≤ 480000)) ∧ (fair = true → gn = l0 ∧ gd = 1) ∧ (falls = true → decide (l0 * gd < gn * 1) = false) ∧ (falls = true → (-4611686018427387904 ≤ gn * fd ∧ gn * fd ≤ 4611686018427387904) ∧ (-4611686018427387904 ≤ fn * gd ∧ fn * gd ≤ 4611686018427387904) ∧ decide (gn * fd < fn * gd) = false) ∧ (fair = true → same = true)) := Lib.hid fun h1 => by
      have hk : rmB ps ws l rule = true := hok ▸ h1
      have hp := paysB_t (rmB_t hk).1
      have h24 := hp.1.n24
      have h11 := hp.1.n1
      have hhl : nH = ps.length := by rw [hnH, hheld, spV_yes hk, heldL_length]
      have hel : es.length ≤ ps.length := by rw [hes]; have := filt_length (endB ps) ps.length; unfold ends; omega
      have hm := sm_pays hk
      rw [← spV_yes hk, ← hheld, ← hes, ← hmeans, ← hgn, ← hgd] at hm
      have hb := sm_bd hk
      rw [← hgn, ← hgd, ← hl0] at hb
      refine ⟨⟨by have := hp.2.2.2.1; omega, by omega, fun k hk2 => ?_⟩, ⟨by omega, by omega, hm.2.2⟩, hb, fun hf => ?_, fun hf => ?_, fun hf => ?_, fun hf => ?_⟩
      · rw [hes] at hnE ⊢
        obtain ⟨e, g1, _, g3⟩ := end_nth (ps := ps) (i := k) (by omega)
        exact ⟨e, by omega, g3⟩
      · rw [hgn, hgd, hl0]
        exact sm_fair hk (by rw [← balV_yes (rmB_t hk).1, ← hfair]; exact hf)
      · rw [hgn, hgd, hl0]
        exact sm_fall hk (by rw [← falV_yes (rmB_t hk).1, ← hfalls]; exact hf)
      · have hz := (sm_last hk (by rw [← falV_yes (rmB_t hk).1, ← hfalls]; exact hf)).2
        rw [← hes, ← hgn, ← hgd, ← hfn, ← hfd] at hz
        exact hz
      · rw [hsame, hheld, spV_yes hk]
        exact sm_held hk (by rw [← balV_yes (rmB_t hk).1, ← hfair]; exact hf)
    have hnH2 : nH ≤ 1048576 := by rw [hnH, hheld]; exact spV_len _ _ _ _
    have HNH := Lib.hid hnH
    have HNE := Lib.hid hnE
    have HL0 := Lib.hid (Below.refl w1.heap.size w1)
    have HIL := Lib.hid hIL
    have HL00 := Lib.hid hl0
    clear hok hgn hgd hheld hnH hfair hfalls hpp hsame hpq hes hnE hmeans hfn hfd hl0 hT hIL hcL hIS hcS hD b1 hnL hnS oL oS hpl hps
    have zz := Pair.new w1 (.slice none 0 0) (.slice none 0 0) 26
    have zz0 := zz.c0
    have zz1 := zz.c1
    have zz2 := zz.f0
    have zz3 := zz.f1
    clear zz
    have nb := below_new w1 (.cells #[.slice aP nP cP, .slice aW nW cW] 26)
    have PT_2 := Lib.hid (Pair.new w1 (.slice aP nP cP) (.slice aW nW cW) 26)
    have HB1_2 := Lib.hid (HB1.out.below nb)
    have HL0_2 := Lib.hid (HL0.out.trans (nb.mono HL0.out.size))
    have HBB_2 := Lib.hid (HBB.out.trans (nb.mono HBB.out.size))
    clear nb HB1 HL0 HBB
    go_wp2_with fail
    clear zz0 zz1 zz2 zz3 
    generalize (w1.alloc (.cells #[.slice aP nP cP, .slice aW nW cW] 26)) = w2 at *
    refine (E1.out _ HL0_2.out).mono ?_
    rintro e w3 ⟨rfl, b3⟩
    have HB1_3 := Lib.hid (HB1_2.out.below b3)
    have PT_3 := Lib.hid (PT_2.out.below b3)
    have HL0_3 := Lib.hid (HL0_2.out.trans (b3.mono HL0_2.out.size))
    have HBB_3 := Lib.hid (HBB_2.out.trans (b3.mono HBB_2.out.size))
    clear b3 HB1_2 PT_2 HL0_2 HBB_2
    have zz := Pair.new w3 (.int .i64 0) (.int .i64 0) 29
    have zz0 := zz.c0
    have zz1 := zz.c1
    have zz2 := zz.f0
    have zz3 := zz.f1
    clear zz
    have op0 := PT_3.out.c0
    have op1 := PT_3.out.c1
    have op2 := PT_3.out.lt
    have nb := below_new w3 (.cells #[.int .i64 gn, .int .i64 gd] 29)
    have A6_4 := Lib.hid (Pair.new w3 (.int .i64 gn) (.int .i64 gd) 29)
    have HB1_4 := Lib.hid (HB1_3.out.below nb)
    have PT_4 := Lib.hid (PT_3.out.below nb)
    have HL0_4 := Lib.hid (HL0_3.out.trans (nb.mono HL0_3.out.size))
    have HBB_4 := Lib.hid (HBB_3.out.trans (nb.mono HBB_3.out.size))
    clear nb HB1_3 PT_3 HL0_3 HBB_3
    go_wp2_with fail
    clear zz0 zz1 zz2 zz3 op0 op1 op2
    generalize (w3.alloc (.cells #[.int .i64 gn, .int .i64 gd] 29)) = w4 at *
    refine (E2.out _ HL0_4.out).mono ?_
    rintro e w5 ⟨rfl, b5⟩
    have HB1_5 := Lib.hid (HB1_4.out.below b5)
    have PT_5 := Lib.hid (PT_4.out.below b5)
    have A6_5 := Lib.hid (A6_4.out.below b5)
    have HL0_5 := Lib.hid (HL0_4.out.trans (b5.mono HL0_4.out.size))
    have HBB_5 := Lib.hid (HBB_4.out.trans (b5.mono HBB_4.out.size))
    clear b5 HB1_4 PT_4 A6_4 HL0_4 HBB_4
    have zz := Pair.new w5 (.int .i64 0) (.int .i64 0) 29
    have zz0 := zz.c0
    have zz1 := zz.c1
    have zz2 := zz.f0
    have zz3 := zz.f1
    clear zz
    have op0 := PT_5.out.c0
    have op1 := PT_5.out.c1
    have op2 := PT_5.out.lt
    have nb := below_new w5 (.cells #[.int .i64 gn, .int .i64 gd] 29)
    have A8_6 := Lib.hid (Pair.new w5 (.int .i64 gn) (.int .i64 gd) 29)
    have HB1_6 := Lib.hid (HB1_5.out.below nb)
    have PT_6 := Lib.hid (PT_5.out.below nb)
    have A6_6 := Lib.hid (A6_5.out.below nb)
    have HL0_6 := Lib.hid (HL0_5.out.trans (nb.mono HL0_5.out.size))
    have HBB_6 := Lib.hid (HBB_5.out.trans (nb.mono HBB_5.out.size))
    clear nb HB1_5 PT_5 A6_5 HL0_5 HBB_5
    go_wp2_with fail
    clear zz0 zz1 zz2 zz3 op0 op1 op2
    generalize (w5.alloc (.cells #[.int .i64 gn, .int .i64 gd] 29)) = w6 at *
    refine (E3.out _ HL0_6.out).mono ?_
    rintro e w7 ⟨v7, rfl, o7, b7⟩
    obtain ⟨aH, cH, rfl⟩ := o7.shape
    rw [← HNH.out] at o7 ⊢
    have hcH := o7.cap.2.1
    have HB1_7 := Lib.hid (HB1_6.out.below b7)
    have PT_7 := Lib.hid (PT_6.out.below b7)
    have A6_7 := Lib.hid (A6_6.out.below b7)
    have A8_7 := Lib.hid (A8_6.out.below b7)
    have HL0_7 := Lib.hid (HL0_6.out.trans (b7.mono HL0_6.out.size))
    have HBB_7 := Lib.hid (HBB_6.out.trans (b7.mono HBB_6.out.size))
    clear b7 HB1_6 PT_6 A6_6 A8_6 HL0_6 HBB_6
    have XH_7 := Lib.hid (o7)
    clear o7
    have op0 := PT_7.out.c0
    have op1 := PT_7.out.c1
    have op2 := PT_7.out.lt
    go_wp2_with fail
    clear op0 op1 op2
    refine (E4.out _ HL0_7.out).mono ?_
    rintro e w8 ⟨v8, rfl, o8, b8⟩
    obtain ⟨aH2, cH2, rfl⟩ := o8.shape
    rw [← HNH.out] at o8 ⊢
    have hcH2 := o8.cap.2.1
    have HB1_8 := Lib.hid (HB1_7.out.below b8)
    have PT_8 := Lib.hid (PT_7.out.below b8)
    have A6_8 := Lib.hid (A6_7.out.below b8)
    have A8_8 := Lib.hid (A8_7.out.below b8)
    have XH_8 := Lib.hid (XH_7.out.below b8)
    have HL0_8 := Lib.hid (HL0_7.out.trans (b8.mono HL0_7.out.size))
    have HBB_8 := Lib.hid (HBB_7.out.trans (b8.mono HBB_7.out.size))
    clear b8 HB1_7 PT_7 A6_7 A8_7 XH_7 HL0_7 HBB_7
    have XH2_8 := Lib.hid (o8)
    clear o8
    have op0 := PT_8.out.c0
    have op1 := PT_8.out.c1
    have op2 := PT_8.out.lt
    go_wp2_with fail
    clear op0 op1 op2
    clear E1 E2 E3 E4
    as_aux_lemma =>
    refine (laws_vCut _ _ _ _ (by have := Hnb.out; omega) Hc.out.1 Hc.out.2.2 HB1_8.out).mono ?_
    rintro e w9 ⟨v9, rfl, ⟨a20, n20, c20, rfl, hy20⟩, b9⟩
    have HY20 := Lib.hid hy20
    clear hy20
    have HB1_9 := Lib.hid (HB1_8.out.below b9)
    have PT_9 := Lib.hid (PT_8.out.below b9)
    have A6_9 := Lib.hid (A6_8.out.below b9)
    have A8_9 := Lib.hid (A8_8.out.below b9)
    have XH_9 := Lib.hid (XH_8.out.below b9)
    have XH2_9 := Lib.hid (XH2_8.out.below b9)
    have HL0_9 := Lib.hid (HL0_8.out.trans (b9.mono HL0_8.out.size))
    have HBB_9 := Lib.hid (HBB_8.out.trans (b9.mono HBB_8.out.size))
    clear b9 HB1_8 PT_8 A6_8 A8_8 XH_8 XH2_8 HL0_8 HBB_8
    go_wp2_with fail
    refine (spec_DrawEarlierStop _ _ _ _ HY20.out).mono ?_
    rintro e w10 ⟨⟨v10, rfl, uP, nuP, duP, uW, nuW, duW, us, vs, vA, vB, rfl, hD2, oA, oB⟩, b10⟩
    have HB1_10 := Lib.hid (HB1_9.out.below b10)
    have PT_10 := Lib.hid (PT_9.out.below b10)
    have A6_10 := Lib.hid (A6_9.out.below b10)
    have A8_10 := Lib.hid (A8_9.out.below b10)
    have XH_10 := Lib.hid (XH_9.out.below b10)
    have XH2_10 := Lib.hid (XH2_9.out.below b10)
    have HL0_10 := Lib.hid (HL0_9.out.trans (b10.mono HL0_9.out.size))
    have HBB_10 := Lib.hid (HBB_9.out.trans (b10.mono HBB_9.out.size))
    clear b10 HB1_9 PT_9 A6_9 A8_9 XH_9 XH2_9 HL0_9 HBB_9
    have HM_10 := Lib.hid (Below.refl w10.heap.size w10)
    obtain ⟨la, oA, hlA⟩ := oA
    obtain ⟨aA, cA, rfl⟩ := oA.shape
    obtain ⟨nA, hnA⟩ : ∃ z, z = la.length := ⟨_, rfl⟩
    rw [← hnA] at oA hlA ⊢
    obtain ⟨lb, oB, hlB⟩ := oB
    obtain ⟨aB, cB, rfl⟩ := oB.shape
    obtain ⟨nB, hnB⟩ : ∃ z, z = lb.length := ⟨_, rfl⟩
    rw [← hnB] at oB hlB ⊢
    have hT2 := hD2.tre
    have hIA := oA.ints
    have hcA := oA.cap.2.1
    have hIB := oB.ints
    have hcB := oB.cap.2.1
    obtain ⟨there, hthere⟩ : ∃ z, z = twoB us vs la lb := ⟨_, rfl⟩
    obtain ⟨early, hearly⟩ : ∃ z, z = erlV us vs la lb true := ⟨_, rfl⟩
    obtain ⟨late, hlate⟩ : ∃ z, z = erlV us vs la lb false := ⟨_, rfl⟩
    obtain ⟨nF, hnF⟩ : ∃ z, z = early.length := ⟨_, rfl⟩
    obtain ⟨nG, hnG⟩ : ∃ z, z = late.length := ⟨_, rfl⟩
    have C1 : Hid (∀ W, Below w10.heap.size w10 W → Calls Tryz.prog 14 #[.agg #[.slice uP nuP duP, .slice uW nuW duW], .slice aA nA cA, .slice aB nB cB] W fun e w' => ∃ v, e = .returned (.tuple #[v, .bool there]) ∧ Own w' W.heap.size v early ∧ Below W.heap.size W w') := Lib.hid fun W hW => by
      rw [hthere, hearly]; exact impl_EarlierStop _ _ _ _ _ _ us vs _ _ _ la _ _ _ lb W (hT2.below hW) (hIA.below hW) hcA (by omega) (hIB.below hW) hcB (by omega)
    have C2 : Hid (∀ W, Below w10.heap.size w10 W → Calls Tryz.prog 15 #[.agg #[.slice uP nuP duP, .slice uW nuW duW], .slice aA nA cA, .slice aB nB cB] W fun e w' => ∃ v, e = .returned (.tuple #[v, .bool there]) ∧ Own w' W.heap.size v early ∧ Below W.heap.size W w') := Lib.hid fun W hW => by
      rw [hthere, hearly]; exact spec_EarlierStop _ _ _ _ _ _ us vs _ _ _ la _ _ _ lb W (hT2.below hW) (hIA.below hW) hcA (by omega) (hIB.below hW) hcB (by omega)
    have C3 : Hid (∀ W, Below w10.heap.size w10 W → Calls Tryz.prog 16 #[.agg #[.slice uP nuP duP, .slice uW nuW duW], .slice aA nA cA, .slice aB nB cB] W fun e w' => ∃ v, e = .returned (.tuple #[v, .bool there]) ∧ Own w' W.heap.size v late ∧ Below W.heap.size W w') := Lib.hid fun W hW => by
      rw [hthere, hlate]; exact impl_LaterStop _ _ _ _ _ _ us vs _ _ _ la _ _ _ lb W (hT2.below hW) (hIA.below hW) hcA (by omega) (hIB.below hW) hcB (by omega)
    have C4 : Hid (∀ W, Below w10.heap.size w10 W → Calls Tryz.prog 17 #[.agg #[.slice uP nuP duP, .slice uW nuW duW], .slice aA nA cA, .slice aB nB cB] W fun e w' => ∃ v, e = .returned (.tuple #[v, .bool there]) ∧ Own w' W.heap.size v late ∧ Below W.heap.size W w') := Lib.hid fun W hW => by
      rw [hthere, hlate]; exact spec_LaterStop _ _ _ _ _ _ us vs _ _ _ la _ _ _ lb W (hT2.below hW) (hIA.below hW) hcA (by omega) (hIB.below hW) hcB (by omega)
    have C5 : Hid (there = true → ∀ W a0 n0 c0, Below w10.heap.size w10 W → Ints W a0 n0 early → (a0 = none → c0 = 0) → n0 ≤ 1048576 → Calls Tryz.prog 19 #[.agg #[.slice uP nuP duP, .slice uW nuW duW], .slice a0 n0 c0] W fun e w' => e = .returned (.tuple #[.bool true, .bool true]) ∧ Below W.heap.size W w') := Lib.hid fun h1 W a0 n0 c0 hW hI0 hc0 hn0 => by
      have hs := sm_two (hthere ▸ h1)
      rw [← hearly, ← hlate] at hs
      have hz := impl_IsStopping _ _ _ _ _ _ us vs a0 n0 c0 early W (hT2.below hW) hI0 hc0 hn0
      rw [hs.2.1, hs.1] at hz
      exact hz
    have C6 : Hid (there = true → ∀ W a0 n0 c0, Below w10.heap.size w10 W → Ints W a0 n0 late → (a0 = none → c0 = 0) → n0 ≤ 1048576 → Calls Tryz.prog 19 #[.agg #[.slice uP nuP duP, .slice uW nuW duW], .slice a0 n0 c0] W fun e w' => e = .returned (.tuple #[.bool true, .bool true]) ∧ Below W.heap.size W w') := Lib.hid fun h1 W a0 n0 c0 hW hI0 hc0 hn0 => by
      have hs := sm_two (hthere ▸ h1)
      rw [← hearly, ← hlate] at hs
      have hz := impl_IsStopping _ _ _ _ _ _ us vs a0 n0 c0 late W (hT2.below hW) hI0 hc0 hn0
      rw [hs.2.2.1, hs.1] at hz
      exact hz
    have C7 : Hid (there = true → ∀ W a0 n0 c0 a2 n2 c2, Below w10.heap.size w10 W → Ints W a0 n0 early → (a0 = none → c0 = 0) → n0 ≤ 1048576 → Ints W a2 n2 late → (a2 = none → c2 = 0) → n2 ≤ 1048576 → Calls Tryz.prog 23 #[.agg #[.slice uP nuP duP, .slice uW nuW duW], .slice a0 n0 c0, .slice a2 n2 c2] W fun e w' => e = .returned (.tuple #[.bool true, .bool true]) ∧ Below W.heap.size W w') := Lib.hid fun h1 W a0 n0 c0 a2 n2 c2 hW hI0 hc0 hn0 hI2 hc2 hn2 => by
      have hs := sm_two (hthere ▸ h1)
      rw [← hearly, ← hlate] at hs
      have hz := impl_IsNoLater _ _ _ _ _ _ us vs a0 n0 c0 early a2 n2 c2 late W (hT2.below hW) hI0 hc0 hn0 hI2 hc2 hn2
      rw [hs.2.2.2.1, hs.2.2.2.2] at hz
      exact hz
    have hnF2 : nF ≤ 1048576 := by rw [hnF, hearly]; exact erlV_length _ _ _ _ _
    have hnG2 : nG ≤ 1048576 := by rw [hnG, hlate]; exact erlV_length _ _ _ _ _
    have HNF := Lib.hid hnF
    have HNG := Lib.hid hnG
    clear hthere hearly hlate hnF hnG hT2 hIA hcA hIB hcB hD2 oA oB hnA hnB hlA hlB
    have zz := Pair.new w10 (.slice none 0 0) (.slice none 0 0) 26
    have zz0 := zz.c0
    have zz1 := zz.c1
    have zz2 := zz.f0
    have zz3 := zz.f1
    clear zz
    have nb := below_new w10 (.cells #[.slice uP nuP duP, .slice uW nuW duW] 26)
    have UT_11 := Lib.hid (Pair.new w10 (.slice uP nuP duP) (.slice uW nuW duW) 26)
    have HB1_11 := Lib.hid (HB1_10.out.below nb)
    have PT_11 := Lib.hid (PT_10.out.below nb)
    have A6_11 := Lib.hid (A6_10.out.below nb)
    have A8_11 := Lib.hid (A8_10.out.below nb)
    have XH_11 := Lib.hid (XH_10.out.below nb)
    have XH2_11 := Lib.hid (XH2_10.out.below nb)
    have HL0_11 := Lib.hid (HL0_10.out.trans (nb.mono HL0_10.out.size))
    have HBB_11 := Lib.hid (HBB_10.out.trans (nb.mono HBB_10.out.size))
    have HM_11 := Lib.hid (HM_10.out.trans (nb.mono HM_10.out.size))
    clear nb HB1_10 PT_10 A6_10 A8_10 XH_10 XH2_10 HL0_10 HBB_10 HM_10
    go_wp2_with fail
    clear zz0 zz1 zz2 zz3 
    generalize (w10.alloc (.cells #[.slice uP nuP duP, .slice uW nuW duW] 26)) = w11 at *
    refine (C1.out _ HM_11.out).mono ?_
    rintro e w12 ⟨v12, rfl, o12, b12⟩
    obtain ⟨aF, cF, rfl⟩ := o12.shape
    rw [← HNF.out] at o12 ⊢
    have hcF := o12.cap.2.1
    have HB1_12 := Lib.hid (HB1_11.out.below b12)
    have PT_12 := Lib.hid (PT_11.out.below b12)
    have A6_12 := Lib.hid (A6_11.out.below b12)
    have A8_12 := Lib.hid (A8_11.out.below b12)
    have XH_12 := Lib.hid (XH_11.out.below b12)
    have XH2_12 := Lib.hid (XH2_11.out.below b12)
    have UT_12 := Lib.hid (UT_11.out.below b12)
    have HL0_12 := Lib.hid (HL0_11.out.trans (b12.mono HL0_11.out.size))
    have HBB_12 := Lib.hid (HBB_11.out.trans (b12.mono HBB_11.out.size))
    have HM_12 := Lib.hid (HM_11.out.trans (b12.mono HM_11.out.size))
    clear b12 HB1_11 PT_11 A6_11 A8_11 XH_11 XH2_11 UT_11 HL0_11 HBB_11 HM_11
    have XF_12 := Lib.hid (o12)
    clear o12
    have op0 := UT_12.out.c0
    have op1 := UT_12.out.c1
    have op2 := UT_12.out.lt
    go_wp2_with fail
    clear op0 op1 op2
    refine (C2.out _ HM_12.out).mono ?_
    rintro e w13 ⟨v13, rfl, o13, b13⟩
    obtain ⟨aF2, cF2, rfl⟩ := o13.shape
    rw [← HNF.out] at o13 ⊢
    have hcF2 := o13.cap.2.1
    have HB1_13 := Lib.hid (HB1_12.out.below b13)
    have PT_13 := Lib.hid (PT_12.out.below b13)
    have A6_13 := Lib.hid (A6_12.out.below b13)
    have A8_13 := Lib.hid (A8_12.out.below b13)
    have XH_13 := Lib.hid (XH_12.out.below b13)
    have XH2_13 := Lib.hid (XH2_12.out.below b13)
    have UT_13 := Lib.hid (UT_12.out.below b13)
    have XF_13 := Lib.hid (XF_12.out.below b13)
    have HL0_13 := Lib.hid (HL0_12.out.trans (b13.mono HL0_12.out.size))
    have HBB_13 := Lib.hid (HBB_12.out.trans (b13.mono HBB_12.out.size))
    have HM_13 := Lib.hid (HM_12.out.trans (b13.mono HM_12.out.size))
    clear b13 HB1_12 PT_12 A6_12 A8_12 XH_12 XH2_12 UT_12 XF_12 HL0_12 HBB_12 HM_12
    have XF2_13 := Lib.hid (o13)
    clear o13
    have op0 := UT_13.out.c0
    have op1 := UT_13.out.c1
    have op2 := UT_13.out.lt
    go_wp2_with fail
    clear op0 op1 op2
    refine (C3.out _ HM_13.out).mono ?_
    rintro e w14 ⟨v14, rfl, o14, b14⟩
    obtain ⟨aG, cG, rfl⟩ := o14.shape
    rw [← HNG.out] at o14 ⊢
    have hcG := o14.cap.2.1
    have HB1_14 := Lib.hid (HB1_13.out.below b14)
    have PT_14 := Lib.hid (PT_13.out.below b14)
    have A6_14 := Lib.hid (A6_13.out.below b14)
    have A8_14 := Lib.hid (A8_13.out.below b14)
    have XH_14 := Lib.hid (XH_13.out.below b14)
    have XH2_14 := Lib.hid (XH2_13.out.below b14)
    have UT_14 := Lib.hid (UT_13.out.below b14)
    have XF_14 := Lib.hid (XF_13.out.below b14)
    have XF2_14 := Lib.hid (XF2_13.out.below b14)
    have HL0_14 := Lib.hid (HL0_13.out.trans (b14.mono HL0_13.out.size))
    have HBB_14 := Lib.hid (HBB_13.out.trans (b14.mono HBB_13.out.size))
    have HM_14 := Lib.hid (HM_13.out.trans (b14.mono HM_13.out.size))
    clear b14 HB1_13 PT_13 A6_13 A8_13 XH_13 XH2_13 UT_13 XF_13 XF2_13 HL0_13 HBB_13 HM_13
    have XG_14 := Lib.hid (o14)
    clear o14
    have op0 := UT_14.out.c0
    have op1 := UT_14.out.c1
    have op2 := UT_14.out.lt
    go_wp2_with fail
    clear op0 op1 op2
    refine (C4.out _ HM_14.out).mono ?_
    rintro e w15 ⟨v15, rfl, o15, b15⟩
    obtain ⟨aG2, cG2, rfl⟩ := o15.shape
    rw [← HNG.out] at o15 ⊢
    have hcG2 := o15.cap.2.1
    have HB1_15 := Lib.hid (HB1_14.out.below b15)
    have PT_15 := Lib.hid (PT_14.out.below b15)
    have A6_15 := Lib.hid (A6_14.out.below b15)
    have A8_15 := Lib.hid (A8_14.out.below b15)
    have XH_15 := Lib.hid (XH_14.out.below b15)
    have XH2_15 := Lib.hid (XH2_14.out.below b15)
    have UT_15 := Lib.hid (UT_14.out.below b15)
    have XF_15 := Lib.hid (XF_14.out.below b15)
    have XF2_15 := Lib.hid (XF2_14.out.below b15)
    have XG_15 := Lib.hid (XG_14.out.below b15)
    have HL0_15 := Lib.hid (HL0_14.out.trans (b15.mono HL0_14.out.size))
    have HBB_15 := Lib.hid (HBB_14.out.trans (b15.mono HBB_14.out.size))
    have HM_15 := Lib.hid (HM_14.out.trans (b15.mono HM_14.out.size))
    clear b15 HB1_14 PT_14 A6_14 A8_14 XH_14 XH2_14 UT_14 XF_14 XF2_14 XG_14 HL0_14 HBB_14 HM_14
    have XG2_15 := Lib.hid (o15)
    clear o15
    have op0 := UT_15.out.c0
    have op1 := UT_15.out.c1
    have op2 := UT_15.out.lt
    go_wp2_with fail
    clear op0 op1 op2
    clear C1 C2 C3 C4
    as_aux_lemma =>
    refine (laws_vCut2 _ _ _ _ (by have := Hnb.out; omega) Hc.out.1 Hc.out.2.2 HB1_15.out).mono ?_
    rintro e w16 ⟨v16, rfl, ⟨a30, n30, c30, rfl, hy30⟩, b16⟩
    have HY30 := Lib.hid hy30
    clear hy30
    have HB1_16 := Lib.hid (HB1_15.out.below b16)
    have PT_16 := Lib.hid (PT_15.out.below b16)
    have A6_16 := Lib.hid (A6_15.out.below b16)
    have A8_16 := Lib.hid (A8_15.out.below b16)
    have XH_16 := Lib.hid (XH_15.out.below b16)
    have XH2_16 := Lib.hid (XH2_15.out.below b16)
    have UT_16 := Lib.hid (UT_15.out.below b16)
    have XF_16 := Lib.hid (XF_15.out.below b16)
    have XF2_16 := Lib.hid (XF2_15.out.below b16)
    have XG_16 := Lib.hid (XG_15.out.below b16)
    have XG2_16 := Lib.hid (XG2_15.out.below b16)
    have HL0_16 := Lib.hid (HL0_15.out.trans (b16.mono HL0_15.out.size))
    have HBB_16 := Lib.hid (HBB_15.out.trans (b16.mono HBB_15.out.size))
    have HM_16 := Lib.hid (HM_15.out.trans (b16.mono HM_15.out.size))
    clear b16 HB1_15 PT_15 A6_15 A8_15 XH_15 XH2_15 UT_15 XF_15 XF2_15 XG_15 XG2_15 HL0_15 HBB_15 HM_15
    go_wp2_with fail
    refine (spec_DrawIsStopping _ _ _ _ HY30.out).mono ?_
    rintro e w17 ⟨⟨v17, rfl, gP, ngP, dgP, gW, ngW, dgW, gs, hs, vG, rfl, hD3, oG⟩, b17⟩
    have HB1_17 := Lib.hid (HB1_16.out.below b17)
    have PT_17 := Lib.hid (PT_16.out.below b17)
    have A6_17 := Lib.hid (A6_16.out.below b17)
    have A8_17 := Lib.hid (A8_16.out.below b17)
    have XH_17 := Lib.hid (XH_16.out.below b17)
    have XH2_17 := Lib.hid (XH2_16.out.below b17)
    have UT_17 := Lib.hid (UT_16.out.below b17)
    have XF_17 := Lib.hid (XF_16.out.below b17)
    have XF2_17 := Lib.hid (XF2_16.out.below b17)
    have XG_17 := Lib.hid (XG_16.out.below b17)
    have XG2_17 := Lib.hid (XG2_16.out.below b17)
    have HL0_17 := Lib.hid (HL0_16.out.trans (b17.mono HL0_16.out.size))
    have HBB_17 := Lib.hid (HBB_16.out.trans (b17.mono HBB_16.out.size))
    have HM_17 := Lib.hid (HM_16.out.trans (b17.mono HM_16.out.size))
    clear b17 HB1_16 PT_16 A6_16 A8_16 XH_16 XH2_16 UT_16 XF_16 XF2_16 XG_16 XG2_16 HL0_16 HBB_16 HM_16
    have HK_17 := Lib.hid (Below.refl w17.heap.size w17)
    obtain ⟨lg, oG, hlG⟩ := oG
    obtain ⟨aR, cR, rfl⟩ := oG.shape
    obtain ⟨nR, hnR⟩ : ∃ z, z = lg.length := ⟨_, rfl⟩
    rw [← hnR] at oG hlG ⊢
    have hT3 := hD3.tre
    have hIR := oG.ints
    have hcR := oG.cap.2.1
    obtain ⟨isr, hisr⟩ : ∃ z, z = isRuleV gs hs lg := ⟨_, rfl⟩
    obtain ⟨two, htwo⟩ : ∃ z, z = treeB gs hs := ⟨_, rfl⟩
    have D1 : Hid (∀ W, Below w17.heap.size w17 W → Calls Tryz.prog 19 #[.agg #[.slice gP ngP dgP, .slice gW ngW dgW], .slice aR nR cR] W fun e w' => e = .returned (.tuple #[.bool isr, .bool two]) ∧ Below W.heap.size W w') := Lib.hid fun W hW => by
      rw [hisr, htwo]; exact impl_IsStopping _ _ _ _ _ _ gs hs _ _ _ lg W (hT3.below hW) (hIR.below hW) hcR (by omega)
    have D2 : Hid (∀ W, Below w17.heap.size w17 W → Calls Tryz.prog 20 #[.agg #[.slice gP ngP dgP, .slice gW ngW dgW], .slice aR nR cR] W fun e w' => e = .returned (.tuple #[.bool isr, .bool two]) ∧ Below W.heap.size W w') := Lib.hid fun W hW => by
      rw [hisr, htwo]; exact spec_IsStopping _ _ _ _ _ _ gs hs _ _ _ lg W (hT3.below hW) (hIR.below hW) hcR (by omega)
    have D3 : Hid (∀ W, Below w17.heap.size w17 W → Calls Tryz.prog 22 #[.agg #[.slice gP ngP dgP, .slice gW ngW dgW], .slice aR nR cR] W fun e w' => e = .returned (.tuple #[.bool isr, .bool two]) ∧ Below W.heap.size W w') := Lib.hid fun W hW => by
      rw [hisr, htwo]; exact impl_IsRule _ _ _ _ _ _ gs hs _ _ _ lg W (hT3.below hW) (hIR.below hW) hcR (by omega)
    clear hisr htwo hT3 hIR hcR hD3 oG hnR hlG
    have zz := Pair.new w17 (.slice none 0 0) (.slice none 0 0) 26
    have zz0 := zz.c0
    have zz1 := zz.c1
    have zz2 := zz.f0
    have zz3 := zz.f1
    clear zz
    have nb := below_new w17 (.cells #[.slice gP ngP dgP, .slice gW ngW dgW] 26)
    have GT_18 := Lib.hid (Pair.new w17 (.slice gP ngP dgP) (.slice gW ngW dgW) 26)
    have HB1_18 := Lib.hid (HB1_17.out.below nb)
    have PT_18 := Lib.hid (PT_17.out.below nb)
    have A6_18 := Lib.hid (A6_17.out.below nb)
    have A8_18 := Lib.hid (A8_17.out.below nb)
    have XH_18 := Lib.hid (XH_17.out.below nb)
    have XH2_18 := Lib.hid (XH2_17.out.below nb)
    have UT_18 := Lib.hid (UT_17.out.below nb)
    have XF_18 := Lib.hid (XF_17.out.below nb)
    have XF2_18 := Lib.hid (XF2_17.out.below nb)
    have XG_18 := Lib.hid (XG_17.out.below nb)
    have XG2_18 := Lib.hid (XG2_17.out.below nb)
    have HL0_18 := Lib.hid (HL0_17.out.trans (nb.mono HL0_17.out.size))
    have HBB_18 := Lib.hid (HBB_17.out.trans (nb.mono HBB_17.out.size))
    have HM_18 := Lib.hid (HM_17.out.trans (nb.mono HM_17.out.size))
    have HK_18 := Lib.hid (HK_17.out.trans (nb.mono HK_17.out.size))
    clear nb HB1_17 PT_17 A6_17 A8_17 XH_17 XH2_17 UT_17 XF_17 XF2_17 XG_17 XG2_17 HL0_17 HBB_17 HM_17 HK_17
    go_wp2_with fail
    clear zz0 zz1 zz2 zz3 
    generalize (w17.alloc (.cells #[.slice gP ngP dgP, .slice gW ngW dgW] 26)) = w18 at *
    refine (D1.out _ HK_18.out).mono ?_
    rintro e w19 ⟨rfl, b19⟩
    have HB1_19 := Lib.hid (HB1_18.out.below b19)
    have PT_19 := Lib.hid (PT_18.out.below b19)
    have A6_19 := Lib.hid (A6_18.out.below b19)
    have A8_19 := Lib.hid (A8_18.out.below b19)
    have XH_19 := Lib.hid (XH_18.out.below b19)
    have XH2_19 := Lib.hid (XH2_18.out.below b19)
    have UT_19 := Lib.hid (UT_18.out.below b19)
    have XF_19 := Lib.hid (XF_18.out.below b19)
    have XF2_19 := Lib.hid (XF2_18.out.below b19)
    have XG_19 := Lib.hid (XG_18.out.below b19)
    have XG2_19 := Lib.hid (XG2_18.out.below b19)
    have GT_19 := Lib.hid (GT_18.out.below b19)
    have HL0_19 := Lib.hid (HL0_18.out.trans (b19.mono HL0_18.out.size))
    have HBB_19 := Lib.hid (HBB_18.out.trans (b19.mono HBB_18.out.size))
    have HM_19 := Lib.hid (HM_18.out.trans (b19.mono HM_18.out.size))
    have HK_19 := Lib.hid (HK_18.out.trans (b19.mono HK_18.out.size))
    clear b19 HB1_18 PT_18 A6_18 A8_18 XH_18 XH2_18 UT_18 XF_18 XF2_18 XG_18 XG2_18 GT_18 HL0_18 HBB_18 HM_18 HK_18
    have op0 := GT_19.out.c0
    have op1 := GT_19.out.c1
    have op2 := GT_19.out.lt
    go_wp2_with fail
    clear op0 op1 op2
    refine (D2.out _ HK_19.out).mono ?_
    rintro e w20 ⟨rfl, b20⟩
    have HB1_20 := Lib.hid (HB1_19.out.below b20)
    have PT_20 := Lib.hid (PT_19.out.below b20)
    have A6_20 := Lib.hid (A6_19.out.below b20)
    have A8_20 := Lib.hid (A8_19.out.below b20)
    have XH_20 := Lib.hid (XH_19.out.below b20)
    have XH2_20 := Lib.hid (XH2_19.out.below b20)
    have UT_20 := Lib.hid (UT_19.out.below b20)
    have XF_20 := Lib.hid (XF_19.out.below b20)
    have XF2_20 := Lib.hid (XF2_19.out.below b20)
    have XG_20 := Lib.hid (XG_19.out.below b20)
    have XG2_20 := Lib.hid (XG2_19.out.below b20)
    have GT_20 := Lib.hid (GT_19.out.below b20)
    have HL0_20 := Lib.hid (HL0_19.out.trans (b20.mono HL0_19.out.size))
    have HBB_20 := Lib.hid (HBB_19.out.trans (b20.mono HBB_19.out.size))
    have HM_20 := Lib.hid (HM_19.out.trans (b20.mono HM_19.out.size))
    have HK_20 := Lib.hid (HK_19.out.trans (b20.mono HK_19.out.size))
    clear b20 HB1_19 PT_19 A6_19 A8_19 XH_19 XH2_19 UT_19 XF_19 XF2_19 XG_19 XG2_19 GT_19 HL0_19 HBB_19 HM_19 HK_19
    have op0 := GT_20.out.c0
    have op1 := GT_20.out.c1
    have op2 := GT_20.out.lt
    have op3 := A6_20.out.c0
    have op4 := A6_20.out.c1
    have op5 := A6_20.out.lt
    have op6 := A8_20.out.c0
    have op7 := A8_20.out.c1
    have op8 := A8_20.out.lt
    have op9 := (fun W => by rw [eqA2]; simp : ∀ W, (Op.equalIn 10000 29 (.agg #[.int .i64 gn, .int .i64 gd]) (.agg #[.int .i64 gn, .int .i64 gd])).run Tryz.prog W = .ok true W)
    go_wp2_with fail
    clear op0 op1 op2 op3 op4 op5 op6 op7 op8 op9
    as_aux_lemma =>
    refine (laws_vInts _ _ _ _ _ held _ (by omega) XH_20.out.ints XH2_20.out.ints).mono ?_
    rintro e w21 ⟨rfl, b21⟩
    have HB1_21 := Lib.hid (HB1_20.out.below b21)
    have PT_21 := Lib.hid (PT_20.out.below b21)
    have A6_21 := Lib.hid (A6_20.out.below b21)
    have A8_21 := Lib.hid (A8_20.out.below b21)
    have XH_21 := Lib.hid (XH_20.out.below b21)
    have XH2_21 := Lib.hid (XH2_20.out.below b21)
    have UT_21 := Lib.hid (UT_20.out.below b21)
    have XF_21 := Lib.hid (XF_20.out.below b21)
    have XF2_21 := Lib.hid (XF2_20.out.below b21)
    have XG_21 := Lib.hid (XG_20.out.below b21)
    have XG2_21 := Lib.hid (XG2_20.out.below b21)
    have GT_21 := Lib.hid (GT_20.out.below b21)
    have HL0_21 := Lib.hid (HL0_20.out.trans (b21.mono HL0_20.out.size))
    have HBB_21 := Lib.hid (HBB_20.out.trans (b21.mono HBB_20.out.size))
    have HM_21 := Lib.hid (HM_20.out.trans (b21.mono HM_20.out.size))
    have HK_21 := Lib.hid (HK_20.out.trans (b21.mono HK_20.out.size))
    clear b21 HB1_20 PT_20 A6_20 A8_20 XH_20 XH2_20 UT_20 XF_20 XF2_20 XG_20 XG2_20 GT_20 HL0_20 HBB_20 HM_20 HK_20
    clear XH2_21
    go_wp2_with fail
    refine (laws_vInts _ _ _ _ _ early _ (by omega) XF_21.out.ints XF2_21.out.ints).mono ?_
    rintro e w22 ⟨rfl, b22⟩
    have HB1_22 := Lib.hid (HB1_21.out.below b22)
    have PT_22 := Lib.hid (PT_21.out.below b22)
    have A6_22 := Lib.hid (A6_21.out.below b22)
    have A8_22 := Lib.hid (A8_21.out.below b22)
    have XH_22 := Lib.hid (XH_21.out.below b22)
    have UT_22 := Lib.hid (UT_21.out.below b22)
    have XF_22 := Lib.hid (XF_21.out.below b22)
    have XF2_22 := Lib.hid (XF2_21.out.below b22)
    have XG_22 := Lib.hid (XG_21.out.below b22)
    have XG2_22 := Lib.hid (XG2_21.out.below b22)
    have GT_22 := Lib.hid (GT_21.out.below b22)
    have HL0_22 := Lib.hid (HL0_21.out.trans (b22.mono HL0_21.out.size))
    have HBB_22 := Lib.hid (HBB_21.out.trans (b22.mono HBB_21.out.size))
    have HM_22 := Lib.hid (HM_21.out.trans (b22.mono HM_21.out.size))
    have HK_22 := Lib.hid (HK_21.out.trans (b22.mono HK_21.out.size))
    clear b22 HB1_21 PT_21 A6_21 A8_21 XH_21 UT_21 XF_21 XF2_21 XG_21 XG2_21 GT_21 HL0_21 HBB_21 HM_21 HK_21
    clear XF2_22
    go_wp2_with fail
    refine (laws_vInts _ _ _ _ _ late _ (by omega) XG_22.out.ints XG2_22.out.ints).mono ?_
    rintro e w23 ⟨rfl, b23⟩
    have HB1_23 := Lib.hid (HB1_22.out.below b23)
    have PT_23 := Lib.hid (PT_22.out.below b23)
    have A6_23 := Lib.hid (A6_22.out.below b23)
    have A8_23 := Lib.hid (A8_22.out.below b23)
    have XH_23 := Lib.hid (XH_22.out.below b23)
    have UT_23 := Lib.hid (UT_22.out.below b23)
    have XF_23 := Lib.hid (XF_22.out.below b23)
    have XG_23 := Lib.hid (XG_22.out.below b23)
    have XG2_23 := Lib.hid (XG2_22.out.below b23)
    have GT_23 := Lib.hid (GT_22.out.below b23)
    have HL0_23 := Lib.hid (HL0_22.out.trans (b23.mono HL0_22.out.size))
    have HBB_23 := Lib.hid (HBB_22.out.trans (b23.mono HBB_22.out.size))
    have HM_23 := Lib.hid (HM_22.out.trans (b23.mono HM_22.out.size))
    have HK_23 := Lib.hid (HK_22.out.trans (b23.mono HK_22.out.size))
    clear b23 HB1_22 PT_22 A6_22 A8_22 XH_22 UT_22 XF_22 XG_22 XG2_22 GT_22 HL0_22 HBB_22 HM_22 HK_22
    clear XG2_23
    clear A8_23
    clear D1 D2
    as_aux_lemma =>
    go_upto_if 199 with fail
    go_cut [28] from 28 to 28 (fun v28 wc => v28 = .bool two ∧ Below w23.heap.size w23 wc)
    case first => as_aux_lemma =>
      have HS_23 := Lib.hid (Below.refl w23.heap.size w23)
      cases two
      · go_wp2_with fail
        go_meet
        case rel => exact ⟨rfl, Below.refl _ _⟩
      · have op0 := GT_23.out.c0
        have op1 := GT_23.out.c1
        have op2 := GT_23.out.lt
        go_wp2_with fail
        clear op0 op1 op2
        refine (D3.out _ HK_23.out).mono ?_
        rintro e w24 ⟨rfl, b24⟩
        have HB1_24 := Lib.hid (HB1_23.out.below b24)
        have PT_24 := Lib.hid (PT_23.out.below b24)
        have A6_24 := Lib.hid (A6_23.out.below b24)
        have XH_24 := Lib.hid (XH_23.out.below b24)
        have UT_24 := Lib.hid (UT_23.out.below b24)
        have XF_24 := Lib.hid (XF_23.out.below b24)
        have XG_24 := Lib.hid (XG_23.out.below b24)
        have GT_24 := Lib.hid (GT_23.out.below b24)
        have HL0_24 := Lib.hid (HL0_23.out.trans (b24.mono HL0_23.out.size))
        have HBB_24 := Lib.hid (HBB_23.out.trans (b24.mono HBB_23.out.size))
        have HM_24 := Lib.hid (HM_23.out.trans (b24.mono HM_23.out.size))
        have HK_24 := Lib.hid (HK_23.out.trans (b24.mono HK_23.out.size))
        have HS_24 := Lib.hid (HS_23.out.trans (b24.mono HS_23.out.size))
        clear b24 HB1_23 PT_23 A6_23 XH_23 UT_23 XF_23 XG_23 GT_23 HL0_23 HBB_23 HM_23 HK_23 HS_23
        go_wp2_with fail
        go_meet
        case rel => exact ⟨rfl, HS_24.out⟩
    case rest =>
    obtain ⟨rfl, b24⟩ := hcut
    obtain ⟨w24, hwc⟩ : ∃ z, z = wc := ⟨_, rfl⟩
    rw [← hwc] at b24 ⊢
    clear hwc wc
    have HB1_24 := Lib.hid (HB1_23.out.below b24)
    have PT_24 := Lib.hid (PT_23.out.below b24)
    have A6_24 := Lib.hid (A6_23.out.below b24)
    have XH_24 := Lib.hid (XH_23.out.below b24)
    have UT_24 := Lib.hid (UT_23.out.below b24)
    have XF_24 := Lib.hid (XF_23.out.below b24)
    have XG_24 := Lib.hid (XG_23.out.below b24)
    have GT_24 := Lib.hid (GT_23.out.below b24)
    have HL0_24 := Lib.hid (HL0_23.out.trans (b24.mono HL0_23.out.size))
    have HBB_24 := Lib.hid (HBB_23.out.trans (b24.mono HBB_23.out.size))
    have HM_24 := Lib.hid (HM_23.out.trans (b24.mono HM_23.out.size))
    have HK_24 := Lib.hid (HK_23.out.trans (b24.mono HK_23.out.size))
    clear b24 HB1_23 PT_23 A6_23 XH_23 UT_23 XF_23 XG_23 GT_23 HL0_23 HBB_23 HM_23 HK_23
    clear GT_24
    clear HK_24
    clear D3
    as_aux_lemma =>
    go_upto_if 213 with fail
    go_cut [18] from 18 to 18 (fun v18 wc => v18 = .bool there ∧ Below w24.heap.size w24 wc)
    case first => as_aux_lemma =>
      have HS_24 := Lib.hid (Below.refl w24.heap.size w24)
      cases there
      · go_wp2_with fail
        go_meet
        case rel => exact ⟨rfl, Below.refl _ _⟩
      · have J5 := Lib.hid (C5.out rfl)
        have J6 := Lib.hid (C6.out rfl)
        have J7 := Lib.hid (C7.out rfl)
        clear C5 C6 C7
        have op0 := UT_24.out.c0
        have op1 := UT_24.out.c1
        have op2 := UT_24.out.lt
        go_wp2_with fail
        clear op0 op1 op2
        refine (J5.out _ _ _ _ HM_24.out XF_24.out.ints hcF hnF2).mono ?_
        rintro e w25 ⟨rfl, b25⟩
        have HB1_25 := Lib.hid (HB1_24.out.below b25)
        have PT_25 := Lib.hid (PT_24.out.below b25)
        have A6_25 := Lib.hid (A6_24.out.below b25)
        have XH_25 := Lib.hid (XH_24.out.below b25)
        have UT_25 := Lib.hid (UT_24.out.below b25)
        have XF_25 := Lib.hid (XF_24.out.below b25)
        have XG_25 := Lib.hid (XG_24.out.below b25)
        have HL0_25 := Lib.hid (HL0_24.out.trans (b25.mono HL0_24.out.size))
        have HBB_25 := Lib.hid (HBB_24.out.trans (b25.mono HBB_24.out.size))
        have HM_25 := Lib.hid (HM_24.out.trans (b25.mono HM_24.out.size))
        have HS_25 := Lib.hid (HS_24.out.trans (b25.mono HS_24.out.size))
        clear b25 HB1_24 PT_24 A6_24 XH_24 UT_24 XF_24 XG_24 HL0_24 HBB_24 HM_24 HS_24
        have op0 := UT_25.out.c0
        have op1 := UT_25.out.c1
        have op2 := UT_25.out.lt
        go_wp2_with fail
        clear op0 op1 op2
        refine (J6.out _ _ _ _ HM_25.out XG_25.out.ints hcG hnG2).mono ?_
        rintro e w26 ⟨rfl, b26⟩
        have HB1_26 := Lib.hid (HB1_25.out.below b26)
        have PT_26 := Lib.hid (PT_25.out.below b26)
        have A6_26 := Lib.hid (A6_25.out.below b26)
        have XH_26 := Lib.hid (XH_25.out.below b26)
        have UT_26 := Lib.hid (UT_25.out.below b26)
        have XF_26 := Lib.hid (XF_25.out.below b26)
        have XG_26 := Lib.hid (XG_25.out.below b26)
        have HL0_26 := Lib.hid (HL0_25.out.trans (b26.mono HL0_25.out.size))
        have HBB_26 := Lib.hid (HBB_25.out.trans (b26.mono HBB_25.out.size))
        have HM_26 := Lib.hid (HM_25.out.trans (b26.mono HM_25.out.size))
        have HS_26 := Lib.hid (HS_25.out.trans (b26.mono HS_25.out.size))
        clear b26 HB1_25 PT_25 A6_25 XH_25 UT_25 XF_25 XG_25 HL0_25 HBB_25 HM_25 HS_25
        have op0 := UT_26.out.c0
        have op1 := UT_26.out.c1
        have op2 := UT_26.out.lt
        go_wp2_with fail
        clear op0 op1 op2
        refine (J7.out _ _ _ _ _ _ _ HM_26.out XF_26.out.ints hcF hnF2 XG_26.out.ints hcG hnG2).mono ?_
        rintro e w27 ⟨rfl, b27⟩
        have HB1_27 := Lib.hid (HB1_26.out.below b27)
        have PT_27 := Lib.hid (PT_26.out.below b27)
        have A6_27 := Lib.hid (A6_26.out.below b27)
        have XH_27 := Lib.hid (XH_26.out.below b27)
        have UT_27 := Lib.hid (UT_26.out.below b27)
        have XF_27 := Lib.hid (XF_26.out.below b27)
        have XG_27 := Lib.hid (XG_26.out.below b27)
        have HL0_27 := Lib.hid (HL0_26.out.trans (b27.mono HL0_26.out.size))
        have HBB_27 := Lib.hid (HBB_26.out.trans (b27.mono HBB_26.out.size))
        have HM_27 := Lib.hid (HM_26.out.trans (b27.mono HM_26.out.size))
        have HS_27 := Lib.hid (HS_26.out.trans (b27.mono HS_26.out.size))
        clear b27 HB1_26 PT_26 A6_26 XH_26 UT_26 XF_26 XG_26 HL0_26 HBB_26 HM_26 HS_26
        go_wp2_with fail
        go_meet
        case rel => exact ⟨rfl, HS_27.out⟩
    case rest =>
    obtain ⟨rfl, b25⟩ := hcut
    obtain ⟨w25, hwc⟩ : ∃ z, z = wc := ⟨_, rfl⟩
    rw [← hwc] at b25 ⊢
    clear hwc wc
    have HB1_25 := Lib.hid (HB1_24.out.below b25)
    have PT_25 := Lib.hid (PT_24.out.below b25)
    have A6_25 := Lib.hid (A6_24.out.below b25)
    have XH_25 := Lib.hid (XH_24.out.below b25)
    have UT_25 := Lib.hid (UT_24.out.below b25)
    have XF_25 := Lib.hid (XF_24.out.below b25)
    have XG_25 := Lib.hid (XG_24.out.below b25)
    have HL0_25 := Lib.hid (HL0_24.out.trans (b25.mono HL0_24.out.size))
    have HBB_25 := Lib.hid (HBB_24.out.trans (b25.mono HBB_24.out.size))
    have HM_25 := Lib.hid (HM_24.out.trans (b25.mono HM_24.out.size))
    clear b25 HB1_24 PT_24 A6_24 XH_24 UT_24 XF_24 XG_24 HL0_24 HBB_24 HM_24
    clear UT_25
    clear HM_25
    clear XF_25
    clear XG_25
    clear C5 C6 C7
    as_aux_lemma =>
    go_upto_if 256 with fail
    cases ok
    · go_wp2_with fail
      go_ret
      exact ⟨rfl, HBB_25.out⟩
    · as_aux_lemma =>
      have J7 := Lib.hid (E7.out rfl)
      have J8 := Lib.hid (E8.out rfl)
      have J9 := Lib.hid (fun h => E9.out ⟨rfl, h⟩)
      obtain ⟨⟨hnL1, hnE24, hes⟩, ⟨hm1, hm24, hma, hmb⟩, ⟨hg1, hg2, hg3⟩, hff, hfl, hfe, hfs⟩ := PF.out rfl
      have Hes := Lib.hid hes
      have Hma := Lib.hid hma
      have Hmb := Lib.hid hmb
      have Hff := Lib.hid hff
      have Hfl := Lib.hid hfl
      have Hfe := Lib.hid hfe
      have Hfs := Lib.hid hfs
      have Hg := Lib.hid (And.intro hg1 (And.intro hg2 hg3))
      clear hes hma hmb hff hfl hfe hfs hg1 hg2 hg3 E7 E8 E9 PF
      have op0 := PT_25.out.c0
      have op1 := PT_25.out.c1
      have op2 := PT_25.out.lt
      go_wp2_with fail
      clear op0 op1 op2
      refine (E5.out _ HL0_25.out).mono ?_
      rintro e w26 ⟨rfl, b26⟩
      have HB1_26 := Lib.hid (HB1_25.out.below b26)
      have PT_26 := Lib.hid (PT_25.out.below b26)
      have A6_26 := Lib.hid (A6_25.out.below b26)
      have XH_26 := Lib.hid (XH_25.out.below b26)
      have HL0_26 := Lib.hid (HL0_25.out.trans (b26.mono HL0_25.out.size))
      have HBB_26 := Lib.hid (HBB_25.out.trans (b26.mono HBB_25.out.size))
      clear b26 HB1_25 PT_25 A6_25 XH_25 HL0_25 HBB_25
      have op0 := PT_26.out.c0
      have op1 := PT_26.out.c1
      have op2 := PT_26.out.lt
      go_wp2_with fail
      clear op0 op1 op2
      refine (E6.out _ HL0_26.out).mono ?_
      rintro e w27 ⟨rfl, b27⟩
      have HB1_27 := Lib.hid (HB1_26.out.below b27)
      have PT_27 := Lib.hid (PT_26.out.below b27)
      have A6_27 := Lib.hid (A6_26.out.below b27)
      have XH_27 := Lib.hid (XH_26.out.below b27)
      have HL0_27 := Lib.hid (HL0_26.out.trans (b27.mono HL0_26.out.size))
      have HBB_27 := Lib.hid (HBB_26.out.trans (b27.mono HBB_26.out.size))
      clear b27 HB1_26 PT_26 A6_26 XH_26 HL0_26 HBB_26
      obtain ⟨bL, oL, rfl, hcL0⟩ := HIL.out.at (i := 0) HL0_27.out (by omega)
      rw [Nat.add_zero, ← HL00.out] at hcL0
      have hnL2 : (0 : Int) < (nL : Int) := by omega
      have zz := Pair.new w27 (.int .i64 0) (.int .i64 0) 29
      have zz0 := zz.c0
      have zz1 := zz.c1
      have zz2 := zz.f0
      have zz3 := zz.f1
      clear zz
      have op0 := PT_27.out.c0
      have op1 := PT_27.out.c1
      have op2 := PT_27.out.lt
      have nb := below_new w27 (.cells #[.int .i64 l0, .int .i64 1] 29)
      have A43_28 := Lib.hid (Pair.new w27 (.int .i64 l0) (.int .i64 1) 29)
      have HB1_28 := Lib.hid (HB1_27.out.below nb)
      have PT_28 := Lib.hid (PT_27.out.below nb)
      have A6_28 := Lib.hid (A6_27.out.below nb)
      have XH_28 := Lib.hid (XH_27.out.below nb)
      have HL0_28 := Lib.hid (HL0_27.out.trans (nb.mono HL0_27.out.size))
      have HBB_28 := Lib.hid (HBB_27.out.trans (nb.mono HBB_27.out.size))
      clear nb HB1_27 PT_27 A6_27 XH_27 HL0_27 HBB_27
      go_upto_region 33 with fail
      clear zz0 zz1 zz2 zz3 op0 op1 op2
      generalize (w27.alloc (.cells #[.int .i64 l0, .int .i64 1] 29)) = w28 at *
      clear hcL0 E5 E6
      go_cut [286] from 273 to 286 (fun v286 wc => v286 = .bool false ∧ Below w28.heap.size w28 wc)
      case first => as_aux_lemma =>
        have HS_28 := Lib.hid (Below.refl w28.heap.size w28)
        cases fair
        · cases falls
          · go_wp2_with fail
            go_meet
            case rel => exact ⟨rfl, Below.refl _ _⟩
          · have op0 := A6_28.out.c0
            have op1 := A6_28.out.c1
            have op2 := A6_28.out.lt
            have op3 := A43_28.out.c0
            have op4 := A43_28.out.c1
            have op5 := A43_28.out.lt
            have Hd := Lib.hid (Hfl.out rfl)
            go_wp2_with fail
            refine (laws_vLess _ _ _ _ _ (by have := Hg.out; omega) (by have := Hg.out; omega)).mono ?_
            rintro e wv ⟨rfl, bv⟩
            rw [Hd.out]
            go_wp2_with fail
            go_meet
            case rel => exact ⟨rfl, bv⟩
        · have op0 := A6_28.out.c0
          have op1 := A6_28.out.c1
          have op2 := A6_28.out.lt
          have op3 := A43_28.out.c0
          have op4 := A43_28.out.c1
          have op5 := A43_28.out.lt
          have hx := Hff.out rfl
          have hq := (fun W => by rw [eqA2]; simp [hx.1, hx.2] : ∀ W, (Op.equalIn 10000 29 (.agg #[.int .i64 gn, .int .i64 gd]) (.agg #[.int .i64 l0, .int .i64 1])).run Tryz.prog W = .ok true W)
          clear hx
          cases falls
          · go_wp2_with fail
            go_meet
            case rel => exact ⟨rfl, Below.refl _ _⟩
          · have Hd := Lib.hid (Hfl.out rfl)
            go_wp2_with fail
            refine (laws_vLess _ _ _ _ _ (by have := Hg.out; omega) (by have := Hg.out; omega)).mono ?_
            rintro e wv ⟨rfl, bv⟩
            rw [Hd.out]
            go_wp2_with fail
            go_meet
            case rel => exact ⟨rfl, bv⟩
      case rest =>
      obtain ⟨rfl, b29⟩ := hcut
      obtain ⟨w29, hwc⟩ : ∃ z, z = wc := ⟨_, rfl⟩
      rw [← hwc] at b29 ⊢
      clear hwc wc
      have HB1_29 := Lib.hid (HB1_28.out.below b29)
      have PT_29 := Lib.hid (PT_28.out.below b29)
      have A6_29 := Lib.hid (A6_28.out.below b29)
      have XH_29 := Lib.hid (XH_28.out.below b29)
      have A43_29 := Lib.hid (A43_28.out.below b29)
      have HL0_29 := Lib.hid (HL0_28.out.trans (b29.mono HL0_28.out.size))
      have HBB_29 := Lib.hid (HBB_28.out.trans (b29.mono HBB_28.out.size))
      clear b29 HB1_28 PT_28 A6_28 XH_28 A43_28 HL0_28 HBB_28
      clear A43_29
      clear Hff Hfl
      as_aux_lemma =>
      have op0 := PT_29.out.c0
      have op1 := PT_29.out.c1
      have op2 := PT_29.out.lt
      go_wp2_with fail
      clear op0 op1 op2
      refine (J7.out _ HL0_29.out).mono ?_
      rintro e w30 ⟨v30, rfl, o30, b30⟩
      obtain ⟨aE, cE, rfl⟩ := o30.shape
      rw [← HNE.out] at o30 ⊢
      have hcE := o30.cap.2.1
      have HB1_30 := Lib.hid (HB1_29.out.below b30)
      have PT_30 := Lib.hid (PT_29.out.below b30)
      have A6_30 := Lib.hid (A6_29.out.below b30)
      have XH_30 := Lib.hid (XH_29.out.below b30)
      have HL0_30 := Lib.hid (HL0_29.out.trans (b30.mono HL0_29.out.size))
      have HBB_30 := Lib.hid (HBB_29.out.trans (b30.mono HBB_29.out.size))
      clear b30 HB1_29 PT_29 A6_29 XH_29 HL0_29 HBB_29
      have XE_30 := Lib.hid (o30)
      clear o30
      have O0 := Lib.hid (own_nil0 w30)
      have B0 := Lib.hid (below_new w30 (.cells #[] 3))
      go_upto_region 37 with fail
      obtain ⟨wo, hwo⟩ : ∃ z, z = w30.alloc (.cells #[] 3) := ⟨_, rfl⟩
      rw [← hwo] at O0 B0 ⊢
      clear hwo
      go_wp2_with fail
      try simp only [Bool.not_true]
      go_loopw [46, 47] (fun v46 v47 wr => ∃ k : Nat, k ≤ nE ∧ v47 = .int .i64 (k : Int) ∧ Own wr w30.heap.size v46 (smP held (es.take k)) ∧ Below w30.heap.size w30 wr) (fun _ v47 _ => nE - (intOf v47).toNat)
      case atStart => exact ⟨0, Nat.zero_le _, rfl, O0.out, B0.out⟩
      case round =>
        clear O0 B0
        obtain ⟨k, hk, rfl, hown, hbr⟩ := hrel
        by_cases hlt : (k : Int) < nE
        · obtain ⟨e, he, hee⟩ := Hes.out k (by omega)
          obtain ⟨bE, oE, rfl, hcE0⟩ := XE_30.out.ints.at (i := k) hbr (by omega)
          rw [hee] at hcE0
          obtain ⟨bH, oH, rfl, hcH0⟩ := XH_30.out.ints.at (i := e) hbr (by omega)
          have Hns := Lib.hid (smP_take held es (k := k) (by have := HNE.out; omega))
          rw [hee, Int.toNat_natCast] at Hns
          have hll := smP_length held (es.take k)
          have htl : (es.take k).length ≤ k := List.length_take_le _ _
          obtain ⟨a8, c8, rfl⟩ := hown.shape
          have hle : w30.heap.size ≤ wr.heap.size := hbr.size
          have hac : (smP held (es.take k)).length ≤ 24 := by omega
          clear hee hll htl
          generalize smP held (es.take k) = acc at *
          generalize nth held e = q at *
          have k1 : (0 : Int) ≤ (k : Int) := by omega
          have k2 : (0 : Int) ≤ (e : Int) := by omega
          have k3 : (e : Int) < (nH : Int) := by omega
          go_wp2_with (at_builtin; refine wp_push (.tmp 299) (.tmp 307) rfl rfl w30.heap.size _ _ rfl hown rfl (by omega) hle ?_; intro v' w' ho hb)
          go_roundw
          case rel => exact ⟨k + 1, by omega, by go_num, by rw [Hns.out]; exact ho, hbr.trans hb⟩
          case measure => simp [intOf] <;> omega
        · obtain rfl : k = nE := by omega
          have htk : es.take k = es := List.take_of_length_le (by have := HNE.out; omega)
          rw [htk] at hown
          obtain ⟨a8, c8, rfl⟩ := hown.shape
          rw [smP_length, ← HNE.out] at hown ⊢
          have hcN := hown.cap.2.1
          clear htk
          obtain ⟨w31, hwc⟩ : ∃ z, z = wr := ⟨_, rfl⟩
          rw [← hwc] at hbr hown ⊢
          have b31 := hbr
          have XN_31 := Lib.hid hown
          clear hwc hbr hown hlt
          have HB1_31 := Lib.hid (HB1_30.out.below b31)
          have PT_31 := Lib.hid (PT_30.out.below b31)
          have A6_31 := Lib.hid (A6_30.out.below b31)
          have XH_31 := Lib.hid (XH_30.out.below b31)
          have XE_31 := Lib.hid (XE_30.out.below b31)
          have HL0_31 := Lib.hid (HL0_30.out.trans (b31.mono HL0_30.out.size))
          have HBB_31 := Lib.hid (HBB_30.out.trans (b31.mono HBB_30.out.size))
          clear b31 HB1_30 PT_30 A6_30 XH_30 XE_30 HL0_30 HBB_30
          as_aux_lemma =>
          have op0 := PT_31.out.c0
          have op1 := PT_31.out.c1
          have op2 := PT_31.out.lt
          go_wp2_with fail
          clear op0 op1 op2
          refine (J8.out _ _ _ _ HL0_31.out XN_31.out.ints hcN (by omega)).mono ?_
          rintro e w32 ⟨v32, rfl, o32, b32⟩
          obtain ⟨aM, cM, rfl⟩ := o32.shape
          have HB1_32 := Lib.hid (HB1_31.out.below b32)
          have PT_32 := Lib.hid (PT_31.out.below b32)
          have A6_32 := Lib.hid (A6_31.out.below b32)
          have XH_32 := Lib.hid (XH_31.out.below b32)
          have XE_32 := Lib.hid (XE_31.out.below b32)
          have XN_32 := Lib.hid (XN_31.out.below b32)
          have HL0_32 := Lib.hid (HL0_31.out.trans (b32.mono HL0_31.out.size))
          have HBB_32 := Lib.hid (HBB_31.out.trans (b32.mono HBB_31.out.size))
          clear b32 HB1_31 PT_31 A6_31 XH_31 XE_31 XN_31 HL0_31 HBB_31
          have XM_32 := Lib.hid (o32)
          clear o32
          go_upto_region 42 with fail
          obtain ⟨bM, oM, rfl, hbM, hcM⟩ := XM_32.out.ints.2 (by omega)
          have ca1 := (hcM 0 (by omega)).1
          have ca2 := (hcM 0 (by omega)).2
          rw [Nat.zero_mul, Nat.add_zero] at ca1 ca2
          rw [Hma.out] at ca1
          rw [Hmb.out] at ca2
          clear hcM
          have hnM : 0 < means.length := by omega
          have hq := (fun W => by rw [eqA2]; simp : ∀ W, (Op.equalIn 10000 29 (.agg #[.int .i64 gn, .int .i64 gd]) (.agg #[.int .i64 gn, .int .i64 gd])).run Tryz.prog W = .ok true W)
          have cb1 := A6_32.out.c0
          have cb2 := A6_32.out.c1
          go_quiet (fail)
          clear hq cb1 cb2 ca1 ca2
          obtain ⟨w33, hwq⟩ : ∃ z, z = w32.drewN nq := ⟨_, rfl⟩
          have bq : Below w32.heap.size w32 w33 := by rw [hwq]; exact below_drewN (Below.refl _ _) _
          rw [← hwq]
          clear hwq
          have HB1_33 := Lib.hid (HB1_32.out.below bq)
          have PT_33 := Lib.hid (PT_32.out.below bq)
          have A6_33 := Lib.hid (A6_32.out.below bq)
          have XH_33 := Lib.hid (XH_32.out.below bq)
          have XE_33 := Lib.hid (XE_32.out.below bq)
          have XN_33 := Lib.hid (XN_32.out.below bq)
          have XM_33 := Lib.hid (XM_32.out.below bq)
          have HL0_33 := Lib.hid (HL0_32.out.trans (bq.mono HL0_32.out.size))
          have HBB_33 := Lib.hid (HBB_32.out.trans (bq.mono HBB_32.out.size))
          clear bq HB1_32 PT_32 A6_32 XH_32 XE_32 XN_32 XM_32 HL0_32 HBB_32
          as_aux_lemma =>
          go_upto_if 324 with fail
          go_cut [41] from 41 to 41 (fun v41 wc => v41 = .bool falls ∧ Below w33.heap.size w33 wc)
          case first => as_aux_lemma =>
            have HS_33 := Lib.hid (Below.refl w33.heap.size w33)
            cases falls
            · go_wp2_with fail
              go_meet
              case rel => exact ⟨rfl, Below.refl _ _⟩
            · obtain ⟨hx1, hx2, hdec⟩ := Hfe.out rfl
              have Hdec := Lib.hid hdec
              have J10 := Lib.hid (J9.out rfl)
              clear hdec J9
              have op0 := PT_33.out.c0
              have op1 := PT_33.out.c1
              have op2 := PT_33.out.lt
              go_wp2_with fail
              clear op0 op1 op2
              refine (J10.out _ _ _ _ HL0_33.out XE_33.out.ints hcE (by omega)).mono ?_
              rintro e w34 ⟨rfl, b34⟩
              have HB1_34 := Lib.hid (HB1_33.out.below b34)
              have PT_34 := Lib.hid (PT_33.out.below b34)
              have A6_34 := Lib.hid (A6_33.out.below b34)
              have XH_34 := Lib.hid (XH_33.out.below b34)
              have XE_34 := Lib.hid (XE_33.out.below b34)
              have XN_34 := Lib.hid (XN_33.out.below b34)
              have XM_34 := Lib.hid (XM_33.out.below b34)
              have HL0_34 := Lib.hid (HL0_33.out.trans (b34.mono HL0_33.out.size))
              have HBB_34 := Lib.hid (HBB_33.out.trans (b34.mono HBB_33.out.size))
              have HS_34 := Lib.hid (HS_33.out.trans (b34.mono HS_33.out.size))
              clear b34 HB1_33 PT_33 A6_33 XH_33 XE_33 XN_33 XM_33 HL0_33 HBB_33 HS_33
              have zz := Pair.new w34 (.int .i64 0) (.int .i64 0) 29
              have zz0 := zz.c0
              have zz1 := zz.c1
              have zz2 := zz.f0
              have zz3 := zz.f1
              clear zz
              have op0 := PT_34.out.c0
              have op1 := PT_34.out.c1
              have op2 := PT_34.out.lt
              have nb := below_new w34 (.cells #[.int .i64 fn, .int .i64 fd] 29)
              have A50_35 := Lib.hid (Pair.new w34 (.int .i64 fn) (.int .i64 fd) 29)
              have HB1_35 := Lib.hid (HB1_34.out.below nb)
              have PT_35 := Lib.hid (PT_34.out.below nb)
              have A6_35 := Lib.hid (A6_34.out.below nb)
              have XH_35 := Lib.hid (XH_34.out.below nb)
              have XE_35 := Lib.hid (XE_34.out.below nb)
              have XN_35 := Lib.hid (XN_34.out.below nb)
              have XM_35 := Lib.hid (XM_34.out.below nb)
              have HL0_35 := Lib.hid (HL0_34.out.trans (nb.mono HL0_34.out.size))
              have HBB_35 := Lib.hid (HBB_34.out.trans (nb.mono HBB_34.out.size))
              have HS_35 := Lib.hid (HS_34.out.trans (nb.mono HS_34.out.size))
              clear nb HB1_34 PT_34 A6_34 XH_34 XE_34 XN_34 XM_34 HL0_34 HBB_34 HS_34
              go_upto_region 46 with fail
              clear zz0 zz1 zz2 zz3 op0 op1 op2
              generalize (w34.alloc (.cells #[.int .i64 fn, .int .i64 fd] 29)) = w35 at *
              have op0 := A6_35.out.c0
              have op1 := A6_35.out.c1
              have op2 := A6_35.out.lt
              have op3 := A50_35.out.c0
              have op4 := A50_35.out.c1
              have op5 := A50_35.out.lt
              go_wp2_with fail
              clear op0 op1 op2 op3 op4 op5
              refine (laws_vLess _ _ _ _ _ hx1 hx2).mono ?_
              rintro e w36 ⟨rfl, b36⟩
              rw [Hdec.out]
              have HB1_36 := Lib.hid (HB1_35.out.below b36)
              have PT_36 := Lib.hid (PT_35.out.below b36)
              have A6_36 := Lib.hid (A6_35.out.below b36)
              have XH_36 := Lib.hid (XH_35.out.below b36)
              have XE_36 := Lib.hid (XE_35.out.below b36)
              have XN_36 := Lib.hid (XN_35.out.below b36)
              have XM_36 := Lib.hid (XM_35.out.below b36)
              have A50_36 := Lib.hid (A50_35.out.below b36)
              have HL0_36 := Lib.hid (HL0_35.out.trans (b36.mono HL0_35.out.size))
              have HBB_36 := Lib.hid (HBB_35.out.trans (b36.mono HBB_35.out.size))
              have HS_36 := Lib.hid (HS_35.out.trans (b36.mono HS_35.out.size))
              clear b36 HB1_35 PT_35 A6_35 XH_35 XE_35 XN_35 XM_35 A50_35 HL0_35 HBB_35 HS_35
              go_wp2_with fail
              go_meet
              case rel => exact ⟨rfl, HS_36.out⟩
          case rest =>
          obtain ⟨rfl, b34⟩ := hcut
          obtain ⟨w34, hwc⟩ : ∃ z, z = wc := ⟨_, rfl⟩
          rw [← hwc] at b34 ⊢
          clear hwc wc
          have HB1_34 := Lib.hid (HB1_33.out.below b34)
          have PT_34 := Lib.hid (PT_33.out.below b34)
          have A6_34 := Lib.hid (A6_33.out.below b34)
          have XH_34 := Lib.hid (XH_33.out.below b34)
          have XE_34 := Lib.hid (XE_33.out.below b34)
          have XN_34 := Lib.hid (XN_33.out.below b34)
          have XM_34 := Lib.hid (XM_33.out.below b34)
          have HL0_34 := Lib.hid (HL0_33.out.trans (b34.mono HL0_33.out.size))
          have HBB_34 := Lib.hid (HBB_33.out.trans (b34.mono HBB_33.out.size))
          clear b34 HB1_33 PT_33 A6_33 XH_33 XE_33 XN_33 XM_33 HL0_33 HBB_33
          clear J8 J9 Hfe
          as_aux_lemma =>
          have op0 := PT_34.out.c0
          have op1 := PT_34.out.c1
          have op2 := PT_34.out.lt
          go_wp2_with fail
          clear op0 op1 op2
          refine (EA.out _ _ _ _ HL0_34.out XH_34.out.ints hcH hnH2).mono ?_
          rintro e w35 ⟨rfl, b35⟩
          have HB1_35 := Lib.hid (HB1_34.out.below b35)
          have PT_35 := Lib.hid (PT_34.out.below b35)
          have A6_35 := Lib.hid (A6_34.out.below b35)
          have XH_35 := Lib.hid (XH_34.out.below b35)
          have XE_35 := Lib.hid (XE_34.out.below b35)
          have XN_35 := Lib.hid (XN_34.out.below b35)
          have XM_35 := Lib.hid (XM_34.out.below b35)
          have HL0_35 := Lib.hid (HL0_34.out.trans (b35.mono HL0_34.out.size))
          have HBB_35 := Lib.hid (HBB_34.out.trans (b35.mono HBB_34.out.size))
          clear b35 HB1_34 PT_34 A6_34 XH_34 XE_34 XN_34 XM_34 HL0_34 HBB_34
          cases fair
          · go_wp2_with fail
            go_ret
            exact ⟨rfl, HBB_35.out⟩
          · obtain rfl : same = true := Hfs.out rfl
            go_wp2_with fail
            go_ret
            exact ⟨rfl, HBB_35.out⟩
end Go.Proofs.YtnbomleieianoaaGreat.fnStoppedMeans
