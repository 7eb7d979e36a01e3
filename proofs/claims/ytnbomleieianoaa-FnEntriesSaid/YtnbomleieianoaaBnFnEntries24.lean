/- Contracts and plain laws for the statement FnEntries, part 24. No conditions but those stated in each. -/
import Derived.Test.YtnbomleieianoaaBnFnEntries17
import Derived.Test.YtnbomleieianoaaBnFnEntries4
import Derived.Test.YtnbomleieianoaaBnFnEntries9
import Derived.Test.YtnbomleieianoaaBnFnEntries22
import Derived.Test.YtnbomleieianoaaBnFnEntries23
import Derived.Deep.DeepCutAuto
/- The walk through the law FnEntries: it returns true. No conditions but that the argument can be read. -/
namespace Go.Proofs.Ytnbomleieianoaa.fnEntries
open Go.RowKit
set_option linter.unusedVariables false
def nnB (l : List Int) (k : Nat) : Bool := (List.range k).all fun i => decide (0 ≤ nth l i)
theorem nnB_succ (l : List Int) (k : Nat) : nnB l (k + 1) = (nnB l k && decide (0 ≤ nth l k)) := by
  unfold nnB; rw [List.range_succ, List.all_append]; simp
theorem nn_all {l : List Int} {k : Nat} (h : nnB l k = true) (x : Nat) (hx : x < k) : 0 ≤ nth l x := by simpa using all_get h hx
set_option maxRecDepth 100000 in
set_option maxHeartbeats 4000000 in
theorem walk (a : Option Addr) (n c : Nat) (w : World) (hm : n ≤ maxLen) (hc : n ≤ c ∧ c ≤ maxLen ∧ (a = none → c = 0)) (h : Bytes0 w a n) :
    Calls Try.prog 3 #[.slice a n c] w fun e w' => e = .returned (.bool true) ∧ Below w.heap.size w w' := by
  clear hm
  by_cases hbig : (n : Int) > 65536
  · go_enter Try.func3, Try.ntmps3
    go_wp2_with (go_at_call 10; refine (laws_vBig _ _ _ _).mono ?_; rintro e w' ⟨rfl, rfl⟩; rw [decide_eq_true hbig])
    go_ret
    exact ⟨rfl, Below.refl _ _⟩
  · have HB := Lib.hid (h.few (by omega))
    have Hc := Lib.hid hc
    have Hnb := Lib.hid hbig
    clear h hc
    go_enter Try.func3, Try.ntmps3
    go_wp2_with (go_at_call 10; refine (laws_vBig _ _ _ _).mono ?_; rintro e w' ⟨rfl, rfl⟩; rw [decide_eq_false hbig])
    refine (spec_DrawFirstEntry _ _ _ _ HB.out).mono ?_
    rintro e w1 ⟨⟨v, rfl, aP, nP, cP, aW, nW, cW, ps, ws, vL, lev, rfl, hD, oL, hlev⟩, b1⟩
    obtain ⟨l, oL, hpl⟩ := oL
    obtain ⟨aL, cL, rfl⟩ := oL.shape
    obtain ⟨nL, hnL⟩ : ∃ z, z = l.length := ⟨_, rfl⟩
    rw [← hnL] at oL hpl ⊢
    have HBB := Lib.hid b1
    have HB1 := Lib.hid (HB.out.below b1)
    have hT := hD.tre
    have hIL := oL.ints
    have hcL := oL.cap.2.1
    obtain ⟨ok, hok⟩ : ∃ z, z = paysB ps ws l := ⟨_, rfl⟩
    obtain ⟨sp, hsp⟩ : ∃ z, z = entryV ps ws l lev := ⟨_, rfl⟩
    obtain ⟨nS, hnS⟩ : ∃ z, z = sp.length := ⟨_, rfl⟩
    obtain ⟨ml, hml⟩ : ∃ z, z = hiV ps ws l := ⟨_, rfl⟩
    obtain ⟨nM, hnM⟩ : ∃ z, z = ml.length := ⟨_, rfl⟩
    obtain ⟨fall, hfall⟩ : ∃ z, z = fallB ps ws l := ⟨_, rfl⟩
    obtain ⟨es, hes⟩ : ∃ z, z = ends ps := ⟨_, rfl⟩
    obtain ⟨nE, hnE⟩ : ∃ z, z = es.length := ⟨_, rfl⟩
    have E1 : Hid (∀ W, Below w1.heap.size w1 W → Calls Try.prog 12 #[.agg #[.slice aP nP cP, .slice aW nW cW], .slice aL nL cL, .int .i64 lev] W fun e w' => ∃ v, e = .returned (.tuple #[v, .bool ok]) ∧ Own w' W.heap.size v sp ∧ Below W.heap.size W w') := Lib.hid fun W hW => by
      rw [hok, hsp]; exact impl_FirstEntry _ _ _ _ _ _ ps ws _ _ _ l lev W (hT.below hW) (hIL.below hW) hcL (by omega)
    have E2 : Hid (∀ W, Below w1.heap.size w1 W → Calls Try.prog 13 #[.agg #[.slice aP nP cP, .slice aW nW cW], .slice aL nL cL, .int .i64 lev] W fun e w' => ∃ v, e = .returned (.tuple #[v, .bool ok]) ∧ Own w' W.heap.size v sp ∧ Below W.heap.size W w') := Lib.hid fun W hW => by
      rw [hok, hsp]; exact spec_FirstEntry _ _ _ _ _ _ ps ws _ _ _ l lev W (hT.below hW) (hIL.below hW) hcL (by omega)
    have E3 : Hid (∀ W, Below w1.heap.size w1 W → Calls Try.prog 14 #[.agg #[.slice aP nP cP, .slice aW nW cW], .slice aL nL cL] W fun e w' => ∃ v, e = .returned (.tuple #[v, .bool ok]) ∧ Own w' W.heap.size v ml ∧ Below W.heap.size W w') := Lib.hid fun W hW => by
      rw [hok, hml]; exact impl_HighestOf _ _ _ _ _ _ ps ws _ _ _ l W (hT.below hW) (hIL.below hW) hcL (by omega)
    have E4 : Hid (∀ W, Below w1.heap.size w1 W → Calls Try.prog 15 #[.agg #[.slice aP nP cP, .slice aW nW cW], .slice aL nL cL] W fun e w' => ∃ v, e = .returned (.tuple #[v, .bool ok]) ∧ Own w' W.heap.size v ml ∧ Below W.heap.size W w') := Lib.hid fun W hW => by
      rw [hok, hml]; exact spec_HighestOf _ _ _ _ _ _ ps ws _ _ _ l W (hT.below hW) (hIL.below hW) hcL (by omega)
    have E5 : Hid (ok = true → ∀ W a0 n0 c0, Below w1.heap.size w1 W → Ints W a0 n0 sp → (a0 = none → c0 = 0) → n0 ≤ 1048576 → Calls Try.prog 23 #[.agg #[.slice aP nP cP, .slice aW nW cW], .slice a0 n0 c0] W fun e w' => e = .returned (.tuple #[.bool true, .bool true]) ∧ Below W.heap.size W w') := Lib.hid fun h1 W a0 n0 c0 hW hI0 hc0 hn0 => by
      have hp : paysB ps ws l = true := hok ▸ h1
      have hz := impl_IsStopping _ _ _ _ _ _ ps ws a0 n0 c0 sp W (hT.below hW) hI0 hc0 hn0
      rw [hsp, entry_stop hp lev, (paysB_t hp).2.1] at hz
      exact hz
    have E6 : Hid (ok = true → ∀ W, Below w1.heap.size w1 W → Calls Try.prog 21 #[.agg #[.slice aP nP cP, .slice aW nW cW], .slice aL nL cL] W fun e w' => e = .returned (.tuple #[.bool fall, .bool true]) ∧ Below W.heap.size W w') := Lib.hid fun h1 W hW => by
      have hp : paysB ps ws l = true := hok ▸ h1
      have hz := impl_IsFalling _ _ _ _ _ _ ps ws _ _ _ l W (hT.below hW) (hIL.below hW) hcL (by omega)
      rw [falV_yes hp, hp, ← hfall] at hz
      exact hz
    have E7 : Hid (ok = true → ∀ W, Below w1.heap.size w1 W → Calls Try.prog 22 #[.agg #[.slice aP nP cP, .slice aW nW cW]] W fun e w' => ∃ v, e = .returned (.tuple #[v, .bool true]) ∧ Own w' W.heap.size v es ∧ Below W.heap.size W w') := Lib.hid fun h1 W hW => by
      have hp : paysB ps ws l = true := hok ▸ h1
      have hz := impl_EndsOf _ _ _ _ _ _ ps ws W (hT.below hW)
      rw [eoV_yes (paysB_t hp).2.1, (paysB_t hp).2.1, ← hes] at hz
      exact hz
    have hnS2 : nS ≤ 1048576 := by rw [hnS, hsp]; exact entryV_len
    have hnM2 : nM ≤ 24 := by rw [hnM, hml]; exact hiV_len
    have HNS := Lib.hid hnS
    have HNM := Lib.hid hnM
    have HNE := Lib.hid hnE
    have HNL := Lib.hid hnL
    have HL0 := Lib.hid (Below.refl w1.heap.size w1)
    have HIL := Lib.hid hIL
    have HIW := Lib.hid hT.w
    have HLEV := Lib.hid hlev
    have HOK := Lib.hid hok
    have HML := Lib.hid hml
    have HFL := Lib.hid hfall
    have HES := Lib.hid hes
    clear hok hsp hml hfall hT hIL hcL hD b1 hnL hnS hnM hnE hes oL hpl hlev
    have zz := Pair.new w1 (.slice none 0 0) (.slice none 0 0) 26
    have zz0 := zz.c0
    have zz1 := zz.c1
    have zz2 := zz.f0
    have zz3 := zz.f1
    clear zz
    have nb := below_new w1 (.cells #[.slice aP nP cP, .slice aW nW cW] 26)
    have PT_2 := Lib.hid (Pair.new w1 (.slice aP nP cP) (.slice aW nW cW) 26)
    have HB1_2 := Lib.hid (HB1.out.below nb)
    have HL0_2 := Lib.hid (HL0.out.trans (nb.mono HL0.out.size))
    have HBB_2 := Lib.hid (HBB.out.trans (nb.mono HBB.out.size))
    clear nb HB1 HL0 HBB
    go_wp2_with fail
    clear zz0 zz1 zz2 zz3 
    generalize (w1.alloc (.cells #[.slice aP nP cP, .slice aW nW cW] 26)) = w2 at *
    refine (E1.out _ HL0_2.out).mono ?_
    rintro e w3 ⟨v3, rfl, o3, b3⟩
    obtain ⟨aS, cS, rfl⟩ := o3.shape
    rw [← HNS.out] at o3 ⊢
    have hcS := o3.cap.2.1
    have HB1_3 := Lib.hid (HB1_2.out.below b3)
    have PT_3 := Lib.hid (PT_2.out.below b3)
    have HL0_3 := Lib.hid (HL0_2.out.trans (b3.mono HL0_2.out.size))
    have HBB_3 := Lib.hid (HBB_2.out.trans (b3.mono HBB_2.out.size))
    clear b3 HB1_2 PT_2 HL0_2 HBB_2
    have XS_3 := Lib.hid (o3)
    clear o3
    have op0 := PT_3.out.c0
    have op1 := PT_3.out.c1
    have op2 := PT_3.out.lt
    go_wp2_with fail
    clear op0 op1 op2
    refine (E2.out _ HL0_3.out).mono ?_
    rintro e w4 ⟨v4, rfl, o4, b4⟩
    obtain ⟨aS2, cS2, rfl⟩ := o4.shape
    rw [← HNS.out] at o4 ⊢
    have hcS2 := o4.cap.2.1
    have HB1_4 := Lib.hid (HB1_3.out.below b4)
    have PT_4 := Lib.hid (PT_3.out.below b4)
    have XS_4 := Lib.hid (XS_3.out.below b4)
    have HL0_4 := Lib.hid (HL0_3.out.trans (b4.mono HL0_3.out.size))
    have HBB_4 := Lib.hid (HBB_3.out.trans (b4.mono HBB_3.out.size))
    clear b4 HB1_3 PT_3 XS_3 HL0_3 HBB_3
    have XS2_4 := Lib.hid (o4)
    clear o4
    have op0 := PT_4.out.c0
    have op1 := PT_4.out.c1
    have op2 := PT_4.out.lt
    go_wp2_with fail
    clear op0 op1 op2
    refine (E3.out _ HL0_4.out).mono ?_
    rintro e w5 ⟨v5, rfl, o5, b5⟩
    obtain ⟨aM, cM, rfl⟩ := o5.shape
    rw [← HNM.out] at o5 ⊢
    have hcM := o5.cap.2.1
    have HB1_5 := Lib.hid (HB1_4.out.below b5)
    have PT_5 := Lib.hid (PT_4.out.below b5)
    have XS_5 := Lib.hid (XS_4.out.below b5)
    have XS2_5 := Lib.hid (XS2_4.out.below b5)
    have HL0_5 := Lib.hid (HL0_4.out.trans (b5.mono HL0_4.out.size))
    have HBB_5 := Lib.hid (HBB_4.out.trans (b5.mono HBB_4.out.size))
    clear b5 HB1_4 PT_4 XS_4 XS2_4 HL0_4 HBB_4
    have XM_5 := Lib.hid (o5)
    clear o5
    have op0 := PT_5.out.c0
    have op1 := PT_5.out.c1
    have op2 := PT_5.out.lt
    go_wp2_with fail
    clear op0 op1 op2
    refine (E4.out _ HL0_5.out).mono ?_
    rintro e w6 ⟨v6, rfl, o6, b6⟩
    obtain ⟨aM2, cM2, rfl⟩ := o6.shape
    rw [← HNM.out] at o6 ⊢
    have hcM2 := o6.cap.2.1
    have HB1_6 := Lib.hid (HB1_5.out.below b6)
    have PT_6 := Lib.hid (PT_5.out.below b6)
    have XS_6 := Lib.hid (XS_5.out.below b6)
    have XS2_6 := Lib.hid (XS2_5.out.below b6)
    have XM_6 := Lib.hid (XM_5.out.below b6)
    have HL0_6 := Lib.hid (HL0_5.out.trans (b6.mono HL0_5.out.size))
    have HBB_6 := Lib.hid (HBB_5.out.trans (b6.mono HBB_5.out.size))
    clear b6 HB1_5 PT_5 XS_5 XS2_5 XM_5 HL0_5 HBB_5
    have XM2_6 := Lib.hid (o6)
    clear o6
    have op0 := PT_6.out.c0
    have op1 := PT_6.out.c1
    have op2 := PT_6.out.lt
    go_wp2_with fail
    clear op0 op1 op2
    as_aux_lemma =>
    refine (laws_vCut _ _ _ _ (by have := Hnb.out; omega) Hc.out.1 Hc.out.2.2 HB1_6.out).mono ?_
    rintro e w7 ⟨v7, rfl, ⟨a20, n20, c20, rfl, hy20⟩, b7⟩
    have HY20 := Lib.hid hy20
    clear hy20
    have HB1_7 := Lib.hid (HB1_6.out.below b7)
    have PT_7 := Lib.hid (PT_6.out.below b7)
    have XS_7 := Lib.hid (XS_6.out.below b7)
    have XS2_7 := Lib.hid (XS2_6.out.below b7)
    have XM_7 := Lib.hid (XM_6.out.below b7)
    have XM2_7 := Lib.hid (XM2_6.out.below b7)
    have HL0_7 := Lib.hid (HL0_6.out.trans (b7.mono HL0_6.out.size))
    have HBB_7 := Lib.hid (HBB_6.out.trans (b7.mono HBB_6.out.size))
    clear b7 HB1_6 PT_6 XS_6 XS2_6 XM_6 XM2_6 HL0_6 HBB_6
    go_wp2_with fail
    refine (spec_DrawCrossings _ _ _ _ HY20.out).mono ?_
    rintro e w8 ⟨⟨v8, rfl, uP, nuP, duP, uW, nuW, duW, us, vs, vQ, lo, hi, rfl, hD2, oQ, hlh⟩, b8⟩
    have HB1_8 := Lib.hid (HB1_7.out.below b8)
    have PT_8 := Lib.hid (PT_7.out.below b8)
    have XS_8 := Lib.hid (XS_7.out.below b8)
    have XS2_8 := Lib.hid (XS2_7.out.below b8)
    have XM_8 := Lib.hid (XM_7.out.below b8)
    have XM2_8 := Lib.hid (XM2_7.out.below b8)
    have HL0_8 := Lib.hid (HL0_7.out.trans (b8.mono HL0_7.out.size))
    have HBB_8 := Lib.hid (HBB_7.out.trans (b8.mono HBB_7.out.size))
    clear b8 HB1_7 PT_7 XS_7 XS2_7 XM_7 XM2_7 HL0_7 HBB_7
    have HM_8 := Lib.hid (Below.refl w8.heap.size w8)
    obtain ⟨q, oQ, hql⟩ := oQ
    obtain ⟨aQ, cQ, rfl⟩ := oQ.shape
    obtain ⟨nQ, hnQ⟩ : ∃ z, z = q.length := ⟨_, rfl⟩
    rw [← hnQ] at oQ hql ⊢
    have hT2 := hD2.tre
    have hIQ := oQ.ints
    have hcQ := oQ.cap.2.1
    obtain ⟨there, hthere⟩ : ∃ z, z = crB us vs q lo hi := ⟨_, rfl⟩
    obtain ⟨cl, hcl⟩ : ∃ z, z = crV us vs q lo hi := ⟨_, rfl⟩
    obtain ⟨nC, hnC⟩ : ∃ z, z = cl.length := ⟨_, rfl⟩
    obtain ⟨fa2, hfa2⟩ : ∃ z, z = fallB us vs q := ⟨_, rfl⟩
    obtain ⟨fs, hfs⟩ : ∃ z, z = ends us := ⟨_, rfl⟩
    obtain ⟨nF, hnF⟩ : ∃ z, z = fs.length := ⟨_, rfl⟩
    have C1 : Hid (∀ W, Below w8.heap.size w8 W → Calls Try.prog 18 #[.agg #[.slice uP nuP duP, .slice uW nuW duW], .slice aQ nQ cQ, .int .i64 lo, .int .i64 hi] W fun e w' => ∃ v, e = .returned (.tuple #[v, .bool there]) ∧ Own w' W.heap.size v cl ∧ Below W.heap.size W w') := Lib.hid fun W hW => by
      rw [hthere, hcl]; exact impl_Crossings _ _ _ _ _ _ us vs _ _ _ q lo hi W (hT2.below hW) (hIQ.below hW) hcQ (by omega)
    have C2 : Hid (∀ W, Below w8.heap.size w8 W → Calls Try.prog 19 #[.agg #[.slice uP nuP duP, .slice uW nuW duW], .slice aQ nQ cQ, .int .i64 lo, .int .i64 hi] W fun e w' => ∃ v, e = .returned (.tuple #[v, .bool there]) ∧ Own w' W.heap.size v cl ∧ Below W.heap.size W w') := Lib.hid fun W hW => by
      rw [hthere, hcl]; exact spec_Crossings _ _ _ _ _ _ us vs _ _ _ q lo hi W (hT2.below hW) (hIQ.below hW) hcQ (by omega)
    have C3 : Hid (there = true → ∀ W, Below w8.heap.size w8 W → Calls Try.prog 21 #[.agg #[.slice uP nuP duP, .slice uW nuW duW], .slice aQ nQ cQ] W fun e w' => e = .returned (.tuple #[.bool fa2, .bool true]) ∧ Below W.heap.size W w') := Lib.hid fun h1 W hW => by
      have hp := (crB_t (hthere ▸ h1 : crB us vs q lo hi = true)).1
      have hz := impl_IsFalling _ _ _ _ _ _ us vs _ _ _ q W (hT2.below hW) (hIQ.below hW) hcQ (by omega)
      rw [falV_yes hp, hp, ← hfa2] at hz
      exact hz
    have C4 : Hid (there = true → ∀ W, Below w8.heap.size w8 W → Calls Try.prog 22 #[.agg #[.slice uP nuP duP, .slice uW nuW duW]] W fun e w' => ∃ v, e = .returned (.tuple #[v, .bool true]) ∧ Own w' W.heap.size v fs ∧ Below W.heap.size W w') := Lib.hid fun h1 W hW => by
      have hp := (crB_t (hthere ▸ h1 : crB us vs q lo hi = true)).1
      have hz := impl_EndsOf _ _ _ _ _ _ us vs W (hT2.below hW)
      rw [eoV_yes (paysB_t hp).2.1, (paysB_t hp).2.1, ← hfs] at hz
      exact hz
    have CF : Hid (there = true → nC = nF ∧ us.length = nQ ∧ nuW = nQ ∧ lo < hi ∧ ∃ up bw : Nat → Int, up 0 = 0 ∧ bw 0 = 0 ∧
        (∀ k, k < nF → ∃ e : Nat, e < nQ ∧ nth fs k = (e : Int) ∧ up (k + 1) = up k + nth vs e * nth cl k ∧ (lo - nth q e > 0 → bw (k + 1) = bw k + nth vs e * (lo - nth q e)) ∧ (¬ lo - nth q e > 0 → bw (k + 1) = bw k) ∧ (-480 ≤ nth vs e * nth cl k ∧ nth vs e * nth cl k ≤ 480) ∧ (-22000 ≤ nth vs e * (lo - nth q e) ∧ nth vs e * (lo - nth q e) ≤ 22000) ∧ -1100 ≤ lo - nth q e ∧ lo - nth q e ≤ 1100) ∧
        (∀ k, (-11520 ≤ up k ∧ up k ≤ 11520) ∧ -528000 ≤ bw k ∧ bw k ≤ 528000) ∧ (fa2 = true → (hi - lo) * up nF ≤ bw nF)) := Lib.hid fun h1 => by
      have hb : crB us vs q lo hi = true := hthere ▸ h1
      have hTu := (paysB_t (crB_t hb).1)
      obtain ⟨up, bw, h2, h3, h4, h5, h6, h7⟩ := cross_facts hb (by omega) (by omega)
      rw [← hcl, ← hfs, ← hnF] at h4
      rw [← hfs, ← hnF, ← hfa2] at h6
      refine ⟨by rw [hnC, hcl, crV_yes hb, List.length_map, hnF, hfs], by rw [hnQ]; exact hTu.2.2.2.1.symm, by have := hT2.w.1; have := hTu.1.wl; have := hTu.2.2.2.1; omega, h7, up, bw, h2, h3, fun k hk => ?_, h5, h6⟩
      obtain ⟨e, g1, g2⟩ := h4 k hk
      exact ⟨e, by have := hTu.2.2.2.1; omega, g2⟩
    have hnC2 : nC ≤ 24 := by rw [hnC, hcl]; exact crV_len
    have HNC := Lib.hid hnC
    have HNF := Lib.hid hnF
    have HIQ := Lib.hid hIQ
    have HIV := Lib.hid hT2.w
    have HLH := Lib.hid hlh
    clear hthere hcl hnC hfa2 hfs hnF hT2 hIQ hcQ hD2 oQ hql hnQ hlh
    have zz := Pair.new w8 (.slice none 0 0) (.slice none 0 0) 26
    have zz0 := zz.c0
    have zz1 := zz.c1
    have zz2 := zz.f0
    have zz3 := zz.f1
    clear zz
    have nb := below_new w8 (.cells #[.slice uP nuP duP, .slice uW nuW duW] 26)
    have UT_9 := Lib.hid (Pair.new w8 (.slice uP nuP duP) (.slice uW nuW duW) 26)
    have HB1_9 := Lib.hid (HB1_8.out.below nb)
    have PT_9 := Lib.hid (PT_8.out.below nb)
    have XS_9 := Lib.hid (XS_8.out.below nb)
    have XS2_9 := Lib.hid (XS2_8.out.below nb)
    have XM_9 := Lib.hid (XM_8.out.below nb)
    have XM2_9 := Lib.hid (XM2_8.out.below nb)
    have HL0_9 := Lib.hid (HL0_8.out.trans (nb.mono HL0_8.out.size))
    have HBB_9 := Lib.hid (HBB_8.out.trans (nb.mono HBB_8.out.size))
    have HM_9 := Lib.hid (HM_8.out.trans (nb.mono HM_8.out.size))
    clear nb HB1_8 PT_8 XS_8 XS2_8 XM_8 XM2_8 HL0_8 HBB_8 HM_8
    go_wp2_with fail
    clear zz0 zz1 zz2 zz3 
    generalize (w8.alloc (.cells #[.slice uP nuP duP, .slice uW nuW duW] 26)) = w9 at *
    refine (C1.out _ HM_9.out).mono ?_
    rintro e w10 ⟨v10, rfl, o10, b10⟩
    obtain ⟨aC, cC, rfl⟩ := o10.shape
    rw [← HNC.out] at o10 ⊢
    have hcC := o10.cap.2.1
    have HB1_10 := Lib.hid (HB1_9.out.below b10)
    have PT_10 := Lib.hid (PT_9.out.below b10)
    have XS_10 := Lib.hid (XS_9.out.below b10)
    have XS2_10 := Lib.hid (XS2_9.out.below b10)
    have XM_10 := Lib.hid (XM_9.out.below b10)
    have XM2_10 := Lib.hid (XM2_9.out.below b10)
    have UT_10 := Lib.hid (UT_9.out.below b10)
    have HL0_10 := Lib.hid (HL0_9.out.trans (b10.mono HL0_9.out.size))
    have HBB_10 := Lib.hid (HBB_9.out.trans (b10.mono HBB_9.out.size))
    have HM_10 := Lib.hid (HM_9.out.trans (b10.mono HM_9.out.size))
    clear b10 HB1_9 PT_9 XS_9 XS2_9 XM_9 XM2_9 UT_9 HL0_9 HBB_9 HM_9
    have XC_10 := Lib.hid (o10)
    clear o10
    have op0 := UT_10.out.c0
    have op1 := UT_10.out.c1
    have op2 := UT_10.out.lt
    go_wp2_with fail
    clear op0 op1 op2
    refine (C2.out _ HM_10.out).mono ?_
    rintro e w11 ⟨v11, rfl, o11, b11⟩
    obtain ⟨aC2, cC2, rfl⟩ := o11.shape
    rw [← HNC.out] at o11 ⊢
    have hcC2 := o11.cap.2.1
    have HB1_11 := Lib.hid (HB1_10.out.below b11)
    have PT_11 := Lib.hid (PT_10.out.below b11)
    have XS_11 := Lib.hid (XS_10.out.below b11)
    have XS2_11 := Lib.hid (XS2_10.out.below b11)
    have XM_11 := Lib.hid (XM_10.out.below b11)
    have XM2_11 := Lib.hid (XM2_10.out.below b11)
    have UT_11 := Lib.hid (UT_10.out.below b11)
    have XC_11 := Lib.hid (XC_10.out.below b11)
    have HL0_11 := Lib.hid (HL0_10.out.trans (b11.mono HL0_10.out.size))
    have HBB_11 := Lib.hid (HBB_10.out.trans (b11.mono HBB_10.out.size))
    have HM_11 := Lib.hid (HM_10.out.trans (b11.mono HM_10.out.size))
    clear b11 HB1_10 PT_10 XS_10 XS2_10 XM_10 XM2_10 UT_10 XC_10 HL0_10 HBB_10 HM_10
    have XC2_11 := Lib.hid (o11)
    clear o11
    have op0 := UT_11.out.c0
    have op1 := UT_11.out.c1
    have op2 := UT_11.out.lt
    go_wp2_with fail
    clear op0 op1 op2
    as_aux_lemma =>
    refine (laws_vInts _ _ _ _ _ sp _ (by omega) XS_11.out.ints XS2_11.out.ints).mono ?_
    rintro e w12 ⟨rfl, b12⟩
    have HB1_12 := Lib.hid (HB1_11.out.below b12)
    have PT_12 := Lib.hid (PT_11.out.below b12)
    have XS_12 := Lib.hid (XS_11.out.below b12)
    have XS2_12 := Lib.hid (XS2_11.out.below b12)
    have XM_12 := Lib.hid (XM_11.out.below b12)
    have XM2_12 := Lib.hid (XM2_11.out.below b12)
    have UT_12 := Lib.hid (UT_11.out.below b12)
    have XC_12 := Lib.hid (XC_11.out.below b12)
    have XC2_12 := Lib.hid (XC2_11.out.below b12)
    have HL0_12 := Lib.hid (HL0_11.out.trans (b12.mono HL0_11.out.size))
    have HBB_12 := Lib.hid (HBB_11.out.trans (b12.mono HBB_11.out.size))
    have HM_12 := Lib.hid (HM_11.out.trans (b12.mono HM_11.out.size))
    clear b12 HB1_11 PT_11 XS_11 XS2_11 XM_11 XM2_11 UT_11 XC_11 XC2_11 HL0_11 HBB_11 HM_11
    clear XS2_12
    go_wp2_with fail
    refine (laws_vInts _ _ _ _ _ ml _ (by omega) XM_12.out.ints XM2_12.out.ints).mono ?_
    rintro e w13 ⟨rfl, b13⟩
    have HB1_13 := Lib.hid (HB1_12.out.below b13)
    have PT_13 := Lib.hid (PT_12.out.below b13)
    have XS_13 := Lib.hid (XS_12.out.below b13)
    have XM_13 := Lib.hid (XM_12.out.below b13)
    have XM2_13 := Lib.hid (XM2_12.out.below b13)
    have UT_13 := Lib.hid (UT_12.out.below b13)
    have XC_13 := Lib.hid (XC_12.out.below b13)
    have XC2_13 := Lib.hid (XC2_12.out.below b13)
    have HL0_13 := Lib.hid (HL0_12.out.trans (b13.mono HL0_12.out.size))
    have HBB_13 := Lib.hid (HBB_12.out.trans (b13.mono HBB_12.out.size))
    have HM_13 := Lib.hid (HM_12.out.trans (b13.mono HM_12.out.size))
    clear b13 HB1_12 PT_12 XS_12 XM_12 XM2_12 UT_12 XC_12 XC2_12 HL0_12 HBB_12 HM_12
    clear XM2_13
    go_wp2_with fail
    refine (laws_vInts _ _ _ _ _ cl _ (by omega) XC_13.out.ints XC2_13.out.ints).mono ?_
    rintro e w14 ⟨rfl, b14⟩
    have HB1_14 := Lib.hid (HB1_13.out.below b14)
    have PT_14 := Lib.hid (PT_13.out.below b14)
    have XS_14 := Lib.hid (XS_13.out.below b14)
    have XM_14 := Lib.hid (XM_13.out.below b14)
    have UT_14 := Lib.hid (UT_13.out.below b14)
    have XC_14 := Lib.hid (XC_13.out.below b14)
    have XC2_14 := Lib.hid (XC2_13.out.below b14)
    have HL0_14 := Lib.hid (HL0_13.out.trans (b14.mono HL0_13.out.size))
    have HBB_14 := Lib.hid (HBB_13.out.trans (b14.mono HBB_13.out.size))
    have HM_14 := Lib.hid (HM_13.out.trans (b14.mono HM_13.out.size))
    clear b14 HB1_13 PT_13 XS_13 XM_13 UT_13 XC_13 XC2_13 HL0_13 HBB_13 HM_13
    clear XC2_14
    clear E1 E2 E3 E4 C1 C2
    as_aux_lemma =>
    go_upto_if 134 with fail
    go_cut [19] (fun v19 wc => v19 = .bool there ∧ Below w14.heap.size w14 wc)
    case first => as_aux_lemma =>
      have HS_14 := Lib.hid (Below.refl w14.heap.size w14)
      cases there
      · go_wp2_with fail
        go_meet
        case rel => exact ⟨rfl, Below.refl _ _⟩
      · have J3 := Lib.hid (C3.out rfl)
        have J4 := Lib.hid (C4.out rfl)
        obtain ⟨hcf, hul, hwf, hlh2, up, bw, hu0, hb0, hst, hbd, hfin⟩ := CF.out rfl
        clear C3 C4 CF
        subst hcf
        subst hwf
        have Hu0 := Lib.hid hu0
        have Hb0 := Lib.hid hb0
        have Hst := Lib.hid hst
        have Hbd := Lib.hid hbd
        have Hfin := Lib.hid hfin
        clear hu0 hb0 hst hbd hfin hul
        have op0 := UT_14.out.c0
        have op1 := UT_14.out.c1
        have op2 := UT_14.out.lt
        go_wp2_with fail
        clear op0 op1 op2
        refine (J3.out _ HM_14.out).mono ?_
        rintro e w15 ⟨rfl, b15⟩
        have HB1_15 := Lib.hid (HB1_14.out.below b15)
        have PT_15 := Lib.hid (PT_14.out.below b15)
        have XS_15 := Lib.hid (XS_14.out.below b15)
        have XM_15 := Lib.hid (XM_14.out.below b15)
        have UT_15 := Lib.hid (UT_14.out.below b15)
        have XC_15 := Lib.hid (XC_14.out.below b15)
        have HL0_15 := Lib.hid (HL0_14.out.trans (b15.mono HL0_14.out.size))
        have HBB_15 := Lib.hid (HBB_14.out.trans (b15.mono HBB_14.out.size))
        have HM_15 := Lib.hid (HM_14.out.trans (b15.mono HM_14.out.size))
        have HS_15 := Lib.hid (HS_14.out.trans (b15.mono HS_14.out.size))
        clear b15 HB1_14 PT_14 XS_14 XM_14 UT_14 XC_14 HL0_14 HBB_14 HM_14 HS_14
        have op0 := UT_15.out.c0
        have op1 := UT_15.out.c1
        have op2 := UT_15.out.lt
        go_wp2_with fail
        clear op0 op1 op2
        refine (J4.out _ HM_15.out).mono ?_
        rintro e w16 ⟨v16, rfl, o16, b16⟩
        obtain ⟨aF, cF, rfl⟩ := o16.shape
        rw [← HNF.out] at o16 ⊢
        have HB1_16 := Lib.hid (HB1_15.out.below b16)
        have PT_16 := Lib.hid (PT_15.out.below b16)
        have XS_16 := Lib.hid (XS_15.out.below b16)
        have XM_16 := Lib.hid (XM_15.out.below b16)
        have UT_16 := Lib.hid (UT_15.out.below b16)
        have XC_16 := Lib.hid (XC_15.out.below b16)
        have HL0_16 := Lib.hid (HL0_15.out.trans (b16.mono HL0_15.out.size))
        have HBB_16 := Lib.hid (HBB_15.out.trans (b16.mono HBB_15.out.size))
        have HM_16 := Lib.hid (HM_15.out.trans (b16.mono HM_15.out.size))
        have HS_16 := Lib.hid (HS_15.out.trans (b16.mono HS_15.out.size))
        clear b16 HB1_15 PT_15 XS_15 XM_15 UT_15 XC_15 HL0_15 HBB_15 HM_15 HS_15
        have XF_16 := Lib.hid (o16)
        clear o16
        go_wp2_with fail
        have QF := XF_16.out.ints
        have QC := XC_16.out.ints
        have QQ := HIQ.out.below HM_16.out
        have QV := HIV.out.below HM_16.out
        have QU := UT_16.out
        have QS := HS_16.out
        obtain ⟨wo, hwo⟩ : ∃ z, z = w16 := ⟨_, rfl⟩
        rw [← hwo] at QF QC QQ QV QU QS ⊢
        have QF := Lib.hid QF
        have QC := Lib.hid QC
        have QQ := Lib.hid QQ
        have QV := Lib.hid QV
        have QU := Lib.hid QU
        have QS := Lib.hid QS
        clear hwo
        go_loopw [26, 27, 28] (fun v26 v27 v28 wr => ∃ k m : Nat, k ≤ nC ∧ v28 = .int .i64 (k : Int) ∧ v26 = .int .i64 (up k) ∧ v27 = .int .i64 (bw k) ∧ wr = wo.drewN m) (fun _ _ v28 _ => nC - (intOf v28).toNat)
        case atStart => exact ⟨0, 0, Nat.zero_le _, rfl, by rw [Hu0.out], by rw [Hb0.out], rfl⟩
        case round =>
          obtain ⟨k, m, hk, rfl, rfl, rfl, hwr⟩ := hrel
          have hbr : Below wo.heap.size wo wr := by rw [hwr]; exact below_drewN (Below.refl _ _) m
          have Hwr := Lib.hid hwr
          clear hwr
          by_cases hlt : (k : Int) < nC
          · obtain ⟨bF, oF, rfl, hcF⟩ := QF.out.at (i := k) hbr (by omega)
            obtain ⟨bC, oC, rfl, hcC⟩ := QC.out.at (i := k) hbr (by omega)
            obtain ⟨e, he, hfe, hs1, hs2, hs3, hm1, hm2, hm3⟩ := Hst.out k (by omega)
            rw [hfe] at hcF
            obtain ⟨bV, oV, rfl, hcV⟩ := QV.out.at (i := e) hbr (by omega)
            obtain ⟨bQ, oQ, rfl, hcQ⟩ := QQ.out.at (i := e) hbr (by omega)
            have hPb := QU.out.below hbr
            have x0 := hPb.c0
            have x1 := hPb.c1
            have hbk := Hbd.out k
            have Hs1 := Lib.hid hs1
            have Hs2 := Lib.hid hs2
            have Hs3 := Lib.hid hs3
            clear hs1 hs2 hs3 hfe hPb
            generalize nth vs e = we at *
            generalize nth q e = qe at *
            generalize nth cl k = ce at *
            generalize up k = uk at *
            generalize bw k = bk at *
            have k1 : IntKind.i64.wrap (we * ce) = we * ce := IntWalk.i64_in _ (by omega)
            have k2 : IntKind.i64.wrap (uk + we * ce) = uk + we * ce := IntWalk.i64_in _ (by omega)
            have k3 : IntKind.i64.wrap (lo - qe) = lo - qe := IntWalk.i64_in _ (by omega)
            have k4 : IntKind.i64.wrap (we * (lo - qe)) = we * (lo - qe) := IntWalk.i64_in _ (by omega)
            have k5 : IntKind.i64.wrap (bk + we * (lo - qe)) = bk + we * (lo - qe) := IntWalk.i64_in _ (by omega)
            have k6 : (0 : Int) ≤ (k : Int) := by omega
            have k7 : (0 : Int) ≤ (e : Int) := by omega
            have k8 : (e : Int) < (nuW : Int) := by omega
            clear hm1 hm2 hm3 hbk
            by_cases hmi : lo - qe > 0
            · have hs2 := Lib.hid (Hs2.out (by omega))
              go_wp2_with fail
              go_quiet (fail)
              go_wp2_with fail
              go_quiet (fail)
              go_wp2_with fail
              go_roundw
              case rel => exact ⟨k + 1, _, by omega, by go_num, by rw [Hs1.out], by rw [hs2.out], by first | rw [Hwr.out, World.drewN_drewN] | rw [Hwr.out, World.drewN_drewN, World.drewN_drewN]⟩
              case measure => simp [intOf] <;> omega
            · have hs3 := Lib.hid (Hs3.out (by omega))
              go_wp2_with fail
              go_quiet (fail)
              go_wp2_with fail
              go_roundw
              case rel => exact ⟨k + 1, _, by omega, by go_num, by rw [Hs1.out], by rw [hs3.out], by first | rw [Hwr.out, World.drewN_drewN] | rw [Hwr.out, World.drewN_drewN, World.drewN_drewN]⟩
              case measure => simp [intOf] <;> omega
          · obtain rfl : k = nC := by omega
            have hbk := Hbd.out k
            have hfin := Hfin.out
            have hlh := HLH.out
            have HBZ := Lib.hid (QS.out.trans (hbr.mono QS.out.size))
            generalize up k = uk at *
            generalize bw k = bk at *
            clear Hst Hbd Hfin Hu0 Hb0
            have k1 : IntKind.i64.wrap (hi - lo) = hi - lo := IntWalk.i64_in _ (by omega)
            cases fa2
            · clear hfin
              go_wp2_with fail
              go_meet
              case rel => exact ⟨rfl, HBZ.out⟩
            · have hf := hfin rfl
              have hm := mul_bd (a := hi - lo) (b := uk) (A := 26) (B := 11520) (by omega) (by omega) (by omega) (by omega)
              have k2 : IntKind.i64.wrap ((hi - lo) * uk) = (hi - lo) * uk := IntWalk.i64_in _ (by omega)
              have k3 : ¬ (hi - lo) * uk > bk := by omega
              clear hfin hf hm hbk hlh
              go_wp2_with fail
              go_meet
              case rel => exact ⟨rfl, HBZ.out⟩
    case rest =>
    obtain ⟨rfl, b15⟩ := hcut
    obtain ⟨w15, hwc⟩ : ∃ z, z = wc := ⟨_, rfl⟩
    rw [← hwc] at b15 ⊢
    clear hwc wc
    have HB1_15 := Lib.hid (HB1_14.out.below b15)
    have PT_15 := Lib.hid (PT_14.out.below b15)
    have XS_15 := Lib.hid (XS_14.out.below b15)
    have XM_15 := Lib.hid (XM_14.out.below b15)
    have UT_15 := Lib.hid (UT_14.out.below b15)
    have XC_15 := Lib.hid (XC_14.out.below b15)
    have HL0_15 := Lib.hid (HL0_14.out.trans (b15.mono HL0_14.out.size))
    have HBB_15 := Lib.hid (HBB_14.out.trans (b15.mono HBB_14.out.size))
    have HM_15 := Lib.hid (HM_14.out.trans (b15.mono HM_14.out.size))
    clear b15 HB1_14 PT_14 XS_14 XM_14 UT_14 XC_14 HL0_14 HBB_14 HM_14
    clear UT_15
    clear HM_15
    clear XC_15
    clear C3 C4 CF
    as_aux_lemma =>
    go_upto_if 205 with fail
    cases ok
    · go_wp2_with fail
      go_ret
      exact ⟨rfl, HBB_15.out⟩
    · as_aux_lemma =>
      have J5 := Lib.hid (E5.out rfl)
      have J6 := Lib.hid (E6.out rfl)
      have J7 := Lib.hid (E7.out rfl)
      clear E5 E6 E7
      have hpy := HOK.out.symm
      obtain ⟨hTr, -, -, hll, hlb⟩ := paysB_t hpy
      obtain ⟨hh, al, hh0, ha0, hst, hbd, hfin⟩ := hit_facts (lev := lev) hpy
      rw [← HML.out, ← HES.out, ← HNE.out] at hst
      rw [← HES.out, ← HNE.out, ← HFL.out] at hfin
      have hlen : ps.length = nL := by rw [HNL.out]; exact hll.symm
      have hnWL : nL = nW := by have := HIW.out.1; have := hTr.wl; omega
      have hnME : nE = nM := by rw [HNM.out, HML.out, hiV_yes hpy, List.length_map, HNE.out, HES.out]
      have hn1 : 1 ≤ nL ∧ nL ≤ 24 := by have := hTr.n1; have := hTr.n24; omega
      rw [hlen] at hst hfin
      have Hnn : Hid (∀ k x, nnB l k = true → x < k → 0 ≤ nth l x) := Lib.hid fun k x h0 hx => nn_all h0 x hx
      have Hns : Hid (∀ k, nnB l (k + 1) = (nnB l k && decide (0 ≤ nth l k))) := Lib.hid (nnB_succ l)
      have Hn0 : Hid (nnB l 0 = true) := Lib.hid rfl
      have Hl0 := Lib.hid (hlb 0)
      have Hh0 := Lib.hid hh0
      have Ha0 := Lib.hid ha0
      have Hst := Lib.hid hst
      have Hbd := Lib.hid hbd
      have Hfin := Lib.hid hfin
      clear hpy hTr hll hlb hlen hh0 ha0 hst hbd hfin HOK HML HFL HES
      subst hnWL
      subst hnME
      have op0 := PT_15.out.c0
      have op1 := PT_15.out.c1
      have op2 := PT_15.out.lt
      go_wp2_with fail
      clear op0 op1 op2
      refine (J5.out _ _ _ _ HL0_15.out XS_15.out.ints hcS hnS2).mono ?_
      rintro e w16 ⟨rfl, b16⟩
      have HB1_16 := Lib.hid (HB1_15.out.below b16)
      have PT_16 := Lib.hid (PT_15.out.below b16)
      have XS_16 := Lib.hid (XS_15.out.below b16)
      have XM_16 := Lib.hid (XM_15.out.below b16)
      have HL0_16 := Lib.hid (HL0_15.out.trans (b16.mono HL0_15.out.size))
      have HBB_16 := Lib.hid (HBB_15.out.trans (b16.mono HBB_15.out.size))
      clear b16 HB1_15 PT_15 XS_15 XM_15 HL0_15 HBB_15
      have op0 := PT_16.out.c0
      have op1 := PT_16.out.c1
      have op2 := PT_16.out.lt
      go_wp2_with fail
      clear op0 op1 op2
      refine (J6.out _ HL0_16.out).mono ?_
      rintro e w17 ⟨rfl, b17⟩
      have HB1_17 := Lib.hid (HB1_16.out.below b17)
      have PT_17 := Lib.hid (PT_16.out.below b17)
      have XS_17 := Lib.hid (XS_16.out.below b17)
      have XM_17 := Lib.hid (XM_16.out.below b17)
      have HL0_17 := Lib.hid (HL0_16.out.trans (b17.mono HL0_16.out.size))
      have HBB_17 := Lib.hid (HBB_16.out.trans (b17.mono HBB_16.out.size))
      clear b17 HB1_16 PT_16 XS_16 XM_16 HL0_16 HBB_16
      have op0 := PT_17.out.c0
      have op1 := PT_17.out.c1
      have op2 := PT_17.out.lt
      go_wp2_with fail
      clear op0 op1 op2
      refine (J7.out _ HL0_17.out).mono ?_
      rintro e w18 ⟨v18, rfl, o18, b18⟩
      obtain ⟨aE, cE, rfl⟩ := o18.shape
      rw [← HNE.out] at o18 ⊢
      have HB1_18 := Lib.hid (HB1_17.out.below b18)
      have PT_18 := Lib.hid (PT_17.out.below b18)
      have XS_18 := Lib.hid (XS_17.out.below b18)
      have XM_18 := Lib.hid (XM_17.out.below b18)
      have HL0_18 := Lib.hid (HL0_17.out.trans (b18.mono HL0_17.out.size))
      have HBB_18 := Lib.hid (HBB_17.out.trans (b18.mono HBB_17.out.size))
      clear b18 HB1_17 PT_17 XS_17 XM_17 HL0_17 HBB_17
      have XE_18 := Lib.hid (o18)
      clear o18
      go_wp2_with fail
      have QE := XE_18.out.ints
      have QM := XM_18.out.ints
      have QL := HIL.out.below HL0_18.out
      have QW := HIW.out.below HL0_18.out
      have QT := PT_18.out
      have QB := HBB_18.out
      obtain ⟨wo, hwo⟩ : ∃ z, z = w18 := ⟨_, rfl⟩
      rw [← hwo] at QE QM QL QW QT QB ⊢
      have QE := Lib.hid QE
      have QM := Lib.hid QM
      have QL := Lib.hid QL
      have QW := Lib.hid QW
      have QT := Lib.hid QT
      have QB := Lib.hid QB
      clear hwo
      as_aux_lemma =>
      go_loopw [32, 36] (fun v32 v36 wr => ∃ k m : Nat, k ≤ nL ∧ v36 = .int .i64 (k : Int) ∧ v32 = .bool (fall && nnB l k) ∧ wr = wo.drewN m) (fun _ v36 _ => nL - (intOf v36).toNat)
      case atStart => exact ⟨0, 0, Nat.zero_le _, rfl, by rw [Hn0.out, Bool.and_true], rfl⟩
      case round =>
        obtain ⟨k, m, hk, rfl, rfl, hwr⟩ := hrel
        have hbr : Below wo.heap.size wo wr := by rw [hwr]; exact below_drewN (Below.refl _ _) m
        have Hwr := Lib.hid hwr
        clear hwr
        by_cases hlt : (k : Int) < nL
        · obtain ⟨bL, oL, rfl, hcL⟩ := QL.out.at (i := k) hbr (by omega)
          have hns := Hns.out k
          have k1 : (0 : Int) ≤ (k : Int) := by omega
          generalize nth l k = q at *
          obtain ⟨bb, hbb⟩ : ∃ z, z = (fall && nnB l k) := ⟨_, rfl⟩
          have hnx : (fall && nnB l (k + 1)) = (bb && decide (0 ≤ q)) := by rw [hns, hbb, Bool.and_assoc]
          rw [← hbb]
          have Hnx := Lib.hid hnx
          clear hbb hns hnx
          cases bb
          · go_wp2_with fail
            go_roundw
            case rel => exact ⟨k + 1, m, by omega, by go_num, by rw [Hnx.out]; rfl, Hwr.out⟩
            case measure => simp [intOf] <;> omega
          · by_cases hq : q ≥ 0
            · go_wp2_with fail
              go_roundw
              case rel => exact ⟨k + 1, m, by omega, by go_num, by rw [Hnx.out, decide_eq_true hq]; rfl, Hwr.out⟩
              case measure => simp [intOf] <;> omega
            · go_wp2_with fail
              go_roundw
              case rel => exact ⟨k + 1, m, by omega, by go_num, by rw [Hnx.out, decide_eq_false hq]; rfl, Hwr.out⟩
              case measure => simp [intOf] <;> omega
        · obtain rfl : k = nL := by omega
          have QT2 := Lib.hid (QT.out.below hbr)
          have QW2 := Lib.hid (QW.out.below hbr)
          have QL2 := Lib.hid (QL.out.below hbr)
          have QE2 := Lib.hid (QE.out.below hbr)
          have QM2 := Lib.hid (QM.out.below hbr)
          have QB2 := Lib.hid (QB.out.trans (hbr.mono QB.out.size))
          obtain ⟨wp, hwp⟩ : ∃ z, z = wr := ⟨_, rfl⟩
          rw [← hwp] at QT2 QW2 QL2 QE2 QM2 QB2 ⊢
          have Hfin2 : Hid ((fall && nnB l k) = true → 1 ≤ lev → lev * hh nE ≤ nth l 0 * al nE) := Lib.hid fun h0 h1 => by
            rw [Bool.and_eq_true] at h0
            exact Hfin.out h0.1 (fun x hx => Hnn.out k x h0.2 hx) h1
          generalize (fall && nnB l k) = fz at *
          clear hwp Hwr hbr QT QW QL QE QM QB Hfin Hnn Hns Hn0
          go_wp2_with fail
          go_loopw [37, 38, 39] (fun v37 v38 v39 wr => ∃ j m : Nat, j ≤ nE ∧ v39 = .int .i64 (j : Int) ∧ v37 = .int .i64 (hh j) ∧ v38 = .int .i64 (al j) ∧ wr = wp.drewN m) (fun _ _ v39 _ => nE - (intOf v39).toNat)
          case atStart => exact ⟨0, 0, Nat.zero_le _, rfl, by rw [Hh0.out], by rw [Ha0.out], rfl⟩
          case round =>
            obtain ⟨j, m, hj, rfl, rfl, rfl, hwr⟩ := hrel
            have hbr : Below wp.heap.size wp wr := by rw [hwr]; exact below_drewN (Below.refl _ _) m
            have Hwr := Lib.hid hwr
            clear hwr
            by_cases hlt2 : (j : Int) < nE
            · obtain ⟨bE, oE, rfl, hcE⟩ := QE2.out.at (i := j) hbr (by omega)
              obtain ⟨bM, oM, rfl, hcM⟩ := QM2.out.at (i := j) hbr (by omega)
              obtain ⟨e, he, hee, hs1, hs2, hs3, hw0, hw1⟩ := Hst.out j (by omega)
              rw [hee] at hcE
              obtain ⟨bW, oW, rfl, hcW⟩ := QW2.out.at (i := e) hbr (by omega)
              have hPb := QT2.out.below hbr
              have x0 := hPb.c0
              have x1 := hPb.c1
              have hbk := Hbd.out j
              have Hs1 := Lib.hid hs1
              have Hs2 := Lib.hid hs2
              have Hs3 := Lib.hid hs3
              clear hs1 hs2 hs3 hee hPb
              generalize nth ws e = we at *
              generalize nth ml j = me at *
              generalize hh j = hj' at *
              generalize al j = aj at *
              have k1 : IntKind.i64.wrap (aj + we) = aj + we := IntWalk.i64_in _ (by omega)
              have k2 : IntKind.i64.wrap (hj' + we) = hj' + we := IntWalk.i64_in _ (by omega)
              have k6 : (0 : Int) ≤ (j : Int) := by omega
              have k7 : (0 : Int) ≤ (e : Int) := by omega
              have k8 : (e : Int) < (k : Int) := by omega
              clear hbk hw0 hw1
              by_cases hmi : me ≥ lev
              · have hs2 := Lib.hid (Hs2.out (by omega))
                go_wp2_with fail
                go_quiet (fail)
                go_wp2_with fail
                go_quiet (fail)
                go_wp2_with fail
                go_roundw
                case rel => exact ⟨j + 1, _, by omega, by go_num, by rw [hs2.out], by rw [Hs1.out], by first | rw [Hwr.out, World.drewN_drewN] | rw [Hwr.out, World.drewN_drewN, World.drewN_drewN]⟩
                case measure => simp [intOf] <;> omega
              · have hs3 := Lib.hid (Hs3.out (by omega))
                go_wp2_with fail
                go_quiet (fail)
                go_wp2_with fail
                go_roundw
                case rel => exact ⟨j + 1, _, by omega, by go_num, by rw [hs3.out], by rw [Hs1.out], by first | rw [Hwr.out, World.drewN_drewN] | rw [Hwr.out, World.drewN_drewN, World.drewN_drewN]⟩
                case measure => simp [intOf] <;> omega
            · obtain rfl : j = nE := by omega
              obtain ⟨bL, oL, rfl, hcL⟩ := QL2.out.at (i := 0) hbr (by omega)
              rw [Nat.add_zero] at hcL
              have hbk := Hbd.out j
              have hlv := HLEV.out
              have hl0 := Hl0.out
              have hfin := Hfin2.out
              have HBZ := Lib.hid (QB2.out.trans (hbr.mono QB2.out.size))
              generalize hh j = hj' at *
              generalize al j = aj at *
              generalize nth l 0 = l0 at *
              clear Hst Hbd Hfin2 Hh0 Ha0 Hl0
              cases fz
              · clear hfin
                go_wp2_with fail
                go_ret
                exact ⟨rfl, HBZ.out⟩
              · by_cases hl1 : lev < 1
                · clear hfin
                  go_wp2_with fail
                  go_ret
                  exact ⟨rfl, HBZ.out⟩
                · have hf := hfin rfl (by omega)
                  have m1 := mul_bd (a := lev) (b := hj') (A := 21) (B := 480) (by omega) (by omega) (by omega) (by omega)
                  have m2 := mul_abs2 (M := 999) (N := 480) (a := l0) (b := aj) (by omega) (by have := hbk.2; omega)
                  have k1 : IntKind.i64.wrap (lev * hj') = lev * hj' := IntWalk.i64_in _ (by omega)
                  have k2 : IntKind.i64.wrap (l0 * aj) = l0 * aj := IntWalk.i64_in _ (by omega)
                  have k3 : decide (lev * hj' ≤ l0 * aj) = true := decide_eq_true hf
                  clear hfin m1 m2 hbk hlv hl0
                  go_wp2_with fail
                  go_ret
                  exact ⟨by first | rfl | simp [k3] | simp, HBZ.out⟩
end Go.Proofs.Ytnbomleieianoaa.fnEntries
