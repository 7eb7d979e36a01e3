/- Contracts and plain laws for the statement FnStakes, part 24. No conditions but those stated in each. -/
import Derived.Test.YtnbomleieianoaaBnFnStakes17
import Derived.Test.YtnbomleieianoaaBnFnStakes19
import Derived.Test.YtnbomleieianoaaBnFnStakes6
import Derived.Test.YtnbomleieianoaaBnFnStakes10
import Derived.Test.YtnbomleieianoaaBnFnStakes22
import Derived.Test.YtnbomleieianoaaBnFnStakes23
import Derived.Deep.DeepCutAuto
/- The walk through the law FnStakes: it returns true. No conditions but that the argument can be read. -/
namespace Go.Proofs.Ytnbomleieianoaa.fnStakes
open Go.RowKit
set_option linter.unusedVariables false
def lowB (st : List Int) (k : Nat) : Bool := (List.range k).all fun i => decide (0 ≤ nth st i)
theorem lowB_succ (st : List Int) (k : Nat) : lowB st (k + 1) = (lowB st k && decide (0 ≤ nth st k)) := by
  unfold lowB; rw [List.range_succ, List.all_append]; simp
theorem low_all {st : List Int} (h : lowB st st.length = true) (x : Nat) : 0 ≤ nth st x := by
  by_cases hx : x < st.length
  · simpa using all_get h hx
  · rw [nth_ge (by omega)]; omega
def totS (ps ws l st : List Int) (k : Nat) : Int := sumR (fun x => nth ws x * gn ps l st x) k
theorem tot_bd {ps ws l st : List Int} (h : sgB ps ws l st = true) : ∀ k, k ≤ ps.length → -(19180800 * (k : Int)) ≤ totS ps ws l st k ∧ totS ps ws l st k ≤ 19180800 * (k : Int)
  | 0, _ => by simp [totS, sumR_zero]
  | k + 1, hk => by
    have ih := tot_bd h k (by omega)
    obtain ⟨h1, h2, h3⟩ := sgB_t h
    obtain ⟨hT, _, _, _, hl⟩ := paysB_t h1
    have hg := gn_bd hT.toPa hl h3 k (by omega)
    have hn := hT.n24
    have hm := mul_abs (B := 959040) (U := 20) (x := gn ps l st k) (u := nth ws k) (by omega) (hT.w0 k) (by omega)
    rw [Int.mul_comm (gn ps l st k)] at hm
    unfold totS at ih ⊢
    rw [sumR_succ]
    omega
theorem tot_term {ps ws l st : List Int} (h : sgB ps ws l st = true) {k : Nat} (hk : k < ps.length) : -19180800 ≤ nth ws k * gn ps l st k ∧ nth ws k * gn ps l st k ≤ 19180800 := by
  obtain ⟨h1, h2, h3⟩ := sgB_t h
  obtain ⟨hT, _, _, _, hl⟩ := paysB_t h1
  have hg := gn_bd hT.toPa hl h3 k (by omega)
  have hn := hT.n24
  have hm := mul_abs (B := 959040) (U := 20) (x := gn ps l st k) (u := nth ws k) (by omega) (hT.w0 k) (by omega)
  rw [Int.mul_comm (gn ps l st k)] at hm
  omega
set_option maxRecDepth 100000 in
set_option maxHeartbeats 4000000 in
theorem walk (a : Option Addr) (n c : Nat) (w : World) (hm : n ≤ maxLen) (hc : n ≤ c ∧ c ≤ maxLen ∧ (a = none → c = 0)) (h : Bytes0 w a n) :
    Calls Try.prog 7 #[.slice a n c] w fun e w' => e = .returned (.bool true) ∧ Below w.heap.size w w' := by
  clear hm
  by_cases hbig : (n : Int) > 65536
  · go_enter Try.func7, Try.ntmps7
    go_wp2_with (go_at_call 10; refine (laws_vBig _ _ _ _).mono ?_; rintro e w' ⟨rfl, rfl⟩; rw [decide_eq_true hbig])
    go_ret
    exact ⟨rfl, Below.refl _ _⟩
  · have HB := Lib.hid (h.few (by omega))
    have Hc := Lib.hid hc
    have Hnb := Lib.hid hbig
    clear h hc
    go_enter Try.func7, Try.ntmps7
    go_wp2_with (go_at_call 10; refine (laws_vBig _ _ _ _).mono ?_; rintro e w' ⟨rfl, rfl⟩; rw [decide_eq_false hbig])
    refine (spec_DrawStakeGains _ _ _ _ HB.out).mono ?_
    rintro e w1 ⟨⟨v, rfl, aP, nP, cP, aW, nW, cW, ps, ws, vL, vS, rfl, hD, oL, oS⟩, b1⟩
    obtain ⟨l, oL, hpl⟩ := oL
    obtain ⟨aL, cL, rfl⟩ := oL.shape
    obtain ⟨nL, hnL⟩ : ∃ z, z = l.length := ⟨_, rfl⟩
    rw [← hnL] at oL hpl ⊢
    obtain ⟨st, oS, hsl⟩ := oS
    obtain ⟨aS, cS, rfl⟩ := oS.shape
    obtain ⟨nS, hnS⟩ : ∃ z, z = st.length := ⟨_, rfl⟩
    rw [← hnS] at oS hsl ⊢
    have HBB := Lib.hid b1
    have HB1 := Lib.hid (HB.out.below b1)
    have hT := hD.tre
    have hIL := oL.ints
    have hcL := oL.cap.2.1
    have hIS := oS.ints
    have hcS := oS.cap.2.1
    obtain ⟨ok, hok⟩ : ∃ z, z = sgB ps ws l st := ⟨_, rfl⟩
    obtain ⟨gl, hgl⟩ : ∃ z, z = sgV ps ws l st := ⟨_, rfl⟩
    obtain ⟨nG, hnG⟩ : ∃ z, z = gl.length := ⟨_, rfl⟩
    obtain ⟨fair, hfair⟩ : ∃ z, z = balB ps ws l := ⟨_, rfl⟩
    obtain ⟨fall, hfall⟩ : ∃ z, z = fallB ps ws l := ⟨_, rfl⟩
    have E1 : Hid (∀ W, Below w1.heap.size w1 W → Calls Try.prog 60 #[.agg #[.slice aP nP cP, .slice aW nW cW], .slice aL nL cL, .slice aS nS cS] W fun e w' => ∃ v, e = .returned (.tuple #[v, .bool ok]) ∧ Own w' W.heap.size v gl ∧ Below W.heap.size W w') := Lib.hid fun W hW => by
      rw [hok, hgl]; exact impl_StakeGains _ _ _ _ _ _ ps ws _ _ _ l _ _ _ st W (hT.below hW) (hIL.below hW) hcL (by omega) (hIS.below hW) hcS (by omega)
    have E2 : Hid (∀ W, Below w1.heap.size w1 W → Calls Try.prog 61 #[.agg #[.slice aP nP cP, .slice aW nW cW], .slice aL nL cL, .slice aS nS cS] W fun e w' => ∃ v, e = .returned (.tuple #[v, .bool ok]) ∧ Own w' W.heap.size v gl ∧ Below W.heap.size W w') := Lib.hid fun W hW => by
      rw [hok, hgl]; exact spec_StakeGains _ _ _ _ _ _ ps ws _ _ _ l _ _ _ st W (hT.below hW) (hIL.below hW) hcL (by omega) (hIS.below hW) hcS (by omega)
    have E3 : Hid (ok = true → ∀ W, Below w1.heap.size w1 W → Calls Try.prog 32 #[.agg #[.slice aP nP cP, .slice aW nW cW], .slice aL nL cL] W fun e w' => e = .returned (.tuple #[.bool fair, .bool true]) ∧ Below W.heap.size W w') := Lib.hid fun h1 W hW => by
      have hp := (sgB_t (hok ▸ h1 : sgB ps ws l st = true)).1
      have hz := impl_IsFairProcess _ _ _ _ _ _ ps ws _ _ _ l W (hT.below hW) (hIL.below hW) hcL (by omega)
      rw [balV_yes hp, hp, ← hfair] at hz
      exact hz
    have E4 : Hid (ok = true → ∀ W, Below w1.heap.size w1 W → Calls Try.prog 21 #[.agg #[.slice aP nP cP, .slice aW nW cW], .slice aL nL cL] W fun e w' => e = .returned (.tuple #[.bool fall, .bool true]) ∧ Below W.heap.size W w') := Lib.hid fun h1 W hW => by
      have hp := (sgB_t (hok ▸ h1 : sgB ps ws l st = true)).1
      have hz := impl_IsFalling _ _ _ _ _ _ ps ws _ _ _ l W (hT.below hW) (hIL.below hW) hcL (by omega)
      rw [falV_yes hp, hp, ← hfall] at hz
      exact hz
    have hnG2 : nG ≤ 24 := by rw [hnG, hgl]; exact sgV_len
    have HNG := Lib.hid hnG
    have HNS := Lib.hid hnS
    have HNL := Lib.hid hnL
    have HL0 := Lib.hid (Below.refl w1.heap.size w1)
    have HIS := Lib.hid hIS
    have HIW := Lib.hid hT.w
    have HGL := Lib.hid hgl
    have HOK := Lib.hid hok
    have HFA := Lib.hid hfair
    have HFL := Lib.hid hfall
    clear hok hgl hfair hfall hT hIL hIS hcL hcS hD b1 hsl hnL hnS oL oS hnG hpl
    have zz := Pair.new w1 (.slice none 0 0) (.slice none 0 0) 26
    have zz0 := zz.c0
    have zz1 := zz.c1
    have zz2 := zz.f0
    have zz3 := zz.f1
    clear zz
    have nb := below_new w1 (.cells #[.slice aP nP cP, .slice aW nW cW] 26)
    have PT_2 := Lib.hid (Pair.new w1 (.slice aP nP cP) (.slice aW nW cW) 26)
    have HB1_2 := Lib.hid (HB1.out.below nb)
    have HL0_2 := Lib.hid (HL0.out.trans (nb.mono HL0.out.size))
    have HBB_2 := Lib.hid (HBB.out.trans (nb.mono HBB.out.size))
    clear nb HB1 HL0 HBB
    go_wp2_with fail
    clear zz0 zz1 zz2 zz3 
    generalize (w1.alloc (.cells #[.slice aP nP cP, .slice aW nW cW] 26)) = w2 at *
    refine (E1.out _ HL0_2.out).mono ?_
    rintro e w3 ⟨v3, rfl, o3, b3⟩
    obtain ⟨aG, cG, rfl⟩ := o3.shape
    rw [← HNG.out] at o3 ⊢
    have HB1_3 := Lib.hid (HB1_2.out.below b3)
    have PT_3 := Lib.hid (PT_2.out.below b3)
    have HL0_3 := Lib.hid (HL0_2.out.trans (b3.mono HL0_2.out.size))
    have HBB_3 := Lib.hid (HBB_2.out.trans (b3.mono HBB_2.out.size))
    clear b3 HB1_2 PT_2 HL0_2 HBB_2
    have XG_3 := Lib.hid (o3)
    clear o3
    have op0 := PT_3.out.c0
    have op1 := PT_3.out.c1
    have op2 := PT_3.out.lt
    go_wp2_with fail
    clear op0 op1 op2
    refine (E2.out _ HL0_3.out).mono ?_
    rintro e w4 ⟨v4, rfl, o4, b4⟩
    obtain ⟨aH, cH, rfl⟩ := o4.shape
    rw [← HNG.out] at o4 ⊢
    have HB1_4 := Lib.hid (HB1_3.out.below b4)
    have PT_4 := Lib.hid (PT_3.out.below b4)
    have XG_4 := Lib.hid (XG_3.out.below b4)
    have HL0_4 := Lib.hid (HL0_3.out.trans (b4.mono HL0_3.out.size))
    have HBB_4 := Lib.hid (HBB_3.out.trans (b4.mono HBB_3.out.size))
    clear b4 HB1_3 PT_3 XG_3 HL0_3 HBB_3
    have XH_4 := Lib.hid (o4)
    clear o4
    have op0 := PT_4.out.c0
    have op1 := PT_4.out.c1
    have op2 := PT_4.out.lt
    go_wp2_with fail
    clear op0 op1 op2
    refine (laws_vCut _ _ _ _ (by have := Hnb.out; omega) Hc.out.1 Hc.out.2.2 HB1_4.out).mono ?_
    rintro e w5 ⟨v5, rfl, ⟨a20, n20, c20, rfl, hy20⟩, b5⟩
    have HY20 := Lib.hid hy20
    clear hy20
    have HB1_5 := Lib.hid (HB1_4.out.below b5)
    have PT_5 := Lib.hid (PT_4.out.below b5)
    have XG_5 := Lib.hid (XG_4.out.below b5)
    have XH_5 := Lib.hid (XH_4.out.below b5)
    have HL0_5 := Lib.hid (HL0_4.out.trans (b5.mono HL0_4.out.size))
    have HBB_5 := Lib.hid (HBB_4.out.trans (b5.mono HBB_4.out.size))
    clear b5 HB1_4 PT_4 XG_4 XH_4 HL0_4 HBB_4
    go_wp2_with fail
    refine (spec_DrawStopAt _ _ _ _ HY20.out).mono ?_
    rintro e w6 ⟨⟨v6, rfl, uP, nuP, duP, uW, nuW, duW, us, vs, vR, xe, rfl, hD2, oR, -⟩, b6⟩
    have HB1_6 := Lib.hid (HB1_5.out.below b6)
    have PT_6 := Lib.hid (PT_5.out.below b6)
    have XG_6 := Lib.hid (XG_5.out.below b6)
    have XH_6 := Lib.hid (XH_5.out.below b6)
    have HL0_6 := Lib.hid (HL0_5.out.trans (b6.mono HL0_5.out.size))
    have HBB_6 := Lib.hid (HBB_5.out.trans (b6.mono HBB_5.out.size))
    clear b6 HB1_5 PT_5 XG_5 XH_5 HL0_5 HBB_5
    have HM_6 := Lib.hid (Below.refl w6.heap.size w6)
    obtain ⟨rl, oR, hrl⟩ := oR
    obtain ⟨aR, cR, rfl⟩ := oR.shape
    obtain ⟨nR, hnR⟩ : ∃ z, z = rl.length := ⟨_, rfl⟩
    rw [← hnR] at oR hrl ⊢
    have hT2 := hD2.tre
    have hIR := oR.ints
    have hcR := oR.cap.2.1
    obtain ⟨at1, hat⟩ : ∃ z, z = saV us vs rl xe := ⟨_, rfl⟩
    obtain ⟨fine, hfine⟩ : ∃ z, z = saB us vs rl xe := ⟨_, rfl⟩
    have A1 : Hid (∀ W, Below w6.heap.size w6 W → Calls Try.prog 63 #[.agg #[.slice uP nuP duP, .slice uW nuW duW], .slice aR nR cR, .int .i64 xe] W fun e w' => e = .returned (.tuple #[.int .i64 at1, .bool fine]) ∧ Below W.heap.size W w') := Lib.hid fun W hW => by
      rw [hat, hfine]; exact impl_StopAt _ _ _ _ _ _ us vs _ _ _ rl xe W (hT2.below hW) (hIR.below hW) hcR (by omega)
    have A2 : Hid (∀ W, Below w6.heap.size w6 W → Calls Try.prog 64 #[.agg #[.slice uP nuP duP, .slice uW nuW duW], .slice aR nR cR, .int .i64 xe] W fun e w' => e = .returned (.tuple #[.int .i64 at1, .bool fine]) ∧ Below W.heap.size W w') := Lib.hid fun W hW => by
      rw [hat, hfine]; exact spec_StopAt _ _ _ _ _ _ us vs _ _ _ rl xe W (hT2.below hW) (hIR.below hW) hcR (by omega)
    have A3 : Hid (fine = true → ∀ W, Below w6.heap.size w6 W → Calls Try.prog 68 #[.slice aR nR cR, .int .i64 at1] W fun e w' => e = .returned (.bool true) ∧ W = w') := Lib.hid fun h1 W hW => by
      obtain ⟨e, s, h2, h3, h4, h5, h6⟩ := sa_what (hfine ▸ h1 : saB us vs rl xe = true)
      have hz := laws_vHas aR nR cR rl (s : Int) W (by omega) (hIR.below hW)
      rw [h5] at hz
      rw [hat, h4]; exact hz
    have A4 : Hid (fine = true → ∀ W, Below w6.heap.size w6 W → Calls Try.prog 69 #[.agg #[.slice uP nuP duP, .slice uW nuW duW], .int .i64 at1, .int .i64 xe] W fun e w' => e = .returned (.bool true) ∧ Below W.heap.size W w') := Lib.hid fun h1 W hW => by
      have hb : saB us vs rl xe = true := hfine ▸ h1
      obtain ⟨e, s, h2, h3, h4, h5, h6⟩ := sa_what hb
      simp only [saB, Bool.and_eq_true] at hb
      rw [hat, h4, h2]
      exact laws_vUnder _ _ _ _ _ _ us vs s e W (hT2.below hW) (treeB_t hb.1.1).toPa h3 h6
    clear hat hfine hT2 hIR hcR hD2 oR hrl hnR
    have zz := Pair.new w6 (.slice none 0 0) (.slice none 0 0) 26
    have zz0 := zz.c0
    have zz1 := zz.c1
    have zz2 := zz.f0
    have zz3 := zz.f1
    clear zz
    have nb := below_new w6 (.cells #[.slice uP nuP duP, .slice uW nuW duW] 26)
    have UT_7 := Lib.hid (Pair.new w6 (.slice uP nuP duP) (.slice uW nuW duW) 26)
    have HB1_7 := Lib.hid (HB1_6.out.below nb)
    have PT_7 := Lib.hid (PT_6.out.below nb)
    have XG_7 := Lib.hid (XG_6.out.below nb)
    have XH_7 := Lib.hid (XH_6.out.below nb)
    have HL0_7 := Lib.hid (HL0_6.out.trans (nb.mono HL0_6.out.size))
    have HBB_7 := Lib.hid (HBB_6.out.trans (nb.mono HBB_6.out.size))
    have HM_7 := Lib.hid (HM_6.out.trans (nb.mono HM_6.out.size))
    clear nb HB1_6 PT_6 XG_6 XH_6 HL0_6 HBB_6 HM_6
    go_wp2_with fail
    clear zz0 zz1 zz2 zz3 
    generalize (w6.alloc (.cells #[.slice uP nuP duP, .slice uW nuW duW] 26)) = w7 at *
    refine (A1.out _ HM_7.out).mono ?_
    rintro e w8 ⟨rfl, b8⟩
    have HB1_8 := Lib.hid (HB1_7.out.below b8)
    have PT_8 := Lib.hid (PT_7.out.below b8)
    have XG_8 := Lib.hid (XG_7.out.below b8)
    have XH_8 := Lib.hid (XH_7.out.below b8)
    have UT_8 := Lib.hid (UT_7.out.below b8)
    have HL0_8 := Lib.hid (HL0_7.out.trans (b8.mono HL0_7.out.size))
    have HBB_8 := Lib.hid (HBB_7.out.trans (b8.mono HBB_7.out.size))
    have HM_8 := Lib.hid (HM_7.out.trans (b8.mono HM_7.out.size))
    clear b8 HB1_7 PT_7 XG_7 XH_7 UT_7 HL0_7 HBB_7 HM_7
    have op0 := UT_8.out.c0
    have op1 := UT_8.out.c1
    have op2 := UT_8.out.lt
    go_wp2_with fail
    clear op0 op1 op2
    refine (A2.out _ HM_8.out).mono ?_
    rintro e w9 ⟨rfl, b9⟩
    have HB1_9 := Lib.hid (HB1_8.out.below b9)
    have PT_9 := Lib.hid (PT_8.out.below b9)
    have XG_9 := Lib.hid (XG_8.out.below b9)
    have XH_9 := Lib.hid (XH_8.out.below b9)
    have UT_9 := Lib.hid (UT_8.out.below b9)
    have HL0_9 := Lib.hid (HL0_8.out.trans (b9.mono HL0_8.out.size))
    have HBB_9 := Lib.hid (HBB_8.out.trans (b9.mono HBB_8.out.size))
    have HM_9 := Lib.hid (HM_8.out.trans (b9.mono HM_8.out.size))
    clear b9 HB1_8 PT_8 XG_8 XH_8 UT_8 HL0_8 HBB_8 HM_8
    go_wp2_with fail
    as_aux_lemma =>
    refine (laws_vCut2 _ _ _ _ (by have := Hnb.out; omega) Hc.out.1 Hc.out.2.2 HB1_9.out).mono ?_
    rintro e w10 ⟨v10, rfl, ⟨a30, n30, c30, rfl, hy30⟩, b10⟩
    have HY30 := Lib.hid hy30
    clear hy30
    have HB1_10 := Lib.hid (HB1_9.out.below b10)
    have PT_10 := Lib.hid (PT_9.out.below b10)
    have XG_10 := Lib.hid (XG_9.out.below b10)
    have XH_10 := Lib.hid (XH_9.out.below b10)
    have UT_10 := Lib.hid (UT_9.out.below b10)
    have HL0_10 := Lib.hid (HL0_9.out.trans (b10.mono HL0_9.out.size))
    have HBB_10 := Lib.hid (HBB_9.out.trans (b10.mono HBB_9.out.size))
    have HM_10 := Lib.hid (HM_9.out.trans (b10.mono HM_9.out.size))
    clear b10 HB1_9 PT_9 XG_9 XH_9 UT_9 HL0_9 HBB_9 HM_9
    go_wp2_with fail
    refine (spec_DrawCountStops _ _ _ _ HY30.out).mono ?_
    rintro e w11 ⟨⟨v11, rfl, kP, nkP, dkP, kW, nkW, dkW, ys, zs, rfl, hD3⟩, b11⟩
    have HB1_11 := Lib.hid (HB1_10.out.below b11)
    have PT_11 := Lib.hid (PT_10.out.below b11)
    have XG_11 := Lib.hid (XG_10.out.below b11)
    have XH_11 := Lib.hid (XH_10.out.below b11)
    have UT_11 := Lib.hid (UT_10.out.below b11)
    have HL0_11 := Lib.hid (HL0_10.out.trans (b11.mono HL0_10.out.size))
    have HBB_11 := Lib.hid (HBB_10.out.trans (b11.mono HBB_10.out.size))
    have HM_11 := Lib.hid (HM_10.out.trans (b11.mono HM_10.out.size))
    clear b11 HB1_10 PT_10 XG_10 XH_10 UT_10 HL0_10 HBB_10 HM_10
    have HN_11 := Lib.hid (Below.refl w11.heap.size w11)
    have hT3 := hD3.tre
    obtain ⟨many, hmany⟩ : ∃ z, z = cntV ys zs := ⟨_, rfl⟩
    obtain ⟨there, hthere⟩ : ∃ z, z = treeB ys zs := ⟨_, rfl⟩
    have N1 : Hid (∀ W, Below w11.heap.size w11 W → Calls Try.prog 66 #[.agg #[.slice kP nkP dkP, .slice kW nkW dkW]] W fun e w' => e = .returned (.tuple #[.int .i64 many, .bool there]) ∧ Below W.heap.size W w') := Lib.hid fun W hW => by
      rw [hmany, hthere]; exact impl_CountStops _ _ _ _ _ _ ys zs W (hT3.below hW)
    have N2 : Hid (∀ W, Below w11.heap.size w11 W → Calls Try.prog 67 #[.agg #[.slice kP nkP dkP, .slice kW nkW dkW]] W fun e w' => e = .returned (.tuple #[.int .i64 many, .bool there]) ∧ Below W.heap.size W w') := Lib.hid fun W hW => by
      rw [hmany, hthere]; exact spec_CountStops _ _ _ _ _ _ ys zs W (hT3.below hW)
    clear hmany hthere hT3 hD3
    have zz := Pair.new w11 (.slice none 0 0) (.slice none 0 0) 26
    have zz0 := zz.c0
    have zz1 := zz.c1
    have zz2 := zz.f0
    have zz3 := zz.f1
    clear zz
    have nb := below_new w11 (.cells #[.slice kP nkP dkP, .slice kW nkW dkW] 26)
    have KT_12 := Lib.hid (Pair.new w11 (.slice kP nkP dkP) (.slice kW nkW dkW) 26)
    have HB1_12 := Lib.hid (HB1_11.out.below nb)
    have PT_12 := Lib.hid (PT_11.out.below nb)
    have XG_12 := Lib.hid (XG_11.out.below nb)
    have XH_12 := Lib.hid (XH_11.out.below nb)
    have UT_12 := Lib.hid (UT_11.out.below nb)
    have HL0_12 := Lib.hid (HL0_11.out.trans (nb.mono HL0_11.out.size))
    have HBB_12 := Lib.hid (HBB_11.out.trans (nb.mono HBB_11.out.size))
    have HM_12 := Lib.hid (HM_11.out.trans (nb.mono HM_11.out.size))
    have HN_12 := Lib.hid (HN_11.out.trans (nb.mono HN_11.out.size))
    clear nb HB1_11 PT_11 XG_11 XH_11 UT_11 HL0_11 HBB_11 HM_11 HN_11
    go_wp2_with fail
    clear zz0 zz1 zz2 zz3 
    generalize (w11.alloc (.cells #[.slice kP nkP dkP, .slice kW nkW dkW] 26)) = w12 at *
    refine (N1.out _ HN_12.out).mono ?_
    rintro e w13 ⟨rfl, b13⟩
    have HB1_13 := Lib.hid (HB1_12.out.below b13)
    have PT_13 := Lib.hid (PT_12.out.below b13)
    have XG_13 := Lib.hid (XG_12.out.below b13)
    have XH_13 := Lib.hid (XH_12.out.below b13)
    have UT_13 := Lib.hid (UT_12.out.below b13)
    have KT_13 := Lib.hid (KT_12.out.below b13)
    have HL0_13 := Lib.hid (HL0_12.out.trans (b13.mono HL0_12.out.size))
    have HBB_13 := Lib.hid (HBB_12.out.trans (b13.mono HBB_12.out.size))
    have HM_13 := Lib.hid (HM_12.out.trans (b13.mono HM_12.out.size))
    have HN_13 := Lib.hid (HN_12.out.trans (b13.mono HN_12.out.size))
    clear b13 HB1_12 PT_12 XG_12 XH_12 UT_12 KT_12 HL0_12 HBB_12 HM_12 HN_12
    have op0 := KT_13.out.c0
    have op1 := KT_13.out.c1
    have op2 := KT_13.out.lt
    go_wp2_with fail
    clear op0 op1 op2
    refine (N2.out _ HN_13.out).mono ?_
    rintro e w14 ⟨rfl, b14⟩
    have HB1_14 := Lib.hid (HB1_13.out.below b14)
    have PT_14 := Lib.hid (PT_13.out.below b14)
    have XG_14 := Lib.hid (XG_13.out.below b14)
    have XH_14 := Lib.hid (XH_13.out.below b14)
    have UT_14 := Lib.hid (UT_13.out.below b14)
    have KT_14 := Lib.hid (KT_13.out.below b14)
    have HL0_14 := Lib.hid (HL0_13.out.trans (b14.mono HL0_13.out.size))
    have HBB_14 := Lib.hid (HBB_13.out.trans (b14.mono HBB_13.out.size))
    have HM_14 := Lib.hid (HM_13.out.trans (b14.mono HM_13.out.size))
    have HN_14 := Lib.hid (HN_13.out.trans (b14.mono HN_13.out.size))
    clear b14 HB1_13 PT_13 XG_13 XH_13 UT_13 KT_13 HL0_13 HBB_13 HM_13 HN_13
    clear KT_14
    clear HN_14
    clear N1 N2
    go_wp2_with fail
    refine (laws_vInts _ _ _ _ _ gl _ (by omega) XG_14.out.ints XH_14.out.ints).mono ?_
    rintro e w15 ⟨rfl, b15⟩
    have HB1_15 := Lib.hid (HB1_14.out.below b15)
    have PT_15 := Lib.hid (PT_14.out.below b15)
    have XG_15 := Lib.hid (XG_14.out.below b15)
    have XH_15 := Lib.hid (XH_14.out.below b15)
    have UT_15 := Lib.hid (UT_14.out.below b15)
    have HL0_15 := Lib.hid (HL0_14.out.trans (b15.mono HL0_14.out.size))
    have HBB_15 := Lib.hid (HBB_14.out.trans (b15.mono HBB_14.out.size))
    have HM_15 := Lib.hid (HM_14.out.trans (b15.mono HM_14.out.size))
    clear b15 HB1_14 PT_14 XG_14 XH_14 UT_14 HL0_14 HBB_14 HM_14
    clear XH_15
    as_aux_lemma =>
    go_upto_region 14 with fail
    go_cut [128] (fun v128 wc => v128 = .bool false ∧ Below w15.heap.size w15 wc)
    case first => as_aux_lemma =>
      cases fine
      · go_wp2_with fail
        go_meet
        case rel => exact ⟨rfl, Below.refl _ _⟩
      · have J3 := Lib.hid (A3.out rfl)
        have J4 := Lib.hid (A4.out rfl)
        have HS_15 := Lib.hid (Below.refl w15.heap.size w15)
        have op0 := UT_15.out.c0
        have op1 := UT_15.out.c1
        have op2 := UT_15.out.lt
        go_wp2_with fail
        clear op0 op1 op2
        refine (J3.out _ HM_15.out).mono ?_
        rintro e wx ⟨rfl, rfl⟩
        have op0 := UT_15.out.c0
        have op1 := UT_15.out.c1
        have op2 := UT_15.out.lt
        go_wp2_with fail
        clear op0 op1 op2
        refine (J4.out _ HM_15.out).mono ?_
        rintro e w16 ⟨rfl, b16⟩
        have HB1_16 := Lib.hid (HB1_15.out.below b16)
        have PT_16 := Lib.hid (PT_15.out.below b16)
        have XG_16 := Lib.hid (XG_15.out.below b16)
        have UT_16 := Lib.hid (UT_15.out.below b16)
        have HL0_16 := Lib.hid (HL0_15.out.trans (b16.mono HL0_15.out.size))
        have HBB_16 := Lib.hid (HBB_15.out.trans (b16.mono HBB_15.out.size))
        have HM_16 := Lib.hid (HM_15.out.trans (b16.mono HM_15.out.size))
        have HS_16 := Lib.hid (HS_15.out.trans (b16.mono HS_15.out.size))
        clear b16 HB1_15 PT_15 XG_15 UT_15 HL0_15 HBB_15 HM_15 HS_15
        go_wp2_with fail
        go_meet
        case rel => exact ⟨rfl, HS_16.out⟩
    case rest =>
    obtain ⟨rfl, b16⟩ := hcut
    obtain ⟨w16, hwc⟩ : ∃ z, z = wc := ⟨_, rfl⟩
    rw [← hwc] at b16 ⊢
    clear hwc wc
    have HB1_16 := Lib.hid (HB1_15.out.below b16)
    have PT_16 := Lib.hid (PT_15.out.below b16)
    have XG_16 := Lib.hid (XG_15.out.below b16)
    have UT_16 := Lib.hid (UT_15.out.below b16)
    have HL0_16 := Lib.hid (HL0_15.out.trans (b16.mono HL0_15.out.size))
    have HBB_16 := Lib.hid (HBB_15.out.trans (b16.mono HBB_15.out.size))
    have HM_16 := Lib.hid (HM_15.out.trans (b16.mono HM_15.out.size))
    clear b16 HB1_15 PT_15 XG_15 UT_15 HL0_15 HBB_15 HM_15
    clear UT_16
    clear HM_16
    clear A1 A2 A3 A4
    as_aux_lemma =>
    go_upto_if 130 with fail
    cases ok
    · go_wp2_with fail
      go_ret
      exact ⟨rfl, HBB_16.out⟩
    · as_aux_lemma =>
      have J3 := Lib.hid (E3.out rfl)
      have J4 := Lib.hid (E4.out rfl)
      clear E1 E2 E3 E4
      have hsg := HOK.out.symm
      obtain ⟨hpb, hstl, hstb⟩ := sgB_t hsg
      obtain ⟨hTr, -, -, hll, -⟩ := paysB_t hpb
      have Hsg := Lib.hid hsg
      have HTr := Lib.hid hTr
      have hgv : gl = gains ps l st := by rw [HGL.out, sgV_yes hsg]
      have hnPl : ps.length = nG := by rw [HNG.out, hgv, gains_length]
      have hnSG : nG = nS := by have := HNS.out; omega
      have hnLG : nG = nL := by have := HNL.out; omega
      have hnWG : nG = nW := by have := HIW.out.1; have := hTr.wl; omega
      have HGN : Hid (∀ x, x < nG → nth gl x = gn ps l st x) := Lib.hid fun x hx => by rw [hgv, nth_gains (by omega)]
      have hnG1 : 1 ≤ nG := by have := hTr.n1; omega
      have Hlow : Hid (lowB st nG = true → ∀ x, 0 ≤ nth st x) := Lib.hid fun h0 => low_all (by rw [← HNS.out, ← hnSG]; exact h0)
      have Hls : Hid (∀ k, lowB st (k + 1) = (lowB st k && decide (0 ≤ nth st k))) := Lib.hid (lowB_succ st)
      have Hl0 : Hid (lowB st 0 = true) := Lib.hid rfl
      have Htb : Hid (∀ k, k ≤ nG → -460339200 ≤ totS ps ws l st k ∧ totS ps ws l st k ≤ 460339200) := Lib.hid fun k hk => by have := tot_bd hsg k (by omega); omega
      have Htt : Hid (∀ k, k < nG → (-19180800 ≤ nth ws k * nth gl k ∧ nth ws k * nth gl k ≤ 19180800) ∧ totS ps ws l st (k + 1) = totS ps ws l st k + nth ws k * nth gl k) := Lib.hid fun k hk => by rw [HGN.out k hk]; exact ⟨tot_term hsg (by omega), by unfold totS; rw [sumR_succ]⟩
      have Ht0 : Hid (totS ps ws l st 0 = 0) := Lib.hid (sumR_zero _)
      have Hz : Hid (nth gl 0 = 0) := Lib.hid (by rw [HGN.out 0 (by omega)]; exact gn_zero ps l st)
      have Hfa : Hid (fair = true → totS ps ws l st nG = 0) := Lib.hid fun h0 => by have := total_fair (st := st) hTr (HFA.out ▸ h0); rw [← hnPl]; exact this
      have Hfl : Hid (fall = true → lowB st nG = true → totS ps ws l st nG ≤ 0) := Lib.hid fun h0 h1 => by have := total_fall (st := st) hTr (HFL.out ▸ h0) (Hlow.out h1); rw [← hnPl]; exact this
      clear hsg hpb hstl hstb hTr hll hgv hnPl HOK HGL HFA HFL HGN Hlow
      subst hnSG
      subst hnWG
      subst hnLG
      have op0 := PT_16.out.c0
      have op1 := PT_16.out.c1
      have op2 := PT_16.out.lt
      go_wp2_with fail
      clear op0 op1 op2
      refine (J3.out _ HL0_16.out).mono ?_
      rintro e w17 ⟨rfl, b17⟩
      have HB1_17 := Lib.hid (HB1_16.out.below b17)
      have PT_17 := Lib.hid (PT_16.out.below b17)
      have XG_17 := Lib.hid (XG_16.out.below b17)
      have HL0_17 := Lib.hid (HL0_16.out.trans (b17.mono HL0_16.out.size))
      have HBB_17 := Lib.hid (HBB_16.out.trans (b17.mono HBB_16.out.size))
      clear b17 HB1_16 PT_16 XG_16 HL0_16 HBB_16
      have op0 := PT_17.out.c0
      have op1 := PT_17.out.c1
      have op2 := PT_17.out.lt
      go_wp2_with fail
      clear op0 op1 op2
      refine (J4.out _ HL0_17.out).mono ?_
      rintro e w18 ⟨rfl, b18⟩
      have HB1_18 := Lib.hid (HB1_17.out.below b18)
      have PT_18 := Lib.hid (PT_17.out.below b18)
      have XG_18 := Lib.hid (XG_17.out.below b18)
      have HL0_18 := Lib.hid (HL0_17.out.trans (b18.mono HL0_17.out.size))
      have HBB_18 := Lib.hid (HBB_17.out.trans (b18.mono HBB_17.out.size))
      clear b18 HB1_17 PT_17 XG_17 HL0_17 HBB_17
      go_wp2_with fail
      have QG := XG_18.out.ints
      have QS := HIS.out.below HL0_18.out
      have QW := HIW.out.below HL0_18.out
      have QT := PT_18.out
      have QB := HBB_18.out
      obtain ⟨wo, hwo⟩ : ∃ z, z = w18 := ⟨_, rfl⟩
      rw [← hwo] at QG QS QW QT QB ⊢
      have QG := Lib.hid QG
      have QS := Lib.hid QS
      have QW := Lib.hid QW
      have QT := Lib.hid QT
      have QB := Lib.hid QB
      clear hwo
      go_loopw [26, 27] (fun v26 v27 wr => ∃ k m : Nat, k ≤ nG ∧ v27 = .int .i64 (k : Int) ∧ v26 = .bool (lowB st k) ∧ wr = wo.drewN m) (fun _ v27 _ => nG - (intOf v27).toNat)
      case atStart => exact ⟨0, 0, Nat.zero_le _, rfl, by rw [Hl0.out], rfl⟩
      case round =>
        obtain ⟨k, m, hk, rfl, rfl, hwr⟩ := hrel
        have hbr : Below wo.heap.size wo wr := by rw [hwr]; exact below_drewN (Below.refl _ _) m
        have Hwr := Lib.hid hwr
        clear hwr
        by_cases hlt : (k : Int) < nG
        · obtain ⟨bS, oS, rfl, hcS⟩ := QS.out.at (i := k) hbr (by omega)
          have hls := Hls.out k
          have k1 : (0 : Int) ≤ (k : Int) := by omega
          generalize nth st k = q at *
          cases hb : lowB st k
          · rw [hb] at hls
            have Hls2 := Lib.hid hls
            clear hls hb
            go_wp2_with fail
            go_roundw
            case rel => exact ⟨k + 1, m, by omega, by go_num, by rw [Hls2.out]; rfl, Hwr.out⟩
            case measure => simp [intOf] <;> omega
          · rw [hb] at hls
            by_cases hq : q ≥ 0
            · have Hls2 : Hid (lowB st (k + 1) = true) := Lib.hid (by rw [hls]; simp; omega)
              clear hls hb
              go_wp2_with fail
              go_roundw
              case rel => exact ⟨k + 1, m, by omega, by go_num, by rw [Hls2.out], Hwr.out⟩
              case measure => simp [intOf] <;> omega
            · have Hls2 : Hid (lowB st (k + 1) = false) := Lib.hid (by rw [hls]; simp; omega)
              clear hls hb
              go_wp2_with fail
              go_roundw
              case rel => exact ⟨k + 1, m, by omega, by go_num, by rw [Hls2.out], Hwr.out⟩
              case measure => simp [intOf] <;> omega
        · obtain rfl : k = nG := by omega
          have QT2 := Lib.hid (QT.out.below hbr)
          have QW2 := Lib.hid (QW.out.below hbr)
          have QG2 := Lib.hid (QG.out.below hbr)
          have QB2 := Lib.hid (QB.out.trans (hbr.mono QB.out.size))
          obtain ⟨wp, hwp⟩ : ∃ z, z = wr := ⟨_, rfl⟩
          rw [← hwp] at QT2 QW2 QG2 QB2 ⊢
          clear hwp Hwr hbr QT QW QG QB
          go_wp2_with fail
          go_loopw [28, 29] (fun v28 v29 wr => ∃ j m : Nat, j ≤ k ∧ v29 = .int .i64 (j : Int) ∧ v28 = .int .i64 (totS ps ws l st j) ∧ wr = wp.drewN m) (fun _ v29 _ => k - (intOf v29).toNat)
          case atStart => exact ⟨0, 0, Nat.zero_le _, rfl, by rw [Ht0.out], rfl⟩
          case round =>
            obtain ⟨j, m, hj, rfl, rfl, hwr⟩ := hrel
            have hbr : Below wp.heap.size wp wr := by rw [hwr]; exact below_drewN (Below.refl _ _) m
            have Hwr := Lib.hid hwr
            clear hwr
            by_cases hlt2 : (j : Int) < k
            · obtain ⟨bW, oW, rfl, hcW⟩ := QW2.out.at (i := j) hbr (by omega)
              obtain ⟨bG, oG, rfl, hcG⟩ := QG2.out.at (i := j) hbr (by omega)
              have hPb := QT2.out.below hbr
              have x0 := hPb.c0
              have x1 := hPb.c1
              have h1 := Htb.out j (by omega)
              have h2 := Htb.out (j + 1) (by omega)
              obtain ⟨h3, h4⟩ := Htt.out j (by omega)
              have Hst2 := Lib.hid h4
              rw [h4] at h2
              generalize totS ps ws l st j = sm at *
              generalize nth ws j = wj at *
              generalize nth gl j = gj at *
              have k1 : IntKind.i64.wrap (wj * gj) = wj * gj := IntWalk.i64_in _ (by omega)
              have k2 : IntKind.i64.wrap (sm + wj * gj) = sm + wj * gj := IntWalk.i64_in _ (by omega)
              have k3 : (0 : Int) ≤ (j : Int) := by omega
              clear h1 h2 h3 h4 hPb
              go_wp2_with fail
              go_quiet (fail)
              go_wp2_with fail
              go_roundw
              case rel => exact ⟨j + 1, _, by omega, by go_num, by rw [Hst2.out], by rw [Hwr.out, World.drewN_drewN]⟩
              case measure => simp [intOf] <;> omega
            · obtain rfl : j = k := by omega
              obtain ⟨bG, oG, rfl, hcG⟩ := QG2.out.at (i := 0) hbr (by omega)
              rw [Hz.out, Nat.add_zero] at hcG
              have hf1 := Hfa.out
              have hf2 := Hfl.out
              have hBB := QB2.out.trans (hbr.mono QB2.out.size)
              have HBZ := Lib.hid hBB
              clear hBB Hfa Hfl Hls Htb Htt Ht0 Hl0 Hz
              generalize totS ps ws l st j = tt at *
              generalize lowB st j = lo at *
              cases fair
              · clear hf1
                cases fall
                · clear hf2
                  go_wp2_with fail
                  go_ret
                  exact ⟨rfl, HBZ.out⟩
                · cases lo
                  · clear hf2
                    go_wp2_with fail
                    go_ret
                    exact ⟨rfl, HBZ.out⟩
                  · have h0 := hf2 rfl rfl
                    clear hf2
                    go_wp2_with fail
                    go_ret
                    exact ⟨by first | rfl | simp [h0], HBZ.out⟩
              · obtain rfl := hf1 rfl
                clear hf1 hf2
                cases fall
                · go_wp2_with fail
                  go_ret
                  exact ⟨rfl, HBZ.out⟩
                · cases lo
                  · go_wp2_with fail
                    go_ret
                    exact ⟨rfl, HBZ.out⟩
                  · go_wp2_with fail
                    go_ret
                    exact ⟨rfl, HBZ.out⟩
end Go.Proofs.Ytnbomleieianoaa.fnStakes
