/- Contracts and plain laws for the statement FnDoob, part 21. No conditions but those stated in each. -/
import Derived.Test.YtnbomleieianoaaBnFnDoob17
import Derived.Test.YtnbomleieianoaaBnFnDoob8
import Derived.Test.YtnbomleieianoaaBnFnDoob5
import Derived.Test.YtnbomleieianoaaBnFnDoob18
import Derived.Test.YtnbomleieianoaaBnFnDoob16
import Derived.Test.YtnbomleieianoaaBnFnDoob20
import Derived.Deep.DeepCutAuto
import Derived.Deep.CutRange
/- The walk through the law FnDoob: it returns true. No conditions but that the argument can be read. -/
namespace Go.Proofs.Ytnbomleieianoaa.fnDoob
open Go.RowKit
set_option linter.unusedVariables false
theorem okp {p : Int} (h : -999 ≤ p ∧ p ≤ 999) : okF p 1 = true := by
  unfold okF; rw [inB_mk (by omega) (by omega)]; rfl
set_option maxRecDepth 100000 in
set_option maxHeartbeats 4000000 in
theorem walk (a : Option Addr) (n c : Nat) (w : World) (hm : n ≤ maxLen) (hc : n ≤ c ∧ c ≤ maxLen ∧ (a = none → c = 0)) (h : Bytes0 w a n) :
    Calls Try.prog 4 #[.slice a n c] w fun e w' => e = .returned (.bool true) ∧ Below w.heap.size w w' := by
  clear hm
  by_cases hbig : (n : Int) > 65536
  · go_enter Try.func4, Try.ntmps4
    go_wp2_with (go_at_call 10; refine (laws_vBig _ _ _ _).mono ?_; rintro e w' ⟨rfl, rfl⟩; rw [decide_eq_true hbig])
    go_ret
    exact ⟨rfl, Below.refl _ _⟩
  · have HB := Lib.hid (h.few (by omega))
    have Hc := Lib.hid hc
    have Hnb := Lib.hid hbig
    clear h hc
    go_enter Try.func4, Try.ntmps4
    go_wp2_with (go_at_call 10; refine (laws_vBig _ _ _ _).mono ?_; rintro e w' ⟨rfl, rfl⟩; rw [decide_eq_false hbig])
    refine (spec_DrawDoobParts _ _ _ _ HB.out).mono ?_
    rintro e w1 ⟨⟨v, rfl, aP, nP, cP, aW, nW, cW, ps, ws, vL, rfl, hD, oL⟩, b1⟩
    obtain ⟨l, oL, hpl⟩ := oL
    obtain ⟨aL, cL, rfl⟩ := oL.shape
    obtain ⟨nL, hnL⟩ : ∃ z, z = l.length := ⟨_, rfl⟩
    rw [← hnL] at oL hpl ⊢
    have HBB := Lib.hid b1
    have HB1 := Lib.hid (HB.out.below b1)
    have hT := hD.tre
    have hIL := oL.ints
    have hcL := oL.cap.2.1
    obtain ⟨ok, hok⟩ : ∃ z, z = dbB ps ws l := ⟨_, rfl⟩
    obtain ⟨df, hdf⟩ : ∃ z, z = dbF ps ws l := ⟨_, rfl⟩
    obtain ⟨dk, hdk⟩ : ∃ z, z = dbK ps ws l := ⟨_, rfl⟩
    obtain ⟨nF, hnF⟩ : ∃ z, z = df.length := ⟨_, rfl⟩
    obtain ⟨nK, hnK⟩ : ∃ z, z = dk.length := ⟨_, rfl⟩
    have E1 : Hid (∀ W, Below w1.heap.size w1 W → Calls Try.prog 25 #[.agg #[.slice aP nP cP, .slice aW nW cW], .slice aL nL cL] W fun e w' => ∃ v u, e = .returned (.tuple #[v, u, .bool ok]) ∧ Fr.Own w' W.heap.size v df ∧ Fr.Own w' W.heap.size u dk ∧ Below W.heap.size W w') := Lib.hid fun W hW => by
      rw [hok, hdf, hdk]; exact impl_DoobParts _ _ _ _ _ _ ps ws _ _ _ l W (hT.below hW) (hIL.below hW) hcL (by omega)
    have E2 : Hid (∀ W, Below w1.heap.size w1 W → Calls Try.prog 26 #[.agg #[.slice aP nP cP, .slice aW nW cW], .slice aL nL cL] W fun e w' => ∃ v u, e = .returned (.tuple #[v, u, .bool ok]) ∧ Fr.Own w' W.heap.size v df ∧ Fr.Own w' W.heap.size u dk ∧ Below W.heap.size W w') := Lib.hid fun W hW => by
      rw [hok, hdf, hdk]; exact spec_DoobParts _ _ _ _ _ _ ps ws _ _ _ l W (hT.below hW) (hIL.below hW) hcL (by omega)
    have E7 : Hid (ok = true → ∀ W, Below w1.heap.size w1 W → Calls Try.prog 28 #[.agg #[.slice aP nP cP, .slice aW nW cW], .slice aL nL cL] W fun e w' => ∃ v, e = .returned (.tuple #[v, .bool true]) ∧ Fr.Own w' W.heap.size v (driftL ps ws l) ∧ Below W.heap.size W w') := Lib.hid fun h1 W hW => by
      have hp : paysB ps ws l = true := (dbB_t (hok ▸ h1 : dbB ps ws l = true)).1
      have hz := impl_DriftsOf _ _ _ _ _ _ ps ws _ _ _ l W (hT.below hW) (hIL.below hW) hcL (by omega)
      rw [dofV_yes hp, hp] at hz
      exact hz
    have hlen : nF ≤ 24 ∧ nK ≤ 24 := by
      rw [hnF, hnK, hdf, hdk]
      cases hb : dbB ps ws l
      · rw [(db_no hb).1, (db_no hb).2]; exact ⟨Nat.zero_le _, Nat.zero_le _⟩
      · rw [(db_yes hb).1, (db_yes hb).2, faL_length, knL_length]
        have := (paysB_t (dbB_t hb).1).1.n24
        exact ⟨this, this⟩
    have HNF := Lib.hid hnF
    have HNK := Lib.hid hnK
    have HNL := Lib.hid hnL
    have HL0 := Lib.hid (Below.refl w1.heap.size w1)
    have HIL := Lib.hid hIL
    have HTre := Lib.hid hT
    have HOK := Lib.hid hok
    have HDF := Lib.hid hdf
    have HDK := Lib.hid hdk
    clear hok hdf hdk hT hIL hcL hD b1 hnL hnF hnK oL hpl
    have zz := Pair.new w1 (.slice none 0 0) (.slice none 0 0) 26
    have zz0 := zz.c0
    have zz1 := zz.c1
    have zz2 := zz.f0
    have zz3 := zz.f1
    clear zz
    have nb := below_new w1 (.cells #[.slice aP nP cP, .slice aW nW cW] 26)
    have PT_2 := Lib.hid (Pair.new w1 (.slice aP nP cP) (.slice aW nW cW) 26)
    have HB1_2 := Lib.hid (HB1.out.below nb)
    have HL0_2 := Lib.hid (HL0.out.trans (nb.mono HL0.out.size))
    have HBB_2 := Lib.hid (HBB.out.trans (nb.mono HBB.out.size))
    clear nb HB1 HL0 HBB
    go_wp2_with fail
    clear zz0 zz1 zz2 zz3 
    generalize (w1.alloc (.cells #[.slice aP nP cP, .slice aW nW cW] 26)) = w2 at *
    refine (E1.out _ HL0_2.out).mono ?_
    rintro e w3 ⟨v3, u3, rfl, o3, q3, b3⟩
    obtain ⟨aF, cF, rfl⟩ := o3.shape
    rw [← HNF.out] at o3 ⊢
    obtain ⟨aK, cK, rfl⟩ := q3.shape
    rw [← HNK.out] at q3 ⊢
    have HB1_3 := Lib.hid (HB1_2.out.below b3)
    have PT_3 := Lib.hid (PT_2.out.below b3)
    have HL0_3 := Lib.hid (HL0_2.out.trans (b3.mono HL0_2.out.size))
    have HBB_3 := Lib.hid (HBB_2.out.trans (b3.mono HBB_2.out.size))
    clear b3 HB1_2 PT_2 HL0_2 HBB_2
    have XF_3 := Lib.hid (o3)
    have XK_3 := Lib.hid (q3)
    clear o3 q3
    have op0 := PT_3.out.c0
    have op1 := PT_3.out.c1
    have op2 := PT_3.out.lt
    go_wp2_with fail
    clear op0 op1 op2
    refine (E2.out _ HL0_3.out).mono ?_
    rintro e w4 ⟨v4, u4, rfl, o4, q4, b4⟩
    obtain ⟨aF2, cF2, rfl⟩ := o4.shape
    rw [← HNF.out] at o4 ⊢
    obtain ⟨aK2, cK2, rfl⟩ := q4.shape
    rw [← HNK.out] at q4 ⊢
    have HB1_4 := Lib.hid (HB1_3.out.below b4)
    have PT_4 := Lib.hid (PT_3.out.below b4)
    have XF_4 := Lib.hid (XF_3.out.below b4)
    have XK_4 := Lib.hid (XK_3.out.below b4)
    have HL0_4 := Lib.hid (HL0_3.out.trans (b4.mono HL0_3.out.size))
    have HBB_4 := Lib.hid (HBB_3.out.trans (b4.mono HBB_3.out.size))
    clear b4 HB1_3 PT_3 XF_3 XK_3 HL0_3 HBB_3
    have XF2_4 := Lib.hid (o4)
    have XK2_4 := Lib.hid (q4)
    clear o4 q4
    go_wp2_with fail
    clear E1 E2
    refine (laws_vPairs _ _ _ _ _ df _ (by omega) XF_4.out.ints XF2_4.out.ints).mono ?_
    rintro e w5 ⟨rfl, b5⟩
    have HB1_5 := Lib.hid (HB1_4.out.below b5)
    have PT_5 := Lib.hid (PT_4.out.below b5)
    have XF_5 := Lib.hid (XF_4.out.below b5)
    have XK_5 := Lib.hid (XK_4.out.below b5)
    have XF2_5 := Lib.hid (XF2_4.out.below b5)
    have XK2_5 := Lib.hid (XK2_4.out.below b5)
    have HL0_5 := Lib.hid (HL0_4.out.trans (b5.mono HL0_4.out.size))
    have HBB_5 := Lib.hid (HBB_4.out.trans (b5.mono HBB_4.out.size))
    clear b5 HB1_4 PT_4 XF_4 XK_4 XF2_4 XK2_4 HL0_4 HBB_4
    go_wp2_with fail
    refine (laws_vPairs _ _ _ _ _ dk _ (by omega) XK_5.out.ints XK2_5.out.ints).mono ?_
    rintro e w6 ⟨rfl, b6⟩
    have HB1_6 := Lib.hid (HB1_5.out.below b6)
    have PT_6 := Lib.hid (PT_5.out.below b6)
    have XF_6 := Lib.hid (XF_5.out.below b6)
    have XK_6 := Lib.hid (XK_5.out.below b6)
    have XF2_6 := Lib.hid (XF2_5.out.below b6)
    have XK2_6 := Lib.hid (XK2_5.out.below b6)
    have HL0_6 := Lib.hid (HL0_5.out.trans (b6.mono HL0_5.out.size))
    have HBB_6 := Lib.hid (HBB_5.out.trans (b6.mono HBB_5.out.size))
    clear b6 HB1_5 PT_5 XF_5 XK_5 XF2_5 XK2_5 HL0_5 HBB_5
    clear XF2_6
    clear XK2_6
    go_upto_if 56 with fail
    cases ok
    · go_wp2_with fail
      go_ret
      exact ⟨rfl, HBB_6.out⟩
    · have J7 := Lib.hid (E7.out rfl)
      clear E7
      have hdb := HOK.out.symm
      obtain ⟨hpy, hoo⟩ := dbB_t hdb
      have hpt := paysB_t hpy
      have hnP : nP = ps.length := HTre.out.p.1.symm
      have hnPL : nP = nL := by rw [HNL.out, hnP]; exact hpt.2.2.2.1.symm
      have hdy := db_yes hdb
      have hnPF : nP = nF := by rw [HNF.out, HDF.out, hdy.1, faL_length, hnP]
      have hnPK : nP = nK := by rw [HNK.out, HDK.out, hdy.2, knL_length, hnP]
      have hn1 : 1 ≤ nP ∧ nP ≤ 24 := by have := hpt.1.n1; have := hpt.1.n24; omega
      have Hkn : Hid (∀ x, x < nP → FrG (kn1 ps ws l x) (kn2 ps ws l x)) := Lib.hid fun x hx => kn_all hdb (x + 1) x (by omega) (by omega)
      have Hfa : Hid (∀ x, x < nP → FrG (fa1 ps ws l x) (fa2 ps ws l x)) := Lib.hid fun x hx => fa_frg (Hkn.out x hx) (hoo x (by omega)).2
      have Hup : Hid (∀ x, 1 ≤ x → x < nP → nth ps x = (par ps x : Int) ∧ par ps x < x) := Lib.hid fun x h1 hx => hpt.1.toPa.upN h1 (by omega)
      have A7 : Hid (∀ W (x : Nat), x < nP → Calls Try.prog 29 #[.agg #[.int .i64 (fa1 ps ws l x), .int .i64 (fa2 ps ws l x)], .agg #[.int .i64 (kn1 ps ws l x), .int .i64 (kn2 ps ws l x)]] W fun e w' => e = .returned (.tuple #[.agg #[.int .i64 (nth l x), .int .i64 1], .bool true]) ∧ Below W.heap.size W w') := Lib.hid fun W x hx => by
        have h1 := Hkn.out x hx
        have h2 := Hfa.out x hx
        have hs := parts_sum h1 h2
        have hz := impl_AddFractions_t (fa1 ps ws l x) (fa2 ps ws l x) (kn1 ps ws l x) (kn2 ps ws l x) W (frOk_of h2) (frOk_of h1)
        have hb : lowB (fa1 ps ws l x * kn2 ps ws l x + kn1 ps ws l x * fa2 ps ws l x) (fa2 ps ws l x * kn2 ps ws l x) = true := by
          show okF (adN (fa1 ps ws l x) (fa2 ps ws l x) (kn1 ps ws l x) (kn2 ps ws l x)) (adD (fa1 ps ws l x) (fa2 ps ws l x) (kn1 ps ws l x) (kn2 ps ws l x)) = true
          rw [hs.1, hs.2]; exact okp (hpt.2.2.2.2 x)
        have hl := ad_low hb
        rw [hb, hl.1, hl.2, hs.1, hs.2] at hz
        exact hz
      have A8 : Hid (∀ W (x : Nat), 1 ≤ x → x < nP → Calls Try.prog 29 #[.agg #[.int .i64 (kn1 ps ws l (par ps x)), .int .i64 (kn2 ps ws l (par ps x))], .agg #[.int .i64 (Fr.at1 (driftL ps ws l) (par ps x)), .int .i64 (Fr.at2 (driftL ps ws l) (par ps x))]] W fun e w' => e = .returned (.tuple #[.agg #[.int .i64 (kn1 ps ws l x), .int .i64 (kn2 ps ws l x)], .bool true]) ∧ Below W.heap.size W w') := Lib.hid fun W x h1 hx => by
        have hu := Hup.out x h1 hx
        have hk := kn_up (ps := ps) ws l h1 hu.2
        have hz := impl_AddFractions_t (kn1 ps ws l (par ps x)) (kn2 ps ws l (par ps x)) (Fr.at1 (driftL ps ws l) (par ps x)) (Fr.at2 (driftL ps ws l) (par ps x)) W (frOk_of (Hkn.out _ (by omega))) (frOk_of (drf_frg hpy (by omega)))
        have hb : lowB (kn1 ps ws l (par ps x) * Fr.at2 (driftL ps ws l) (par ps x) + Fr.at1 (driftL ps ws l) (par ps x) * kn2 ps ws l (par ps x)) (kn2 ps ws l (par ps x) * Fr.at2 (driftL ps ws l) (par ps x)) = true := by
          have h3 := (hoo x (by omega)).1
          rw [okA, hk.1, hk.2] at h3; exact h3
        have hl := ad_low hb
        rw [hb, hl.1, hl.2, ← hk.1, ← hk.2] at hz
        exact hz
      have Hkz := Lib.hid (kn_zero ps ws l)
      have Hlf : Hid (df = faL ps ws l nP) := Lib.hid (by rw [HDF.out, hdy.1, hnP])
      have Hlk : Hid (dk = knL ps ws l nP) := Lib.hid (by rw [HDK.out, hdy.2, hnP])
      have Hld : Hid ((driftL ps ws l).length = nP) := Lib.hid (by rw [driftL_length, hnP])
      clear hdb hpy hoo hpt hdy HOK HDF HDK Hkn Hfa hlen hnP
      subst hnPL
      subst hnPF
      subst hnPK
      as_aux_lemma =>
      have op0 := PT_6.out.c0
      have op1 := PT_6.out.c1
      have op2 := PT_6.out.lt
      go_wp2_with fail
      clear op0 op1 op2
      refine (J7.out _ HL0_6.out).mono ?_
      rintro e w7 ⟨v7, rfl, o7, b7⟩
      obtain ⟨aD, cD, rfl⟩ := o7.shape
      rw [Hld.out] at o7 ⊢
      have HB1_7 := Lib.hid (HB1_6.out.below b7)
      have PT_7 := Lib.hid (PT_6.out.below b7)
      have XF_7 := Lib.hid (XF_6.out.below b7)
      have XK_7 := Lib.hid (XK_6.out.below b7)
      have HL0_7 := Lib.hid (HL0_6.out.trans (b7.mono HL0_6.out.size))
      have HBB_7 := Lib.hid (HBB_6.out.trans (b7.mono HBB_6.out.size))
      clear b7 HB1_6 PT_6 XF_6 XK_6 HL0_6 HBB_6
      have XD_7 := Lib.hid (o7)
      clear o7
      go_wp2_with fail
      have QF := XF_7.out.ints
      have QK := XK_7.out.ints
      rw [Hlf.out] at QF
      rw [Hlk.out] at QK
      have QD := XD_7.out.ints
      have QL := HIL.out.below HL0_7.out
      have QP := HTre.out.p.below HL0_7.out
      have QT := PT_7.out
      have QB := HBB_7.out
      obtain ⟨wo, hwo⟩ : ∃ z, z = w7 := ⟨_, rfl⟩
      rw [← hwo] at QF QK QD QL QP QT QB ⊢
      obtain ⟨bF, oF, rfl, hbF, hcF⟩ := QF.2 (by omega)
      obtain ⟨bK, oK, rfl, hbK, hcK⟩ := QK.2 (by omega)
      obtain ⟨bD, oD, rfl, hbD, hcD⟩ := QD.2 (by omega)
      have CF : Hid (∀ W, Below wo.heap.size wo W → ∀ x, x < nP → W.cell? ⟨bF, oF + x * 2, none⟩ = some (.int .i64 (fa1 ps ws l x)) ∧ W.cell? ⟨bF, oF + x * 2 + 1, none⟩ = some (.int .i64 (fa2 ps ws l x))) := Lib.hid fun W hb x hx => by
        have h := hcF x hx
        have e := faL_at ps ws l hx
        rw [e.1, e.2] at h
        exact ⟨(hb.cell (p := ⟨bF, oF + x * 2, none⟩) hbF).trans h.1, (hb.cell (p := ⟨bF, oF + x * 2 + 1, none⟩) hbF).trans h.2⟩
      have CK : Hid (∀ W, Below wo.heap.size wo W → ∀ x, x < nP → W.cell? ⟨bK, oK + x * 2, none⟩ = some (.int .i64 (kn1 ps ws l x)) ∧ W.cell? ⟨bK, oK + x * 2 + 1, none⟩ = some (.int .i64 (kn2 ps ws l x))) := Lib.hid fun W hb x hx => by
        have h := hcK x hx
        have e := knL_at ps ws l nP x hx
        rw [e.1, e.2] at h
        exact ⟨(hb.cell (p := ⟨bK, oK + x * 2, none⟩) hbK).trans h.1, (hb.cell (p := ⟨bK, oK + x * 2 + 1, none⟩) hbK).trans h.2⟩
      have CD : Hid (∀ W, Below wo.heap.size wo W → ∀ x, x < nP → W.cell? ⟨bD, oD + x * 2, none⟩ = some (.int .i64 (Fr.at1 (driftL ps ws l) x)) ∧ W.cell? ⟨bD, oD + x * 2 + 1, none⟩ = some (.int .i64 (Fr.at2 (driftL ps ws l) x))) := Lib.hid fun W hb x hx =>
        ⟨(hb.cell (p := ⟨bD, oD + x * 2, none⟩) hbD).trans (hcD x hx).1, (hb.cell (p := ⟨bD, oD + x * 2 + 1, none⟩) hbD).trans (hcD x hx).2⟩
      have HbF := Lib.hid (And.intro hbF (And.intro hbK hbD))
      have QL := Lib.hid QL
      have QP := Lib.hid QP
      have QT := Lib.hid QT
      have QB := Lib.hid QB
      clear hwo QF QK QD hcF hcK hcD hbF hbK hbD Hlf Hlk Hld HNF HNK HNL XF_7 XK_7 XD_7 HL0_7 HBB_7 PT_7 HB1_7
      go_loopw [13] (fun v13 wr => ∃ x : Nat, x ≤ nP ∧ v13 = .int .i64 (x : Int) ∧ Below wo.heap.size wo wr) (fun v13 _ => nP - (intOf v13).toNat)
      case atStart => exact ⟨0, Nat.zero_le _, rfl, Below.refl _ _⟩
      case round =>
        obtain ⟨x, hx, rfl, hbr⟩ := hrel
        obtain ⟨wq, hwq⟩ : ∃ z, z = wr := ⟨_, rfl⟩
        rw [← hwq] at hbr ⊢
        clear hwq
        have HBR := Lib.hid hbr
        by_cases hlt : (x : Int) < nP
        · have hxp : x < nP := by omega
          clear hbr
          go_upto_region 14 with fail
          go_cut [14, 15] from 72 to 83 (fun v14 v15 wc => v15 = .bool true ∧ (∃ g, v14 = .pointer (some ⟨g, 0, none⟩) ∧ Pair wc g (.int .i64 (nth l x)) (.int .i64 1)) ∧ Below wq.heap.size wq wc)
          case first => as_aux_lemma =>
            obtain ⟨f1, f2⟩ := CF.out wq HBR.out x hxp
            obtain ⟨k1, k2⟩ := CK.out wq HBR.out x hxp
            have HA := Lib.hid fun W => A7.out W x hxp
            have hz : wo.heap.size ≤ wq.heap.size := HBR.out.size
            have n1 : bF ≠ wq.heap.size := by have := HbF.out.1; omega
            have n2 : bK ≠ wq.heap.size := by have := HbF.out.2.1; omega
            have N1 := Lib.hid (And.intro n1 n2)
            generalize fa1 ps ws l x = y1 at *
            generalize fa2 ps ws l x = y2 at *
            generalize kn1 ps ws l x = z1 at *
            generalize kn2 ps ws l x = z2 at *
            generalize nth l x = p at *
            have j1 : (0 : Int) ≤ (x : Int) := by omega
            clear n1 n2
            go_wp2_with fail
            refine wp_region_noPanic ?_
            refine wp_region_held_drew (S := (fun W' => (W'.cell? ⟨bF, oF + x * 2, none⟩ = some (.int .i64 y1) ∧ W'.cell? ⟨bF, oF + x * 2 + 1, none⟩ = some (.int .i64 y2)) ∧ W'.cell? ⟨bK, oK + x * 2, none⟩ = some (.int .i64 z1) ∧ W'.cell? ⟨bK, oK + x * 2 + 1, none⟩ = some (.int .i64 z2))) (by kernel_rfl) ?_ (fun hHeld0 => ?_)
            · (try dsimp only); first | assumption | exact ⟨⟨f1, f2⟩, k1, k2⟩ | exact ⟨⟨cell_up (below_new w9 _) hSS.1.1, cell_up (below_new w9 _) hSS.1.2⟩, cell_up (below_new w9 _) hSS.2.1, cell_up (below_new w9 _) hSS.2.2⟩ | exact ⟨⟨cell_up (below_new wq _).drew f1, cell_up (below_new wq _).drew f2⟩, cell_up (below_new wq _).drew k1, cell_up (below_new wq _).drew k2⟩ | exact ⟨⟨cell_far (cell_far hSS.1.1 N1.out.1) N1.out.1, cell_far (cell_far hSS.1.2 N1.out.1) N1.out.1⟩, cell_far (cell_far hSS.2.1 N1.out.2) N1.out.2, cell_far (cell_far hSS.2.2 N1.out.2) N1.out.2⟩
            refine takeH (i := 0) (oi := _) (v := ?_) rfl (by kernel_rfl) (by kernel_rfl) (by kernel_rfl) (fun _ _ _ h => h) (Or.inl ⟨by rfl, ?_⟩) (by assumption) ?_
            rotate_left
            · first | (intro w hSw; (try dsimp only at hSw); go_simp; done) | (intro w hSw; (try dsimp only at hSw); go_simp; with_reducible rfl)
            (try simp only [Act.put, List.setIfInBounds_toArray, List.set_cons_zero, List.set_cons_succ])
            refine takeH (i := 1) (oi := _) (v := ?_) rfl (by kernel_rfl) (by kernel_rfl) (by kernel_rfl) (fun _ _ _ h => h) (Or.inl ⟨by rfl, ?_⟩) (by assumption) ?_
            rotate_left
            · first | (intro w hSw; (try dsimp only at hSw); go_simp; done) | (intro w hSw; (try dsimp only at hSw); go_simp; with_reducible rfl)
            (try simp only [Act.put, List.setIfInBounds_toArray, List.set_cons_zero, List.set_cons_succ])
            refine takeH (i := 2) (oi := _) (v := ?_) rfl (by kernel_rfl) (by kernel_rfl) (by kernel_rfl) (fun _ _ _ h => h) (Or.inl ⟨by rfl, ?_⟩) (by assumption) ?_
            rotate_left
            · first | (intro w hSw; (try dsimp only at hSw); go_simp; done) | (intro w hSw; (try dsimp only at hSw); go_simp; with_reducible rfl)
            (try simp only [Act.put, List.setIfInBounds_toArray, List.set_cons_zero, List.set_cons_succ])
            refine takeH (i := 3) (oi := _) (v := ?_) rfl (by kernel_rfl) (by kernel_rfl) (by kernel_rfl) (fun _ _ _ h => h) (Or.inl ⟨by rfl, ?_⟩) (by assumption) ?_
            rotate_left
            · first | (intro w hSw; (try dsimp only at hSw); go_simp; done) | (intro w hSw; (try dsimp only at hSw); go_simp; with_reducible rfl)
            (try simp only [Act.put, List.setIfInBounds_toArray, List.set_cons_zero, List.set_cons_succ])
            refine takeH (i := 4) (oi := _) (v := ?_) rfl (by kernel_rfl) (by kernel_rfl) (by kernel_rfl) (fun _ _ _ h => h) (Or.inl ⟨by rfl, ?_⟩) (by assumption) ?_
            rotate_left
            · first | (intro w hSw; (try dsimp only at hSw); go_simp; done) | (intro w hSw; (try dsimp only at hSw); go_simp; with_reducible rfl)
            (try simp only [Act.put, List.setIfInBounds_toArray, List.set_cons_zero, List.set_cons_succ])
            refine takeH (i := 5) (oi := _) (v := ?_) rfl (by kernel_rfl) (by kernel_rfl) (by kernel_rfl) (fun _ _ _ h => h) (Or.inl ⟨by rfl, ?_⟩) (by assumption) ?_
            rotate_left
            · first | (intro w hSw; (try dsimp only at hSw); go_simp; done) | (intro w hSw; (try dsimp only at hSw); go_simp; with_reducible rfl)
            (try simp only [Act.put, List.setIfInBounds_toArray, List.set_cons_zero, List.set_cons_succ])
            refine takeH (i := 6) (oi := _) (v := ?_) rfl (by kernel_rfl) (by kernel_rfl) (by kernel_rfl) (fun _ _ _ h => h) (Or.inl ⟨by rfl, ?_⟩) (by assumption) ?_
            rotate_left
            · first | (intro w hSw; (try dsimp only at hSw); go_simp; done) | (intro w hSw; (try dsimp only at hSw); go_simp; with_reducible rfl)
            (try simp only [Act.put, List.setIfInBounds_toArray, List.set_cons_zero, List.set_cons_succ])
            refine takeH (i := 7) (oi := _) (v := ?_) rfl (by kernel_rfl) (by kernel_rfl) (by kernel_rfl) (fun _ _ _ h => h) (Or.inl ⟨by rfl, ?_⟩) (by assumption) ?_
            rotate_left
            · first | (intro w hSw; (try dsimp only at hSw); go_simp; done) | (intro w hSw; (try dsimp only at hSw); go_simp; with_reducible rfl)
            (try simp only [Act.put, List.setIfInBounds_toArray, List.set_cons_zero, List.set_cons_succ])
            refine wpAnyH_ready (rs := [8, 12]) (by kernel_rfl) (by simp) ?_
            refine consM rfl (fun Kq hKq => ?_) (consH rfl (fun Kq hKq => ?_))
            · go_simp
              (go_at_call 29; refine (HA.out _).mono ?_; rintro e w9 ⟨rfl, b9⟩
               have b92 := (Below.refl wq.heap.size wq).drew.trans b9
               have hSS := And.intro (And.intro (cell_up b92 f1) (cell_up b92 f2)) (And.intro (cell_up b92 k1) (cell_up b92 k2))
               have zz := Pair.new w9 (.int .i64 0) (.int .i64 0) 48
               have zz0 := zz.c0
               have zz1 := zz.c1
               have zz2 := zz.f0
               have zz3 := zz.f1)
              refine hKq.out _ _ ?_ (fun hHeld1 => ?_)
              · (try dsimp only); first | assumption | exact ⟨⟨f1, f2⟩, k1, k2⟩ | exact ⟨⟨cell_up (below_new w9 _) hSS.1.1, cell_up (below_new w9 _) hSS.1.2⟩, cell_up (below_new w9 _) hSS.2.1, cell_up (below_new w9 _) hSS.2.2⟩ | exact ⟨⟨cell_up (below_new wq _).drew f1, cell_up (below_new wq _).drew f2⟩, cell_up (below_new wq _).drew k1, cell_up (below_new wq _).drew k2⟩ | exact ⟨⟨cell_far (cell_far hSS.1.1 N1.out.1) N1.out.1, cell_far (cell_far hSS.1.2 N1.out.1) N1.out.1⟩, cell_far (cell_far hSS.2.1 N1.out.2) N1.out.2, cell_far (cell_far hSS.2.2 N1.out.2) N1.out.2⟩
              clear hKq Kq
              (try simp only [Act.put, List.setIfInBounds_toArray, List.set_cons_zero, List.set_cons_succ])
              clear hHeld0
              refine takeH (i := 9) (oi := _) (v := ?_) rfl (by kernel_rfl) (by kernel_rfl) (by kernel_rfl) (fun _ _ _ h => h) (Or.inl ⟨by rfl, ?_⟩) (by assumption) ?_
              rotate_left
              · first | (intro w hSw; (try dsimp only at hSw); go_simp; done) | (intro w hSw; (try dsimp only at hSw); go_simp; with_reducible rfl)
              (try simp only [Act.put, List.setIfInBounds_toArray, List.set_cons_zero, List.set_cons_succ])
              refine takeH (i := 10) (oi := _) (v := ?_) rfl (by kernel_rfl) (by kernel_rfl) (by kernel_rfl) (fun _ _ _ h => h) (Or.inl ⟨by rfl, ?_⟩) (by assumption) ?_
              rotate_left
              · first | (intro w hSw; (try dsimp only at hSw); go_simp; done) | (intro w hSw; (try dsimp only at hSw); go_simp; with_reducible rfl)
              (try simp only [Act.put, List.setIfInBounds_toArray, List.set_cons_zero, List.set_cons_succ])
              refine takeH (i := 11) (oi := _) (v := ?_) rfl (by kernel_rfl) (by kernel_rfl) (by kernel_rfl) (fun _ _ _ h => h) (Or.inl ⟨by rfl, ?_⟩) (by assumption) ?_
              rotate_left
              · first | (intro w hSw; (try dsimp only at hSw); go_simp; done) | (intro w hSw; (try dsimp only at hSw); go_simp; with_reducible rfl)
              (try simp only [Act.put, List.setIfInBounds_toArray, List.set_cons_zero, List.set_cons_succ])
              refine wpAnyH_ready (rs := [12]) (by kernel_rfl) (by simp) ?_
              refine consH rfl (fun Kq hKq => ?_)
              go_simp
              refine hKq.out _ _ ?_ (fun hHeld2 => ?_)
              · (try dsimp only); first | assumption | exact ⟨⟨f1, f2⟩, k1, k2⟩ | exact ⟨⟨cell_up (below_new w9 _) hSS.1.1, cell_up (below_new w9 _) hSS.1.2⟩, cell_up (below_new w9 _) hSS.2.1, cell_up (below_new w9 _) hSS.2.2⟩ | exact ⟨⟨cell_up (below_new wq _).drew f1, cell_up (below_new wq _).drew f2⟩, cell_up (below_new wq _).drew k1, cell_up (below_new wq _).drew k2⟩ | exact ⟨⟨cell_far (cell_far hSS.1.1 N1.out.1) N1.out.1, cell_far (cell_far hSS.1.2 N1.out.1) N1.out.1⟩, cell_far (cell_far hSS.2.1 N1.out.2) N1.out.2, cell_far (cell_far hSS.2.2 N1.out.2) N1.out.2⟩
              clear hKq Kq
              (try simp only [Act.put, List.setIfInBounds_toArray, List.set_cons_zero, List.set_cons_succ])
              clear hHeld1
              refine wpAnyH_ready (rs := [13]) (by kernel_rfl) (by simp) ?_
              refine consH rfl (fun Kq hKq => ?_)
              go_simp
              refine hKq.out _ _ ?_ (fun hHeld3 => ?_)
              · (try dsimp only); first | assumption | exact ⟨⟨f1, f2⟩, k1, k2⟩ | exact ⟨⟨cell_up (below_new w9 _) hSS.1.1, cell_up (below_new w9 _) hSS.1.2⟩, cell_up (below_new w9 _) hSS.2.1, cell_up (below_new w9 _) hSS.2.2⟩ | exact ⟨⟨cell_up (below_new wq _).drew f1, cell_up (below_new wq _).drew f2⟩, cell_up (below_new wq _).drew k1, cell_up (below_new wq _).drew k2⟩ | exact ⟨⟨cell_far (cell_far hSS.1.1 N1.out.1) N1.out.1, cell_far (cell_far hSS.1.2 N1.out.1) N1.out.1⟩, cell_far (cell_far hSS.2.1 N1.out.2) N1.out.2, cell_far (cell_far hSS.2.2 N1.out.2) N1.out.2⟩
              clear hKq Kq
              (try simp only [Act.put, List.setIfInBounds_toArray, List.set_cons_zero, List.set_cons_succ])
              clear hHeld2
              refine takeH (i := 14) (oi := _) (v := ?_) rfl (by kernel_rfl) (by kernel_rfl) (by kernel_rfl) (fun _ _ _ h => h) (Or.inl ⟨by rfl, ?_⟩) (by assumption) ?_
              rotate_left
              · first | (intro w hSw; (try dsimp only at hSw); go_simp; done) | (intro w hSw; (try dsimp only at hSw); go_simp; with_reducible rfl)
              (try simp only [Act.put, List.setIfInBounds_toArray, List.set_cons_zero, List.set_cons_succ])
              refine wpAnyH_done (by kernel_rfl) ?_ _
              refine NoPanic.normal ?_
              go_wp2_with fail
              go_meet
              case rel => exact ⟨rfl, ⟨_, rfl, Pair.new w9 _ _ _⟩, b92.trans ((below_new w9 _).mono b92.size)⟩
            · go_simp
              have HN := (Pair.new wq (.int .i64 0) (.int .i64 0) 48).drew
              refine hKq.out _ _ ?_ (fun hHeld1 => ?_)
              · (try dsimp only); first | assumption | exact ⟨⟨f1, f2⟩, k1, k2⟩ | exact ⟨⟨cell_up (below_new w9 _) hSS.1.1, cell_up (below_new w9 _) hSS.1.2⟩, cell_up (below_new w9 _) hSS.2.1, cell_up (below_new w9 _) hSS.2.2⟩ | exact ⟨⟨cell_up (below_new wq _).drew f1, cell_up (below_new wq _).drew f2⟩, cell_up (below_new wq _).drew k1, cell_up (below_new wq _).drew k2⟩ | exact ⟨⟨cell_far (cell_far hSS.1.1 N1.out.1) N1.out.1, cell_far (cell_far hSS.1.2 N1.out.1) N1.out.1⟩, cell_far (cell_far hSS.2.1 N1.out.2) N1.out.2, cell_far (cell_far hSS.2.2 N1.out.2) N1.out.2⟩
              clear hKq Kq
              (try simp only [Act.put, List.setIfInBounds_toArray, List.set_cons_zero, List.set_cons_succ])
              clear hHeld0
              refine wpAnyH_ready (rs := [8]) (by kernel_rfl) (by simp) ?_
              refine consH rfl (fun Kq hKq => ?_)
              go_simp
              (go_at_call 29; refine (HA.out _).mono ?_; rintro e w9 ⟨rfl, b9⟩
               have b92 := ((below_new wq (.cells #[.int .i64 0, .int .i64 0] 48)).drew).trans (b9.mono (by simp))
               have hSS := And.intro (And.intro (cell_up b92 f1) (cell_up b92 f2)) (And.intro (cell_up b92 k1) (cell_up b92 k2))
               have zz := HN.below b9
               have zz0 := zz.c0
               have zz1 := zz.c1
               have zz2 := zz.f0
               have zz3 := zz.f1)
              refine hKq.out _ _ ?_ (fun hHeld2 => ?_)
              · (try dsimp only); first | assumption | exact ⟨⟨f1, f2⟩, k1, k2⟩ | exact ⟨⟨cell_up (below_new w9 _) hSS.1.1, cell_up (below_new w9 _) hSS.1.2⟩, cell_up (below_new w9 _) hSS.2.1, cell_up (below_new w9 _) hSS.2.2⟩ | exact ⟨⟨cell_up (below_new wq _).drew f1, cell_up (below_new wq _).drew f2⟩, cell_up (below_new wq _).drew k1, cell_up (below_new wq _).drew k2⟩ | exact ⟨⟨cell_far (cell_far hSS.1.1 N1.out.1) N1.out.1, cell_far (cell_far hSS.1.2 N1.out.1) N1.out.1⟩, cell_far (cell_far hSS.2.1 N1.out.2) N1.out.2, cell_far (cell_far hSS.2.2 N1.out.2) N1.out.2⟩
              clear hKq Kq
              (try simp only [Act.put, List.setIfInBounds_toArray, List.set_cons_zero, List.set_cons_succ])
              clear hHeld1
              refine takeH (i := 9) (oi := _) (v := ?_) rfl (by kernel_rfl) (by kernel_rfl) (by kernel_rfl) (fun _ _ _ h => h) (Or.inl ⟨by rfl, ?_⟩) (by assumption) ?_
              rotate_left
              · first | (intro w hSw; (try dsimp only at hSw); go_simp; done) | (intro w hSw; (try dsimp only at hSw); go_simp; with_reducible rfl)
              (try simp only [Act.put, List.setIfInBounds_toArray, List.set_cons_zero, List.set_cons_succ])
              refine takeH (i := 10) (oi := _) (v := ?_) rfl (by kernel_rfl) (by kernel_rfl) (by kernel_rfl) (fun _ _ _ h => h) (Or.inl ⟨by rfl, ?_⟩) (by assumption) ?_
              rotate_left
              · first | (intro w hSw; (try dsimp only at hSw); go_simp; done) | (intro w hSw; (try dsimp only at hSw); go_simp; with_reducible rfl)
              (try simp only [Act.put, List.setIfInBounds_toArray, List.set_cons_zero, List.set_cons_succ])
              refine takeH (i := 11) (oi := _) (v := ?_) rfl (by kernel_rfl) (by kernel_rfl) (by kernel_rfl) (fun _ _ _ h => h) (Or.inl ⟨by rfl, ?_⟩) (by assumption) ?_
              rotate_left
              · first | (intro w hSw; (try dsimp only at hSw); go_simp; done) | (intro w hSw; (try dsimp only at hSw); go_simp; with_reducible rfl)
              (try simp only [Act.put, List.setIfInBounds_toArray, List.set_cons_zero, List.set_cons_succ])
              refine wpAnyH_ready (rs := [13]) (by kernel_rfl) (by simp) ?_
              refine consH rfl (fun Kq hKq => ?_)
              go_simp
              refine hKq.out _ _ ?_ (fun hHeld3 => ?_)
              · (try dsimp only); first | assumption | exact ⟨⟨f1, f2⟩, k1, k2⟩ | exact ⟨⟨cell_up (below_new w9 _) hSS.1.1, cell_up (below_new w9 _) hSS.1.2⟩, cell_up (below_new w9 _) hSS.2.1, cell_up (below_new w9 _) hSS.2.2⟩ | exact ⟨⟨cell_up (below_new wq _).drew f1, cell_up (below_new wq _).drew f2⟩, cell_up (below_new wq _).drew k1, cell_up (below_new wq _).drew k2⟩ | exact ⟨⟨cell_far (cell_far hSS.1.1 N1.out.1) N1.out.1, cell_far (cell_far hSS.1.2 N1.out.1) N1.out.1⟩, cell_far (cell_far hSS.2.1 N1.out.2) N1.out.2, cell_far (cell_far hSS.2.2 N1.out.2) N1.out.2⟩
              clear hKq Kq
              (try simp only [Act.put, List.setIfInBounds_toArray, List.set_cons_zero, List.set_cons_succ])
              clear hHeld2
              refine takeH (i := 14) (oi := _) (v := ?_) rfl (by kernel_rfl) (by kernel_rfl) (by kernel_rfl) (fun _ _ _ h => h) (Or.inl ⟨by rfl, ?_⟩) (by assumption) ?_
              rotate_left
              · first | (intro w hSw; (try dsimp only at hSw); go_simp; done) | (intro w hSw; (try dsimp only at hSw); go_simp; with_reducible rfl)
              (try simp only [Act.put, List.setIfInBounds_toArray, List.set_cons_zero, List.set_cons_succ])
              refine wpAnyH_done (by kernel_rfl) ?_ _
              refine NoPanic.normal ?_
              go_wp2_with fail
              go_meet
              case rel => exact ⟨rfl, ⟨_, rfl, (zz.sto0 _).sto1 _⟩, (b92.setCell (Nat.le_refl _) _).setCell (Nat.le_refl _) _⟩
          case rest =>
          obtain ⟨rfl, ⟨g, rfl, hPg⟩, hbw⟩ := hcut
          obtain ⟨wd, hwd⟩ : ∃ z, z = wc := ⟨_, rfl⟩
          rw [← hwd] at hPg hbw ⊢
          have HBD := Lib.hid (HBR.out.trans (hbw.mono HBR.out.size))
          have HPg := Lib.hid hPg
          clear hwd hPg hbw HBR
          obtain ⟨bl, ol, rfl, hcl⟩ := QL.out.at (i := x) HBD.out (by omega)
          have s0 := HPg.out.c0
          have s1 := HPg.out.c1
          have hq := (fun W => by rw [eqA2]; simp : ∀ W, (Op.equalIn 10000 48 (.agg #[.int .i64 (nth l x), .int .i64 1]) (.agg #[.int .i64 (nth l x), .int .i64 1])).run Try.prog W = .ok true W)
          have j1 : (0 : Int) ≤ (x : Int) := by omega
          by_cases hx0 : x = 0
          · subst hx0
            obtain ⟨k1, k2⟩ := CK.out wd HBD.out 0 hxp
            rw [Hkz.out.1] at k1
            rw [Hkz.out.2] at k2
            rw [Nat.zero_mul, Nat.add_zero] at k1 k2
            rw [Nat.add_zero] at hcl
            have hq0 := (fun W => by rw [eqA2]; simp : ∀ W, (Op.equalIn 10000 48 (.agg #[.int .i64 0, .int .i64 1]) (.agg #[.int .i64 0, .int .i64 1])).run Try.prog W = .ok true W)
            go_wp2_with fail
            go_quiet (fail)
            go_wp2_with fail
            go_roundw
            case rel => exact ⟨0 + 1, by omega, by go_num, below_drewN HBD.out _⟩
            case measure => simp [intOf] <;> omega
          · have hx1 : (x : Int) > 0 := by omega
            have hxe : ((x : Int) == 0) = false := by rw [beq_eq_false_iff_ne]; omega
            have hup := Hup.out x (by omega) hxp
            have hPT := QT.out.below HBD.out
            have x0 := hPT.c0
            obtain ⟨bp, op, rfl, hcp⟩ := QP.out.at (i := x) HBD.out (by omega)
            rw [hup.1] at hcp
            obtain ⟨q, hqp⟩ : ∃ z, z = par ps x := ⟨_, rfl⟩
            have hqx : q < x := by rw [hqp]; exact hup.2
            rw [← hqp] at hcp
            have HQ := Lib.hid hqp
            clear hPT hup hqp
            go_wp2_with fail
            go_quiet (fail)
            go_upto_region 19 with fail
            clear s0 s1 hq x0 hcp hcl
            generalize hwe : wd.drewN _ = we at *
            have hbe : Below wd.heap.size wd we := by rw [← hwe]; exact below_drewN (Below.refl _ _) _
            have HBE := Lib.hid (HBD.out.trans (hbe.mono HBD.out.size))
            clear hwe hbe
            go_cut [17, 18] from 84 to 124 (fun v17 v18 wc => v18 = .bool true ∧ (∃ g, v17 = .pointer (some ⟨g, 0, none⟩) ∧ Pair wc g (.int .i64 (kn1 ps ws l x)) (.int .i64 (kn2 ps ws l x))) ∧ Below we.heap.size we wc)
            case first => as_aux_lemma =>
              obtain ⟨f1, f2⟩ := CK.out we HBE.out q (by omega)
              obtain ⟨k1, k2⟩ := CD.out we HBE.out q (by omega)
              have HA := Lib.hid fun W => A8.out W x (by omega) hxp
              rw [← HQ.out] at HA
              have hz : wo.heap.size ≤ we.heap.size := HBE.out.size
              have n1 : bK ≠ we.heap.size := by have := HbF.out.2.1; omega
              have n2 : bD ≠ we.heap.size := by have := HbF.out.2.2; omega
              have N1 := Lib.hid (And.intro n1 n2)
              generalize kn1 ps ws l q = y1 at *
              generalize kn2 ps ws l q = y2 at *
              generalize Fr.at1 (driftL ps ws l) q = z1 at *
              generalize Fr.at2 (driftL ps ws l) q = z2 at *
              generalize kn1 ps ws l x = r1 at *
              generalize kn2 ps ws l x = r2 at *
              have j2 : (0 : Int) ≤ (q : Int) := by omega
              have j3 : (q : Int) < (nP : Int) := by omega
              clear n1 n2
              go_wp2_with fail
              refine wp_region_noPanic ?_
              refine wp_region_held_drew (S := (fun W' => (W'.cell? ⟨bK, oK + q * 2, none⟩ = some (.int .i64 y1) ∧ W'.cell? ⟨bK, oK + q * 2 + 1, none⟩ = some (.int .i64 y2)) ∧ W'.cell? ⟨bD, oD + q * 2, none⟩ = some (.int .i64 z1) ∧ W'.cell? ⟨bD, oD + q * 2 + 1, none⟩ = some (.int .i64 z2))) (by kernel_rfl) ?_ (fun hHeld0 => ?_)
              · (try dsimp only); first | assumption | exact ⟨⟨f1, f2⟩, k1, k2⟩ | exact ⟨⟨cell_up (below_new w9 _) hSS.1.1, cell_up (below_new w9 _) hSS.1.2⟩, cell_up (below_new w9 _) hSS.2.1, cell_up (below_new w9 _) hSS.2.2⟩ | exact ⟨⟨cell_up (below_new we _).drew f1, cell_up (below_new we _).drew f2⟩, cell_up (below_new we _).drew k1, cell_up (below_new we _).drew k2⟩ | exact ⟨⟨cell_far (cell_far hSS.1.1 N1.out.1) N1.out.1, cell_far (cell_far hSS.1.2 N1.out.1) N1.out.1⟩, cell_far (cell_far hSS.2.1 N1.out.2) N1.out.2, cell_far (cell_far hSS.2.2 N1.out.2) N1.out.2⟩
              refine takeH (i := 0) (oi := _) (v := ?_) rfl (by kernel_rfl) (by kernel_rfl) (by kernel_rfl) (fun _ _ _ h => h) (Or.inl ⟨by rfl, ?_⟩) (by assumption) ?_
              rotate_left
              · first | (intro w hSw; (try dsimp only at hSw); go_simp; done) | (intro w hSw; (try dsimp only at hSw); go_simp; with_reducible rfl)
              (try simp only [Act.put, List.setIfInBounds_toArray, List.set_cons_zero, List.set_cons_succ])
              refine takeH (i := 1) (oi := _) (v := ?_) rfl (by kernel_rfl) (by kernel_rfl) (by kernel_rfl) (fun _ _ _ h => h) (Or.inl ⟨by rfl, ?_⟩) (by assumption) ?_
              rotate_left
              · first | (intro w hSw; (try dsimp only at hSw); go_simp; done) | (intro w hSw; (try dsimp only at hSw); go_simp; with_reducible rfl)
              (try simp only [Act.put, List.setIfInBounds_toArray, List.set_cons_zero, List.set_cons_succ])
              refine takeH (i := 2) (oi := _) (v := ?_) rfl (by kernel_rfl) (by kernel_rfl) (by kernel_rfl) (fun _ _ _ h => h) (Or.inl ⟨by rfl, ?_⟩) (by assumption) ?_
              rotate_left
              · first | (intro w hSw; (try dsimp only at hSw); go_simp; done) | (intro w hSw; (try dsimp only at hSw); go_simp; with_reducible rfl)
              (try simp only [Act.put, List.setIfInBounds_toArray, List.set_cons_zero, List.set_cons_succ])
              refine takeH (i := 3) (oi := _) (v := ?_) rfl (by kernel_rfl) (by kernel_rfl) (by kernel_rfl) (fun _ _ _ h => h) (Or.inl ⟨by rfl, ?_⟩) (by assumption) ?_
              rotate_left
              · first | (intro w hSw; (try dsimp only at hSw); go_simp; done) | (intro w hSw; (try dsimp only at hSw); go_simp; with_reducible rfl)
              (try simp only [Act.put, List.setIfInBounds_toArray, List.set_cons_zero, List.set_cons_succ])
              refine takeH (i := 4) (oi := _) (v := ?_) rfl (by kernel_rfl) (by kernel_rfl) (by kernel_rfl) (fun _ _ _ h => h) (Or.inl ⟨by rfl, ?_⟩) (by assumption) ?_
              rotate_left
              · first | (intro w hSw; (try dsimp only at hSw); go_simp; done) | (intro w hSw; (try dsimp only at hSw); go_simp; with_reducible rfl)
              (try simp only [Act.put, List.setIfInBounds_toArray, List.set_cons_zero, List.set_cons_succ])
              refine takeH (i := 5) (oi := _) (v := ?_) rfl (by kernel_rfl) (by kernel_rfl) (by kernel_rfl) (fun _ _ _ h => h) (Or.inl ⟨by rfl, ?_⟩) (by assumption) ?_
              rotate_left
              · first | (intro w hSw; (try dsimp only at hSw); go_simp; done) | (intro w hSw; (try dsimp only at hSw); go_simp; with_reducible rfl)
              (try simp only [Act.put, List.setIfInBounds_toArray, List.set_cons_zero, List.set_cons_succ])
              refine takeH (i := 6) (oi := _) (v := ?_) rfl (by kernel_rfl) (by kernel_rfl) (by kernel_rfl) (fun _ _ _ h => h) (Or.inl ⟨by rfl, ?_⟩) (by assumption) ?_
              rotate_left
              · first | (intro w hSw; (try dsimp only at hSw); go_simp; done) | (intro w hSw; (try dsimp only at hSw); go_simp; with_reducible rfl)
              (try simp only [Act.put, List.setIfInBounds_toArray, List.set_cons_zero, List.set_cons_succ])
              refine takeH (i := 7) (oi := _) (v := ?_) rfl (by kernel_rfl) (by kernel_rfl) (by kernel_rfl) (fun _ _ _ h => h) (Or.inl ⟨by rfl, ?_⟩) (by assumption) ?_
              rotate_left
              · first | (intro w hSw; (try dsimp only at hSw); go_simp; done) | (intro w hSw; (try dsimp only at hSw); go_simp; with_reducible rfl)
              (try simp only [Act.put, List.setIfInBounds_toArray, List.set_cons_zero, List.set_cons_succ])
              refine wpAnyH_ready (rs := [8, 12]) (by kernel_rfl) (by simp) ?_
              refine consM rfl (fun Kq hKq => ?_) (consH rfl (fun Kq hKq => ?_))
              · go_simp
                (go_at_call 29; refine (HA.out _).mono ?_; rintro e w9 ⟨rfl, b9⟩
                 have b92 := (Below.refl we.heap.size we).drew.trans b9
                 have hSS := And.intro (And.intro (cell_up b92 f1) (cell_up b92 f2)) (And.intro (cell_up b92 k1) (cell_up b92 k2))
                 have zz := Pair.new w9 (.int .i64 0) (.int .i64 0) 48
                 have zz0 := zz.c0
                 have zz1 := zz.c1
                 have zz2 := zz.f0
                 have zz3 := zz.f1)
                refine hKq.out _ _ ?_ (fun hHeld1 => ?_)
                · (try dsimp only); first | assumption | exact ⟨⟨f1, f2⟩, k1, k2⟩ | exact ⟨⟨cell_up (below_new w9 _) hSS.1.1, cell_up (below_new w9 _) hSS.1.2⟩, cell_up (below_new w9 _) hSS.2.1, cell_up (below_new w9 _) hSS.2.2⟩ | exact ⟨⟨cell_up (below_new we _).drew f1, cell_up (below_new we _).drew f2⟩, cell_up (below_new we _).drew k1, cell_up (below_new we _).drew k2⟩ | exact ⟨⟨cell_far (cell_far hSS.1.1 N1.out.1) N1.out.1, cell_far (cell_far hSS.1.2 N1.out.1) N1.out.1⟩, cell_far (cell_far hSS.2.1 N1.out.2) N1.out.2, cell_far (cell_far hSS.2.2 N1.out.2) N1.out.2⟩
                clear hKq Kq
                (try simp only [Act.put, List.setIfInBounds_toArray, List.set_cons_zero, List.set_cons_succ])
                clear hHeld0
                refine takeH (i := 9) (oi := _) (v := ?_) rfl (by kernel_rfl) (by kernel_rfl) (by kernel_rfl) (fun _ _ _ h => h) (Or.inl ⟨by rfl, ?_⟩) (by assumption) ?_
                rotate_left
                · first | (intro w hSw; (try dsimp only at hSw); go_simp; done) | (intro w hSw; (try dsimp only at hSw); go_simp; with_reducible rfl)
                (try simp only [Act.put, List.setIfInBounds_toArray, List.set_cons_zero, List.set_cons_succ])
                refine takeH (i := 10) (oi := _) (v := ?_) rfl (by kernel_rfl) (by kernel_rfl) (by kernel_rfl) (fun _ _ _ h => h) (Or.inl ⟨by rfl, ?_⟩) (by assumption) ?_
                rotate_left
                · first | (intro w hSw; (try dsimp only at hSw); go_simp; done) | (intro w hSw; (try dsimp only at hSw); go_simp; with_reducible rfl)
                (try simp only [Act.put, List.setIfInBounds_toArray, List.set_cons_zero, List.set_cons_succ])
                refine takeH (i := 11) (oi := _) (v := ?_) rfl (by kernel_rfl) (by kernel_rfl) (by kernel_rfl) (fun _ _ _ h => h) (Or.inl ⟨by rfl, ?_⟩) (by assumption) ?_
                rotate_left
                · first | (intro w hSw; (try dsimp only at hSw); go_simp; done) | (intro w hSw; (try dsimp only at hSw); go_simp; with_reducible rfl)
                (try simp only [Act.put, List.setIfInBounds_toArray, List.set_cons_zero, List.set_cons_succ])
                refine wpAnyH_ready (rs := [12]) (by kernel_rfl) (by simp) ?_
                refine consH rfl (fun Kq hKq => ?_)
                go_simp
                refine hKq.out _ _ ?_ (fun hHeld2 => ?_)
                · (try dsimp only); first | assumption | exact ⟨⟨f1, f2⟩, k1, k2⟩ | exact ⟨⟨cell_up (below_new w9 _) hSS.1.1, cell_up (below_new w9 _) hSS.1.2⟩, cell_up (below_new w9 _) hSS.2.1, cell_up (below_new w9 _) hSS.2.2⟩ | exact ⟨⟨cell_up (below_new we _).drew f1, cell_up (below_new we _).drew f2⟩, cell_up (below_new we _).drew k1, cell_up (below_new we _).drew k2⟩ | exact ⟨⟨cell_far (cell_far hSS.1.1 N1.out.1) N1.out.1, cell_far (cell_far hSS.1.2 N1.out.1) N1.out.1⟩, cell_far (cell_far hSS.2.1 N1.out.2) N1.out.2, cell_far (cell_far hSS.2.2 N1.out.2) N1.out.2⟩
                clear hKq Kq
                (try simp only [Act.put, List.setIfInBounds_toArray, List.set_cons_zero, List.set_cons_succ])
                clear hHeld1
                refine wpAnyH_ready (rs := [13]) (by kernel_rfl) (by simp) ?_
                refine consH rfl (fun Kq hKq => ?_)
                go_simp
                refine hKq.out _ _ ?_ (fun hHeld3 => ?_)
                · (try dsimp only); first | assumption | exact ⟨⟨f1, f2⟩, k1, k2⟩ | exact ⟨⟨cell_up (below_new w9 _) hSS.1.1, cell_up (below_new w9 _) hSS.1.2⟩, cell_up (below_new w9 _) hSS.2.1, cell_up (below_new w9 _) hSS.2.2⟩ | exact ⟨⟨cell_up (below_new we _).drew f1, cell_up (below_new we _).drew f2⟩, cell_up (below_new we _).drew k1, cell_up (below_new we _).drew k2⟩ | exact ⟨⟨cell_far (cell_far hSS.1.1 N1.out.1) N1.out.1, cell_far (cell_far hSS.1.2 N1.out.1) N1.out.1⟩, cell_far (cell_far hSS.2.1 N1.out.2) N1.out.2, cell_far (cell_far hSS.2.2 N1.out.2) N1.out.2⟩
                clear hKq Kq
                (try simp only [Act.put, List.setIfInBounds_toArray, List.set_cons_zero, List.set_cons_succ])
                clear hHeld2
                refine takeH (i := 14) (oi := _) (v := ?_) rfl (by kernel_rfl) (by kernel_rfl) (by kernel_rfl) (fun _ _ _ h => h) (Or.inl ⟨by rfl, ?_⟩) (by assumption) ?_
                rotate_left
                · first | (intro w hSw; (try dsimp only at hSw); go_simp; done) | (intro w hSw; (try dsimp only at hSw); go_simp; with_reducible rfl)
                (try simp only [Act.put, List.setIfInBounds_toArray, List.set_cons_zero, List.set_cons_succ])
                refine wpAnyH_done (by kernel_rfl) ?_ _
                refine NoPanic.normal ?_
                go_wp2_with fail
                go_meet
                case rel => exact ⟨rfl, ⟨_, rfl, Pair.new w9 _ _ _⟩, b92.trans ((below_new w9 _).mono b92.size)⟩
              · go_simp
                have HN := (Pair.new we (.int .i64 0) (.int .i64 0) 48).drew
                refine hKq.out _ _ ?_ (fun hHeld1 => ?_)
                · (try dsimp only); first | assumption | exact ⟨⟨f1, f2⟩, k1, k2⟩ | exact ⟨⟨cell_up (below_new w9 _) hSS.1.1, cell_up (below_new w9 _) hSS.1.2⟩, cell_up (below_new w9 _) hSS.2.1, cell_up (below_new w9 _) hSS.2.2⟩ | exact ⟨⟨cell_up (below_new we _).drew f1, cell_up (below_new we _).drew f2⟩, cell_up (below_new we _).drew k1, cell_up (below_new we _).drew k2⟩ | exact ⟨⟨cell_far (cell_far hSS.1.1 N1.out.1) N1.out.1, cell_far (cell_far hSS.1.2 N1.out.1) N1.out.1⟩, cell_far (cell_far hSS.2.1 N1.out.2) N1.out.2, cell_far (cell_far hSS.2.2 N1.out.2) N1.out.2⟩
                clear hKq Kq
                (try simp only [Act.put, List.setIfInBounds_toArray, List.set_cons_zero, List.set_cons_succ])
                clear hHeld0
                refine wpAnyH_ready (rs := [8]) (by kernel_rfl) (by simp) ?_
                refine consH rfl (fun Kq hKq => ?_)
                go_simp
                (go_at_call 29; refine (HA.out _).mono ?_; rintro e w9 ⟨rfl, b9⟩
                 have b92 := ((below_new we (.cells #[.int .i64 0, .int .i64 0] 48)).drew).trans (b9.mono (by simp))
                 have hSS := And.intro (And.intro (cell_up b92 f1) (cell_up b92 f2)) (And.intro (cell_up b92 k1) (cell_up b92 k2))
                 have zz := HN.below b9
                 have zz0 := zz.c0
                 have zz1 := zz.c1
                 have zz2 := zz.f0
                 have zz3 := zz.f1)
                refine hKq.out _ _ ?_ (fun hHeld2 => ?_)
                · (try dsimp only); first | assumption | exact ⟨⟨f1, f2⟩, k1, k2⟩ | exact ⟨⟨cell_up (below_new w9 _) hSS.1.1, cell_up (below_new w9 _) hSS.1.2⟩, cell_up (below_new w9 _) hSS.2.1, cell_up (below_new w9 _) hSS.2.2⟩ | exact ⟨⟨cell_up (below_new we _).drew f1, cell_up (below_new we _).drew f2⟩, cell_up (below_new we _).drew k1, cell_up (below_new we _).drew k2⟩ | exact ⟨⟨cell_far (cell_far hSS.1.1 N1.out.1) N1.out.1, cell_far (cell_far hSS.1.2 N1.out.1) N1.out.1⟩, cell_far (cell_far hSS.2.1 N1.out.2) N1.out.2, cell_far (cell_far hSS.2.2 N1.out.2) N1.out.2⟩
                clear hKq Kq
                (try simp only [Act.put, List.setIfInBounds_toArray, List.set_cons_zero, List.set_cons_succ])
                clear hHeld1
                refine takeH (i := 9) (oi := _) (v := ?_) rfl (by kernel_rfl) (by kernel_rfl) (by kernel_rfl) (fun _ _ _ h => h) (Or.inl ⟨by rfl, ?_⟩) (by assumption) ?_
                rotate_left
                · first | (intro w hSw; (try dsimp only at hSw); go_simp; done) | (intro w hSw; (try dsimp only at hSw); go_simp; with_reducible rfl)
                (try simp only [Act.put, List.setIfInBounds_toArray, List.set_cons_zero, List.set_cons_succ])
                refine takeH (i := 10) (oi := _) (v := ?_) rfl (by kernel_rfl) (by kernel_rfl) (by kernel_rfl) (fun _ _ _ h => h) (Or.inl ⟨by rfl, ?_⟩) (by assumption) ?_
                rotate_left
                · first | (intro w hSw; (try dsimp only at hSw); go_simp; done) | (intro w hSw; (try dsimp only at hSw); go_simp; with_reducible rfl)
                (try simp only [Act.put, List.setIfInBounds_toArray, List.set_cons_zero, List.set_cons_succ])
                refine takeH (i := 11) (oi := _) (v := ?_) rfl (by kernel_rfl) (by kernel_rfl) (by kernel_rfl) (fun _ _ _ h => h) (Or.inl ⟨by rfl, ?_⟩) (by assumption) ?_
                rotate_left
                · first | (intro w hSw; (try dsimp only at hSw); go_simp; done) | (intro w hSw; (try dsimp only at hSw); go_simp; with_reducible rfl)
                (try simp only [Act.put, List.setIfInBounds_toArray, List.set_cons_zero, List.set_cons_succ])
                refine wpAnyH_ready (rs := [13]) (by kernel_rfl) (by simp) ?_
                refine consH rfl (fun Kq hKq => ?_)
                go_simp
                refine hKq.out _ _ ?_ (fun hHeld3 => ?_)
                · (try dsimp only); first | assumption | exact ⟨⟨f1, f2⟩, k1, k2⟩ | exact ⟨⟨cell_up (below_new w9 _) hSS.1.1, cell_up (below_new w9 _) hSS.1.2⟩, cell_up (below_new w9 _) hSS.2.1, cell_up (below_new w9 _) hSS.2.2⟩ | exact ⟨⟨cell_up (below_new we _).drew f1, cell_up (below_new we _).drew f2⟩, cell_up (below_new we _).drew k1, cell_up (below_new we _).drew k2⟩ | exact ⟨⟨cell_far (cell_far hSS.1.1 N1.out.1) N1.out.1, cell_far (cell_far hSS.1.2 N1.out.1) N1.out.1⟩, cell_far (cell_far hSS.2.1 N1.out.2) N1.out.2, cell_far (cell_far hSS.2.2 N1.out.2) N1.out.2⟩
                clear hKq Kq
                (try simp only [Act.put, List.setIfInBounds_toArray, List.set_cons_zero, List.set_cons_succ])
                clear hHeld2
                refine takeH (i := 14) (oi := _) (v := ?_) rfl (by kernel_rfl) (by kernel_rfl) (by kernel_rfl) (fun _ _ _ h => h) (Or.inl ⟨by rfl, ?_⟩) (by assumption) ?_
                rotate_left
                · first | (intro w hSw; (try dsimp only at hSw); go_simp; done) | (intro w hSw; (try dsimp only at hSw); go_simp; with_reducible rfl)
                (try simp only [Act.put, List.setIfInBounds_toArray, List.set_cons_zero, List.set_cons_succ])
                refine wpAnyH_done (by kernel_rfl) ?_ _
                refine NoPanic.normal ?_
                go_wp2_with fail
                go_meet
                case rel => exact ⟨rfl, ⟨_, rfl, (zz.sto0 _).sto1 _⟩, (b92.setCell (Nat.le_refl _) _).setCell (Nat.le_refl _) _⟩
            case rest =>
            obtain ⟨rfl, ⟨g2, rfl, hPk⟩, hbw⟩ := hcut
            obtain ⟨wf, hwf⟩ : ∃ z, z = wc := ⟨_, rfl⟩
            rw [← hwf] at hPk hbw ⊢
            have HBF := Lib.hid (HBE.out.trans (hbw.mono HBE.out.size))
            have s0 := hPk.c0
            have s1 := hPk.c1
            obtain ⟨k1, k2⟩ := CK.out wf HBF.out x hxp
            have hq := (fun W => by rw [eqA2]; simp : ∀ W, (Op.equalIn 10000 48 (.agg #[.int .i64 (kn1 ps ws l x), .int .i64 (kn2 ps ws l x)]) (.agg #[.int .i64 (kn1 ps ws l x), .int .i64 (kn2 ps ws l x)])).run Try.prog W = .ok true W)
            clear hwf hPk hbw HBE
            go_wp2_with fail
            go_quiet (fail)
            go_wp2_with fail
            go_roundw
            case rel => exact ⟨x + 1, by omega, by go_num, below_drewN HBF.out _⟩
            case measure => simp [intOf] <;> omega
        · obtain rfl : x = nP := by omega
          have HBZ := Lib.hid (QB.out.trans (hbr.mono QB.out.size))
          go_wp2_with fail
          go_ret
          exact ⟨rfl, HBZ.out⟩
end Go.Proofs.Ytnbomleieianoaa.fnDoob
