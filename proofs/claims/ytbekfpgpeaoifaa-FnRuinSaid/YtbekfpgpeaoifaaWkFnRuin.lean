/- The walk through the law FnRuin: it returns true. No conditions but that the argument can be read. -/
import Derived.Test.YtbekfpgpeaoifaaPlFnR
import Derived.Test.YtbekfpgpeaoifaaEqA
import Derived.Test.YtbekfpgpeaoifaaB2
import Derived.Test.YtbekfpgpeaoifaaDrawR
import Derived.Test.YtbekfpgpeaoifaaTabI
import Derived.Test.YtbekfpgpeaoifaaLawV
import Derived.Test.YtbekfpgpeaoifaaOpenB
import Derived.Test.YtbekfpgpeaoifaaCut
import Derived.Deep.DeepCutAuto
import Derived.Deep.CutRange
import Derived.Deep.QuietTactic
namespace Go.Proofs.Ytbekfpgpeaoifaa.fnRuin
open Go.RowKit
set_option linter.unusedVariables false
theorem stepsV_len {a b i n k : Int} : (stepsV a b i n k).length ≤ 13 := by
  unfold stepsV
  cases h : stepsOk a b i n k
  · simp
  · have := stepsOk_t h
    rw [if_pos rfl, rollK_length]; omega
theorem steps_facts {a b i n k : Int} (h : stepsOk a b i n k = true) : ∃ N K J : Nat, n = N ∧ k = K ∧ i = J ∧ (1 ≤ a ∧ a ≤ 20) ∧ (1 ≤ b ∧ b ≤ 20) ∧ (1 ≤ N ∧ N ≤ 12) ∧ J ≤ N ∧ K ≤ 8 ∧ (stepsV a b i n k).length = N + 1 ∧ sumL (stepsV a b i n k) = powI (a + b) K ∧
    (∀ q, 0 ≤ sumL ((stepsV a b i n k).take q) ∧ sumL ((stepsV a b i n k).take q) ≤ 6553600000000) ∧ tabOk a b n k = true ∧ (tabV stT a b n k).length = K + 1 ∧ (row (tabV stT a b n k) K).length = N + 1 ∧ nth (stepsV a b i n k) N = nth (row (tabV stT a b n k) K) J := by
  obtain ⟨⟨h1, h2, h3, h4, h5, h6⟩, ⟨h7, h8⟩, h9, h10⟩ := stepsOk_t h
  obtain ⟨N, rfl⟩ : ∃ N : Nat, n = N := ⟨n.toNat, by omega⟩
  obtain ⟨K, rfl⟩ : ∃ K : Nat, k = K := ⟨k.toNat, by omega⟩
  obtain ⟨J, rfl⟩ : ∃ J : Nat, i = J := ⟨i.toNat, by omega⟩
  have hv : stepsV a b J N K = rollK a b N J K := by unfold stepsV; rw [if_pos h]; simp
  have hbd := rollK_bd (a := a) (b := b) (by omega) (by omega) (by omega) N J K (by omega) (by omega)
  have htk : tabOk a b N K = true := by
    simp only [stepsOk, Bool.and_eq_true] at h
    unfold tabOk; rw [h.1.1, h.2]; rfl
  have htv : tabV stT a b N K = tabL (stT N) a b N K := by unfold tabV; rw [if_pos htk]; simp
  refine ⟨N, K, J, rfl, rfl, rfl, ⟨h1, h2⟩, ⟨h3, h4⟩, by omega, by omega, by omega, by rw [hv, rollK_length], by rw [hv]; exact rollK_sum a b N J K (by omega), fun q => ?_, htk, by rw [htv, tabL_length], ?_, ?_⟩
  · rw [hv]
    have := sumL_nn (hbd.1.take q)
    have := sumL_take_le hbd.1 q
    omega
  · rw [htv, row_tabL _ _ _ _ _ _ (Nat.le_refl _), tabRow_length]
  · rw [hv, htv, row_tabL _ _ _ _ _ _ (Nat.le_refl _)]
    exact steps_table (by omega) (by omega) (by omega) K J (by omega)
set_option maxRecDepth 100000 in
set_option maxHeartbeats 4000000 in
theorem walk (a : Option Addr) (n c : Nat) (w : World) (hm : n ≤ maxLen) (hc : n ≤ c ∧ c ≤ maxLen ∧ (a = none → c = 0)) (h : Bytes0 w a n) :
    Calls Try.prog 6 #[.slice a n c] w fun e w' => e = .returned (.bool true) ∧ Below w.heap.size w w' := by
  clear hm
  by_cases hbig : (n : Int) > 65536
  · go_enter Try.func6, Try.ntmps6
    go_wp2_with (go_at_call 7; refine (laws_vBig _ _ _ _).mono ?_; rintro e w' ⟨rfl, rfl⟩; rw [decide_eq_true hbig])
    go_ret
    exact ⟨rfl, Below.refl _ _⟩
  · have HB := Lib.hid (h.few (by omega))
    have Hc := Lib.hid hc
    have Hnb := Lib.hid hbig
    clear h hc
    go_enter Try.func6, Try.ntmps6
    go_wp2_with (go_at_call 7; refine (laws_vBig _ _ _ _).mono ?_; rintro e w' ⟨rfl, rfl⟩; rw [decide_eq_false hbig])
    refine (spec_DrawRuinChance _ _ _ _ HB.out).mono ?_
    rintro e w1 ⟨⟨ra, rb, ri, rn, rfl⟩, b1⟩
    have HBB := Lib.hid b1
    have HB1 := Lib.hid (HB.out.below b1)
    clear b1
    obtain ⟨ch0, hch0⟩ : ∃ z, z = rcN ra rb ri rn := ⟨_, rfl⟩
    obtain ⟨ch1, hch1⟩ : ∃ z, z = rcD ra rb ri rn := ⟨_, rfl⟩
    obtain ⟨chb, hchb⟩ : ∃ z, z = rcB ra rb ri rn := ⟨_, rfl⟩
    have Ich : Hid (∀ W : World, Calls Try.prog 40 #[.int .i64 ra, .int .i64 rb, .int .i64 ri, .int .i64 rn] W fun e w' => e = .returned (.tuple #[.agg #[.int .i64 ch0, .int .i64 ch1], .bool chb]) ∧ Below W.heap.size W w') := Lib.hid fun W => by rw [hch0, hch1, hchb]; exact impl_RuinChance _ _ _ _ W
    have Sch : Hid (∀ W : World, Calls Try.prog 41 #[.int .i64 ra, .int .i64 rb, .int .i64 ri, .int .i64 rn] W fun e w' => e = .returned (.tuple #[.agg #[.int .i64 ch0, .int .i64 ch1], .bool chb]) ∧ Below W.heap.size W w') := Lib.hid fun W => by rw [hch0, hch1, hchb]; exact spec_RuinChance _ _ _ _ W
    obtain ⟨mn0, hmn0⟩ : ∃ z, z = rmN ra rb ri rn := ⟨_, rfl⟩
    obtain ⟨mn1, hmn1⟩ : ∃ z, z = rmD ra rb ri rn := ⟨_, rfl⟩
    obtain ⟨mnb, hmnb⟩ : ∃ z, z = rmB ra rb ri rn := ⟨_, rfl⟩
    have Imn : Hid (∀ W : World, Calls Try.prog 42 #[.int .i64 ra, .int .i64 rb, .int .i64 ri, .int .i64 rn] W fun e w' => e = .returned (.tuple #[.agg #[.int .i64 mn0, .int .i64 mn1], .bool mnb]) ∧ Below W.heap.size W w') := Lib.hid fun W => by rw [hmn0, hmn1, hmnb]; exact impl_RuinMean _ _ _ _ W
    have Smn : Hid (∀ W : World, Calls Try.prog 43 #[.int .i64 ra, .int .i64 rb, .int .i64 ri, .int .i64 rn] W fun e w' => e = .returned (.tuple #[.agg #[.int .i64 mn0, .int .i64 mn1], .bool mnb]) ∧ Below W.heap.size W w') := Lib.hid fun W => by rw [hmn0, hmn1, hmnb]; exact spec_RuinMean _ _ _ _ W
    obtain ⟨up0, hup0⟩ : ∃ z, z = rcN ra rb (ri + 1) rn := ⟨_, rfl⟩
    obtain ⟨up1, hup1⟩ : ∃ z, z = rcD ra rb (ri + 1) rn := ⟨_, rfl⟩
    obtain ⟨upb, hupb⟩ : ∃ z, z = rcB ra rb (ri + 1) rn := ⟨_, rfl⟩
    have Iup : Hid (∀ W : World, Calls Try.prog 40 #[.int .i64 ra, .int .i64 rb, .int .i64 (ri + 1), .int .i64 rn] W fun e w' => e = .returned (.tuple #[.agg #[.int .i64 up0, .int .i64 up1], .bool upb]) ∧ Below W.heap.size W w') := Lib.hid fun W => by rw [hup0, hup1, hupb]; exact impl_RuinChance _ _ _ _ W
    obtain ⟨dw0, hdw0⟩ : ∃ z, z = rcN ra rb (ri - 1) rn := ⟨_, rfl⟩
    obtain ⟨dw1, hdw1⟩ : ∃ z, z = rcD ra rb (ri - 1) rn := ⟨_, rfl⟩
    obtain ⟨dwb, hdwb⟩ : ∃ z, z = rcB ra rb (ri - 1) rn := ⟨_, rfl⟩
    have Idw : Hid (∀ W : World, Calls Try.prog 40 #[.int .i64 ra, .int .i64 rb, .int .i64 (ri - 1), .int .i64 rn] W fun e w' => e = .returned (.tuple #[.agg #[.int .i64 dw0, .int .i64 dw1], .bool dwb]) ∧ Below W.heap.size W w') := Lib.hid fun W => by rw [hdw0, hdw1, hdwb]; exact impl_RuinChance _ _ _ _ W
    obtain ⟨mo0, hmo0⟩ : ∃ z, z = rmN ra rb (ri + 1) rn := ⟨_, rfl⟩
    obtain ⟨mo1, hmo1⟩ : ∃ z, z = rmD ra rb (ri + 1) rn := ⟨_, rfl⟩
    obtain ⟨mob, hmob⟩ : ∃ z, z = rmB ra rb (ri + 1) rn := ⟨_, rfl⟩
    have Imo : Hid (∀ W : World, Calls Try.prog 42 #[.int .i64 ra, .int .i64 rb, .int .i64 (ri + 1), .int .i64 rn] W fun e w' => e = .returned (.tuple #[.agg #[.int .i64 mo0, .int .i64 mo1], .bool mob]) ∧ Below W.heap.size W w') := Lib.hid fun W => by rw [hmo0, hmo1, hmob]; exact impl_RuinMean _ _ _ _ W
    obtain ⟨le0, hle0⟩ : ∃ z, z = rmN ra rb (ri - 1) rn := ⟨_, rfl⟩
    obtain ⟨le1, hle1⟩ : ∃ z, z = rmD ra rb (ri - 1) rn := ⟨_, rfl⟩
    obtain ⟨leb, hleb⟩ : ∃ z, z = rmB ra rb (ri - 1) rn := ⟨_, rfl⟩
    have Ile : Hid (∀ W : World, Calls Try.prog 42 #[.int .i64 ra, .int .i64 rb, .int .i64 (ri - 1), .int .i64 rn] W fun e w' => e = .returned (.tuple #[.agg #[.int .i64 le0, .int .i64 le1], .bool leb]) ∧ Below W.heap.size W w') := Lib.hid fun W => by rw [hle0, hle1, hleb]; exact impl_RuinMean _ _ _ _ W
    have FZ : Hid (chb = true → (1 ≤ ra ∧ ra ≤ 20) ∧ (1 ≤ rb ∧ rb ≤ 20) ∧ (1 ≤ rn ∧ rn ≤ 12) ∧ (0 ≤ ri ∧ ri ≤ rn) ∧ (ri = 0 → ch0 = 0 ∧ ch1 = 1) ∧ (ri = rn → ch0 = 1 ∧ ch1 = 1)) := Lib.hid fun h => by
      rw [hchb] at h
      have hg := game4_u (rc_cross h).1
      refine ⟨hg.1, hg.2.1, hg.2.2.1, hg.2.2.2, fun e => ?_, fun e => ?_⟩
      · subst e; rw [hch0, hch1]; exact chance_zero h
      · subst e; rw [hch0, hch1]; exact chance_one h
    have FC : Hid (chb = true → upb = true → dwb = true → 1 ≤ ri → ri + 1 ≤ rn → IntKind.i64.wrap (IntKind.i64.wrap (IntKind.i64.wrap (IntKind.i64.wrap (ra * up0) * dw1) + IntKind.i64.wrap (IntKind.i64.wrap (rb * dw0) * up1)) * ch1) = IntKind.i64.wrap (IntKind.i64.wrap (IntKind.i64.wrap ((ra + rb) * ch0) * up1) * dw1)) := Lib.hid fun h1 h2 h3 h4 h5 => by
      rw [hch0, hch1, hup0, hup1, hdw0, hdw1]
      exact wr_chance (chance_law (hchb ▸ h1) (hupb ▸ h2) (hdwb ▸ h3) h4 h5)
    have FM : Hid (mnb = true → mob = true → leb = true → 1 ≤ ri → ri + 1 ≤ rn → IntKind.i64.wrap (IntKind.i64.wrap (IntKind.i64.wrap (IntKind.i64.wrap (IntKind.i64.wrap (ra * mo0) * le1) + IntKind.i64.wrap (IntKind.i64.wrap (rb * le0) * mo1)) + IntKind.i64.wrap (IntKind.i64.wrap ((ra + rb) * mo1) * le1)) * mn1) = IntKind.i64.wrap (IntKind.i64.wrap (IntKind.i64.wrap ((ra + rb) * mn0) * mo1) * le1)) := Lib.hid fun h1 h2 h3 h4 h5 => by
      rw [hmn0, hmn1, hmo0, hmo1, hle0, hle1]
      exact wr_mean (mean_law (hmnb ▸ h1) (hmob ▸ h2) (hleb ▸ h3) h4 h5)
    clear hch0 hch1 hchb hmn0 hmn1 hmnb hup0 hup1 hupb hdw0 hdw1 hdwb hmo0 hmo1 hmob hle0 hle1 hleb
    have HL0 := Lib.hid (Below.refl w1.heap.size w1)
    go_wp2_with fail
    refine (Ich.out _).mono ?_
    rintro e w2 ⟨rfl, b2⟩
    have HB1_2 := Lib.hid (HB1.out.below b2)
    have HL0_2 := Lib.hid (HL0.out.trans (b2.mono HL0.out.size))
    have HBB_2 := Lib.hid (HBB.out.trans (b2.mono HBB.out.size))
    clear b2 HB1 HL0 HBB
    have zz := Pair.new w2 (.int .i64 0) (.int .i64 0) 47
    have zz0 := zz.c0
    have zz1 := zz.c1
    have zz2 := zz.f0
    have zz3 := zz.f1
    clear zz
    have nb := below_new w2 (.cells #[.int .i64 ch0, .int .i64 ch1] 47)
    have CH_3 := Lib.hid (Pair.new w2 (.int .i64 ch0) (.int .i64 ch1) 47)
    have HB1_3 := Lib.hid (HB1_2.out.below nb)
    have HL0_3 := Lib.hid (HL0_2.out.trans (nb.mono HL0_2.out.size))
    have HBB_3 := Lib.hid (HBB_2.out.trans (nb.mono HBB_2.out.size))
    clear nb HB1_2 HL0_2 HBB_2
    go_wp2_with fail
    clear zz0 zz1 zz2 zz3 
    generalize (w2.alloc (.cells #[.int .i64 ch0, .int .i64 ch1] 47)) = w3 at *
    refine (Sch.out _).mono ?_
    rintro e w4 ⟨rfl, b4⟩
    have HB1_4 := Lib.hid (HB1_3.out.below b4)
    have CH_4 := Lib.hid (CH_3.out.below b4)
    have HL0_4 := Lib.hid (HL0_3.out.trans (b4.mono HL0_3.out.size))
    have HBB_4 := Lib.hid (HBB_3.out.trans (b4.mono HBB_3.out.size))
    clear b4 HB1_3 CH_3 HL0_3 HBB_3
    have zz := Pair.new w4 (.int .i64 0) (.int .i64 0) 47
    have zz0 := zz.c0
    have zz1 := zz.c1
    have zz2 := zz.f0
    have zz3 := zz.f1
    clear zz
    have nb := below_new w4 (.cells #[.int .i64 ch0, .int .i64 ch1] 47)
    have CW_5 := Lib.hid (Pair.new w4 (.int .i64 ch0) (.int .i64 ch1) 47)
    have HB1_5 := Lib.hid (HB1_4.out.below nb)
    have CH_5 := Lib.hid (CH_4.out.below nb)
    have HL0_5 := Lib.hid (HL0_4.out.trans (nb.mono HL0_4.out.size))
    have HBB_5 := Lib.hid (HBB_4.out.trans (nb.mono HBB_4.out.size))
    clear nb HB1_4 CH_4 HL0_4 HBB_4
    go_wp2_with fail
    clear zz0 zz1 zz2 zz3 
    generalize (w4.alloc (.cells #[.int .i64 ch0, .int .i64 ch1] 47)) = w5 at *
    refine (Imn.out _).mono ?_
    rintro e w6 ⟨rfl, b6⟩
    have HB1_6 := Lib.hid (HB1_5.out.below b6)
    have CH_6 := Lib.hid (CH_5.out.below b6)
    have CW_6 := Lib.hid (CW_5.out.below b6)
    have HL0_6 := Lib.hid (HL0_5.out.trans (b6.mono HL0_5.out.size))
    have HBB_6 := Lib.hid (HBB_5.out.trans (b6.mono HBB_5.out.size))
    clear b6 HB1_5 CH_5 CW_5 HL0_5 HBB_5
    have zz := Pair.new w6 (.int .i64 0) (.int .i64 0) 47
    have zz0 := zz.c0
    have zz1 := zz.c1
    have zz2 := zz.f0
    have zz3 := zz.f1
    clear zz
    have nb := below_new w6 (.cells #[.int .i64 mn0, .int .i64 mn1] 47)
    have MN_7 := Lib.hid (Pair.new w6 (.int .i64 mn0) (.int .i64 mn1) 47)
    have HB1_7 := Lib.hid (HB1_6.out.below nb)
    have CH_7 := Lib.hid (CH_6.out.below nb)
    have CW_7 := Lib.hid (CW_6.out.below nb)
    have HL0_7 := Lib.hid (HL0_6.out.trans (nb.mono HL0_6.out.size))
    have HBB_7 := Lib.hid (HBB_6.out.trans (nb.mono HBB_6.out.size))
    clear nb HB1_6 CH_6 CW_6 HL0_6 HBB_6
    go_wp2_with fail
    clear zz0 zz1 zz2 zz3 
    generalize (w6.alloc (.cells #[.int .i64 mn0, .int .i64 mn1] 47)) = w7 at *
    refine (Smn.out _).mono ?_
    rintro e w8 ⟨rfl, b8⟩
    have HB1_8 := Lib.hid (HB1_7.out.below b8)
    have CH_8 := Lib.hid (CH_7.out.below b8)
    have CW_8 := Lib.hid (CW_7.out.below b8)
    have MN_8 := Lib.hid (MN_7.out.below b8)
    have HL0_8 := Lib.hid (HL0_7.out.trans (b8.mono HL0_7.out.size))
    have HBB_8 := Lib.hid (HBB_7.out.trans (b8.mono HBB_7.out.size))
    clear b8 HB1_7 CH_7 CW_7 MN_7 HL0_7 HBB_7
    have zz := Pair.new w8 (.int .i64 0) (.int .i64 0) 47
    have zz0 := zz.c0
    have zz1 := zz.c1
    have zz2 := zz.f0
    have zz3 := zz.f1
    clear zz
    have nb := below_new w8 (.cells #[.int .i64 mn0, .int .i64 mn1] 47)
    have MW_9 := Lib.hid (Pair.new w8 (.int .i64 mn0) (.int .i64 mn1) 47)
    have HB1_9 := Lib.hid (HB1_8.out.below nb)
    have CH_9 := Lib.hid (CH_8.out.below nb)
    have CW_9 := Lib.hid (CW_8.out.below nb)
    have MN_9 := Lib.hid (MN_8.out.below nb)
    have HL0_9 := Lib.hid (HL0_8.out.trans (nb.mono HL0_8.out.size))
    have HBB_9 := Lib.hid (HBB_8.out.trans (nb.mono HBB_8.out.size))
    clear nb HB1_8 CH_8 CW_8 MN_8 HL0_8 HBB_8
    go_wp2_with fail
    clear zz0 zz1 zz2 zz3 
    generalize (w8.alloc (.cells #[.int .i64 mn0, .int .i64 mn1] 47)) = w9 at *
    clear Ich Sch Imn Smn
    as_aux_lemma =>
    refine (laws_vCut _ _ _ _ (by have := Hnb.out; omega) Hc.out.1 Hc.out.2.2 HB1_9.out).mono ?_
    rintro e w10 ⟨v10, rfl, ⟨a20, n20, c20, rfl, hy20⟩, b10⟩
    have HY20 := Lib.hid hy20
    clear hy20
    have HB1_10 := Lib.hid (HB1_9.out.below b10)
    have CH_10 := Lib.hid (CH_9.out.below b10)
    have CW_10 := Lib.hid (CW_9.out.below b10)
    have MN_10 := Lib.hid (MN_9.out.below b10)
    have MW_10 := Lib.hid (MW_9.out.below b10)
    have HL0_10 := Lib.hid (HL0_9.out.trans (b10.mono HL0_9.out.size))
    have HBB_10 := Lib.hid (HBB_9.out.trans (b10.mono HBB_9.out.size))
    clear b10 HB1_9 CH_9 CW_9 MN_9 MW_9 HL0_9 HBB_9
    clear HB1_10
    clear HB Hc Hnb
    go_wp2_with fail
    refine (spec_DrawRuinSteps _ _ _ _ HY20.out).mono ?_
    rintro e w11 ⟨⟨y1, y2, y3, y4, y5, rfl⟩, b11⟩
    have CH_11 := Lib.hid (CH_10.out.below b11)
    have CW_11 := Lib.hid (CW_10.out.below b11)
    have MN_11 := Lib.hid (MN_10.out.below b11)
    have MW_11 := Lib.hid (MW_10.out.below b11)
    have HL0_11 := Lib.hid (HL0_10.out.trans (b11.mono HL0_10.out.size))
    have HBB_11 := Lib.hid (HBB_10.out.trans (b11.mono HBB_10.out.size))
    clear b11 CH_10 CW_10 MN_10 MW_10 HL0_10 HBB_10
    clear HY20
    obtain ⟨there, hthere⟩ : ∃ z, z = stepsOk y1 y2 y3 y4 y5 := ⟨_, rfl⟩
    obtain ⟨sl, hsl⟩ : ∃ z, z = stepsV y1 y2 y3 y4 y5 := ⟨_, rfl⟩
    obtain ⟨nS, hnS⟩ : ∃ z, z = sl.length := ⟨_, rfl⟩
    obtain ⟨tb, htb⟩ : ∃ z, z = tabV stT y1 y2 y4 y5 := ⟨_, rfl⟩
    have Q1 : Hid (∀ W : World, Calls Try.prog 45 #[.int .i64 y1, .int .i64 y2, .int .i64 y3, .int .i64 y4, .int .i64 y5] W fun e w' => ∃ v, e = .returned (.tuple #[v, .bool there]) ∧ Own w' W.heap.size v sl ∧ Below W.heap.size W w') := Lib.hid fun W => by rw [hthere, hsl]; exact impl_RuinSteps _ _ _ _ _ W
    have Q2 : Hid (∀ W : World, Calls Try.prog 46 #[.int .i64 y1, .int .i64 y2, .int .i64 y3, .int .i64 y4, .int .i64 y5] W fun e w' => ∃ v, e = .returned (.tuple #[v, .bool there]) ∧ Own w' W.heap.size v sl ∧ Below W.heap.size W w') := Lib.hid fun W => by rw [hthere, hsl]; exact spec_RuinSteps _ _ _ _ _ W
    have Q3 : Hid (there = true → ∀ W : World, Calls Try.prog 13 #[.int .i64 y1, .int .i64 y2, .int .i64 y4, .int .i64 y5] W fun e w' => ∃ v, e = .returned (.tuple #[v, .bool true]) ∧ HasSS w' W.heap.size v tb ∧ Below W.heap.size W w') := Lib.hid fun h1 W => by
      obtain ⟨N, K, J, -, -, -, -, -, -, -, -, -, -, -, hk, -⟩ := steps_facts (hthere ▸ h1)
      have hz := impl_TimidTable y1 y2 y4 y5 W
      rw [hk, ← htb] at hz
      exact hz
    have FS : Hid (there = true → ∃ N K J : Nat, y4 = N ∧ y5 = K ∧ y3 = J ∧ (1 ≤ y1 ∧ y1 ≤ 20) ∧ (1 ≤ y2 ∧ y2 ≤ 20) ∧ (1 ≤ N ∧ N ≤ 12) ∧ J ≤ N ∧ K ≤ 8 ∧ nS = N + 1 ∧ sumL sl = powI (y1 + y2) K ∧ (∀ q, 0 ≤ sumL (sl.take q) ∧ sumL (sl.take q) ≤ 6553600000000) ∧ tb.length = K + 1 ∧ (row tb K).length = N + 1 ∧ nth sl N = nth (row tb K) J) := Lib.hid fun h1 => by
      obtain ⟨N, K, J, e1, e2, e3, e4, e5, e6, e7, e8, e9, e10, e11, -, e13, e14, e15⟩ := steps_facts (hthere ▸ h1)
      rw [← hsl] at e9 e10 e11 e15
      rw [← htb] at e13 e14 e15
      exact ⟨N, K, J, e1, e2, e3, e4, e5, e6, e7, e8, hnS.trans e9, e10, e11, e13, e14, e15⟩
    have hnS2 : nS ≤ 13 := by rw [hnS, hsl]; exact stepsV_len
    have HNS := Lib.hid hnS
    clear hthere hsl hnS htb
    go_wp2_with fail
    refine (Q1.out _).mono ?_
    rintro e w12 ⟨v12, rfl, o12, b12⟩
    obtain ⟨aS, cS, rfl⟩ := o12.shape
    rw [← HNS.out] at o12 ⊢
    have CH_12 := Lib.hid (CH_11.out.below b12)
    have CW_12 := Lib.hid (CW_11.out.below b12)
    have MN_12 := Lib.hid (MN_11.out.below b12)
    have MW_12 := Lib.hid (MW_11.out.below b12)
    have HL0_12 := Lib.hid (HL0_11.out.trans (b12.mono HL0_11.out.size))
    have HBB_12 := Lib.hid (HBB_11.out.trans (b12.mono HBB_11.out.size))
    clear b12 CH_11 CW_11 MN_11 MW_11 HL0_11 HBB_11
    have XS_12 := Lib.hid (o12)
    clear o12
    go_wp2_with fail
    refine (Q2.out _).mono ?_
    rintro e w13 ⟨v13, rfl, o13, b13⟩
    obtain ⟨aS2, cS2, rfl⟩ := o13.shape
    rw [← HNS.out] at o13 ⊢
    have CH_13 := Lib.hid (CH_12.out.below b13)
    have CW_13 := Lib.hid (CW_12.out.below b13)
    have MN_13 := Lib.hid (MN_12.out.below b13)
    have MW_13 := Lib.hid (MW_12.out.below b13)
    have XS_13 := Lib.hid (XS_12.out.below b13)
    have HL0_13 := Lib.hid (HL0_12.out.trans (b13.mono HL0_12.out.size))
    have HBB_13 := Lib.hid (HBB_12.out.trans (b13.mono HBB_12.out.size))
    clear b13 CH_12 CW_12 MN_12 MW_12 XS_12 HL0_12 HBB_12
    have XS2_13 := Lib.hid (o13)
    clear o13
    have op0 := CH_13.out.c0
    have op1 := CH_13.out.c1
    have op2 := CH_13.out.lt
    have op3 := CW_13.out.c0
    have op4 := CW_13.out.c1
    have op5 := CW_13.out.lt
    have op6 := MN_13.out.c0
    have op7 := MN_13.out.c1
    have op8 := MN_13.out.lt
    have op9 := MW_13.out.c0
    have op10 := MW_13.out.c1
    have op11 := MW_13.out.lt
    have op12 := (fun W => by rw [eqA2]; simp : ∀ W, (Op.equalIn 10000 47 (.agg #[.int .i64 ch0, .int .i64 ch1]) (.agg #[.int .i64 ch0, .int .i64 ch1])).run Try.prog W = .ok true W)
    have op13 := (fun W => by rw [eqA2]; simp : ∀ W, (Op.equalIn 10000 47 (.agg #[.int .i64 mn0, .int .i64 mn1]) (.agg #[.int .i64 mn0, .int .i64 mn1])).run Try.prog W = .ok true W)
    go_wp2_with fail
    clear op0 op1 op2 op3 op4 op5 op6 op7 op8 op9 op10 op11 op12 op13
    refine (laws_vInts _ _ _ _ _ sl _ (by omega) XS_13.out.ints XS2_13.out.ints).mono ?_
    rintro e w14 ⟨rfl, b14⟩
    have CH_14 := Lib.hid (CH_13.out.below b14)
    have CW_14 := Lib.hid (CW_13.out.below b14)
    have MN_14 := Lib.hid (MN_13.out.below b14)
    have MW_14 := Lib.hid (MW_13.out.below b14)
    have XS_14 := Lib.hid (XS_13.out.below b14)
    have XS2_14 := Lib.hid (XS2_13.out.below b14)
    have HL0_14 := Lib.hid (HL0_13.out.trans (b14.mono HL0_13.out.size))
    have HBB_14 := Lib.hid (HBB_13.out.trans (b14.mono HBB_13.out.size))
    clear b14 CH_13 CW_13 MN_13 MW_13 XS_13 XS2_13 HL0_13 HBB_13
    clear XS2_14
    clear CW_14
    clear MW_14
    clear Q1 Q2
    as_aux_lemma =>
    go_upto_if 135 with fail
    go_cut [21] from 21 to 21 (fun v21 wc => v21 = .bool there ∧ Below w14.heap.size w14 wc)
    case first => as_aux_lemma =>
      have HS_14 := Lib.hid (Below.refl w14.heap.size w14)
      cases there
      · go_wp2_with fail
        go_meet
        case rel => exact ⟨rfl, Below.refl _ _⟩
      · obtain ⟨N, K, J, rfl, rfl, rfl, hy1, hy2, hN, hJN, hK8, hnSN, hsum, hbd, htl, hrl, hlast⟩ := FS.out rfl
        have J3 := Lib.hid (Q3.out rfl)
        have Hsum := Lib.hid hsum
        have Hbd := Lib.hid hbd
        have Htl := Lib.hid htl
        have Hrl := Lib.hid hrl
        have Hlast := Lib.hid hlast
        clear Q3 FS hsum hbd htl hrl hlast
        subst hnSN
        have Hp0 : Hid (powI (y1 + y2) 0 = 1) := Lib.hid rfl
        have Hps : Hid (∀ k, powI (y1 + y2) (k + 1) = powI (y1 + y2) k * (y1 + y2)) := Lib.hid fun k => rfl
        have Hpb : Hid (∀ k, k ≤ 8 → 0 ≤ powI (y1 + y2) k ∧ powI (y1 + y2) k ≤ 6553600000000) := Lib.hid fun k hk => by have h1 := powI_bd (y1 + y2) (by omega) (by omega) k; have h2 := powI40 k hk; omega
        have Hs0 : Hid (sumL (sl.take 0) = 0) := Lib.hid (by rw [List.take_zero]; rfl)
        have Hss : Hid (∀ k, k < N + 1 → sumL (sl.take (k + 1)) = sumL (sl.take k) + nth sl k) := Lib.hid fun k hk => sumL_take_succ sl k (by have := HNS.out; omega)
        have Hsf : Hid (sumL (sl.take (N + 1)) = sumL sl) := Lib.hid (by rw [List.take_of_length_le (by have := HNS.out; omega)])
        go_wp2_with fail
        go_loop [24, 26] (fun v24 v26 => ∃ k : Nat, k ≤ K ∧ v26 = .int .i64 (k : Int) ∧ v24 = .int .i64 (powI (y1 + y2) k)) (fun _ v26 => K - (intOf v26).toNat)
        case atStart => exact ⟨0, Nat.zero_le _, rfl, by rw [Hp0.out]⟩
        case round =>
          obtain ⟨k, hk, rfl, rfl⟩ := hrel
          by_cases hlt : (k : Int) < K
          · have h1 := Hpb.out k (by omega)
            have h2 := Hpb.out (k + 1) (by omega)
            have hst := Hps.out k
            rw [hst] at h2
            have Hst := Lib.hid hst
            clear hst
            generalize powI (y1 + y2) k = p at *
            have k1 : IntKind.i64.wrap (y1 + y2) = y1 + y2 := IntWalk.i64_in _ (by omega)
            have k2 : IntKind.i64.wrap (p * (y1 + y2)) = p * (y1 + y2) := IntWalk.i64_in _ (by omega)
            clear h1 h2
            go_wp2_with fail
            go_round
            case rel => exact ⟨k + 1, by omega, by go_num, by rw [Hst.out]⟩
            case measure => simp [intOf] <;> omega
          · obtain rfl : k = K := by omega
            go_wp2_with fail
            go_loop [25, 27] (fun v25 v27 => ∃ q : Nat, q ≤ N + 1 ∧ v27 = .int .i64 (q : Int) ∧ v25 = .int .i64 (sumL (sl.take q))) (fun _ v27 => N + 1 - (intOf v27).toNat)
            case atStart => exact ⟨0, Nat.zero_le _, rfl, by rw [Hs0.out]⟩
            case round =>
              obtain ⟨q, hq, rfl, rfl⟩ := hrel
              by_cases hlt2 : (q : Int) < (N + 1 : Nat)
              · obtain ⟨bS, oS, rfl, hcS⟩ := XS_14.out.ints.at (i := q) (Below.refl _ _) (by omega)
                have h1 := Hbd.out q
                have h2 := Hbd.out (q + 1)
                have hst := Hss.out q (by omega)
                rw [hst] at h2
                have Hst := Lib.hid hst
                clear hst
                generalize sumL (sl.take q) = p at *
                generalize nth sl q = u at *
                have k1 : IntKind.i64.wrap (p + u) = p + u := IntWalk.i64_in _ (by omega)
                have k2 : (0 : Int) ≤ (q : Int) := by omega
                clear h1 h2
                go_wp2_with fail
                go_round
                case rel => exact ⟨q + 1, by omega, by go_num, by rw [Hst.out]⟩
                case measure => simp [intOf] <;> omega
              · obtain rfl : q = N + 1 := by omega
                have hz : sumL (sl.take (N + 1)) = powI (y1 + y2) k := by rw [Hsf.out, Hsum.out]
                rw [hz]
                generalize powI (y1 + y2) k = z at *
                clear hz
                go_wp2_with fail
                refine (J3.out _).mono ?_
                rintro e w15 ⟨v15, rfl, o15, b15⟩
                obtain ⟨aB, cB, rfl⟩ := o15.shape
                rw [Htl.out] at o15 ⊢
                have CH_15 := Lib.hid (CH_14.out.below b15)
                have MN_15 := Lib.hid (MN_14.out.below b15)
                have XS_15 := Lib.hid (XS_14.out.below b15)
                have HL0_15 := Lib.hid (HL0_14.out.trans (b15.mono HL0_14.out.size))
                have HBB_15 := Lib.hid (HBB_14.out.trans (b15.mono HBB_14.out.size))
                have HS_15 := Lib.hid (HS_14.out.trans (b15.mono HS_14.out.size))
                clear b15 CH_14 MN_14 XS_14 HL0_14 HBB_14 HS_14
                obtain ⟨bT, oT, rfl, hbT, hcs⟩ := o15.ints.2 (by omega)
                obtain ⟨aR, cR, hcR, hiR⟩ := hcs k (by omega)
                rw [Hrl.out] at hcR hiR
                obtain ⟨bR, oR, rfl, hcJ⟩ := hiR.at (i := J) (Below.refl _ _) (by omega)
                obtain ⟨bS, oS, rfl, hcS⟩ := XS_15.out.ints.at (i := N) (Below.refl _ _) (by omega)
                rw [Hlast.out] at hcS
                generalize nth (row tb k) J = u at *
                have k1 : (0 : Int) ≤ (N : Int) := by omega
                have k2 : (0 : Int) ≤ (k : Int) := by omega
                have k3 : (0 : Int) ≤ (J : Int) := by omega
                have k4 : (k : Int) < ((k + 1 : Nat) : Int) := by omega
                have k5 : (J : Int) < ((N + 1 : Nat) : Int) := by omega
                have k6 : (N : Int) < ((N + 1 : Nat) : Int) := by omega
                clear hcs hiR o15
                go_wp2_with fail
                go_quiet (fail)
                go_wp2_with fail
                go_meet
                case rel => exact ⟨rfl, by first | exact below_drewN HS_15.out _ | exact HS_15.out⟩
    case rest =>
    obtain ⟨rfl, b15⟩ := hcut
    obtain ⟨w15, hwc⟩ : ∃ z, z = wc := ⟨_, rfl⟩
    rw [← hwc] at b15 ⊢
    clear hwc wc
    have CH_15 := Lib.hid (CH_14.out.below b15)
    have MN_15 := Lib.hid (MN_14.out.below b15)
    have XS_15 := Lib.hid (XS_14.out.below b15)
    have HL0_15 := Lib.hid (HL0_14.out.trans (b15.mono HL0_14.out.size))
    have HBB_15 := Lib.hid (HBB_14.out.trans (b15.mono HBB_14.out.size))
    clear b15 CH_14 MN_14 XS_14 HL0_14 HBB_14
    clear XS_15
    clear Q3 FS
    as_aux_lemma =>
    cases chb
    · have op0 := CH_15.out.c0
      have op1 := CH_15.out.c1
      have op2 := CH_15.out.lt
      go_wp2_with fail
      go_quiet (fail)
      go_wp2_with fail
      go_ret
      exact ⟨by first | rfl | simp, by first | exact below_drewN HBB_15.out _ | exact HBB_15.out⟩
    · obtain ⟨hra, hrb, hrn, hri, hz0, hz1⟩ := FZ.out rfl
      have Hz0 := Lib.hid hz0
      have Hz1 := Lib.hid hz1
      clear hz0 hz1 FZ
      by_cases hi0 : ri = 0
      · subst hi0
        obtain ⟨rfl, rfl⟩ := Hz0.out rfl
        have op0 := CH_15.out.c0
        have op1 := CH_15.out.c1
        have op2 := CH_15.out.lt
        have op3 := (fun W => by rw [eqA2]; simp : ∀ W, (Op.equalIn 10000 47 (.agg #[.int .i64 0, .int .i64 1]) (.agg #[.int .i64 0, .int .i64 1])).run Try.prog W = .ok true W)
        have k1 : (0 : Int).tdiv rn = 0 := Int.zero_tdiv _
        have k2 : ¬ rn = 0 := by omega
        have k3 : IntKind.i64.wrap 0 = 0 := IntWalk.i64_in _ (by omega)
        go_wp2_with fail
        go_quiet (fail)
        go_wp2_with fail
        go_ret
        exact ⟨by first | rfl | simp, by first | exact below_drewN HBB_15.out _ | exact HBB_15.out⟩
      by_cases hin : ri = rn
      · subst hin
        obtain ⟨rfl, rfl⟩ := Hz1.out rfl
        have op0 := CH_15.out.c0
        have op1 := CH_15.out.c1
        have op2 := CH_15.out.lt
        have op3 := (fun W => by rw [eqA2]; simp : ∀ W, (Op.equalIn 10000 47 (.agg #[.int .i64 1, .int .i64 1]) (.agg #[.int .i64 1, .int .i64 1])).run Try.prog W = .ok true W)
        have k1 : ri.tdiv ri = 1 := Int.tdiv_self (by omega)
        have k2 : ¬ ri = 0 := by omega
        have k4 : (ri == 0) = false := by rw [beq_eq_false_iff_ne]; omega
        have k5 : (ri == ri) = true := by simp
        have k3 : IntKind.i64.wrap 1 = 1 := IntWalk.i64_in _ (by omega)
        go_wp2_with fail
        go_quiet (fail)
        go_wp2_with fail
        go_ret
        exact ⟨by first | rfl | simp, by first | exact below_drewN HBB_15.out _ | exact HBB_15.out⟩
      have Hab : Hid (IntKind.i64.wrap (ra + rb) = ra + rb) := Lib.hid (IntWalk.i64_in _ (by omega))
      have FC2 := Lib.hid (fun h2 h3 => FC.out rfl h2 h3 (by omega) (by omega))
      have FM2 := Lib.hid (fun h1 h2 h3 => FM.out h1 h2 h3 (by omega) (by omega))
      have k4 : (ri == 0) = false := by rw [beq_eq_false_iff_ne]; omega
      have k5 : (ri == rn) = false := by rw [beq_eq_false_iff_ne]; omega
      have k6 : IntKind.i64.wrap (ri + 1) = ri + 1 := IntWalk.i64_in _ (by omega)
      have k7 : IntKind.i64.wrap (ri - 1) = ri - 1 := IntWalk.i64_in _ (by omega)
      clear FC FM Hz0 Hz1
      go_wp2_with fail
      refine (Iup.out _).mono ?_
      rintro e w16 ⟨rfl, b16⟩
      have CH_16 := Lib.hid (CH_15.out.below b16)
      have MN_16 := Lib.hid (MN_15.out.below b16)
      have HL0_16 := Lib.hid (HL0_15.out.trans (b16.mono HL0_15.out.size))
      have HBB_16 := Lib.hid (HBB_15.out.trans (b16.mono HBB_15.out.size))
      clear b16 CH_15 MN_15 HL0_15 HBB_15
      have zz := Pair.new w16 (.int .i64 0) (.int .i64 0) 47
      have zz0 := zz.c0
      have zz1 := zz.c1
      have zz2 := zz.f0
      have zz3 := zz.f1
      clear zz
      have nb := below_new w16 (.cells #[.int .i64 up0, .int .i64 up1] 47)
      have UP_17 := Lib.hid (Pair.new w16 (.int .i64 up0) (.int .i64 up1) 47)
      have CH_17 := Lib.hid (CH_16.out.below nb)
      have MN_17 := Lib.hid (MN_16.out.below nb)
      have HL0_17 := Lib.hid (HL0_16.out.trans (nb.mono HL0_16.out.size))
      have HBB_17 := Lib.hid (HBB_16.out.trans (nb.mono HBB_16.out.size))
      clear nb CH_16 MN_16 HL0_16 HBB_16
      go_wp2_with fail
      clear zz0 zz1 zz2 zz3 
      generalize (w16.alloc (.cells #[.int .i64 up0, .int .i64 up1] 47)) = w17 at *
      refine (Idw.out _).mono ?_
      rintro e w18 ⟨rfl, b18⟩
      have CH_18 := Lib.hid (CH_17.out.below b18)
      have MN_18 := Lib.hid (MN_17.out.below b18)
      have UP_18 := Lib.hid (UP_17.out.below b18)
      have HL0_18 := Lib.hid (HL0_17.out.trans (b18.mono HL0_17.out.size))
      have HBB_18 := Lib.hid (HBB_17.out.trans (b18.mono HBB_17.out.size))
      clear b18 CH_17 MN_17 UP_17 HL0_17 HBB_17
      have zz := Pair.new w18 (.int .i64 0) (.int .i64 0) 47
      have zz0 := zz.c0
      have zz1 := zz.c1
      have zz2 := zz.f0
      have zz3 := zz.f1
      clear zz
      have nb := below_new w18 (.cells #[.int .i64 dw0, .int .i64 dw1] 47)
      have DW_19 := Lib.hid (Pair.new w18 (.int .i64 dw0) (.int .i64 dw1) 47)
      have CH_19 := Lib.hid (CH_18.out.below nb)
      have MN_19 := Lib.hid (MN_18.out.below nb)
      have UP_19 := Lib.hid (UP_18.out.below nb)
      have HL0_19 := Lib.hid (HL0_18.out.trans (nb.mono HL0_18.out.size))
      have HBB_19 := Lib.hid (HBB_18.out.trans (nb.mono HBB_18.out.size))
      clear nb CH_18 MN_18 UP_18 HL0_18 HBB_18
      go_upto_region 30 with fail
      clear zz0 zz1 zz2 zz3 
      generalize (w18.alloc (.cells #[.int .i64 dw0, .int .i64 dw1] 47)) = w19 at *
      clear Iup Idw
      as_aux_lemma =>
      go_cut [272] from 272 to 272 (fun v272 wc => v272 = .bool false ∧ Below w19.heap.size w19 wc)
      case first => as_aux_lemma =>
        have HS_19 := Lib.hid (Below.refl w19.heap.size w19)
        cases upb
        · go_wp2_with fail
          go_meet
          case rel => exact ⟨rfl, Below.refl _ _⟩
        · cases dwb
          · go_wp2_with fail
            go_meet
            case rel => exact ⟨rfl, Below.refl _ _⟩
          · obtain ⟨p1, hp1⟩ : ∃ z, IntKind.i64.wrap (ra * up0) = z := ⟨_, rfl⟩
            obtain ⟨p2, hp2⟩ : ∃ z, IntKind.i64.wrap (p1 * dw1) = z := ⟨_, rfl⟩
            obtain ⟨p3, hp3⟩ : ∃ z, IntKind.i64.wrap (rb * dw0) = z := ⟨_, rfl⟩
            obtain ⟨p4, hp4⟩ : ∃ z, IntKind.i64.wrap (p3 * up1) = z := ⟨_, rfl⟩
            obtain ⟨p5, hp5⟩ : ∃ z, IntKind.i64.wrap (p2 + p4) = z := ⟨_, rfl⟩
            obtain ⟨p6, hp6⟩ : ∃ z, IntKind.i64.wrap (p5 * ch1) = z := ⟨_, rfl⟩
            obtain ⟨q2, hq2⟩ : ∃ z, IntKind.i64.wrap ((ra + rb) * ch0) = z := ⟨_, rfl⟩
            obtain ⟨q3, hq3⟩ : ∃ z, IntKind.i64.wrap (q2 * up1) = z := ⟨_, rfl⟩
            have hq4 : IntKind.i64.wrap (q3 * dw1) = p6 := by
              have hz := FC2.out rfl rfl
              rw [hp1, hp2, hp3, hp4, hp5, hp6, hq2, hq3] at hz
              exact hz.symm
            have k9 := Hab.out
            have op0 := UP_19.out.c0
            have op1 := UP_19.out.c1
            have op2 := UP_19.out.lt
            have op3 := DW_19.out.c0
            have op4 := DW_19.out.c1
            have op5 := DW_19.out.lt
            have op6 := CH_19.out.c0
            have op7 := CH_19.out.c1
            have op8 := CH_19.out.lt
            go_wp2_with fail
            go_meet
            case rel => exact ⟨by first | rfl | simp, Below.refl _ _⟩
      case rest =>
      obtain ⟨rfl, b20⟩ := hcut
      obtain ⟨w20, hwc⟩ : ∃ z, z = wc := ⟨_, rfl⟩
      rw [← hwc] at b20 ⊢
      clear hwc wc
      have CH_20 := Lib.hid (CH_19.out.below b20)
      have MN_20 := Lib.hid (MN_19.out.below b20)
      have UP_20 := Lib.hid (UP_19.out.below b20)
      have DW_20 := Lib.hid (DW_19.out.below b20)
      have HL0_20 := Lib.hid (HL0_19.out.trans (b20.mono HL0_19.out.size))
      have HBB_20 := Lib.hid (HBB_19.out.trans (b20.mono HBB_19.out.size))
      clear b20 CH_19 MN_19 UP_19 DW_19 HL0_19 HBB_19
      clear UP_20
      clear DW_20
      clear CH_20
      clear FC2
      as_aux_lemma =>
      go_wp2_with fail
      refine (Imo.out _).mono ?_
      rintro e w21 ⟨rfl, b21⟩
      have MN_21 := Lib.hid (MN_20.out.below b21)
      have HL0_21 := Lib.hid (HL0_20.out.trans (b21.mono HL0_20.out.size))
      have HBB_21 := Lib.hid (HBB_20.out.trans (b21.mono HBB_20.out.size))
      clear b21 MN_20 HL0_20 HBB_20
      have zz := Pair.new w21 (.int .i64 0) (.int .i64 0) 47
      have zz0 := zz.c0
      have zz1 := zz.c1
      have zz2 := zz.f0
      have zz3 := zz.f1
      clear zz
      have nb := below_new w21 (.cells #[.int .i64 mo0, .int .i64 mo1] 47)
      have MO_22 := Lib.hid (Pair.new w21 (.int .i64 mo0) (.int .i64 mo1) 47)
      have MN_22 := Lib.hid (MN_21.out.below nb)
      have HL0_22 := Lib.hid (HL0_21.out.trans (nb.mono HL0_21.out.size))
      have HBB_22 := Lib.hid (HBB_21.out.trans (nb.mono HBB_21.out.size))
      clear nb MN_21 HL0_21 HBB_21
      go_wp2_with fail
      clear zz0 zz1 zz2 zz3 
      generalize (w21.alloc (.cells #[.int .i64 mo0, .int .i64 mo1] 47)) = w22 at *
      refine (Ile.out _).mono ?_
      rintro e w23 ⟨rfl, b23⟩
      have MN_23 := Lib.hid (MN_22.out.below b23)
      have MO_23 := Lib.hid (MO_22.out.below b23)
      have HL0_23 := Lib.hid (HL0_22.out.trans (b23.mono HL0_22.out.size))
      have HBB_23 := Lib.hid (HBB_22.out.trans (b23.mono HBB_22.out.size))
      clear b23 MN_22 MO_22 HL0_22 HBB_22
      have zz := Pair.new w23 (.int .i64 0) (.int .i64 0) 47
      have zz0 := zz.c0
      have zz1 := zz.c1
      have zz2 := zz.f0
      have zz3 := zz.f1
      clear zz
      have nb := below_new w23 (.cells #[.int .i64 le0, .int .i64 le1] 47)
      have LE_24 := Lib.hid (Pair.new w23 (.int .i64 le0) (.int .i64 le1) 47)
      have MN_24 := Lib.hid (MN_23.out.below nb)
      have MO_24 := Lib.hid (MO_23.out.below nb)
      have HL0_24 := Lib.hid (HL0_23.out.trans (nb.mono HL0_23.out.size))
      have HBB_24 := Lib.hid (HBB_23.out.trans (nb.mono HBB_23.out.size))
      clear nb MN_23 MO_23 HL0_23 HBB_23
      go_upto_region 34 with fail
      clear zz0 zz1 zz2 zz3 
      generalize (w23.alloc (.cells #[.int .i64 le0, .int .i64 le1] 47)) = w24 at *
      clear Imo Ile
      as_aux_lemma =>
      have mc0 := MN_24.out.c0
      have mc1 := MN_24.out.c1
      have mc2 := MN_24.out.lt
      have mc3 := MO_24.out.c0
      have mc4 := MO_24.out.c1
      have mc5 := MO_24.out.lt
      have mc6 := LE_24.out.c0
      have mc7 := LE_24.out.c1
      have mc8 := LE_24.out.lt
      cases mnb
      · go_wp2_with fail
        go_ret
        exact ⟨by first | rfl | simp, HBB_24.out⟩
      · cases mob
        · go_wp2_with fail
          go_ret
          exact ⟨by first | rfl | simp, HBB_24.out⟩
        · cases leb
          · go_wp2_with fail
            go_ret
            exact ⟨by first | rfl | simp, HBB_24.out⟩
          · by_cases h1 : mn1 < 1000
            · by_cases h2 : mo1 < 1000
              · by_cases h3 : le1 < 1000
                · obtain ⟨p1, hp1⟩ : ∃ z, IntKind.i64.wrap (ra * mo0) = z := ⟨_, rfl⟩
                  obtain ⟨p2, hp2⟩ : ∃ z, IntKind.i64.wrap (p1 * le1) = z := ⟨_, rfl⟩
                  obtain ⟨p3, hp3⟩ : ∃ z, IntKind.i64.wrap (rb * le0) = z := ⟨_, rfl⟩
                  obtain ⟨p4, hp4⟩ : ∃ z, IntKind.i64.wrap (p3 * mo1) = z := ⟨_, rfl⟩
                  obtain ⟨p5, hp5⟩ : ∃ z, IntKind.i64.wrap (p2 + p4) = z := ⟨_, rfl⟩
                  obtain ⟨r1, hr1⟩ : ∃ z, IntKind.i64.wrap ((ra + rb) * mo1) = z := ⟨_, rfl⟩
                  obtain ⟨r2, hr2⟩ : ∃ z, IntKind.i64.wrap (r1 * le1) = z := ⟨_, rfl⟩
                  obtain ⟨r3, hr3⟩ : ∃ z, IntKind.i64.wrap (p5 + r2) = z := ⟨_, rfl⟩
                  obtain ⟨p6, hp6⟩ : ∃ z, IntKind.i64.wrap (r3 * mn1) = z := ⟨_, rfl⟩
                  obtain ⟨q2, hq2⟩ : ∃ z, IntKind.i64.wrap ((ra + rb) * mn0) = z := ⟨_, rfl⟩
                  obtain ⟨q3, hq3⟩ : ∃ z, IntKind.i64.wrap (q2 * mo1) = z := ⟨_, rfl⟩
                  have hq4 : IntKind.i64.wrap (q3 * le1) = p6 := by
                    have hz := FM2.out rfl rfl rfl
                    rw [hp1, hp2, hp3, hp4, hp5, hr1, hr2, hr3, hp6, hq2, hq3] at hz
                    exact hz.symm
                  have k9 := Hab.out
                  go_wp2_with fail
                  go_ret
                  exact ⟨by first | rfl | simp, HBB_24.out⟩
                · go_wp2_with fail
                  go_ret
                  exact ⟨by first | rfl | simp, HBB_24.out⟩
              · go_wp2_with fail
                go_ret
                exact ⟨by first | rfl | simp, HBB_24.out⟩
            · go_wp2_with fail
              go_ret
              exact ⟨by first | rfl | simp, HBB_24.out⟩
end Go.Proofs.Ytbekfpgpeaoifaa.fnRuin
