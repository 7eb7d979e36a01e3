/- The walk through the law FnReturns: it returns true. No conditions but that the argument can be read. -/
import Derived.Test.YtbekfpgpeaoifaaPlReturns
import Derived.Test.YtbekfpgpeaoifaaLead2
import Derived.Test.YtbekfpgpeaoifaaRet2
import Derived.Test.YtbekfpgpeaoifaaRet3
import Derived.Test.YtbekfpgpeaoifaaLawV
import Derived.Test.YtbekfpgpeaoifaaOpenB
import Derived.Test.YtbekfpgpeaoifaaDrawP
namespace Go.Proofs.Ytbekfpgpeaoifaa.fnReturns
open Go.RowKit
set_option linter.unusedVariables false
theorem leadV_len (m : Int) : (leadV m).length ≤ 31 := by
  cases h : evB m
  · rw [leadV_no h]; simp
  · obtain ⟨k, hk, rfl⟩ := ev_t h
    rw [leadV_yes h, leadL_length]; omega
theorem retV_len (m : Int) : (retV m).length ≤ 31 := by
  cases h : evB m
  · rw [retV_no h]; simp
  · obtain ⟨k, hk, rfl⟩ := ev_t h
    rw [retV_yes h, retL_length]; omega
set_option maxRecDepth 100000 in
set_option maxHeartbeats 1000000 in
theorem walk (a : Option Addr) (n c : Nat) (w : World) (hm : n ≤ maxLen) (hc : n ≤ c ∧ c ≤ maxLen ∧ (a = none → c = 0)) (h : Bytes0 w a n) :
    Calls Try.prog 5 #[.slice a n c] w fun e w' => e = .returned (.bool true) ∧ Below w.heap.size w w' := by
  clear hm hc
  by_cases hbig : (n : Int) > 65536
  · go_enter Try.func5, Try.ntmps5
    go_wp2_with (go_at_call 7; refine (laws_vBig _ _ _ _).mono ?_; rintro e w' ⟨rfl, rfl⟩; rw [decide_eq_true hbig])
    go_ret
    exact ⟨rfl, Below.refl _ _⟩
  · have HB := Lib.hid (h.few (by omega))
    clear h
    go_enter Try.func5, Try.ntmps5
    go_wp2_with (first
      | (go_at_call 7; refine (laws_vBig _ _ _ _).mono ?_; rintro e w' ⟨rfl, rfl⟩; rw [decide_eq_false hbig])
      | (go_at_call 33; refine (spec_DrawReturnCounts _ _ _ _ HB.out).mono ?_; rintro e w1 ⟨⟨m, rfl⟩, b1⟩))
    have hRl := retV_len m
    have hLl := leadV_len m
    obtain ⟨ok, hok⟩ : ∃ ok, ok = evB m := ⟨_, rfl⟩
    obtain ⟨R, hR⟩ : ∃ R, R = retV m := ⟨_, rfl⟩
    obtain ⟨L, hL⟩ : ∃ L, L = leadV m := ⟨_, rfl⟩
    rw [← hR] at hRl
    rw [← hL] at hLl
    have H1 : Hid (∀ W : World, Calls Try.prog 34 #[.int .i64 m] W fun e w' => ∃ v, e = .returned (.tuple #[v, .bool ok]) ∧ Own w' W.heap.size v R ∧ Below W.heap.size W w') := Lib.hid fun W => by rw [hok, hR]; exact impl_ReturnCounts m W
    have H2 : Hid (∀ W : World, Calls Try.prog 35 #[.int .i64 m] W fun e w' => ∃ v, e = .returned (.tuple #[v, .bool ok]) ∧ Own w' W.heap.size v R ∧ Below W.heap.size W w') := Lib.hid fun W => by rw [hok, hR]; exact spec_ReturnCounts m W
    have H3 : Hid (∀ W : World, Calls Try.prog 36 #[.int .i64 m] W fun e w' => ∃ v, e = .returned (.tuple #[v, .bool ok]) ∧ Own w' W.heap.size v L ∧ Below W.heap.size W w') := Lib.hid fun W => by rw [hok, hL]; exact impl_LeadCounts m W
    have H4 : Hid (∀ W : World, Calls Try.prog 37 #[.int .i64 m] W fun e w' => ∃ v, e = .returned (.tuple #[v, .bool ok]) ∧ Own w' W.heap.size v L ∧ Below W.heap.size W w') := Lib.hid fun W => by rw [hok, hL]; exact spec_LeadCounts m W
    have Hok := Lib.hid hok
    have HR := Lib.hid hR
    have HL := Lib.hid hL
    clear hok hR hL
    refine (H1.out _).mono ?_
    rintro e w2 ⟨v2, rfl, o2, b2⟩
    obtain ⟨a2, c2, rfl⟩ := o2.shape
    have O2 := Lib.hid o2
    clear o2
    go_wp2_with fail
    refine (H2.out _).mono ?_
    rintro e w3 ⟨v3, rfl, o3, b3⟩
    obtain ⟨a3, c3, rfl⟩ := o3.shape
    have O3 := Lib.hid o3
    clear o3
    go_wp2_with fail
    refine (H3.out _).mono ?_
    rintro e w4 ⟨v4, rfl, o4, b4⟩
    obtain ⟨a4, c4, rfl⟩ := o4.shape
    have O4 := Lib.hid o4
    clear o4
    go_wp2_with fail
    refine (H4.out _).mono ?_
    rintro e w5 ⟨v5, rfl, o5, b5⟩
    obtain ⟨a5, c5, rfl⟩ := o5.shape
    have O5 := Lib.hid o5
    clear o5
    have O2' := Lib.hid (((O2.out.below b3).below b4).below b5)
    have O3' := Lib.hid ((O3.out.below b4).below b5)
    have O4' := Lib.hid (O4.out.below b5)
    have B5 := Lib.hid ((((b1.trans (b2.mono b1.size)).trans (b3.mono (Nat.le_trans b1.size b2.size))).trans (b4.mono (Nat.le_trans b1.size (Nat.le_trans b2.size b3.size)))).trans (b5.mono (Nat.le_trans b1.size (Nat.le_trans b2.size (Nat.le_trans b3.size b4.size)))))
    clear b1 b2 b3 b4 b5
    cases ok
    · go_wp2_with fail
      refine (laws_vInts _ _ _ _ _ R _ (by omega) O2'.out.ints O3'.out.ints).mono ?_
      rintro e w6 ⟨rfl, b6⟩
      have O4'' := Lib.hid (O4'.out.below b6)
      have O5'' := Lib.hid (O5.out.below b6)
      go_wp2_with fail
      refine (laws_vInts _ _ _ _ _ L _ (by omega) O4''.out.ints O5''.out.ints).mono ?_
      rintro e w7 ⟨rfl, b7⟩
      go_wp2_with fail
      go_ret
      exact ⟨rfl, B5.out.trans ((b6.trans (b7.mono b6.size)).mono B5.out.size)⟩
    · go_wp2_with fail
      refine (laws_vInts _ _ _ _ _ R _ (by omega) O2'.out.ints O3'.out.ints).mono ?_
      rintro e w6 ⟨rfl, b6⟩
      have O4'' := Lib.hid (O4'.out.below b6)
      have O5'' := Lib.hid (O5.out.below b6)
      go_wp2_with fail
      refine (laws_vInts _ _ _ _ _ L _ (by omega) O4''.out.ints O5''.out.ints).mono ?_
      rintro e w7 ⟨rfl, b7⟩
      have B7 := Lib.hid (B5.out.trans ((b6.trans (b7.mono b6.size)).mono B5.out.size))
      have O27 := Lib.hid ((O2'.out.below b6).below b7)
      have O47 := Lib.hid (O4''.out.below b7)
      clear b6 b7
      obtain ⟨k, hk, hm⟩ := ev_t Hok.out.symm
      have hR2 : R = retL k := by rw [HR.out, hm]; exact retV_yes (by rw [← hm]; exact Hok.out.symm)
      have hL2 : L = leadL k := by rw [HL.out, hm]; exact leadV_yes (by rw [← hm]; exact Hok.out.symm)
      have hRk : R.length = k + 1 := by rw [hR2, retL_length]
      have hLk : L.length = k + 1 := by rw [hL2, leadL_length]
      rw [hRk, hLk]
      have hm2 : m = 2 * (k : Int) := by omega
      obtain ⟨P, hP⟩ : ∃ P : Int → Int → Int, ∀ x y, P x y = paths x.toNat y := ⟨_, fun _ _ => rfl⟩
      have HP : Hid (∀ (x y : Int) (W : World), 0 ≤ x → x ≤ 30 → Calls Try.prog 23 #[.int .i64 x, .int .i64 y] W fun e w' => e = .returned (.tuple #[.int .i64 (P x y), .bool true]) ∧ Below W.heap.size W w') := Lib.hid fun x y W h0 h1 => by
        have := impl_PathCount x y W
        rw [inB_mk h0 h1] at this
        simp only [if_true] at this
        rw [pathCount_eq _ _ (by omega)] at this
        rw [hP]; exact this
      have hPall : ∀ j : Nat, P m ((j : Int) - m) = allP k j := fun j => by rw [hP, allP, show m.toNat = 2 * k by omega, hm2]
      have hPlead : ∀ r : Nat, r ≤ k → leadN k r = P (2 * (r : Int)) 0 * P (m - 2 * (r : Int)) 0 := fun r hr => by
        rw [leadN_eq hr, hP, hP, show (2 * (r : Int)).toNat = 2 * r by omega, show (m - 2 * (r : Int)).toNat = 2 * k - 2 * r by omega]
      have hPhome : P m 0 = retN k 0 := by rw [ret_home hk, hP, show m.toNat = 2 * k by omega]
      have HPall := Lib.hid hPall
      have HPlead := Lib.hid hPlead
      have HPhome := Lib.hid hPhome
      have Hm := Lib.hid hm2
      have hm0 : 0 ≤ m ∧ m ≤ 30 := by omega
      have HRn : Hid (∀ r, nth R r = retN k r) := Lib.hid fun r => by rw [hR2, retN]
      have HLn : Hid (∀ r, nth L r = leadN k r) := Lib.hid fun r => by rw [hL2, leadN]
      have Hrk := Lib.hid hRk
      have Hlk := Lib.hid hLk
      clear hP hPall hPlead hPhome hm hm2 hR2 hL2 hRk hLk HR HL hRl hLl H1 H2 H3 H4 Hok O2 O3 O4 O5 O2' O3' O4' O4'' O5''
      have kn : IntKind.i64.wrap (-m) = -m := IntWalk.i64_in _ (by omega)
      go_wp2_with fail
      go_loopw [12, 13, 16] (fun v12 v13 v16 wr => ∃ (j : Nat) (x : Int), j ≤ 4 * k + 1 ∧ v12 = .int .i64 (upTo (allP k) j) ∧ v13 = .bool true ∧ v16 = .int .i64 x ∧ x = (j : Int) - m ∧ Below w7.heap.size w7 wr) (fun _ _ v16 _ => 4 * k + 1 - (intOf v16 + m).toNat)
      case atStart => exact ⟨0, -m, Nat.zero_le _, rfl, rfl, rfl, by omega, Below.refl _ _⟩
      case round =>
        obtain ⟨j, x, hj, rfl, rfl, rfl, hx, hbel⟩ := hrel
        by_cases hlt : x ≤ m
        · have hj2 : j < 4 * k + 1 := by have := Hm.out; omega
          have hbd := upTo_bd (f := allP k) (B := 1000000000) (j + 1) (fun i _ => allP_bd hk i)
          have hb1 := allP_bd hk j
          have hs1 := upTo_succ (allP k) j
          have hp := HPall.out j
          rw [← hx] at hp
          rw [← hp] at hs1 hb1
          have hb0 := upTo_bd (f := allP k) (B := 1000000000) j (fun i _ => allP_bd hk i)
          rw [hs1] at hbd
          have Hs := Lib.hid hs1
          have Hx := Lib.hid hx
          have hxl : -30 ≤ x := by omega
          clear hx
          have kw : IntKind.i64.wrap (upTo (allP k) j + P m x) = upTo (allP k) j + P m x := IntWalk.i64_in _ (by omega)
          clear hs1 hp hbd
          generalize upTo (allP k) j = S at *
          go_wp2_with (go_at_call 23; refine (HP.out _ _ _ hm0.1 hm0.2).mono ?_; rintro e w8 ⟨rfl, b8⟩)
          go_roundw
          case rel => exact ⟨j + 1, x + 1, by omega, by rw [Hs.out], rfl, rfl, by have := Hx.out; omega, hbel.trans (b8.mono hbel.size)⟩
          case measure => simp [intOf]; have := Hm.out; have := Hx.out; omega
        · obtain rfl : j = 4 * k + 1 := by have := Hm.out; omega
          obtain ⟨T, hT⟩ : ∃ T, T = upTo (allP k) (4 * k + 1) := ⟨_, rfl⟩
          rw [← hT]
          have hTr : T = upTo (retN k) (k + 1) := by rw [hT, ret_sum hk]
          have hTl : T = upTo (leadN k) (k + 1) := by rw [hT, lead_sum hk]
          have HTr := Lib.hid hTr
          have HTl := Lib.hid hTl
          clear hT hTr hTl hx
          obtain ⟨g2, cc2, hv2, -, hgs2⟩ := O27.out.form (by rw [Hrk.out]; omega)
          obtain ⟨g4, cc4, hv4, -, hgs4⟩ := O47.out.form (by rw [Hlk.out]; omega)
          simp only [Value.slice.injEq] at hv2 hv4
          obtain ⟨rfl, -, rfl⟩ := hv2
          obtain ⟨rfl, -, rfl⟩ := hv4
          go_wp2_with fail
          go_loopw [14, 15, 19] (fun v14 v15 v19 wr => ∃ (r : Nat), r ≤ k + 1 ∧ v14 = .int .i64 (upTo (retN k) r) ∧ v15 = .int .i64 (upTo (leadN k) r) ∧ v19 = .int .i64 (r : Int) ∧ Below w7.heap.size w7 wr) (fun _ _ v19 _ => k + 1 - (intOf v19).toNat)
          case atStart => exact ⟨0, Nat.zero_le _, rfl, rfl, rfl, hbel⟩
          case round =>
            clear hbel
            obtain ⟨r, hr, rfl, rfl, rfl, hbel⟩ := hrel
            obtain ⟨wo, rfl⟩ : ∃ wo : World, wo = wr := ⟨_, rfl⟩
            by_cases hlt2 : (r : Int) < (k : Int) + 1
            · have hrk : r ≤ k := by omega
              have h2b := (O27.out.below hbel).cell (i := r) (by rw [Hrk.out]; omega)
              have h4b := (O47.out.below hbel).cell (i := r) (by rw [Hlk.out]; omega)
              rw [HRn.out] at h2b
              rw [HLn.out] at h4b
              have hs2 := upTo_succ (retN k) r
              have hs4 := upTo_succ (leadN k) r
              have hb2 := upTo_bd (f := retN k) (B := 61 * 1073741824) r (fun i hi => retN_bd hk (by omega))
              have hb4 := upTo_bd (f := leadN k) (B := 155117520 * 155117520) r (fun i hi => leadN_bd hk (by omega))
              have hc2 := retN_bd hk hrk
              have hc4 := leadN_bd hk hrk
              have hl1 := HPlead.out r hrk
              have h4c := (O47.out.below hbel).cell (i := k - r) (by rw [Hlk.out]; omega)
              rw [HLn.out, ← lead_sym hrk] at h4c
              rw [hl1] at h4b h4c hs4 hc4
              have Hs2 := Lib.hid hs2
              have Hs4 := Lib.hid hs4
              clear hl1 hs2 hs4
              have kr : (r : Int) * 61 ≤ 1000 := by omega
              generalize upTo (retN k) r = S2 at *
              generalize upTo (leadN k) r = S4 at *
              generalize retN k r = c2 at *
              generalize hA : P (2 * (r : Int)) 0 = A at *
              generalize hBB : P (m - 2 * (r : Int)) 0 = BB at *
              have k1 : IntKind.i64.wrap (S2 + c2) = S2 + c2 := IntWalk.i64_in _ (by omega)
              have k2 : IntKind.i64.wrap (S4 + A * BB) = S4 + A * BB := IntWalk.i64_in _ (by omega)
              have k3 : IntKind.i64.wrap (A * BB) = A * BB := IntWalk.i64_in _ (by omega)
              have k4 : IntKind.i64.wrap (2 * (r : Int)) = 2 * (r : Int) := IntWalk.i64_in _ (by omega)
              have k5 : IntKind.i64.wrap (m - 2 * (r : Int)) = m - 2 * (r : Int) := IntWalk.i64_in _ (by omega)
              have hr0 : 0 ≤ 2 * (r : Int) ∧ 2 * (r : Int) ≤ 30 := by omega
              have hr1 : 0 ≤ m - 2 * (r : Int) ∧ m - 2 * (r : Int) ≤ 30 := by have := Hm.out; omega
              have hlt4 : g4 < wo.heap.size := Nat.lt_of_lt_of_le hgs4 hbel.size
              have HA := Lib.hid hA
              have HBB := Lib.hid hBB
              have H4b := Lib.hid h4b
              have H4c := Lib.hid h4c
              clear hA hBB h4c
              go_wp2_with fail
              refine (HP.out _ _ _ hr0.1 hr0.2).mono ?_
              rintro e w8 ⟨rfl, b8⟩
              rw [HA.out]
              go_wp2_with fail
              refine (HP.out _ _ _ hr1.1 hr1.2).mono ?_
              rintro e w9 ⟨rfl, b9⟩
              rw [HBB.out]
              have b89 := b8.trans (b9.mono b8.size)
              have n1 := (b89.cell (p := ⟨g4, r, none⟩) hlt4).trans H4b.out
              have n2 := (b89.cell (p := ⟨g4, k - r, none⟩) hlt4).trans H4c.out
              have hb9 := hbel.trans (b89.mono hbel.size)
              clear b8 b9 b89 h2b h4b
              have z1 : (r : Int) < (k : Int) + 1 := hlt2
              have z2 : 0 ≤ (k : Int) - (r : Int) := by omega
              have z3 : (k : Int) - (r : Int) < (k : Int) + 1 := by omega
              have z4 : IntKind.i64.wrap ((k : Int) - (r : Int)) = (k : Int) - (r : Int) := IntWalk.i64_in _ (by omega)
              go_wp2_with fail
              go_quiet (fail)
              go_wp2_with fail
              exact ⟨⟨r + 1, by omega, by rw [Hs2.out], by rw [Hs4.out], by go_num, below_drewN hb9 _⟩, by simp [intOf]; omega⟩
            · obtain rfl : r = k + 1 := by omega
              rw [← HTr.out, ← HTl.out]
              have h2b := (O27.out.below hbel).cell (i := 0) (by rw [Hrk.out]; omega)
              rw [HRn.out] at h2b
              have hh := HPhome.out
              generalize retN k 0 = c0 at *
              have hg2w : g2 < wo.heap.size := Nat.lt_of_lt_of_le hgs2 hbel.size
              have H2b := Lib.hid h2b
              have Hh := Lib.hid hh
              clear h2b hh
              go_wp2_with fail
              refine (HP.out _ _ _ hm0.1 hm0.2).mono ?_
              rintro e w8 ⟨rfl, b8⟩
              rw [Hh.out]
              have n1 := (b8.cell (p := ⟨g2, 0, none⟩) hg2w).trans H2b.out
              go_wp2_with fail
              go_ret
              exact ⟨rfl, B7.out.trans ((hbel.trans (b8.mono hbel.size)).mono B7.out.size)⟩
end Go.Proofs.Ytbekfpgpeaoifaa.fnReturns
