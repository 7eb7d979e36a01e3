/- Contracts: the mean of a rule: RuleMean. -/
import Derived.Test.YtjkkfjipgomkdaaMean
namespace Go.Proofs.Ytjkkfjipgomkdaa
open Go.RowKit

set_option maxRecDepth 100000 in
set_option maxHeartbeats 2000000 in
theorem impl_RuleMean (aP : Option Addr) (nP cP : Nat) (aW : Option Addr) (nW cW : Nat) (ps ws : List Int) (aL : Option Addr) (nL cL : Nat) (l : List Int) (aS : Option Addr) (nS cS : Nat) (rule : List Int) (w : World) (h : Tre w aP nP cP aW nW cW ps ws) (hL : Ints w aL nL l) (hLc : aL = none → cL = 0) (hn : nL ≤ 1048576) (hS : Ints w aS nS rule) (hSc : aS = none → cS = 0) (hnS : nS ≤ 1048576) :
    Calls Try.prog 42 #[.agg #[.slice aP nP cP, .slice aW nW cW], .slice aL nL cL, .slice aS nS cS] w fun e w' => e = .returned (.tuple #[.agg #[.int .i64 (rmN ps ws l rule), .int .i64 (rmD ps ws l rule)], .bool (rmB ps ws l rule)]) ∧ Below w.heap.size w w' := by
  have HS := Lib.hid hS
  clear hS
  have hl := h.p.1
  have hlw := h.w.1
  have hpn := h.pn
  have hwn := h.wn
  have hb1 := below_new w (.cells #[.slice aP nP cP, .slice aW nW cW] 28)
  have hP1 := Lib.hid (Pair.new w (.slice aP nP cP) (.slice aW nW cW) 28)
  have H := Lib.hid h
  have Hl := Lib.hid hl
  have Hlw := Lib.hid hlw
  clear h hl hlw
  have HL := Lib.hid hL
  clear hL
  have hlt2 := hP1.out.lt
  go_enter Try.func42, Try.ntmps42
  have hbb := hb1.trans ((below_new (w.alloc (.cells #[.slice aP nP cP, .slice aW nW cW] 28)) (.cells #[.int .i64 0, .int .i64 0] 34)).mono hb1.size)
  have hPP := Lib.hid (hP1.out.alloc (.cells #[.int .i64 0, .int .i64 0] 34))
  have hR1 := Pair.new (w.alloc (.cells #[.slice aP nP cP, .slice aW nW cW] 28)) (.int .i64 0) (.int .i64 0) 34
  rw [show (w.alloc (.cells #[.slice aP nP cP, .slice aW nW cW] 28)).heap.size = w.heap.size + 1 by simp] at hR1
  have HR1 := Lib.hid hR1
  have c0 := hPP.out.c0
  have c1 := hPP.out.c1
  clear hb1 hP1 hlt2 hR1
  go_wp2_with fail
  generalize ((w.alloc (.cells #[.slice aP nP cP, .slice aW nW cW] 28)).alloc (.cells #[.int .i64 0, .int .i64 0] 34)) = w2 at *
  have hlt2 := hPP.out.lt
  refine (impl_StoppedMean _ _ _ _ _ _ ps ws _ _ _ l _ _ _ rule _ (H.out.below hbb) (HL.out.below hbb) hLc hn (HS.out.below hbb) hSc hnS).mono ?_
  rintro e w3 ⟨rfl, b3⟩
  have hb3 := hbb.trans (b3.mono hbb.size)
  have hR3 := HR1.out.below b3
  generalize hgn : rmN ps ws l rule = gn at *
  generalize hgd : rmD ps ws l rule = gd at *
  generalize hgb : rmB ps ws l rule = gb at *
  have Hgn := Lib.hid hgn
  have Hgd := Lib.hid hgd
  have Hgb := Lib.hid hgb
  clear hgn hgd hgb
  have q3 := hR3.c0
  have q4 := hR3.c1
  have q5 := hR3.f0
  have q6 := hR3.f1
  have hr := hR3.set (.int .i64 gn) (.int .i64 gd)
  go_wp2_with fail
  exact bodyPost_ret (v := .tuple #[.agg #[.int .i64 gn, .int .i64 gd], .bool gb]) (by simp [results, Try.results42, go_sem, hr.1, hr.2]) rfl ⟨by rw [Hgb.out, Hgn.out, Hgd.out], (hb3.setCell (by simp) _).setCell (by simp) _⟩
set_option maxRecDepth 100000 in
set_option maxHeartbeats 2000000 in
theorem spec_l4Mean (aP : Option Addr) (nP cP : Nat) (aW : Option Addr) (nW cW : Nat) (ps ws : List Int) (aL : Option Addr) (nL cL : Nat) (l : List Int) (aS : Option Addr) (nS cS : Nat) (rule : List Int) (w : World) (h : Tre w aP nP cP aW nW cW ps ws) (hT : Tr ps ws) (hL : Ints w aL nL l) (hl : ∀ i, -999 ≤ nth l i ∧ nth l i ≤ 999) (hn : nP = nL) (hS : Ints w aS nS rule) (hst : stopB ps rule = true) :
    Calls Try.prog 79 #[.agg #[.slice aP nP cP, .slice aW nW cW], .slice aL nL cL, .slice aS nS cS] w fun e w' => e = .returned (.agg #[.int .i64 (nm (rmS ps ws l rule) (nth (sums ps ws) 0)), .int .i64 (dn (rmS ps ws l rule) (nth (sums ps ws) 0))]) ∧ Below w.heap.size w w' := by
  subst hn
  have HS := Lib.hid hS
  have hSl := Lib.hid hS.1
  have HL := Lib.hid hL
  have Hpl := Lib.hid hl
  have hsln := stop_len hst
  clear hS hL hl hst
  have hn24 := hT.n24
  have hn1 := hT.n1
  have HT := Lib.hid hT
  have hwl := hT.wl
  have hl := h.p.1
  have hlw := h.w.1
  have hpn := h.pn
  have hwn := h.wn
  have hb1 := below_new w (.cells #[.slice aP nP cP, .slice aW nW cW] 28)
  have hP1 := Lib.hid (Pair.new w (.slice aP nP cP) (.slice aW nW cW) 28)
  have H := Lib.hid h
  have Hl := Lib.hid hl
  have Hlw := Lib.hid hlw
  clear h hl hlw
  have hnW : nW ≤ nP ∧ nP ≤ nW := by have := Hlw.out; have := Hl.out; omega
  have hnP : 1 ≤ nP ∧ nP ≤ 24 := by have := Hl.out; omega
  clear hn24 hn1 hT hwl hpn hwn
  have hsn : nS ≤ 24 := by have := hSl.out; have := Hl.out; omega
  have Hsb : Hid (∀ i, i < nS → ∃ x : Nat, x < nP ∧ nth rule i = (x : Int)) := Lib.hid fun i hi => by
    have := hsln.2 i (by have := hSl.out; omega)
    exact ⟨(nth rule i).toNat, by have := Hl.out; omega, by omega⟩
  clear hsln
  go_enter Try.func79, Try.ntmps79
  have hlt2 := hP1.out.lt
  have hbb := hb1.trans ((below_new (w.alloc (.cells #[.slice aP nP cP, .slice aW nW cW] 28)) (.cells #[.int .i64 0, .int .i64 0] 34)).mono hb1.size)
  have hPP := Lib.hid (hP1.out.alloc (.cells #[.int .i64 0, .int .i64 0] 34))
  have hR1 := Pair.new (w.alloc (.cells #[.slice aP nP cP, .slice aW nW cW] 28)) (.int .i64 0) (.int .i64 0) 34
  rw [show (w.alloc (.cells #[.slice aP nP cP, .slice aW nW cW] 28)).heap.size = w.heap.size + 1 by simp] at hR1
  have HR1 := Lib.hid hR1
  have c0 := hPP.out.c0
  have c1 := hPP.out.c1
  clear hb1 hP1 hlt2 hR1
  go_wp2_with fail
  generalize ((w.alloc (.cells #[.slice aP nP cP, .slice aW nW cW] 28)).alloc (.cells #[.int .i64 0, .int .i64 0] 34)) = w2 at *
  have hlt2 := hPP.out.lt
  have Hsl : Hid ((sums ps ws).length = nP) := Lib.hid (by rw [sums_length HT.out]; exact Hl.out)
  refine (spec_l2Sums _ _ _ _ _ _ ps ws _ (H.out.below hbb) HT.out).mono ?_
  rintro e w6 ⟨v6, rfl, o6, b6⟩
  obtain ⟨a6, c6, rfl⟩ := o6.shape
  rw [Hsl.out] at o6 ⊢
  have HG := Lib.hid o6.ints
  have hb16 := hbb.trans (b6.mono hbb.size)
  have HR := Lib.hid (HR1.out.below b6)
  clear c0 c1 b6 o6 HR1 hPP hlt2 hbb
  have Hbd : Hid (∀ k : Nat, k ≤ 24 → -11508480 ≤ mS (sums ps ws) l rule k ∧ mS (sums ps ws) l rule k ≤ 11508480) := Lib.hid fun k hk => by have := mS_bd (rule := rule) HT.out Hpl.out k; omega
  have Hmu : Hid (∀ x : Nat, -479520 ≤ nth (sums ps ws) x * nth l x ∧ nth (sums ps ws) x * nth l x ≤ 479520) := Lib.hid fun x => by rw [Int.mul_comm]; exact mul_abs (B := 999) (U := 480) (Hpl.out x) (sums_bd HT.out x) (by omega)
  have Hmul0 : Hid (mS (sums ps ws) l rule 0 = 0) := Lib.hid rfl
  have Hstep : Hid (∀ (k x : Nat), k < nS → nth rule k = (x : Int) → mS (sums ps ws) l rule (k + 1) = mS (sums ps ws) l rule k + nth (sums ps ws) x * nth l x) := Lib.hid fun k x hk hx => by
    rw [mS, hx, Int.toNat_natCast]
  have Hend : Hid (rmS ps ws l rule = mS (sums ps ws) l rule nS) := Lib.hid (by rw [rmS, hSl.out])
  have hsb := sums_bd HT.out 0
  have hsp := sums_pos HT.out 0 (by have := Hl.out; omega)
  have Hcut : Hid (∀ W : World, Calls Try.prog 62 #[.int .i64 (mS (sums ps ws) l rule nS), .int .i64 (nth (sums ps ws) 0)] W fun e w' => e = .returned (.agg #[.int .i64 (nm (rmS ps ws l rule) (nth (sums ps ws) 0)), .int .i64 (dn (rmS ps ws l rule) (nth (sums ps ws) 0))]) ∧ Below W.heap.size W w') := Lib.hid fun W => by
    rw [Hend.out]
    have := Hbd.out nS hsn
    exact spec_l2Cut _ _ W (by omega) (by omega)
  clear hsb hsp
  go_wp2_with fail
  go_loopw [8, 9] (fun v8 v9 wr => ∃ k : Nat, k ≤ nS ∧ v8 = .int .i64 (mS (sums ps ws) l rule k) ∧ v9 = .int .i64 (k : Int) ∧ Below w6.heap.size w6 wr) (fun _ v9 _ => nS - (intOf v9).toNat)
  case atStart => exact ⟨0, Nat.zero_le _, by rw [Hmul0.out], rfl, Below.refl _ _⟩
  case round =>
    obtain ⟨k, hk, rfl, rfl, hbel⟩ := hrel
    have hbelw := hb16.trans (hbel.mono hb16.size)
    by_cases hlt : (k : Int) < nS
    · obtain ⟨b1, o1, rfl, hc1⟩ := HS.out.at (i := k) hbelw (by omega)
      obtain ⟨x, hx, hxe⟩ := Hsb.out k (by omega)
      rw [hxe] at hc1
      obtain ⟨b2, o2, rfl, hc2⟩ := HL.out.at (i := x) hbelw (by omega)
      obtain ⟨b3, o3, rfl, hc3⟩ := HG.out.at (i := x) hbel (by omega)
      have Hst2 := Lib.hid (Hstep.out k x (by omega) hxe)
      have h1 := Hbd.out k (by omega)
      have h2 := Hmu.out x
      clear hxe
      generalize mS (sums ps ws) l rule k = sm at *
      generalize hu : nth l x = u at *
      generalize hv : nth (sums ps ws) x = v at *
      have k1 : IntKind.i64.wrap (v * u) = v * u := IntWalk.i64_in _ (by omega)
      have k2 : IntKind.i64.wrap (sm + v * u) = sm + v * u := IntWalk.i64_in _ (by omega)
      have k3 : (0 : Int) ≤ (x : Int) := by omega
      have k4 : (x : Int) < (nP : Int) := by omega
      have k5 : (0 : Int) ≤ (k : Int) := by omega
      clear hu hv h1 h2
      go_wp2_with fail
      go_quiet (fail)
      go_wp2_with fail
      go_roundw
      case rel => exact ⟨k + 1, by omega, by rw [Hst2.out], by go_num, below_drewN hbel _⟩
      case measure => simp [intOf]; omega
    · obtain rfl : k = nS := by omega
      obtain ⟨b3, o3, rfl, hc3⟩ := HG.out.at (i := 0) hbel (by omega)
      generalize hgn : nm (rmS ps ws l rule) (nth (sums ps ws) 0) = gn at *
      generalize hgd : dn (rmS ps ws l rule) (nth (sums ps ws) 0) = gd at *
      have Hgn := Lib.hid hgn
      have Hgd := Lib.hid hgd
      clear hgn hgd
      clear Hbd Hmu Hstep Hend Hmul0
      generalize mS (sums ps ws) l rule k = gs at *
      generalize hs0 : nth (sums ps ws) 0 = s0 at *
      have Hs0 := Lib.hid hs0
      clear hs0
      have hR := HR.out.below hbel
      rw [Nat.add_zero] at hc3
      go_wp2_with (go_at_call 62; refine (Hcut.out _).mono ?_; rintro e w9 ⟨rfl, b9⟩
                   have hb9 := hbelw.trans (b9.mono hbelw.size)
                   have hR9 := hR.below b9
                   have q3 := hR9.c0
                   have q4 := hR9.c1
                   have q5 := hR9.f0
                   have q6 := hR9.f1
                   have hr := hR9.set (.int .i64 gn) (.int .i64 gd))
      exact bodyPost_ret (v := .agg #[.int .i64 gn, .int .i64 gd]) (by simp [results, Try.results79, go_sem, hr.1, hr.2]) rfl ⟨by rw [Hs0.out, Hgn.out, Hgd.out], (hb9.setCell (by simp) _).setCell (by simp) _⟩
end Go.Proofs.Ytjkkfjipgomkdaa
