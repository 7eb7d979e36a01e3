/- Contracts: how many children lie on which side, by the reference. -/
import Derived.Test.YtfnmhoidgnihoaaUneven
namespace Go.Proofs.Ytfnmhoidgnihoaa
open Go.RowKit

set_option maxRecDepth 100000 in
set_option maxHeartbeats 2000000 in
theorem spec_l6Sides (aP : Option Addr) (nP cP : Nat) (aW : Option Addr) (nW cW : Nat) (aL : Option Addr) (nL cL : Nat) (ps ws l : List Int) (X : Nat) (w : World) (h : Mkt w aP nP cP aW nW cW aL nL cL ps ws l) (hT : Tr ps ws) (hnl : nL = ps.length) (hX : X < nP) :
    Calls Try.prog 77 #[.agg #[.slice aP nP cP, .slice aW nW cW, .slice aL nL cL], .int .i64 (X : Int)] w fun e w' => e = .returned (.agg #[.int .i64 (nLess ps l X : Int), .int .i64 (nSame ps l X : Int), .int .i64 (nMore ps l X : Int)]) ∧ Below w.heap.size w w' := by
  have hn24 := hT.n24
  have HTr := Lib.hid hT
  have Hnl := Lib.hid hnl
  clear hnl hT
  have hl := h.t.p.1
  have hlw := h.t.w.1
  have hll := h.l.1
  have hpn := h.t.pn
  have hwn := h.t.wn
  have hln := h.ln
  have hb1 := below_new w (.cells #[.slice aP nP cP, .slice aW nW cW, .slice aL nL cL] 31)
  have hX1 := Lib.hid (Trip.new w (.slice aP nP cP) (.slice aW nW cW) (.slice aL nL cL) 31)
  have H := Lib.hid h
  have Hl := Lib.hid hl
  have Hlw := Lib.hid hlw
  have Hll := Lib.hid hll
  clear h hl hlw hll
  have hnP : nP ≤ 24 := by have := Hl.out; omega
  have hkl : (kids ps X).length ≤ 24 := by have := filt_length (fun y => nth ps y == (X : Int)) ps.length; unfold kids; omega
  have HKm : Hid (∀ i, i < (kids ps X).length → ∃ j : Nat, j < nP ∧ nth (kids ps X) i = j) := Lib.hid fun i hi => by
    obtain ⟨j, h1, _, h3⟩ := nth_filt hi
    exact ⟨j, by have := Hl.out; omega, h3⟩
  clear hn24 hpn hwn hln
  go_enter Try.func77, Try.ntmps77
  go_upto_region 1 with fail
  have hbr := hb1.trans ((below_new (w.alloc (.cells #[.slice aP nP cP, .slice aW nW cW, .slice aL nL cL] 31)) (.cells #[.int .i64 0, .int .i64 0, .int .i64 0] 80)).mono hb1.size)
  have hXr := Lib.hid (hX1.out.alloc (.cells #[.int .i64 0, .int .i64 0, .int .i64 0] 80))
  have hR := Trip.new (w.alloc (.cells #[.slice aP nP cP, .slice aW nW cW, .slice aL nL cL] 31)) (.int .i64 0) (.int .i64 0) (.int .i64 0) 80
  rw [show (w.alloc (.cells #[.slice aP nP cP, .slice aW nW cW, .slice aL nL cL] 31)).heap.size = w.heap.size + 1 by simp] at hR
  have HR0 := Lib.hid hR
  clear hb1 hX1 hR
  generalize ((w.alloc (.cells #[.slice aP nP cP, .slice aW nW cW, .slice aL nL cL] 31)).alloc (.cells #[.int .i64 0, .int .i64 0, .int .i64 0] 80)) = u1 at *
  have c0 := hXr.out.c0
  have c1 := hXr.out.c1
  have hlt2 := HR0.out.lt
  go_wp2_with fail
  refine (spec_l2Kids _ _ _ _ _ _ ps ws (X : Int) _ (H.out.t.below hbr) HTr.out.toPa (by omega)).mono ?_
  rintro e w5 ⟨v5, rfl, o5, b5⟩
  rw [Int.toNat_natCast] at o5
  obtain ⟨a5, c5, rfl⟩ := o5.shape
  have hb15 := hbr.trans (b5.mono hbr.size)
  have hsz5 := b5.size
  have HX5 := hXr.out.below b5
  have HR5 := HR0.out.below b5
  have hnew := below_new w5 (.cells #[.int .i64 0, .int .i64 0, .int .i64 0] 80)
  have tn5 := Trip.new w5 (.int .i64 0) (.int .i64 0) (.int .i64 0) 80
  have hB6 : Below w.heap.size w (w5.alloc (.cells #[.int .i64 0, .int .i64 0, .int .i64 0] 80)) := hb15.trans (hnew.mono hb15.size)
  have hX6 := Lib.hid (HX5.below hnew)
  have hR6 := Lib.hid (HR5.below hnew)
  have hT6 := Lib.hid tn5
  have hne5 : ∀ p, a5 = some p → p.block ≠ w5.heap.size := fun p hp e => by
    subst hp
    rcases Nat.eq_zero_or_pos (kids ps X).length with h0 | h0
    · have := o5.cap
      rw [h0] at o5
      have h3 := World.ownsRow.lt o5
      unfold Own World.ownsRow at o5
      rcases o5.2 with ⟨h1, _⟩ | ⟨g, cp, cur, h1, _⟩
      · cases h1
      · have := (Value.slice.inj h1).1
        cases this
        have := (h3 g rfl).2
        simp at e; omega
    · obtain ⟨gg, cap, he, _, hg⟩ := o5.form h0
      have := (Value.slice.inj he).1
      cases this
      simp at e; omega
  have hE6 := Lib.hid (o5.ints.below hnew)
  have Hne := Lib.hid hne5
  have q0 := tn5.c0
  have q1 := tn5.c1
  have q2 := tn5.c2
  have p0 := tn5.f0
  have p1 := tn5.f1
  have p2 := tn5.f2
  clear c0 c1 HX5 HR5 hnew tn5 hne5 o5 hb15 HR0 hXr b5
  go_wp2_with fail
  clear q0 q1 q2 p0 p1 p2
  have hs6 : w5.heap.size < (w5.alloc (.cells #[.int .i64 0, .int .i64 0, .int .i64 0] 80)).heap.size := by simp
  generalize (w5.alloc (.cells #[.int .i64 0, .int .i64 0, .int .i64 0] 80)) = w6 at *
  obtain ⟨KK, hKK⟩ : ∃ KK, KK = kids ps X := ⟨_, rfl⟩
  have HKK := Lib.hid hKK
  rw [← hKK] at hE6 HKm hkl ⊢
  clear hKK
  go_loopw [7] (fun v7 wr => ∃ i : Nat, i ≤ KK.length ∧ v7 = .int .i64 (i : Int) ∧ Trip wr w5.heap.size (.int .i64 (cntP l (lessF (nth l X)) (KK.take i) : Int)) (.int .i64 (cntP l (sameF (nth l X)) (KK.take i) : Int)) (.int .i64 (cntP l (moreF (nth l X)) (KK.take i) : Int)) ∧ Trip wr w.heap.size (.slice aP nP cP) (.slice aW nW cW) (.slice aL nL cL) ∧ Trip wr (w.heap.size + 1) (.int .i64 0) (.int .i64 0) (.int .i64 0) ∧ Ints wr a5 KK.length KK ∧ Below w.heap.size w wr) (fun v7 _ => KK.length - (intOf v7).toNat)
  case atStart => exact ⟨0, Nat.zero_le _, rfl, hT6.out, hX6.out, hR6.out, hE6.out, hB6⟩
  case round =>
    clear hT6 hX6 hR6 hE6 hB6 hs6
    obtain ⟨i, hi, rfl, hT, hX3, hR3, hE, hbel⟩ := hrel
    have c2 := hX3.c2
    have HX := Lib.hid hX3
    have HR := Lib.hid hR3
    have HE := Lib.hid hE
    have HTT := Lib.hid hT
    clear hX3 hR3 hE hT
    by_cases hlt : (i : Int) < KK.length
    · obtain ⟨bE, oE, rfl, hcE⟩ := HE.out.at (i := i) (Below.refl _ _) (by omega)
      obtain ⟨y, hy, hyn⟩ := HKm.out i (by omega)
      rw [hyn] at hcE
      have hyL : y < nL := by have := Hnl.out; have := Hl.out; omega
      have hXL : X < nL := by have := Hnl.out; have := Hl.out; omega
      obtain ⟨bL, oL, hbo, hcL⟩ := H.out.l.at (i := y) hbel hyL
      obtain ⟨bL', oL', hbo', hcX⟩ := H.out.l.at (i := X) hbel hXL
      rw [hbo] at hbo'
      cases hbo'
      subst hbo
      have hL1 := cntP_succ l (lessF (nth l X)) KK (i := i) (by omega)
      have hS1 := cntP_succ l (sameF (nth l X)) KK (i := i) (by omega)
      have hM1 := cntP_succ l (moreF (nth l X)) KK (i := i) (by omega)
      rw [hyn, Int.toNat_natCast] at hL1 hS1 hM1
      have hcl := cntP_le l (lessF (nth l X)) (KK.take i)
      have hcs := cntP_le l (sameF (nth l X)) (KK.take i)
      have hcm := cntP_le l (moreF (nth l X)) (KK.take i)
      rw [List.length_take, Nat.min_eq_left (by omega)] at hcl hcs hcm
      have hfl : lessF (nth l X) (nth l y) = decide (nth l y < nth l X) := rfl
      have hfs : sameF (nth l X) (nth l y) = (nth l y == nth l X) := rfl
      have hfm : moreF (nth l X) (nth l y) = decide (nth l y > nth l X) := rfl
      rw [hfl] at hL1
      rw [hfs] at hS1
      rw [hfm] at hM1
      clear hfl hfs hfm hyn
      have Hc := Lib.hid (And.intro hL1 (And.intro hS1 hM1))
      clear hL1 hS1 hM1
      generalize hcL' : cntP l (lessF (nth l X)) (KK.take i) = kL at *
      generalize hcS' : cntP l (sameF (nth l X)) (KK.take i) = kS at *
      generalize hcM' : cntP l (moreF (nth l X)) (KK.take i) = kM at *
      clear hcL' hcS' hcM'
      generalize hp : nth l X = p at *
      generalize hq : nth l y = q at *
      clear hq
      have k2 : (0 : Int) ≤ (i : Int) := by omega
      have k4 : (0 : Int) ≤ (y : Int) := by omega
      have k5 : (y : Int) < (nL : Int) := by omega
      go_wp2_with fail
      go_quiet (fail)
      have HTq := HTT.out
      have hT : Hid (Trip (wr.drewN nq) w5.heap.size (.int .i64 (kL : Int)) (.int .i64 (kS : Int)) (.int .i64 (kM : Int))) := Lib.hid ⟨HTq.c0, HTq.c1, HTq.c2, HTq.f0, HTq.f1, HTq.f2⟩
      have HX' : Hid (Trip (wr.drewN nq) w.heap.size (.slice aP nP cP) (.slice aW nW cW) (.slice (some ⟨bL, oL, none⟩) nL cL)) := Lib.hid ⟨HX.out.c0, HX.out.c1, HX.out.c2, HX.out.f0, HX.out.f1, HX.out.f2⟩
      have HR' : Hid (Trip (wr.drewN nq) (w.heap.size + 1) (.int .i64 0) (.int .i64 0) (.int .i64 0)) := Lib.hid ⟨HR.out.c0, HR.out.c1, HR.out.c2, HR.out.f0, HR.out.f1, HR.out.f2⟩
      have HE' := Lib.hid (HE.out.below (below_drewN (Below.refl _ _) nq))
      have hbel' := below_drewN hbel nq
      have hcX' : (wr.drewN nq).cell? ⟨bL, oL + X, none⟩ = some (.int .i64 p) := hcX
      clear HTT HTq HX HR HE hbel hcX hcE hcL c2
      have HX := HX'
      have HR := HR'
      have HE := HE'
      have hbel := hbel'
      have hcX := hcX'
      clear HX' HR' HE' hbel' hcX'
      generalize wr.drewN nq = wz at *
      have c2 := HX.out.c2
      have t0 := hT.out.c0
      have t1 := hT.out.c1
      have t2 := hT.out.c2
      have g0 := hT.out.f0
      have g1 := hT.out.f1
      have g2 := hT.out.f2
      by_cases h1 : q < p
      · have hL1 := Hc.out.1
        have hS1 := Hc.out.2.1
        have hM1 := Hc.out.2.2
        have e1 : (q == p) = false := by rw [beq_eq_false_iff_ne]; omega
        rw [decide_eq_true h1, if_pos rfl] at hL1
        rw [e1, if_neg Bool.false_ne_true, Nat.add_zero] at hS1
        rw [decide_eq_false (by omega), if_neg Bool.false_ne_true, Nat.add_zero] at hM1
        have HL1 := Lib.hid hL1
        have HS1 := Lib.hid hS1
        have HM1 := Lib.hid hM1
        clear e1 hL1 hS1 hM1
        have hT2 := Lib.hid (hT.out.put0 (.int .i64 ((kL : Int) + 1)))
        have hX2 := Lib.hid (HX.out.far (b := w5.heap.size) (i := 0) (by omega) (.int .i64 ((kL : Int) + 1)))
        have hR2 := Lib.hid (HR.out.far (b := w5.heap.size) (i := 0) (by omega) (.int .i64 ((kL : Int) + 1)))
        have hE2 := Lib.hid (ints_far HE.out (b := w5.heap.size) (i := 0) Hne.out (.int .i64 ((kL : Int) + 1)))
        have hB2 : Hid (Below w.heap.size w (wz.setCell ⟨w5.heap.size, 0, none⟩ (.int .i64 ((kL : Int) + 1)))) := Lib.hid (hbel.setCell (show w.heap.size ≤ w5.heap.size by omega) _)
        go_wp2_with fail
        go_roundw
        case rel => exact ⟨i + 1, by omega, by go_num, by rw [HL1.out, HS1.out, HM1.out]; exact hT2.out, hX2.out, hR2.out, hE2.out, hB2.out⟩
        case measure => simp [intOf]; omega
      · by_cases h2 : q > p
        · have hL1 := Hc.out.1
          have hS1 := Hc.out.2.1
          have hM1 := Hc.out.2.2
          have e1 : (q == p) = false := by rw [beq_eq_false_iff_ne]; omega
          have HE1 := Lib.hid e1
          rw [decide_eq_false h1, if_neg Bool.false_ne_true, Nat.add_zero] at hL1
          rw [e1, if_neg Bool.false_ne_true, Nat.add_zero] at hS1
          rw [decide_eq_true h2, if_pos rfl] at hM1
          have HL1 := Lib.hid hL1
          have HS1 := Lib.hid hS1
          have HM1 := Lib.hid hM1
          clear hL1 hS1 hM1
          have hT2 := Lib.hid (hT.out.put2 (.int .i64 ((kM : Int) + 1)))
          have hX2 := Lib.hid (HX.out.far (b := w5.heap.size) (i := 2) (by omega) (.int .i64 ((kM : Int) + 1)))
          have hR2 := Lib.hid (HR.out.far (b := w5.heap.size) (i := 2) (by omega) (.int .i64 ((kM : Int) + 1)))
          have hE2 := Lib.hid (ints_far HE.out (b := w5.heap.size) (i := 2) Hne.out (.int .i64 ((kM : Int) + 1)))
          have hB2 : Hid (Below w.heap.size w (wz.setCell ⟨w5.heap.size, 2, none⟩ (.int .i64 ((kM : Int) + 1)))) := Lib.hid (hbel.setCell (show w.heap.size ≤ w5.heap.size by omega) _)
          go_wp2_with fail
          go_roundw
          case rel => exact ⟨i + 1, by omega, by go_num, by rw [HL1.out, HS1.out, HM1.out]; exact hT2.out, hX2.out, hR2.out, hE2.out, hB2.out⟩
          case measure => simp [intOf]; omega
        · have hqp : q = p := by omega
          subst hqp
          have hL1 := Hc.out.1
          have hS1 := Hc.out.2.1
          have hM1 := Hc.out.2.2
          rw [decide_eq_false h1, if_neg Bool.false_ne_true, Nat.add_zero] at hL1
          rw [show (q == q) = true by simp, if_pos rfl] at hS1
          rw [decide_eq_false h2, if_neg Bool.false_ne_true, Nat.add_zero] at hM1
          have HL1 := Lib.hid hL1
          have HS1 := Lib.hid hS1
          have HM1 := Lib.hid hM1
          clear hL1 hS1 hM1
          have hT2 := Lib.hid (hT.out.put1 (.int .i64 ((kS : Int) + 1)))
          have hX2 := Lib.hid (HX.out.far (b := w5.heap.size) (i := 1) (by omega) (.int .i64 ((kS : Int) + 1)))
          have hR2 := Lib.hid (HR.out.far (b := w5.heap.size) (i := 1) (by omega) (.int .i64 ((kS : Int) + 1)))
          have hE2 := Lib.hid (ints_far HE.out (b := w5.heap.size) (i := 1) Hne.out (.int .i64 ((kS : Int) + 1)))
          have hB2 : Hid (Below w.heap.size w (wz.setCell ⟨w5.heap.size, 1, none⟩ (.int .i64 ((kS : Int) + 1)))) := Lib.hid (hbel.setCell (show w.heap.size ≤ w5.heap.size by omega) _)
          go_wp2_with fail
          go_roundw
          case rel => exact ⟨i + 1, by omega, by go_num, by rw [HL1.out, HS1.out, HM1.out]; exact hT2.out, hX2.out, hR2.out, hE2.out, hB2.out⟩
          case measure => simp [intOf]; omega
    · obtain rfl : i = KK.length := by omega
      have hT := HTT.out
      rw [List.take_length] at hT
      have t0 := hT.c0
      have t1 := hT.c1
      have t2 := hT.c2
      have r0 := HR.out.c0
      have r1 := HR.out.c1
      have r2 := HR.out.c2
      have r3 := HR.out.f0
      have r4 := HR.out.f1
      have r5 := HR.out.f2
      have hd : nLess ps l X = cntP l (lessF (nth l X)) KK ∧ nSame ps l X = cntP l (sameF (nth l X)) KK ∧ nMore ps l X = cntP l (moreF (nth l X)) KK := by rw [HKK.out]; exact ⟨rfl, rfl, rfl⟩
      have Hd := Lib.hid hd
      clear hd
      generalize cntP l (lessF (nth l X)) KK = kL at *
      generalize cntP l (sameF (nth l X)) KK = kS at *
      generalize cntP l (moreF (nth l X)) KK = kM at *
      have hr3 := ((HR.out.put0 (.int .i64 (kL : Int))).put1 (.int .i64 (kS : Int))).put2 (.int .i64 (kM : Int))
      have hr0 := hr3.c0
      have hr1 := hr3.c1
      have hr2 := hr3.c2
      clear hr3 hT
      go_wp2_with fail
      exact bodyPost_ret (v := .agg #[.int .i64 (kL : Int), .int .i64 (kS : Int), .int .i64 (kM : Int)]) (by simp [results, Try.results77, go_sem, hr0, hr1, hr2]) rfl ⟨by rw [Hd.out.1, Hd.out.2.1, Hd.out.2.2], ((hbel.setCell (by simp) _).setCell (by simp) _).setCell (by simp) _⟩
end Go.Proofs.Ytfnmhoidgnihoaa
