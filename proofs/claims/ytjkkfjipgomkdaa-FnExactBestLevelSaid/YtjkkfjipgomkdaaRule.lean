/- Contracts: is a list a stopping, is it a rule, by the program and by the reference. -/
import Derived.Test.YtjkkfjipgomkdaaPlStop
import Derived.Test.YtjkkfjipgomkdaaAllW
import Derived.Test.YtjkkfjipgomkdaaFrac
namespace Go.Proofs.Ytjkkfjipgomkdaa
open Go.RowKit

theorem stop_no1 {ps rule : List Int} (h : risB rule = false) : stopB ps rule = false := by simp [stopB, h]
theorem stop_no2 {ps rule : List Int} (h : allIn rule 0 ((ps.length : Int) - 1) = false) : stopB ps rule = false := by simp [stopB, h]
theorem stop_no3 {ps rule : List Int} {i e : Nat} (hi : i < (ends ps).length) (he : nth (ends ps) i = (e : Int)) (h : ¬ (onR ps rule e).length = 1) : stopB ps rule = false := by
  rw [stopB, all_f hi (by rw [he, Int.toNat_natCast, beq_eq_false_iff_ne]; exact h)]; simp
theorem stop_yes {ps rule : List Int} (h1 : risB rule = true) (h2 : allIn rule 0 ((ps.length : Int) - 1) = true) (h : ∀ i e : Nat, i < (ends ps).length → nth (ends ps) i = (e : Int) → (onR ps rule e).length = 1) : stopB ps rule = true := by
  rw [stopB, h1, h2, all_t fun i hi => by
    obtain ⟨e, he1, he2, he3⟩ := end_nth hi
    rw [he3, Int.toNat_natCast, beq_iff_eq]; exact h i e hi he3]; rfl
set_option maxRecDepth 100000 in
set_option maxHeartbeats 1000000 in
theorem impl_isStopping (aP : Option Addr) (nP cP : Nat) (aW : Option Addr) (nW cW : Nat) (ps ws : List Int) (aR : Option Addr) (nR cR : Nat) (rule : List Int) (w : World) (h : Tre w aP nP cP aW nW cW ps ws) (hp : Pa ps) (hR : Ints w aR nR rule) (hn : nR ≤ 1048576) :
    Calls Try.prog 96 #[.agg #[.slice aP nP cP, .slice aW nW cW], .slice aR nR cR] w fun e w' => e = .returned (.bool (stopB ps rule)) ∧ Below w.heap.size w w' := by
  have Hp := Lib.hid hp
  have hn24 := hp.n24
  have hl := h.p.1
  have hlw := h.w.1
  have hpn := h.pn
  have hwn := h.wn
  have hb1 := below_new w (.cells #[.slice aP nP cP, .slice aW nW cW] 28)
  have hP1 := Lib.hid (Pair.new w (.slice aP nP cP) (.slice aW nW cW) 28)
  have H := Lib.hid h
  have Hl := Lib.hid hl
  have Hlw := Lib.hid hlw
  clear h hl hlw
  have hnP : nP ≤ 24 := by have := Hl.out; omega
  have HR := Lib.hid hR
  clear hp hn24 hR
  have c0 := hP1.out.c0
  have c1 := hP1.out.c1
  go_enter Try.func96, Try.ntmps96
  go_wp2_with fail
  generalize (w.alloc (.cells #[.slice aP nP cP, .slice aW nW cW] 28)) = w2 at *
  refine (impl_rising _ _ _ rule _ hn (HR.out.below hb1)).mono ?_
  rintro e w3 ⟨rfl, hb3⟩
  have hP3 := hP1.out.below hb3
  have d0 := hP3.c0
  have d1 := hP3.c1
  have HP3 := Lib.hid hP3
  have hb13 := hb1.trans (hb3.mono hb1.size)
  clear hP3 c0 c1 hb3 hP1
  cases hr : risB rule
  · have Hv := Lib.hid (stop_no1 (ps := ps) hr)
    clear hr
    go_wp2_with fail
    go_ret
    exact ⟨rb Hv.out.symm, hb13⟩
  have Hr := Lib.hid hr
  clear hr
  have k1 : IntKind.i64.wrap ((nP : Int) - 1) = (nP : Int) - 1 := IntWalk.i64_in _ (by omega)
  go_wp2_with fail
  refine (impl_allWithin _ _ _ _ _ rule _ (by omega) (HR.out.below hb13)).mono ?_
  rintro e w4 ⟨rfl, rfl⟩
  have Hle : Hid (((ps.length : Int) - 1) = (nP : Int) - 1) := Lib.hid (by rw [Hl.out])
  rw [← Hle.out]
  cases hr : allIn rule 0 ((ps.length : Int) - 1)
  · have Hv := Lib.hid (stop_no2 hr)
    clear hr
    go_wp2_with fail
    go_ret
    exact ⟨rb Hv.out.symm, hb13⟩
  have Ha := Lib.hid hr
  clear hr
  go_wp2_with fail
  refine (impl_ends _ _ _ _ _ _ ps ws _ (H.out.below hb13) Hp.out).mono ?_
  rintro e w5 ⟨v, rfl, ho, hb5⟩
  obtain ⟨a5, c5, rfl⟩ := ho.shape
  have HE := Lib.hid ho.ints
  have hP5 := HP3.out.below hb5
  have HP5 := Lib.hid hP5
  have x0 := hP5.c0
  have x1 := hP5.c1
  have hb15 := hb13.trans (hb5.mono hb13.size)
  have hel : Hid ((ends ps).length ≤ 24) := Lib.hid (by have := filt_length (endB ps) ps.length; have := Hl.out; rw [ends]; omega)
  have Hen : Hid (∀ i, i < (ends ps).length → ∃ e : Nat, e < nP ∧ nth (ends ps) i = (e : Int)) := Lib.hid fun i hi => by
    obtain ⟨e, h1, _, h3⟩ := end_nth hi
    exact ⟨e, by have := Hl.out; omega, h3⟩
  have Hno : Hid (∀ {i e : Nat}, i < (ends ps).length → nth (ends ps) i = (e : Int) → ¬ (onR ps rule e).length = 1 → stopB ps rule = false) := Lib.hid fun hi he h => stop_no3 hi he h
  have Hyes : Hid ((∀ i e : Nat, i < (ends ps).length → nth (ends ps) i = (e : Int) → (onR ps rule e).length = 1) → stopB ps rule = true) := Lib.hid fun h => stop_yes Hr.out Ha.out h
  generalize ends ps = es at *
  clear hP5 d0 d1 hb5 ho HP3 hb13
  go_wp2_with fail
  go_loopw [22] (fun v22 wr => ∃ i : Nat, i ≤ es.length ∧ v22 = .int .i64 (i : Int) ∧ (∀ j e : Nat, j < i → nth es j = (e : Int) → (onR ps rule e).length = 1) ∧ Ints wr a5 es.length es ∧ Pair wr w.heap.size (.slice aP nP cP) (.slice aW nW cW) ∧ Below w.heap.size w wr) (fun v22 _ => es.length - (intOf v22).toNat)
  case atStart => exact ⟨0, Nat.zero_le _, rfl, fun j e hj => by omega, HE.out, HP5.out, hb15⟩
  case round =>
    clear HE HP5 hb15 x0 x1
    obtain ⟨i, hi, rfl, hall, hE, hP, hbel⟩ := hrel
    have Hall := Lib.hid hall
    have HE := Lib.hid hE
    have HP := Lib.hid hP
    have x0 := hP.c0
    have x1 := hP.c1
    clear hall hE hP
    by_cases hlt : (i : Int) < es.length
    · obtain ⟨be, oe, rfl, hce⟩ := HE.out.at (i := i) (Below.refl _ _) (by omega)
      obtain ⟨e, he, hei⟩ := Hen.out i (by omega)
      rw [hei] at hce
      have Hei := Lib.hid hei
      clear hei
      have Hcw := Lib.hid (impl_way _ _ _ _ _ _ ps ws e _ (H.out.below hbel) Hp.out he)
      have hcnt : Hid ((onR ps rule e).length ≤ 1048576) := Lib.hid (by
        have := way_length Hp.out e (by have := Hl.out; omega)
        have h2 := List.length_filter_le (hasB rule) (way ps e)
        rw [onR]; omega)
      have hwl : Hid ((way ps e).length ≤ 1048576) := Lib.hid (by
        have := way_length Hp.out e (by have := Hl.out; omega)
        omega)
      have Hon : Hid ((way ps e).filter (hasB rule) = onR ps rule e) := Lib.hid rfl
      by_cases h1 : (onR ps rule e).length = 1
      · have H1 : Hid (∀ e' : Nat, nth es i = (e' : Int) → (onR ps rule e').length = 1) := Lib.hid fun e' he' => by
          have := Hei.out
          obtain rfl : e' = e := by omega
          exact h1
        have hel2 := hel.out
        have hi1 : Hid (i + 1 ≤ es.length) := Lib.hid (by omega)
        generalize way ps e = wy at *
        generalize onR ps rule e = ow at *
        go_wp2_with (first
          | (go_at_call 101; refine Hcw.out.mono ?_; rintro e' w6 ⟨v6, rfl, o6, b6⟩; obtain ⟨a6, c6, rfl⟩ := o6.shape; have I6 := Lib.hid o6.ints)
          | (go_at_call 111; refine (impl_both _ _ _ wy _ _ _ rule _ I6.out (HR.out.below (hbel.trans (b6.mono hbel.size))) hwl.out hn).mono ?_; rintro e' w7 ⟨v7, rfl, o7, b7⟩; rw [Hon.out] at o7; obtain ⟨a7, c7, rfl⟩ := o7.shape))
        have hbel7 := (hbel.trans (b6.mono hbel.size)).trans (b7.mono (hbel.trans (b6.mono hbel.size)).size)
        go_roundw
        case rel => exact ⟨i + 1, hi1.out, by go_num, fun j e' hj he' => by
          by_cases ee : j = i
          · subst ee
            exact H1.out e' he'
          · exact Hall.out j e' (by omega) he', (HE.out.below b6).below b7, (HP.out.below b6).below b7, hbel7⟩
        case measure => have := hi1.out; simp [intOf]; omega
      · have Hv : Hid (stopB ps rule = false) := Lib.hid (Hno.out (by omega) Hei.out h1)
        have h1b : ¬ ((onR ps rule e).length : Int) = 1 := by omega
        have h1c : (((onR ps rule e).length : Int) == 1) = false := by rw [beq_eq_false_iff_ne]; exact h1b
        generalize way ps e = wy at *
        generalize onR ps rule e = ow at *
        go_wp2_with (first
          | (go_at_call 101; refine Hcw.out.mono ?_; rintro e' w6 ⟨v6, rfl, o6, b6⟩; obtain ⟨a6, c6, rfl⟩ := o6.shape; have I6 := Lib.hid o6.ints)
          | (go_at_call 111; refine (impl_both _ _ _ wy _ _ _ rule _ I6.out (HR.out.below (hbel.trans (b6.mono hbel.size))) hwl.out hn).mono ?_; rintro e' w7 ⟨v7, rfl, o7, b7⟩; rw [Hon.out] at o7; obtain ⟨a7, c7, rfl⟩ := o7.shape))
        have hbel7 := (hbel.trans (b6.mono hbel.size)).trans (b7.mono (hbel.trans (b6.mono hbel.size)).size)
        go_ret
        exact ⟨rb Hv.out.symm, hbel7⟩
    · obtain rfl : i = es.length := by omega
      have Hv : Hid (stopB ps rule = true) := Lib.hid (Hyes.out fun j e hj he => Hall.out j e hj he)
      go_wp2_with fail
      go_ret
      exact ⟨rb Hv.out.symm, hbel⟩
set_option maxRecDepth 100000 in
set_option maxHeartbeats 1000000 in
theorem spec_l1Rising (a : Option Addr) (n cap : Nat) (lo up : Int) (l : List Int) (w : World) (hn : n ≤ 1048576) (h : Ints w a n l) :
    Calls Try.prog 95 #[.slice a n cap, .int .i64 lo, .int .i64 up] w fun e w' => e = .returned (.bool (risB l && allIn l lo up)) ∧ Below w.heap.size w w' := by
  have hl := Lib.hid h.1
  have H := Lib.hid h
  clear h
  go_enter Try.func95, Try.ntmps95
  go_wp2_with fail
  go_loopw [7] (fun v7 wr => ∃ i : Nat, i ≤ n ∧ v7 = .int .i64 (i : Int) ∧ (∀ j, j < i → inB (nth l j) lo up = true) ∧ (∀ j, 1 ≤ j → j < i → nth l (j - 1) < nth l j) ∧ Below w.heap.size w wr) (fun v7 _ => n - (intOf v7).toNat)
  case atStart => exact ⟨0, Nat.zero_le _, rfl, fun j hj => by omega, fun j hj hj2 => by omega, Below.refl _ _⟩
  case round =>
    obtain ⟨i, hin, rfl, hall, hris, hbel⟩ := hrel
    have Hall := Lib.hid hall
    have Hris := Lib.hid hris
    clear hall hris
    by_cases hlt : (i : Int) < n
    · obtain ⟨b, off, rfl, hcL⟩ := H.out.at (i := i) hbel (by omega)
      have k2 : (0 : Int) ≤ (i : Int) := by omega
      have Hfin : Hid (∀ m, Below w.heap.size w (wr.drewN m)) := Lib.hid fun m => below_drewN hbel m
      cases hin2 : inB (nth l i) lo up
      · have Hv : Hid ((risB l && allIn l lo up) = false) := Lib.hid (by rw [show allIn l lo up = false from all_f (i := i) (by have := hl.out; omega) hin2]; simp)
        have Hc : Hid (∀ W : World, Calls Try.prog 72 #[.int .i64 (nth l i), .int .i64 lo, .int .i64 up] W fun e w' => e = .returned (.bool false) ∧ W = w') := Lib.hid fun W => by rw [← hin2]; exact spec_l1In _ _ _ W
        generalize nth l i = u at *
        clear hin2
        go_wp2_with fail
        go_quiet ((go_at_call 72; exact quietL (Hc.out _)))
        go_wp2_with fail
        go_ret
        exact ⟨rb Hv.out.symm, Hfin.out _⟩
      have Hc : Hid (∀ W : World, Calls Try.prog 72 #[.int .i64 (nth l i), .int .i64 lo, .int .i64 up] W fun e w' => e = .returned (.bool true) ∧ W = w') := Lib.hid fun W => by rw [← hin2]; exact spec_l1In _ _ _ W
      have Hin2 := Lib.hid hin2
      clear hin2
      rcases Nat.eq_zero_or_pos i with h0 | h0
      · have k6 : ¬ 0 < i := by omega
        have k7 : decide (0 < i) = false := decide_eq_false k6
        have H0 := Lib.hid h0
        clear h0
        generalize hv : nth l i = v at hcL Hc
        have Hv := Lib.hid hv
        clear hv
        go_wp2_with fail
        go_quiet ((go_at_call 72; exact quietL (Hc.out _)))
        go_wp2_with fail
        go_roundw
        case rel => exact ⟨i + 1, by omega, by go_num, fun j hj => by
            have := H0.out
            by_cases e : j = i
            · subst e; exact Hin2.out
            · exact Hall.out j (by omega), fun j hj hji => by have := H0.out; omega, Hfin.out _⟩
        case measure => simp [intOf]; omega
      · obtain ⟨b2, off2, he2, hcM⟩ := H.out.at (i := i - 1) hbel (by omega)
        cases he2
        have k1 : IntKind.i64.wrap ((i : Int) - 1) = (i : Int) - 1 := IntWalk.i64_in _ (by omega)
        have k3 : (0 : Int) ≤ (i : Int) - 1 := by omega
        have k4 : (i : Int) - 1 < (n : Int) := by omega
        have k5 : ((i : Int) - 1).toNat = i - 1 := by omega
        have k6 : 0 < i := h0
        have k7 : decide (0 < i) = true := decide_eq_true k6
        by_cases hge : nth l (i - 1) < nth l i
        · have Hg := Lib.hid hge
          have hge2 : ¬ nth l i ≤ nth l (i - 1) := by omega
          generalize nth l (i - 1) = u at hcM hge hge2
          generalize hv : nth l i = v at hcL hge hge2 Hc
          have Hv := Lib.hid hv
          clear hv
          go_wp2_with fail
          go_quiet ((go_at_call 72; exact quietL (Hc.out _)))
          go_wp2_with fail
          go_roundw
          case rel => exact ⟨i + 1, by omega, by go_num, fun j hj => by
            by_cases e : j = i
            · subst e; exact Hin2.out
            · exact Hall.out j (by omega), fun j hj hji => by
            by_cases e : j = i
            · subst e; exact Hg.out
            · exact Hris.out j hj (by omega), Hfin.out _⟩
          case measure => simp [intOf]; omega
        · have Hv : Hid ((risB l && allIn l lo up) = false) := Lib.hid (by rw [ris_f h0 (by rw [hl.out]; omega) hge]; rfl)
          have hge2 : nth l i ≤ nth l (i - 1) := by omega
          generalize nth l (i - 1) = u at hcM hge hge2
          generalize hv : nth l i = v at hcL hge hge2 Hc
          clear hv
          go_wp2_with fail
          go_quiet ((go_at_call 72; exact quietL (Hc.out _)))
          go_wp2_with fail
          go_ret
          exact ⟨rb Hv.out.symm, Hfin.out _⟩
    · have Hv : Hid ((risB l && allIn l lo up) = true) := Lib.hid (by
        rw [ris_t fun j hj hj2 => Hris.out j hj (by have := hl.out; omega), show allIn l lo up = true from all_t fun j hj => Hall.out j (by have := hl.out; omega)]; rfl)
      go_wp2_with fail
      go_ret
      exact ⟨rb Hv.out.symm, hbel⟩
end Go.Proofs.Ytjkkfjipgomkdaa
