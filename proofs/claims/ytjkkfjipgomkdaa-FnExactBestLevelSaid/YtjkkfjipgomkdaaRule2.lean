/- Contracts: is a list a rule, by the program and by the reference. -/
import Derived.Test.YtjkkfjipgomkdaaRule
import Derived.Test.YtjkkfjipgomkdaaTree7
namespace Go.Proofs.Ytjkkfjipgomkdaa
open Go.RowKit

theorem rule_no1 {ps rule : List Int} (h : (risB rule && allIn rule 0 ((ps.length : Int) - 1)) = false) : ruleB ps rule = false := by rw [ruleB, h]; simp
theorem rule_no2 {ps rule : List Int} {i e : Nat} (hi : i < (ends ps).length) (he : nth (ends ps) i = (e : Int)) (h : ¬ 0 ≤ stop ps (hasB rule) e) : ruleB ps rule = false := by
  rw [ruleB, all_f (n := (ends ps).length) hi (by rw [he, Int.toNat_natCast, decide_eq_false_iff_not]; exact h)]; simp
theorem rule_no3 {ps rule : List Int} {i x : Nat} (hi : i < rule.length) (he : nth rule i = (x : Int)) (h : ¬ stop ps (hasB rule) x = (x : Int)) : ruleB ps rule = false := by
  rw [ruleB, all_f (n := rule.length) hi (by rw [he, Int.toNat_natCast, beq_eq_false_iff_ne]; exact h)]; simp
theorem rule_yes {ps rule : List Int} (h1 : (risB rule && allIn rule 0 ((ps.length : Int) - 1)) = true) (h2 : ∀ i e : Nat, i < (ends ps).length → nth (ends ps) i = (e : Int) → 0 ≤ stop ps (hasB rule) e) (h3 : ∀ i x : Nat, i < rule.length → nth rule i = (x : Int) → stop ps (hasB rule) x = (x : Int)) : ruleB ps rule = true := by
  have ha : allIn rule 0 ((ps.length : Int) - 1) = true := by
    rw [Bool.and_eq_true] at h1; exact h1.2
  rw [ruleB, h1, all_t fun i hi => by
    obtain ⟨e, he1, he2, he3⟩ := end_nth hi
    rw [he3, Int.toNat_natCast, decide_eq_true_iff]; exact h2 i e hi he3, all_t fun i hi => by
    have := all_in ha hi
    have h4 := h3 i (nth rule i).toNat hi (by omega)
    rw [beq_iff_eq]; omega]; rfl
set_option maxRecDepth 100000 in
set_option maxHeartbeats 1000000 in
theorem spec_l4Rule (aP : Option Addr) (nP cP : Nat) (aW : Option Addr) (nW cW : Nat) (ps ws : List Int) (aR : Option Addr) (nR cR : Nat) (rule : List Int) (w : World) (h : Tre w aP nP cP aW nW cW ps ws) (hp : Pa ps) (hR : Ints w aR nR rule) (hn : nR ≤ 1048576) :
    Calls Try.prog 53 #[.agg #[.slice aP nP cP, .slice aW nW cW], .slice aR nR cR] w fun e w' => e = .returned (.bool (ruleB ps rule)) ∧ Below w.heap.size w w' := by
  have Hp := Lib.hid hp
  have hn24 := hp.n24
  have hl := h.p.1
  have hlw := h.w.1
  have hpn := h.pn
  have hwn := h.wn
  have hb1 := below_new w (.cells #[.slice aP nP cP, .slice aW nW cW] 28)
  have hP1 := Lib.hid (Pair.new w (.slice aP nP cP) (.slice aW nW cW) 28)
  have H := Lib.hid h
  have Hl := Lib.hid hl
  have Hlw := Lib.hid hlw
  clear h hl hlw
  have hnP : nP ≤ 24 := by have := Hl.out; omega
  have HR := Lib.hid hR
  have Hrl := Lib.hid hR.1
  clear hp hn24 hR
  have c0 := hP1.out.c0
  have c1 := hP1.out.c1
  go_enter Try.func53, Try.ntmps53
  have k1 : IntKind.i64.wrap ((nP : Int) - 1) = (nP : Int) - 1 := IntWalk.i64_in _ (by omega)
  go_wp2_with fail
  generalize (w.alloc (.cells #[.slice aP nP cP, .slice aW nW cW] 28)) = w2 at *
  refine (spec_l1Rising _ _ _ _ _ rule _ hn (HR.out.below hb1)).mono ?_
  rintro e w3 ⟨rfl, hb3⟩
  have hP3 := hP1.out.below hb3
  have d0 := hP3.c0
  have d1 := hP3.c1
  have HP3 := Lib.hid hP3
  have hb13 := hb1.trans (hb3.mono hb1.size)
  have Hle : Hid (((ps.length : Int) - 1) = (nP : Int) - 1) := Lib.hid (by rw [Hl.out])
  rw [← Hle.out]
  clear hP3 c0 c1 hb3 hP1 k1
  cases hr : risB rule && allIn rule 0 ((ps.length : Int) - 1)
  · have Hv := Lib.hid (rule_no1 hr)
    clear hr
    go_wp2_with fail
    go_ret
    exact ⟨rb Hv.out.symm, hb13⟩
  have Hr := Lib.hid hr
  have Hra : Hid (∀ i, i < rule.length → ∃ x : Nat, x < nP ∧ nth rule i = (x : Int)) := Lib.hid fun i hi => by
    have := all_in (Bool.and_eq_true _ _ ▸ hr |>.2) hi
    exact ⟨(nth rule i).toNat, by have := Hl.out; omega, by omega⟩
  clear hr
  go_wp2_with fail
  refine (spec_l2Ends _ _ _ _ _ _ ps ws _ (H.out.below hb13) Hp.out).mono ?_
  rintro e w5 ⟨v, rfl, ho, hb5⟩
  obtain ⟨a5, c5, rfl⟩ := ho.shape
  have HE := Lib.hid ho.ints
  have hP5 := HP3.out.below hb5
  have HP5 := Lib.hid hP5
  have x0 := hP5.c0
  have x1 := hP5.c1
  have hb15 := hb13.trans (hb5.mono hb13.size)
  have hel : (ends ps).length ≤ 24 := by have := filt_length (endB ps) ps.length; have := Hl.out; rw [ends]; omega
  have Hen : Hid (∀ i, i < (ends ps).length → ∃ e : Nat, e < nP ∧ nth (ends ps) i = (e : Int)) := Lib.hid fun i hi => by
    obtain ⟨e, h1, _, h3⟩ := end_nth hi
    exact ⟨e, by have := Hl.out; omega, h3⟩
  have Hno2 : Hid (∀ {i e : Nat}, i < (ends ps).length → nth (ends ps) i = (e : Int) → ¬ 0 ≤ stop ps (hasB rule) e → ruleB ps rule = false) := Lib.hid fun hi he h => rule_no2 hi he h
  have Hno3 : Hid (∀ {i x : Nat}, i < rule.length → nth rule i = (x : Int) → ¬ stop ps (hasB rule) x = (x : Int) → ruleB ps rule = false) := Lib.hid fun hi he h => rule_no3 hi he h
  have Hyes : Hid ((∀ i e : Nat, i < (ends ps).length → nth (ends ps) i = (e : Int) → 0 ≤ stop ps (hasB rule) e) → (∀ i x : Nat, i < rule.length → nth rule i = (x : Int) → stop ps (hasB rule) x = (x : Int)) → ruleB ps rule = true) := Lib.hid fun h2 h3 => rule_yes Hr.out h2 h3
  generalize ends ps = es at *
  clear hP5 d0 d1 hb5 ho HP3 hb13
  go_wp2_with fail
  go_loopw [6] (fun v9 wr => ∃ i : Nat, i ≤ es.length ∧ v9 = .int .i64 (i : Int) ∧ (∀ j e : Nat, j < i → nth es j = (e : Int) → 0 ≤ stop ps (hasB rule) e) ∧ Ints wr a5 es.length es ∧ Pair wr w.heap.size (.slice aP nP cP) (.slice aW nW cW) ∧ Below w.heap.size w wr) (fun v9 _ => es.length - (intOf v9).toNat)
  case atStart => exact ⟨0, Nat.zero_le _, rfl, fun j e hj => by omega, HE.out, HP5.out, hb15⟩
  case round =>
    clear HE HP5 hb15 x0 x1
    obtain ⟨i, hi, rfl, hall, hE, hP, hbel⟩ := hrel
    have Hall := Lib.hid hall
    have HE := Lib.hid hE
    have HP := Lib.hid hP
    have x0 := hP.c0
    have x1 := hP.c1
    clear hall hE hP
    by_cases hlt : (i : Int) < es.length
    · obtain ⟨be, oe, rfl, hce⟩ := HE.out.at (i := i) (Below.refl _ _) (by omega)
      obtain ⟨e, he, hei⟩ := Hen.out i (by omega)
      rw [hei] at hce
      have Hei := Lib.hid hei
      clear hei
      have Hcw : Hid (∀ W, Below w.heap.size w W → Calls Try.prog 88 #[.agg #[.slice aP nP cP, .slice aW nW cW], .slice aR nR cR, .int .i64 (e : Int)] W fun e1 w' => e1 = .returned (.int .i64 (stop ps (hasB rule) e)) ∧ Below W.heap.size W w') := Lib.hid fun W hW => spec_l4Stop _ _ _ _ _ _ ps ws _ _ _ rule e W (H.out.below hW) Hp.out (HR.out.below hW) hn he
      by_cases h1 : 0 ≤ stop ps (hasB rule) e
      · have H1 : Hid (∀ e' : Nat, nth es i = (e' : Int) → 0 ≤ stop ps (hasB rule) e') := Lib.hid fun e' he' => by
          have := Hei.out
          obtain rfl : e' = e := by omega
          exact h1
        generalize stop ps (hasB rule) e = st at *
        go_wp2_with fail
        go_region_held3 (fun W' => KeepR wr W' ∧ W'.cell? ⟨w.heap.size, 0, none⟩ = some (.slice aP nP cP) ∧ W'.cell? ⟨w.heap.size, 1, none⟩ = some (.slice aW nW cW) ∧ W'.cell? ⟨be, oe + i, none⟩ = some (.int .i64 (e : Int)))
          (first | exact keepC3 (by assumption) x0 x1 hce | exact keepC3 (KeepR.start _) x0 x1 hce)
          (first
            | (go_at_call 88; refine (Hcw.out _ (hbel.trans (Below.mono (by assumption : KeepR wr _ ∧ _).1 hbel.size))).mono ?_; rintro e' w6 ⟨rfl, b6⟩
               have hk6 := KeepR.next b6 (by assumption : KeepR wr _ ∧ _).1))
        go_wp2_with fail
        have b6' : Below wr.heap.size wr w6 := hk6
        go_roundw
        case rel => exact ⟨i + 1, by omega, by go_num, fun j e' hj he' => by
          by_cases ee : j = i
          · subst ee
            exact H1.out e' he'
          · exact Hall.out j e' (by omega) he', HE.out.below b6', HP.out.below b6', hbel.trans (b6'.mono hbel.size)⟩
        case measure => simp [intOf]; omega
      · have Hv : Hid (ruleB ps rule = false) := Lib.hid (Hno2.out (i := i) (e := e) (by omega) Hei.out (by omega))
        have h1b : stop ps (hasB rule) e < 0 := by omega
        generalize stop ps (hasB rule) e = st at *
        go_wp2_with fail
        go_region_held3 (fun W' => KeepR wr W' ∧ W'.cell? ⟨w.heap.size, 0, none⟩ = some (.slice aP nP cP) ∧ W'.cell? ⟨w.heap.size, 1, none⟩ = some (.slice aW nW cW) ∧ W'.cell? ⟨be, oe + i, none⟩ = some (.int .i64 (e : Int)))
          (first | exact keepC3 (by assumption) x0 x1 hce | exact keepC3 (KeepR.start _) x0 x1 hce)
          (first
            | (go_at_call 88; refine (Hcw.out _ (hbel.trans (Below.mono (by assumption : KeepR wr _ ∧ _).1 hbel.size))).mono ?_; rintro e' w6 ⟨rfl, b6⟩
               have hk6 := KeepR.next b6 (by assumption : KeepR wr _ ∧ _).1))
        go_wp2_with fail
        have b6' : Below wr.heap.size wr w6 := hk6
        go_ret
        exact ⟨rb Hv.out.symm, hbel.trans (b6'.mono hbel.size)⟩
    · obtain rfl : i = es.length := by omega
      have Hall2 : Hid (∀ i e : Nat, i < es.length → nth es i = (e : Int) → 0 ≤ stop ps (hasB rule) e) := Lib.hid fun j e hj he => Hall.out j e hj he
      have Hyes2 := Lib.hid (Hyes.out Hall2.out)
      clear Hall Hall2 HE hel Hen Hyes Hno2 hlt hi
      generalize es.length = ne at *
      obtain ⟨wo, rfl⟩ : ∃ wo, wo = wr := ⟨_, rfl⟩
      go_wp2_with fail
      go_loopw [7] (fun v9 wr => ∃ i : Nat, i ≤ nR ∧ v9 = .int .i64 (i : Int) ∧ (∀ j x : Nat, j < i → nth rule j = (x : Int) → stop ps (hasB rule) x = (x : Int)) ∧ Pair wr w.heap.size (.slice aP nP cP) (.slice aW nW cW) ∧ Below w.heap.size w wr) (fun v9 _ => nR - (intOf v9).toNat)
      case atStart => exact ⟨0, Nat.zero_le _, rfl, fun j e hj => by omega, HP.out, hbel⟩
      case round =>
        clear HP hbel x0 x1
        obtain ⟨i, hi, rfl, hall, hP, hbel⟩ := hrel
        have Hall := Lib.hid hall
        have HP := Lib.hid hP
        have x0 := hP.c0
        have x1 := hP.c1
        clear hall hP
        by_cases hlt : (i : Int) < nR
        · obtain ⟨be, oe, rfl, hce⟩ := HR.out.at (i := i) hbel (by omega)
          obtain ⟨e, he, hei⟩ := Hra.out i (by have := Hrl.out; omega)
          rw [hei] at hce
          have Hei := Lib.hid hei
          clear hei
          have Hcw : Hid (∀ W, Below w.heap.size w W → Calls Try.prog 88 #[.agg #[.slice aP nP cP, .slice aW nW cW], .slice (some ⟨be, oe, none⟩) nR cR, .int .i64 (e : Int)] W fun e1 w' => e1 = .returned (.int .i64 (stop ps (hasB rule) e)) ∧ Below W.heap.size W w') := Lib.hid fun W hW => spec_l4Stop _ _ _ _ _ _ ps ws _ _ _ rule e W (H.out.below hW) Hp.out (HR.out.below hW) hn he
          have hir : i < rule.length := by have := Hrl.out; omega
          have Hno3' : Hid (¬ stop ps (hasB rule) e = (e : Int) → ruleB ps rule = false) := Lib.hid fun h => Hno3.out hir Hei.out h
          clear hir
          by_cases h1 : stop ps (hasB rule) e = (e : Int)
          · have H1 : Hid (∀ e' : Nat, nth rule i = (e' : Int) → stop ps (hasB rule) e' = (e' : Int)) := Lib.hid fun e' he' => by
              have := Hei.out
              obtain rfl : e' = e := by omega
              exact h1
            rw [h1] at Hcw
            clear h1
            go_wp2_with fail
            go_region_held3 (fun W' => KeepR wr W' ∧ W'.cell? ⟨w.heap.size, 0, none⟩ = some (.slice aP nP cP) ∧ W'.cell? ⟨w.heap.size, 1, none⟩ = some (.slice aW nW cW) ∧ W'.cell? ⟨be, oe + i, none⟩ = some (.int .i64 (e : Int)))
              (first | exact keepC3 (by assumption) x0 x1 hce | exact keepC3 (KeepR.start _) x0 x1 hce)
              (first
                | (go_at_call 88; refine (Hcw.out _ (hbel.trans (Below.mono (by assumption : KeepR wr _ ∧ _).1 hbel.size))).mono ?_; rintro e' w6 ⟨rfl, b6⟩
                   have hk6 := KeepR.next b6 (by assumption : KeepR wr _ ∧ _).1))
            go_wp2_with fail
            have b6' : Below wr.heap.size wr w6 := hk6
            go_roundw
            case rel => exact ⟨i + 1, by omega, by go_num, fun j e' hj he' => by
              by_cases ee : j = i
              · subst ee
                exact H1.out e' he'
              · exact Hall.out j e' (by omega) he', HP.out.below b6', hbel.trans (b6'.mono hbel.size)⟩
            case measure => simp [intOf]; omega
          · have Hv := Lib.hid (Hno3'.out h1)
            have h1b : (stop ps (hasB rule) e == (e : Int)) = false := by rw [beq_eq_false_iff_ne]; exact h1
            generalize stop ps (hasB rule) e = st at *
            go_wp2_with fail
            go_region_held3 (fun W' => KeepR wr W' ∧ W'.cell? ⟨w.heap.size, 0, none⟩ = some (.slice aP nP cP) ∧ W'.cell? ⟨w.heap.size, 1, none⟩ = some (.slice aW nW cW) ∧ W'.cell? ⟨be, oe + i, none⟩ = some (.int .i64 (e : Int)))
              (first | exact keepC3 (by assumption) x0 x1 hce | exact keepC3 (KeepR.start _) x0 x1 hce)
              (first
                | (go_at_call 88; refine (Hcw.out _ (hbel.trans (Below.mono (by assumption : KeepR wr _ ∧ _).1 hbel.size))).mono ?_; rintro e' w6 ⟨rfl, b6⟩
                   have hk6 := KeepR.next b6 (by assumption : KeepR wr _ ∧ _).1))
            go_wp2_with fail
            have b6' : Below wr.heap.size wr w6 := hk6
            go_ret
            exact ⟨rb Hv.out.symm, hbel.trans (b6'.mono hbel.size)⟩
        · obtain rfl : i = nR := by omega
          have Hv : Hid (ruleB ps rule = true) := Lib.hid (Hyes2.out fun j x hj he => Hall.out j x (by have := Hrl.out; omega) he)
          go_wp2_with fail
          go_ret
          exact ⟨rb Hv.out.symm, hbel⟩
end Go.Proofs.Ytjkkfjipgomkdaa
