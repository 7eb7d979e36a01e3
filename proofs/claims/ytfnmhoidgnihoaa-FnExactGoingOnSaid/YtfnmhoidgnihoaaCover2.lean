/- Contracts: do caps cover payments, by the reference. -/
import Derived.Test.YtfnmhoidgnihoaaCover
namespace Go.Proofs.Ytfnmhoidgnihoaa
open Go.RowKit

theorem w_zero {ps ws : List Int} (h : Tr ps ws) {x : Nat} (hx : x < ps.length) : (nth ws x == 0) = !endB ps x := by
  cases he : endB ps x
  · rw [h.inner x hx he]; rfl
  · have := h.leaf x hx he
    have : (nth ws x == 0) = false := by rw [beq_eq_false_iff_ne]; omega
    rw [this]; rfl
set_option maxRecDepth 100000 in
set_option maxHeartbeats 2000000 in
theorem spec_DoCover (aP : Option Addr) (nP cP : Nat) (aW : Option Addr) (nW cW : Nat) (ps ws : List Int) (aL : Option Addr) (nL cL : Nat) (l : List Int) (aC : Option Addr) (nC cC : Nat) (caps : List Int) (w : World) (h : Tre w aP nP cP aW nW cW ps ws) (hL : Ints w aL nL l) (_hLc : aL = none → cL = 0) (hn : nL ≤ 1048576) (hC : Ints w aC nC caps) (_hCc : aC = none → cC = 0) (hnC : nC ≤ 1048576) :
    Calls Try.prog 21 #[.agg #[.slice aP nP cP, .slice aW nW cW], .slice aL nL cL, .slice aC nC cC] w fun e w' => e = .returned (.tuple #[.bool (coverV ps ws l caps), .bool (paysB ps ws l)]) ∧ Below w.heap.size w w' := by
  have hl := h.p.1
  have hlw := h.w.1
  have hpn := h.pn
  have hwn := h.wn
  have hb1 := below_new w (.cells #[.slice aP nP cP, .slice aW nW cW] 29)
  have hP1 := Lib.hid (Pair.new w (.slice aP nP cP) (.slice aW nW cW) 29)
  have H := Lib.hid h
  have Hl := Lib.hid hl
  have Hlw := Lib.hid hlw
  clear h hl hlw
  have HL := Lib.hid hL
  have hll := Lib.hid hL.1
  have HC := Lib.hid hC
  have HCl := Lib.hid hC.1
  clear hL hC
  have hlt2 := hP1.out.lt
  go_enter Try.func21, Try.ntmps21
  have c0 := hP1.out.c0
  have c1 := hP1.out.c1
  go_wp2_with fail
  generalize (w.alloc (.cells #[.slice aP nP cP, .slice aW nW cW] 29)) = w2 at *
  refine (spec_l4Pays _ _ _ _ _ _ ps ws _ _ _ l _ (H.out.below hb1) (HL.out.below hb1) hn).mono ?_
  rintro e w3 ⟨rfl, hb3⟩
  have hP3 := hP1.out.below hb3
  have d0 := hP3.c0
  have d1 := hP3.c1
  have HP3 := Lib.hid hP3
  have hb13 := hb1.trans (hb3.mono hb1.size)
  clear hP3 c0 c1 hb3
  cases hT : paysB ps ws l
  · have Hv := Lib.hid (coverV_no (caps := caps) hT)
    have Hno := Lib.hid hT
    clear hT
    go_wp2_with fail
    go_ret2
    exact ⟨by rw [Hv.out, Hno.out]; rfl, hb13⟩
  have Hpays := Lib.hid hT
  have hpt := paysB_t hT
  have hTr := hpt.1
  have hn24 := hTr.n24
  have hn1 := hTr.n1
  have hnL : nP = nL := by have := hll.out; have := hpt.2.2.2.1; have := Hl.out; omega
  have hnW : nP = nW := by have := Hlw.out; have := hTr.wl; have := Hl.out; omega
  have hnP : 1 ≤ nP ∧ nP ≤ 24 := by have := Hl.out; omega
  have Hpp := Lib.hid hpt.2.2.2.2
  have HTr := Lib.hid hTr
  have HnW := Lib.hid hnW
  have hnW2 : nP ≤ nW := by omega
  clear hT hpt hn24 hn1 hTr hpn hwn hnW
  subst hnL
  by_cases hlen : nC = nP
  rotate_left
  · have hlb : ((nC : Int) != (nP : Int)) = true := by rw [bne_iff_ne]; omega
    have Hv := Lib.hid (coverV_len (ps := ps) (ws := ws) (l := l) (caps := caps) (by rw [HCl.out, Hl.out]; exact hlen))
    clear hlen
    go_wp2_with fail
    go_ret2
    exact ⟨by rw [Hv.out, Hpays.out]; rfl, hb13⟩
  subst hlen
  go_wp2_with fail
  go_loop [8] (fun v8 => ∃ i : Nat, i ≤ nC ∧ v8 = .int .i64 (i : Int) ∧ ∀ j, j < i → inB (nth caps j) (-1000000000) 1000000000 = true) (fun v8 => nC - (intOf v8).toNat)
  case atStart => exact ⟨0, Nat.zero_le _, rfl, fun j hj => by omega⟩
  case round =>
    obtain ⟨i, hi, rfl, hall⟩ := hrel
    have Hall := Lib.hid hall
    clear hall
    by_cases hlt : (i : Int) < nC
    · obtain ⟨b, off, rfl, hc⟩ := HC.out.at (i := i) hb13 (by omega)
      cases hin : inB (nth caps i) (-1000000000) 1000000000
      · have Hv := Lib.hid (coverV_all (ps := ps) (ws := ws) (l := l) (all_f (i := i) (by have := HCl.out; omega) hin))
        have Hin := Lib.hid hin
        generalize nth caps i = u at *
        clear hin
        go_wp2_with (go_at_call 57; refine (spec_l1In _ _ _ _).mono ?_; rintro e w' ⟨rfl, rfl⟩; rw [Hin.out])
        go_ret2
        exact ⟨by rw [Hv.out, Hpays.out]; rfl, hb13⟩
      · have Hin := Lib.hid hin
        have Hin2 := Lib.hid hin
        generalize hu : nth caps i = u at hc Hin
        clear hin hu
        go_wp2_with (go_at_call 57; refine (spec_l1In _ _ _ _).mono ?_; rintro e w' ⟨rfl, rfl⟩; rw [Hin.out])
        go_round
        case rel => exact ⟨i + 1, by omega, by go_num, fun j hj => by
          by_cases e : j = i
          · subst e; exact Hin2.out
          · exact Hall.out j (by omega)⟩
        case measure => simp [intOf]; omega
    · obtain rfl : i = nC := by omega
      have HA : Hid (allIn caps (-1000000000) 1000000000 = true) := Lib.hid (all_t fun j hj => Hall.out j (by have := HCl.out; omega))
      have Hcb : Hid (Abs2 1000000000 caps) := Lib.hid fun i => by
        by_cases hi : i < caps.length
        · exact inB_t (all_get HA.out hi)
        · rw [nth_ge (by omega)]; omega
      clear hlt Hall
      go_wp2_with fail
      refine (spec_l2Sums _ _ _ _ _ _ ps ws _ (H.out.below hb13) HTr.out).mono ?_
      rintro e w4 ⟨v4, rfl, o4, b4⟩
      obtain ⟨a4, c4, rfl⟩ := o4.shape
      have hsl : (sums ps ws).length = i := by rw [sums_length HTr.out]; exact Hl.out
      rw [hsl] at o4 ⊢
      have hb14 := hb13.trans (b4.mono hb13.size)
      have HP4 := Lib.hid (HP3.out.below b4)
      have G4 := Lib.hid o4.ints
      clear o4 b4 d0 d1 hsl
      go_wp2_with fail
      go_loopw [10] (fun v10 wx => ∃ x : Nat, x ≤ i ∧ v10 = .int .i64 (x : Int) ∧ (∀ y, y < x → capOk ps ws l caps y = true) ∧ Below w4.heap.size w4 wx) (fun v10 _ => i - (intOf v10).toNat)
      case atStart => exact ⟨0, Nat.zero_le _, rfl, fun y h => by omega, Below.refl _ _⟩
      case round =>
        obtain ⟨x, hx, rfl, hall, hbx⟩ := hrel
        have Hall := Lib.hid hall
        clear hall
        by_cases hltx : (x : Int) < i
        · have hbw := hb14.trans (hbx.mono hb14.size)
          obtain ⟨bC, oC, rfl, hcC⟩ := HC.out.at (i := x) hbw (by omega)
          obtain ⟨bL, oL, rfl, hcL⟩ := HL.out.at (i := x) hbw (by omega)
          obtain ⟨b4, o4, rfl, hc4⟩ := G4.out.at (i := x) hbx (by omega)
          obtain ⟨bW, oW, rfl, hcW⟩ := H.out.w.at (i := x) hbw (by omega)
          have hcd : capOk ps ws l caps x = !(decide (nth caps x < nth (sums ps ws) x * nth l x) || (!endB ps x && decide (nth caps x < kidSum ps (fun y => nth caps y) x ps.length))) := rfl
          have hwz := w_zero HTr.out (x := x) (by have := Hl.out; omega)
          have hsb := sums_bd HTr.out x
          have hlb := Hpp.out x
          have hmb := mul_abs (B := 999) (U := 480) hlb hsb (by omega)
          rw [Int.mul_comm (nth l x) (nth (sums ps ws) x)] at hmb
          have p5 := HP4.out.below hbx
          have f0 := p5.c0
          have f1 := p5.c1
          have Hkid : Hid (∀ W : World, Below w.heap.size w W → Calls Try.prog 59 #[.agg #[.slice aP i cP, .slice (some ⟨bW, oW, none⟩) nW cW], .slice (some ⟨bC, oC, none⟩) i cC, .int .i64 (x : Int)] W fun e w' => e = .returned (.int .i64 (kidSum ps (fun y => nth caps y) x ps.length)) ∧ Below W.heap.size W w') :=
            Lib.hid fun W hW => spec_l4Kids _ _ _ _ _ _ ps ws _ _ _ caps x 1000000000 W (H.out.below hW) HTr.out.toPa (HC.out.below hW) (Nat.le_refl _) (by omega) Hcb.out (by omega)
          generalize nth caps x = c at *
          generalize nth (sums ps ws) x = s at *
          generalize nth l x = p at *
          generalize nth ws x = u at *
          generalize kidSum ps (fun y => nth caps y) x ps.length = o at *
          have x0 : (0 : Int) ≤ (x : Int) := by omega
          have x1 : (x : Int) < (nW : Int) := by omega
          have k1 : IntKind.i64.wrap (s * p) = s * p := IntWalk.i64_in _ (by omega)
          have Hcd := Lib.hid hcd
          clear hcd hsb hlb hmb p5
          by_cases g1 : c < s * p
          · have g1b : decide (c < s * p) = true := decide_eq_true g1
            have Hv : Hid (coverV ps ws l caps = false) := Lib.hid (coverV_bad (x := x) (by have := Hl.out; omega) (by rw [Hcd.out, g1b]; rfl))
            clear hwz
            go_wp2_with fail
            go_quiet (fail)
            go_wp2_with fail
            go_ret2
            exact ⟨by rw [Hv.out, Hpays.out]; rfl, below_drewN hbw _⟩
          · have g1b : decide (c < s * p) = false := decide_eq_false g1
            cases he : endB ps x
            · rw [he] at hwz
              have hwz2 : (u == 0) = true := hwz
              by_cases g2 : c < o
              · have g2b : decide (c < o) = true := decide_eq_true g2
                have Hv : Hid (coverV ps ws l caps = false) := Lib.hid (coverV_bad (x := x) (by have := Hl.out; omega) (by rw [Hcd.out, g1b, g2b, he]; rfl))
                clear he hwz
                go_wp2_with fail
                go_region_held3 (fun W' => KeepR wr W' ∧ W'.cell? ⟨bC, oC + x, none⟩ = some (.int .i64 c) ∧ W'.cell? ⟨bL, oL + x, none⟩ = some (.int .i64 p) ∧ W'.cell? ⟨b4, o4 + x, none⟩ = some (.int .i64 s) ∧ W'.cell? ⟨bW, oW + x, none⟩ = some (.int .i64 u) ∧ W'.cell? ⟨w.heap.size, 0, none⟩ = some (.slice aP i cP) ∧ W'.cell? ⟨w.heap.size, 1, none⟩ = some (.slice (some ⟨bW, oW, none⟩) nW cW))
                  (first | exact keepC6 (by assumption) hcC hcL hc4 hcW f0 f1 | exact keepC6 (KeepR.start _) hcC hcL hc4 hcW f0 f1)
                  (first
                    | (go_at_call 59; refine (Hkid.out _ (hbw.trans (Below.mono (by assumption : KeepR wr _ ∧ _).1 hbw.size))).mono ?_; rintro e w7 ⟨rfl, hb7⟩; have hk7 := KeepR.next hb7 (by assumption : KeepR wr _ ∧ _).1))
                go_wp2_with fail
                go_ret2
                exact ⟨by rw [Hv.out, Hpays.out]; rfl, hbw.trans (Below.mono hk7 hbw.size)⟩
              · have g2b : decide (c < o) = false := decide_eq_false g2
                have Hok : Hid (capOk ps ws l caps x = true) := Lib.hid (by rw [Hcd.out, g1b, g2b, he]; rfl)
                clear he hwz
                go_wp2_with fail
                go_region_held3 (fun W' => KeepR wr W' ∧ W'.cell? ⟨bC, oC + x, none⟩ = some (.int .i64 c) ∧ W'.cell? ⟨bL, oL + x, none⟩ = some (.int .i64 p) ∧ W'.cell? ⟨b4, o4 + x, none⟩ = some (.int .i64 s) ∧ W'.cell? ⟨bW, oW + x, none⟩ = some (.int .i64 u) ∧ W'.cell? ⟨w.heap.size, 0, none⟩ = some (.slice aP i cP) ∧ W'.cell? ⟨w.heap.size, 1, none⟩ = some (.slice (some ⟨bW, oW, none⟩) nW cW))
                  (first | exact keepC6 (by assumption) hcC hcL hc4 hcW f0 f1 | exact keepC6 (KeepR.start _) hcC hcL hc4 hcW f0 f1)
                  (first
                    | (go_at_call 59; refine (Hkid.out _ (hbw.trans (Below.mono (by assumption : KeepR wr _ ∧ _).1 hbw.size))).mono ?_; rintro e w7 ⟨rfl, hb7⟩; have hk7 := KeepR.next hb7 (by assumption : KeepR wr _ ∧ _).1))
                go_wp2_with fail
                go_roundw
                case rel => exact ⟨x + 1, by omega, by go_num, fun y hy => by
                  by_cases e : y = x
                  · subst e; exact Hok.out
                  · exact Hall.out y (by omega), hbx.trans (Below.mono hk7 hbx.size)⟩
                case measure => simp [intOf]; omega
            · rw [he] at hwz
              have hwz2 : (u == 0) = false := hwz
              have Hok : Hid (capOk ps ws l caps x = true) := Lib.hid (by rw [Hcd.out, g1b, he]; rfl)
              clear he hwz
              go_wp2_with fail
              go_quiet (fail)
              go_wp2_with fail
              go_roundw
              case rel => exact ⟨x + 1, by omega, by go_num, fun y hy => by
                by_cases e : y = x
                · subst e; exact Hok.out
                · exact Hall.out y (by omega), below_drewN hbx _⟩
              case measure => simp [intOf]; omega
        · obtain rfl : x = i := by omega
          have Hv := Lib.hid (coverV_yes Hpays.out (by rw [HCl.out, Hl.out]) HA.out (fun y hy => Hall.out y (by have := Hl.out; omega)))
          go_wp2_with fail
          go_ret2
          exact ⟨by rw [Hv.out, Hpays.out]; rfl, hb14.trans (hbx.mono hb14.size)⟩
end Go.Proofs.Ytfnmhoidgnihoaa
