/- Contracts: the reference's proof of a table of stakes. -/
import Derived.Test.YtbekfpgpeaoifaaStake1
namespace Go.Proofs.Ytbekfpgpeaoifaa
open Go.RowKit

theorem rowOk_at {n : Nat} {r : List Int} (hl : r.length = n + 1) (h : ∀ q, q < n + 1 → inB (nth r q) 0 1000000000000000 = true) : rowOk n r = true := by
  rw [rowOk, hl, beq_self_eq_true, Bool.true_and]
  exact all_t fun q hq => h q (by omega)
theorem rowOk_bad {n i : Nat} {r : List Int} (hi : i < n + 1) (h : inB (nth r i) 0 1000000000000000 = false) : rowOk n r = false := by
  by_cases hl : r.length = n + 1
  · rw [rowOk, show allIn r 0 1000000000000000 = false from all_f (i := i) (by omega) h, Bool.and_false]
  · simp [rowOk, hl]
set_option maxHeartbeats 1000000 in
theorem spec_l5Form (N : Nat) (ad : Option Addr) (m cap : Nat) (xss : List (List Int)) (w : World) (hN : N ≤ 12) (hm : m ≤ 1048576) (h : IntsSS w ad m xss) :
    Calls Try.prog 61 #[.int .i64 (N : Int), .slice ad m cap] w fun e w' => e = .returned (.bool (inB (m : Int) 1 9 && rowsOk N xss)) ∧ w = w' := by
  have hl := Lib.hid h.1
  have H := Lib.hid h
  clear h
  obtain ⟨V, hV⟩ : ∃ V, V = (inB (m : Int) 1 9 && rowsOk N xss) := ⟨_, rfl⟩
  have HV := Lib.hid hV
  rw [← hV]
  clear hV
  go_enter Try.func61, Try.ntmps61
  go_wp2_with fail
  go_loop [5] (fun v5 => ∃ i : Nat, i ≤ m ∧ v5 = .int .i64 (i : Int) ∧ ∀ j, j < i → rowOk N (row xss j) = true) (fun v5 => m - (intOf v5).toNat)
  case atStart => exact ⟨0, Nat.zero_le _, rfl, fun j hj => by omega⟩
  case round =>
    obtain ⟨i, hi, rfl, hall⟩ := hrel
    have Hall := Lib.hid hall
    clear hall
    by_cases hlt : (i : Int) < m
    · obtain ⟨bo, oo, rfl, hbo, hcell⟩ := H.out.2 (by omega)
      obtain ⟨ar, cr, h1, hints⟩ := hcell i (by omega)
      have Hints := Lib.hid hints
      clear hints hcell
      by_cases hq : ((row xss i).length : Int) = (N : Int) + 1
      rotate_left
      · have hbad : rowOk N (row xss i) = false := by
          have : ¬ (row xss i).length = N + 1 := by intro e; rw [e] at hq; simp at hq
          simp [rowOk, this]
        have hq2 : ((((row xss i).length : Nat) : Int) == (N : Int) + 1) = false := by simpa using hq
        have hV := HV.out
        rw [show rowsOk N xss = false from all_f (i := i) (by have := hl.out; omega) hbad, Bool.and_false] at hV
        have HV := Lib.hid hV
        clear hV hbad
        go_wp2_with fail
        go_ret
        exact ⟨by rw [HV.out]; rfl, rfl⟩
      · have hql : (row xss i).length = N + 1 := by omega
        have Hql := Lib.hid hql
        rw [hql] at h1
        have hints := Hints.out
        rw [hql] at hints
        have Hints := Lib.hid hints
        clear hints hq hql
        go_wp2_with fail
        go_loop [6] (fun v6 => ∃ p : Nat, p ≤ N + 1 ∧ v6 = .int .i64 (p : Int) ∧ ∀ q, q < p → inB (nth (row xss i) q) 0 1000000000000000 = true) (fun v6 => N + 1 - (intOf v6).toNat)
        case atStart => exact ⟨0, Nat.zero_le _, rfl, fun j hj => by omega⟩
        case round =>
          obtain ⟨p, hp, rfl, hin⟩ := hrel
          have Hin := Lib.hid hin
          clear hin
          by_cases hlp : (p : Int) ≤ N
          · obtain ⟨br, offr, rfl, hbr, hcr⟩ := Hints.out.2 (by omega)
            have hc0 := hcr p (by omega)
            clear hcr
            cases hb : inB (nth (row xss i) p) 0 1000000000000000
            · have hV := HV.out
              rw [show rowsOk N xss = false from all_f (i := i) (by have := hl.out; omega) (rowOk_bad (i := p) (by omega) hb), Bool.and_false] at hV
              have HV := Lib.hid hV
              clear hV
              go_wp2_with (go_at_call 67; refine (spec_l1In _ _ _ _).mono ?_; rintro e w' ⟨rfl, rfl⟩; rw [hb])
              go_ret
              exact ⟨by rw [HV.out]; rfl, rfl⟩
            · go_wp2_with (go_at_call 67; refine (spec_l1In _ _ _ _).mono ?_; rintro e w' ⟨rfl, rfl⟩; rw [hb])
              go_round
              case rel => exact ⟨p + 1, by omega, by go_num, fun q hq => by
                by_cases e : q = p
                · subst e; exact hb
                · exact Hin.out q (by omega)⟩
              case measure => simp [intOf]; omega
          · obtain rfl : p = N + 1 := by omega
            go_wp2_with fail
            go_round
            case rel => exact ⟨i + 1, by omega, by go_num, fun q hq => by
              by_cases e : q = i
              · subst e; exact rowOk_at Hql.out Hin.out
              · exact Hall.out q (by omega)⟩
            case measure => simp [intOf]; omega
    · obtain rfl : i = m := by omega
      have hV := HV.out
      rw [show rowsOk N xss = true from all_t fun j hj => Hall.out j (by have := hl.out; omega), Bool.and_true] at hV
      have HV := Lib.hid hV
      clear hV
      go_wp2_with (go_at_call 67; refine (spec_l1In _ _ _ _).mono ?_; rintro e w' ⟨rfl, rfl⟩; rw [← HV.out])
      go_ret
      exact ⟨rfl, rfl⟩
set_option maxHeartbeats 2000000 in
theorem spec_StakeProof (a b n : Int) (ad : Option Addr) (m cap : Nat) (xss : List (List Int)) (w : World) (hm : m ≤ 1048576) (h : IntsSS w ad m xss) :
    Calls Try.prog 18 #[.int .i64 a, .int .i64 b, .int .i64 n, .slice ad m cap] w fun e w' => e = .returned (.tuple #[.bool (stakeV stF a b n xss), .bool (game a b n)]) ∧ Below w.heap.size w w' := by
  have hl := Lib.hid h.1
  have H := Lib.hid h
  clear h
  cases hg : game a b n
  · rw [stakeV_no hg]
    have hg4 : game4 a b 0 n = false := by rw [game0]; exact hg
    go_enter Try.func18, Try.ntmps18
    go_wp2_with (go_at_call 60; refine (spec_l5Game _ _ _ _ _).mono ?_; rintro e w' ⟨rfl, rfl⟩)
    go_ret2
    exact ⟨rfl, Below.refl _ _⟩
  · rw [stakeV, hg, Bool.true_and]
    have hg4 : game4 a b 0 n = true := by rw [game0]; exact hg
    have hgt := game_t hg
    obtain ⟨N, rfl⟩ : ∃ N : Nat, n = N := ⟨n.toNat, by omega⟩
    rw [Int.toNat_natCast]
    obtain ⟨V, hV⟩ : ∃ V, V = stakeOk (stF N) a b N xss := ⟨_, rfl⟩
    have HV := Lib.hid hV
    rw [← hV]
    clear hV
    cases hform : (inB (m : Int) 1 9 && rowsOk N xss)
    · have hV := HV.out
      rw [stakeOk, hl.out, hform, Bool.false_and] at hV
      have HV := Lib.hid hV
      clear hV
      go_enter Try.func18, Try.ntmps18
      go_wp2_with (first | (go_at_call 60; refine (spec_l5Game _ _ _ _ _).mono ?_; rintro e w' ⟨rfl, rfl⟩) | (go_at_call 61; refine (spec_l5Form N _ _ _ xss _ (by omega) hm H.out).mono ?_; rintro e w' ⟨rfl, rfl⟩; rw [hform]))
      go_ret2
      exact ⟨by rw [HV.out]; rfl, Below.refl _ _⟩
    · have hform2 := hform
      rw [Bool.and_eq_true] at hform2
      have hlt := inB_t hform2.1
      have Hrows := Lib.hid hform2.2
      have Hlen := Lib.hid hform2.1
      obtain ⟨bo, oo, rfl, hbo, hcell⟩ := H.out.2 (by omega)
      have Hcell := Lib.hid hcell
      have hr0 := rowOk_t (all_get hform2.2 (i := 0) (by have := hl.out; omega))
      obtain ⟨ar, cr, h1, hints⟩ := hcell 0 (by omega)
      rw [hr0.1] at h1 hints
      rw [Nat.add_zero] at h1
      obtain ⟨br, offr, rfl, hbr, hcr⟩ := hints.2 (by omega)
      have hc0 := hcr N (by omega)
      obtain ⟨c0, hce⟩ : ∃ c0, c0 = nth (row xss 0) N := ⟨_, rfl⟩
      rw [← hce] at hc0
      have Hce := Lib.hid hce
      clear hints hcr hr0 hce hcell hform2
      by_cases hone : c0 < 1
      · have hV := HV.out
        rw [stake_one (by rw [← Hce.out]; omega)] at hV
        have HV := Lib.hid hV
        clear hV
        go_enter Try.func18, Try.ntmps18
        go_wp2_with (first | (go_at_call 60; refine (spec_l5Game _ _ _ _ _).mono ?_; rintro e w' ⟨rfl, rfl⟩) | (go_at_call 61; refine (spec_l5Form N _ _ _ xss _ (by omega) hm H.out).mono ?_; rintro e w' ⟨rfl, rfl⟩; rw [hform]))
        go_ret2
        exact ⟨by rw [HV.out]; rfl, Below.refl _ _⟩
      · have Hone : Hid (1 ≤ nth (row xss 0) N) := Lib.hid (by rw [← Hce.out]; omega)
        go_enter Try.func18, Try.ntmps18
        go_wp2_with (first | (go_at_call 60; refine (spec_l5Game _ _ _ _ _).mono ?_; rintro e w' ⟨rfl, rfl⟩) | (go_at_call 61; refine (spec_l5Form N _ _ _ xss _ (by omega) hm H.out).mono ?_; rintro e w' ⟨rfl, rfl⟩; rw [hform]))
        clear hc0 hone h1 Hce
        go_loopw [10] (fun v10 wr => ∃ j : Nat, 1 ≤ j ∧ j ≤ m ∧ v10 = .int .i64 (j : Int) ∧ (∀ q, 1 ≤ q → q < j → goodRow (stF N) a b N xss q = true) ∧ Below w.heap.size w wr) (fun v10 _ => m - (intOf v10).toNat)
        case atStart => exact ⟨1, by omega, by omega, rfl, fun q h1 h2 => by omega, Below.refl _ _⟩
        case round =>
          obtain ⟨j, hj1, hj2, rfl, hgood, hbel⟩ := hrel
          have Hgood := Lib.hid hgood
          clear hgood
          obtain ⟨wo, rfl⟩ : ∃ wo : World, wo = wr := ⟨_, rfl⟩
          by_cases hlt : (j : Int) < m
          · obtain ⟨aq, cq, hcq, hiq⟩ := Hcell.out (j - 1) (by omega)
            have hqr := rowOk_t (all_get Hrows.out (i := j - 1) (by have := hl.out; omega))
            rw [hqr.1] at hcq hiq
            have hcj2 := (hbel.cell (p := ⟨bo, oo + (j - 1), none⟩) hbo).trans hcq
            have Hqr := Lib.hid hqr.2
            have Hiq := Lib.hid (hiq.below hbel)
            have k0 : IntKind.i64.wrap ((j : Int) - 1) = (j : Int) - 1 := IntWalk.i64_in _ (by omega)
            have k01 : (0 : Int) ≤ (j : Int) - 1 := by omega
            have k02 : (j : Int) - 1 < m := by omega
            clear hcq hiq hqr
            go_wp2_with fail
            refine (spec_l5Next a b 2 _ N _ _ _ (by omega) (by omega) Hqr.out (by omega) Hiq.out).mono ?_
            rintro e w1 ⟨v, rfl, hv, hb1⟩
            obtain ⟨avl, cvl, rfl⟩ := hv.shape
            rw [rowN_length] at *
            have hbel1 := hbel.trans (hb1.mono hbel.size)
            have Hv := Lib.hid hv.ints
            clear hv hcj2
            go_wp2_with fail
            go_loopw [12] (fun v12 wr => ∃ p : Nat, p ≤ N + 1 ∧ v12 = .int .i64 (p : Int) ∧ (∀ q, q < p → goodAt (stF N) a b xss j q = true) ∧ Below w1.heap.size w1 wr) (fun v12 _ => N + 1 - (intOf v12).toNat)
            case atStart => exact ⟨0, by omega, rfl, fun q h1 => by omega, Below.refl _ _⟩
            case round =>
              obtain ⟨p, hp, rfl, hga, hb2⟩ := hrel
              have Hga := Lib.hid hga
              clear hga
              obtain ⟨wo, rfl⟩ : ∃ wo : World, wo = wr := ⟨_, rfl⟩
              by_cases hlp : (p : Int) ≤ (N : Int)
              · have hbw := hbel1.trans (hb2.mono hbel1.size)
                obtain ⟨c, hc⟩ : ∃ c, c = nth (row xss j) p := ⟨_, rfl⟩
                have hjr := rowOk_t (all_get Hrows.out (i := j) (by have := hl.out; omega))
                obtain ⟨aj, cj, hcj, hij⟩ := Hcell.out j (by omega)
                rw [hjr.1] at hcj hij
                have hcj2 := (hbw.cell (p := ⟨bo, oo + j, none⟩) hbo).trans hcj
                obtain ⟨bj, oj, rfl, hbj, hcc⟩ := (hij.below hbw).2 (by omega)
                have hcc := hcc p (by omega)
                rw [← hc] at hcc
                obtain ⟨bv, ov, rfl, hbv, hcv⟩ := (Hv.out.below hb2).2 (by omega)
                have hcv := hcv p (by omega)
                rw [rowN, nth_map_range (by omega)] at hcv
                obtain ⟨t, ht⟩ : ∃ t, t = bestL (aft a b (row xss (j - 1)) p) (stW 2 N p) 0 := ⟨_, rfl⟩
                rw [← ht] at hcv
                have hstw : stW 2 N p = stF N p := rfl
                rw [hstw] at ht
                have Hc := Lib.hid hc
                have Ht := Lib.hid ht
                clear hc ht hjr hcj hij hstw
                have k5 : (0 : Int) ≤ (p : Int) := by omega
                have k6 : (p : Int) < (N : Int) + 1 := by omega
                have k7 : (j : Int) < m := by omega
                have k8 : (0 : Int) ≤ (j : Int) := by omega
                by_cases hlow : c < t
                · go_wp2_with fail
                  go_quiet (fail)
                  go_wp2_with fail
                  go_ret2
                  have hbad : goodAt (stF N) a b xss j p = false := by
                    unfold goodAt
                    rw [decide_eq_false_iff_not, ← Hc.out, ← Ht.out]
                    omega
                  have hV := HV.out
                  rw [stake_good (bad_at hj1 (by have := hl.out; omega) (by omega) hbad)] at hV
                  exact ⟨by rw [hV]; rfl, below_drewN hbw _⟩
                · have hok : goodAt (stF N) a b xss j p = true := by
                    unfold goodAt
                    rw [decide_eq_true_iff, ← Hc.out, ← Ht.out]
                    omega
                  have Hok := Lib.hid hok
                  clear hok
                  go_wp2_with fail
                  go_quiet (fail)
                  go_wp2_with fail
                  go_roundw
                  case rel => exact ⟨p + 1, by omega, by go_num, fun q hq => by
                    by_cases e : q = p
                    · subst e; exact Hok.out
                    · exact Hga.out q (by omega), below_drewN hb2 _⟩
                  case measure => simp [intOf]; omega
              · obtain rfl : p = N + 1 := by omega
                go_wp2_with fail
                go_roundw
                case rel => exact ⟨j + 1, by omega, by omega, by go_num, fun q h1 h2 => by
                  by_cases e : q = j
                  · subst e; exact all_t fun q hq => Hga.out q hq
                  · exact Hgood.out q h1 (by omega), hbel1.trans (hb2.mono hbel1.size)⟩
                case measure => simp [intOf]; omega
          · have hV := HV.out
            rw [stake_yes (by rw [hl.out]; exact Hlen.out) Hrows.out Hone.out (all_t fun q hq => Hgood.out (q + 1) (by omega) (by have := hl.out; omega))] at hV
            have HV := Lib.hid hV
            clear hV
            go_wp2_with fail
            go_ret2
            exact ⟨by rw [HV.out]; rfl, hbel⟩
end Go.Proofs.Ytbekfpgpeaoifaa
