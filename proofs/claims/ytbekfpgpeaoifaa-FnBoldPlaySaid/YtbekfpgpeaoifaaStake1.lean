/- Contracts: the program's proof of a table of stakes. -/
import Derived.Test.YtbekfpgpeaoifaaPlSt
import Derived.Test.YtbekfpgpeaoifaaAllW
import Derived.Test.YtbekfpgpeaoifaaTabS2
namespace Go.Proofs.Ytbekfpgpeaoifaa
open Go.RowKit

set_option maxHeartbeats 2000000 in
theorem impl_StakeProof (a b n : Int) (ad : Option Addr) (m cap : Nat) (xss : List (List Int)) (w : World) (hm : m ≤ 1048576) (hr : ∀ j, j < m → (row xss j).length ≤ 1048576) (h : IntsSS w ad m xss) :
    Calls Try.prog 17 #[.int .i64 a, .int .i64 b, .int .i64 n, .slice ad m cap] w fun e w' => e = .returned (.tuple #[.bool (stakeV stF a b n xss), .bool (game a b n)]) ∧ Below w.heap.size w w' := by
  have hl := Lib.hid h.1
  have H := Lib.hid h
  have Hr := Lib.hid hr
  clear h hr
  cases hg : game a b n
  · rw [stakeV_no hg]
    go_enter Try.func17, Try.ntmps17
    go_wp2_with (first | (go_at_call 48; refine (impl_isGame _ _ _ _).mono ?_; rintro e w' ⟨rfl, rfl⟩) | (go_at_call 49; refine (impl_within _ _ _ _).mono ?_; rintro e w' ⟨rfl, rfl⟩))
    go_ret2
    exact ⟨rfl, Below.refl _ _⟩
  · rw [stakeV, hg, Bool.true_and]
    have hgt := game_t hg
    obtain ⟨N, rfl⟩ : ∃ N : Nat, n = N := ⟨n.toNat, by omega⟩
    rw [Int.toNat_natCast]
    cases hlen : inB (m : Int) 1 9
    · rw [stake_len (by rw [hl.out]; exact hlen)]
      go_enter Try.func17, Try.ntmps17
      go_wp2_with (first | (go_at_call 48; refine (impl_isGame _ _ _ _).mono ?_; rintro e w' ⟨rfl, rfl⟩) | (go_at_call 49; refine (impl_within _ _ _ _).mono ?_; rintro e w' ⟨rfl, rfl⟩))
      go_ret2
      exact ⟨rfl, Below.refl _ _⟩
    · obtain ⟨V, hV⟩ : ∃ V, V = stakeOk (stF N) a b N xss := ⟨_, rfl⟩
      have HV := Lib.hid hV
      rw [← hV]
      clear hV
      have hlt := inB_t hlen
      have Hlen := Lib.hid hlen
      obtain ⟨bo, oo, rfl, hbo, hcell⟩ := H.out.2 (by omega)
      have Hcell := Lib.hid hcell
      clear hcell
      go_enter Try.func17, Try.ntmps17
      go_wp2_with (first | (go_at_call 48; refine (impl_isGame _ _ _ _).mono ?_; rintro e w' ⟨rfl, rfl⟩) | (go_at_call 49; refine (impl_within _ _ _ _).mono ?_; rintro e w' ⟨rfl, rfl⟩))
      go_loop [28] (fun v28 => ∃ i : Nat, i ≤ m ∧ v28 = .int .i64 (i : Int) ∧ ∀ j, j < i → rowOk N (row xss j) = true) (fun v28 => m - (intOf v28).toNat)
      case atStart => exact ⟨0, Nat.zero_le _, rfl, fun j hj => by omega⟩
      case round =>
        obtain ⟨i, hi, rfl, hall⟩ := hrel
        have Hall := Lib.hid hall
        clear hall
        by_cases hlt : (i : Int) < m
        · obtain ⟨ar, cr, h1, hints⟩ := Hcell.out i (by omega)
          have hrl := Hr.out i (by omega)
          have Hints := Lib.hid hints
          clear hints
          by_cases hq : ((row xss i).length : Int) = (N : Int) + 1
          rotate_left
          · have hbad : rowOk N (row xss i) = false := by
              have : ¬ (row xss i).length = N + 1 := by intro e; rw [e] at hq; simp at hq
              simp [rowOk, this]
            have hq2 : ((((row xss i).length : Nat) : Int) == (N : Int) + 1) = false := by simpa using hq
            have hV := HV.out
            rw [stake_rows (all_f (i := i) (by have := hl.out; omega) hbad)] at hV
            have HV := Lib.hid hV
            clear hV hbad
            go_wp2_with fail
            go_ret2
            exact ⟨by rw [HV.out]; rfl, Below.refl _ _⟩
          · have hql : (row xss i).length = N + 1 := by omega
            have Hql := Lib.hid hql
            rw [hql] at h1
            have hints := Hints.out
            rw [hql] at hints
            have Hints := Lib.hid hints
            clear hints hq hql
            cases hin : allIn (row xss i) 0 1000000000000000
            · have hV := HV.out
              rw [stake_rows (all_f (i := i) (by have := hl.out; omega) (by rw [rowOk, hin, Bool.and_false]))] at hV
              have HV := Lib.hid hV
              clear hV
              go_wp2_with (go_at_call 59; refine (impl_allWithin _ _ _ _ _ (row xss i) _ (by omega) Hints.out).mono ?_; rintro e w' ⟨rfl, rfl⟩; rw [hin])
              go_ret2
              exact ⟨by rw [HV.out]; rfl, Below.refl _ _⟩
            · go_wp2_with (go_at_call 59; refine (impl_allWithin _ _ _ _ _ (row xss i) _ (by omega) Hints.out).mono ?_; rintro e w' ⟨rfl, rfl⟩; rw [hin])
              go_round
              case rel => exact ⟨i + 1, by omega, by go_num, fun j hj => by
                by_cases e : j = i
                · subst e; rw [rowOk, hin, Bool.and_true, beq_iff_eq]; exact Hql.out
                · exact Hall.out j (by omega)⟩
              case measure => simp [intOf]; omega
        · obtain rfl : i = m := by omega
          have hrows : rowsOk N xss = true := all_t fun j hj => Hall.out j (by have := hl.out; omega)
          have Hrows := Lib.hid hrows
          have hr0 := rowOk_t (Hall.out 0 (by omega))
          obtain ⟨ar, cr, h1, hints⟩ := Hcell.out 0 (by omega)
          rw [hr0.1] at h1 hints
          rw [Nat.add_zero] at h1
          obtain ⟨br, offr, rfl, hbr, hcr⟩ := hints.2 (by omega)
          have hc0 := hcr N (by omega)
          obtain ⟨c0, hce⟩ : ∃ c0, c0 = nth (row xss 0) N := ⟨_, rfl⟩
          rw [← hce] at hc0
          have Hce := Lib.hid hce
          clear hints hcr hr0 hrows hce
          by_cases hone : c0 < 1
          · have hV := HV.out
            rw [stake_one (by rw [← Hce.out]; omega)] at hV
            have HV := Lib.hid hV
            clear hV
            go_wp2_with fail
            go_ret2
            exact ⟨by rw [HV.out]; rfl, Below.refl _ _⟩
          · go_wp2_with fail
            have Hone : Hid (1 ≤ nth (row xss 0) N) := Lib.hid (by rw [← Hce.out]; omega)
            clear hc0 hone h1 Hce Hall hlt
            go_loopw [12] (fun v12 wr => ∃ j : Nat, 1 ≤ j ∧ j ≤ i ∧ v12 = .int .i64 (j : Int) ∧ (∀ q, 1 ≤ q → q < j → goodRow (stF N) a b N xss q = true) ∧ Below w.heap.size w wr) (fun v12 _ => i - (intOf v12).toNat)
            case atStart => exact ⟨1, by omega, by omega, rfl, fun q h1 h2 => by omega, Below.refl _ _⟩
            case round =>
              obtain ⟨j, hj1, hj2, rfl, hgood, hbel⟩ := hrel
              have Hgood := Lib.hid hgood
              clear hgood
              obtain ⟨wo, rfl⟩ : ∃ wo : World, wo = wr := ⟨_, rfl⟩
              by_cases hlt : (j : Int) < i
              · obtain ⟨aj, cj, hcj, hij⟩ := Hcell.out j (by omega)
                rw [(rowOk_t (all_get Hrows.out (i := j) (by have := hl.out; omega))).1] at hcj hij
                have hcj2 := (hbel.cell (p := ⟨bo, oo + j, none⟩) hbo).trans hcj
                have Hij := Lib.hid hij
                clear hcj hij
                go_wp2_with fail
                go_loopw [61] (fun v61 wr => ∃ p : Nat, p ≤ N + 1 ∧ v61 = .int .i64 (p : Int) ∧ (∀ q, q < p → goodAt (stF N) a b xss j q = true) ∧ Below w.heap.size w wr) (fun v61 _ => N + 1 - (intOf v61).toNat)
                case atStart => exact ⟨0, by omega, rfl, fun q h1 => by omega, hbel⟩
                case round =>
                  clear hbel hcj2
                  obtain ⟨p, hp, rfl, hga, hbel⟩ := hrel
                  have Hga := Lib.hid hga
                  clear hga
                  obtain ⟨wo, rfl⟩ : ∃ wo : World, wo = wr := ⟨_, rfl⟩
                  by_cases hlp : (p : Int) < (N : Int) + 1
                  · obtain ⟨c, hc⟩ : ∃ c, c = nth (row xss j) p := ⟨_, rfl⟩
                    have hjr := rowOk_t (all_get Hrows.out (i := j) (by have := hl.out; omega))
                    have hcp := hjr.2 p
                    rw [← hc] at hcp
                    obtain ⟨bj, oj, rfl, hbj, hcc⟩ := (Hij.out.below hbel).2 (by omega)
                    have hcc := hcc p (by omega)
                    rw [← hc] at hcc
                    have Hc := Lib.hid hc
                    obtain ⟨aq, cq, hcq, hiq⟩ := Hcell.out (j - 1) (by omega)
                    rw [(rowOk_t (all_get Hrows.out (i := j - 1) (by have := hl.out; omega))).1] at hcq hiq
                    have Hcq := Lib.hid hcq
                    have Hiq := Lib.hid hiq
                    have Hqr := Lib.hid (rowOk_t (all_get Hrows.out (i := j - 1) (by have := hl.out; omega))).2
                    clear hc hcq hiq hjr
                    go_wp2_with fail
                    refine (impl_allStakes N p _ (by omega) (by omega)).mono ?_
                    rintro e w1 ⟨v, rfl, hv, hb1⟩
                    obtain ⟨asl, csl, rfl⟩ := hv.shape
                    have hbel1 := hbel.trans (hb1.mono hbel.size)
                    have Hv := Lib.hid hv.ints
                    have hvl : (stF N p).length ≤ 13 := by rw [stF_length]; omega
                    clear hv
                    go_wp2_with fail
                    go_loopw [70] (fun v70 wr => ∃ k : Nat, k ≤ (stF N p).length ∧ v70 = .int .i64 (k : Int) ∧ (∀ q, q < k → aft a b (row xss (j - 1)) p (nth (stF N p) q) ≤ c) ∧ Below w1.heap.size w1 wr) (fun v70 _ => (stF N p).length - (intOf v70).toNat)
                    case atStart => exact ⟨0, by omega, rfl, fun q h1 => by omega, Below.refl _ _⟩
                    case round =>
                      obtain ⟨k, hk, rfl, hle, hb2⟩ := hrel
                      have Hle := Lib.hid hle
                      clear hle hcc
                      obtain ⟨wo, rfl⟩ : ∃ wo : World, wo = wr := ⟨_, rfl⟩
                      by_cases hlk : (k : Int) < (stF N p).length
                      · obtain ⟨bs, os, rfl, hbs, hcs⟩ := (Hv.out.below hb2).2 (by omega)
                        have hcs1 := hcs k (by omega)
                        have hbw := hbel1.trans (hb2.mono hbel1.size)
                        have hsb : 0 ≤ nth (stF N p) k ∧ nth (stF N p) k ≤ p ∧ (p : Int) + nth (stF N p) k ≤ N := by rw [nth_stF _ _ _ (by rw [stF_length] at hlk; omega)]; rw [stF_length] at hlk; omega
                        have hcell := (hbw.cell (p := ⟨bo, oo + (j - 1), none⟩) hbo).trans Hcq.out
                        obtain ⟨bq, oq, rfl, hbq, hcq⟩ := (Hiq.out.below hbw).2 (by omega)
                        obtain ⟨s, hs⟩ : ∃ s, s = nth (stF N p) k := ⟨_, rfl⟩
                        rw [← hs] at hsb hcs1
                        have c1 := hcq ((p : Int) + s).toNat (by omega)
                        have c2 := hcq ((p : Int) - s).toNat (by omega)
                        have hbd := aft_bd (a := a) (b := b) (by omega) (by omega) Hqr.out p s
                        have haft : aft a b (row xss (j - 1)) p s = a * nth (row xss (j - 1)) ((p : Int) + s).toNat + b * nth (row xss (j - 1)) ((p : Int) - s).toNat := rfl
                        rw [haft] at hbd
                        have Haft := Lib.hid haft
                        have Hs := Lib.hid hs
                        clear haft hcq hs hcs
                        generalize nth (row xss (j - 1)) ((p : Int) + s).toNat = pv at *
                        generalize nth (row xss (j - 1)) ((p : Int) - s).toNat = mv at *
                        have k0 : IntKind.i64.wrap ((j : Int) - 1) = (j : Int) - 1 := IntWalk.i64_in _ (by omega)
                        have k01 : (0 : Int) ≤ (j : Int) - 1 := by omega
                        have k02 : (j : Int) - 1 < i := by omega
                        have k1 : IntKind.i64.wrap ((p : Int) + s) = (p : Int) + s := IntWalk.i64_in _ (by omega)
                        have k2 : (0 : Int) ≤ (p : Int) + s := by omega
                        have k3 : (p : Int) + s < (N : Int) + 1 := by omega
                        have k4 : IntKind.i64.wrap ((p : Int) - s) = (p : Int) - s := IntWalk.i64_in _ (by omega)
                        have k5 : (0 : Int) ≤ (p : Int) - s := by omega
                        have k6 : (p : Int) - s < (N : Int) + 1 := by omega
                        have k7 : IntKind.i64.wrap (a * pv) = a * pv := IntWalk.i64_in _ (by omega)
                        have k8 : IntKind.i64.wrap (b * mv) = b * mv := IntWalk.i64_in _ (by omega)
                        have k9 : IntKind.i64.wrap (a * pv + b * mv) = a * pv + b * mv := IntWalk.i64_in _ (by omega)
                        clear hbd
                        by_cases hlow : c < a * pv + b * mv
                        · go_wp2_with fail
                          go_quiet (fail)
                          go_wp2_with fail
                          go_ret2
                          have hbad : goodAt (stF N) a b xss j p = false := by
                            unfold goodAt
                            rw [decide_eq_false_iff_not, ← Hc.out, bestL_le]
                            rintro ⟨-, h⟩
                            have h := h k (by omega)
                            rw [← Hs.out, Haft.out] at h
                            omega
                          have hV := HV.out
                          rw [stake_good (bad_at hj1 (by have := hl.out; omega) (by omega) hbad)] at hV
                          exact ⟨by rw [hV]; rfl, below_drewN hbw _⟩
                        · go_wp2_with fail
                          go_quiet (fail)
                          go_wp2_with fail
                          go_roundw
                          case rel => exact ⟨k + 1, by omega, by go_num, fun q hq => by
                            by_cases e : q = k
                            · subst e; rw [← Hs.out, Haft.out]; omega
                            · exact Hle.out q (by omega), below_drewN hb2 _⟩
                          case measure => simp [intOf]; omega
                      · have hok : goodAt (stF N) a b xss j p = true := by
                          unfold goodAt
                          rw [decide_eq_true_iff, ← Hc.out, bestL_le]
                          exact ⟨by omega, fun q hq => Hle.out q (by omega)⟩
                        have Hok := Lib.hid hok
                        clear hok
                        go_wp2_with fail
                        go_roundw
                        case rel => exact ⟨p + 1, by omega, by go_num, fun q hq => by
                          by_cases e : q = p
                          · subst e; exact Hok.out
                          · exact Hga.out q (by omega), hbel1.trans (hb2.mono hbel1.size)⟩
                        case measure => simp [intOf]; omega
                  · obtain rfl : p = N + 1 := by omega
                    go_wp2_with fail
                    go_roundw
                    case rel => exact ⟨j + 1, by omega, by omega, by go_num, fun q h1 h2 => by
                      by_cases e : q = j
                      · subst e; exact all_t fun q hq => Hga.out q hq
                      · exact Hgood.out q h1 (by omega), hbel⟩
                    case measure => simp [intOf]; omega
              · have hV := HV.out
                rw [stake_yes (by rw [hl.out]; exact Hlen.out) Hrows.out Hone.out (all_t fun q hq => Hgood.out (q + 1) (by omega) (by have := hl.out; omega))] at hV
                have HV := Lib.hid hV
                clear hV
                go_wp2_with fail
                go_ret2
                exact ⟨by rw [HV.out]; rfl, hbel⟩
end Go.Proofs.Ytbekfpgpeaoifaa
