/- Contracts: RuinSteps of the program and of the reference: both return the chances of fortunes behind k rolls. -/
import Derived.Test.YtbekfpgpeaoifaaRoll
namespace Go.Proofs.Ytbekfpgpeaoifaa
open Go.RowKit

def stepsOk (a b i n k : Int) : Bool := game a b n && inB i 0 n && inB k 0 8
theorem stepsOk_t {a b i n k : Int} (h : stepsOk a b i n k = true) : (1 ≤ a ∧ a ≤ 20 ∧ 1 ≤ b ∧ b ≤ 20 ∧ 1 ≤ n ∧ n ≤ 12) ∧ (0 ≤ i ∧ i ≤ n) ∧ 0 ≤ k ∧ k ≤ 8 := by
  simp only [stepsOk, Bool.and_eq_true] at h
  exact ⟨game_t h.1.1, inB_t h.1.2, inB_t h.2⟩
def stepsV (a b i n k : Int) : List Int := if stepsOk a b i n k then rollK a b n.toNat i.toNat k.toNat else []
theorem own_rollK0 (w : World) (base n i : Nat) (hb : base ≤ w.heap.size) (hn : n ≤ 13) : Own ((w.alloc (.cells (zv (n + 1)) 3)).setCell ⟨w.heap.size, i, none⟩ (.int .i64 1)) base (.slice (some ⟨w.heap.size, 0, none⟩) (n + 1) (n + 1)) ((List.replicate (n + 1) 0).set i 1) :=
  (Own.zeros w base (n + 1) hb (by simp [maxLen]; omega)).set (by simp) i 1
theorem own_rollK0' (w : World) (base n i : Nat) (hb : base ≤ w.heap.size) (hn : n ≤ 13) : Own (w.alloc (.cells ((zv (n + 1)).setIfInBounds i (.int .i64 1)) 3)) base (.slice (some ⟨w.heap.size, 0, none⟩) (n + 1) (n + 1)) ((List.replicate (n + 1) 0).set i 1) := by
  have h := own_rollK0 w base n i hb hn
  rwa [World.setCell_alloc_at _ _ _ _ _ rfl] at h

set_option maxHeartbeats 1000000 in
theorem spec_RuinSteps (a b i n k : Int) (w : World) :
    Calls Try.prog 46 #[.int .i64 a, .int .i64 b, .int .i64 i, .int .i64 n, .int .i64 k] w fun e w' => ∃ v, e = .returned (.tuple #[v, .bool (stepsOk a b i n k)]) ∧ Own w' w.heap.size v (stepsV a b i n k) ∧ Below w.heap.size w w' := by
  cases hg : game4 a b i n
  · have hok : stepsOk a b i n k = false := by unfold stepsOk; rw [← game4_eq, hg]; rfl
    rw [stepsV, hok]
    go_enter Try.func46, Try.ntmps46
    go_wp2_with (first | (go_at_call 60; refine (spec_l5Game _ _ _ _ _).mono ?_; rintro e w' ⟨rfl, rfl⟩) | (go_at_call 67; refine (spec_l1In _ _ _ _).mono ?_; rintro e w' ⟨rfl, rfl⟩))
    go_ret2
    exact ⟨_, rfl, own_empty _ _ (Nat.le_refl _) _ rfl, (Below.refl _ _).alloc (Nat.le_refl _) _⟩
  · cases hk : inB k 0 8
    · have hok : stepsOk a b i n k = false := by unfold stepsOk; rw [hk]; simp
      rw [stepsV, hok]
      go_enter Try.func46, Try.ntmps46
      go_wp2_with (first | (go_at_call 60; refine (spec_l5Game _ _ _ _ _).mono ?_; rintro e w' ⟨rfl, rfl⟩) | (go_at_call 67; refine (spec_l1In _ _ _ _).mono ?_; rintro e w' ⟨rfl, rfl⟩))
      go_ret2
      exact ⟨_, rfl, own_empty _ _ (Nat.le_refl _) _ rfl, (Below.refl _ _).alloc (Nat.le_refl _) _⟩
    · have hok : stepsOk a b i n k = true := by unfold stepsOk; rw [← game4_eq, hg, hk]; rfl
      have ht := stepsOk_t hok
      rw [stepsV, hok, if_pos rfl]
      obtain ⟨N, rfl⟩ : ∃ N : Nat, n = N := ⟨n.toNat, by omega⟩
      obtain ⟨I, rfl⟩ : ∃ I : Nat, i = I := ⟨i.toNat, by omega⟩
      obtain ⟨K, rfl⟩ : ∃ K : Nat, k = K := ⟨k.toNat, by omega⟩
      simp only [Int.toNat_natCast]
      have Hok := Lib.hid hok
      clear hok
      have hmk := mk_lit ((N : Int) + 1) (N + 1) rfl (by omega)
      have hz0 : (zv (N + 1))[I]? = some (.int .i64 0) := zv_get _ _ (by omega)
      have hiN : (I : Int) < (N : Int) + 1 := by omega
      go_enter Try.func46, Try.ntmps46
      go_wp2_with (first | (go_at_call 60; refine (spec_l5Game _ _ _ _ _).mono ?_; rintro e w' ⟨rfl, rfl⟩) | (go_at_call 67; refine (spec_l1In _ _ _ _).mono ?_; rintro e w' ⟨rfl, rfl⟩))
      clear hmk hz0
      go_loopw [12, 13] (fun v12 v13 wr => ∃ r : Nat, r ≤ K ∧ v13 = .int .i64 r ∧ Own wr w.heap.size v12 (rollK a b N I r) ∧ Below w.heap.size w wr) (fun _ v13 _ => K - (intOf v13).toNat)
      case atStart => exact ⟨0, Nat.zero_le _, rfl, own_rollK0' _ _ _ _ (Nat.le_refl _) (by omega), (Below.refl _ _).alloc (Nat.le_refl _) _⟩
      case round =>
        obtain ⟨r, hr, rfl, hown, hbel⟩ := hrel
        by_cases hlt : (r : Int) < K
        · obtain ⟨a', cap, rfl⟩ := hown.shape
          have hints := Lib.hid hown.ints
          rw [rollK_length] at hints ⊢
          have hbd := rollK_bd (a := a) (b := b) (by omega) (by omega) (by omega) N I r (by omega) (by omega)
          clear hown
          go_wp2_with (go_at_call 91; refine (spec_l5Roll a b _ _ _ _ _ (by omega) (by omega) (by omega) (by omega) hbd.1 hbd.2 hints.out).mono ?_; rintro e w1 ⟨v, rfl, hown1, hbel1⟩)
          go_roundw
          case rel => exact ⟨r + 1, by omega, by go_num, hown1.mono hbel.size, hbel.trans (hbel1.mono hbel.size)⟩
          case measure => simp [intOf]; omega
        · obtain rfl : r = K := by omega
          go_wp2_with fail
          go_ret2
          exact ⟨_, rfl, hown, hbel⟩

set_option maxHeartbeats 1000000 in
theorem impl_RuinSteps (a b i n k : Int) (w : World) :
    Calls Try.prog 45 #[.int .i64 a, .int .i64 b, .int .i64 i, .int .i64 n, .int .i64 k] w fun e w' => ∃ v, e = .returned (.tuple #[v, .bool (stepsOk a b i n k)]) ∧ Own w' w.heap.size v (stepsV a b i n k) ∧ Below w.heap.size w w' := by
  cases hg : game a b n
  · have hok : stepsOk a b i n k = false := by unfold stepsOk; rw [hg]; rfl
    rw [stepsV, hok]
    go_enter Try.func45, Try.ntmps45
    go_wp2_with (first | (go_at_call 48; refine (impl_isGame _ _ _ _).mono ?_; rintro e w' ⟨rfl, rfl⟩) | (go_at_call 49; refine (impl_within _ _ _ _).mono ?_; rintro e w' ⟨rfl, rfl⟩))
    go_ret2
    exact ⟨_, rfl, Own.nil _ _, Below.refl _ _⟩
  · cases hi : inB i 0 n
    · have hok : stepsOk a b i n k = false := by unfold stepsOk; rw [hi]; simp
      rw [stepsV, hok]
      go_enter Try.func45, Try.ntmps45
      go_wp2_with (first | (go_at_call 48; refine (impl_isGame _ _ _ _).mono ?_; rintro e w' ⟨rfl, rfl⟩) | (go_at_call 49; refine (impl_within _ _ _ _).mono ?_; rintro e w' ⟨rfl, rfl⟩))
      go_ret2
      exact ⟨_, rfl, Own.nil _ _, Below.refl _ _⟩
    · cases hk : inB k 0 8
      · have hok : stepsOk a b i n k = false := by unfold stepsOk; rw [hk]; simp
        rw [stepsV, hok]
        go_enter Try.func45, Try.ntmps45
        go_wp2_with (first | (go_at_call 48; refine (impl_isGame _ _ _ _).mono ?_; rintro e w' ⟨rfl, rfl⟩) | (go_at_call 49; refine (impl_within _ _ _ _).mono ?_; rintro e w' ⟨rfl, rfl⟩))
        go_ret2
        exact ⟨_, rfl, Own.nil _ _, Below.refl _ _⟩
      · have hok : stepsOk a b i n k = true := by unfold stepsOk; rw [hg, hi, hk]; rfl
        have ht := stepsOk_t hok
        rw [stepsV, hok, if_pos rfl]
        obtain ⟨N, rfl⟩ : ∃ N : Nat, n = N := ⟨n.toNat, by omega⟩
        obtain ⟨I, rfl⟩ : ∃ I : Nat, i = I := ⟨i.toNat, by omega⟩
        obtain ⟨K, rfl⟩ : ∃ K : Nat, k = K := ⟨k.toNat, by omega⟩
        simp only [Int.toNat_natCast]
        have Hok := Lib.hid hok
        clear hok
        have hmk := mk_lit ((N : Int) + 1) (N + 1) rfl (by omega)
        have hz0 : (zv (N + 1))[I]? = some (.int .i64 0) := zv_get _ _ (by omega)
        have hiN : (I : Int) < (N : Int) + 1 := by omega
        go_enter Try.func45, Try.ntmps45
        go_wp2_with (first | (go_at_call 48; refine (impl_isGame _ _ _ _).mono ?_; rintro e w' ⟨rfl, rfl⟩) | (go_at_call 49; refine (impl_within _ _ _ _).mono ?_; rintro e w' ⟨rfl, rfl⟩))
        clear hz0
        go_loopw [12, 39] (fun v12 v39 wr => ∃ (r g : Nat), r ≤ K ∧ v39 = .int .i64 r ∧ v12 = .slice (some ⟨g, 0, none⟩) (N + 1) (N + 1) ∧ Own wr w.heap.size (.slice (some ⟨g, 0, none⟩) (N + 1) (N + 1)) (rollK a b N I r) ∧ Below w.heap.size w wr) (fun _ v39 _ => K - (intOf v39).toNat)
        case atStart => exact ⟨0, _, Nat.zero_le _, rfl, rfl, own_rollK0' _ _ _ _ (Nat.le_refl _) (by omega), (Below.refl _ _).alloc (Nat.le_refl _) _⟩
        case round =>
          obtain ⟨r, g, hr, rfl, rfl, hown, hbel⟩ := hrel
          have Hown := Lib.hid hown
          clear hown
          obtain ⟨wo, rfl⟩ : ∃ wo : World, wo = wr := ⟨_, rfl⟩
          by_cases hlt : (r : Int) < K
          · go_wp2_with fail
            have hxl := rollK_length a b N I r
            obtain ⟨xs, hxs⟩ : ∃ xs, xs = rollK a b N I r := ⟨_, rfl⟩
            have hrb := rollK_bd (a := a) (b := b) (by omega) (by omega) (by omega) N I r (by omega) (by omega)
            rw [← hxs] at hxl hrb
            have Hxs := Lib.hid hxs
            have Hxl := Lib.hid hxl
            have Hrb := Lib.hid hrb
            have hn7 : Own (wo.alloc (.cells (zv (N + 1)) 3)) wo.heap.size (.slice (some ⟨wo.heap.size, 0, none⟩) (N + 1) (N + 1)) (rollP a b xs 0) := by
              rw [rollP, Hxl.out]; exact Own.zeros wo wo.heap.size (N + 1) (Nat.le_refl _) (by simp [maxLen]; omega)
            have hb7 : Below wo.heap.size wo (wo.alloc (.cells (zv (N + 1)) 3)) := (Below.refl _ _).alloc (Nat.le_refl _) _
            have hgw : g < wo.heap.size := Hown.out.lt.2
            clear hmk hxs hxl hrb
            go_loopw [46] (fun v46 wi => ∃ f : Nat, f ≤ N + 1 ∧ v46 = .int .i64 f ∧ Own wi wo.heap.size (.slice (some ⟨wo.heap.size, 0, none⟩) (N + 1) (N + 1)) (rollP a b xs f) ∧ Below wo.heap.size wo wi) (fun v46 _ => N + 1 - (intOf v46).toNat)
            case atStart => exact ⟨0, Nat.zero_le _, rfl, hn7, hb7⟩
            case round =>
              obtain ⟨f, hf, rfl, hownN, hbelN⟩ := hrel
              clear hn7 hb7
              obtain ⟨wi, rfl⟩ : ∃ wi : World, wi = wr := ⟨_, rfl⟩
              by_cases hlf : (f : Int) < (N : Int) + 1
              · have hbd := roll_bd (a := a) (b := b) (by omega) (by omega) (by omega) Hrb.out.1 Hrb.out.2 f (by have := Hxl.out; omega)
                have hol : (rollP a b xs f).length = N + 1 := by rw [rollP_length]; exact Hxl.out
                have hcx : wi.cell? ⟨g, f, none⟩ = some (.int .i64 (nth xs f)) := by
                  rw [hbelN.cell (p := ⟨g, f, none⟩) hgw, Hxs.out]; exact Hown.out.cell (by rw [rollK_length]; omega)
                have HownN := Lib.hid hownN
                by_cases he : f = 0 ∨ f = N
                · have hco := hownN.cell (i := f) (by omega)
                  have hfo := hownN.free hol.symm f
                  have hset := (Own.set hownN hol.symm f (nth (rollP a b xs f) f + (a + b) * nth xs f))
                  have hob := nth_le_sumL hbd.1 f
                  have hob0 := hbd.1 f
                  generalize hcv : nth xs f = c at hcx hbd hset
                  generalize hov : nth (rollP a b xs f) f = o at hco hset hob hob0
                  have Hcv := Lib.hid hcv
                  have Hov := Lib.hid hov
                  have Hset := Lib.hid hset
                  have h3 : 0 ≤ o + (a + b) * c ∧ o + (a + b) * c ≤ 40 * 6553600000000 ∧ 0 ≤ (a + b) * c ∧ (a + b) * c ≤ 40 * 6553600000000 := by omega
                  have He := Lib.hid he
                  clear hownN hol hcv hov hset hob hob0 hbd he
                  by_cases he0 : f = 0
                  · have hb1 : ((f : Int) == 0) = true := by simp [he0]
                    clear he0
                    go_wp2_with fail
                    go_roundw
                    case rel =>
                      refine ⟨f + 1, by omega, by go_num, ?_, hbelN.setCell (Nat.le_refl _) _⟩
                      rw [rollP, roll1, if_pos (by have := Hxl.out; have := He.out; omega), Hov.out, Hcv.out]
                      exact Hset.out
                    case measure => simp [intOf]; omega
                  · have hb1 : ((f : Int) == 0) = false := by simp [he0]
                    have hb2 : ((f : Int) == (N : Int)) = true := by rw [beq_iff_eq]; have := He.out; omega
                    clear he0
                    go_wp2_with fail
                    go_roundw
                    case rel =>
                      refine ⟨f + 1, by omega, by go_num, ?_, hbelN.setCell (Nat.le_refl _) _⟩
                      rw [rollP, roll1, if_pos (by have := Hxl.out; have := He.out; omega), Hov.out, Hcv.out]
                      exact Hset.out
                    case measure => simp [intOf]; omega
                · have hb1 : ((f : Int) == 0) = false := by rw [beq_eq_false_iff_ne]; omega
                  have hb2 : ((f : Int) == (N : Int)) = false := by rw [beq_eq_false_iff_ne]; omega
                  have hi1 : 1 ≤ (f : Int) ∧ (f : Int) < (N : Int) ∧ (f : Int) - 1 < (N : Int) + 1 := by omega
                  have hco := hownN.cell (i := f + 1) (by omega)
                  have hfo := hownN.free hol.symm (f + 1)
                  have hcm := hownN.cell (i := f - 1) (by omega)
                  have hfm := hownN.free hol.symm (f - 1)
                  have hob := nth_le_sumL hbd.1 (f + 1)
                  have hob0 := hbd.1 (f + 1)
                  have hom := nth_le_sumL hbd.1 (f - 1)
                  have hom0 := hbd.1 (f - 1)
                  have hset := Own.set (Own.set hownN hol.symm (f + 1) (nth (rollP a b xs f) (f + 1) + a * nth xs f)) (by rw [List.length_set]; exact hol.symm) (f - 1) (nth (rollP a b xs f) (f - 1) + b * nth xs f)
                  have hmid : nth ((rollP a b xs f).set (f + 1) (nth (rollP a b xs f) (f + 1) + a * nth xs f)) (f - 1) = nth (rollP a b xs f) (f - 1) := by rw [nth_set (by omega), if_neg (by omega)]
                  have Hmid := Lib.hid hmid
                  clear hmid
                  generalize hcv : nth xs f = c at hcx hbd hset
                  generalize hov : nth (rollP a b xs f) (f + 1) = o at hco hob hob0 hset
                  generalize hmv : nth (rollP a b xs f) (f - 1) = m at hcm hom hom0 hset
                  have Hcv := Lib.hid hcv
                  have Hov := Lib.hid hov
                  have Hmv := Lib.hid hmv
                  have Hset := Lib.hid hset
                  have h3 : 0 ≤ o + a * c ∧ o + a * c ≤ 40 * 6553600000000 ∧ 0 ≤ m + b * c ∧ m + b * c ≤ 40 * 6553600000000 ∧ 0 ≤ a * c ∧ 0 ≤ b * c ∧ a * c ≤ 40 * 6553600000000 ∧ b * c ≤ 40 * 6553600000000 := by omega
                  clear hownN hol hcv hov hmv hset hob hob0 hom hom0 hbd
                  go_wp2_with fail
                  go_roundw
                  case rel =>
                    refine ⟨f + 1, by omega, by go_num, ?_, (hbelN.setCell (Nat.le_refl _) _).setCell (Nat.le_refl _) _⟩
                    have hm2 := Hmid.out
                    rw [rollP, roll1, if_neg (by have := Hxl.out; omega)]
                    simp only []
                    rw [hm2, Hov.out, Hcv.out, Hmv.out]
                    exact Hset.out
                  case measure => simp [intOf]; omega
              · obtain rfl : f = N + 1 := by omega
                go_wp2_with fail
                go_roundw
                case rel => exact ⟨r + 1, _, by omega, by go_num, rfl, by rw [rollK, ← Hxs.out]; exact hownN.mono hbel.size, hbel.trans (hbelN.mono hbel.size)⟩
                case measure => simp [intOf]; omega
          · obtain rfl : r = K := by omega
            go_wp2_with fail
            go_ret2
            exact ⟨_, rfl, Hown.out, hbel⟩
end Go.Proofs.Ytbekfpgpeaoifaa
