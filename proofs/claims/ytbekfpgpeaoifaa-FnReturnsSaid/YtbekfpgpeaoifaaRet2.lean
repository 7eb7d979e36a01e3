/- Contract: walks by their returns, by the reference's tables. No conditions but those stated. -/
import Derived.Test.YtbekfpgpeaoifaaRet
import Derived.Test.YtbekfpgpeaoifaaPlRet
import Derived.Test.YtbekfpgpeaoifaaHeld
namespace Go.Proofs.Ytbekfpgpeaoifaa
open Go.RowKit

/-- The table behind j of the two steps from place a with r returns. -/
def GJ (m : Int) (s a r j : Nat) : Nat → Nat → Int := fun i t => stepG talRet (tw talRet s) (lB m a r) ((a : Int) - m) (r : Int) j ((i : Int) - m) (t : Int)
theorem stepG_succ {tal F : Int → Int → Int} {left : Int → Int → Bool} {x0 t0 y : Int} {j : Nat} (hj : j < 2) (hy : y = x0 - 1 + 2 * (j : Int)) :
    stepG tal F left x0 t0 (j + 1) = mpu (stepG tal F left x0 t0 j) y (t0 + tal x0 y) (stepG tal F left x0 t0 j y (t0 + tal x0 y) + F x0 t0) := by
  have : j = 0 ∨ j = 1 := by omega
  rcases this with rfl | rfl
  · obtain rfl : y = x0 - 1 := by omega
    rfl
  · obtain rfl : y = x0 + 1 := by omega
    rfl
theorem GJ_put {m : Int} {s a r j q kk : Nat} (hj : j < 2) (hq : q + 1 = a + 2 * j) (hk : (kk : Int) = (r : Int) + talRet ((a : Int) - m) ((q : Int) - m)) (i t : Nat) :
    GJ m s a r (j + 1) i t = put2 (GJ m s a r j) q kk (GJ m s a r j q kk + tw talRet s ((a : Int) - m) (r : Int)) i t := by
  unfold put2 GJ
  rw [stepG_succ hj (y := (q : Int) - m) (by omega), ← hk]
  unfold mpu
  by_cases e : i = q ∧ t = kk
  · rw [if_pos e, if_pos (by omega)]
  · rw [if_neg e, if_neg (by omega)]
theorem GJ_skip {m : Int} {s a r j q : Nat} (hj : j < 2) (hq : q + 1 = a + 2 * j) (hc : tw talRet s ((a : Int) - m) (r : Int) = 0) (i t : Nat) : GJ m s a r (j + 1) i t = GJ m s a r j i t := by
  unfold GJ
  rw [stepG_succ hj (y := (q : Int) - m) (by omega), hc]
  unfold mpu
  split
  · rename_i e; rw [e.1, e.2]; omega
  · rfl
set_option maxRecDepth 100000 in
set_option maxHeartbeats 2000000 in
theorem spec_ReturnCounts (m : Int) (w : World) :
    Calls Try.prog 35 #[.int .i64 m] w fun e w' => ∃ v, e = .returned (.tuple #[v, .bool (evB m)]) ∧ Own w' w.heap.size v (retV m) ∧ Below w.heap.size w w' := by
  have hnil := own_nil0 w
  have hb0 := below_new w (.cells #[] 3)
  cases he : evB m
  · have Hv := Lib.hid (retV_no he)
    have He := Lib.hid he
    clear he
    go_enter Try.func35, Try.ntmps35
    go_wp2_with (go_at_call 80; refine (spec_l5Even _ _).mono ?_; rintro e w' ⟨rfl, rfl⟩; rw [He.out])
    go_ret2
    exact ⟨_, rfl, by rw [Hv.out]; exact hnil, hb0⟩
  · clear hnil hb0
    obtain ⟨k, hk, hm⟩ := ev_t he
    have Hv : Hid (retV m = retL k) := Lib.hid (by rw [hm]; rw [hm] at he; exact retV_yes he)
    have He := Lib.hid he
    have Hm : Hid (m = 2 * (k : Int)) := Lib.hid (by omega)
    have hm0 : 0 ≤ m ∧ m ≤ 30 := by omega
    have hq : m.tdiv 2 = (k : Int) := by rw [hm, Int.tdiv_eq_ediv_of_nonneg (by omega)]; omega
    have k0 : ¬ (2 : Int) = 0 := by omega
    have k1 : IntKind.i64.wrap (2 * m) = 2 * m := IntWalk.i64_in _ (by omega)
    have hmn : m.toNat = 2 * k := by omega
    clear he hm
    have HB := Lib.hid (fun (W : World) => spec_l5Blank m k W hk Hm.out)
    go_enter Try.func35, Try.ntmps35
    go_wp2_with (first
      | (go_at_call 80; refine (spec_l5Even _ _).mono ?_; rintro e w' ⟨rfl, rfl⟩; rw [He.out])
      | (go_at_call 81; refine (HB.out _).mono ?_; rintro e w1 ⟨v1, rfl, ht1, hb1⟩; obtain ⟨g1, c1, rfl, hg1, hg1s⟩ := ht1.form (by omega); obtain ⟨gi, ci, hgi, hgis, r1, r2, r3, hput⟩ := ht1.open (i := 2 * k) (by omega) (by omega); have r4 := r2 0 (by omega); have r5 := r3 0; have ht2 := hput 0 1 (by omega); clear r2 r3 hput))
    have ht3 : TabW (w1.setCell ⟨gi, 0, none⟩ (.int .i64 1)) w.heap.size (.slice (some ⟨g1, 0, none⟩) (4 * k + 1) c1) (4 * k + 1) (k + 2) (fun i j => tw talRet 0 ((i : Int) - m) (j : Int)) := ht2.same fun i j _ _ => by
      unfold put2 tw
      have := Hm.out
      by_cases e : i = 2 * k ∧ j = 0
      · rw [if_pos e, if_pos (by omega)]
      · rw [if_neg e, if_neg (by omega)]
    have hb2 := hb1.setCell (p := ⟨gi, 0, none⟩) hgi (.int .i64 1)
    clear ht1 ht2 r1 r4 r5 hg1s hb1 hgis
    generalize w1.setCell ⟨gi, 0, none⟩ (.int .i64 1) = w2 at *
    clear hgi hg1
    go_loopw [4, 5] (fun v4 v5 wr => ∃ s : Nat, s ≤ 2 * k ∧ v5 = .int .i64 (s : Int) ∧ TabW wr w.heap.size v4 (4 * k + 1) (k + 2) (fun i j => tw talRet s ((i : Int) - m) (j : Int)) ∧ Below w.heap.size w wr) (fun _ v5 _ => 2 * k - (intOf v5).toNat)
    case atStart => exact ⟨0, Nat.zero_le _, rfl, ht3, hb2⟩
    case round =>
      clear ht3 hb2
      obtain ⟨s, hs, rfl, hT, hbel⟩ := hrel
      obtain ⟨wo, rfl⟩ : ∃ wo : World, wo = wr := ⟨_, rfl⟩
      have hsz := hbel.size
      obtain ⟨g4, c4, rfl, hg4, hg4s⟩ := hT.form (by omega)
      have HT := Lib.hid hT
      clear hT
      have HF : Hid (∀ x t, 0 ≤ tw talRet s x t ∧ tw talRet s x t ≤ 1073741824) := Lib.hid fun x t => by
        have h1 := tw_nn (tal := talRet) s x t
        have h2 : (2 : Int) ^ s = ((2 ^ s : Nat) : Int) := by simp
        have h3 := Nat.pow_le_pow_right (n := 2) (by omega) (show s ≤ 30 by omega)
        omega
      by_cases hlt : (s : Int) < m
      · have hs2 : s < 2 * k := by have := Hm.out; omega
        go_wp2_with (go_at_call 81; refine (HB.out _).mono ?_; rintro e w3 ⟨v6, rfl, ht6, hb3⟩)
        obtain ⟨g6, c6, rfl, hg6, hg6s⟩ := ht6.form (by omega)
        have ht6' : TabW w3 wo.heap.size (.slice (some ⟨g6, 0, none⟩) (4 * k + 1) c6) (4 * k + 1) (k + 2) (fun i t => twL talRet (tw talRet s) (lB m 1 0) ((i : Int) - m) (t : Int)) := ht6.same fun i t _ _ => twL_none (lB_start (by have := Hm.out; omega)) _ _
        have Htop : Hid (∀ x t, lB m (4 * k) 0 x t ≠ false → tw talRet s x t = 0) := Lib.hid (lB_end (by have := Hm.out; omega))
        have Hrow : Hid (∀ (a : Nat) x t, lB m a (k + 1) x t ≠ lB m (a + 1) 0 x t → tw talRet s x t = 0) := Lib.hid fun a => lB_row (by omega) a
        clear ht6
        go_loopw [7] (fun v7 wr => ∃ a : Nat, 1 ≤ a ∧ a ≤ 4 * k ∧ v7 = .int .i64 (a : Int) ∧ TabW wr wo.heap.size (.slice (some ⟨g6, 0, none⟩) (4 * k + 1) c6) (4 * k + 1) (k + 2) (fun i t => twL talRet (tw talRet s) (lB m a 0) ((i : Int) - m) (t : Int)) ∧ Below wo.heap.size wo wr) (fun v7 _ => 4 * k - (intOf v7).toNat)
        case atStart => exact ⟨1, Nat.le_refl _, by have := Hm.out; omega, rfl, ht6', hb3⟩
        case round =>
          clear ht6' hb3 hg6s
          obtain ⟨a, ha1, ha, rfl, hN, hbx⟩ := hrel
          by_cases hlta : (a : Int) < 2 * m
          · have ha4 : a < 4 * k := by have := Hm.out; omega
            obtain ⟨gr, cr, hgr, hgrs, q1, q2, -, -⟩ := HT.out.open (i := a) (by omega) (by omega)
            have Q1 := Lib.hid q1
            have Q2 := Lib.hid q2
            clear q1 q2
            go_wp2_with fail
            go_loopw [8] (fun v8 wr => ∃ r : Nat, r ≤ k + 1 ∧ v8 = .int .i64 (r : Int) ∧ TabW wr wo.heap.size (.slice (some ⟨g6, 0, none⟩) (4 * k + 1) c6) (4 * k + 1) (k + 2) (fun i t => twL talRet (tw talRet s) (lB m a r) ((i : Int) - m) (t : Int)) ∧ Below wo.heap.size wo wr) (fun v8 _ => k + 1 - (intOf v8).toNat)
            case atStart => exact ⟨0, Nat.zero_le _, rfl, hN, hbx⟩
            case round =>
              clear hN hbx
              obtain ⟨r, hr, rfl, hN, hbx⟩ := hrel
              by_cases hltr : (r : Int) ≤ (k : Int)
              · have hrk : r ≤ k := by omega
                go_wp2_with fail
                go_loopw [9] (fun v9 wr => ∃ (j q : Nat), j ≤ 2 ∧ v9 = .int .i64 (q : Int) ∧ q + 1 = a + 2 * j ∧ TabW wr wo.heap.size (.slice (some ⟨g6, 0, none⟩) (4 * k + 1) c6) (4 * k + 1) (k + 2) (GJ m s a r j) ∧ Below wo.heap.size wo wr) (fun v9 _ => a + 3 - (intOf v9).toNat)
                case atStart => exact ⟨0, a - 1, Nat.zero_le _, by go_num, by omega, hN, hbx⟩
                case round =>
                  clear hN hbx
                  obtain ⟨j, q, hj, rfl, hqj, hN, hbx⟩ := hrel
                  obtain ⟨wx, rfl⟩ : ∃ wx : World, wx = wr := ⟨_, rfl⟩
                  by_cases hj2 : j < 2
                  · have hqa : (q : Int) ≤ (a : Int) + 1 := by omega
                    have hq4 : q < 4 * k + 1 := by omega
                    have hszx := hbx.size
                    obtain ⟨c, hc⟩ : ∃ c, c = tw talRet s ((a : Int) - m) (r : Int) := ⟨_, rfl⟩
                    have q1 := (hbx.cell (p := ⟨g4, a, none⟩) hg4s).trans Q1.out
                    have q2 := (hbx.cell (p := ⟨gr, r, none⟩) hgrs).trans (Q2.out r (by omega))
                    rw [← hc] at q2
                    have hcb : 0 ≤ c ∧ c ≤ 1073741824 := by rw [hc]; exact HF.out _ _
                    by_cases hcp : 0 < c
                    · have hstep : ∀ kk : Nat, (kk : Int) = (r : Int) + talRet ((a : Int) - m) ((q : Int) - m) → kk < k + 2 → ∃ gt ct, wo.heap.size ≤ gt ∧ wx.drew.cell? ⟨g6, q, none⟩ = some (.slice (some ⟨gt, 0, none⟩) (k + 2) ct) ∧ ∃ u, 0 ≤ u ∧ u ≤ 4 * 1073741824 ∧ wx.drew.cell? ⟨gt, kk, none⟩ = some (.int .i64 u) ∧ wx.drew.frozen? ⟨gt, kk, none⟩ = false ∧
                          TabW (wx.drew.setCell ⟨gt, kk, none⟩ (.int .i64 (u + c))) wo.heap.size (.slice (some ⟨g6, 0, none⟩) (4 * k + 1) c6) (4 * k + 1) (k + 2) (GJ m s a r (j + 1)) := fun kk hkk hkl => by
                        obtain ⟨gt, ct, h1, h2, h3, h4, h5, h6⟩ := (hN.below (Below.refl wx.heap.size wx).drew).open (i := q) hq4 (by omega)
                        have hbd := stepG_bd (tal := talRet) (left := lB m a r) HF.out ((a : Int) - m) (r : Int) j hj2 ((q : Int) - m) (kk : Int)
                        refine ⟨gt, ct, h1, h3, GJ m s a r j q kk, hbd.1, hbd.2, h4 kk hkl, h5 kk, ?_⟩
                        rw [hc]
                        exact (h6 kk _ hkl).same fun i t _ _ => GJ_put hj2 hqj hkk i t
                      clear hN
                      have Hc := Lib.hid hc
                      clear hc
                      by_cases hqm : (q : Int) = m
                      · have e1 : ((q : Int) == m) = true := by simpa using hqm
                        obtain ⟨gt, ct, hgt, n1, u, hu0, hu1, n2, n3, hT2⟩ := hstep (r + 1) (by rw [talRet, if_pos (by omega)]; omega) (by omega)
                        clear hstep
                        have kw : IntKind.i64.wrap (u + c) = u + c := IntWalk.i64_in _ (by omega)
                        clear hqm
                        go_wp2_with fail
                        have z1 : (q : Int) < 4 * (k : Int) + 1 := by omega
                        have z2 : (a : Int) < 4 * (k : Int) + 1 := by omega
                        have z3 : (r : Int) < (k : Int) + 2 := by omega
                        have z4 : (r : Int) + 1 < (k : Int) + 2 := by omega
                        have z5 : 0 ≤ (r : Int) + 1 := by omega
                        have z6 : ((r : Int) + 1).toNat = r + 1 := by omega
                        have p1 : wx.drew.cell? ⟨g4, a, none⟩ = some (.slice (some ⟨gr, 0, none⟩) (k + 2) cr) := q1
                        have p2 : wx.drew.cell? ⟨gr, r, none⟩ = some (.int .i64 c) := q2
                        refine wp_region_still_tail 21 (by kernel_rfl) (by kernel_rfl) ?_
                        simp only [List.take_succ_cons, List.take_zero, List.drop_succ_cons, List.drop_zero]
                        still_step
                        still_step
                        still_step
                        still_step
                        still_step
                        still_step
                        still_step
                        still_step
                        still_step
                        still_step
                        still_step
                        still_step
                        still_step
                        still_step
                        still_step
                        still_step
                        still_step
                        still_step
                        still_step
                        still_step
                        still_step
                        refine wpStill_nil ?_
                        change wpList _ _ _ _ _ wx.drew
                        go_wp2_with fail
                        go_roundw
                        case rel => exact ⟨j + 1, q + 2, by omega, by go_num, by omega, hT2, (hbx.drew).setCell hgt _⟩
                        case measure => simp [intOf]; omega
                      · have e1 : ((q : Int) == m) = false := by simpa using hqm
                        obtain ⟨gt, ct, hgt, n1, u, hu0, hu1, n2, n3, hT2⟩ := hstep r (by rw [talRet, if_neg (by omega)]; omega) (by omega)
                        clear hstep
                        have kw : IntKind.i64.wrap (u + c) = u + c := IntWalk.i64_in _ (by omega)
                        clear hqm
                        go_wp2_with fail
                        have z1 : (q : Int) < 4 * (k : Int) + 1 := by omega
                        have z2 : (a : Int) < 4 * (k : Int) + 1 := by omega
                        have z3 : (r : Int) < (k : Int) + 2 := by omega
                        have z4 : (r : Int) + 1 < (k : Int) + 2 := by omega
                        have z5 : 0 ≤ (r : Int) + 1 := by omega
                        have z6 : ((r : Int) + 1).toNat = r + 1 := by omega
                        have p1 : wx.drew.cell? ⟨g4, a, none⟩ = some (.slice (some ⟨gr, 0, none⟩) (k + 2) cr) := q1
                        have p2 : wx.drew.cell? ⟨gr, r, none⟩ = some (.int .i64 c) := q2
                        refine wp_region_still_tail 21 (by kernel_rfl) (by kernel_rfl) ?_
                        simp only [List.take_succ_cons, List.take_zero, List.drop_succ_cons, List.drop_zero]
                        still_step
                        still_step
                        still_step
                        still_step
                        still_step
                        still_step
                        still_step
                        still_step
                        still_step
                        still_step
                        still_step
                        still_step
                        still_step
                        still_step
                        still_step
                        still_step
                        still_step
                        still_step
                        still_step
                        still_step
                        still_step
                        refine wpStill_nil ?_
                        change wpList _ _ _ _ _ wx.drew
                        go_wp2_with fail
                        go_roundw
                        case rel => exact ⟨j + 1, q + 2, by omega, by go_num, by omega, hT2, (hbx.drew).setCell hgt _⟩
                        case measure => simp [intOf]; omega
                    · have hc0 : c = 0 := by omega
                      have hT2 := hN.same (G' := GJ m s a r (j + 1)) fun i t _ _ => GJ_skip hj2 hqj (by rw [← hc]; exact hc0) i t
                      clear hc hN
                      by_cases hqm : (q : Int) = m
                      · have e1 : ((q : Int) == m) = true := by simpa using hqm
                        clear hqm
                        go_wp2_with fail
                        go_roundw
                        case rel => exact ⟨j + 1, q + 2, by omega, by go_num, by omega, hT2, hbx⟩
                        case measure => simp [intOf]; omega
                      · have e1 : ((q : Int) == m) = false := by simpa using hqm
                        go_wp2_with fail
                        go_roundw
                        case rel => exact ⟨j + 1, q + 2, by omega, by go_num, by omega, hT2, hbx⟩
                        case measure => simp [intOf]; omega
                  · obtain rfl : j = 2 := by omega
                    have hN2 : TabW wx wo.heap.size (.slice (some ⟨g6, 0, none⟩) (4 * k + 1) c6) (4 * k + 1) (k + 2) (fun i t => twL talRet (tw talRet s) (lB m a (r + 1)) ((i : Int) - m) (t : Int)) := hN.same fun i t _ _ => by
                      rw [← lB_next]
                      exact twL_half (lB_here m a r) _ _
                    have hqa : ¬ (q : Int) ≤ (a : Int) + 1 := by omega
                    go_wp2_with fail
                    go_roundw
                    case rel => exact ⟨r + 1, by omega, by go_num, hN2, hbx⟩
                    case measure => simp [intOf]; omega
              · obtain rfl : r = k + 1 := by omega
                have hN2 := hN.same (G' := fun i t => twL talRet (tw talRet s) (lB m (a + 1) 0) ((i : Int) - m) (t : Int)) fun i t _ _ => (twL_congr (Hrow.out a) _ _).symm
                go_wp2_with fail
                go_roundw
                case rel => exact ⟨a + 1, by omega, by omega, by go_num, hN2, hbx⟩
                case measure => simp [intOf]; omega
          · have ha4 : a = 4 * k := by have := Hm.out; omega
            subst ha4
            have hN2 : TabW wr w.heap.size (.slice (some ⟨g6, 0, none⟩) (4 * k + 1) c6) (4 * k + 1) (k + 2) (fun i j => tw talRet (s + 1) ((i : Int) - m) (j : Int)) := (hN.mono hsz).same fun i t _ _ => by
              rw [twL_congr Htop.out]
              exact (twL_done (fun _ _ => rfl) _ _).symm
            go_wp2_with fail
            go_roundw
            case rel => exact ⟨s + 1, by omega, by go_num, hN2, hbel.trans (hbx.mono hsz)⟩
            case measure => simp [intOf]; omega
      · have hs2 : s = 2 * k := by have := Hm.out; omega
        subst hs2
        have hmk := mk_lit ((k : Int) + 1) (k + 1) rfl (by omega)
        have hz := Own.zeros wo wo.heap.size (k + 1) (Nat.le_refl _) (by simp only [maxLen]; omega)
        have hbz := below_new wo (.cells (zv (k + 1)) 3)
        rw [← outL_none (F := tw talRet (2 * k)) (left := lB m 0 0) (lB_start (by have := Hm.out; omega))] at hz
        have Hrow : Hid (∀ (a : Nat), outL (tw talRet (2 * k)) (lB m a (k + 1)) k = outL (tw talRet (2 * k)) (lB m (a + 1) 0) k) := Lib.hid fun a => outL_congr (lB_row (Nat.le_refl _) a) k
        have Hfin : Hid (outL (tw talRet (2 * k)) (lB m (4 * k + 1) 0) k = retL k) := Lib.hid (outL_ret (lB_end (by have := Hm.out; omega)))
        go_wp2_with fail
        clear hmk
        go_loopw [12] (fun v12 wr => ∃ a : Nat, a ≤ 4 * k + 1 ∧ v12 = .int .i64 (a : Int) ∧ Own wr wo.heap.size (.slice (some ⟨wo.heap.size, 0, none⟩) (k + 1) (k + 1)) (outL (tw talRet (2 * k)) (lB m a 0) k) ∧ Below wo.heap.size wo wr) (fun v12 _ => 4 * k + 1 - (intOf v12).toNat)
        case atStart => exact ⟨0, Nat.zero_le _, rfl, hz, hbz⟩
        case round =>
          clear hz hbz
          obtain ⟨a, ha, rfl, hO, hbx⟩ := hrel
          by_cases hlta : (a : Int) ≤ 2 * m
          · have ha4 : a < 4 * k + 1 := by have := Hm.out; omega
            obtain ⟨gr, cr, hgr, hgrs, q1, q2, -, -⟩ := HT.out.open (i := a) (by omega) (by omega)
            have Q1 := Lib.hid q1
            have Q2 := Lib.hid q2
            clear q1 q2
            go_wp2_with fail
            go_loopw [13] (fun v13 wr => ∃ r : Nat, r ≤ k + 1 ∧ v13 = .int .i64 (r : Int) ∧ Own wr wo.heap.size (.slice (some ⟨wo.heap.size, 0, none⟩) (k + 1) (k + 1)) (outL (tw talRet (2 * k)) (lB m a r) k) ∧ Below wo.heap.size wo wr) (fun v13 _ => k + 1 - (intOf v13).toNat)
            case atStart => exact ⟨0, Nat.zero_le _, rfl, hO, hbx⟩
            case round =>
              clear hO hbx
              obtain ⟨r, hr, rfl, hO, hbx⟩ := hrel
              obtain ⟨wx, rfl⟩ : ∃ wx : World, wx = wr := ⟨_, rfl⟩
              by_cases hltr : (r : Int) < (k : Int) + 1
              · have hrk : r < k + 1 := by omega
                obtain ⟨c, hc⟩ : ∃ c, c = tw talRet (2 * k) ((a : Int) - m) (r : Int) := ⟨_, rfl⟩
                obtain ⟨u, hu⟩ : ∃ u, u = nth (outL (tw talRet (2 * k)) (lB m a r) k) r := ⟨_, rfl⟩
                have q1 := (hbx.cell (p := ⟨g4, a, none⟩) hg4s).trans Q1.out
                have q2 := (hbx.cell (p := ⟨gr, r, none⟩) hgrs).trans (Q2.out r (by omega))
                rw [← hc] at q2
                have hcb : 0 ≤ c ∧ c ≤ 1073741824 := by rw [hc]; exact HF.out _ _
                have hub : 0 ≤ u ∧ u ≤ 61 * 1073741824 := by rw [hu, outL_nth hrk]; exact partA_bd HF.out _
                have hOd := hO.below (Below.refl wx.heap.size wx).drew
                have n1 := hO.cell (i := r) (by rw [outL_length]; exact hrk)
                have n2 := hOd.free (by rw [outL_length]) r
                have hset := hOd.set (by rw [outL_length]) r (u + c)
                rw [← hu] at n1
                have hst := outL_step (F := tw talRet (2 * k)) (left := lB m a r) (x0 := (a : Int) - m) (lB_here m a r) (by have := Hm.out; omega) hrk
                rw [lB_next, ← hu, ← hc] at hst
                rw [← hst] at hset
                have kw : IntKind.i64.wrap (u + c) = u + c := IntWalk.i64_in _ (by omega)
                have z1 : (a : Int) < 4 * (k : Int) + 1 := by omega
                have z2 : (r : Int) < (k : Int) + 2 := by omega
                clear hst hc hu hO hOd
                go_wp2_with fail
                refine wp_region_still_tail 15 (by kernel_rfl) (by kernel_rfl) ?_
                simp only [List.take_succ_cons, List.take_zero, List.drop_succ_cons, List.drop_zero]
                still_step
                still_step
                still_step
                still_step
                still_step
                still_step
                still_step
                still_step
                still_step
                still_step
                still_step
                still_step
                still_step
                still_step
                still_step
                refine wpStill_nil ?_
                change wpList _ _ _ _ _ wx.drew
                go_wp2_with fail
                go_roundw
                case rel => exact ⟨r + 1, by omega, by go_num, hset, hbx.drew.setCell (Nat.le_refl _) _⟩
                case measure => simp [intOf]; omega
              · obtain rfl : r = k + 1 := by omega
                rw [Hrow.out] at hO
                go_wp2_with fail
                go_roundw
                case rel => exact ⟨a + 1, by omega, by go_num, hO, hbx⟩
                case measure => simp [intOf]; omega
          · have ha4 : a = 4 * k + 1 := by have := Hm.out; omega
            subst ha4
            rw [Hfin.out] at hO
            go_wp2_with fail
            go_ret2
            exact ⟨_, rfl, by rw [Hv.out]; exact hO.mono hsz, hbel.trans (hbx.mono hsz)⟩
end Go.Proofs.Ytbekfpgpeaoifaa
