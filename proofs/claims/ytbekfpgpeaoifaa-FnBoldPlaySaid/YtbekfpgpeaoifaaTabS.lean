/- Contracts: the reference's tables. -/
import Derived.Test.YtbekfpgpeaoifaaTabI
namespace Go.Proofs.Ytbekfpgpeaoifaa
open Go.RowKit

set_option maxHeartbeats 1000000 in
theorem spec_l5After (a b i s : Int) (ad : Option Addr) (n cap : Nat) (prev : List Int) (w : World) (ha : 1 ≤ a ∧ a ≤ 20) (hb : 1 ≤ b ∧ b ≤ 20) (hprev : In0 1000000000000000 prev)
    (hi : 0 ≤ i) (hs : 0 ≤ s ∧ s ≤ i ∧ i + s < n) (hn : n ≤ 13) (hp : Ints w ad n prev) :
    Calls Try.prog 96 #[.int .i64 a, .int .i64 b, .slice ad n cap, .int .i64 i, .int .i64 s] w fun e w' => e = .returned (.int .i64 (aft a b prev i.toNat s)) ∧ ∃ m, w' = w.drewN m := by
  obtain ⟨bb, off, rfl, hlt, hc⟩ := hp.2 (by omega)
  have c1 := hc (i + s).toNat (by omega)
  have c2 := hc (i - s).toNat (by omega)
  have hbd := aft_bd (a := a) (b := b) (by omega) (by omega) hprev i.toNat s
  have haft : aft a b prev i.toNat s = a * nth prev (i + s).toNat + b * nth prev (i - s).toNat := by unfold aft; rw [show ((i.toNat : Nat) : Int) = i by omega]
  rw [haft] at hbd
  rw [show ((i.toNat : Nat) : Int) = i by omega] at hbd
  have Haft := Lib.hid haft
  clear haft hc hp hprev
  generalize nth prev (i + s).toNat = pv at *
  generalize nth prev (i - s).toNat = mv at *
  have k1 : IntKind.i64.wrap (i + s) = i + s := IntWalk.i64_in _ (by omega)
  have k2 : (0 : Int) ≤ i + s := by omega
  have k3 : i + s < n := by omega
  have k4 : IntKind.i64.wrap (i - s) = i - s := IntWalk.i64_in _ (by omega)
  have k5 : (0 : Int) ≤ i - s := by omega
  have k6 : i - s < n := by omega
  have k7 : IntKind.i64.wrap (a * pv) = a * pv := IntWalk.i64_in _ (by omega)
  have k8 : IntKind.i64.wrap (b * mv) = b * mv := IntWalk.i64_in _ (by omega)
  have k9 : IntKind.i64.wrap (a * pv + b * mv) = a * pv + b * mv := IntWalk.i64_in _ (by omega)
  clear hbd
  go_enter Try.func96, Try.ntmps96
  go_wp2_with fail
  go_quiet (fail)
  go_wp2_with fail
  go_ret
  exact ⟨by rw [Haft.out]; rfl, _, rfl⟩

/-- The stakes of the three ways. -/
def stW (way : Int) (n i : Nat) : List Int := if way = 0 then stT n i else if way = 1 then stB n i else stF n i
set_option maxHeartbeats 2000000 in
theorem spec_l5Next (a b way : Int) (ad : Option Addr) (n cap : Nat) (prev : List Int) (w : World) (ha : 1 ≤ a ∧ a ≤ 20) (hb : 1 ≤ b ∧ b ≤ 20) (hprev : In0 1000000000000000 prev) (hn : n ≤ 12) (hp : Ints w ad (n + 1) prev) :
    Calls Try.prog 62 #[.int .i64 a, .int .i64 b, .slice ad (n + 1) cap, .int .i64 way] w fun e w' => ∃ v, e = .returned v ∧ Own w' w.heap.size v (rowN (stW way n) a b n prev) ∧ Below w.heap.size w w' := by
  have h0 := own_empty w w.heap.size (Nat.le_refl _) #[] rfl
  have hb0 : Below w.heap.size w (w.alloc (.cells #[] 3)) := (Below.refl _ _).alloc (Nat.le_refl _) _
  have Hp := Lib.hid hp
  have Hprev := Lib.hid hprev
  clear hp hprev
  go_enter Try.func62, Try.ntmps62
  go_wp2_with fail
  generalize (w.alloc (.cells #[] 3)) = w0 at *
  go_loopw [10, 11] (fun v10 v11 wr => ∃ i : Nat, i ≤ n + 1 ∧ v11 = .int .i64 (i : Int) ∧ Own wr w.heap.size v10 ((List.range i).map fun (i : Nat) => bestL (aft a b prev i) (stW way n i) 0) ∧ Below w.heap.size w wr) (fun _ v11 _ => n + 1 - (intOf v11).toNat)
  case atStart => exact ⟨0, Nat.zero_le _, rfl, h0, hb0⟩
  case round =>
    obtain ⟨i, hi, rfl, hown, hbel⟩ := hrel
    clear h0 hb0
    obtain ⟨wi, rfl⟩ : ∃ wi : World, wi = wr := ⟨_, rfl⟩
    have HownI := Lib.hid hown
    clear hown
    by_cases hli : (i : Int) ≤ (n : Int)
    · obtain ⟨mo, hmo⟩ : ∃ mo, mo = least (i : Int) ((n : Int) - i) := ⟨_, rfl⟩
      have hmo2 : 0 ≤ mo ∧ mo ≤ i ∧ (i : Int) + mo ≤ n := by rw [hmo]; unfold least; omega
      have Hmo := Lib.hid hmo.symm
      have HpI := Lib.hid (Hp.out.below hbel)
      clear hmo
      by_cases hw0 : way = 0
      · have e0 : (way == 0) = true := by simpa using hw0
        have hst : stW way n i = [least 1 mo] := by rw [stW, if_pos hw0, stT, least_eq, ← Hmo.out, least_eq]
        have hl1 : 0 ≤ least 1 mo ∧ least 1 mo ≤ mo := by unfold least; omega
        have hbd := aft_bd (a := a) (b := b) (by omega) (by omega) Hprev.out i (least 1 mo)
        have hbest : bestL (aft a b prev i) (stW way n i) 0 = aft a b prev i (least 1 mo) := by rw [hst]; simp only [bestL]; omega
        have Hbest := Lib.hid hbest
        clear hbest hbd hst hw0
        go_wp2_with fail
        refine (spec_l1Least _ _ _).mono ?_
        rintro e w' ⟨rfl, rfl⟩
        rw [Hmo.out]
        go_wp2_with fail
        refine (spec_l1Least _ _ _).mono ?_
        rintro e w' ⟨rfl, rfl⟩
        go_wp2_with fail
        refine (spec_l5After a b (i : Int) (least 1 mo) _ _ _ prev _ ha hb Hprev.out (by omega) (by omega) (by omega) HpI.out).mono ?_
        rintro e wm ⟨rfl, mm, rfl⟩
        rw [Int.toNat_natCast]
        obtain ⟨x, hx⟩ : ∃ x, x = aft a b prev i (least 1 mo) := ⟨_, rfl⟩
        rw [← hx] at Hbest ⊢
        clear hx
        have ownM := HownI.out.below (below_drewN (Below.refl wi.heap.size wi) mm)
        have hbm := below_drewN hbel mm
        generalize wi.drewN mm = wm at *
        have ownX := Lib.hid (ownM.below ((Below.refl wm.heap.size wm).alloc (Nat.le_refl _) (.cells #[.int .i64 x] 3)))
        have hcx : (wm.alloc (.cells #[.int .i64 (x)] 3)).cell? ⟨wm.heap.size, 0, none⟩ = some (.int .i64 (x)) := by rw [World.cell?_alloc_at _ _ _ _ rfl]; rfl
        have Hcx := Lib.hid hcx
        have hle : w.heap.size ≤ wm.heap.size := hbm.size
        clear hcx
        go_wp2_with (at_builtin; refine wp_app1 (.tmp 49) (.tmp 57) rfl rfl w.heap.size _ _ _ rfl ownX.out wm.heap.size rfl Hcx.out (by simp; omega) (by simp; omega) ?_; intro v' w' ho hg)
        go_roundw
        case rel =>
          refine ⟨i + 1, by omega, by go_num, by rw [List.range_succ, List.map_append]; simp only [List.map_cons, List.map_nil]; rw [Hbest.out]; exact ho, ?_⟩
          exact ((hbm).alloc hle _).grown hg (by simp; omega) (fun kk hk => (World.ownsRow.lt ownX.out kk hk).1)
        case measure => simp [intOf]; omega
      · have e0 : (way == 0) = false := by simpa using hw0
        by_cases hw1 : way = 1
        · have e1 : (way == 1) = true := by simpa using hw1
          have hst : stW way n i = [mo] := by rw [stW, if_neg hw0, if_pos hw1, stB, ← Hmo.out, least_eq]
          have hbd := aft_bd (a := a) (b := b) (by omega) (by omega) Hprev.out i mo
          have hbest : bestL (aft a b prev i) (stW way n i) 0 = aft a b prev i mo := by rw [hst]; simp only [bestL]; omega
          have Hbest := Lib.hid hbest
          clear hbest hbd hst hw0 hw1
          go_wp2_with fail
          refine (spec_l1Least _ _ _).mono ?_
          rintro e w' ⟨rfl, rfl⟩
          rw [Hmo.out]
          go_wp2_with fail
          refine (spec_l5After a b (i : Int) mo _ _ _ prev _ ha hb Hprev.out (by omega) (by omega) (by omega) HpI.out).mono ?_
          rintro e wm ⟨rfl, mm, rfl⟩
          rw [Int.toNat_natCast]
          obtain ⟨x, hx⟩ : ∃ x, x = aft a b prev i mo := ⟨_, rfl⟩
          rw [← hx] at Hbest ⊢
          clear hx
          have ownM := HownI.out.below (below_drewN (Below.refl wi.heap.size wi) mm)
          have hbm := below_drewN hbel mm
          generalize wi.drewN mm = wm at *
          have ownX := Lib.hid (ownM.below ((Below.refl wm.heap.size wm).alloc (Nat.le_refl _) (.cells #[.int .i64 x] 3)))
          have hcx : (wm.alloc (.cells #[.int .i64 (x)] 3)).cell? ⟨wm.heap.size, 0, none⟩ = some (.int .i64 (x)) := by rw [World.cell?_alloc_at _ _ _ _ rfl]; rfl
          have Hcx := Lib.hid hcx
          have hle : w.heap.size ≤ wm.heap.size := hbm.size
          clear hcx
          go_wp2_with (at_builtin; refine wp_app1 (.tmp 61) (.tmp 68) rfl rfl w.heap.size _ _ _ rfl ownX.out wm.heap.size rfl Hcx.out (by simp; omega) (by simp; omega) ?_; intro v' w' ho hg)
          go_roundw
          case rel =>
            refine ⟨i + 1, by omega, by go_num, by rw [List.range_succ, List.map_append]; simp only [List.map_cons, List.map_nil]; rw [Hbest.out]; exact ho, ?_⟩
            exact ((hbm).alloc hle _).grown hg (by simp; omega) (fun kk hk => (World.ownsRow.lt ownX.out kk hk).1)
          case measure => simp [intOf]; omega
        · have e1 : (way == 1) = false := by simpa using hw1
          obtain ⟨M, rfl⟩ : ∃ M : Nat, mo = M := ⟨mo.toNat, by omega⟩
          have hst : stW way n i = (List.range (M + 1)).map fun (s : Nat) => (s : Int) := by
            rw [stW, if_neg hw0, if_neg hw1, stF]
            have h1 := Hmo.out
            rw [least_eq] at h1
            rw [show min i (n - i) = M by omega]
          have Hst := Lib.hid hst
          clear hst hw0 hw1
          go_wp2_with fail
          refine (spec_l1Least _ _ _).mono ?_
          rintro e w' ⟨rfl, rfl⟩
          rw [Hmo.out]
          go_wp2_with fail
          go_loopw [13, 14] (fun v13 v14 wr => ∃ (s : Nat) (m : Int), s ≤ M + 1 ∧ v14 = .int .i64 (s : Int) ∧ v13 = .int .i64 m ∧ m = bestL (aft a b prev i) ((List.range s).map fun (s : Nat) => (s : Int)) 0 ∧ Below wi.heap.size wi wr) (fun _ v14 _ => M + 1 - (intOf v14).toNat)
          case atStart => exact ⟨0, 0, Nat.zero_le _, rfl, rfl, rfl, Below.refl _ _⟩
          case round =>
            obtain ⟨s, m, hs, rfl, rfl, hm, hbelX⟩ := hrel
            have Hm := Lib.hid hm
            clear hm
            by_cases hls : (s : Int) ≤ (M : Int)
            · have HpX := Lib.hid (HpI.out.below hbelX)
              go_wp2_with fail
              refine (spec_l5After a b (i : Int) (s : Int) _ _ _ prev _ ha hb Hprev.out (by omega) (by omega) (by omega) HpX.out).mono ?_
              rintro e wm ⟨rfl, mm, rfl⟩
              rw [Int.toNat_natCast]
              go_wp2_with (go_at_call 71; refine (spec_l1Most _ _ _).mono ?_; rintro e w' ⟨rfl, rfl⟩)
              go_roundw
              case rel =>
                refine ⟨s + 1, _, by omega, by go_num, rfl, ?_, below_drewN hbelX mm⟩
                rw [List.range_succ, List.map_append, Hm.out]
                simp only [List.map_cons, List.map_nil]
                rw [bestL_append, most_eq]
              case measure => simp [intOf]; omega
            · obtain rfl : s = M + 1 := by omega
              have Hbest : Hid (bestL (aft a b prev i) (stW way n i) 0 = m) := Lib.hid (by rw [Hst.out, Hm.out])
              have ownX := Lib.hid ((HownI.out.below hbelX).below ((Below.refl wr.heap.size wr).alloc (Nat.le_refl _) (.cells #[.int .i64 m] 3)))
              have hcx : (wr.alloc (.cells #[.int .i64 (m)] 3)).cell? ⟨wr.heap.size, 0, none⟩ = some (.int .i64 (m)) := by rw [World.cell?_alloc_at _ _ _ _ rfl]; rfl
              have Hcx := Lib.hid hcx
              have hle : w.heap.size ≤ wr.heap.size := Nat.le_trans hbel.size hbelX.size
              clear hcx
              go_wp2_with (at_builtin; refine wp_app1 (.tmp 43) (.tmp 45) rfl rfl w.heap.size _ _ _ rfl ownX.out wr.heap.size rfl Hcx.out (by simp; omega) (by simp; omega) ?_; intro v' w' ho hg)
              go_roundw
              case rel =>
                refine ⟨i + 1, by omega, by go_num, by rw [List.range_succ, List.map_append]; simp only [List.map_cons, List.map_nil]; rw [Hbest.out]; exact ho, ?_⟩
                exact ((hbel.trans (hbelX.mono hbel.size)).alloc hle _).grown hg (by simp; omega) (fun kk hk => (World.ownsRow.lt ownX.out kk hk).1)
              case measure => simp [intOf]; omega
    · obtain rfl : i = n + 1 := by omega
      go_wp2_with fail
      go_ret
      exact ⟨_, rfl, HownI.out, hbel⟩
end Go.Proofs.Ytbekfpgpeaoifaa
