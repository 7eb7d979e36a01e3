/- Contract of the program's table: the plain table, for any function value that tells stakes without writing what was there. -/
import Derived.Test.YtbekfpgpeaoifaaPlT
import Derived.Test.YtbekfpgpeaoifaaNum
import Derived.Deep.QuietTactic
import Derived.BigQuiet
import Derived.WalkSmall
import Derived.Deep.Draws
namespace Go.Proofs.Ytbekfpgpeaoifaa
open Go.RowKit

/-- Stakes that can be played at every fortune. -/
def Playable (st : Nat → List Int) (n : Nat) : Prop := ∀ i, i ≤ n → (st i).length ≤ 13 ∧ ∀ k, k < (st i).length → 0 ≤ nth (st i) k ∧ nth (st i) k ≤ i ∧ (i : Int) + nth (st i) k ≤ n
theorem own_tab0 (w : World) (n : Nat) (hn : n ≤ 12) :
    OwnSS ((w.alloc (.cells ((zv (n + 1)).setIfInBounds n (.int .i64 1)) 3)).alloc (.cells #[.slice (some ⟨w.heap.size, 0, none⟩) (n + 1) (n + 1)] 35)) w.heap.size (.slice (some ⟨w.heap.size + 1, 0, none⟩) 1 1)
      [.slice (some ⟨w.heap.size, 0, none⟩) (n + 1) (n + 1)] [(List.replicate (n + 1) 0).set n 1] := by
  have h0 : Own (w.alloc (.cells ((zv (n + 1)).setIfInBounds n (.int .i64 1)) 3)) w.heap.size (.slice (some ⟨w.heap.size, 0, none⟩) (n + 1) (n + 1)) ((List.replicate (n + 1) 0).set n 1) := by
    have h := (Own.zeros w w.heap.size (n + 1) (Nat.le_refl _) (by simp [maxLen]; omega)).set (by simp) n 1
    rwa [World.setCell_alloc_at _ _ _ _ _ rfl] at h
  refine ⟨rfl, ?_, ?_, ?_⟩
  · have := World.ownsRow_lit (size := 1) (e := 35) (base := w.heap.size) (w.alloc (.cells ((zv (n + 1)).setIfInBounds n (.int .i64 1)) 3)) #[.slice (some ⟨w.heap.size, 0, none⟩) (n + 1) (n + 1)] 1 (by simp) (by simp [maxLen]) (by simp)
    simpa [OwnV] using this
  · intro i hi
    have : i = 0 := by simp at hi; exact hi
    subst this
    exact h0.below ((Below.refl _ _).alloc (Nat.le_refl _) _)
  · intro i j hi hj hne
    simp at hi hj
    omega

set_option maxHeartbeats 2000000 in
theorem table_any (a b : Int) (n k : Nat) (f : FuncId) (caps : Array Value) (st : Nat → List Int) (w : World) (ha : 1 ≤ a ∧ a ≤ 20) (hb : 1 ≤ b ∧ b ≤ 20) (hn : 1 ≤ n ∧ n ≤ 12) (hk : k ≤ 8) (hp : Playable st n)
    (hcf : ∀ (args : Array Value) (W : World), (callFunc f args).run Try.prog W = .ok (.enter f args) W)
    (hst : ∀ (i : Nat) (W : World), i ≤ n → Below w.heap.size w W → Calls Try.prog f (#[.int .i64 (i : Int)] ++ caps) W fun e w' => ∃ v, e = .returned v ∧ Own w' W.heap.size v (st i) ∧ Below W.heap.size W w') :
    Calls Try.prog 50 #[.int .i64 a, .int .i64 b, .int .i64 (n : Int), .int .i64 (k : Int), .func (.func f) #[] caps] w fun e w' =>
      ∃ v, e = .returned v ∧ HasSS w' w.heap.size v (tabL st a b n k) ∧ Below w.heap.size w w' := by
  have hmk := mk_lit ((n : Int) + 1) (n + 1) rfl (by omega)
  have hzn : (zv (n + 1))[n]? = some (.int .i64 0) := zv_get _ _ (by omega)
  have hst0 := Lib.hid (own_tab0 w n hn.2)
  have Hst := Lib.hid hst
  have Hp := Lib.hid hp
  clear hst hp
  go_enter Try.func50, Try.ntmps50
  go_wp2_with fail
  have hb0 : Below w.heap.size w ((w.alloc (.cells ((zv (n + 1)).setIfInBounds n (.int .i64 1)) 3)).alloc (.cells #[.slice (some ⟨w.heap.size, 0, none⟩) (n + 1) (n + 1)] 35)) := ((Below.refl _ _).alloc (Nat.le_refl _) _).alloc (by simp) _
  generalize ((w.alloc (.cells ((zv (n + 1)).setIfInBounds n (.int .i64 1)) 3)).alloc (.cells #[.slice (some ⟨w.heap.size, 0, none⟩) (n + 1) (n + 1)] 35)) = w0 at *
  clear hmk hzn
  go_loopw [11, 28] (fun v11 v28 wr => ∃ (j : Nat) (vs : List Value), j ≤ k ∧ v28 = .int .i64 (j : Int) ∧ OwnSS wr w.heap.size v11 vs (tabL st a b n j) ∧ Below w.heap.size w wr) (fun _ v28 _ => k - (intOf v28).toNat)
  case atStart => exact ⟨0, _, Nat.zero_le _, rfl, hst0.out, hb0⟩
  case round =>
    obtain ⟨j, vs, hj, rfl, hown, hbel⟩ := hrel
    clear hst0 hb0
    obtain ⟨wo, rfl⟩ : ∃ wo : World, wo = wr := ⟨_, rfl⟩
    by_cases hlt : (j : Int) < k
    · have hlen := hown.len
      rw [tabL_length] at hlen
      obtain ⟨g, cap, rfl, hgb, hgs⟩ := hown.outer.form (by omega)
      have hcell := hown.outer.cell (i := j) (by omega)
      have hrow := hown.rows j (by omega)
      rw [row_tabL _ _ _ _ _ _ (Nat.le_refl _)] at hrow
      obtain ⟨g1, cap1, hv1, hg1b, hg1s⟩ := hrow.form (by rw [tabRow_length]; omega)
      rw [tabRow_length] at hv1
      rw [hv1] at hcell hrow
      have hprev := tabRow_small (st := st) (n := n) (a := a) (b := b) (by omega) (by omega) (by omega) j (by omega)
      have hpl := tabRow_length st a b n j
      obtain ⟨prev, hpv⟩ : ∃ prev, prev = tabRow st a b n j := ⟨_, rfl⟩
      rw [← hpv] at hrow hprev hpl
      have Hpv := Lib.hid hpv
      have Hown := Lib.hid hown
      have Hrow := Lib.hid hrow
      have Hlen := Lib.hid hlen
      have Hpl := Lib.hid hpl
      have Hprev := Lib.hid hprev
      rw [hlen]
      clear hown hrow hlen hpl hprev hpv hv1
      go_wp2_with fail
      have hnil := own_empty wo wo.heap.size (Nat.le_refl _) #[] rfl
      have hb1 : Below wo.heap.size wo (wo.alloc (.cells #[] 3)) := (Below.refl _ _).alloc (Nat.le_refl _) _
      generalize (wo.alloc (.cells #[] 3)) = w1 at *
      have Hb0 : Hid (Below wo.heap.size wo wo) := Lib.hid (Below.refl _ _)
      go_loopw [13, 34] (fun v13 v34 wr => ∃ (i : Nat) (ys : List Int), i ≤ n + 1 ∧ ys.length = i ∧ v34 = .int .i64 (i : Int) ∧ ys = (List.range i).map (fun (i : Nat) => bestL (aft a b prev i) (st i) 0) ∧ Own wr wo.heap.size v13 ys ∧ Below wo.heap.size wo wr) (fun _ v34 _ => n + 1 - (intOf v34).toNat)
      case atStart => exact ⟨0, [], Nat.zero_le _, rfl, rfl, rfl, hnil, hb1⟩
      case round =>
        obtain ⟨i, ys, hi, hyl, rfl, hys, hownI, hbelI⟩ := hrel
        clear hnil hb1
        have Hys := Lib.hid hys
        have Hyl := Lib.hid hyl
        have HownI := Lib.hid hownI
        clear hys hyl hownI
        obtain ⟨wi, rfl⟩ : ∃ wi : World, wi = wr := ⟨_, rfl⟩
        by_cases hli : (i : Int) < (n : Int) + 1
        · go_wp2_with fail
          refine (Hst.out i _ (by omega) (hbel.trans (hbelI.mono hbel.size))).mono ?_
          rintro e w2 ⟨vS, rfl, hownS, hbelS⟩
          obtain ⟨aS, cS, rfl⟩ := hownS.shape
          have hsl := (Hp.out i (by omega)).2
          have Hsl := Lib.hid hsl
          have HintS := Lib.hid hownS.ints
          have hSlen : (st i).length ≤ 13 := (Hp.out i (by omega)).1
          clear hsl hownS
          go_wp2_with fail
          obtain ⟨zs, hzs⟩ : ∃ zs, zs = st i := ⟨_, rfl⟩
          rw [← hzs] at HintS Hsl hSlen ⊢
          have Hzs := Lib.hid hzs
          clear hzs
          obtain ⟨wk, rfl⟩ : ∃ wk : World, wk = w2 := ⟨_, rfl⟩
          go_loopw [15, 41] (fun v15 v41 wr => ∃ (q : Nat) (m : Int), q ≤ zs.length ∧ v41 = .int .i64 (q : Int) ∧ v15 = .int .i64 m ∧ m = bestL (aft a b prev i) (zs.take q) 0 ∧ Below wk.heap.size wk wr) (fun _ v41 _ => zs.length - (intOf v41).toNat)
          case atStart => exact ⟨0, 0, Nat.zero_le _, rfl, rfl, by simp [bestL], Below.refl _ _⟩
          case round =>
            obtain ⟨q, m, hq, rfl, rfl, hm, hbelX⟩ := hrel
            obtain ⟨wx, rfl⟩ : ∃ wx : World, wx = wr := ⟨_, rfl⟩
            have Hm := Lib.hid hm
            clear hm
            by_cases hlq : (q : Int) < zs.length
            · have hs := Hsl.out q (by omega)
              obtain ⟨bS, oS, rfl, hbS, hcS⟩ := HintS.out.2 (by omega)
              have hcs := (hbelX.cell (p := ⟨bS, oS + q, none⟩) hbS).trans (hcS q (by omega))
              clear hcS
              generalize hsv : nth zs q = sv at hs hcs
              have Hsv := Lib.hid hsv
              clear hsv
              have bk : ∀ p : Addr, p.block < wo.heap.size → wx.cell? p = wo.cell? p := fun p hp => by
                have h1 := hbelI.cell hp
                have h2 := hbelS.cell (p := p) (Nat.lt_of_lt_of_le hp hbelI.size)
                have h3 := hbelX.cell (p := p) (Nat.lt_of_lt_of_le hp (Nat.le_trans hbelI.size hbelS.size))
                rw [h3, h2, h1]
              have cA : wx.cell? ⟨g, j, none⟩ = some (.slice (some ⟨g1, 0, none⟩) (n + 1) cap1) := (bk ⟨g, j, none⟩ hgs).trans hcell
              have cP : wx.cell? ⟨g1, ((i : Int) + sv).toNat, none⟩ = some (.int .i64 (nth prev ((i : Int) + sv).toNat)) := (bk ⟨g1, _, none⟩ hg1s).trans (Hrow.out.cell (by rw [Hpl.out]; omega))
              have cM : wx.cell? ⟨g1, ((i : Int) - sv).toNat, none⟩ = some (.int .i64 (nth prev ((i : Int) - sv).toNat)) := (bk ⟨g1, _, none⟩ hg1s).trans (Hrow.out.cell (by rw [Hpl.out]; omega))
              have hbd := aft_bd (a := a) (b := b) (by omega) (by omega) Hprev.out i sv
              have hmb := bestL_bd (N := (a + b) * 6553600000000) (fun s => (aft_bd (a := a) (b := b) (by omega) (by omega) Hprev.out i s).2.2) (zs.take q) 0 ⟨Int.le_refl _, by omega⟩
              rw [← Hm.out] at hmb
              have haft : aft a b prev i sv = a * nth prev ((i : Int) + sv).toNat + b * nth prev ((i : Int) - sv).toNat := rfl
              rw [haft] at hbd
              have Haft := Lib.hid haft
              clear haft bk
              generalize nth prev ((i : Int) + sv).toNat = pv at *
              generalize nth prev ((i : Int) - sv).toNat = mv at *
              have k1 : IntKind.i64.wrap ((i : Int) + sv) = (i : Int) + sv := IntWalk.i64_in _ (by omega)
              have k2 : (0 : Int) ≤ (i : Int) + sv := by omega
              have k3 : (i : Int) + sv < (n : Int) + 1 := by omega
              have k4 : IntKind.i64.wrap ((i : Int) - sv) = (i : Int) - sv := IntWalk.i64_in _ (by omega)
              have k5 : (0 : Int) ≤ (i : Int) - sv := by omega
              have k6 : (i : Int) - sv < (n : Int) + 1 := by omega
              have k7 : IntKind.i64.wrap (a * pv) = a * pv := IntWalk.i64_in _ (by omega)
              have k8 : IntKind.i64.wrap (b * mv) = b * mv := IntWalk.i64_in _ (by omega)
              have k9 : IntKind.i64.wrap (a * pv + b * mv) = a * pv + b * mv := IntWalk.i64_in _ (by omega)
              have k0 : (j : Int) < (j : Int) + 1 := by omega
              clear hbd hmb
              go_wp2_with fail
              go_quiet (fail)
              go_wp2_with fail
              all_goals go_roundw
              all_goals try (case measure => simp [intOf]; omega)
              all_goals
                refine ⟨q + 1, _, by omega, by go_num, rfl, ?_, below_drewN hbelX _⟩
                rw [take_succ_nth (by omega), bestL_append, ← Hm.out, Hsv.out, Haft.out]
                omega
            · obtain rfl : q = zs.length := by omega
              have ownX := Lib.hid (((HownI.out.below hbelS).below hbelX).below ((Below.refl wx.heap.size wx).alloc (Nat.le_refl _) (.cells #[.int .i64 m] 3)))
              have hcx : (wx.alloc (.cells #[.int .i64 m] 3)).cell? ⟨wx.heap.size, 0, none⟩ = some (.int .i64 m) := by rw [World.cell?_alloc_at _ _ _ _ rfl]; rfl
              have Hcx := Lib.hid hcx
              clear hcx
              have hle : wo.heap.size ≤ wx.heap.size := Nat.le_trans hbelI.size (Nat.le_trans hbelS.size hbelX.size)
              go_wp2_with (at_builtin; refine wp_app1 (.tmp 71) (.tmp 73) rfl rfl wo.heap.size _ _ _ rfl ownX.out wx.heap.size rfl Hcx.out (by have := Hyl.out; omega) (by simp; omega) ?_; intro v' w' ho hg)
              go_roundw
              case rel =>
                refine ⟨i + 1, ys ++ [m], by omega, by simp [Hyl.out], by go_num, ?_, ho, ?_⟩
                · rw [Hys.out, List.range_succ, List.map_append]; simp [Hm.out, Hzs.out]
                · have hx : Below wo.heap.size wo (wx.alloc (.cells #[.int .i64 m] 3)) := (hbelI.trans ((hbelS.trans (hbelX.mono hbelS.size)).mono hbelI.size)).trans ((Below.refl _ _).alloc hle _)
                  exact hx.grown hg (by simp; omega) (fun kk hk => (World.ownsRow.lt ownX.out kk hk).1)
              case measure => simp [intOf]; omega
        · obtain rfl : i = n + 1 := by omega
          have hrowN : ys = tabRow st a b n (j + 1) := by rw [Hys.out, tabRow, rowN, Hpv.out]
          obtain ⟨aL, cL, rfl⟩ := HownI.out.shape
          have ownS := Lib.hid ((Hown.out.below hbelI).below ((Below.refl wi.heap.size wi).alloc (Nat.le_refl _) (.cells #[.slice aL ys.length cL] 35)))
          have ownU := Lib.hid (HownI.out.below ((Below.refl wi.heap.size wi).alloc (Nat.le_refl _) (.cells #[.slice aL ys.length cL] 35)))
          have hap : ∀ q, q < vs.length → (Value.slice aL ys.length cL).ownBlock = none ∨ (Value.slice aL ys.length cL).ownBlock ≠ (vnth vs q).ownBlock := fun q hq => by
            cases hb : (Value.slice aL ys.length cL).ownBlock with
            | none => exact .inl rfl
            | some x =>
              refine .inr fun e => ?_
              have h1 := (World.ownsRow.lt HownI.out x hb).1
              have h2 := (World.ownsRow.lt (Hown.out.rows q hq) x e.symm).2
              omega
          have Hap := Lib.hid hap
          have hcx : (wi.alloc (.cells #[.slice aL ys.length cL] 35)).cell? ⟨wi.heap.size, 0, none⟩ = some (.slice aL ys.length cL) := by rw [World.cell?_alloc_at _ _ _ _ rfl]; rfl
          have Hcx := Lib.hid hcx
          have HrowN := Lib.hid hrowN
          have hle : w.heap.size ≤ wi.heap.size := Nat.le_trans hbel.size hbelI.size
          have hgl : Hid ((Value.slice (some ⟨g, 0, none⟩) (j + 1) cap) = .slice (some ⟨g, 0, none⟩) vs.length cap) := Lib.hid (by rw [Hlen.out])
          clear hap hcx hrowN
          go_wp2_with (at_builtin; refine wp_appV (.tmp 76) (.tmp 78) rfl rfl w.heap.size _ vs _ rfl hgl.out ownS.out.outer wi.heap.size rfl Hcx.out (by have := Hlen.out; omega) (by simp; omega) ?_; intro v' w' ho hg)
          go_roundw
          case rel =>
            refine ⟨j + 1, vs ++ [.slice aL ys.length cL], by omega, by go_num, ?_, ?_⟩
            · rw [tabL_succ, ← HrowN.out]
              exact OwnSS.push ownS.out (ownU.out.mono hbel.size) Hap.out ho hg
            · exact ((hbel.trans (hbelI.mono hbel.size)).alloc hle _).grown hg (by simp; omega) (fun kk hk => (World.ownsRow.lt ownS.out.outer kk hk).1)
          case measure => simp [intOf]; omega
    · obtain rfl : j = k := by omega
      go_wp2_with fail
      go_ret
      exact ⟨_, rfl, ⟨_, hown⟩, hbel⟩
end Go.Proofs.Ytbekfpgpeaoifaa
