/- Contracts: the reference's tables, whole. -/
import Derived.Test.YtbekfpgpeaoifaaTabS
namespace Go.Proofs.Ytbekfpgpeaoifaa
open Go.RowKit

theorem hasSS_empty (w : World) (base : Nat) (hb : base ≤ w.heap.size) : HasSS (w.alloc (.cells #[] 35)) base (.slice (some ⟨w.heap.size, 0, none⟩) 0 0) [] :=
  ⟨[], rfl, World.ownsRow_lit (size := 1) (e := 35) w #[] 0 hb (by simp [maxLen]) (by simp), fun i hi => by simp at hi, fun i j hi => by simp at hi⟩
theorem game0 (a b n : Int) : game4 a b 0 n = game a b n := by
  rw [game4_eq]
  cases h : game a b n
  · rfl
  · have := game_t h
    rw [inB_mk (by omega) (by omega)]; rfl
set_option maxHeartbeats 2000000 in
theorem l5Table_any (a b way : Int) (n k : Nat) (w : World) (ha : 1 ≤ a ∧ a ≤ 20) (hb : 1 ≤ b ∧ b ≤ 20) (hn : 1 ≤ n ∧ n ≤ 12) (hk : k ≤ 8) (hg : game4 a b 0 (n : Int) = true) (hki : inB (k : Int) 0 8 = true) :
    Calls Try.prog 53 #[.int .i64 a, .int .i64 b, .int .i64 (n : Int), .int .i64 (k : Int), .int .i64 way] w fun e w' =>
      ∃ v, e = .returned (.tuple #[v, .bool true]) ∧ HasSS w' w.heap.size v (tabL (stW way n) a b n k) ∧ Below w.heap.size w w' := by
  have hmk := mk_lit ((n : Int) + 1) (n + 1) rfl (by omega)
  have hzn : (zv (n + 1))[n]? = some (.int .i64 0) := zv_get _ _ (by omega)
  have hst0 := Lib.hid (own_tab0 w n hn.2)
  go_enter Try.func53, Try.ntmps53
  go_wp2_with (first | (go_at_call 67; refine (spec_l1In _ _ _ _).mono ?_; rintro e w' ⟨rfl, rfl⟩) | (go_at_call 60; refine (spec_l5Game _ _ _ _ _).mono ?_; rintro e w' ⟨rfl, rfl⟩))
  have hb0 : Below w.heap.size w ((w.alloc (.cells ((zv (n + 1)).setIfInBounds n (.int .i64 1)) 3)).alloc (.cells #[.slice (some ⟨w.heap.size, 0, none⟩) (n + 1) (n + 1)] 35)) := ((Below.refl _ _).alloc (Nat.le_refl _) _).alloc (by simp) _
  generalize ((w.alloc (.cells ((zv (n + 1)).setIfInBounds n (.int .i64 1)) 3)).alloc (.cells #[.slice (some ⟨w.heap.size, 0, none⟩) (n + 1) (n + 1)] 35)) = w0 at *
  clear hmk hzn
  go_loopw [13, 14] (fun v13 v14 wr => ∃ (j : Nat) (vs : List Value), j ≤ k ∧ v14 = .int .i64 (j : Int) ∧ OwnSS wr w.heap.size v13 vs (tabL (stW way n) a b n j) ∧ Below w.heap.size w wr) (fun _ v14 _ => k - (intOf v14).toNat)
  case atStart => exact ⟨0, _, Nat.zero_le _, rfl, hst0.out, hb0⟩
  case round =>
    obtain ⟨j, vs, hj, rfl, hown, hbel⟩ := hrel
    clear hst0 hb0
    obtain ⟨wo, rfl⟩ : ∃ wo : World, wo = wr := ⟨_, rfl⟩
    by_cases hlt : (j : Int) < k
    · have hlen := hown.len
      rw [tabL_length] at hlen
      obtain ⟨g, cap, rfl, hgb, hgs⟩ := hown.outer.form (by omega)
      have hcell := hown.outer.cell (i := j) (by omega)
      have hrow := hown.rows j (by omega)
      rw [row_tabL _ _ _ _ _ _ (Nat.le_refl _)] at hrow
      obtain ⟨g1, cap1, hv1, hg1b, hg1s⟩ := hrow.form (by rw [tabRow_length]; omega)
      rw [tabRow_length] at hv1
      rw [hv1] at hcell hrow
      have hprev : In0 1000000000000000 (tabRow (stW way n) a b n j) := fun i => by
        have := tabRow_small (st := stW way n) (n := n) (a := a) (b := b) (by omega) (by omega) (by omega) j (by omega) i
        omega
      have hint := hrow.ints
      have Hown := Lib.hid hown
      have Hlen := Lib.hid hlen
      have Hprev := Lib.hid hprev
      have Hint := Lib.hid hint
      rw [hlen]
      clear hown hrow hlen hprev hv1 hint
      go_wp2_with fail
      refine (spec_l5Next a b way _ n _ _ _ ha hb Hprev.out hn.2 Hint.out).mono ?_
      rintro e w1 ⟨u, rfl, hu, hb1⟩
      obtain ⟨aL, cL, rfl⟩ := hu.shape
      rw [rowN_length] at hu ⊢
      have ownS := Lib.hid ((Hown.out.below hb1).below ((Below.refl w1.heap.size w1).alloc (Nat.le_refl _) (.cells #[.slice aL (n + 1) cL] 35)))
      have ownU := Lib.hid (hu.below ((Below.refl w1.heap.size w1).alloc (Nat.le_refl _) (.cells #[.slice aL (n + 1) cL] 35)))
      have hap : ∀ q, q < vs.length → (Value.slice aL (n + 1) cL).ownBlock = none ∨ (Value.slice aL (n + 1) cL).ownBlock ≠ (vnth vs q).ownBlock := fun q hq => by
        cases hb : (Value.slice aL (n + 1) cL).ownBlock with
        | none => exact .inl rfl
        | some x =>
          refine .inr fun e => ?_
          have h1 := (World.ownsRow.lt hu x hb).1
          have h2 := (World.ownsRow.lt (Hown.out.rows q hq) x e.symm).2
          omega
      have Hap := Lib.hid hap
      have hcx : (w1.alloc (.cells #[.slice aL (n + 1) cL] 35)).cell? ⟨w1.heap.size, 0, none⟩ = some (.slice aL (n + 1) cL) := by rw [World.cell?_alloc_at _ _ _ _ rfl]; rfl
      have Hcx := Lib.hid hcx
      have hle : w.heap.size ≤ w1.heap.size := Nat.le_trans hbel.size hb1.size
      have hgl : Hid ((Value.slice (some ⟨g, 0, none⟩) (j + 1) cap) = .slice (some ⟨g, 0, none⟩) vs.length cap) := Lib.hid (by rw [Hlen.out])
      clear hap hcx hu
      go_wp2_with (at_builtin; refine wp_appV (.tmp 39) (.tmp 48) rfl rfl w.heap.size _ vs _ rfl hgl.out ownS.out.outer w1.heap.size rfl Hcx.out (by have := Hlen.out; omega) (by simp; omega) ?_; intro v' w' ho hg)
      go_roundw
      case rel =>
        refine ⟨j + 1, vs ++ [.slice aL (n + 1) cL], by omega, by go_num, ?_, ?_⟩
        · rw [tabL_succ, tabRow]
          exact OwnSS.push ownS.out (ownU.out.mono hbel.size) Hap.out ho hg
        · exact ((hbel.trans (hb1.mono hbel.size)).alloc hle _).grown hg (by simp; omega) (fun kk hk => (World.ownsRow.lt ownS.out.outer kk hk).1)
      case measure => simp [intOf]; omega
    · obtain rfl : j = k := by omega
      go_wp2_with fail
      go_ret2
      exact ⟨_, rfl, ⟨_, hown⟩, hbel⟩
set_option maxHeartbeats 1000000 in
theorem spec_l5Table (a b n k way : Int) (w : World) :
    Calls Try.prog 53 #[.int .i64 a, .int .i64 b, .int .i64 n, .int .i64 k, .int .i64 way] w fun e w' =>
      ∃ v, e = .returned (.tuple #[v, .bool (tabOk a b n k)]) ∧ HasSS w' w.heap.size v (tabV (stW way) a b n k) ∧ Below w.heap.size w w' := by
  cases hg : game4 a b 0 n
  · have hok : tabOk a b n k = false := by unfold tabOk; rw [← game0, hg]; rfl
    rw [tabV_no hok, hok]
    have hE := hasSS_empty w w.heap.size (Nat.le_refl _)
    have HE := Lib.hid hE
    clear hE
    go_enter Try.func53, Try.ntmps53
    go_wp2_with (first | (go_at_call 67; refine (spec_l1In _ _ _ _).mono ?_; rintro e w' ⟨rfl, rfl⟩) | (go_at_call 60; refine (spec_l5Game _ _ _ _ _).mono ?_; rintro e w' ⟨rfl, rfl⟩))
    go_ret2
    exact ⟨_, rfl, HE.out, (Below.refl _ _).alloc (Nat.le_refl _) _⟩
  · cases hk : inB k 0 8
    · have hok : tabOk a b n k = false := by unfold tabOk; rw [hk]; simp
      rw [tabV_no hok, hok]
      have hE := hasSS_empty w w.heap.size (Nat.le_refl _)
      have HE := Lib.hid hE
      clear hE
      go_enter Try.func53, Try.ntmps53
      go_wp2_with (first | (go_at_call 67; refine (spec_l1In _ _ _ _).mono ?_; rintro e w' ⟨rfl, rfl⟩) | (go_at_call 60; refine (spec_l5Game _ _ _ _ _).mono ?_; rintro e w' ⟨rfl, rfl⟩))
      go_ret2
      exact ⟨_, rfl, HE.out, (Below.refl _ _).alloc (Nat.le_refl _) _⟩
    · have hok : tabOk a b n k = true := by unfold tabOk; rw [← game0, hg, hk]; rfl
      have ht := tabOk_t hok
      obtain ⟨N, rfl⟩ : ∃ N : Nat, n = N := ⟨n.toNat, by omega⟩
      obtain ⟨K, rfl⟩ : ∃ K : Nat, k = K := ⟨k.toNat, by omega⟩
      rw [tabV, hok, if_pos rfl]
      simp only [Int.toNat_natCast]
      exact l5Table_any a b way N K w (by omega) (by omega) (by omega) (by omega) hg hk
theorem stW_0 : stW 0 = stT := by funext n i; simp [stW]
theorem stW_1 : stW 1 = stB := by funext n i; simp [stW]
theorem stW_2 : stW 2 = stF := by funext n i; simp [stW]
theorem spec_TimidTable (a b n k : Int) (w : World) :
    Calls Try.prog 14 #[.int .i64 a, .int .i64 b, .int .i64 n, .int .i64 k] w fun e w' => ∃ v, e = .returned (.tuple #[v, .bool (tabOk a b n k)]) ∧ HasSS w' w.heap.size v (tabV stT a b n k) ∧ Below w.heap.size w w' := by
  have H : Hid (∀ W : World, Calls Try.prog 53 #[.int .i64 a, .int .i64 b, .int .i64 n, .int .i64 k, .int .i64 0] W fun e w' => ∃ v, e = .returned (.tuple #[v, .bool (tabOk a b n k)]) ∧ HasSS w' W.heap.size v (tabV stT a b n k) ∧ Below W.heap.size W w') := Lib.hid fun W => by
    rw [← stW_0]; exact spec_l5Table a b n k 0 W
  generalize tabOk a b n k = ok at *
  generalize tabV stT a b n k = V at *
  go_enter Try.func14, Try.ntmps14
  go_wp2_with (go_at_call 53; refine (H.out _).mono ?_; rintro e w' ⟨v, rfl, ho, hb⟩)
  go_ret2
  exact ⟨_, rfl, ho, hb⟩
theorem spec_BoldTable (a b n k : Int) (w : World) :
    Calls Try.prog 12 #[.int .i64 a, .int .i64 b, .int .i64 n, .int .i64 k] w fun e w' => ∃ v, e = .returned (.tuple #[v, .bool (tabOk a b n k)]) ∧ HasSS w' w.heap.size v (tabV stB a b n k) ∧ Below w.heap.size w w' := by
  have H : Hid (∀ W : World, Calls Try.prog 53 #[.int .i64 a, .int .i64 b, .int .i64 n, .int .i64 k, .int .i64 1] W fun e w' => ∃ v, e = .returned (.tuple #[v, .bool (tabOk a b n k)]) ∧ HasSS w' W.heap.size v (tabV stB a b n k) ∧ Below W.heap.size W w') := Lib.hid fun W => by
    rw [← stW_1]; exact spec_l5Table a b n k 1 W
  generalize tabOk a b n k = ok at *
  generalize tabV stB a b n k = V at *
  go_enter Try.func12, Try.ntmps12
  go_wp2_with (go_at_call 53; refine (H.out _).mono ?_; rintro e w' ⟨v, rfl, ho, hb⟩)
  go_ret2
  exact ⟨_, rfl, ho, hb⟩
theorem spec_BestStakeTable (a b n k : Int) (w : World) :
    Calls Try.prog 10 #[.int .i64 a, .int .i64 b, .int .i64 n, .int .i64 k] w fun e w' => ∃ v, e = .returned (.tuple #[v, .bool (tabOk a b n k)]) ∧ HasSS w' w.heap.size v (tabV stF a b n k) ∧ Below w.heap.size w w' := by
  have H : Hid (∀ W : World, Calls Try.prog 53 #[.int .i64 a, .int .i64 b, .int .i64 n, .int .i64 k, .int .i64 2] W fun e w' => ∃ v, e = .returned (.tuple #[v, .bool (tabOk a b n k)]) ∧ HasSS w' W.heap.size v (tabV stF a b n k) ∧ Below W.heap.size W w') := Lib.hid fun W => by
    rw [← stW_2]; exact spec_l5Table a b n k 2 W
  generalize tabOk a b n k = ok at *
  generalize tabV stF a b n k = V at *
  go_enter Try.func10, Try.ntmps10
  go_wp2_with (go_at_call 53; refine (H.out _).mono ?_; rintro e w' ⟨v, rfl, ho, hb⟩)
  go_ret2
  exact ⟨_, rfl, ho, hb⟩
end Go.Proofs.Ytbekfpgpeaoifaa
