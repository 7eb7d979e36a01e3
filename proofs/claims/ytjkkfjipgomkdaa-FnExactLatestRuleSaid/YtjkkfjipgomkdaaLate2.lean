/- Contracts: the latest best rule, by the reference. -/
import Derived.Test.YtjkkfjipgomkdaaLate
import Derived.Test.YtjkkfjipgomkdaaBest2
namespace Go.Proofs.Ytjkkfjipgomkdaa
open Go.RowKit

set_option maxRecDepth 100000 in
set_option maxHeartbeats 2000000 in
theorem spec_LatestRule (aP : Option Addr) (nP cP : Nat) (aW : Option Addr) (nW cW : Nat) (ps ws : List Int) (aL : Option Addr) (nL cL : Nat) (l : List Int) (w : World) (h : Tre w aP nP cP aW nW cW ps ws) (hL : Ints w aL nL l) (_hLc : aL = none → cL = 0) (hn : nL ≤ 1048576) :
    Calls Try.prog 35 #[.agg #[.slice aP nP cP, .slice aW nW cW], .slice aL nL cL] w fun e w' => ∃ v, e = .returned (.tuple #[v, .bool (paysB ps ws l)]) ∧ Own w' w.heap.size v (lateV ps ws l) ∧ Below w.heap.size w w' := by
  have hl := h.p.1
  have hlw := h.w.1
  have hpn := h.pn
  have hwn := h.wn
  have hb1 := below_new w (.cells #[.slice aP nP cP, .slice aW nW cW] 28)
  have hP1 := Lib.hid (Pair.new w (.slice aP nP cP) (.slice aW nW cW) 28)
  have H := Lib.hid h
  have Hl := Lib.hid hl
  have Hlw := Lib.hid hlw
  clear h hl hlw
  have HL := Lib.hid hL
  have hll := Lib.hid hL.1
  clear hL
  have hlt2 := hP1.out.lt
  go_enter Try.func35, Try.ntmps35
  have c0 := hP1.out.c0
  have c1 := hP1.out.c1
  go_wp2_with fail
  try generalize (w.alloc (.cells #[.slice aP nP cP, .slice aW nW cW] 28)) = w2 at *
  refine (spec_l4Pays _ _ _ _ _ _ ps ws _ _ _ l _ (H.out.below hb1) (HL.out.below hb1) hn).mono ?_
  rintro e w3 ⟨rfl, hb3⟩
  have hP3 := hP1.out.below hb3
  have d0 := hP3.c0
  have d1 := hP3.c1
  have HP3 := Lib.hid hP3
  have hb13 := hb1.trans (hb3.mono hb1.size)
  clear hP3 hb3
  try clear c0 c1
  cases hT : paysB ps ws l
  · have Hno := Lib.hid hT
    clear hT
    go_wp2_with fail
    go_ret2
    exact ⟨_, by rw [Hno.out]; rfl, by rw [lateV_no Hno.out]; exact (own_nil0 w3).mono hb13.size, hb13.trans ((below_new w3 _).mono hb13.size)⟩
  have Hpays := Lib.hid hT
  have hpt := paysB_t hT
  have hTr := hpt.1
  have hn24 := hTr.n24
  have hn1 := hTr.n1
  have hnL : nP = nL := by have := hll.out; have := hpt.2.2.2.1; have := Hl.out; omega
  have hnW : nP = nW := by have := Hlw.out; have := hTr.wl; have := Hl.out; omega
  have hnP : 1 ≤ nP ∧ nP ≤ 24 := by have := Hl.out; omega
  have Hpp := Lib.hid hpt.2.2.2.2
  have HTr := Lib.hid hTr
  have HnW := Lib.hid hnW
  have hnW2 : nP ≤ nW := by omega
  clear hT hpt hn24 hn1 hTr hpn hwn hnW
  subst hnL
  have Hsl : Hid ((sums ps ws).length = nP) := Lib.hid (by rw [sums_length HTr.out]; exact Hl.out)
  have Hcl : Hid ((capW ps ws l).length = nP) := Lib.hid (by rw [capW_length]; exact Hl.out)
  go_upto_region 3 with fail
  go_cut [6, 7, 8] (fun v6 v7 v8 wc => ThreeB w3 wc nP ps ws l v6 v7 v8)
  case first =>
    go_region_held3 (fun W' => KeepR w3 W' ∧ W'.cell? ⟨w.heap.size, 0, none⟩ = some (.slice aP nP cP) ∧ W'.cell? ⟨w.heap.size, 1, none⟩ = some (.slice aW nW cW))
      (first | exact keep2 (by assumption) HP3.out | exact keep2 (KeepR.alloc0 _ _) HP3.out | exact keep2 (KeepR.start _) HP3.out | exact keep2 (KeepR.alloc (by assumption : KeepR w3 _ ∧ _).1 _) HP3.out | exact keep2 (KeepR.alloc (by assumption : KeepR w3 _ ∧ _).1 _).drew HP3.out)
      (first
        | (go_at_call 60; refine (spec_l4Caps _ _ _ _ _ _ ps ws _ _ _ l _ (H.out.below (hb13.trans (Below.mono (by assumption : KeepR w3 _ ∧ _).1 hb13.size))) HTr.out (HL.out.below (hb13.trans (Below.mono (by assumption : KeepR w3 _ ∧ _).1 hb13.size))) rfl Hpp.out).mono ?_; rintro e w5 ⟨v5, rfl, o5, b5⟩; have hk5 := KeepR.next b5 (by assumption : KeepR w3 _ ∧ _).1)
        | (go_at_call 61; refine (spec_l2Sums _ _ _ _ _ _ ps ws _ (H.out.below (hb13.trans (Below.mono (by assumption : KeepR w3 _ ∧ _).1 hb13.size))) HTr.out).mono ?_; rintro e w6 ⟨v6, rfl, o6, b6⟩; have hk6 := KeepR.next b6 (by assumption : KeepR w3 _ ∧ _).1))
    all_goals (go_wp2_with fail)
    all_goals go_meet
    all_goals first
      | exact threeB_mk hk6 Hcl.out Hsl.out (o5.below b6) o6 ((((Bo.own_nil0 w3).below (Below.refl _ _).drew).below b5).below b6) (Nat.le_refl _) (fun g hg => by have h1 := World.ownsRow.lt o5 g hg; (try simp at h1); omega) (fun g hg => by have h1 := World.ownsRow.lt o6 g hg; have h2 := b5.size; (try simp at h1); (try simp at h2); omega)
      | exact threeB_mk hk6 Hcl.out Hsl.out ((o5.below (below_new w5 _)).below b6) o6 ((Bo.own_nil0 w5).below b6) (Below.size hk5) (fun g hg => by have h1 := World.ownsRow.lt o5 g hg; omega) (fun g hg => by have h1 := World.ownsRow.lt o6 g hg; (try simp at h1); omega)
      | exact threeB_mk (KeepR.alloc hk6 _) Hcl.out Hsl.out ((o5.below b6).below (below_new w6 _)) (o6.below (below_new w6 _)) (Bo.own_nil0 w6) (Below.size hk6) (fun g hg => by have h1 := World.ownsRow.lt (o5.below b6) g hg; omega) (fun g hg => by have h1 := World.ownsRow.lt o6 g hg; omega)
  case rest =>
    clear d0 d1
    obtain ⟨hk4, a6, c6, a7, c7, g8, rfl, rfl, rfl, i6, i7, o8, s6, s7⟩ := hcut
    have hk4b : Below w3.heap.size w3 wc := hk4
    have hb14 := hb13.trans (hk4b.mono hb13.size)
    have HP4 := Lib.hid (HP3.out.below hk4b)
    have hW3 : w.heap.size < w3.heap.size := HP3.out.lt
    have G6 := Lib.hid i6
    have G7 := Lib.hid i7
    have O8 := Lib.hid o8
    have S6 := Lib.hid s6
    have S7 := Lib.hid s7
    have hsz0 : w3.heap.size ≤ wc.heap.size := hk4b.size
    clear i6 i7 o8 s6 s7 hk4 hk4b hb13
    go_wp2_with fail
    go_loopw [8, 9] (fun v8 v9 wr => ∃ k : Nat, k ≤ nP ∧ v9 = .int .i64 (k : Int) ∧ Bo.Own wr w3.heap.size v8 ((List.range k).map (lateB ps ws l)) ∧ Ints wr a6 nP (capW ps ws l) ∧ Ints wr a7 nP (sums ps ws) ∧ (0 < nP → Apart a6 v8) ∧ (0 < nP → Apart a7 v8) ∧ Pair wr w.heap.size (.slice aP nP cP) (.slice aW nW cW) ∧ Below w.heap.size w wr ∧ w3.heap.size ≤ wr.heap.size) (fun _ v9 _ => nP - (intOf v9).toNat)
    case atStart => exact ⟨0, Nat.zero_le _, rfl, O8.out, G6.out, G7.out, (fun _ => S6.out), (fun _ => S7.out), HP4.out, hb14, hsz0⟩
    case round =>
      clear O8 G6 G7 S6 S7 HP4 hb14 hsz0
      obtain ⟨k, hk, rfl, hown, h6, h7, hs6, hs7, hP, hbel, hsz⟩ := hrel
      have c0 := hP.c0
      have c1 := hP.c1
      have HP := Lib.hid hP
      have G6 := Lib.hid h6
      have G7 := Lib.hid h7
      have S6 := Lib.hid hs6
      have S7 := Lib.hid hs7
      clear hP h6 h7 hs6 hs7
      by_cases hlt : (k : Int) < nP
      · obtain ⟨b7, o7, rfl, hc7⟩ := G7.out.at (i := k) (Below.refl _ _) (by omega)
        obtain ⟨bL, oL, rfl, hLw, hcL⟩ := HL.out.at2 (i := k) hbel (by omega)
        obtain ⟨bW, oW, rfl, hWw, hcW⟩ := H.out.w.at2 (i := k) hbel (by omega)
        have hwp : (endB ps k = true → nth ws k > 0) ∧ (endB ps k = false → ¬ nth ws k > 0) := ⟨fun he => by have := HTr.out.leaf k (by have := Hl.out; omega) he; omega, fun he => by have := HTr.out.inner k (by have := Hl.out; omega) he; omega⟩
        have Hms := Lib.hid (map_succ (lateB ps ws l) k)
        have hlv : lateB ps ws l k = (endB ps k || decide (nth (sums ps ws) k * nth l k > kidSum ps (fun y => nth (capW ps ws l) y) k ps.length)) := rfl
        have hll2 : ((List.range k).map (lateB ps ws l)).length ≤ 24 := by simp; omega
        have hsb := sums_bd HTr.out k
        have hlb := Hpp.out k
        have hmb := mul_abs (B := 999) (U := 480) hlb hsb (by omega)
        rw [Int.mul_comm (nth l k) (nth (sums ps ws) k)] at hmb
        have Hcall : Hid (∀ W : World, Below w.heap.size w W → Ints W a6 nP (capW ps ws l) → Calls Try.prog 69 #[.agg #[.slice aP nP cP, .slice (some ⟨bW, oW, none⟩) nW cW], .slice a6 nP c6, .int .i64 (k : Int)] W fun e w' => e = .returned (.int .i64 (kidSum ps (fun y => nth (capW ps ws l) y) k ps.length)) ∧ Below W.heap.size W w') := Lib.hid fun W hW hI => by
          have := spec_l4Kids _ _ _ _ _ _ ps ws a6 nP c6 (capW ps ws l) k 1000000000 W (H.out.below hW) HTr.out.toPa hI (Nat.le_refl _) (by omega) (fun i => by have := worth_abs HTr.out Hpp.out 24 i; unfold capW; omega) (by omega)
          rw [Int.toNat_natCast] at this
          exact this
        generalize (List.range k).map (lateB ps ws l) = bsk at *
        generalize lateB ps ws l k = bk at *
        generalize nth (sums ps ws) k = u at *
        generalize nth l k = p at *
        generalize nth ws k = v at *
        generalize kidSum ps (fun y => nth (capW ps ws l) y) k ps.length = r at *
        have k1 : IntKind.i64.wrap (u * p) = u * p := IntWalk.i64_in _ (by omega)
        have k2 : (0 : Int) ≤ (k : Int) := by omega
        have k3 : (k : Int) < (nW : Int) := by omega
        have hHW : w.heap.size < w3.heap.size := hW3
        have HA0 : Hid (∀ o, Below w.heap.size w (wr.alloc o).drew) := Lib.hid fun o => (hbel.alloc hbel.size o).drew
        have HA0' : Hid (∀ o, Below wr.heap.size wr (wr.alloc o).drew) := Lib.hid fun o => (below_new wr o).drew
        clear hsb hlb hmb
        cases he : endB ps k
        · have hu := hwp.2 he
          have hu2 : ¬ (0 : Int) < v := hu
          have hu3 : decide ((0 : Int) < v) = false := decide_eq_false hu2
          rw [he, Bool.false_or] at hlv
          clear hwp he
          go_wp2_with fail
          go_region_held3 (fun W' => Below w.heap.size w W' ∧ W'.cell? ⟨w.heap.size, 0, none⟩ = some (.slice aP nP cP) ∧ W'.cell? ⟨w.heap.size, 1, none⟩ = some (.slice (some ⟨bW, oW, none⟩) nW cW) ∧ W'.cell? ⟨bW, oW + k, none⟩ = some (.int .i64 v) ∧ W'.cell? ⟨b7, o7 + k, none⟩ = some (.int .i64 u) ∧ W'.cell? ⟨bL, oL + k, none⟩ = some (.int .i64 p))
            (first | assumption | exact bk5_start hbel c0 c1 hcW hc7 hcL | exact bk5_alloc (by assumption))
            (first
              | (go_at_call 69; refine (Hcall.out _ (by assumption : Below w.heap.size w _ ∧ _).1 (G6.out.below (Below.refl _ _).drew)).mono ?_; rintro e wk ⟨rfl, bk7⟩
                 have hk7 := bk5_next bk7 (by assumption : Below w.heap.size w _ ∧ _ ∧ _ ∧ _ ∧ _ ∧ _)
                 have hown7 := (hown.below (Below.refl _ _).drew).below bk7
                 have hsz7 : w3.heap.size ≤ wk.heap.size := Nat.le_trans hsz bk7.size)
              | (refine Bo.step_push3 (u := decide (u * p > r)) rfl _ _ rfl w3.heap.size _ _ (by rfl) hown7 (by rfl) (by omega) hsz7 ?_; intro v' w' ho hb hm
                 have xP := hm.cell hk7.2.1 (fun e => by have h1 := (World.ownsRow.lt hown7 _ e).1; simp at h1; omega)
                 have xW := hm.cell hk7.2.2.1 (fun e => by have h1 := (World.ownsRow.lt hown7 _ e).1; simp at h1; omega)
                 have xV := hm.cell hk7.2.2.2.1 (fun e => by have h1 := (World.ownsRow.lt hown7 _ e).1; simp at h1; omega)
                 have x7 := hm.cell hk7.2.2.2.2.1 (S7.out (by omega) ⟨b7, o7, none⟩ rfl)
                 have xL := hm.cell hk7.2.2.2.2.2 (fun e => by have h1 := (World.ownsRow.lt hown7 _ e).1; simp at h1; omega)
                 have hSS : Below w.heap.size w w' ∧ w'.cell? ⟨w.heap.size, 0, none⟩ = some (.slice aP nP cP) ∧ w'.cell? ⟨w.heap.size, 1, none⟩ = some (.slice (some ⟨bW, oW, none⟩) nW cW) ∧ w'.cell? ⟨bW, oW + k, none⟩ = some (.int .i64 v) ∧ w'.cell? ⟨b7, o7 + k, none⟩ = some (.int .i64 u) ∧ w'.cell? ⟨bL, oL + k, none⟩ = some (.int .i64 p) := ⟨hk7.1.trans (hb.mono (by omega)), xP, xW, xV, x7, xL⟩))
          go_wp2_with fail
          have hg6 := ((G6.out.below (Below.refl _ _).drew).below bk7).moved hm S6.out
          have hg7 := ((G7.out.below (Below.refl _ _).drew).below bk7).moved hm S7.out
          go_roundw
          case rel => exact ⟨k + 1, by omega, by go_num, by rw [Hms.out, hlv]; exact ho, hg6.1, hg7.1, hg6.2, hg7.2, ((HP.out.below (Below.refl _ _).drew).below bk7).up hb (by omega), (show Below w.heap.size w wk from hk7.1).trans (hb.mono (by omega)), Nat.le_trans hsz7 hb.size⟩
          case measure => simp [intOf]; omega
        · have hu := hwp.1 he
          have hu2 : (0 : Int) < v := hu
          have hu3 : decide ((0 : Int) < v) = true := decide_eq_true hu2
          rw [he, Bool.true_or] at hlv
          clear hwp he
          go_wp2_with fail
          refine wp_region_noPanic ?_
          refine wp_region_held_drew (S := (fun W' => Below w.heap.size w W' ∧ W'.cell? ⟨w.heap.size, 0, none⟩ = some (.slice aP nP cP) ∧ W'.cell? ⟨w.heap.size, 1, none⟩ = some (.slice (some ⟨bW, oW, none⟩) nW cW) ∧ W'.cell? ⟨bW, oW + k, none⟩ = some (.int .i64 v) ∧ W'.cell? ⟨b7, o7 + k, none⟩ = some (.int .i64 u) ∧ W'.cell? ⟨bL, oL + k, none⟩ = some (.int .i64 p))) (by kernel_rfl) ?_ (fun hHeld0 => ?_)
          · (try dsimp only); first | assumption | exact bk5_start hbel c0 c1 hcW hc7 hcL | exact ⟨HA0.out _, cell_up (HA0'.out _) c0, cell_up (HA0'.out _) c1, cell_up (HA0'.out _) hcW, cell_up (HA0'.out _) hc7, cell_up (HA0'.out _) hcL⟩
          refine takeH (i := 0) (oi := _) (v := ?_) rfl (by kernel_rfl) (by kernel_rfl) (by kernel_rfl) (fun _ _ _ h => h) (Or.inl ⟨by rfl, ?_⟩) (by assumption) ?_
          rotate_left
          · first | (intro w hSw; (try dsimp only at hSw); go_simp; done) | (intro w hSw; (try dsimp only at hSw); go_simp; with_reducible rfl)
          (try simp only [Act.put, List.setIfInBounds_toArray, List.set_cons_zero, List.set_cons_succ])
          refine takeH (i := 1) (oi := _) (v := ?_) rfl (by kernel_rfl) (by kernel_rfl) (by kernel_rfl) (fun _ _ _ h => h) (Or.inl ⟨by rfl, ?_⟩) (by assumption) ?_
          rotate_left
          · first | (intro w hSw; (try dsimp only at hSw); go_simp; done) | (intro w hSw; (try dsimp only at hSw); go_simp; with_reducible rfl)
          (try simp only [Act.put, List.setIfInBounds_toArray, List.set_cons_zero, List.set_cons_succ])
          refine takeH (i := 2) (oi := _) (v := ?_) rfl (by kernel_rfl) (by kernel_rfl) (by kernel_rfl) (fun _ _ _ h => h) (Or.inl ⟨by rfl, ?_⟩) (by assumption) ?_
          rotate_left
          · first | (intro w hSw; (try dsimp only at hSw); go_simp; done) | (intro w hSw; (try dsimp only at hSw); go_simp; with_reducible rfl)
          (try simp only [Act.put, List.setIfInBounds_toArray, List.set_cons_zero, List.set_cons_succ])
          refine takeH (i := 3) (oi := _) (v := ?_) rfl (by kernel_rfl) (by kernel_rfl) (by kernel_rfl) (fun _ _ _ h => h) (Or.inl ⟨by rfl, ?_⟩) (by assumption) ?_
          rotate_left
          · first | (intro w hSw; (try dsimp only at hSw); go_simp; done) | (intro w hSw; (try dsimp only at hSw); go_simp; with_reducible rfl)
          (try simp only [Act.put, List.setIfInBounds_toArray, List.set_cons_zero, List.set_cons_succ])
          refine takeH (i := 4) (oi := _) (v := ?_) rfl (by kernel_rfl) (by kernel_rfl) (by kernel_rfl) (fun _ _ _ h => h) (Or.inl ⟨by rfl, ?_⟩) (by assumption) ?_
          rotate_left
          · first | (intro w hSw; (try dsimp only at hSw); go_simp; done) | (intro w hSw; (try dsimp only at hSw); go_simp; with_reducible rfl)
          (try simp only [Act.put, List.setIfInBounds_toArray, List.set_cons_zero, List.set_cons_succ])
          refine takeH (i := 5) (oi := _) (v := ?_) rfl (by kernel_rfl) (by kernel_rfl) (by kernel_rfl) (fun _ _ _ h => h) (Or.inl ⟨by rfl, ?_⟩) (by assumption) ?_
          rotate_left
          · first | (intro w hSw; (try dsimp only at hSw); go_simp; done) | (intro w hSw; (try dsimp only at hSw); go_simp; with_reducible rfl)
          (try simp only [Act.put, List.setIfInBounds_toArray, List.set_cons_zero, List.set_cons_succ])
          refine takeH (i := 6) (oi := _) (v := ?_) rfl (by kernel_rfl) (by kernel_rfl) (by kernel_rfl) (fun _ _ _ h => h) (Or.inl ⟨by rfl, ?_⟩) (by assumption) ?_
          rotate_left
          · first | (intro w hSw; (try dsimp only at hSw); go_simp; done) | (intro w hSw; (try dsimp only at hSw); go_simp; with_reducible rfl)
          (try simp only [Act.put, List.setIfInBounds_toArray, List.set_cons_zero, List.set_cons_succ])
          refine takeH (i := 7) (oi := _) (v := ?_) rfl (by kernel_rfl) (by kernel_rfl) (by kernel_rfl) (fun _ _ _ h => h) (Or.inl ⟨by rfl, ?_⟩) (by assumption) ?_
          rotate_left
          · first | (intro w hSw; (try dsimp only at hSw); go_simp; done) | (intro w hSw; (try dsimp only at hSw); go_simp; with_reducible rfl)
          (try simp only [Act.put, List.setIfInBounds_toArray, List.set_cons_zero, List.set_cons_succ])
          refine takeH (i := 8) (oi := _) (v := undef) rfl (by kernel_rfl) (by kernel_rfl) (by kernel_rfl) (fun _ _ _ h => h) (Or.inr ⟨by rfl, rfl⟩) (by assumption) ?_
          (try simp only [Act.put, List.setIfInBounds_toArray, List.set_cons_zero, List.set_cons_succ])
          refine takeH (i := 9) (oi := _) (v := undef) rfl (by kernel_rfl) (by kernel_rfl) (by kernel_rfl) (fun _ _ _ h => h) (Or.inr ⟨by rfl, rfl⟩) (by assumption) ?_
          (try simp only [Act.put, List.setIfInBounds_toArray, List.set_cons_zero, List.set_cons_succ])
          refine takeH (i := 10) (oi := _) (v := undef) rfl (by kernel_rfl) (by kernel_rfl) (by kernel_rfl) (fun _ _ _ h => h) (Or.inr ⟨by rfl, rfl⟩) (by assumption) ?_
          (try simp only [Act.put, List.setIfInBounds_toArray, List.set_cons_zero, List.set_cons_succ])
          refine takeH (i := 11) (oi := _) (v := undef) rfl (by kernel_rfl) (by kernel_rfl) (by kernel_rfl) (fun _ _ _ h => h) (Or.inr ⟨by rfl, rfl⟩) (by assumption) ?_
          (try simp only [Act.put, List.setIfInBounds_toArray, List.set_cons_zero, List.set_cons_succ])
          refine takeH (i := 12) (oi := _) (v := undef) rfl (by kernel_rfl) (by kernel_rfl) (by kernel_rfl) (fun _ _ _ h => h) (Or.inr ⟨by rfl, rfl⟩) (by assumption) ?_
          (try simp only [Act.put, List.setIfInBounds_toArray, List.set_cons_zero, List.set_cons_succ])
          refine takeH (i := 13) (oi := _) (v := undef) rfl (by kernel_rfl) (by kernel_rfl) (by kernel_rfl) (fun _ _ _ h => h) (Or.inr ⟨by rfl, rfl⟩) (by assumption) ?_
          (try simp only [Act.put, List.setIfInBounds_toArray, List.set_cons_zero, List.set_cons_succ])
          refine takeH (i := 14) (oi := _) (v := undef) rfl (by kernel_rfl) (by kernel_rfl) (by kernel_rfl) (fun _ _ _ h => h) (Or.inr ⟨by rfl, rfl⟩) (by assumption) ?_
          (try simp only [Act.put, List.setIfInBounds_toArray, List.set_cons_zero, List.set_cons_succ])
          refine takeH (i := 15) (oi := _) (v := undef) rfl (by kernel_rfl) (by kernel_rfl) (by kernel_rfl) (fun _ _ _ h => h) (Or.inr ⟨by rfl, rfl⟩) (by assumption) ?_
          (try simp only [Act.put, List.setIfInBounds_toArray, List.set_cons_zero, List.set_cons_succ])
          refine takeH (i := 16) (oi := _) (v := undef) rfl (by kernel_rfl) (by kernel_rfl) (by kernel_rfl) (fun _ _ _ h => h) (Or.inr ⟨by rfl, rfl⟩) (by assumption) ?_
          (try simp only [Act.put, List.setIfInBounds_toArray, List.set_cons_zero, List.set_cons_succ])
          refine takeH (i := 17) (oi := _) (v := undef) rfl (by kernel_rfl) (by kernel_rfl) (by kernel_rfl) (fun _ _ _ h => h) (Or.inr ⟨by rfl, rfl⟩) (by assumption) ?_
          (try simp only [Act.put, List.setIfInBounds_toArray, List.set_cons_zero, List.set_cons_succ])
          refine takeH (i := 18) (oi := _) (v := undef) rfl (by kernel_rfl) (by kernel_rfl) (by kernel_rfl) (fun _ _ _ h => h) (Or.inr ⟨by rfl, rfl⟩) (by assumption) ?_
          (try simp only [Act.put, List.setIfInBounds_toArray, List.set_cons_zero, List.set_cons_succ])
          refine takeH (i := 19) (oi := _) (v := undef) rfl (by kernel_rfl) (by kernel_rfl) (by kernel_rfl) (fun _ _ _ h => h) (Or.inr ⟨by rfl, rfl⟩) (by assumption) ?_
          (try simp only [Act.put, List.setIfInBounds_toArray, List.set_cons_zero, List.set_cons_succ])
          refine takeH (i := 20) (oi := _) (v := undef) rfl (by kernel_rfl) (by kernel_rfl) (by kernel_rfl) (fun _ _ _ h => h) (Or.inr ⟨by rfl, rfl⟩) (by assumption) ?_
          (try simp only [Act.put, List.setIfInBounds_toArray, List.set_cons_zero, List.set_cons_succ])
          refine takeH (i := 21) (oi := _) (v := undef) rfl (by kernel_rfl) (by kernel_rfl) (by kernel_rfl) (fun _ _ _ h => h) (Or.inr ⟨by rfl, rfl⟩) (by assumption) ?_
          (try simp only [Act.put, List.setIfInBounds_toArray, List.set_cons_zero, List.set_cons_succ])
          refine takeH (i := 22) (oi := _) (v := ?_) rfl (by kernel_rfl) (by kernel_rfl) (by kernel_rfl) (fun _ _ _ h => h) (Or.inl ⟨by rfl, ?_⟩) (by assumption) ?_
          rotate_left
          · first | (intro w hSw; (try dsimp only at hSw); go_simp; done) | (intro w hSw; (try dsimp only at hSw); go_simp; with_reducible rfl)
          (try simp only [Act.put, List.setIfInBounds_toArray, List.set_cons_zero, List.set_cons_succ])
          refine wpAnyH_ready (rs := [23]) (by kernel_rfl) (by simp) ?_
          refine consH rfl (fun Kq hKq => ?_)
          go_simp
          refine hKq.out _ _ ?_ (fun hHeld1 => ?_)
          · (try dsimp only); first | assumption | exact bk5_start hbel c0 c1 hcW hc7 hcL | exact ⟨HA0.out _, cell_up (HA0'.out _) c0, cell_up (HA0'.out _) c1, cell_up (HA0'.out _) hcW, cell_up (HA0'.out _) hc7, cell_up (HA0'.out _) hcL⟩
          clear hKq Kq
          (try simp only [Act.put, List.setIfInBounds_toArray, List.set_cons_zero, List.set_cons_succ])
          clear hHeld0
          refine wpAnyH_ready (rs := [24]) (by kernel_rfl) (by simp) ?_
          refine consH rfl (fun Kq hKq => ?_)
          refine Bo.step_push2 (u := true) rfl _ _ rfl w3.heap.size _ _ (by rfl) hown (by rfl) (by omega) hsz ?_; intro v' w' ho hb hm
          have xP := hm.cell c0 (fun e => by have h1 := (World.ownsRow.lt hown _ e).1; simp at h1; omega)
          have xW := hm.cell c1 (fun e => by have h1 := (World.ownsRow.lt hown _ e).1; simp at h1; omega)
          have xV := hm.cell hcW (fun e => by have h1 := (World.ownsRow.lt hown _ e).1; simp at h1; omega)
          have x7 := hm.cell hc7 (S7.out (by omega) ⟨b7, o7, none⟩ rfl)
          have xL := hm.cell hcL (fun e => by have h1 := (World.ownsRow.lt hown _ e).1; simp at h1; omega)
          have hSS : Below w.heap.size w w' ∧ w'.cell? ⟨w.heap.size, 0, none⟩ = some (.slice aP nP cP) ∧ w'.cell? ⟨w.heap.size, 1, none⟩ = some (.slice (some ⟨bW, oW, none⟩) nW cW) ∧ w'.cell? ⟨bW, oW + k, none⟩ = some (.int .i64 v) ∧ w'.cell? ⟨b7, o7 + k, none⟩ = some (.int .i64 u) ∧ w'.cell? ⟨bL, oL + k, none⟩ = some (.int .i64 p) := ⟨hbel.trans (hb.mono (by omega)), xP, xW, xV, x7, xL⟩
          refine hKq.out _ _ ?_ (fun hHeld2 => ?_)
          · (try dsimp only); first | assumption | exact bk5_start hbel c0 c1 hcW hc7 hcL | exact ⟨HA0.out _, cell_up (HA0'.out _) c0, cell_up (HA0'.out _) c1, cell_up (HA0'.out _) hcW, cell_up (HA0'.out _) hc7, cell_up (HA0'.out _) hcL⟩
          clear hKq Kq
          (try simp only [Act.put, List.setIfInBounds_toArray, List.set_cons_zero, List.set_cons_succ])
          clear hHeld1
          refine takeH (i := 25) (oi := _) (v := ?_) rfl (by kernel_rfl) (by kernel_rfl) (by kernel_rfl) (fun _ _ _ h => h) (Or.inl ⟨by rfl, ?_⟩) (by assumption) ?_
          rotate_left
          · first | (intro w hSw; (try dsimp only at hSw); go_simp; done) | (intro w hSw; (try dsimp only at hSw); go_simp; with_reducible rfl)
          (try simp only [Act.put, List.setIfInBounds_toArray, List.set_cons_zero, List.set_cons_succ])
          refine wpAnyH_done (by kernel_rfl) ?_ _
          refine NoPanic.normal ?_
          go_wp2_with fail
          have hg6 := G6.out.moved hm S6.out
          have hg7 := G7.out.moved hm S7.out
          go_roundw
          case rel => exact ⟨k + 1, by omega, by go_num, by rw [Hms.out, hlv]; exact ho, hg6.1, hg7.1, hg6.2, hg7.2, HP.out.up hb (by omega), hbel.trans (hb.mono (by omega)), Nat.le_trans hsz hb.size⟩
          case measure => simp [intOf]; omega
      · obtain rfl : k = nP := by omega
        obtain ⟨a8, c8, rfl⟩ := hown.shape
        have hbl : ((List.range k).map (lateB ps ws l)).length = k := by simp
        rw [hbl] at hown ⊢
        have HB := Lib.hid hown.bools
        clear hown hbl
        go_wp2_with fail
        refine (spec_l4First _ _ _ _ _ _ ps ws _ _ _ ((List.range k).map (lateB ps ws l)) _ (H.out.below hbel) HTr.out.toPa HB.out rfl (fun x hx he => by rw [Bo.nth_map_range (by have := Hl.out; omega), lateB, he]; rfl)).mono ?_
        rintro e w9 ⟨v9, rfl, o9, b9⟩
        have Hf : Hid (firsts ps (bS ((List.range k).map (lateB ps ws l))) = firsts ps (fS (lateB ps ws l))) := Lib.hid (firB_congr HTr.out.toPa fun y hy => bS_map (by have := Hl.out; omega))
        have O9 := Lib.hid o9
        clear o9
        go_wp2_with fail
        go_ret2
        exact ⟨_, by rw [Hpays.out]; rfl, by rw [lateV_yes Hpays.out, ← Hf.out]; exact O9.out.mono hbel.size, hbel.trans (b9.mono hbel.size)⟩
end Go.Proofs.Ytjkkfjipgomkdaa
