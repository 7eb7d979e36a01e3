/- Contracts and plain laws for the statement FnDrifts, part 17. No conditions but those stated in each. -/
import Derived.Test.YtnbomleieianoaaBnFnDrifts16
import Derived.Test.YtnbomleieianoaaBnFnDrifts1
import Derived.Test.YtnbomleieianoaaBnFnDrifts9
import Derived.Test.YtnbomleieianoaaBnFnDrifts2
import Derived.Test.YtnbomleieianoaaBnFnDrifts4
import Derived.Deep.DeepCutAuto
import Derived.Test.YtnbomleieianoaaBnFnDrifts7
import Derived.Test.YtnbomleieianoaaBnFnDrifts8
/- Contracts: the means of pays and the process that they are, by the program. -/
namespace Go.Proofs.Ytnbomleieianoaa
open Go.RowKit

set_option maxRecDepth 100000 in
set_option maxHeartbeats 2000000 in
theorem impl_spread (aP : Option Addr) (nP cP : Nat) (aW : Option Addr) (nW cW : Nat) (ps ws : List Int) (aL : Option Addr) (nL cL : Nat) (l : List Int) (V : Nat → Int) (w : World) (h : Tre w aP nP cP aW nW cW ps ws) (hT : Tr ps ws) (hL : Ints w aL nL l) (hnL : (ends ps).length = nL) (hv : ∀ i e : Nat, i < nL → nth (ends ps) i = (e : Int) → nth l i = V e) (hV : ∀ x, -2997 ≤ V x ∧ V x ≤ 2997) :
    Calls Try.prog 155 #[.agg #[.slice aP nP cP, .slice aW nW cW], .slice aL nL cL] w fun e w' => ∃ v, e = .returned v ∧ Own w' w.heap.size v (totK ps ws V nL) ∧ Below w.heap.size w w' := by
  have HTT := Lib.hid hT
  have hn24 := hT.n24
  have hn1 := hT.n1
  have HT := Lib.hid hT
  have hwl := hT.wl
  have hl := h.p.1
  have hlw := h.w.1
  have hpn := h.pn
  have hwn := h.wn
  have hb1 := below_new w (.cells #[.slice aP nP cP, .slice aW nW cW] 26)
  have hP1 := Lib.hid (Pair.new w (.slice aP nP cP) (.slice aW nW cW) 26)
  have H := Lib.hid h
  have Hl := Lib.hid hl
  have Hlw := Lib.hid hlw
  clear h hl hlw
  have hnW : nW ≤ nP ∧ nP ≤ nW := by have := Hlw.out; have := Hl.out; omega
  have hnP : 1 ≤ nP ∧ nP ≤ 24 := by have := Hl.out; omega
  clear hn24 hn1 hT hwl hpn hwn
  have hWP : nW = nP := by omega
  clear hnW
  subst hWP
  have HL0 := Lib.hid hL
  have Hv := Lib.hid hv
  have HV := Lib.hid hV
  have hnP : 1 ≤ nW ∧ nW ≤ 24 := by have := HTT.out.n24; have := HTT.out.n1; have := Hl.out; omega
  have hel : (ends ps).length ≤ 24 := by have := filt_length (endB ps) ps.length; have := Hl.out; rw [ends]; omega
  clear hL hv hV
  have HnL := Lib.hid hnL
  have hnL24 : nL ≤ 24 := by omega
  clear hnL
  have hmk := mk_ints nW (by omega)
  have hmx : nW ≤ maxLen := by have : maxLen = 9223372036854775807 := rfl; omega
  go_enter Try.func155, Try.ntmps155
  have c0 := hP1.out.c0
  have c1 := hP1.out.c1
  have hlt := hP1.out.lt
  have hP5 := Lib.hid (hP1.out.alloc (.cells (zv nW) 3))
  have hO5 := Own.zeros (w.alloc (.cells #[.slice aP nW cP, .slice aW nW cW] 26)) (w.alloc (.cells #[.slice aP nW cP, .slice aW nW cW] 26)).heap.size nW (Nat.le_refl _) hmx
  rw [show (w.alloc (.cells #[.slice aP nW cP, .slice aW nW cW] 26)).heap.size = w.heap.size + 1 by simp] at hO5
  have hb5 : Below w.heap.size w ((w.alloc (.cells #[.slice aP nW cP, .slice aW nW cW] 26)).alloc (.cells (zv nW) 3)) := hb1.trans ((below_new (w.alloc (.cells #[.slice aP nW cP, .slice aW nW cW] 26)) (.cells (zv nW) 3)).mono hb1.size)
  have hs5 : w.heap.size + 1 < ((w.alloc (.cells #[.slice aP nW cP, .slice aW nW cW] 26)).alloc (.cells (zv nW) 3)).heap.size := by simp
  have d0 := hP5.out.c0
  have d1 := hP5.out.c1
  go_wp2_with fail
  generalize ((w.alloc (.cells #[.slice aP nW cP, .slice aW nW cW] 26)).alloc (.cells (zv nW) 3)) = w5 at *
  clear c0 c1 hP1 hb1 hlt
  generalize hU : w.heap.size + 1 = U at *
  have HO5 := Lib.hid hO5
  clear hO5
  refine (impl_ends _ _ _ _ _ _ ps ws _ (H.out.below hb5) HTT.out.toPa).mono ?_
  rintro e w6 ⟨v6, rfl, o6, b6⟩
  obtain ⟨a6, c6, rfl⟩ := o6.shape
  rw [HnL.out] at o6 ⊢
  have hb15 := hb5.trans (b6.mono hb5.size)
  have HO := Lib.hid (HO5.out.below b6)
  have G6 := Lib.hid o6.ints
  have P6 : Hid (∀ p, a6 = some p → p.block ≠ U) := Lib.hid fun p hp => by
    subst hp
    have h1 := (World.ownsRow.lt o6 _ rfl).1
    omega
  have HP5 := Lib.hid (hP5.out.below b6)
  clear o6 b6 hb5 HO5 hP5 hs5 d0 d1 hmk
  go_wp2_with fail
  go_loopw [15] (fun v15 wr => ∃ i : Nat, i ≤ nL ∧ v15 = .int .i64 (i : Int) ∧ Own wr U (.slice (some ⟨U, 0, none⟩) nW nW) (totK ps ws V i) ∧ Ints wr a6 nL (ends ps) ∧ Pair wr w.heap.size (.slice aP nW cP) (.slice aW nW cW) ∧ Below w.heap.size w wr) (fun v15 _ => nL - (intOf v15).toNat)
  case atStart => exact ⟨0, Nat.zero_le _, rfl, by rw [← totK_zero, Hl.out]; exact HO.out, G6.out, HP5.out, hb15⟩
  case round =>
    clear hb15 HO G6 HP5
    obtain ⟨i, hi, rfl, ho, h6, hP, hbel⟩ := hrel
    have c0 := hP.c0
    have c1 := hP.c1
    have HP := Lib.hid hP
    have G6 := Lib.hid h6
    clear hP h6
    by_cases hlt2 : (i : Int) < nL
    · have hi' : i < nL := by omega
      obtain ⟨b6, o6, rfl, hc6⟩ := G6.out.at (i := i) (Below.refl _ _) (by omega)
      obtain ⟨e, he, hee, hei⟩ := end_nth (ps := ps) (i := i) (by have := HnL.out; omega)
      rw [hei] at hc6
      have heN : e < nW := by have := Hl.out; omega
      obtain ⟨bL, oL, rfl, hcL⟩ := HL0.out.at (i := i) hbel hi'
      rw [Hv.out i e hi' hei] at hcL
      obtain ⟨bW, oW, rfl, hcW⟩ := H.out.w.at (i := e) hbel heN
      have hne : b6 ≠ U := P6.out _ rfl
      have hkl : (totK ps ws V i).length = nW := by rw [totK_length]; exact Hl.out
      have d1 := ho.cell (i := e) (by omega)
      have f1 := ho.free hkl.symm e
      have hset := Own.set (w := wr.drew) ho hkl.symm e (nth ws e * V e)
      rw [← totK_succ (by have := HnL.out; omega) he hei] at hset
      have Hset := Lib.hid hset
      have hve := HV.out e
      have hwe := HTT.out.w0 e
      have hpr := mul_abs (B := 2997) (U := 20) hve hwe (by omega)
      rw [Int.mul_comm (V e) (nth ws e)] at hpr
      have hgw : U ≠ w.heap.size := by omega
      have HPn := Lib.hid (Pair.far (w := wr.drew) HP.out.drew (b := U) (i := e) hgw (.int .i64 (nth ws e * V e)))
      have G6n := Lib.hid (Ints.away (w := wr.drew) (G6.out.below (Below.refl _ _).drew) (g := U) (i := e) (fun p hp => by cases hp; exact hne) (.int .i64 (nth ws e * V e)))
      clear hset hei hee hkl ho
      generalize hz1 : nth (totK ps ws V i) e = z1 at *
      generalize hz2 : nth ws e = we at *
      generalize hz3 : V e = ve at *
      clear hz1 hz2 hz3
      have s0 : IntKind.i64.wrap (ve * we) = we * ve := by rw [Int.mul_comm]; exact IntWalk.i64_in _ (by omega)
      have s1 : (0 : Int) ≤ (e : Int) := by omega
      have s2 : (e : Int) < (nW : Int) := by omega
      have s3 : (0 : Int) ≤ (i : Int) := by omega
      have s4 : (i : Int) < (nL : Int) := by omega
      go_wp2_with fail
      refine wp_region_still_tail 13 (by kernel_rfl) (by kernel_rfl) ?_
      simp only [List.take_succ_cons, List.take_zero, List.drop_succ_cons, List.drop_zero]
      still_step
      still_step
      still_step
      still_step
      still_step
      still_step
      still_step
      still_step
      still_step
      still_step
      still_step
      still_step
      still_step
      refine wpStill_nil ?_
      change wpList _ _ _ _ _ wr.drew
      go_wp2_with fail
      go_roundw
      case rel => exact ⟨i + 1, by omega, by go_num, Hset.out, G6n.out, HPn.out, hbel.drew.setCell (show w.heap.size ≤ U by omega) _⟩
      case measure => simp [intOf]; omega
    · obtain rfl : i = nL := by omega
      have HO := Lib.hid ho
      clear ho
      go_wp2_with fail
      go_ret
      exact ⟨_, rfl, HO.out.mono (by omega), hbel⟩
set_option maxRecDepth 100000 in
set_option maxHeartbeats 2000000 in
theorem impl_arePays (aP : Option Addr) (nP cP : Nat) (aW : Option Addr) (nW cW : Nat) (ps ws : List Int) (aL : Option Addr) (nL cL : Nat) (l : List Int) (w : World) (h : Tre w aP nP cP aW nW cW ps ws) (hT : Tr ps ws) (hL : Ints w aL nL l) (hn : nL ≤ 1048576) :
    Calls Try.prog 106 #[.agg #[.slice aP nP cP, .slice aW nW cW], .slice aL nL cL] w fun e w' => e = .returned (.bool ((l.length == (ends ps).length) && allIn l (-999) 999)) ∧ Below w.heap.size w w' := by
  have HTT := Lib.hid hT
  have hn24 := hT.n24
  have hn1 := hT.n1
  have HT := Lib.hid hT
  have hwl := hT.wl
  have hl := h.p.1
  have hlw := h.w.1
  have hpn := h.pn
  have hwn := h.wn
  have hb1 := below_new w (.cells #[.slice aP nP cP, .slice aW nW cW] 26)
  have hP1 := Lib.hid (Pair.new w (.slice aP nP cP) (.slice aW nW cW) 26)
  have H := Lib.hid h
  have Hl := Lib.hid hl
  have Hlw := Lib.hid hlw
  clear h hl hlw
  have hnW : nW ≤ nP ∧ nP ≤ nW := by have := Hlw.out; have := Hl.out; omega
  have hnP : 1 ≤ nP ∧ nP ≤ 24 := by have := Hl.out; omega
  clear hn24 hn1 hT hwl hpn hwn
  have HL := Lib.hid hL
  have hll := Lib.hid hL.1
  clear hL
  obtain ⟨nE, hnE⟩ : ∃ z, z = (ends ps).length := ⟨_, rfl⟩
  have HNE := Lib.hid hnE
  have hnE24 : nE ≤ 24 := by have := filt_length (endB ps) ps.length; have := Hl.out; rw [hnE, ends]; have := HTT.out.n24; omega
  rw [hll.out, ← hnE]
  go_enter Try.func106, Try.ntmps106
  have c0 := hP1.out.c0
  have c1 := hP1.out.c1
  clear hnE
  by_cases hlen : nL = nE
  · subst hlen
    have hlb : ((nL : Int) == (nL : Int)) = true := by simp
    cases hA : allIn l (-999) 999
    · have HA := Lib.hid hA
      clear hA
      go_wp2_with (first
        | (go_at_call 92; refine (impl_ends _ _ _ _ _ _ ps ws _ (H.out.below hb1) HTT.out.toPa).mono ?_; rintro e w6 ⟨v6, rfl, o6, b6⟩; obtain ⟨a6, c6, rfl⟩ := o6.shape; rw [← HNE.out])
        | (go_at_call 129; refine (impl_allWithin _ _ _ _ _ l _ (by omega) (HL.out.below (hb1.trans (b6.mono hb1.size)))).mono ?_; rintro e w' ⟨rfl, rfl⟩; rw [HA.out]))
      go_ret
      exact ⟨by simp, hb1.trans (b6.mono hb1.size)⟩
    · have HA := Lib.hid hA
      clear hA
      go_wp2_with (first
        | (go_at_call 92; refine (impl_ends _ _ _ _ _ _ ps ws _ (H.out.below hb1) HTT.out.toPa).mono ?_; rintro e w6 ⟨v6, rfl, o6, b6⟩; obtain ⟨a6, c6, rfl⟩ := o6.shape; rw [← HNE.out])
        | (go_at_call 129; refine (impl_allWithin _ _ _ _ _ l _ (by omega) (HL.out.below (hb1.trans (b6.mono hb1.size)))).mono ?_; rintro e w' ⟨rfl, rfl⟩; rw [HA.out]))
      go_ret
      exact ⟨by simp, hb1.trans (b6.mono hb1.size)⟩
  · have hlb : ((nL : Int) == (nE : Int)) = false := by rw [beq_eq_false_iff_ne]; omega
    have hlc : (nL == nE) = false := by rw [beq_eq_false_iff_ne]; exact hlen
    have Hlc := Lib.hid hlc
    clear hlc hlen
    go_wp2_with (go_at_call 92; refine (impl_ends _ _ _ _ _ _ ps ws _ (H.out.below hb1) HTT.out.toPa).mono ?_; rintro e w6 ⟨v6, rfl, o6, b6⟩; obtain ⟨a6, c6, rfl⟩ := o6.shape; rw [← HNE.out])
    go_ret
    exact ⟨by rw [Hlc.out]; rfl, hb1.trans (b6.mono hb1.size)⟩
set_option maxRecDepth 100000 in
set_option maxHeartbeats 2000000 in
theorem impl_means (aP : Option Addr) (nP cP : Nat) (aW : Option Addr) (nW cW : Nat) (ps ws : List Int) (aL : Option Addr) (nL cL : Nat) (l : List Int) (V : Nat → Int) (w : World) (h : Tre w aP nP cP aW nW cW ps ws) (hT : Tr ps ws) (hL : Ints w aL nL l) (hnL : (ends ps).length = nL) (hv : ∀ i e : Nat, i < nL → nth (ends ps) i = (e : Int) → nth l i = V e) (hV : ∀ x, -999 ≤ V x ∧ V x ≤ 999) :
    Calls Try.prog 107 #[.agg #[.slice aP nP cP, .slice aW nW cW], .slice aL nL cL] w fun e w' => ∃ v, e = .returned v ∧ Fr.Own w' w.heap.size v (meanL ps ws V) ∧ Below w.heap.size w w' := by
  have HTT := Lib.hid hT
  have hn24 := hT.n24
  have hn1 := hT.n1
  have HT := Lib.hid hT
  have hwl := hT.wl
  have hl := h.p.1
  have hlw := h.w.1
  have hpn := h.pn
  have hwn := h.wn
  have hb1 := below_new w (.cells #[.slice aP nP cP, .slice aW nW cW] 26)
  have hP1 := Lib.hid (Pair.new w (.slice aP nP cP) (.slice aW nW cW) 26)
  have H := Lib.hid h
  have Hl := Lib.hid hl
  have Hlw := Lib.hid hlw
  clear h hl hlw
  have hnW : nW ≤ nP ∧ nP ≤ nW := by have := Hlw.out; have := Hl.out; omega
  have hnP : 1 ≤ nP ∧ nP ≤ 24 := by have := Hl.out; omega
  clear hn24 hn1 hT hwl hpn hwn
  have HL0 := Lib.hid hL
  have Hv := Lib.hid hv
  have HV := Lib.hid hV
  have HV3 : Hid (∀ x, -2997 ≤ V x ∧ V x ≤ 2997) := Lib.hid fun x => by have := hV x; omega
  have HnL := Lib.hid hnL
  have hnP : 1 ≤ nP ∧ nP ≤ 24 := by have := HTT.out.n24; have := HTT.out.n1; have := Hl.out; omega
  clear hL hv hV hnL
  have Hsl : Hid ((sums ps ws).length = nP) := Lib.hid (by rw [sums_length HTT.out]; exact Hl.out)
  have Htl : Hid ((totA ps ws V).length = nP) := Lib.hid (by rw [totA_length]; exact Hl.out)
  have Hkl : Hid ((totK ps ws V nL).length = nP) := Lib.hid (by rw [totK_length]; exact Hl.out)
  have Hka : Hid (Abs2 59940 (totK ps ws V nL)) := Lib.hid (totK_abs HTT.out HV3.out nL)
  have Hta0 : Hid (gathA ps (totK ps ws V nL) = totA ps ws V) := Lib.hid (by rw [totA, HnL.out])
  go_enter Try.func107, Try.ntmps107
  have c0 := hP1.out.c0
  have c1 := hP1.out.c1
  go_upto_region 1 with fail
  generalize (w.alloc (.cells #[.slice aP nP cP, .slice aW nW cW] 26)) = w2 at *
  go_cut [5, 6, 7] (fun v5 v6 v7 wc => MeanR w2 wc nP (totA ps ws V) (sums ps ws) v5 v6 v7)
  case first =>
    refine wp_region_noPanic ?_
    refine wp_region_held_drew (S := fun W' => KeepR w2 W' ∧ W'.cell? ⟨w.heap.size, 0, none⟩ = some (.slice aP nP cP) ∧ W'.cell? ⟨w.heap.size, 1, none⟩ = some (.slice aW nW cW)) (by kernel_rfl) ?_ (fun hHeld0 => ?_)
    · (try dsimp only); first | exact keep2 (by assumption) hP1.out | exact keep2 (KeepR.start _) hP1.out | exact keep2 (KeepR.alloc0 _ _) hP1.out | exact keep2 (KeepR.alloc (by assumption : KeepR w2 _ ∧ _).1 _) hP1.out
    refine takeH (i := 1) (oi := _) (v := ?_) rfl (by kernel_rfl) (by kernel_rfl) (by kernel_rfl) (fun _ _ _ h => h) (Or.inl ⟨by rfl, ?_⟩) (by assumption) ?_
    rotate_left
    · first | (intro w hSw; (try dsimp only at hSw); go_simp; done) | (intro w hSw; (try dsimp only at hSw); go_simp; with_reducible rfl)
    (try simp only [Act.put, List.setIfInBounds_toArray, List.set_cons_zero, List.set_cons_succ])
    refine takeH (i := 2) (oi := _) (v := ?_) rfl (by kernel_rfl) (by kernel_rfl) (by kernel_rfl) (fun _ _ _ h => h) (Or.inl ⟨by rfl, ?_⟩) (by assumption) ?_
    rotate_left
    · first | (intro w hSw; (try dsimp only at hSw); go_simp; done) | (intro w hSw; (try dsimp only at hSw); go_simp; with_reducible rfl)
    (try simp only [Act.put, List.setIfInBounds_toArray, List.set_cons_zero, List.set_cons_succ])
    refine takeH (i := 3) (oi := _) (v := ?_) rfl (by kernel_rfl) (by kernel_rfl) (by kernel_rfl) (fun _ _ _ h => h) (Or.inl ⟨by rfl, ?_⟩) (by assumption) ?_
    rotate_left
    · first | (intro w hSw; (try dsimp only at hSw); go_simp; done) | (intro w hSw; (try dsimp only at hSw); go_simp; with_reducible rfl)
    (try simp only [Act.put, List.setIfInBounds_toArray, List.set_cons_zero, List.set_cons_succ])
    refine takeH (i := 6) (oi := _) (v := ?_) rfl (by kernel_rfl) (by kernel_rfl) (by kernel_rfl) (fun _ _ _ h => h) (Or.inl ⟨by rfl, ?_⟩) (by assumption) ?_
    rotate_left
    · first | (intro w hSw; (try dsimp only at hSw); go_simp; done) | (intro w hSw; (try dsimp only at hSw); go_simp; with_reducible rfl)
    (try simp only [Act.put, List.setIfInBounds_toArray, List.set_cons_zero, List.set_cons_succ])
    refine wpAnyH_ready (rs := [0, 4]) (by kernel_rfl) (by simp) ?_
    refine consM rfl (fun Kq hKq => ?_) (consH rfl (fun Kq hKq => ?_))
    · go_simp
      refine hKq.out _ _ ?_ (fun hHeld1 => ?_)
      · (try dsimp only); first | exact keep2 (by assumption) hP1.out | exact keep2 (KeepR.start _) hP1.out | exact keep2 (KeepR.alloc0 _ _) hP1.out | exact keep2 (KeepR.alloc (by assumption : KeepR w2 _ ∧ _).1 _) hP1.out
      clear hKq Kq
      (try simp only [Act.put, List.setIfInBounds_toArray, List.set_cons_zero, List.set_cons_succ])
      clear hHeld0
      refine wpAnyH_ready (rs := [4]) (by kernel_rfl) (by simp) ?_
      refine consH rfl (fun Kq hKq => ?_)
      go_simp
      (go_at_call 155; refine (impl_spread _ _ _ _ _ _ ps ws _ _ _ l V _ (H.out.below (hb1.trans (Below.mono (by assumption : KeepR w2 _ ∧ _).1 hb1.size))) HTT.out (HL0.out.below (hb1.trans (Below.mono (by assumption : KeepR w2 _ ∧ _).1 hb1.size))) HnL.out Hv.out HV3.out).mono ?_; rintro e w5 ⟨v5, rfl, o5, b5⟩; obtain ⟨a5, c5, rfl⟩ := o5.shape; rw [Hkl.out] at o5 ⊢; have hk5 := KeepR.next b5 (by assumption : KeepR w2 _ ∧ _).1; have i5 := o5.ints; have hc5 := o5.cap.2.1)
      refine hKq.out _ _ ?_ (fun hHeld2 => ?_)
      · (try dsimp only); first | exact keep2 (by assumption) hP1.out | exact keep2 (KeepR.start _) hP1.out | exact keep2 (KeepR.alloc0 _ _) hP1.out | exact keep2 (KeepR.alloc (by assumption : KeepR w2 _ ∧ _).1 _) hP1.out
      clear hKq Kq
      (try simp only [Act.put, List.setIfInBounds_toArray, List.set_cons_zero, List.set_cons_succ])
      clear hHeld1
      refine wpAnyH_ready (rs := [5]) (by kernel_rfl) (by simp) ?_
      refine consH rfl (fun Kq hKq => ?_)
      go_simp
      (go_at_call 154; refine (impl_gathered _ _ _ _ _ _ ps ws _ _ _ (totK ps ws V nL) 59940 _ (H.out.below (hb1.trans (Below.mono (by assumption : KeepR w2 _ ∧ _).1 hb1.size))) HTT.out.toPa (by first | exact i5 | exact i5.below (Below.refl _ _).drew | exact i5.below (below_new w5 _) | exact i5.below (below_new w5 _).drew) hc5 rfl (by omega) Hka.out).mono ?_; rintro e w6 ⟨v6, rfl, o6, b6⟩; rw [Hta0.out] at o6; have hk6 := KeepR.next b6 (by assumption : KeepR w2 _ ∧ _).1)
      refine hKq.out _ _ ?_ (fun hHeld3 => ?_)
      · (try dsimp only); first | exact keep2 (by assumption) hP1.out | exact keep2 (KeepR.start _) hP1.out | exact keep2 (KeepR.alloc0 _ _) hP1.out | exact keep2 (KeepR.alloc (by assumption : KeepR w2 _ ∧ _).1 _) hP1.out
      clear hKq Kq
      (try simp only [Act.put, List.setIfInBounds_toArray, List.set_cons_zero, List.set_cons_succ])
      clear hHeld2
      refine wpAnyH_ready (rs := [7]) (by kernel_rfl) (by simp) ?_
      refine consH rfl (fun Kq hKq => ?_)
      go_simp
      (go_at_call 111; refine (impl_sums _ _ _ _ _ _ ps ws _ (H.out.below (hb1.trans (Below.mono (by assumption : KeepR w2 _ ∧ _).1 hb1.size))) HTT.out).mono ?_; rintro e w7 ⟨v7, rfl, o7, b7⟩; have hk7 := KeepR.next b7 (by assumption : KeepR w2 _ ∧ _).1)
      refine hKq.out _ _ ?_ (fun hHeld4 => ?_)
      · (try dsimp only); first | exact keep2 (by assumption) hP1.out | exact keep2 (KeepR.start _) hP1.out | exact keep2 (KeepR.alloc0 _ _) hP1.out | exact keep2 (KeepR.alloc (by assumption : KeepR w2 _ ∧ _).1 _) hP1.out
      clear hKq Kq
      (try simp only [Act.put, List.setIfInBounds_toArray, List.set_cons_zero, List.set_cons_succ])
      clear hHeld3
      refine takeH (i := 8) (oi := _) (v := ?_) rfl (by kernel_rfl) (by kernel_rfl) (by kernel_rfl) (fun _ _ _ h => h) (Or.inl ⟨by rfl, ?_⟩) (by assumption) ?_
      rotate_left
      · first | (intro w hSw; (try dsimp only at hSw); go_simp; done) | (intro w hSw; (try dsimp only at hSw); go_simp; with_reducible rfl)
      (try simp only [Act.put, List.setIfInBounds_toArray, List.set_cons_zero, List.set_cons_succ])
      refine takeH (i := 9) (oi := _) (v := ?_) rfl (by kernel_rfl) (by kernel_rfl) (by kernel_rfl) (fun _ _ _ h => h) (Or.inl ⟨by rfl, ?_⟩) (by assumption) ?_
      rotate_left
      · first | (intro w hSw; (try dsimp only at hSw); go_simp; done) | (intro w hSw; (try dsimp only at hSw); go_simp; with_reducible rfl)
      (try simp only [Act.put, List.setIfInBounds_toArray, List.set_cons_zero, List.set_cons_succ])
      refine takeH (i := 10) (oi := _) (v := ?_) rfl (by kernel_rfl) (by kernel_rfl) (by kernel_rfl) (fun _ _ _ h => h) (Or.inl ⟨by rfl, ?_⟩) (by assumption) ?_
      rotate_left
      · first | (intro w hSw; (try dsimp only at hSw); go_simp; done) | (intro w hSw; (try dsimp only at hSw); go_simp; with_reducible rfl)
      (try simp only [Act.put, List.setIfInBounds_toArray, List.set_cons_zero, List.set_cons_succ])
      refine wpAnyH_done (by kernel_rfl) ?_ _
      refine NoPanic.normal ?_
      go_wp2_with fail
      go_meet
      first
        | exact mean_mk hk7 Htl.out Hsl.out (((((Fr.own_nil0 w2).below (Below.refl _ _).drew).below b5).below b6).below b7) (Nat.le_refl _) (o6.below b7) o7 (fun q hq => by have h1 := (World.ownsRow.lt o6 q hq).1; have h2 := (World.ownsRow.lt o6 q hq).2; have h3 := b5.size; have h4 := b6.size; have h5 := b7.size; (try simp at h1 h2 h3 h4 h5); omega) (fun q hq => by have h1 := (World.ownsRow.lt o7 q hq).1; have h2 := (World.ownsRow.lt o7 q hq).2; have h3 := b5.size; have h4 := b6.size; have h5 := b7.size; (try simp at h1 h2 h3 h4 h5); omega)
        | exact mean_mk hk7 Htl.out Hsl.out (((Fr.own_nil0 w5).below b6).below b7) (Below.size hk5) (o6.below b7) o7 (fun q hq => by have h1 := (World.ownsRow.lt o6 q hq).1; have h2 := (World.ownsRow.lt o6 q hq).2; have h3 := b5.size; have h4 := b6.size; have h5 := b7.size; (try simp at h1 h2 h3 h4 h5); omega) (fun q hq => by have h1 := (World.ownsRow.lt o7 q hq).1; have h2 := (World.ownsRow.lt o7 q hq).2; have h3 := b5.size; have h4 := b6.size; have h5 := b7.size; (try simp at h1 h2 h3 h4 h5); omega)
        | exact mean_mk hk7 Htl.out Hsl.out ((Fr.own_nil0 w6).below b7) (Below.size hk6) ((o6.below (below_new w6 _)).below b7) o7 (fun q hq => by have h1 := (World.ownsRow.lt o6 q hq).1; have h2 := (World.ownsRow.lt o6 q hq).2; have h3 := b5.size; have h4 := b6.size; have h5 := b7.size; (try simp at h1 h2 h3 h4 h5); omega) (fun q hq => by have h1 := (World.ownsRow.lt o7 q hq).1; have h2 := (World.ownsRow.lt o7 q hq).2; have h3 := b5.size; have h4 := b6.size; have h5 := b7.size; (try simp at h1 h2 h3 h4 h5); omega)
        | exact mean_mk (KeepR.alloc hk7 _) Htl.out Hsl.out (Fr.own_nil0 w7) (Below.size hk7) ((o6.below b7).below (below_new w7 _)) (o7.below (below_new w7 _)) (fun q hq => by have h1 := (World.ownsRow.lt (o6.below b7) q hq).2; omega) (fun q hq => by have h1 := (World.ownsRow.lt o7 q hq).2; omega)
    · go_simp
      (go_at_call 155; refine (impl_spread _ _ _ _ _ _ ps ws _ _ _ l V _ (H.out.below (hb1.trans (Below.mono (by assumption : KeepR w2 _ ∧ _).1 hb1.size))) HTT.out (HL0.out.below (hb1.trans (Below.mono (by assumption : KeepR w2 _ ∧ _).1 hb1.size))) HnL.out Hv.out HV3.out).mono ?_; rintro e w5 ⟨v5, rfl, o5, b5⟩; obtain ⟨a5, c5, rfl⟩ := o5.shape; rw [Hkl.out] at o5 ⊢; have hk5 := KeepR.next b5 (by assumption : KeepR w2 _ ∧ _).1; have i5 := o5.ints; have hc5 := o5.cap.2.1)
      refine hKq.out _ _ ?_ (fun hHeld1 => ?_)
      · (try dsimp only); first | exact keep2 (by assumption) hP1.out | exact keep2 (KeepR.start _) hP1.out | exact keep2 (KeepR.alloc0 _ _) hP1.out | exact keep2 (KeepR.alloc (by assumption : KeepR w2 _ ∧ _).1 _) hP1.out
      clear hKq Kq
      (try simp only [Act.put, List.setIfInBounds_toArray, List.set_cons_zero, List.set_cons_succ])
      clear hHeld0
      refine wpAnyH_ready (rs := [0, 5]) (by kernel_rfl) (by simp) ?_
      refine consM rfl (fun Kq hKq => ?_) (consH rfl (fun Kq hKq => ?_))
      · go_simp
        refine hKq.out _ _ ?_ (fun hHeld2 => ?_)
        · (try dsimp only); first | exact keep2 (by assumption) hP1.out | exact keep2 (KeepR.start _) hP1.out | exact keep2 (KeepR.alloc0 _ _) hP1.out | exact keep2 (KeepR.alloc (by assumption : KeepR w2 _ ∧ _).1 _) hP1.out
        clear hKq Kq
        (try simp only [Act.put, List.setIfInBounds_toArray, List.set_cons_zero, List.set_cons_succ])
        clear hHeld1
        refine wpAnyH_ready (rs := [5]) (by kernel_rfl) (by simp) ?_
        refine consH rfl (fun Kq hKq => ?_)
        go_simp
        (go_at_call 154; refine (impl_gathered _ _ _ _ _ _ ps ws _ _ _ (totK ps ws V nL) 59940 _ (H.out.below (hb1.trans (Below.mono (by assumption : KeepR w2 _ ∧ _).1 hb1.size))) HTT.out.toPa (by first | exact i5 | exact i5.below (Below.refl _ _).drew | exact i5.below (below_new w5 _) | exact i5.below (below_new w5 _).drew) hc5 rfl (by omega) Hka.out).mono ?_; rintro e w6 ⟨v6, rfl, o6, b6⟩; rw [Hta0.out] at o6; have hk6 := KeepR.next b6 (by assumption : KeepR w2 _ ∧ _).1)
        refine hKq.out _ _ ?_ (fun hHeld3 => ?_)
        · (try dsimp only); first | exact keep2 (by assumption) hP1.out | exact keep2 (KeepR.start _) hP1.out | exact keep2 (KeepR.alloc0 _ _) hP1.out | exact keep2 (KeepR.alloc (by assumption : KeepR w2 _ ∧ _).1 _) hP1.out
        clear hKq Kq
        (try simp only [Act.put, List.setIfInBounds_toArray, List.set_cons_zero, List.set_cons_succ])
        clear hHeld2
        refine wpAnyH_ready (rs := [7]) (by kernel_rfl) (by simp) ?_
        refine consH rfl (fun Kq hKq => ?_)
        go_simp
        (go_at_call 111; refine (impl_sums _ _ _ _ _ _ ps ws _ (H.out.below (hb1.trans (Below.mono (by assumption : KeepR w2 _ ∧ _).1 hb1.size))) HTT.out).mono ?_; rintro e w7 ⟨v7, rfl, o7, b7⟩; have hk7 := KeepR.next b7 (by assumption : KeepR w2 _ ∧ _).1)
        refine hKq.out _ _ ?_ (fun hHeld4 => ?_)
        · (try dsimp only); first | exact keep2 (by assumption) hP1.out | exact keep2 (KeepR.start _) hP1.out | exact keep2 (KeepR.alloc0 _ _) hP1.out | exact keep2 (KeepR.alloc (by assumption : KeepR w2 _ ∧ _).1 _) hP1.out
        clear hKq Kq
        (try simp only [Act.put, List.setIfInBounds_toArray, List.set_cons_zero, List.set_cons_succ])
        clear hHeld3
        refine takeH (i := 8) (oi := _) (v := ?_) rfl (by kernel_rfl) (by kernel_rfl) (by kernel_rfl) (fun _ _ _ h => h) (Or.inl ⟨by rfl, ?_⟩) (by assumption) ?_
        rotate_left
        · first | (intro w hSw; (try dsimp only at hSw); go_simp; done) | (intro w hSw; (try dsimp only at hSw); go_simp; with_reducible rfl)
        (try simp only [Act.put, List.setIfInBounds_toArray, List.set_cons_zero, List.set_cons_succ])
        refine takeH (i := 9) (oi := _) (v := ?_) rfl (by kernel_rfl) (by kernel_rfl) (by kernel_rfl) (fun _ _ _ h => h) (Or.inl ⟨by rfl, ?_⟩) (by assumption) ?_
        rotate_left
        · first | (intro w hSw; (try dsimp only at hSw); go_simp; done) | (intro w hSw; (try dsimp only at hSw); go_simp; with_reducible rfl)
        (try simp only [Act.put, List.setIfInBounds_toArray, List.set_cons_zero, List.set_cons_succ])
        refine takeH (i := 10) (oi := _) (v := ?_) rfl (by kernel_rfl) (by kernel_rfl) (by kernel_rfl) (fun _ _ _ h => h) (Or.inl ⟨by rfl, ?_⟩) (by assumption) ?_
        rotate_left
        · first | (intro w hSw; (try dsimp only at hSw); go_simp; done) | (intro w hSw; (try dsimp only at hSw); go_simp; with_reducible rfl)
        (try simp only [Act.put, List.setIfInBounds_toArray, List.set_cons_zero, List.set_cons_succ])
        refine wpAnyH_done (by kernel_rfl) ?_ _
        refine NoPanic.normal ?_
        go_wp2_with fail
        go_meet
        first
          | exact mean_mk hk7 Htl.out Hsl.out (((((Fr.own_nil0 w2).below (Below.refl _ _).drew).below b5).below b6).below b7) (Nat.le_refl _) (o6.below b7) o7 (fun q hq => by have h1 := (World.ownsRow.lt o6 q hq).1; have h2 := (World.ownsRow.lt o6 q hq).2; have h3 := b5.size; have h4 := b6.size; have h5 := b7.size; (try simp at h1 h2 h3 h4 h5); omega) (fun q hq => by have h1 := (World.ownsRow.lt o7 q hq).1; have h2 := (World.ownsRow.lt o7 q hq).2; have h3 := b5.size; have h4 := b6.size; have h5 := b7.size; (try simp at h1 h2 h3 h4 h5); omega)
          | exact mean_mk hk7 Htl.out Hsl.out (((Fr.own_nil0 w5).below b6).below b7) (Below.size hk5) (o6.below b7) o7 (fun q hq => by have h1 := (World.ownsRow.lt o6 q hq).1; have h2 := (World.ownsRow.lt o6 q hq).2; have h3 := b5.size; have h4 := b6.size; have h5 := b7.size; (try simp at h1 h2 h3 h4 h5); omega) (fun q hq => by have h1 := (World.ownsRow.lt o7 q hq).1; have h2 := (World.ownsRow.lt o7 q hq).2; have h3 := b5.size; have h4 := b6.size; have h5 := b7.size; (try simp at h1 h2 h3 h4 h5); omega)
          | exact mean_mk hk7 Htl.out Hsl.out ((Fr.own_nil0 w6).below b7) (Below.size hk6) ((o6.below (below_new w6 _)).below b7) o7 (fun q hq => by have h1 := (World.ownsRow.lt o6 q hq).1; have h2 := (World.ownsRow.lt o6 q hq).2; have h3 := b5.size; have h4 := b6.size; have h5 := b7.size; (try simp at h1 h2 h3 h4 h5); omega) (fun q hq => by have h1 := (World.ownsRow.lt o7 q hq).1; have h2 := (World.ownsRow.lt o7 q hq).2; have h3 := b5.size; have h4 := b6.size; have h5 := b7.size; (try simp at h1 h2 h3 h4 h5); omega)
          | exact mean_mk (KeepR.alloc hk7 _) Htl.out Hsl.out (Fr.own_nil0 w7) (Below.size hk7) ((o6.below b7).below (below_new w7 _)) (o7.below (below_new w7 _)) (fun q hq => by have h1 := (World.ownsRow.lt (o6.below b7) q hq).2; omega) (fun q hq => by have h1 := (World.ownsRow.lt o7 q hq).2; omega)
      · go_simp
        (go_at_call 154; refine (impl_gathered _ _ _ _ _ _ ps ws _ _ _ (totK ps ws V nL) 59940 _ (H.out.below (hb1.trans (Below.mono (by assumption : KeepR w2 _ ∧ _).1 hb1.size))) HTT.out.toPa (by first | exact i5 | exact i5.below (Below.refl _ _).drew | exact i5.below (below_new w5 _) | exact i5.below (below_new w5 _).drew) hc5 rfl (by omega) Hka.out).mono ?_; rintro e w6 ⟨v6, rfl, o6, b6⟩; rw [Hta0.out] at o6; have hk6 := KeepR.next b6 (by assumption : KeepR w2 _ ∧ _).1)
        refine hKq.out _ _ ?_ (fun hHeld2 => ?_)
        · (try dsimp only); first | exact keep2 (by assumption) hP1.out | exact keep2 (KeepR.start _) hP1.out | exact keep2 (KeepR.alloc0 _ _) hP1.out | exact keep2 (KeepR.alloc (by assumption : KeepR w2 _ ∧ _).1 _) hP1.out
        clear hKq Kq
        (try simp only [Act.put, List.setIfInBounds_toArray, List.set_cons_zero, List.set_cons_succ])
        clear hHeld1
        refine wpAnyH_ready (rs := [0, 7]) (by kernel_rfl) (by simp) ?_
        refine consM rfl (fun Kq hKq => ?_) (consH rfl (fun Kq hKq => ?_))
        · go_simp
          refine hKq.out _ _ ?_ (fun hHeld3 => ?_)
          · (try dsimp only); first | exact keep2 (by assumption) hP1.out | exact keep2 (KeepR.start _) hP1.out | exact keep2 (KeepR.alloc0 _ _) hP1.out | exact keep2 (KeepR.alloc (by assumption : KeepR w2 _ ∧ _).1 _) hP1.out
          clear hKq Kq
          (try simp only [Act.put, List.setIfInBounds_toArray, List.set_cons_zero, List.set_cons_succ])
          clear hHeld2
          refine wpAnyH_ready (rs := [7]) (by kernel_rfl) (by simp) ?_
          refine consH rfl (fun Kq hKq => ?_)
          go_simp
          (go_at_call 111; refine (impl_sums _ _ _ _ _ _ ps ws _ (H.out.below (hb1.trans (Below.mono (by assumption : KeepR w2 _ ∧ _).1 hb1.size))) HTT.out).mono ?_; rintro e w7 ⟨v7, rfl, o7, b7⟩; have hk7 := KeepR.next b7 (by assumption : KeepR w2 _ ∧ _).1)
          refine hKq.out _ _ ?_ (fun hHeld4 => ?_)
          · (try dsimp only); first | exact keep2 (by assumption) hP1.out | exact keep2 (KeepR.start _) hP1.out | exact keep2 (KeepR.alloc0 _ _) hP1.out | exact keep2 (KeepR.alloc (by assumption : KeepR w2 _ ∧ _).1 _) hP1.out
          clear hKq Kq
          (try simp only [Act.put, List.setIfInBounds_toArray, List.set_cons_zero, List.set_cons_succ])
          clear hHeld3
          refine takeH (i := 8) (oi := _) (v := ?_) rfl (by kernel_rfl) (by kernel_rfl) (by kernel_rfl) (fun _ _ _ h => h) (Or.inl ⟨by rfl, ?_⟩) (by assumption) ?_
          rotate_left
          · first | (intro w hSw; (try dsimp only at hSw); go_simp; done) | (intro w hSw; (try dsimp only at hSw); go_simp; with_reducible rfl)
          (try simp only [Act.put, List.setIfInBounds_toArray, List.set_cons_zero, List.set_cons_succ])
          refine takeH (i := 9) (oi := _) (v := ?_) rfl (by kernel_rfl) (by kernel_rfl) (by kernel_rfl) (fun _ _ _ h => h) (Or.inl ⟨by rfl, ?_⟩) (by assumption) ?_
          rotate_left
          · first | (intro w hSw; (try dsimp only at hSw); go_simp; done) | (intro w hSw; (try dsimp only at hSw); go_simp; with_reducible rfl)
          (try simp only [Act.put, List.setIfInBounds_toArray, List.set_cons_zero, List.set_cons_succ])
          refine takeH (i := 10) (oi := _) (v := ?_) rfl (by kernel_rfl) (by kernel_rfl) (by kernel_rfl) (fun _ _ _ h => h) (Or.inl ⟨by rfl, ?_⟩) (by assumption) ?_
          rotate_left
          · first | (intro w hSw; (try dsimp only at hSw); go_simp; done) | (intro w hSw; (try dsimp only at hSw); go_simp; with_reducible rfl)
          (try simp only [Act.put, List.setIfInBounds_toArray, List.set_cons_zero, List.set_cons_succ])
          refine wpAnyH_done (by kernel_rfl) ?_ _
          refine NoPanic.normal ?_
          go_wp2_with fail
          go_meet
          first
            | exact mean_mk hk7 Htl.out Hsl.out (((((Fr.own_nil0 w2).below (Below.refl _ _).drew).below b5).below b6).below b7) (Nat.le_refl _) (o6.below b7) o7 (fun q hq => by have h1 := (World.ownsRow.lt o6 q hq).1; have h2 := (World.ownsRow.lt o6 q hq).2; have h3 := b5.size; have h4 := b6.size; have h5 := b7.size; (try simp at h1 h2 h3 h4 h5); omega) (fun q hq => by have h1 := (World.ownsRow.lt o7 q hq).1; have h2 := (World.ownsRow.lt o7 q hq).2; have h3 := b5.size; have h4 := b6.size; have h5 := b7.size; (try simp at h1 h2 h3 h4 h5); omega)
            | exact mean_mk hk7 Htl.out Hsl.out (((Fr.own_nil0 w5).below b6).below b7) (Below.size hk5) (o6.below b7) o7 (fun q hq => by have h1 := (World.ownsRow.lt o6 q hq).1; have h2 := (World.ownsRow.lt o6 q hq).2; have h3 := b5.size; have h4 := b6.size; have h5 := b7.size; (try simp at h1 h2 h3 h4 h5); omega) (fun q hq => by have h1 := (World.ownsRow.lt o7 q hq).1; have h2 := (World.ownsRow.lt o7 q hq).2; have h3 := b5.size; have h4 := b6.size; have h5 := b7.size; (try simp at h1 h2 h3 h4 h5); omega)
            | exact mean_mk hk7 Htl.out Hsl.out ((Fr.own_nil0 w6).below b7) (Below.size hk6) ((o6.below (below_new w6 _)).below b7) o7 (fun q hq => by have h1 := (World.ownsRow.lt o6 q hq).1; have h2 := (World.ownsRow.lt o6 q hq).2; have h3 := b5.size; have h4 := b6.size; have h5 := b7.size; (try simp at h1 h2 h3 h4 h5); omega) (fun q hq => by have h1 := (World.ownsRow.lt o7 q hq).1; have h2 := (World.ownsRow.lt o7 q hq).2; have h3 := b5.size; have h4 := b6.size; have h5 := b7.size; (try simp at h1 h2 h3 h4 h5); omega)
            | exact mean_mk (KeepR.alloc hk7 _) Htl.out Hsl.out (Fr.own_nil0 w7) (Below.size hk7) ((o6.below b7).below (below_new w7 _)) (o7.below (below_new w7 _)) (fun q hq => by have h1 := (World.ownsRow.lt (o6.below b7) q hq).2; omega) (fun q hq => by have h1 := (World.ownsRow.lt o7 q hq).2; omega)
        · go_simp
          (go_at_call 111; refine (impl_sums _ _ _ _ _ _ ps ws _ (H.out.below (hb1.trans (Below.mono (by assumption : KeepR w2 _ ∧ _).1 hb1.size))) HTT.out).mono ?_; rintro e w7 ⟨v7, rfl, o7, b7⟩; have hk7 := KeepR.next b7 (by assumption : KeepR w2 _ ∧ _).1)
          refine hKq.out _ _ ?_ (fun hHeld3 => ?_)
          · (try dsimp only); first | exact keep2 (by assumption) hP1.out | exact keep2 (KeepR.start _) hP1.out | exact keep2 (KeepR.alloc0 _ _) hP1.out | exact keep2 (KeepR.alloc (by assumption : KeepR w2 _ ∧ _).1 _) hP1.out
          clear hKq Kq
          (try simp only [Act.put, List.setIfInBounds_toArray, List.set_cons_zero, List.set_cons_succ])
          clear hHeld2
          refine wpAnyH_ready (rs := [0]) (by kernel_rfl) (by simp) ?_
          refine consH rfl (fun Kq hKq => ?_)
          go_simp
          refine hKq.out _ _ ?_ (fun hHeld4 => ?_)
          · (try dsimp only); first | exact keep2 (by assumption) hP1.out | exact keep2 (KeepR.start _) hP1.out | exact keep2 (KeepR.alloc0 _ _) hP1.out | exact keep2 (KeepR.alloc (by assumption : KeepR w2 _ ∧ _).1 _) hP1.out
          clear hKq Kq
          (try simp only [Act.put, List.setIfInBounds_toArray, List.set_cons_zero, List.set_cons_succ])
          clear hHeld3
          refine takeH (i := 8) (oi := _) (v := ?_) rfl (by kernel_rfl) (by kernel_rfl) (by kernel_rfl) (fun _ _ _ h => h) (Or.inl ⟨by rfl, ?_⟩) (by assumption) ?_
          rotate_left
          · first | (intro w hSw; (try dsimp only at hSw); go_simp; done) | (intro w hSw; (try dsimp only at hSw); go_simp; with_reducible rfl)
          (try simp only [Act.put, List.setIfInBounds_toArray, List.set_cons_zero, List.set_cons_succ])
          refine takeH (i := 9) (oi := _) (v := ?_) rfl (by kernel_rfl) (by kernel_rfl) (by kernel_rfl) (fun _ _ _ h => h) (Or.inl ⟨by rfl, ?_⟩) (by assumption) ?_
          rotate_left
          · first | (intro w hSw; (try dsimp only at hSw); go_simp; done) | (intro w hSw; (try dsimp only at hSw); go_simp; with_reducible rfl)
          (try simp only [Act.put, List.setIfInBounds_toArray, List.set_cons_zero, List.set_cons_succ])
          refine takeH (i := 10) (oi := _) (v := ?_) rfl (by kernel_rfl) (by kernel_rfl) (by kernel_rfl) (fun _ _ _ h => h) (Or.inl ⟨by rfl, ?_⟩) (by assumption) ?_
          rotate_left
          · first | (intro w hSw; (try dsimp only at hSw); go_simp; done) | (intro w hSw; (try dsimp only at hSw); go_simp; with_reducible rfl)
          (try simp only [Act.put, List.setIfInBounds_toArray, List.set_cons_zero, List.set_cons_succ])
          refine wpAnyH_done (by kernel_rfl) ?_ _
          refine NoPanic.normal ?_
          go_wp2_with fail
          go_meet
          first
            | exact mean_mk hk7 Htl.out Hsl.out (((((Fr.own_nil0 w2).below (Below.refl _ _).drew).below b5).below b6).below b7) (Nat.le_refl _) (o6.below b7) o7 (fun q hq => by have h1 := (World.ownsRow.lt o6 q hq).1; have h2 := (World.ownsRow.lt o6 q hq).2; have h3 := b5.size; have h4 := b6.size; have h5 := b7.size; (try simp at h1 h2 h3 h4 h5); omega) (fun q hq => by have h1 := (World.ownsRow.lt o7 q hq).1; have h2 := (World.ownsRow.lt o7 q hq).2; have h3 := b5.size; have h4 := b6.size; have h5 := b7.size; (try simp at h1 h2 h3 h4 h5); omega)
            | exact mean_mk hk7 Htl.out Hsl.out (((Fr.own_nil0 w5).below b6).below b7) (Below.size hk5) (o6.below b7) o7 (fun q hq => by have h1 := (World.ownsRow.lt o6 q hq).1; have h2 := (World.ownsRow.lt o6 q hq).2; have h3 := b5.size; have h4 := b6.size; have h5 := b7.size; (try simp at h1 h2 h3 h4 h5); omega) (fun q hq => by have h1 := (World.ownsRow.lt o7 q hq).1; have h2 := (World.ownsRow.lt o7 q hq).2; have h3 := b5.size; have h4 := b6.size; have h5 := b7.size; (try simp at h1 h2 h3 h4 h5); omega)
            | exact mean_mk hk7 Htl.out Hsl.out ((Fr.own_nil0 w6).below b7) (Below.size hk6) ((o6.below (below_new w6 _)).below b7) o7 (fun q hq => by have h1 := (World.ownsRow.lt o6 q hq).1; have h2 := (World.ownsRow.lt o6 q hq).2; have h3 := b5.size; have h4 := b6.size; have h5 := b7.size; (try simp at h1 h2 h3 h4 h5); omega) (fun q hq => by have h1 := (World.ownsRow.lt o7 q hq).1; have h2 := (World.ownsRow.lt o7 q hq).2; have h3 := b5.size; have h4 := b6.size; have h5 := b7.size; (try simp at h1 h2 h3 h4 h5); omega)
            | exact mean_mk (KeepR.alloc hk7 _) Htl.out Hsl.out (Fr.own_nil0 w7) (Below.size hk7) ((o6.below b7).below (below_new w7 _)) (o7.below (below_new w7 _)) (fun q hq => by have h1 := (World.ownsRow.lt (o6.below b7) q hq).2; omega) (fun q hq => by have h1 := (World.ownsRow.lt o7 q hq).2; omega)
  case rest =>
    obtain ⟨hk5, g5, a6, c6, a7, c7, rfl, rfl, rfl, o5, i6, i7, p6, p7⟩ := hcut
    have hk5b : Below w2.heap.size w2 wc := hk5
    have hb15 := hb1.trans (hk5b.mono hb1.size)
    have HO := Lib.hid o5
    have G6 := Lib.hid i6
    have G7 := Lib.hid i7
    have P6 := Lib.hid p6
    have P7 := Lib.hid p7
    have HP5 := Lib.hid (hP1.out.below hk5b)
    have hw2 : w.heap.size < w2.heap.size := hP1.out.lt
    have hw2c : w2.heap.size ≤ wc.heap.size := hk5b.size
    have Hta : Hid (∀ x, x < nP → -479520 ≤ nth (totA ps ws V) x ∧ nth (totA ps ws V) x ≤ 479520) := Lib.hid fun x hx => tot_bd999 HTT.out (by omega) HV.out (by have := Hl.out; omega)
    clear hk5 hk5b o5 i6 i7 p6 p7 hP1 hb1 c0 c1
    generalize hU : w2.heap.size = U at *
    clear hU
    go_wp2_with fail
    go_loopw [5, 22] (fun v5 v22 wr => ∃ x : Nat, x ≤ nP ∧ v22 = .int .i64 (x : Int) ∧ Fr.Own wr U v5 ((meanL ps ws V).take x) ∧ Ints wr a6 nP (totA ps ws V) ∧ Ints wr a7 nP (sums ps ws) ∧ Apart a6 v5 ∧ Apart a7 v5 ∧ Below w.heap.size w wr ∧ U ≤ wr.heap.size) (fun _ v22 _ => nP - (intOf v22).toNat)
    case atStart => exact ⟨0, Nat.zero_le _, rfl, by rw [List.take_zero]; exact HO.out, G6.out, G7.out, P6.out, P7.out, hb15, hw2c⟩
    case round =>
      clear hb15 HO G6 G7 P6 P7 HP5 hw2c
      obtain ⟨x, hx, rfl, hou, h6, h7, p6, p7, hbel, hsz⟩ := hrel
      have G6 := Lib.hid h6
      have G7 := Lib.hid h7
      have P6 := Lib.hid p6
      have P7 := Lib.hid p7
      clear h6 h7 p6 p7
      by_cases hlt : (x : Int) < nP
      · obtain ⟨b6, o6, rfl, hc6⟩ := G6.out.at (i := x) (Below.refl _ _) (by omega)
        obtain ⟨b7, o7, rfl, hc7⟩ := G7.out.at (i := x) (Below.refl _ _) (by omega)
        have Hml := Lib.hid (meanL_take ps ws V (x := x) (by have := Hl.out; omega))
        have hol : ((meanL ps ws V).take x).length ≤ 24 := by rw [List.length_take]; omega
        have hs1 := sums_pos HTT.out x (by have := Hl.out; omega)
        have hs2 := (sums_bd HTT.out x).2
        have htx := Hta.out x (by omega)
        have HcL : Hid (∀ W : World, Calls Try.prog 97 #[.int .i64 (nth (totA ps ws V) x), .int .i64 (nth (sums ps ws) x)] W fun e w' => e = .returned (.tuple #[.agg #[.int .i64 (nm (nth (totA ps ws V) x) (nth (sums ps ws) x)), .int .i64 (dn (nth (totA ps ws V) x) (nth (sums ps ws) x))], .bool true]) ∧ Below W.heap.size W w') := Lib.hid fun W => impl_lowest_s _ _ W (by omega) (by omega)
        clear hs1 hs2 htx
        generalize nm (nth (totA ps ws V) x) (nth (sums ps ws) x) = gn at *
        generalize dn (nth (totA ps ws V) x) (nth (sums ps ws) x) = gd at *
        generalize nth (totA ps ws V) x = tx at *
        generalize nth (sums ps ws) x = sx at *
        generalize (meanL ps ws V).take x = acc at *
        have k2 : (0 : Int) ≤ (x : Int) := by omega
        have HO := Lib.hid hou
        clear hou
        go_upto_region 6 with (go_at_call 97; refine (HcL.out _).mono ?_; rintro e w7 ⟨rfl, b7⟩
                               have q := Pair.new w7 (.int .i64 0) (.int .i64 0) 48
                               have q0 := q.c0
                               have q1 := q.c1
                               have q2 := q.f0
                               have q3 := q.f1)
        have hb17 := hbel.trans (b7.mono hbel.size)
        have hnew := below_new w7 (.cells #[.int .i64 gn, .int .i64 gd] 48)
        have HF := Lib.hid (Pair.new w7 (.int .i64 gn) (.int .i64 gd) 48)
        have G8 := Lib.hid ((G6.out.below b7).below hnew)
        have G9 := Lib.hid ((G7.out.below b7).below hnew)
        have HO8 := Lib.hid ((HO.out.below b7).below hnew)
        have hb18 := hb17.trans (hnew.mono hb17.size)
        have hs8 : U ≤ (w7.alloc (.cells #[.int .i64 gn, .int .i64 gd] 48)).heap.size := by have := b7.size; have := hnew.size; omega
        clear q q0 q1 q2 q3 hb17 b7 hnew G6 G7 HO hc6 hc7
        generalize w7.alloc (.cells #[.int .i64 gn, .int .i64 gd] 48) = w8 at *
        have z0 := HF.out.c0
        have z1 := HF.out.c1
        go_wp2_with (at_builtin; refine Fr.wp_push2 _ _ rfl rfl U _ _ rfl HO8.out rfl (by omega) hs8 ?_; intro v' w' ho hb hm)
        have h6' := G8.out.moved hm (fun _ => P6.out)
        have h7' := G9.out.moved hm (fun _ => P7.out)
        go_roundw
        case rel => exact ⟨x + 1, by omega, by go_num, by rw [Hml.out]; exact ho, h6'.1, h7'.1, h6'.2 (by omega), h7'.2 (by omega), hb18.trans (hb.mono (by omega)), Nat.le_trans hs8 hb.size⟩
        case measure => simp [intOf]; omega
      · obtain rfl : x = nP := by omega
        have hfin : (meanL ps ws V).take x = meanL ps ws V := List.take_of_length_le (by rw [meanL_length]; have := Hl.out; omega)
        rw [hfin] at hou
        go_wp2_with fail
        go_ret
        exact ⟨_, rfl, hou.mono (by omega), hbel⟩
end Go.Proofs.Ytnbomleieianoaa

/- Contracts: means of pays and the process that they are, of the program and of the reference. -/
namespace Go.Proofs.Ytnbomleieianoaa
open Go.RowKit

namespace Fr
theorem Ints.moved {w w' : World} {a : Option Addr} {n : Nat} {xs : List (Int × Int)} {v v' : Value} (h : Ints w a n xs) (hm : Moved w v w' v') (ha : 0 < n → Apart a v) : Ints w' a n xs ∧ (0 < n → Apart a v') := by
  refine ⟨⟨h.1, fun hn => ?_⟩, fun hn p hp => ?_⟩
  · obtain ⟨b, off, rfl, hb, hc⟩ := h.2 hn
    have hk := hm.2 b hb (ha hn _ rfl)
    exact ⟨b, off, rfl, Nat.lt_of_lt_of_le hb hm.1, fun j hj => ⟨(World.cell?_of_block (a := ⟨b, off + j * 2, none⟩) hk.2).trans (hc j hj).1, (World.cell?_of_block (a := ⟨b, off + j * 2 + 1, none⟩) hk.2).trans (hc j hj).2⟩⟩
  · obtain ⟨b, off, rfl, hb, _⟩ := h.2 hn
    cases hp
    exact (hm.2 b hb (ha hn _ rfl)).1
end Fr
set_option maxRecDepth 100000 in
set_option maxHeartbeats 1000000 in
theorem impl_FairProcess (aP : Option Addr) (nP cP : Nat) (aW : Option Addr) (nW cW : Nat) (ps ws : List Int) (aL : Option Addr) (nL cL : Nat) (l : List Int) (w : World) (h : Tre w aP nP cP aW nW cW ps ws) (hL : Ints w aL nL l) (_hLc : aL = none → cL = 0) (hn : nL ≤ 1048576) :
    Calls Try.prog 36 #[.agg #[.slice aP nP cP, .slice aW nW cW], .slice aL nL cL] w fun e w' => ∃ v, e = .returned (.tuple #[v, .bool (fpB ps ws l)]) ∧ Own w' w.heap.size v (fpV ps ws l) ∧ Below w.heap.size w w' := by
  have hl := h.p.1
  have hlw := h.w.1
  have hpn := h.pn
  have hwn := h.wn
  have hb1 := below_new w (.cells #[.slice aP nP cP, .slice aW nW cW] 26)
  have hP1 := Lib.hid (Pair.new w (.slice aP nP cP) (.slice aW nW cW) 26)
  have H := Lib.hid h
  have Hl := Lib.hid hl
  have Hlw := Lib.hid hlw
  clear h hl hlw
  have HL := Lib.hid hL
  have hll := Lib.hid hL.1
  clear hL
  have hlt2 := hP1.out.lt
  go_enter Try.func36, Try.ntmps36
  have c0 := hP1.out.c0
  have c1 := hP1.out.c1
  go_wp2_with fail
  generalize (w.alloc (.cells #[.slice aP nP cP, .slice aW nW cW] 26)) = w2 at *
  refine (impl_IsTree _ _ _ _ _ _ ps ws _ (H.out.below hb1)).mono ?_
  rintro e w3 ⟨rfl, hb3⟩
  have hP3 := hP1.out.below hb3
  have d0 := hP3.c0
  have d1 := hP3.c1
  have HP3 := Lib.hid hP3
  have hb13 := hb1.trans (hb3.mono hb1.size)
  clear hP3 c0 c1 hb3
  cases hT : treeB ps ws
  · have Hv := Lib.hid (ep_no1 (l := l) hT)
    clear hT
    go_wp2_with fail
    go_ret2
    exact ⟨_, by rw [fp_no1 Hv.out]; rfl, by rw [fpV_no (fp_no1 Hv.out)]; exact Own.nil _ _, hb13⟩
  have HT := Lib.hid hT
  have HTr := Lib.hid (treeB_t hT)
  clear hT
  go_wp2_with fail
  refine (impl_arePays _ _ _ _ _ _ ps ws _ _ _ l _ (H.out.below hb13) HTr.out (HL.out.below hb13) hn).mono ?_
  rintro e w4 ⟨rfl, hb4⟩
  have hb14 := hb13.trans (hb4.mono hb13.size)
  have hP4 := HP3.out.below hb4
  have e0 := hP4.c0
  have e1 := hP4.c1
  have HP4 := Lib.hid hP4
  clear d0 d1 hP4 hb4
  obtain ⟨eb, heb⟩ : ∃ z, z = ((l.length == (ends ps).length) && allIn l (-999) 999) := ⟨_, rfl⟩
  rw [← heb]
  have Heb : Hid (epB ps ws l = eb) := Lib.hid (by rw [epB, HT.out, heb]; rfl)
  clear heb
  cases eb
  · have Hv := Heb
    clear Heb
    go_wp2_with fail
    go_ret2
    exact ⟨_, by rw [fp_no1 Hv.out]; rfl, by rw [fpV_no (fp_no1 Hv.out)]; exact Own.nil _ _, hb14⟩
  have hpt := epB_t Heb.out
  have hnE : (ends ps).length = nL := by have := hll.out; omega
  have HnE := Lib.hid hnE
  have HV := Lib.hid hpt.2.2.2.2
  have hn24 := HTr.out.n24
  have hn1 := HTr.out.n1
  have hnP : 1 ≤ nP ∧ nP ≤ 24 := by have := Hl.out; omega
  have Hat : Hid (∀ i e : Nat, i < nL → nth (ends ps) i = (e : Int) → nth l i = eV ps l e) := Lib.hid fun i e hi he => eV_at (by have := HnE.out; omega) he
  clear hpt hn24 hn1 hnE hpn hwn
  have HO5 := Lib.hid (own_nil0 w4)
  have hnew := below_new w4 (.cells #[] 3)
  have HP5 := HP4.out.below hnew
  have g0 := HP5.c0
  have g1 := HP5.c1
  have hs5 : (w4.alloc (.cells #[] 3)).heap.size = w4.heap.size + 1 := by simp
  have hb15 := hb14.trans (hnew.mono hb14.size)
  clear HP5 HP4 hnew
  go_wp2_with fail
  generalize (w4.alloc (.cells #[] 3)) = w5 at *
  generalize hU : w4.heap.size = U at *
  refine (impl_means _ _ _ _ _ _ ps ws _ _ _ l (eV ps l) _ (H.out.below hb15) HTr.out (HL.out.below hb15) HnE.out Hat.out HV.out).mono ?_
  rintro e w6 ⟨v6, rfl, ho6, hb6⟩
  have hml : (meanL ps ws (eV ps l)).length = nP := by rw [meanL_length]; exact Hl.out
  obtain ⟨a6, c6, rfl⟩ := ho6.shape
  rw [hml] at ho6 ⊢
  have D6 := Lib.hid ho6.ints
  have HAp : Hid (Apart a6 (Value.slice (some ⟨U, 0, none⟩) 0 0)) := Lib.hid fun p hp e => by
    subst hp
    have h1 := (World.ownsRow.lt ho6 _ rfl).1
    simp [Value.ownBlock] at e
    omega
  have HO6 := Lib.hid (HO5.out.below hb6)
  have hb16 := hb15.trans (hb6.mono hb15.size)
  have hs6 : U ≤ w6.heap.size := by have := hb6.size; omega
  have hw4 : w.heap.size ≤ U := by have := hb14.size; omega
  clear ho6 hb6 hb15 hs5 HO5 g0 g1 e0 e1 hb14 hml hU
  have Hno : Hid (∀ x, x < nP → ¬ Fr.at2 (meanL ps ws (eV ps l)) x = 1 → fpB ps ws l = false) := Lib.hid fun x hx h => fp_no2 (by have := Hl.out; omega) h
  have Hyes : Hid ((∀ x, x < nP → Fr.at2 (meanL ps ws (eV ps l)) x = 1) → fpB ps ws l = true) := Lib.hid fun h => fp_yes Heb.out fun x hx => h x (by have := Hl.out; omega)
  have Htk : Hid (∀ x, x < nP → (fpL ps ws l).take (x + 1) = (fpL ps ws l).take x ++ [Fr.at1 (meanL ps ws (eV ps l)) x]) := Lib.hid fun x hx => fpL_take ps ws l (by have := Hl.out; omega)
  have Hfl : Hid ((fpL ps ws l).length = nP) := Lib.hid (by rw [fpL_length]; exact Hl.out)
  generalize meanL ps ws (eV ps l) = ml at *
  go_wp2_with fail
  go_loopw [6, 23] (fun v6 v23 wr => ∃ x : Nat, x ≤ nP ∧ v23 = .int .i64 (x : Int) ∧ (∀ y, y < x → Fr.at2 ml y = 1) ∧ Own wr U v6 ((fpL ps ws l).take x) ∧ Fr.Ints wr a6 nP ml ∧ Apart a6 v6 ∧ Below w.heap.size w wr ∧ U ≤ wr.heap.size) (fun _ v23 _ => nP - (intOf v23).toNat)
  case atStart => exact ⟨0, Nat.zero_le _, rfl, fun y hy => by omega, by rw [List.take_zero]; exact HO6.out, D6.out, HAp.out, hb16, hs6⟩
  case round =>
    clear hb16 HO6 D6 HAp hs6
    obtain ⟨x, hx, rfl, hall, ho, hd, hap, hbel, hsz⟩ := hrel
    have Hall := Lib.hid hall
    have HO := Lib.hid ho
    have D6 := Lib.hid hd
    have HAp := Lib.hid hap
    clear hall ho hd hap
    by_cases hlt : (x : Int) < nP
    · obtain ⟨b5, o5, rfl, hb5, hcs⟩ := D6.out.2 (by omega)
      obtain ⟨hA, hB⟩ := hcs x (by omega)
      have HnoX := Lib.hid (Hno.out x (by omega))
      have HtkX := Lib.hid (Htk.out x (by omega))
      have hx0 : (0 : Int) ≤ (x : Int) := by omega
      clear hcs
      generalize hg1 : Fr.at1 ml x = g1 at *
      generalize hg2 : Fr.at2 ml x = g2 at *
      have Hg2 := Lib.hid hg2
      clear hg1 hg2
      have hol : ((fpL ps ws l).take x).length ≤ 24 := by rw [List.length_take]; omega
      have q := Pair.new wr (.int .i64 0) (.int .i64 0) 48
      have q0 := q.c0
      have q1 := q.c1
      have q2 := q.f0
      have q3 := q.f1
      have qn := Pair.new wr (.int .i64 g1) (.int .i64 g2) 48
      have n0 := qn.c0
      have n1 := qn.c1
      have hnew := below_new wr (.cells #[.int .i64 g1, .int .i64 g2] 48)
      by_cases hg : g2 = 1
      · have hgb : (g2 != 1) = false := by rw [bne_eq_false_iff_eq]; exact hg
        have HO8 := Lib.hid (HO.out.below hnew)
        have D8 := Lib.hid (D6.out.below hnew)
        have hs8 : U ≤ (wr.alloc (.cells #[.int .i64 g1, .int .i64 g2] 48)).heap.size := Nat.le_trans hsz hnew.size
        have Hg2' : Hid (Fr.at2 ml x = 1) := Lib.hid (by rw [Hg2.out, hg])
        subst hg
        generalize (fpL ps ws l).take x = acc at *
        go_upto_region 9 with fail
        generalize (wr.alloc (.cells #[.int .i64 g1, .int .i64 1] 48)) = w8 at *
        go_wp2_with (at_builtin; refine wp_push2 _ _ rfl rfl U _ _ rfl HO8.out rfl (by omega) hs8 ?_; intro v' w' ho' hb' hm')
        have h6' := D8.out.moved hm' (fun _ => HAp.out)
        go_roundw
        case rel => exact ⟨x + 1, by omega, by go_num, fun y hy => by
          by_cases e : y = x
          · subst e; exact Hg2'.out
          · exact Hall.out y (by omega), by rw [HtkX.out]; exact ho', h6'.1, h6'.2 (by omega), (hbel.trans (hnew.mono hbel.size)).trans (hb'.mono hw4), Nat.le_trans hs8 hb'.size⟩
        case measure => simp [intOf]; omega
      · have Hb := Lib.hid (HnoX.out (by first | exact hg | simpa using hg))
        have hgb : (g2 != 1) = true := by rw [bne_iff_ne]; exact hg
        go_wp2_with fail
        go_ret2
        exact ⟨_, by rw [Hb.out]; rfl, by rw [fpV_no Hb.out]; exact Own.nil _ _, hbel.trans (hnew.mono hbel.size)⟩
    · obtain rfl : x = nP := by omega
      have Hb := Lib.hid (Hyes.out Hall.out)
      have hfin : (fpL ps ws l).take x = fpL ps ws l := List.take_of_length_le (by have := Hfl.out; omega)
      have HO2 := HO.out
      rw [hfin] at HO2
      go_wp2_with fail
      go_ret2
      exact ⟨_, by rw [Hb.out]; rfl, by rw [fpV_yes Hb.out]; exact HO2.mono hw4, hbel⟩
end Go.Proofs.Ytnbomleieianoaa

/- Contracts: pays of the ends, the process of their means, by the reference. -/
namespace Go.Proofs.Ytnbomleieianoaa
open Go.RowKit

theorem ep_all {ps ws l : List Int} (h : allIn l (-999) 999 = false) : epB ps ws l = false := ep_no3 h
set_option maxRecDepth 100000 in
set_option maxHeartbeats 1000000 in
theorem spec_l2Pays (aP : Option Addr) (nP cP : Nat) (aW : Option Addr) (nW cW : Nat) (ps ws : List Int) (aL : Option Addr) (nL cL : Nat) (l : List Int) (w : World) (h : Tre w aP nP cP aW nW cW ps ws) (hL : Ints w aL nL l) (hn : nL ≤ 1048576) :
    Calls Try.prog 108 #[.agg #[.slice aP nP cP, .slice aW nW cW], .slice aL nL cL] w fun e w' => e = .returned (.bool (epB ps ws l)) ∧ Below w.heap.size w w' := by
  have hl := h.p.1
  have hlw := h.w.1
  have hpn := h.pn
  have hwn := h.wn
  have hb1 := below_new w (.cells #[.slice aP nP cP, .slice aW nW cW] 26)
  have hP1 := Lib.hid (Pair.new w (.slice aP nP cP) (.slice aW nW cW) 26)
  have H := Lib.hid h
  have Hl := Lib.hid hl
  have Hlw := Lib.hid hlw
  clear h hl hlw
  have hll := Lib.hid hL.1
  have HL := Lib.hid (hL.below hb1)
  clear hL
  have c0 := hP1.out.c0
  have c1 := hP1.out.c1
  have hlt2 := hP1.out.lt
  go_enter Try.func108, Try.ntmps108
  go_wp2_with fail
  generalize (w.alloc (.cells #[.slice aP nP cP, .slice aW nW cW] 26)) = w2 at *
  go_loop [5] (fun v5 => ∃ i : Nat, i ≤ nL ∧ v5 = .int .i64 (i : Int) ∧ ∀ j, j < i → inB (nth l j) (-999) 999 = true) (fun v5 => nL - (intOf v5).toNat)
  case atStart => exact ⟨0, Nat.zero_le _, rfl, fun j hj => by omega⟩
  case round =>
    obtain ⟨i, hi, rfl, hall⟩ := hrel
    have Hall := Lib.hid hall
    clear hall
    by_cases hlt : (i : Int) < nL
    · obtain ⟨b, off, rfl, hc⟩ := HL.out.at (i := i) (Below.refl _ _) (by omega)
      cases hin : inB (nth l i) (-999) 999
      · have hv := ep_no3 (ps := ps) (ws := ws) (all_f (i := i) (by have := hll.out; omega) hin)
        have Hv := Lib.hid hv
        have Hin := Lib.hid hin
        generalize nth l i = u at *
        clear hv hin
        go_wp2_with (go_at_call 123; refine (spec_l1In _ _ _ _).mono ?_; rintro e w' ⟨rfl, rfl⟩; rw [Hin.out])
        go_ret
        exact ⟨by rw [Hv.out]; rfl, hb1⟩
      · have Hin := Lib.hid hin
        have Hin2 := Lib.hid hin
        generalize hu : nth l i = u at hc Hin
        clear hin hu
        go_wp2_with (go_at_call 123; refine (spec_l1In _ _ _ _).mono ?_; rintro e w' ⟨rfl, rfl⟩; rw [Hin.out])
        go_round
        case rel => exact ⟨i + 1, by omega, by go_num, fun j hj => by
          by_cases e : j = i
          · subst e; exact Hin2.out
          · exact Hall.out j (by omega)⟩
        case measure => simp [intOf]; omega
    · obtain rfl : i = nL := by omega
      have hA : allIn l (-999) 999 = true := all_t fun j hj => Hall.out j (by have := hll.out; omega)
      have HA := Lib.hid hA
      clear hA
      go_wp2_with fail
      refine (spec_l2Good _ _ _ _ _ _ ps ws _ (H.out.below hb1)).mono ?_
      rintro e w3 ⟨rfl, hb3⟩
      have d0 := (hb3.cell (p := ⟨w.heap.size, 0, none⟩) hlt2).trans c0
      have d1 := (hb3.cell (p := ⟨w.heap.size, 1, none⟩) hlt2).trans c1
      have hb13 := hb1.trans (hb3.mono hb1.size)
      cases hT : treeB ps ws
      · have Hv := Lib.hid (ep_no1 (l := l) hT)
        clear hT
        go_wp2_with fail
        go_ret
        exact ⟨by rw [Hv.out]; rfl, hb13⟩
      · have HT := Lib.hid hT
        have HTr := Lib.hid (treeB_t hT)
        clear hT
        obtain ⟨nE, hnE⟩ : ∃ z, z = (ends ps).length := ⟨_, rfl⟩
        have HNE := Lib.hid hnE
        clear hnE
        by_cases he : i = nE
        · have heb : ((i : Int) == (nE : Int)) = true := by simp [he]
          have Hv := Lib.hid (ep_yes HT.out (by rw [hll.out, ← HNE.out, he]) HA.out)
          clear he
          go_wp2_with (go_at_call 89; refine (spec_l2Ends _ _ _ _ _ _ ps ws _ (H.out.below hb13) HTr.out.toPa).mono ?_; rintro e w6 ⟨v6, rfl, o6, b6⟩; obtain ⟨a6, c6, rfl⟩ := o6.shape; rw [← HNE.out])
          go_ret
          exact ⟨by rw [Hv.out]; simp [heb], hb13.trans (b6.mono hb13.size)⟩
        · have heb : ((i : Int) == (nE : Int)) = false := by rw [beq_eq_false_iff_ne]; omega
          have Hv := Lib.hid (ep_no2 (ps := ps) (ws := ws) (l := l) (by rw [hll.out, ← HNE.out]; exact he))
          clear he
          go_wp2_with (go_at_call 89; refine (spec_l2Ends _ _ _ _ _ _ ps ws _ (H.out.below hb13) HTr.out.toPa).mono ?_; rintro e w6 ⟨v6, rfl, o6, b6⟩; obtain ⟨a6, c6, rfl⟩ := o6.shape; rw [← HNE.out])
          go_ret
          exact ⟨by rw [Hv.out]; simp [heb], hb13.trans (b6.mono hb13.size)⟩
set_option maxRecDepth 100000 in
set_option maxHeartbeats 1000000 in
theorem spec_FairProcess (aP : Option Addr) (nP cP : Nat) (aW : Option Addr) (nW cW : Nat) (ps ws : List Int) (aL : Option Addr) (nL cL : Nat) (l : List Int) (w : World) (h : Tre w aP nP cP aW nW cW ps ws) (hL : Ints w aL nL l) (_hLc : aL = none → cL = 0) (hn : nL ≤ 1048576) :
    Calls Try.prog 37 #[.agg #[.slice aP nP cP, .slice aW nW cW], .slice aL nL cL] w fun e w' => ∃ v, e = .returned (.tuple #[v, .bool (fpB ps ws l)]) ∧ Own w' w.heap.size v (fpV ps ws l) ∧ Below w.heap.size w w' := by
  have hl := h.p.1
  have hlw := h.w.1
  have hpn := h.pn
  have hwn := h.wn
  have hb1 := below_new w (.cells #[.slice aP nP cP, .slice aW nW cW] 26)
  have hP1 := Lib.hid (Pair.new w (.slice aP nP cP) (.slice aW nW cW) 26)
  have H := Lib.hid h
  have Hl := Lib.hid hl
  have Hlw := Lib.hid hlw
  clear h hl hlw
  have HL := Lib.hid hL
  have hll := Lib.hid hL.1
  clear hL
  have hlt2 := hP1.out.lt
  go_enter Try.func37, Try.ntmps37
  have hO0 := own_nil0 (w.alloc (.cells #[.slice aP nP cP, .slice aW nW cW] 26))
  rw [show (w.alloc (.cells #[.slice aP nP cP, .slice aW nW cW] 26)).heap.size = w.heap.size + 1 by simp] at hO0
  have hbb : Below w.heap.size w ((w.alloc (.cells #[.slice aP nP cP, .slice aW nW cW] 26)).alloc (.cells #[] 3)) := hb1.trans ((below_new (w.alloc (.cells #[.slice aP nP cP, .slice aW nW cW] 26)) (.cells #[] 3)).mono hb1.size)
  have hPP := Lib.hid (hP1.out.alloc (.cells #[] 3))
  have HO0 := Lib.hid hO0
  have c0 := hPP.out.c0
  have c1 := hPP.out.c1
  have hss : ((w.alloc (.cells #[.slice aP nP cP, .slice aW nW cW] 26)).alloc (.cells #[] 3)).heap.size = w.heap.size + 2 := by simp
  clear hO0 hb1 hP1 hlt2
  go_wp2_with fail
  generalize ((w.alloc (.cells #[.slice aP nP cP, .slice aW nW cW] 26)).alloc (.cells #[] 3)) = w2 at *
  refine (spec_l2Pays _ _ _ _ _ _ ps ws _ _ _ l _ (H.out.below hbb) (HL.out.below hbb) hn).mono ?_
  rintro e w3 ⟨rfl, hb3⟩
  have HO3 := Lib.hid (HO0.out.below hb3)
  have HP3 := Lib.hid (hPP.out.below hb3)
  have d0 := HP3.out.c0
  have d1 := HP3.out.c1
  have hb13 := hbb.trans (hb3.mono hbb.size)
  have hs3 : w.heap.size + 2 ≤ w3.heap.size := by have := hb3.size; omega
  clear c0 c1 hb3 HO0 hPP hbb hss
  cases hT : epB ps ws l
  · have Hv := Lib.hid hT
    clear hT
    go_wp2_with fail
    go_ret2
    exact ⟨_, by rw [fp_no1 Hv.out]; rfl, by rw [fpV_no (fp_no1 Hv.out)]; exact HO3.out.mono (Nat.le_succ _), hb13⟩
  have Heb := Lib.hid hT
  have hpt := epB_t hT
  have HTr := Lib.hid hpt.1
  have hnE : (ends ps).length = nL := by have := hll.out; have := hpt.2.2.1; omega
  have HnE := Lib.hid hnE
  have HV := Lib.hid hpt.2.2.2.2
  have hn24 := HTr.out.n24
  have hn1 := HTr.out.n1
  have hnP : 1 ≤ nP ∧ nP ≤ 24 := by have := Hl.out; omega
  have Hat : Hid (∀ i e : Nat, i < nL → nth (ends ps) i = (e : Int) → nth l i = eV ps l e) := Lib.hid fun i e hi he => eV_at (by have := HnE.out; omega) he
  have HV3 : Hid (∀ x, -2997 ≤ eV ps l x ∧ eV ps l x ≤ 2997) := Lib.hid fun x => by have := HV.out x; omega
  clear hT hpt hn24 hn1 hnE hpn hwn
  go_wp2_with fail
  refine (spec_l2Means _ _ _ _ _ _ ps ws _ _ _ l (eV ps l) _ (H.out.below hb13) HTr.out (HL.out.below hb13) HnE.out Hat.out HV3.out).mono ?_
  rintro e w6 ⟨v6, rfl, ho6, hb6⟩
  have hml : (meanL ps ws (eV ps l)).length = nP := by rw [meanL_length]; exact Hl.out
  obtain ⟨a6, c6, rfl⟩ := ho6.shape
  rw [hml] at ho6 ⊢
  have D6 := Lib.hid ho6.ints
  have HAp : Hid (Apart a6 (Value.slice (some ⟨w.heap.size + 1, 0, none⟩) 0 0)) := Lib.hid fun p hp e => by
    subst hp
    have h1 := (World.ownsRow.lt ho6 _ rfl).1
    simp [Value.ownBlock] at e
    omega
  have HO6 := Lib.hid (HO3.out.below hb6)
  have hb16 := hb13.trans (hb6.mono hb13.size)
  have hs6 : w.heap.size + 1 ≤ w6.heap.size := by have := hb6.size; omega
  clear ho6 hb6 HO3 d0 d1 hb13 hml HP3 hs3
  have Hno : Hid (∀ x, x < nP → ¬ Fr.at2 (meanL ps ws (eV ps l)) x = 1 → fpB ps ws l = false) := Lib.hid fun x hx h => fp_no2 (by have := Hl.out; omega) h
  have Hyes : Hid ((∀ x, x < nP → Fr.at2 (meanL ps ws (eV ps l)) x = 1) → fpB ps ws l = true) := Lib.hid fun h => fp_yes Heb.out fun x hx => h x (by have := Hl.out; omega)
  have Htk : Hid (∀ x, x < nP → (fpL ps ws l).take (x + 1) = (fpL ps ws l).take x ++ [Fr.at1 (meanL ps ws (eV ps l)) x]) := Lib.hid fun x hx => fpL_take ps ws l (by have := Hl.out; omega)
  have Hfl : Hid ((fpL ps ws l).length = nP) := Lib.hid (by rw [fpL_length]; exact Hl.out)
  generalize meanL ps ws (eV ps l) = ml at *
  go_wp2_with fail
  go_loopw [6, 8] (fun v6 v8 wr => ∃ x : Nat, x ≤ nP ∧ v8 = .int .i64 (x : Int) ∧ (∀ y, y < x → Fr.at2 ml y = 1) ∧ Own wr (w.heap.size + 1) v6 ((fpL ps ws l).take x) ∧ Fr.Ints wr a6 nP ml ∧ Apart a6 v6 ∧ Below w.heap.size w wr ∧ w.heap.size + 1 ≤ wr.heap.size) (fun _ v8 _ => nP - (intOf v8).toNat)
  case atStart => exact ⟨0, Nat.zero_le _, rfl, fun y hy => by omega, by rw [List.take_zero]; exact HO6.out, D6.out, HAp.out, hb16, hs6⟩
  case round =>
    clear hb16 HO6 D6 HAp hs6
    obtain ⟨x, hx, rfl, hall, ho, hd, hap, hbel, hsz⟩ := hrel
    have Hall := Lib.hid hall
    have HO := Lib.hid ho
    have D6 := Lib.hid hd
    have HAp := Lib.hid hap
    clear hall ho hd hap
    by_cases hlt : (x : Int) < nP
    · obtain ⟨b5, o5, rfl, hb5, hcs⟩ := D6.out.2 (by omega)
      obtain ⟨hA, hB⟩ := hcs x (by omega)
      have HnoX := Lib.hid (Hno.out x (by omega))
      have HtkX := Lib.hid (Htk.out x (by omega))
      have hx0 : (0 : Int) ≤ (x : Int) := by omega
      clear hcs
      generalize hg1 : Fr.at1 ml x = g1 at *
      generalize hg2 : Fr.at2 ml x = g2 at *
      have Hg2 := Lib.hid hg2
      clear hg1 hg2
      have hol : ((fpL ps ws l).take x).length ≤ 24 := by rw [List.length_take]; omega
      by_cases hg : g2 = 1
      · have hgb : (g2 != 1) = false := by rw [bne_eq_false_iff_eq]; exact hg
        have Hg2' : Hid (Fr.at2 ml x = 1) := Lib.hid (by rw [Hg2.out, hg])
        subst hg
        generalize (fpL ps ws l).take x = acc at *
        go_wp2_with (at_builtin; refine wp_push2 _ _ rfl rfl (w.heap.size + 1) _ _ rfl HO.out rfl (by omega) hsz ?_; intro v' w' ho' hb' hm')
        have h6' := D6.out.moved hm' (fun _ => HAp.out)
        go_roundw
        case rel => exact ⟨x + 1, by omega, by go_num, fun y hy => by
          by_cases e : y = x
          · subst e; exact Hg2'.out
          · exact Hall.out y (by omega), by rw [HtkX.out]; exact ho', h6'.1, h6'.2 (by omega), hbel.trans (hb'.mono (Nat.le_succ _)), Nat.le_trans hsz hb'.size⟩
        case measure => simp [intOf]; omega
      · have Hb := Lib.hid (HnoX.out (by first | exact hg | simpa using hg))
        have hgb : (g2 != 1) = true := by rw [bne_iff_ne]; exact hg
        go_wp2_with fail
        go_ret2
        exact ⟨_, by rw [Hb.out]; rfl, by rw [fpV_no Hb.out]; exact (own_nil0 wr).mono hbel.size, hbel.trans ((below_new wr _).mono hbel.size)⟩
    · obtain rfl : x = nP := by omega
      have Hb := Lib.hid (Hyes.out Hall.out)
      have hfin : (fpL ps ws l).take x = fpL ps ws l := List.take_of_length_le (by have := Hfl.out; omega)
      have HO2 := HO.out
      rw [hfin] at HO2
      go_wp2_with fail
      go_ret2
      exact ⟨_, by rw [Hb.out]; rfl, by rw [fpV_yes Hb.out]; exact HO2.mono (Nat.le_succ _), hbel⟩
set_option maxRecDepth 100000 in
set_option maxHeartbeats 1000000 in
theorem impl_IsProcess (aP : Option Addr) (nP cP : Nat) (aW : Option Addr) (nW cW : Nat) (ps ws : List Int) (aL : Option Addr) (nL cL : Nat) (l : List Int) (w : World) (h : Tre w aP nP cP aW nW cW ps ws) (hL : Ints w aL nL l) (_hLc : aL = none → cL = 0) (hn : nL ≤ 1048576) :
    Calls Try.prog 39 #[.agg #[.slice aP nP cP, .slice aW nW cW], .slice aL nL cL] w fun e w' => e = .returned (.tuple #[.bool (paysB ps ws l), .bool (treeB ps ws)]) ∧ Below w.heap.size w w' := by
  have hl := h.p.1
  have hlw := h.w.1
  have hpn := h.pn
  have hwn := h.wn
  have hb1 := below_new w (.cells #[.slice aP nP cP, .slice aW nW cW] 26)
  have hP1 := Lib.hid (Pair.new w (.slice aP nP cP) (.slice aW nW cW) 26)
  have H := Lib.hid h
  have Hl := Lib.hid hl
  have Hlw := Lib.hid hlw
  clear h hl hlw
  have HL := Lib.hid hL
  clear hL
  have hlt2 := hP1.out.lt
  go_enter Try.func39, Try.ntmps39
  have c0 := hP1.out.c0
  have c1 := hP1.out.c1
  go_wp2_with fail
  generalize (w.alloc (.cells #[.slice aP nP cP, .slice aW nW cW] 26)) = w2 at *
  refine (impl_IsTree _ _ _ _ _ _ ps ws _ (H.out.below hb1)).mono ?_
  rintro e w3 ⟨rfl, hb3⟩
  have hP3 := hP1.out.below hb3
  have d0 := hP3.c0
  have d1 := hP3.c1
  have hb13 := hb1.trans (hb3.mono hb1.size)
  clear hP3 c0 c1 hb3
  cases hT : treeB ps ws
  · have Hv := Lib.hid (pays_no1 (l := l) hT)
    have HT := Lib.hid hT
    clear hT
    go_wp2_with fail
    go_ret2
    exact ⟨by rw [Hv.out, HT.out]; rfl, hb13⟩
  have HT := Lib.hid hT
  clear hT
  go_wp2_with fail
  refine (impl_isProcess _ _ _ _ _ _ ps ws _ _ _ l _ (H.out.below hb13) (HL.out.below hb13) hn).mono ?_
  rintro e w4 ⟨rfl, hb4⟩
  have hb14 := hb13.trans (hb4.mono hb13.size)
  have Hv : Hid (paysB ps ws l = procB ps.length l) := Lib.hid (by
    cases hp : procB ps.length l
    · exact pays_no2 hp
    · exact pays_both HT.out hp)
  rw [← Hv.out]
  go_wp2_with fail
  go_ret2
  exact ⟨by rw [HT.out]; rfl, hb14⟩
set_option maxRecDepth 100000 in
set_option maxHeartbeats 1000000 in
theorem spec_IsProcess (aP : Option Addr) (nP cP : Nat) (aW : Option Addr) (nW cW : Nat) (ps ws : List Int) (aL : Option Addr) (nL cL : Nat) (l : List Int) (w : World) (h : Tre w aP nP cP aW nW cW ps ws) (hL : Ints w aL nL l) (_hLc : aL = none → cL = 0) (hn : nL ≤ 1048576) :
    Calls Try.prog 40 #[.agg #[.slice aP nP cP, .slice aW nW cW], .slice aL nL cL] w fun e w' => e = .returned (.tuple #[.bool (paysB ps ws l), .bool (treeB ps ws)]) ∧ Below w.heap.size w w' := by
  have hl := h.p.1
  have hlw := h.w.1
  have hpn := h.pn
  have hwn := h.wn
  have hb1 := below_new w (.cells #[.slice aP nP cP, .slice aW nW cW] 26)
  have hP1 := Lib.hid (Pair.new w (.slice aP nP cP) (.slice aW nW cW) 26)
  have H := Lib.hid h
  have Hl := Lib.hid hl
  have Hlw := Lib.hid hlw
  clear h hl hlw
  have HL := Lib.hid hL
  clear hL
  have hlt2 := hP1.out.lt
  go_enter Try.func40, Try.ntmps40
  have c0 := hP1.out.c0
  have c1 := hP1.out.c1
  go_wp2_with fail
  generalize (w.alloc (.cells #[.slice aP nP cP, .slice aW nW cW] 26)) = w2 at *
  refine (spec_l2Good _ _ _ _ _ _ ps ws _ (H.out.below hb1)).mono ?_
  rintro e w3 ⟨rfl, hb3⟩
  have hP3 := hP1.out.below hb3
  have d0 := hP3.c0
  have d1 := hP3.c1
  have hb13 := hb1.trans (hb3.mono hb1.size)
  clear hP3 c0 c1 hb3
  cases hT : treeB ps ws
  · have Hv := Lib.hid (pays_no1 (l := l) hT)
    have HT := Lib.hid hT
    clear hT
    go_wp2_with fail
    go_ret2
    exact ⟨by rw [Hv.out, HT.out]; rfl, hb13⟩
  have HT := Lib.hid hT
  clear hT
  go_wp2_with fail
  refine (spec_l3Good _ _ _ _ _ _ ps ws _ _ _ l _ (H.out.below hb13) (HL.out.below hb13) hn).mono ?_
  rintro e w4 ⟨rfl, hb4⟩
  have hb14 := hb13.trans (hb4.mono hb13.size)
  go_wp2_with fail
  go_ret2
  exact ⟨by rw [HT.out]; rfl, hb14⟩
end Go.Proofs.Ytnbomleieianoaa

/- Contract: a tree and pays of its ends, drawn. No conditions but those stated. -/
namespace Go.Proofs.Ytnbomleieianoaa
open Go.RowKit

set_option maxRecDepth 100000 in
set_option maxHeartbeats 2000000 in
theorem spec_DrawFairProcess (a : Option Addr) (n cap : Nat) (w : World) (h : Bytes w a n) :
    Calls Try.prog 35 #[.slice a n cap] w fun e w' => (∃ v, e = .returned v ∧ DrTL w' w.heap.size v) ∧ Below w.heap.size w w' := by
  have hb0 : Below w.heap.size w ((w.alloc (.cells #[.slice none 0 0, .slice none 0 0] 26)).alloc (.cells #[.slice a n cap, .int .i64 0, .int .u64 0] 75)) := (below_new w _).alloc (by simp) _
  have hc := Cur.new (cap := cap) 75 (h.below (below_new w (.cells #[.slice none 0 0, .slice none 0 0] 26)))
  have R0 := Lib.hid ((Pair.new w (.slice none 0 0) (.slice none 0 0) 26).alloc (.cells #[.slice a n cap, .int .i64 0, .int .u64 0] 75))
  have hs0 : ((w.alloc (.cells #[.slice none 0 0, .slice none 0 0] 26)).alloc (.cells #[.slice a n cap, .int .i64 0, .int .u64 0] 75)).heap.size = w.heap.size + 1 + 1 := by simp
  rw [show (w.alloc (.cells #[.slice none 0 0, .slice none 0 0] 26)).heap.size = w.heap.size + 1 by simp] at hc
  have C0 := Lib.hid (Cq.start hc)
  clear hc h
  go_enter Try.func35, Try.ntmps35
  go_wp2_with fail
  generalize ((w.alloc (.cells #[.slice none 0 0, .slice none 0 0] 26)).alloc (.cells #[.slice a n cap, .int .i64 0, .int .u64 0] 75)) = w0 at *
  have hg0 : w.heap.size + 1 < w0.heap.size := by omega
  have HB0 := Lib.hid hb0
  clear hs0 hb0
  refine (spec_tree (w.heap.size + 1) a n cap 0 _ (by omega) C0.out.cur).mono ?_
  rintro e w1 ⟨⟨v, rfl, aP, nP, cP, aW, nW, cW, ps, ws, rfl, hD⟩, c1, g1⟩
  have C1 := Lib.hid (C0.out.step c1 g1)
  have R1 := Lib.hid (pair_other R0.out g1 (by omega))
  have HD := Lib.hid hD
  have hs1 := C1.out.size
  have hP5 := Pair.new w1 (.slice none 0 0) (.slice none 0 0) 26
  have x0 := hP5.c0
  have x1 := hP5.c1
  have y0 := hP5.f0
  have y1 := hP5.f1
  clear c1 g1 hD hP5 R0 C0
  have B3 := Lib.hid (bx_new 26 HD.out hs1 R1.out (by omega))
  have C3 := Lib.hid (C1.out.lit (.cells #[.slice aP nP cP, .slice aW nW cW] 26))
  have hnP := HD.out.pn
  go_wp2_with fail
  clear x0 x1 y0 y1 R1 HD C1
  generalize (w1.alloc (.cells #[.slice aP nP cP, .slice aW nW cW] 26)) = w3 at *
  generalize w1.heap.size = tb at *
  have c0 := B3.out.box.c0
  have c1 := B3.out.box.c1
  refine (spec_l2Good _ _ _ _ _ _ ps ws _ B3.out.t.tre).mono ?_
  rintro e w4 ⟨rfl, bb4⟩
  have B4 := Lib.hid (B3.out.below bb4)
  have C4 := Lib.hid (C3.out.below bb4)
  clear c0 c1 bb4 B3 C3
  have c0 := B4.out.box.c0
  have c1 := B4.out.box.c1
  cases hT : treeB ps ws
  · clear hT
    go_upto_region 4 with fail
    refine wp_region_noPanic ?_
    refine wp_region_held_drew (S := (fun W' => W'.cell? ⟨tb, 0, none⟩ = some (.slice aP nP cP) ∧ W'.cell? ⟨tb, 1, none⟩ = some (.slice aW nW cW))) (by kernel_rfl) ?_ (fun hHeld0 => ?_)
    · (try dsimp only); first | assumption | exact ⟨B4.out.drew.box.c0, B4.out.drew.box.c1⟩ | exact ⟨((B4.out.lit _).drew).box.c0, ((B4.out.lit _).drew).box.c1⟩ | exact ⟨HX.out.c0, HX.out.c1⟩
    refine takeH (i := 0) (oi := _) (v := ?_) rfl (by kernel_rfl) (by kernel_rfl) (by kernel_rfl) (fun _ _ _ h => h) (Or.inl ⟨by rfl, ?_⟩) (by assumption) ?_
    rotate_left
    · first | (intro w hSw; (try dsimp only at hSw); go_simp; done) | (intro w hSw; (try dsimp only at hSw); go_simp; with_reducible rfl)
    (try simp only [Act.put, List.setIfInBounds_toArray, List.set_cons_zero, List.set_cons_succ])
    refine takeH (i := 1) (oi := _) (v := ?_) rfl (by kernel_rfl) (by kernel_rfl) (by kernel_rfl) (fun _ _ _ h => h) (Or.inl ⟨by rfl, ?_⟩) (by assumption) ?_
    rotate_left
    · first | (intro w hSw; (try dsimp only at hSw); go_simp; done) | (intro w hSw; (try dsimp only at hSw); go_simp; with_reducible rfl)
    (try simp only [Act.put, List.setIfInBounds_toArray, List.set_cons_zero, List.set_cons_succ])
    refine takeH (i := 2) (oi := _) (v := ?_) rfl (by kernel_rfl) (by kernel_rfl) (by kernel_rfl) (fun _ _ _ h => h) (Or.inl ⟨by rfl, ?_⟩) (by assumption) ?_
    rotate_left
    · first | (intro w hSw; (try dsimp only at hSw); go_simp; done) | (intro w hSw; (try dsimp only at hSw); go_simp; with_reducible rfl)
    (try simp only [Act.put, List.setIfInBounds_toArray, List.set_cons_zero, List.set_cons_succ])
    refine wpAnyH_ready (rs := [3]) (by kernel_rfl) (by simp) ?_
    refine consH rfl (fun Kq hKq => ?_)
    go_simp
    refine (spec_endPays (w.heap.size + 1) a n cap _ aP nP cP aW nW cW ps ws _ (by omega) hnP (B4.out.drew).t.tre (C4.out.drew).cur).mono ?_
    rintro e w5q ⟨⟨vL, rfl, o5q⟩, c5q, g5q⟩
    have C5q := Lib.hid ((C4.out.drew).step c5q g5q)
    have B5q := Lib.hid ((B4.out.drew).other g5q (by omega) (by omega))
    have VL5q := Lib.hid ((o5q.mono (C4.out.drew).size).more (show _ ≤ 40 by omega))
    have hSS := And.intro B5q.out.box.c0 B5q.out.box.c1
    clear c5q g5q o5q
    have e0 := B5q.out.res.c0
    have e1 := B5q.out.res.c1
    have f0 := B5q.out.res.f0
    have f1 := B5q.out.res.f1
    have HX := Lib.hid ((B5q.out.box.far (show w.heap.size ≠ tb by have := B5q.out.ge; omega) (i := 0) (.slice aP nP cP)).far (show w.heap.size ≠ tb by have := B5q.out.ge; omega) (i := 1) (.slice aW nW cW))
    have hr := B5q.out.res.set (.slice aP nP cP) (.slice aW nW cW)
    refine hKq.out _ _ ?_ (fun hHeld1 => ?_)
    · (try dsimp only); first | assumption | exact ⟨B4.out.drew.box.c0, B4.out.drew.box.c1⟩ | exact ⟨((B4.out.lit _).drew).box.c0, ((B4.out.lit _).drew).box.c1⟩ | exact ⟨HX.out.c0, HX.out.c1⟩
    clear hKq Kq
    (try simp only [Act.put, List.setIfInBounds_toArray, List.set_cons_zero, List.set_cons_succ])
    clear hHeld0
    refine wpAnyH_ready (rs := [4]) (by kernel_rfl) (by simp) ?_
    refine consH rfl (fun Kq hKq => ?_)
    go_simp
    refine hKq.out _ _ ?_ (fun hHeld2 => ?_)
    · (try dsimp only); first | assumption | exact ⟨B4.out.drew.box.c0, B4.out.drew.box.c1⟩ | exact ⟨((B4.out.lit _).drew).box.c0, ((B4.out.lit _).drew).box.c1⟩ | exact ⟨HX.out.c0, HX.out.c1⟩
    clear hKq Kq
    (try simp only [Act.put, List.setIfInBounds_toArray, List.set_cons_zero, List.set_cons_succ])
    clear hHeld1
    refine takeH (i := 5) (oi := _) (v := ?_) rfl (by kernel_rfl) (by kernel_rfl) (by kernel_rfl) (fun _ _ _ h => h) (Or.inl ⟨by rfl, ?_⟩) (by assumption) ?_
    rotate_left
    · first | (intro w hSw; (try dsimp only at hSw); go_simp; done) | (intro w hSw; (try dsimp only at hSw); go_simp; with_reducible rfl)
    (try simp only [Act.put, List.setIfInBounds_toArray, List.set_cons_zero, List.set_cons_succ])
    refine wpAnyH_done (by kernel_rfl) ?_ _
    refine NoPanic.normal ?_
    have hbb := draw_below HB0.out C5q.out.grow (show w.heap.size ≤ w.heap.size + 1 by omega) (Nat.le_refl w.heap.size) (x := .slice aP nP cP) (y := .slice aW nW cW)
    have hTT := (B5q.out.t.res (rb := w.heap.size) (x := .slice aP nP cP) (y := .slice aW nW cW) (by omega)).mono (base' := w.heap.size) (by omega)
    have ZL := (((VL5q.out.res (rb := w.heap.size) (x := .slice aP nP cP) (y := .slice aW nW cW) (by omega)).mono (base' := w.heap.size) (by omega)))
    go_wp2_with fail
    exact bodyPost_ret (v := .tuple #[.agg #[.slice aP nP cP, .slice aW nW cW], vL]) (by simp [results, Try.results35, go_sem, hr.1, hr.2]) rfl ⟨⟨_, rfl, _, _, _, _, _, _, ps, ws, _, rfl, hTT, ZL⟩, hbb⟩
  · have HTr := Lib.hid (treeB_t hT)
    clear hT
    go_wp2_with fail
    refine (spec_one (w.heap.size + 1) a n cap _ _ _ (by omega) (by omega) C4.out.cur).mono ?_
    rintro e w5 ⟨⟨tt, rfl⟩, cc5, gg5⟩
    have B5 := Lib.hid (B4.out.other gg5 (by omega) (by omega))
    have C5 := Lib.hid (C4.out.step cc5 gg5)
    clear c0 c1 cc5 gg5 B4 C4
    have c0 := B5.out.box.c0
    have c1 := B5.out.box.c1
    cases tt
    rotate_left
    · go_upto_region 4 with fail
      refine wp_region_noPanic ?_
      refine wp_region_held_drew (S := (fun W' => W'.cell? ⟨tb, 0, none⟩ = some (.slice aP nP cP) ∧ W'.cell? ⟨tb, 1, none⟩ = some (.slice aW nW cW))) (by kernel_rfl) ?_ (fun hHeld0 => ?_)
      · (try dsimp only); first | assumption | exact ⟨B5.out.drew.box.c0, B5.out.drew.box.c1⟩ | exact ⟨((B5.out.lit _).drew).box.c0, ((B5.out.lit _).drew).box.c1⟩ | exact ⟨HX.out.c0, HX.out.c1⟩
      refine takeH (i := 0) (oi := _) (v := ?_) rfl (by kernel_rfl) (by kernel_rfl) (by kernel_rfl) (fun _ _ _ h => h) (Or.inl ⟨by rfl, ?_⟩) (by assumption) ?_
      rotate_left
      · first | (intro w hSw; (try dsimp only at hSw); go_simp; done) | (intro w hSw; (try dsimp only at hSw); go_simp; with_reducible rfl)
      (try simp only [Act.put, List.setIfInBounds_toArray, List.set_cons_zero, List.set_cons_succ])
      refine takeH (i := 1) (oi := _) (v := ?_) rfl (by kernel_rfl) (by kernel_rfl) (by kernel_rfl) (fun _ _ _ h => h) (Or.inl ⟨by rfl, ?_⟩) (by assumption) ?_
      rotate_left
      · first | (intro w hSw; (try dsimp only at hSw); go_simp; done) | (intro w hSw; (try dsimp only at hSw); go_simp; with_reducible rfl)
      (try simp only [Act.put, List.setIfInBounds_toArray, List.set_cons_zero, List.set_cons_succ])
      refine takeH (i := 2) (oi := _) (v := ?_) rfl (by kernel_rfl) (by kernel_rfl) (by kernel_rfl) (fun _ _ _ h => h) (Or.inl ⟨by rfl, ?_⟩) (by assumption) ?_
      rotate_left
      · first | (intro w hSw; (try dsimp only at hSw); go_simp; done) | (intro w hSw; (try dsimp only at hSw); go_simp; with_reducible rfl)
      (try simp only [Act.put, List.setIfInBounds_toArray, List.set_cons_zero, List.set_cons_succ])
      refine wpAnyH_ready (rs := [3]) (by kernel_rfl) (by simp) ?_
      refine consH rfl (fun Kq hKq => ?_)
      go_simp
      refine (spec_endPays (w.heap.size + 1) a n cap _ aP nP cP aW nW cW ps ws _ (by omega) hnP (B5.out.drew).t.tre (C5.out.drew).cur).mono ?_
      rintro e w6q ⟨⟨vL, rfl, o6q⟩, c6q, g6q⟩
      have C6q := Lib.hid ((C5.out.drew).step c6q g6q)
      have B6q := Lib.hid ((B5.out.drew).other g6q (by omega) (by omega))
      have VL6q := Lib.hid ((o6q.mono (C5.out.drew).size).more (show _ ≤ 40 by omega))
      have hSS := And.intro B6q.out.box.c0 B6q.out.box.c1
      clear c6q g6q o6q
      have e0 := B6q.out.res.c0
      have e1 := B6q.out.res.c1
      have f0 := B6q.out.res.f0
      have f1 := B6q.out.res.f1
      have HX := Lib.hid ((B6q.out.box.far (show w.heap.size ≠ tb by have := B6q.out.ge; omega) (i := 0) (.slice aP nP cP)).far (show w.heap.size ≠ tb by have := B6q.out.ge; omega) (i := 1) (.slice aW nW cW))
      have hr := B6q.out.res.set (.slice aP nP cP) (.slice aW nW cW)
      refine hKq.out _ _ ?_ (fun hHeld1 => ?_)
      · (try dsimp only); first | assumption | exact ⟨B5.out.drew.box.c0, B5.out.drew.box.c1⟩ | exact ⟨((B5.out.lit _).drew).box.c0, ((B5.out.lit _).drew).box.c1⟩ | exact ⟨HX.out.c0, HX.out.c1⟩
      clear hKq Kq
      (try simp only [Act.put, List.setIfInBounds_toArray, List.set_cons_zero, List.set_cons_succ])
      clear hHeld0
      refine wpAnyH_ready (rs := [4]) (by kernel_rfl) (by simp) ?_
      refine consH rfl (fun Kq hKq => ?_)
      go_simp
      refine hKq.out _ _ ?_ (fun hHeld2 => ?_)
      · (try dsimp only); first | assumption | exact ⟨B5.out.drew.box.c0, B5.out.drew.box.c1⟩ | exact ⟨((B5.out.lit _).drew).box.c0, ((B5.out.lit _).drew).box.c1⟩ | exact ⟨HX.out.c0, HX.out.c1⟩
      clear hKq Kq
      (try simp only [Act.put, List.setIfInBounds_toArray, List.set_cons_zero, List.set_cons_succ])
      clear hHeld1
      refine takeH (i := 5) (oi := _) (v := ?_) rfl (by kernel_rfl) (by kernel_rfl) (by kernel_rfl) (fun _ _ _ h => h) (Or.inl ⟨by rfl, ?_⟩) (by assumption) ?_
      rotate_left
      · first | (intro w hSw; (try dsimp only at hSw); go_simp; done) | (intro w hSw; (try dsimp only at hSw); go_simp; with_reducible rfl)
      (try simp only [Act.put, List.setIfInBounds_toArray, List.set_cons_zero, List.set_cons_succ])
      refine wpAnyH_done (by kernel_rfl) ?_ _
      refine NoPanic.normal ?_
      have hbb := draw_below HB0.out C6q.out.grow (show w.heap.size ≤ w.heap.size + 1 by omega) (Nat.le_refl w.heap.size) (x := .slice aP nP cP) (y := .slice aW nW cW)
      have hTT := (B6q.out.t.res (rb := w.heap.size) (x := .slice aP nP cP) (y := .slice aW nW cW) (by omega)).mono (base' := w.heap.size) (by omega)
      have ZL := (((VL6q.out.res (rb := w.heap.size) (x := .slice aP nP cP) (y := .slice aW nW cW) (by omega)).mono (base' := w.heap.size) (by omega)))
      go_wp2_with fail
      exact bodyPost_ret (v := .tuple #[.agg #[.slice aP nP cP, .slice aW nW cW], vL]) (by simp [results, Try.results35, go_sem, hr.1, hr.2]) rfl ⟨⟨_, rfl, _, _, _, _, _, _, ps, ws, _, rfl, hTT, ZL⟩, hbb⟩
    · go_wp2_with fail
      refine (spec_fair3 (w.heap.size + 1) a n cap _ w0.heap.size aP nP cP aW nW cW ps ws _ (by omega) B5.out.t (by omega) C5.out.cur).mono ?_
      rintro e w6 ⟨⟨vL, rfl, xs, oL, hxl⟩, cc6, gg6⟩
      have C6 := Lib.hid (C5.out.step cc6 gg6)
      have B6 := Lib.hid (B5.out.other gg6 (by omega) (by omega))
      obtain ⟨aL, cL, rfl⟩ := oL.shape
      obtain ⟨nL, hnL⟩ : ∃ z, z = xs.length := ⟨_, rfl⟩
      rw [← hnL] at oL ⊢
      have hnL2 : nL ≤ 31 := by omega
      have hs5 := C5.out.size
      have HOL6 := Lib.hid (oL.mono hs5)
      have HxL := Lib.hid hnL
      clear cc6 gg6 c0 c1 oL hnL B5 C5 hxl hs5
      have c0 := B6.out.box.c0
      have c1 := B6.out.box.c1
      go_wp2_with fail
      refine (spec_l2Ends _ _ _ _ _ _ ps ws _ B6.out.t.tre HTr.out.toPa).mono ?_
      rintro e w7 ⟨v7, rfl, o7, b7⟩
      obtain ⟨aE, cE, rfl⟩ := o7.shape
      obtain ⟨nE, hnE⟩ : ∃ z, z = (ends ps).length := ⟨_, rfl⟩
      rw [← hnE] at o7 ⊢
      have hnE2 : nE ≤ 24 := by
        have h1 := filt_length (endB ps) ps.length
        have h2 := HTr.out.n24
        rw [hnE, ends]; omega
      have HE : Hid (∀ k, k < nE → ∃ e : Nat, nth (ends ps) k = (e : Int)) := Lib.hid fun k hk => by
        obtain ⟨e, _, _, h2⟩ := nth_filt (show k < (ends ps).length by omega)
        exact ⟨e, h2⟩
      have C7 := Lib.hid (C6.out.below b7)
      have B7 := Lib.hid (B6.out.below b7)
      have hs6 := C6.out.size
      have hs7 := C7.out.size
      have HOL7 := Lib.hid ((HOL6.out.below b7).lit (.cells #[] 3))
      have HOE7 := Lib.hid ((o7.mono hs6).lit (.cells #[] 3))
      have hnil : Own (w7.alloc (.cells #[] 3)) w0.heap.size (.slice (some ⟨w7.heap.size, 0, none⟩) 0 0) [] := (own_nil0 w7).mono hs7
      have hH : Hv w0 w0 (w7.alloc (.cells #[] 3)) (w.heap.size + 1) a n cap 4000 w.heap.size tb aP nP cP aW nW cW ps ws (.slice (some ⟨w7.heap.size, 0, none⟩) 0 0) [] :=
        ⟨(C7.out.lit _).mono (by omega), B7.out.lit _, hnil, by have := B7.out.box.lt; simp [Value.ownBlock]; omega, fun k hk => by have := (World.ownsRow.lt B7.out.t.p k hk).2; simp [Value.ownBlock]; omega, fun k hk => by have := (World.ownsRow.lt B7.out.t.w k hk).2; simp [Value.ownBlock]; omega, Nat.le_refl _⟩
      have HH := Lib.hid hH
      have HNL : Hid (∀ k, (Value.slice aL nL cL).ownBlock = some k → (Value.slice (some ⟨w7.heap.size, 0, none⟩) 0 0).ownBlock ≠ some k) := Lib.hid fun k hk => by have := (World.ownsRow.lt (HOL6.out.below b7) k hk).2; simp [Value.ownBlock]; omega
      have HNE : Hid (∀ k, (Value.slice aE nE cE).ownBlock = some k → (Value.slice (some ⟨w7.heap.size, 0, none⟩) 0 0).ownBlock ≠ some k) := Lib.hid fun k hk => by have := (World.ownsRow.lt o7 k hk).2; simp [Value.ownBlock]; omega
      clear c0 c1 hnil hH C6 B6 C7 B7 o7 b7 hnE HOL6
      go_wp2_with fail
      generalize (w7.alloc (.cells #[] 3)) = w8 at *
      generalize (Value.slice (some ⟨w7.heap.size, 0, none⟩) 0 0) = v0 at *
      generalize ends ps = es at *
      go_loopw [8, 9] (fun v8 v9 wr => ∃ (k : Nat) (st : List Int), k ≤ nE ∧ v9 = .int .i64 (k : Int) ∧ st.length = k ∧ Hv w0 w0 wr (w.heap.size + 1) a n cap 4000 w.heap.size tb aP nP cP aW nW cW ps ws v8 st ∧ Own wr w0.heap.size (.slice aL nL cL) xs ∧ (∀ k, (Value.slice aL nL cL).ownBlock = some k → v8.ownBlock ≠ some k) ∧ Own wr w0.heap.size (.slice aE nE cE) es ∧ (∀ k, (Value.slice aE nE cE).ownBlock = some k → v8.ownBlock ≠ some k)) (fun _ v9 _ => nE - (intOf v9).toNat)
      case atStart => exact ⟨0, [], by omega, rfl, rfl, HH.out, HOL7.out, HNL.out, HOE7.out, HNE.out⟩
      case round =>
        clear HH HOL7 HNL HOE7 HNE
        obtain ⟨k, st, hk, rfl, hst, hH, hOL, hNL, hOE, hNE⟩ := hrel
        have HH := Lib.hid hH
        have HOL := Lib.hid hOL
        have HNL := Lib.hid hNL
        have HOE := Lib.hid hOE
        have HNE := Lib.hid hNE
        have Hst := Lib.hid hst
        have d0 := HH.out.bx.box.c0
        clear hH hOL hNL hOE hNE hst
        by_cases hlt : (k : Int) < nE
        · have hie := HOE.out.ints
          have hil := HOL.out.ints
          obtain ⟨be, oe, hae, hce⟩ := hie.at (i := k) (Below.refl _ _) (by omega)
          obtain ⟨e, hee⟩ := HE.out k (by omega)
          rw [hee] at hce
          clear hie hee
          have k1 : (0 : Int) ≤ (k : Int) := by omega
          by_cases hle : (e : Int) < nL
          · obtain ⟨bl, ol, hal, hcl⟩ := hil.at (i := e) (Below.refl _ _) (by omega)
            generalize nth xs e = u at *
            have k2 : (0 : Int) ≤ (e : Int) := by omega
            have hsz : w0.heap.size ≤ wr.heap.size := HH.out.cq.size
            clear hil
            obtain ⟨a8, c8, rfl⟩ := HH.out.o.shape
            subst hae
            subst hal
            go_wp2_with (at_builtin; refine wp_push2 _ _ rfl rfl w0.heap.size _ st rfl HH.out.o rfl (by have := Hst.out; omega) hsz ?_; intro v' w' ho hb hm; have HH7 := Lib.hid (HH.out.push ho hb hm); have HOL7 := Lib.hid (HOL.out.moved hm HNL.out); have HNL7 := Lib.hid (fun q (hq : (Value.slice (some ⟨bl, ol, none⟩) nL cL).ownBlock = some q) => (hm.2 q (World.ownsRow.lt HOL.out q hq).2 (HNL.out q hq)).1); have HOE7 := Lib.hid (HOE.out.moved hm HNE.out); have HNE7 := Lib.hid (fun q (hq : (Value.slice (some ⟨be, oe, none⟩) nE cE).ownBlock = some q) => (hm.2 q (World.ownsRow.lt HOE.out q hq).2 (HNE.out q hq)).1); clear ho hb hm)
            go_roundw
            case rel => exact ⟨k + 1, _, by omega, by go_num, by rw [List.length_append]; have := Hst.out; simp; omega, HH7.out, HOL7.out, HNL7.out, HOE7.out, HNE7.out⟩
            case measure => simp [intOf] <;> omega
          · subst hae
            clear hil
            obtain ⟨a8, c8, hv8⟩ := HH.out.o.shape
            rw [Hst.out] at hv8
            subst hv8
            go_upto_region 11 with fail
            have d0 := HH.out.bx.box.c0
            have d1 := HH.out.bx.box.c1
            have e0 := HH.out.bx.res.c0
            have e1 := HH.out.bx.res.c1
            have f0 := HH.out.bx.res.f0
            have f1 := HH.out.bx.res.f1
            have hr := HH.out.bx.res.set (.slice aP nP cP) (.slice aW nW cW)
            have hbb := draw_below HB0.out HH.out.cq.grow (show w.heap.size ≤ w.heap.size + 1 by omega) (Nat.le_refl w.heap.size) (x := .slice aP nP cP) (y := .slice aW nW cW)
            have hTT := (HH.out.bx.t.res (rb := w.heap.size) (x := .slice aP nP cP) (y := .slice aW nW cW) (by omega)).mono (base' := w.heap.size) (by omega)
            have hCC : OwnA _ w.heap.size (.slice a8 k c8) 40 := ⟨_, (own_res (rb := w.heap.size) (x := .slice aP nP cP) (y := .slice aW nW cW) HH.out.o (by omega)).mono (base' := w.heap.size) (by omega), by have := Hst.out; omega⟩
            have HZ := Lib.hid (And.intro hbb (And.intro hTT hCC))
            clear hbb hTT hCC
            go_wp2_with fail
            exact bodyPost_ret (v := .tuple #[.agg #[.slice aP nP cP, .slice aW nW cW], (.slice a8 k c8)]) (by simp [results, Try.results35, go_sem, hr.1, hr.2]) rfl ⟨⟨_, rfl, _, _, _, _, _, _, ps, ws, _, rfl, HZ.out.2.1, HZ.out.2.2⟩, HZ.out.1⟩
        · clear d0
          obtain ⟨a8, c8, hv8⟩ := HH.out.o.shape
          rw [Hst.out] at hv8
          subst hv8
          go_upto_region 11 with fail
          have d0 := HH.out.bx.box.c0
          have d1 := HH.out.bx.box.c1
          have e0 := HH.out.bx.res.c0
          have e1 := HH.out.bx.res.c1
          have f0 := HH.out.bx.res.f0
          have f1 := HH.out.bx.res.f1
          have hr := HH.out.bx.res.set (.slice aP nP cP) (.slice aW nW cW)
          have hbb := draw_below HB0.out HH.out.cq.grow (show w.heap.size ≤ w.heap.size + 1 by omega) (Nat.le_refl w.heap.size) (x := .slice aP nP cP) (y := .slice aW nW cW)
          have hTT := (HH.out.bx.t.res (rb := w.heap.size) (x := .slice aP nP cP) (y := .slice aW nW cW) (by omega)).mono (base' := w.heap.size) (by omega)
          have hCC : OwnA _ w.heap.size (.slice a8 k c8) 40 := ⟨_, (own_res (rb := w.heap.size) (x := .slice aP nP cP) (y := .slice aW nW cW) HH.out.o (by omega)).mono (base' := w.heap.size) (by omega), by have := Hst.out; omega⟩
          have HZ := Lib.hid (And.intro hbb (And.intro hTT hCC))
          clear hbb hTT hCC
          go_wp2_with fail
          exact bodyPost_ret (v := .tuple #[.agg #[.slice aP nP cP, .slice aW nW cW], (.slice a8 k c8)]) (by simp [results, Try.results35, go_sem, hr.1, hr.2]) rfl ⟨⟨_, rfl, _, _, _, _, _, _, ps, ws, _, rfl, HZ.out.2.1, HZ.out.2.2⟩, HZ.out.1⟩

end Go.Proofs.Ytnbomleieianoaa
