/- Contracts: totals, means, the bound of a list, what a seer has, by the reference. -/
import Derived.Test.YtjkkfjipgomkdaaSeer
namespace Go.Proofs.Ytjkkfjipgomkdaa
open Go.RowKit

theorem Ints.away {w : World} {a : Option Addr} {n : Nat} {xs : List Int} (h : Ints w a n xs) {g i : Nat} (ha : ∀ p, a = some p → p.block ≠ g) (u : Value) : Ints (w.setCell ⟨g, i, none⟩ u) a n xs :=
  ⟨h.1, fun hn => by
    obtain ⟨b, off, rfl, hb, hc⟩ := h.2 hn
    exact ⟨b, off, rfl, by simpa using hb, fun j hj => cell_far (hc j hj) (ha ⟨b, off, none⟩ rfl)⟩⟩
/-- Zeros and the ends, just made, apart from each other. -/
def TotR (u wc : World) (n : Nat) (es : List Int) (v5 v6 : Value) : Prop :=
  KeepR u wc ∧ ∃ (g5 : Nat) (a6 : Option Addr) (c6 : Nat), v5 = .slice (some ⟨g5, 0, none⟩) n n ∧ v6 = .slice a6 es.length c6 ∧ Own wc u.heap.size v5 (List.replicate n 0) ∧ Ints wc a6 es.length es ∧ (∀ p, a6 = some p → p.block ≠ g5)
theorem tot_mk {u wc : World} {n : Nat} {es : List Int} {v6 : Value} {b5 b6 g5 : Nat} (hk : KeepR u wc) (h5 : Own wc b5 (.slice (some ⟨g5, 0, none⟩) n n) (List.replicate n 0)) (hb : u.heap.size ≤ b5) (h6 : Own wc b6 v6 es) (s6 : ∀ q, v6.ownBlock = some q → q ≠ g5) : TotR u wc n es (.slice (some ⟨g5, 0, none⟩) n n) v6 := by
  obtain ⟨a6, c6, rfl⟩ := h6.shape
  exact ⟨hk, g5, a6, c6, rfl, rfl, h5.mono hb, h6.ints, fun p hp => by subst hp; exact s6 _ rfl⟩
set_option maxRecDepth 100000 in
set_option maxHeartbeats 2000000 in
theorem spec_l2Totals (aP : Option Addr) (nP cP : Nat) (aW : Option Addr) (nW cW : Nat) (ps ws : List Int) (aL : Option Addr) (nL cL : Nat) (l : List Int) (V : Nat → Int) (w : World) (h : Tre w aP nP cP aW nW cW ps ws) (hT : Tr ps ws) (hL : Ints w aL nL l) (hnL : (ends ps).length = nL) (hv : ∀ i e : Nat, i < nL → nth (ends ps) i = (e : Int) → nth l i = V e) (hV : ∀ x, -2997 ≤ V x ∧ V x ≤ 2997) :
    Calls Try.prog 112 #[.agg #[.slice aP nP cP, .slice aW nW cW], .slice aL nL cL] w fun e w' => ∃ v, e = .returned v ∧ Own w' w.heap.size v (totA ps ws V) ∧ Below w.heap.size w w' := by
  have HTT := Lib.hid hT
  have hn24 := hT.n24
  have hn1 := hT.n1
  have HT := Lib.hid hT
  have hwl := hT.wl
  have hl := h.p.1
  have hlw := h.w.1
  have hpn := h.pn
  have hwn := h.wn
  have hb1 := below_new w (.cells #[.slice aP nP cP, .slice aW nW cW] 28)
  have hP1 := Lib.hid (Pair.new w (.slice aP nP cP) (.slice aW nW cW) 28)
  have H := Lib.hid h
  have Hl := Lib.hid hl
  have Hlw := Lib.hid hlw
  clear h hl hlw
  have hnW : nW ≤ nP ∧ nP ≤ nW := by have := Hlw.out; have := Hl.out; omega
  have hnP : 1 ≤ nP ∧ nP ≤ 24 := by have := Hl.out; omega
  clear hn24 hn1 hT hwl hpn hwn
  have hWP : nW = nP := by omega
  clear hnW
  subst hWP
  have HL0 := Lib.hid hL
  have Hv := Lib.hid hv
  have HV := Lib.hid hV
  have hnP : 1 ≤ nW ∧ nW ≤ 24 := by have := HTT.out.n24; have := HTT.out.n1; have := Hl.out; omega
  have hel : (ends ps).length ≤ 24 := by have := filt_length (endB ps) ps.length; have := Hl.out; rw [ends]; omega
  clear hL hv hV
  have HnL := Lib.hid hnL
  have hnL24 : nL ≤ 24 := by omega
  clear hnL
  have hmk := mk_ints nW (by omega)
  have hmx : nW ≤ maxLen := by have : maxLen = 9223372036854775807 := rfl; omega
  go_enter Try.func112, Try.ntmps112
  have c0 := hP1.out.c0
  have c1 := hP1.out.c1
  go_upto_region 1 with fail
  generalize (w.alloc (.cells #[.slice aP nW cP, .slice aW nW cW] 28)) = w2 at *
  go_cut [5, 6] (fun v5 v6 wc => TotR w2 wc nW (ends ps) v5 v6)
  case first =>
    refine wp_region_noPanic ?_
    refine wp_region_held_drew (S := fun W' => KeepR w2 W' ∧ W'.cell? ⟨w.heap.size, 0, none⟩ = some (.slice aP nW cP) ∧ W'.cell? ⟨w.heap.size, 1, none⟩ = some (.slice aW nW cW)) (by kernel_rfl) ?_ (fun hHeld0 => ?_)
    · (try dsimp only); first | exact keep2 (by assumption) hP1.out | exact keep2 (KeepR.start _) hP1.out | exact keep2 (KeepR.alloc0 _ _) hP1.out | exact keep2 (KeepR.alloc (by assumption : KeepR w2 _ ∧ _).1 _) hP1.out
    refine takeH (i := 0) (oi := _) (v := ?_) rfl (by kernel_rfl) (by kernel_rfl) (by kernel_rfl) (fun _ _ _ h => h) (Or.inl ⟨by rfl, ?_⟩) (by assumption) ?_
    rotate_left
    · first | (intro w hSw; (try dsimp only at hSw); go_simp; done) | (intro w hSw; (try dsimp only at hSw); go_simp; with_reducible rfl)
    (try simp only [Act.put, List.setIfInBounds_toArray, List.set_cons_zero, List.set_cons_succ])
    refine takeH (i := 1) (oi := _) (v := ?_) rfl (by kernel_rfl) (by kernel_rfl) (by kernel_rfl) (fun _ _ _ h => h) (Or.inl ⟨by rfl, ?_⟩) (by assumption) ?_
    rotate_left
    · first | (intro w hSw; (try dsimp only at hSw); go_simp; done) | (intro w hSw; (try dsimp only at hSw); go_simp; with_reducible rfl)
    (try simp only [Act.put, List.setIfInBounds_toArray, List.set_cons_zero, List.set_cons_succ])
    refine takeH (i := 2) (oi := _) (v := ?_) rfl (by kernel_rfl) (by kernel_rfl) (by kernel_rfl) (fun _ _ _ h => h) (Or.inl ⟨by rfl, ?_⟩) (by assumption) ?_
    rotate_left
    · first | (intro w hSw; (try dsimp only at hSw); go_simp; done) | (intro w hSw; (try dsimp only at hSw); go_simp; with_reducible rfl)
    (try simp only [Act.put, List.setIfInBounds_toArray, List.set_cons_zero, List.set_cons_succ])
    refine takeH (i := 4) (oi := _) (v := ?_) rfl (by kernel_rfl) (by kernel_rfl) (by kernel_rfl) (fun _ _ _ h => h) (Or.inl ⟨by rfl, ?_⟩) (by assumption) ?_
    rotate_left
    · first | (intro w hSw; (try dsimp only at hSw); go_simp; done) | (intro w hSw; (try dsimp only at hSw); go_simp; with_reducible rfl)
    (try simp only [Act.put, List.setIfInBounds_toArray, List.set_cons_zero, List.set_cons_succ])
    refine wpAnyH_ready (rs := [3, 5]) (by kernel_rfl) (by simp) ?_
    refine consM rfl (fun Kq hKq => ?_) (consH rfl (fun Kq hKq => ?_))
    · go_simp
      refine hKq.out _ _ ?_ (fun hHeld1 => ?_)
      · (try dsimp only); first | exact keep2 (by assumption) hP1.out | exact keep2 (KeepR.start _) hP1.out | exact keep2 (KeepR.alloc0 _ _) hP1.out | exact keep2 (KeepR.alloc (by assumption : KeepR w2 _ ∧ _).1 _) hP1.out
      clear hKq Kq
      (try simp only [Act.put, List.setIfInBounds_toArray, List.set_cons_zero, List.set_cons_succ])
      clear hHeld0
      refine wpAnyH_ready (rs := [5]) (by kernel_rfl) (by simp) ?_
      refine consH rfl (fun Kq hKq => ?_)
      go_simp
      (go_at_call 87; refine (spec_l2Ends _ _ _ _ _ _ ps ws _ (H.out.below (hb1.trans (Below.mono (by assumption : KeepR w2 _ ∧ _).1 hb1.size))) HTT.out.toPa).mono ?_; rintro e w6 ⟨v6, rfl, o6, b6⟩; have hk6 := KeepR.next b6 (by assumption : KeepR w2 _ ∧ _).1)
      refine hKq.out _ _ ?_ (fun hHeld2 => ?_)
      · (try dsimp only); first | exact keep2 (by assumption) hP1.out | exact keep2 (KeepR.start _) hP1.out | exact keep2 (KeepR.alloc0 _ _) hP1.out | exact keep2 (KeepR.alloc (by assumption : KeepR w2 _ ∧ _).1 _) hP1.out
      clear hKq Kq
      (try simp only [Act.put, List.setIfInBounds_toArray, List.set_cons_zero, List.set_cons_succ])
      clear hHeld1
      refine takeH (i := 6) (oi := _) (v := ?_) rfl (by kernel_rfl) (by kernel_rfl) (by kernel_rfl) (fun _ _ _ h => h) (Or.inl ⟨by rfl, ?_⟩) (by assumption) ?_
      rotate_left
      · first | (intro w hSw; (try dsimp only at hSw); go_simp; done) | (intro w hSw; (try dsimp only at hSw); go_simp; with_reducible rfl)
      (try simp only [Act.put, List.setIfInBounds_toArray, List.set_cons_zero, List.set_cons_succ])
      refine takeH (i := 7) (oi := _) (v := ?_) rfl (by kernel_rfl) (by kernel_rfl) (by kernel_rfl) (fun _ _ _ h => h) (Or.inl ⟨by rfl, ?_⟩) (by assumption) ?_
      rotate_left
      · first | (intro w hSw; (try dsimp only at hSw); go_simp; done) | (intro w hSw; (try dsimp only at hSw); go_simp; with_reducible rfl)
      (try simp only [Act.put, List.setIfInBounds_toArray, List.set_cons_zero, List.set_cons_succ])
      refine wpAnyH_done (by kernel_rfl) ?_ _
      refine NoPanic.normal ?_
      go_wp2_with fail
      go_meet
      first
        | exact tot_mk hk6 (((Own.zeros w2 w2.heap.size nW (Nat.le_refl _) hmx).below (Below.refl _ _).drew).below b6) (Nat.le_refl _) o6 (fun q hq => by have := (World.ownsRow.lt o6 q hq).1; simp at this; omega)
        | exact tot_mk (KeepR.alloc hk6 _) (Own.zeros w6 w6.heap.size nW (Nat.le_refl _) hmx) (Below.size hk6) (o6.below (below_new w6 _)) (fun q hq => by have := (World.ownsRow.lt o6 q hq).2; omega)
    · go_simp
      (go_at_call 87; refine (spec_l2Ends _ _ _ _ _ _ ps ws _ (H.out.below (hb1.trans (Below.mono (by assumption : KeepR w2 _ ∧ _).1 hb1.size))) HTT.out.toPa).mono ?_; rintro e w6 ⟨v6, rfl, o6, b6⟩; have hk6 := KeepR.next b6 (by assumption : KeepR w2 _ ∧ _).1)
      refine hKq.out _ _ ?_ (fun hHeld1 => ?_)
      · (try dsimp only); first | exact keep2 (by assumption) hP1.out | exact keep2 (KeepR.start _) hP1.out | exact keep2 (KeepR.alloc0 _ _) hP1.out | exact keep2 (KeepR.alloc (by assumption : KeepR w2 _ ∧ _).1 _) hP1.out
      clear hKq Kq
      (try simp only [Act.put, List.setIfInBounds_toArray, List.set_cons_zero, List.set_cons_succ])
      clear hHeld0
      refine wpAnyH_ready (rs := [3]) (by kernel_rfl) (by simp) ?_
      refine consH rfl (fun Kq hKq => ?_)
      go_simp
      refine hKq.out _ _ ?_ (fun hHeld2 => ?_)
      · (try dsimp only); first | exact keep2 (by assumption) hP1.out | exact keep2 (KeepR.start _) hP1.out | exact keep2 (KeepR.alloc0 _ _) hP1.out | exact keep2 (KeepR.alloc (by assumption : KeepR w2 _ ∧ _).1 _) hP1.out
      clear hKq Kq
      (try simp only [Act.put, List.setIfInBounds_toArray, List.set_cons_zero, List.set_cons_succ])
      clear hHeld1
      refine takeH (i := 6) (oi := _) (v := ?_) rfl (by kernel_rfl) (by kernel_rfl) (by kernel_rfl) (fun _ _ _ h => h) (Or.inl ⟨by rfl, ?_⟩) (by assumption) ?_
      rotate_left
      · first | (intro w hSw; (try dsimp only at hSw); go_simp; done) | (intro w hSw; (try dsimp only at hSw); go_simp; with_reducible rfl)
      (try simp only [Act.put, List.setIfInBounds_toArray, List.set_cons_zero, List.set_cons_succ])
      refine takeH (i := 7) (oi := _) (v := ?_) rfl (by kernel_rfl) (by kernel_rfl) (by kernel_rfl) (fun _ _ _ h => h) (Or.inl ⟨by rfl, ?_⟩) (by assumption) ?_
      rotate_left
      · first | (intro w hSw; (try dsimp only at hSw); go_simp; done) | (intro w hSw; (try dsimp only at hSw); go_simp; with_reducible rfl)
      (try simp only [Act.put, List.setIfInBounds_toArray, List.set_cons_zero, List.set_cons_succ])
      refine wpAnyH_done (by kernel_rfl) ?_ _
      refine NoPanic.normal ?_
      go_wp2_with fail
      go_meet
      first
        | exact tot_mk hk6 (((Own.zeros w2 w2.heap.size nW (Nat.le_refl _) hmx).below (Below.refl _ _).drew).below b6) (Nat.le_refl _) o6 (fun q hq => by have := (World.ownsRow.lt o6 q hq).1; simp at this; omega)
        | exact tot_mk (KeepR.alloc hk6 _) (Own.zeros w6 w6.heap.size nW (Nat.le_refl _) hmx) (Below.size hk6) (o6.below (below_new w6 _)) (fun q hq => by have := (World.ownsRow.lt o6 q hq).2; omega)
  case rest =>
    obtain ⟨hk5, g5, a6, c6, rfl, rfl, o5, i6, p6⟩ := hcut
    have hk5b : Below w2.heap.size w2 wc := hk5
    have hb15 := hb1.trans (hk5b.mono hb1.size)
    have HO := Lib.hid o5
    have G6 := Lib.hid i6
    have P6 := Lib.hid p6
    have HP5 := Lib.hid (hP1.out.below hk5b)
    have hg5 : w2.heap.size ≤ g5 := o5.lt.1
    have hw2 : w.heap.size < w2.heap.size := hP1.out.lt
    clear hk5 hk5b o5 i6 p6 hP1 hb1 c0 c1 hmk
    generalize hU : w2.heap.size = U at *
    clear hU
    go_wp2_with fail
    go_loopw [7] (fun v7 wr => ∃ i : Nat, i ≤ nL ∧ v7 = .int .i64 (i : Int) ∧ Own wr U (.slice (some ⟨g5, 0, none⟩) nW nW) (totK ps ws V i) ∧ Ints wr a6 (ends ps).length (ends ps) ∧ Pair wr w.heap.size (.slice aP nW cP) (.slice aW nW cW) ∧ Below w.heap.size w wr) (fun v7 _ => nL - (intOf v7).toNat)
    case atStart => exact ⟨0, Nat.zero_le _, rfl, by rw [← totK_zero, Hl.out]; exact HO.out, G6.out, HP5.out, hb15⟩
    case round =>
      clear hb15 HO G6 HP5
      obtain ⟨i, hi, rfl, ho, h6, hP, hbel⟩ := hrel
      have c0 := hP.c0
      have c1 := hP.c1
      have HP := Lib.hid hP
      have G6 := Lib.hid h6
      clear hP h6
      by_cases hlt : (i : Int) < (ends ps).length
      · have hi' : i < nL := by have := HnL.out; omega
        obtain ⟨b6, o6, rfl, hc6⟩ := G6.out.at (i := i) (Below.refl _ _) (by omega)
        obtain ⟨e, he, hee, hei⟩ := end_nth (ps := ps) (i := i) (by omega)
        rw [hei] at hc6
        have heN : e < nW := by have := Hl.out; omega
        obtain ⟨bL, oL, rfl, hcL⟩ := HL0.out.at (i := i) hbel hi'
        rw [Hv.out i e hi' hei] at hcL
        obtain ⟨bW, oW, rfl, hcW⟩ := H.out.w.at (i := e) hbel heN
        have hne : b6 ≠ g5 := P6.out _ rfl
        have hkl : (totK ps ws V i).length = nW := by rw [totK_length]; exact Hl.out
        have d1 := ho.cell (i := e) (by omega)
        have f1 := ho.free hkl.symm e
        have hset := Own.set (w := wr.drew) ho hkl.symm e (nth ws e * V e)
        rw [← totK_succ (by omega) he hei] at hset
        have Hset := Lib.hid hset
        have hve := HV.out e
        have hwe := HTT.out.w0 e
        have hpr := mul_abs (B := 2997) (U := 20) hve hwe (by omega)
        rw [Int.mul_comm (V e) (nth ws e)] at hpr
        have hgw : g5 ≠ w.heap.size := by omega
        have HPn := Lib.hid (Pair.far (w := wr.drew) HP.out.drew (b := g5) (i := e) hgw (.int .i64 (nth ws e * V e)))
        have G6n := Lib.hid (Ints.away (w := wr.drew) (G6.out.below (Below.refl _ _).drew) (g := g5) (i := e) (fun p hp => by cases hp; exact hne) (.int .i64 (nth ws e * V e)))
        clear hset hei hee hkl ho
        generalize hz1 : nth (totK ps ws V i) e = z1 at *
        generalize hz2 : nth ws e = we at *
        generalize hz3 : V e = ve at *
        clear hz1 hz2 hz3
        have s0 : IntKind.i64.wrap (we * ve) = we * ve := IntWalk.i64_in _ (by omega)
        have s1 : (0 : Int) ≤ (e : Int) := by omega
        have s2 : (e : Int) < (nW : Int) := by omega
        have s3 : (0 : Int) ≤ (i : Int) := by omega
        have s4 : (i : Int) < (nL : Int) := by omega
        go_wp2_with fail
        refine wp_region_still_tail 19 (by kernel_rfl) (by kernel_rfl) ?_
        simp only [List.take_succ_cons, List.take_zero, List.drop_succ_cons, List.drop_zero]
        still_step
        still_step
        still_step
        still_step
        still_step
        still_step
        still_step
        still_step
        still_step
        still_step
        still_step
        still_step
        still_step
        still_step
        still_step
        still_step
        still_step
        still_step
        still_step
        refine wpStill_nil ?_
        change wpList _ _ _ _ _ wr.drew
        go_wp2_with fail
        go_roundw
        case rel => exact ⟨i + 1, by omega, by go_num, Hset.out, G6n.out, HPn.out, hbel.drew.setCell (show w.heap.size ≤ g5 by omega) _⟩
        case measure => simp [intOf]; omega
      · obtain rfl : i = nL := by have := HnL.out; omega
        have Hcl0 : Hid ((totK ps ws V i).length = nW) := Lib.hid (by rw [totK_length]; exact Hl.out)
        have Hka := Lib.hid (totK_abs HTT.out HV.out i)
        obtain ⟨G, hG⟩ : ∃ G, G = totA ps ws V := ⟨_, rfl⟩
        obtain ⟨l2, hl2⟩ : ∃ l2, l2 = totK ps ws V i := ⟨_, rfl⟩
        obtain ⟨B, hBB⟩ : ∃ B : Int, B = 59940 := ⟨_, rfl⟩
        have hB : 0 ≤ B ∧ B ≤ 1000000000 := by omega
        have HG : Hid (gath ps (nW - 1) l2 = G) := Lib.hid (by rw [hG, hl2, totA, gathA, Hl.out, HnL.out])
        have HLL : Hid (l2.length = nW) := Lib.hid (by rw [hl2]; exact Hcl0.out)
        have HA : Hid (Abs2 B l2) := Lib.hid (by rw [hl2, hBB]; exact Hka.out)
        rw [← hl2] at ho
        have HGt : Hid (totA ps ws V = G) := Lib.hid hG.symm
        have HO := Lib.hid ho
        clear hG hl2 hBB ho c0 c1
        have c0 := HP.out.c0
        have c1 := HP.out.c1
        go_wp2_with fail
        go_loopw [8] (fun v wr => ∃ (k : Nat) (cur : List Int) (C : Int), k < nW ∧ v = .int .i64 (k : Int) ∧ cur.length = nW ∧ gath ps k cur = G ∧ 0 ≤ C ∧ C * 2 ^ k ≤ B * 8388608 ∧ Abs2 C cur ∧ Own wr U (.slice (some ⟨g5, 0, none⟩) nW nW) cur ∧ Pair wr w.heap.size (.slice aP nW cP) (.slice aW nW cW) ∧ Below w.heap.size w wr) (fun v _ => (intOf v).toNat)
        case atStart => exact ⟨nW - 1, l2, B, by omega, vi (by omega), HLL.out, HG.out, hB.1, pow_start hB.1 (by omega), HA.out, HO.out, HP.out, hbel⟩
        case round =>
          clear hbel HP HO G6
          obtain ⟨k, cur, C, hk, rfl, hcl, hcg, hC0, hC1, hCa, hown, hP, hbel⟩ := hrel
          have c0 := hP.c0
          have c1 := hP.c1
          have HPk := Lib.hid hP
          have Hcl := Lib.hid hcl
          clear hP hcl
          by_cases hlt : (k : Int) > 0
          · obtain ⟨K, rfl⟩ : ∃ K : Nat, k = K + 1 := ⟨k - 1, by omega⟩
            obtain ⟨bP, oP, rfl, hc⟩ := H.out.p.at (i := K + 1) hbel (by omega)
            have hup := HTT.out.toPa.upN (x := K + 1) (by omega) (by have := Hl.out; omega)
            rw [hup.1] at hc
            have hpl := hup.2
            have hstep : gath ps K (cur.set (par ps (K + 1)) (nth cur (par ps (K + 1)) + nth cur (K + 1))) = G := hcg
            have hCb := pow_bd hB.2 hC0 hC1
            have hCs := pow_step (k := K) hC1
            have habs := gath_bd2 (k := K + 1) hCa (show par ps (K + 1) < cur.length by have := Hcl.out; omega)
            have hlen2 : (cur.set (par ps (K + 1)) (nth cur (par ps (K + 1)) + nth cur (K + 1))).length = nW := by rw [List.length_set]; exact Hcl.out
            clear hup hcg
            generalize par ps (K + 1) = p at *
            have d1 := hown.cell (i := p) (by have := Hcl.out; omega)
            have d2 := hown.cell (i := K + 1) (by have := Hcl.out; omega)
            have f1 := hown.free Hcl.out.symm p
            have hset := Own.set (w := wr.drew) hown Hcl.out.symm p (nth cur p + nth cur (K + 1))
            have q1 := hCa p
            have q2 := hCa (K + 1)
            generalize hz1 : nth cur p = z1 at *
            generalize hz2 : nth cur (K + 1) = z2 at *
            have Hset := Lib.hid hset
            have Hown := Lib.hid hown
            have Hstep := Lib.hid hstep
            have Habs := Lib.hid habs
            have Hlen2 := Lib.hid hlen2
            have HCa := Lib.hid hCa
            have HCs := Lib.hid hCs
            have HCC := Lib.hid hC1
            have HPn := Lib.hid (Pair.far (w := wr.drew) HPk.out.drew (b := g5) (i := p) (show g5 ≠ w.heap.size by omega) (.int .i64 (z1 + z2)))
            clear hset hown hstep habs hz1 hz2 hlen2 hCa hCs hC1
            have s0 : IntKind.i64.wrap (z1 + z2) = z1 + z2 := IntWalk.i64_in _ (by omega)
            have s1 : (0 : Int) ≤ (p : Int) := by omega
            have s2 : (p : Int) < (nW : Int) := by omega
            have s3 : (0 : Int) ≤ ((K + 1 : Nat) : Int) := by omega
            have s4 : ((K + 1 : Nat) : Int) < (nW : Int) := by omega
            have s5 : (0 : Int) ≤ (K : Int) + 1 := by omega
            have s6 : (K : Int) + 1 < (nW : Int) := by omega
            clear hCb
            go_wp2_with fail
            refine wp_region_still_tail 20 (by kernel_rfl) (by kernel_rfl) ?_
            simp only [List.take_succ_cons, List.take_zero, List.drop_succ_cons, List.drop_zero]
            still_step
            still_step
            still_step
            still_step
            still_step
            still_step
            still_step
            still_step
            still_step
            still_step
            still_step
            still_step
            still_step
            still_step
            still_step
            still_step
            still_step
            still_step
            still_step
            still_step
            refine wpStill_nil ?_
            change wpList _ _ _ _ _ wr.drew
            go_wp2_with fail
            go_roundw
            case rel => exact ⟨K, _, 2 * C, by omega, vi (by omega), Hlen2.out, Hstep.out, by omega, HCs.out, Habs.out, Hset.out, HPn.out, hbel.drew.setCell (show w.heap.size ≤ g5 by omega) _⟩
            case measure => simp [intOf]
          · obtain rfl : k = 0 := by omega
            have hfin : cur = G := hcg
            rw [hfin] at hown
            go_wp2_with fail
            go_ret
            exact ⟨_, rfl, by rw [HGt.out]; exact hown.mono (by omega), hbel⟩

end Go.Proofs.Ytjkkfjipgomkdaa
