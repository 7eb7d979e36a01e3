/- Contracts and plain laws for the statement FnStoppedMeans, part 7. No conditions but those stated in each. -/
import Derived.Test.YtnbomleieianoaaGreatBnFnStoppedMeans6
import Derived.Test.YtnbomleieianoaaGreatBnFnStoppedMeans3
import Derived.Test.YtnbomleieianoaaGreatBnFnStoppedMeans5
import Derived.Test.YtnbomleieianoaaGreatBnFnStoppedMeans4
/- Contract: a process drawn by the cursor. No conditions but those stated. -/
namespace Go.Proofs.YtnbomleieianoaaGreat
open Go.RowKit

/-- Sums and a list of numbers that is being made, of the call's own and apart; the tree's box lies ahead of them. -/
structure Fa (w wr : World) (g : Nat) (a : Option Addr) (n cap : Nat) (lim : Int) (x y vS vO : Value) (s xs : List Int) : Prop where
  cq : Cq w wr g a n cap lim
  box : Pair wr w.heap.size x y
  s : Own wr (w.heap.size + 1) vS s
  o : Own wr (w.heap.size + 1) vO xs
  ne : ∀ k, vS.ownBlock = some k → vO.ownBlock = some k → False
theorem Fa.below {w wr w' : World} {g : Nat} {a : Option Addr} {n cap : Nat} {lim : Int} {x y vS vO : Value} {s xs : List Int} (h : Fa w wr g a n cap lim x y vS vO s xs) (hb : Below wr.heap.size wr w') : Fa w w' g a n cap lim x y vS vO s xs :=
  ⟨h.cq.below hb, h.box.below hb, h.s.below hb, h.o.below hb, h.ne⟩
theorem Fa.drew {w wr : World} {g : Nat} {a : Option Addr} {n cap : Nat} {lim : Int} {x y vS vO : Value} {s xs : List Int} (h : Fa w wr g a n cap lim x y vS vO s xs) : Fa w wr.drew g a n cap lim x y vS vO s xs := h.below (Below.refl _ _).drew
theorem Fa.drewN {w wr : World} {g : Nat} {a : Option Addr} {n cap : Nat} {lim : Int} {x y vS vO : Value} {s xs : List Int} (h : Fa w wr g a n cap lim x y vS vO s xs) (m : Nat) : Fa w (wr.drewN m) g a n cap lim x y vS vO s xs := h.below (below_drewN (Below.refl _ _) m)
theorem Fa.step {w wr w' : World} {g : Nat} {a : Option Addr} {n cap : Nat} {lim lim' : Int} {x y vS vO : Value} {s xs : List Int} (h : Fa w wr g a n cap lim x y vS vO s xs) (hc : Cur w' g a n cap lim') (hg : wr.grownBy w' (some g)) : Fa w w' g a n cap lim' x y vS vO s xs :=
  ⟨h.cq.step hc hg, pair_other h.box hg (by have := h.cq.glt; omega), own_other h.s hg (by have := h.cq.glt; omega), own_other h.o hg (by have := h.cq.glt; omega), h.ne⟩
theorem Fa.mono {w wr : World} {g : Nat} {a : Option Addr} {n cap : Nat} {lim lim' : Int} {x y vS vO : Value} {s xs : List Int} (h : Fa w wr g a n cap lim x y vS vO s xs) (hl : lim ≤ lim') : Fa w wr g a n cap lim' x y vS vO s xs :=
  ⟨h.cq.mono hl, h.box, h.s, h.o, h.ne⟩
theorem Fa.push {w wr w' : World} {g : Nat} {a : Option Addr} {n cap : Nat} {lim : Int} {x y vS vO v' : Value} {s xs xs' : List Int} (h : Fa w wr g a n cap lim x y vS vO s xs) (ho : Own w' (w.heap.size + 1) v' xs') (hb : Below (w.heap.size + 1) wr w') (hm : Moved wr vO w' v') : Fa w w' g a n cap lim x y vS v' s xs' :=
  ⟨h.cq.up (hb.mono (by omega)), h.box.up hb (by omega), h.s.moved hm (fun k h1 h2 => h.ne k h1 h2), ho, fun k h1 h2 => (hm.2 k (World.ownsRow.lt h.s k h1).2 (fun e => h.ne k h1 e)).1 h2⟩
theorem Fa.put {w wr : World} {g : Nat} {a : Option Addr} {n cap : Nat} {lim : Int} {x y vS : Value} {go no co : Nat} {s xs : List Int} (h : Fa w wr g a n cap lim x y vS (.slice (some ⟨go, 0, none⟩) no co) s xs) (hn : no = xs.length) (i : Nat) (u : Int) : Fa w (wr.setCell ⟨go, i, none⟩ (.int .i64 u)) g a n cap lim x y vS (.slice (some ⟨go, 0, none⟩) no co) s (xs.set i u) := by
  have h1 := h.o.lt
  exact ⟨h.cq.up (show Below w.heap.size wr (wr.setCell ⟨go, i, none⟩ (.int .i64 u)) from (Below.refl w.heap.size wr).setCell (show w.heap.size ≤ go by omega) _), h.box.far (by omega) _, h.s.far (a := ⟨go, i, none⟩) (fun e => h.ne go e rfl) _, h.o.set hn i u, h.ne⟩
theorem kid_nth {ps : List Int} (hp : Pa ps) {x i : Nat} (hi : i < (kids ps x).length) : ∃ j : Nat, x < j ∧ j < ps.length ∧ nth (kids ps x) i = (j : Int) := by
  obtain ⟨j, h1, h2, h3⟩ := mem_filt.1 (nth_mem hi)
  exact ⟨j, kids_lt hp h1 (by simpa using h2), h1, h3⟩
set_option maxRecDepth 100000 in
set_option maxHeartbeats 4000000 in
theorem spec_fair3 (g : Nat) (a : Option Addr) (n cap : Nat) (lim : Int) (base : Nat) (aP : Option Addr) (nP cP : Nat) (aW : Option Addr) (nW cW : Nat) (ps ws : List Int) (w : World) (hl : lim ≤ 20000) (hD : DTre w base aP nP cP aW nW cW ps ws) (hgb : g < base) (h : Cur w g a n cap lim) :
    Calls Tryz.prog 127 #[.pointer (some ⟨g, 0, none⟩), .agg #[.slice aP nP cP, .slice aW nW cW]] w fun e w' => (∃ v, e = .returned v ∧ OwnA w' w.heap.size v 31) ∧ Cur w' g a n cap (lim + 1000) ∧ w.grownBy w' (some g) := by
  have C0 := Lib.hid ((Cq.start h).lit (.cells #[.slice aP nP cP, .slice aW nW cW] 26))
  have P0 := Lib.hid (Pair.new w (.slice aP nP cP) (.slice aW nW cW) 26)
  have hs0 : w.heap.size < (w.alloc (.cells #[.slice aP nP cP, .slice aW nW cW] 26)).heap.size := by simp
  have hgw := h.lt
  have hnP := hD.pn
  have HD := Lib.hid (fun w' (hg : w.grownBy w' (some g)) => (hD.other hg hgb).tre)
  have Hl := Lib.hid hD.p.ints.1
  have Hlw := Lib.hid hD.w.ints.1
  clear h hD
  go_enter Tryz.func127, Tryz.ntmps127
  have c0 := P0.out.c0
  have c1 := P0.out.c1
  go_wp2_with fail
  generalize (w.alloc (.cells #[.slice aP nP cP, .slice aW nW cW] 26)) = w1 at *
  refine (spec_l2Good _ _ _ _ _ _ ps ws _ (HD.out _ C0.out.grow)).mono ?_
  rintro e w2 ⟨rfl, b2⟩
  have C2 := Lib.hid (C0.out.below b2)
  have P2 := Lib.hid (P0.out.below b2)
  have d0 := P2.out.c0
  have d1 := P2.out.c1
  have hs2 : w.heap.size < w2.heap.size := P2.out.lt
  clear b2 c0 c1 C0 P0
  cases ht : treeB ps ws
  · clear ht
    go_wp2_with fail
    refine (spec_pays g a n cap _ aP nP cP aW nW cW _ (by omega) hnP C2.out.cur).mono ?_
    rintro e w3 ⟨⟨v, rfl, ov⟩, c3, g3⟩
    have C3 := Lib.hid (C2.out.step c3 g3)
    have OV := Lib.hid (ov.mono (base' := w.heap.size) (by omega))
    clear ov c3 g3
    go_wp2_with fail
    go_ret
    exact ⟨⟨_, rfl, OV.out⟩, C3.out.cur.mono (by omega), C3.out.grow⟩
  · have hTr := Lib.hid (treeB_t ht)
    clear ht
    go_wp2_with fail
    refine (spec_one g a n cap _ _ _ (by omega) (by omega) C2.out.cur).mono ?_
    rintro e w3 ⟨⟨t, rfl⟩, c3, g3⟩
    have C3 := Lib.hid (C2.out.step c3 g3)
    have P3 := Lib.hid (pair_other P2.out g3 (by omega))
    have e0 := P3.out.c0
    have e1 := P3.out.c1
    have hs3 : w.heap.size < w3.heap.size := P3.out.lt
    clear c3 g3 d0 d1 C2 P2
    cases t
    rotate_left
    · go_wp2_with fail
      refine (spec_pays g a n cap _ aP nP cP aW nW cW _ (by omega) hnP C3.out.cur).mono ?_
      rintro e w4 ⟨⟨v, rfl, ov⟩, c4, g4⟩
      have C4 := Lib.hid (C3.out.step c4 g4)
      have OV := Lib.hid (ov.mono (base' := w.heap.size) (by omega))
      clear ov c4 g4
      go_wp2_with fail
      go_ret
      exact ⟨⟨_, rfl, OV.out⟩, C4.out.cur.mono (by omega), C4.out.grow⟩
    · go_wp2_with fail
      refine (spec_l2Sums _ _ _ _ _ _ ps ws _ (HD.out _ C3.out.grow) hTr.out).mono ?_
      rintro e w4 ⟨v4, rfl, o4, b4⟩
      obtain ⟨a4, c4, rfl⟩ := o4.shape
      have Hsl : Hid ((sums ps ws).length = nP) := Lib.hid (by rw [sums_length hTr.out]; exact Hl.out)
      rw [Hsl.out] at o4 ⊢
      obtain ⟨gs, cs4, hv4, hgs, hgs2⟩ := o4.form (by have := Hsl.out; have := hTr.out.n1; have := Hl.out; omega)
      rw [Hsl.out] at hv4
      obtain ⟨rfl, -, rfl⟩ := Value.slice.inj hv4
      clear hv4
      have C4 := Lib.hid (C3.out.below b4)
      have P4 := Lib.hid (P3.out.below b4)
      have O4 := Lib.hid (o4.mono (base' := w.heap.size + 1) (by omega))
      have hs4 : w.heap.size < w4.heap.size := P4.out.lt
      have hn1 : 1 ≤ nP ∧ nP ≤ 24 := by have := hTr.out.n1; have := hTr.out.n24; have := Hl.out; omega
      clear o4 b4 e0 e1 C3 P3
      go_wp2_with fail
      refine (spec_pick g a n cap _ _ _ (by omega) (by omega) C4.out.cur).mono ?_
      rintro e w5 ⟨⟨x, rfl, hx0, hx1⟩, c5, g5⟩
      have C5 := Lib.hid (C4.out.step c5 g5)
      have P5 := Lib.hid (pair_other P4.out g5 (by omega))
      have O5 := Lib.hid (own_other O4.out g5 (by omega))
      have hs5 : w.heap.size < w5.heap.size := P5.out.lt
      clear c5 g5 C4 P4 O4
      obtain ⟨u, hu⟩ : ∃ u, u = x - 5 := ⟨_, rfl⟩
      have k0 : IntKind.i64.wrap (x - 5) = u := by rw [hu]; exact IntWalk.i64_in _ (by omega)
      have Hu := Lib.hid hu
      clear hu hx0 hx1
      have hlit : Own (w5.alloc (.cells #[.int .i64 u] 3)) (w.heap.size + 1) (.slice (some ⟨w5.heap.size, 0, none⟩) 1 1) [u] := World.ownsRow_lit (size := 1) (e := 3) (base := w.heap.size + 1) w5 #[.int .i64 u] 1 (by omega) (by simp [maxLen]) (by simp)
      have hF : Fa w (w5.alloc (.cells #[.int .i64 u] 3)) g a n cap (lim + 10) (.slice aP nP cP) (.slice aW nW cW) (.slice (some ⟨gs, 0, none⟩) nP c4) (.slice (some ⟨w5.heap.size, 0, none⟩) 1 1) (sums ps ws) [u] :=
        ⟨(C5.out.lit _).mono (by omega), P5.out.alloc _, O5.out.lit _, hlit, fun k h1 h2 => by have := (World.ownsRow.lt O5.out k h1).2; simp [Value.ownBlock] at h2; omega⟩
      have HF := Lib.hid hF
      clear hlit hF C5 P5 O5
      go_wp2_with fail
      generalize (w5.alloc (.cells #[.int .i64 u] 3)) = w6 at *
      generalize (Value.slice (some ⟨w5.heap.size, 0, none⟩) 1 1) = v6 at *
      go_loopw [6, 7] (fun v6 v7 wr => ∃ (k : Nat) (xs : List Int), 1 ≤ k ∧ k ≤ nP ∧ v7 = .int .i64 (k : Int) ∧ xs.length = k ∧ Fa w wr g a n cap (lim + 10) (.slice aP nP cP) (.slice aW nW cW) (.slice (some ⟨gs, 0, none⟩) nP c4) v6 (sums ps ws) xs) (fun _ v7 _ => nP - (intOf v7).toNat)
      case atStart => exact ⟨1, [u], Nat.le_refl _, hn1.1, rfl, rfl, HF.out⟩
      case round =>
        clear HF
        obtain ⟨k, xs, hk1, hk2, rfl, hxl, hF⟩ := hrel
        have Hxl := Lib.hid hxl
        have HF := Lib.hid hF
        clear hxl hF
        by_cases hlt : (k : Int) < nP
        · obtain ⟨bP, oP, rfl, hcP⟩ := (HD.out _ HF.out.cq.grow).p.at (i := k) (Below.refl _ _) (by omega)
          have hup := hTr.out.toPa.upN (x := k) (by omega) (by have := Hl.out; omega)
          rw [hup.1] at hcP
          have hupl := hup.2
          generalize par ps k = p at *
          obtain ⟨go, co, hv, hgo, hgl⟩ := HF.out.o.form (by have := Hxl.out; omega)
          rw [Hxl.out] at hv
          subst hv
          have hcO := HF.out.o.cell (i := p) (by have := Hxl.out; omega)
          have d0 := HF.out.box.c0
          have hsr : w.heap.size + 1 ≤ wr.heap.size := HF.out.box.lt
          have hxs : xs.length ≤ 24 := by have := Hxl.out; omega
          generalize nth xs p = q at *
          clear hup
          go_wp2_with (at_builtin; refine wp_push2 (.tmp 38) (.tmp 47) rfl rfl (w.heap.size + 1) _ xs rfl HF.out.o rfl (by omega) hsr ?_; intro v' w' ho hb hm; have hF2 := HF.out.push ho hb hm; have HF2 := Lib.hid hF2; clear hF2 ho hb hm)
          go_roundw
          case rel => exact ⟨k + 1, _, by omega, by omega, by go_num, by simp [Hxl.out], HF2.out⟩
          case measure => simp [intOf]; omega
        · obtain rfl : k = nP := by omega
          obtain ⟨go, co, hv, hgo, hgl⟩ := HF.out.o.form (by have := Hxl.out; omega)
          rw [Hxl.out] at hv
          subst hv
          have d0 := HF.out.box.c0
          clear hlt
          go_wp2_with fail
          clear d0
          go_loopw [8] (fun v8 wr => ∃ (x : Nat) (xs : List Int), x ≤ k ∧ v8 = .int .i64 (x : Int) ∧ xs.length = k ∧ Fa w wr g a n cap (lim + 10 + 2 * (x : Int)) (.slice aP k cP) (.slice aW nW cW) (.slice (some ⟨gs, 0, none⟩) k c4) (.slice (some ⟨go, 0, none⟩) k co) (sums ps ws) xs) (fun v8 _ => k - (intOf v8).toNat)
          case atStart => exact ⟨0, xs, Nat.zero_le _, rfl, Hxl.out, HF.out.mono (by omega)⟩
          case round =>
            clear HF Hxl
            obtain ⟨x, xs, hx, rfl, hxl, hF⟩ := hrel
            have Hxl := Lib.hid hxl
            have HF := Lib.hid hF
            clear hxl hF
            by_cases hlt : (x : Int) < k
            · have d0 := HF.out.box.c0
              have d1 := HF.out.box.c1
              go_wp2_with fail
              refine (spec_l2Kids _ _ _ _ _ _ ps ws _ _ (HD.out _ HF.out.cq.grow) hTr.out.toPa (by omega)).mono ?_
              rintro e w7 ⟨v7, rfl, o7, b7⟩
              rw [Int.toNat_natCast] at o7
              obtain ⟨a7, c7, rfl⟩ := o7.shape
              have HF7 := Lib.hid (HF.out.below b7)
              have hgl7 : go < wr.heap.size := HF.out.o.lt.2
              have Hne7 : Hid (∀ p, a7 = some p → p.block ≠ go) := Lib.hid fun p hp e => by
                subst hp
                rcases Nat.eq_zero_or_pos (kids ps x).length with h0 | h0
                · have h1 := World.ownsRow.lt o7 p.block
                  have : (Value.slice (some p) (kids ps x).length c7).ownBlock = some p.block := by
                    obtain ⟨b, off, _⟩ := p; rfl
                  have := h1 this; omega
                · obtain ⟨gg, cc, he, h1, _⟩ := o7.form h0
                  have := (Value.slice.inj he).1; cases this; simp at e; omega
              have I7 := Lib.hid o7.ints
              have Hkl : Hid (∀ i, i < (kids ps x).length → ∃ j : Nat, x < j ∧ j < k ∧ nth (kids ps x) i = (j : Int)) := Lib.hid fun i hi => by have := kid_nth hTr.out.toPa hi; rw [Hl.out] at this; exact this
              have hml : (kids ps x).length ≤ 24 := by have := filt_length (fun y => nth ps y == (x : Int)) ps.length; have := Hl.out; unfold kids; omega
              generalize (kids ps x) = kl at *
              obtain ⟨m, hm⟩ : ∃ m, m = kl.length := ⟨_, rfl⟩
              rw [← hm] at I7 Hkl hml ⊢
              clear hm o7 b7 d0 d1 HF
              go_wp2_with fail
              go_loopw [10] (fun v10 wi => ∃ (i : Nat) (xs : List Int), i ≤ m ∧ v10 = .int .i64 (i : Int) ∧ xs.length = k ∧ Ints wi a7 m kl ∧ Fa w wi g a n cap (lim + 10 + 2 * (x : Int)) (.slice aP k cP) (.slice aW nW cW) (.slice (some ⟨gs, 0, none⟩) k c4) (.slice (some ⟨go, 0, none⟩) k co) (sums ps ws) xs) (fun v10 _ => m - (intOf v10).toNat)
              case atStart => exact ⟨0, xs, Nat.zero_le _, rfl, Hxl.out, I7.out, HF7.out⟩
              case round =>
                clear I7 HF7 Hxl
                obtain ⟨i, xs, hi, rfl, hxl, hI, hF⟩ := hrel
                have Hxl := Lib.hid hxl
                have HF := Lib.hid hF
                have HI := Lib.hid hI
                clear hxl hF hI
                by_cases hlti : (i : Int) < m
                · obtain ⟨b7, o7, rfl, hc7⟩ := HI.out.at (i := i) (Below.refl _ _) (by omega)
                  obtain ⟨j, hxj, hjk, hj⟩ := Hkl.out i (by omega)
                  rw [hj] at hc7
                  clear hj
                  have hcx := HF.out.o.cell (i := x) (by have := Hxl.out; omega)
                  have hcj := HF.out.o.cell (i := j) (by have := Hxl.out; omega)
                  have hfj := HF.out.o.free Hxl.out.symm j
                  have HF2 := Lib.hid (HF.out.drew.put Hxl.out.symm j (nth xs x))
                  have HI2 := Lib.hid (ints_far (w := wr.drew) (HI.out.below (Below.refl _ _).drew) (b := go) (i := j) Hne7.out (.int .i64 (nth xs x)))
                  generalize hox : nth xs x = ox at *
                  generalize nth xs j = oj at *
                  have Hox := Lib.hid hox
                  clear hox
                  have s1 : (0 : Int) ≤ (i : Int) := by omega
                  have s2 : (i : Int) < (m : Int) := by omega
                  have s3 : (0 : Int) ≤ (x : Int) := by omega
                  have s4 : (x : Int) < (k : Int) := by omega
                  have s5 : (0 : Int) ≤ (j : Int) := by omega
                  have s6 : (j : Int) < (k : Int) := by omega
                  go_wp2_with fail
                  refine wp_region_still_tail 10 (by kernel_rfl) (by kernel_rfl) ?_
                  simp only [List.take_succ_cons, List.take_zero, List.drop_succ_cons, List.drop_zero]
                  still_step
                  still_step
                  still_step
                  still_step
                  still_step
                  still_step
                  still_step
                  still_step
                  still_step
                  still_step
                  refine wpStill_nil ?_
                  change wpList _ _ _ _ _ wr.drew
                  go_wp2_with fail
                  go_roundw
                  case rel => exact ⟨i + 1, _, by omega, by go_num, by rw [List.length_set]; exact Hxl.out, HI2.out, HF2.out⟩
                  case measure => simp [intOf]; omega
                · obtain rfl : i = m := by omega
                  clear hlti
                  by_cases hm1 : (i : Int) > 1
                  · obtain ⟨b7, o7, rfl, hc7⟩ := HI.out.at (i := 0) (Below.refl _ _) (by omega)
                    obtain ⟨b7', o7', he7, hc7'⟩ := HI.out.at (i := i - 1) (Below.refl _ _) (by omega)
                    cases he7
                    obtain ⟨A, hxA, hAk, hA⟩ := Hkl.out 0 (by omega)
                    obtain ⟨B, hxB, hBk, hB⟩ := Hkl.out (i - 1) (by omega)
                    rw [hA] at hc7
                    rw [hB] at hc7'
                    clear hA hB
                    have k1 : IntKind.i64.wrap ((i : Int) - 1) = (i : Int) - 1 := IntWalk.i64_in _ (by omega)
                    have k2 : (0 : Int) ≤ (i : Int) - 1 := by omega
                    have k3 : (i : Int) - 1 < (i : Int) := by omega
                    have k4 : (0 : Int) < (i : Int) := by omega
                    have k5 : 0 < i := by omega
                    rw [Nat.add_zero] at hc7
                    go_wp2_with fail
                    go_quiet (fail)
                    clear hc7 hc7' k1 k2 k3 k4 k5
                    have HFq : Hid (∀ m', Fa w (wr.drewN m') g a n cap (lim + 10 + 2 * (x : Int)) (.slice aP k cP) (.slice aW nW cW) (.slice (some ⟨gs, 0, none⟩) k c4) (.slice (some ⟨go, 0, none⟩) k co) (sums ps ws) xs) := Lib.hid fun m' => HF.out.drewN m'
                    have hcx := HF.out.o.cell (i := x) (by have := Hxl.out; omega)
                    have hcs := HF.out.s.cell (i := B) (by have := Hsl.out; omega)
                    have hAx : A ≠ x := by omega
                    have r1 : (0 : Int) ≤ (x : Int) := by omega
                    have r2 : (x : Int) < (k : Int) := by omega
                    have r3 : (0 : Int) ≤ (B : Int) := by omega
                    have r4 : (B : Int) < (k : Int) := by omega
                    have r5 : (0 : Int) ≤ (A : Int) := by omega
                    have r6 : (A : Int) < (k : Int) := by omega
                    go_wp2_with fail
                    refine wp_region_noPanic ?_
                    refine wp_region_held_drew (S := (fun W' => W'.cell? ⟨go, x, none⟩ = some (.int .i64 (nth xs x)) ∧ W'.cell? ⟨gs, B, none⟩ = some (.int .i64 (nth (sums ps ws) B)))) (by kernel_rfl) ?_ (fun hHeld0 => ?_)
                    · (try dsimp only); first | assumption | exact ⟨hcx, hcs⟩ | exact HK.out
                    refine takeH (i := 0) (oi := _) (v := ?_) rfl (by kernel_rfl) (by kernel_rfl) (by kernel_rfl) (fun _ _ _ h => h) (Or.inl ⟨by rfl, ?_⟩) (by assumption) ?_
                    rotate_left
                    · first | (intro w hSw; (try dsimp only at hSw); go_simp; done) | (intro w hSw; (try dsimp only at hSw); go_simp; with_reducible rfl)
                    (try simp only [Act.put, List.setIfInBounds_toArray, List.set_cons_zero, List.set_cons_succ])
                    refine takeH (i := 1) (oi := _) (v := ?_) rfl (by kernel_rfl) (by kernel_rfl) (by kernel_rfl) (fun _ _ _ h => h) (Or.inl ⟨by rfl, ?_⟩) (by assumption) ?_
                    rotate_left
                    · first | (intro w hSw; (try dsimp only at hSw); go_simp; done) | (intro w hSw; (try dsimp only at hSw); go_simp; with_reducible rfl)
                    (try simp only [Act.put, List.setIfInBounds_toArray, List.set_cons_zero, List.set_cons_succ])
                    refine takeH (i := 2) (oi := _) (v := ?_) rfl (by kernel_rfl) (by kernel_rfl) (by kernel_rfl) (fun _ _ _ h => h) (Or.inl ⟨by rfl, ?_⟩) (by assumption) ?_
                    rotate_left
                    · first | (intro w hSw; (try dsimp only at hSw); go_simp; done) | (intro w hSw; (try dsimp only at hSw); go_simp; with_reducible rfl)
                    (try simp only [Act.put, List.setIfInBounds_toArray, List.set_cons_zero, List.set_cons_succ])
                    refine takeH (i := 3) (oi := _) (v := ?_) rfl (by kernel_rfl) (by kernel_rfl) (by kernel_rfl) (fun _ _ _ h => h) (Or.inl ⟨by rfl, ?_⟩) (by assumption) ?_
                    rotate_left
                    · first | (intro w hSw; (try dsimp only at hSw); go_simp; done) | (intro w hSw; (try dsimp only at hSw); go_simp; with_reducible rfl)
                    (try simp only [Act.put, List.setIfInBounds_toArray, List.set_cons_zero, List.set_cons_succ])
                    refine takeH (i := 4) (oi := _) (v := ?_) rfl (by kernel_rfl) (by kernel_rfl) (by kernel_rfl) (fun _ _ _ h => h) (Or.inl ⟨by rfl, ?_⟩) (by assumption) ?_
                    rotate_left
                    · first | (intro w hSw; (try dsimp only at hSw); go_simp; done) | (intro w hSw; (try dsimp only at hSw); go_simp; with_reducible rfl)
                    (try simp only [Act.put, List.setIfInBounds_toArray, List.set_cons_zero, List.set_cons_succ])
                    refine takeH (i := 5) (oi := _) (v := ?_) rfl (by kernel_rfl) (by kernel_rfl) (by kernel_rfl) (fun _ _ _ h => h) (Or.inl ⟨by rfl, ?_⟩) (by assumption) ?_
                    rotate_left
                    · first | (intro w hSw; (try dsimp only at hSw); go_simp; done) | (intro w hSw; (try dsimp only at hSw); go_simp; with_reducible rfl)
                    (try simp only [Act.put, List.setIfInBounds_toArray, List.set_cons_zero, List.set_cons_succ])
                    refine takeH (i := 6) (oi := _) (v := ?_) rfl (by kernel_rfl) (by kernel_rfl) (by kernel_rfl) (fun _ _ _ h => h) (Or.inl ⟨by rfl, ?_⟩) (by assumption) ?_
                    rotate_left
                    · first | (intro w hSw; (try dsimp only at hSw); go_simp; done) | (intro w hSw; (try dsimp only at hSw); go_simp; with_reducible rfl)
                    (try simp only [Act.put, List.setIfInBounds_toArray, List.set_cons_zero, List.set_cons_succ])
                    refine takeH (i := 7) (oi := _) (v := ?_) rfl (by kernel_rfl) (by kernel_rfl) (by kernel_rfl) (fun _ _ _ h => h) (Or.inl ⟨by rfl, ?_⟩) (by assumption) ?_
                    rotate_left
                    · first | (intro w hSw; (try dsimp only at hSw); go_simp; done) | (intro w hSw; (try dsimp only at hSw); go_simp; with_reducible rfl)
                    (try simp only [Act.put, List.setIfInBounds_toArray, List.set_cons_zero, List.set_cons_succ])
                    refine takeH (i := 8) (oi := _) (v := ?_) rfl (by kernel_rfl) (by kernel_rfl) (by kernel_rfl) (fun _ _ _ h => h) (Or.inl ⟨by rfl, ?_⟩) (by assumption) ?_
                    rotate_left
                    · first | (intro w hSw; (try dsimp only at hSw); go_simp; done) | (intro w hSw; (try dsimp only at hSw); go_simp; with_reducible rfl)
                    (try simp only [Act.put, List.setIfInBounds_toArray, List.set_cons_zero, List.set_cons_succ])
                    refine takeH (i := 9) (oi := _) (v := ?_) rfl (by kernel_rfl) (by kernel_rfl) (by kernel_rfl) (fun _ _ _ h => h) (Or.inl ⟨by rfl, ?_⟩) (by assumption) ?_
                    rotate_left
                    · first | (intro w hSw; (try dsimp only at hSw); go_simp; done) | (intro w hSw; (try dsimp only at hSw); go_simp; with_reducible rfl)
                    (try simp only [Act.put, List.setIfInBounds_toArray, List.set_cons_zero, List.set_cons_succ])
                    refine takeH (i := 10) (oi := _) (v := ?_) rfl (by kernel_rfl) (by kernel_rfl) (by kernel_rfl) (fun _ _ _ h => h) (Or.inl ⟨by rfl, ?_⟩) (by assumption) ?_
                    rotate_left
                    · first | (intro w hSw; (try dsimp only at hSw); go_simp; done) | (intro w hSw; (try dsimp only at hSw); go_simp; with_reducible rfl)
                    (try simp only [Act.put, List.setIfInBounds_toArray, List.set_cons_zero, List.set_cons_succ])
                    refine wpAnyH_ready (rs := [11]) (by kernel_rfl) (by simp) ?_
                    refine consH rfl (fun Kq hKq => ?_)
                    go_simp
                    refine (spec_pick g a n cap _ _ _ (by omega) (by omega) (HFq.out _).cq.cur).mono ?_
                    rintro e w9 ⟨⟨z, rfl, hz0, hz1⟩, c9, g9⟩
                    have HF9 := Lib.hid ((HFq.out _).step c9 g9)
                    have h9c := HF9.out.o.cell (i := A) (by have := Hxl.out; omega)
                    have h9f := HF9.out.o.free Hxl.out.symm A
                    have hSS := And.intro (HF9.out.o.cell (i := x) (by have := Hxl.out; omega)) (HF9.out.s.cell (i := B) (by have := Hsl.out; omega))
                    have z1 : IntKind.i64.wrap (z - 1) = z - 1 := IntWalk.i64_in _ (by omega)
                    obtain ⟨u1, z2⟩ : ∃ u1, IntKind.i64.wrap (nth (sums ps ws) B * (z - 1)) = u1 := ⟨_, rfl⟩
                    obtain ⟨u2, z3⟩ : ∃ u2, IntKind.i64.wrap (nth xs x + u1) = u2 := ⟨_, rfl⟩
                    have HF10 := Lib.hid (HF9.out.put Hxl.out.symm A u2)
                    have hnx : nth (xs.set A u2) x = nth xs x := by rw [nth_set (by have := Hxl.out; omega), if_neg hAx]
                    have HK := Lib.hid (And.intro (hnx ▸ HF10.out.o.cell (i := x) (by rw [List.length_set]; have := Hxl.out; omega)) (HF10.out.s.cell (i := B) (by have := Hsl.out; omega)))
                    clear c9 g9 hz0 hz1 hnx
                    refine hKq.out _ _ ?_ (fun hHeld1 => ?_)
                    · (try dsimp only); first | assumption | exact ⟨hcx, hcs⟩ | exact HK.out
                    clear hKq Kq
                    (try simp only [Act.put, List.setIfInBounds_toArray, List.set_cons_zero, List.set_cons_succ])
                    clear hHeld0
                    refine takeH (i := 12) (oi := _) (v := ?_) rfl (by kernel_rfl) (by kernel_rfl) (by kernel_rfl) (fun _ _ _ h => h) (Or.inl ⟨by rfl, ?_⟩) (by assumption) ?_
                    rotate_left
                    · first | (intro w hSw; (try dsimp only at hSw); go_simp; done) | (intro w hSw; (try dsimp only at hSw); go_simp; with_reducible rfl)
                    (try simp only [Act.put, List.setIfInBounds_toArray, List.set_cons_zero, List.set_cons_succ])
                    refine takeH (i := 13) (oi := _) (v := ?_) rfl (by kernel_rfl) (by kernel_rfl) (by kernel_rfl) (fun _ _ _ h => h) (Or.inl ⟨by rfl, ?_⟩) (by assumption) ?_
                    rotate_left
                    · first | (intro w hSw; (try dsimp only at hSw); go_simp; done) | (intro w hSw; (try dsimp only at hSw); go_simp; with_reducible rfl)
                    (try simp only [Act.put, List.setIfInBounds_toArray, List.set_cons_zero, List.set_cons_succ])
                    refine takeH (i := 14) (oi := _) (v := ?_) rfl (by kernel_rfl) (by kernel_rfl) (by kernel_rfl) (fun _ _ _ h => h) (Or.inl ⟨by rfl, ?_⟩) (by assumption) ?_
                    rotate_left
                    · first | (intro w hSw; (try dsimp only at hSw); go_simp; done) | (intro w hSw; (try dsimp only at hSw); go_simp; with_reducible rfl)
                    (try simp only [Act.put, List.setIfInBounds_toArray, List.set_cons_zero, List.set_cons_succ])
                    refine takeH (i := 15) (oi := _) (v := ?_) rfl (by kernel_rfl) (by kernel_rfl) (by kernel_rfl) (fun _ _ _ h => h) (Or.inl ⟨by rfl, ?_⟩) (by assumption) ?_
                    rotate_left
                    · first | (intro w hSw; (try dsimp only at hSw); go_simp; done) | (intro w hSw; (try dsimp only at hSw); go_simp; with_reducible rfl)
                    (try simp only [Act.put, List.setIfInBounds_toArray, List.set_cons_zero, List.set_cons_succ])
                    refine wpAnyH_ready (rs := [16]) (by kernel_rfl) (by simp) ?_
                    refine consH rfl (fun Kq hKq => ?_)
                    go_simp
                    refine hKq.out _ _ ?_ (fun hHeld2 => ?_)
                    · (try dsimp only); first | assumption | exact ⟨hcx, hcs⟩ | exact HK.out
                    clear hKq Kq
                    (try simp only [Act.put, List.setIfInBounds_toArray, List.set_cons_zero, List.set_cons_succ])
                    clear hHeld1
                    refine wpAnyH_done (by kernel_rfl) ?_ _
                    refine NoPanic.normal ?_
                    have Hxl2 : Hid ((xs.set A u2).length = k) := Lib.hid (by rw [List.length_set]; exact Hxl.out)
                    clear HK hSS h9c h9f HF9 z1 z2 z3 hcx hcs HFq HF
                    generalize xs.set A u2 = ys at *
                    generalize (w9.setCell ⟨go, A, none⟩ (.int .i64 u2)) = w10 at *
                    have hsp := sums_pos hTr.out B (by have := Hl.out; omega)
                    have q1 := HF10.out.o.cell (i := x) (by have := Hxl2.out; omega)
                    have q2 := HF10.out.s.cell (i := A) (by have := Hsl.out; omega)
                    have q3 := HF10.out.o.cell (i := A) (by have := Hxl2.out; omega)
                    have q4 := HF10.out.s.cell (i := B) (by have := Hsl.out; omega)
                    have q5 := HF10.out.o.cell (i := B) (by have := Hxl2.out; omega)
                    have q6 := HF10.out.o.free Hxl2.out.symm B
                    generalize nth (sums ps ws) A = sA at *
                    generalize nth (sums ps ws) B = sB at *
                    generalize nth ys x = ox at *
                    generalize nth ys A = oA at *
                    generalize nth ys B = oB at *
                    have q0 : ¬ sB = 0 := by omega
                    obtain ⟨d1, z1⟩ : ∃ d1, IntKind.i64.wrap (oA - ox) = d1 := ⟨_, rfl⟩
                    obtain ⟨d2, z2⟩ : ∃ d2, d1.tdiv sB = d2 := ⟨_, rfl⟩
                    obtain ⟨d3, z3⟩ : ∃ d3, IntKind.i64.wrap d2 = d3 := ⟨_, rfl⟩
                    obtain ⟨d4, z4⟩ : ∃ d4, IntKind.i64.wrap (sA * d3) = d4 := ⟨_, rfl⟩
                    obtain ⟨d5, z5⟩ : ∃ d5, IntKind.i64.wrap (ox - d4) = d5 := ⟨_, rfl⟩
                    go_wp2_with fail
                    refine wp_region_still_tail 27 (by kernel_rfl) (by kernel_rfl) ?_
                    simp only [List.take_succ_cons, List.take_zero, List.drop_succ_cons, List.drop_zero]
                    still_step
                    still_step
                    still_step
                    still_step
                    still_step
                    still_step
                    still_step
                    still_step
                    still_step
                    still_step
                    still_step
                    still_step
                    still_step
                    still_step
                    still_step
                    still_step
                    still_step
                    still_step
                    still_step
                    still_step
                    still_step
                    still_step
                    still_step
                    still_step
                    still_step
                    still_step
                    still_step
                    refine wpStill_nil ?_
                    change wpList _ _ _ _ _ w10.drew
                    go_wp2_with fail
                    exact ⟨⟨x + 1, _, by omega, by go_num, by rw [List.length_set]; exact Hxl2.out, (((HF10.out.put Hxl2.out.symm B _).drew).mono (by omega))⟩, by simp [intOf]; omega⟩
                  · go_wp2_with fail
                    go_roundw
                    case rel => exact ⟨x + 1, xs, by omega, by go_num, Hxl.out, HF.out.mono (by omega)⟩
                    case measure => simp [intOf]; omega
            · obtain rfl : x = k := by omega
              clear hlt
              go_wp2_with fail
              go_loopw [13] (fun v13 wr => ∃ (z : Nat) (xs : List Int), z ≤ x ∧ v13 = .int .i64 (z : Int) ∧ xs.length = x ∧ Fa w wr g a n cap (lim + 70) (.slice aP x cP) (.slice aW nW cW) (.slice (some ⟨gs, 0, none⟩) x c4) (.slice (some ⟨go, 0, none⟩) x co) (sums ps ws) xs) (fun v13 _ => x - (intOf v13).toNat)
              case atStart => exact ⟨0, xs, Nat.zero_le _, rfl, Hxl.out, HF.out.mono (by omega)⟩
              case round =>
                clear HF Hxl
                obtain ⟨z, xs, hz, rfl, hxl, hF⟩ := hrel
                have Hxl := Lib.hid hxl
                have HF := Lib.hid hF
                clear hxl hF
                by_cases hlt : (z : Int) < x
                · have hcz := HF.out.o.cell (i := z) (by have := Hxl.out; omega)
                  have hfz := HF.out.o.free Hxl.out.symm z
                  generalize nth xs z = q at *
                  go_wp2_with fail
                  refine (spec_l1Least _ _ _).mono ?_
                  rintro e w' ⟨rfl, rfl⟩
                  generalize least _ _ = u1
                  go_wp2_with fail
                  refine (spec_l1Most _ _ _).mono ?_
                  rintro e w' ⟨rfl, rfl⟩
                  generalize most _ _ = u2
                  go_wp2_with fail
                  go_roundw
                  case rel => exact ⟨z + 1, _, by omega, by go_num, by rw [List.length_set]; exact Hxl.out, HF.out.put Hxl.out.symm z u2⟩
                  case measure => simp [intOf]; omega
                · obtain rfl : z = x := by omega
                  clear hlt
                  go_wp2_with fail
                  refine (spec_one g a n cap _ _ _ (by omega) (by omega) HF.out.cq.cur).mono ?_
                  rintro e w7 ⟨⟨t, rfl⟩, c7, g7⟩
                  have HF7 := Lib.hid (HF.out.step c7 g7)
                  clear c7 g7 HF
                  cases t
                  · go_wp2_with fail
                    go_ret
                    exact ⟨⟨_, rfl, xs, HF7.out.o.mono (by omega), by have := Hxl.out; omega⟩, HF7.out.cq.cur.mono (by omega), HF7.out.cq.grow⟩
                  · go_wp2_with fail
                    refine (spec_pick g a n cap _ _ _ (by omega) (by omega) HF7.out.cq.cur).mono ?_
                    rintro e w8 ⟨⟨x0, rfl, hx0, hx1⟩, c8, g8⟩
                    obtain ⟨X, rfl⟩ : ∃ X : Nat, x0 = X := ⟨x0.toNat, by omega⟩
                    have hX : X < z := by omega
                    have HF8 := Lib.hid (HF7.out.step c8 g8)
                    have hwn : nW = z := by have := hTr.out.wl; have := Hl.out; have := Hlw.out; omega
                    obtain ⟨bW, oW, rfl, hcW⟩ := (HD.out _ HF8.out.cq.grow).w.at (i := X) (Below.refl _ _) (by omega)
                    have d1 := HF8.out.box.c1
                    have HwN := Lib.hid hwn
                    have hXw : X < nW := by omega
                    generalize nth ws X = wq at *
                    clear c8 g8 hx0 hx1 HF7 hwn
                    by_cases hq : wq > 0
                    · have hcx := HF8.out.o.cell (i := X) (by have := Hxl.out; omega)
                      have hfx := HF8.out.o.free Hxl.out.symm X
                      have r1 : (0 : Int) ≤ (X : Int) := by omega
                      have r2 : (X : Int) < (z : Int) := by omega
                      generalize nth xs X = ox at *
                      go_wp2_with fail
                      refine wp_region_noPanic ?_
                      refine wp_region_held_drew (S := (fun _ => True)) (by kernel_rfl) ?_ (fun hHeld0 => ?_)
                      · trivial
                      refine takeH (i := 0) (oi := _) (v := ?_) rfl (by kernel_rfl) (by kernel_rfl) (by kernel_rfl) (fun _ _ _ h => h) (Or.inl ⟨by rfl, ?_⟩) (by assumption) ?_
                      rotate_left
                      · first | (intro w hSw; (try dsimp only at hSw); go_simp; done) | (intro w hSw; (try dsimp only at hSw); go_simp; with_reducible rfl)
                      (try simp only [Act.put, List.setIfInBounds_toArray, List.set_cons_zero, List.set_cons_succ])
                      refine takeH (i := 1) (oi := _) (v := ?_) rfl (by kernel_rfl) (by kernel_rfl) (by kernel_rfl) (fun _ _ _ h => h) (Or.inl ⟨by rfl, ?_⟩) (by assumption) ?_
                      rotate_left
                      · first | (intro w hSw; (try dsimp only at hSw); go_simp; done) | (intro w hSw; (try dsimp only at hSw); go_simp; with_reducible rfl)
                      (try simp only [Act.put, List.setIfInBounds_toArray, List.set_cons_zero, List.set_cons_succ])
                      refine takeH (i := 2) (oi := _) (v := ?_) rfl (by kernel_rfl) (by kernel_rfl) (by kernel_rfl) (fun _ _ _ h => h) (Or.inl ⟨by rfl, ?_⟩) (by assumption) ?_
                      rotate_left
                      · first | (intro w hSw; (try dsimp only at hSw); go_simp; done) | (intro w hSw; (try dsimp only at hSw); go_simp; with_reducible rfl)
                      (try simp only [Act.put, List.setIfInBounds_toArray, List.set_cons_zero, List.set_cons_succ])
                      refine takeH (i := 3) (oi := _) (v := ?_) rfl (by kernel_rfl) (by kernel_rfl) (by kernel_rfl) (fun _ _ _ h => h) (Or.inl ⟨by rfl, ?_⟩) (by assumption) ?_
                      rotate_left
                      · first | (intro w hSw; (try dsimp only at hSw); go_simp; done) | (intro w hSw; (try dsimp only at hSw); go_simp; with_reducible rfl)
                      (try simp only [Act.put, List.setIfInBounds_toArray, List.set_cons_zero, List.set_cons_succ])
                      refine takeH (i := 4) (oi := _) (v := ?_) rfl (by kernel_rfl) (by kernel_rfl) (by kernel_rfl) (fun _ _ _ h => h) (Or.inl ⟨by rfl, ?_⟩) (by assumption) ?_
                      rotate_left
                      · first | (intro w hSw; (try dsimp only at hSw); go_simp; done) | (intro w hSw; (try dsimp only at hSw); go_simp; with_reducible rfl)
                      (try simp only [Act.put, List.setIfInBounds_toArray, List.set_cons_zero, List.set_cons_succ])
                      refine takeH (i := 6) (oi := _) (v := ?_) rfl (by kernel_rfl) (by kernel_rfl) (by kernel_rfl) (fun _ _ _ h => h) (Or.inl ⟨by rfl, ?_⟩) (by assumption) ?_
                      rotate_left
                      · first | (intro w hSw; (try dsimp only at hSw); go_simp; done) | (intro w hSw; (try dsimp only at hSw); go_simp; with_reducible rfl)
                      (try simp only [Act.put, List.setIfInBounds_toArray, List.set_cons_zero, List.set_cons_succ])
                      refine wpAnyH_ready (rs := [5, 7]) (by kernel_rfl) (by simp) ?_
                      refine consM rfl (fun Kq hKq => ?_) (consH rfl (fun Kq hKq => ?_))
                      · go_simp
                        refine hKq.out _ _ ?_ (fun hHeld1 => ?_)
                        · trivial
                        clear hKq Kq
                        (try simp only [Act.put, List.setIfInBounds_toArray, List.set_cons_zero, List.set_cons_succ])
                        clear hHeld0
                        refine wpAnyH_ready (rs := [7]) (by kernel_rfl) (by simp) ?_
                        refine consH rfl (fun Kq hKq => ?_)
                        go_simp
                        refine (spec_pick g a n cap _ _ _ (by omega) (by omega) HF8.out.drew.cq.cur).mono ?_
                        rintro e w9 ⟨⟨y, rfl, -, -⟩, c9, g9⟩
                        have HF9 := Lib.hid (HF8.out.drew.step c9 g9)
                        have h9c := HF9.out.o.cell (i := X) (by have := Hxl.out; omega)
                        have h9f := HF9.out.o.free Hxl.out.symm X
                        clear c9 g9
                        refine hKq.out _ _ ?_ (fun hHeld2 => ?_)
                        · trivial
                        clear hKq Kq
                        (try simp only [Act.put, List.setIfInBounds_toArray, List.set_cons_zero, List.set_cons_succ])
                        clear hHeld1
                        refine takeH (i := 8) (oi := _) (v := ?_) rfl (by kernel_rfl) (by kernel_rfl) (by kernel_rfl) (fun _ _ _ h => h) (Or.inl ⟨by rfl, ?_⟩) (by assumption) ?_
                        rotate_left
                        · first | (intro w hSw; (try dsimp only at hSw); go_simp; done) | (intro w hSw; (try dsimp only at hSw); go_simp; with_reducible rfl)
                        (try simp only [Act.put, List.setIfInBounds_toArray, List.set_cons_zero, List.set_cons_succ])
                        refine wpAnyH_ready (rs := [9]) (by kernel_rfl) (by simp) ?_
                        refine consH rfl (fun Kq hKq => ?_)
                        go_simp
                        refine (spec_l1Most _ _ _).mono ?_
                        rintro e w' ⟨rfl, rfl⟩
                        generalize most _ _ = u2
                        refine hKq.out _ _ ?_ (fun hHeld3 => ?_)
                        · trivial
                        clear hKq Kq
                        (try simp only [Act.put, List.setIfInBounds_toArray, List.set_cons_zero, List.set_cons_succ])
                        clear hHeld2
                        refine takeH (i := 10) (oi := _) (v := ?_) rfl (by kernel_rfl) (by kernel_rfl) (by kernel_rfl) (fun _ _ _ h => h) (Or.inl ⟨by rfl, ?_⟩) (by assumption) ?_
                        rotate_left
                        · first | (intro w hSw; (try dsimp only at hSw); go_simp; done) | (intro w hSw; (try dsimp only at hSw); go_simp; with_reducible rfl)
                        (try simp only [Act.put, List.setIfInBounds_toArray, List.set_cons_zero, List.set_cons_succ])
                        refine wpAnyH_ready (rs := [11]) (by kernel_rfl) (by simp) ?_
                        refine consH rfl (fun Kq hKq => ?_)
                        go_simp
                        refine hKq.out _ _ ?_ (fun hHeld4 => ?_)
                        · trivial
                        clear hKq Kq
                        (try simp only [Act.put, List.setIfInBounds_toArray, List.set_cons_zero, List.set_cons_succ])
                        clear hHeld3
                        refine wpAnyH_done (by kernel_rfl) ?_ _
                        refine NoPanic.normal ?_
                        have HFz := Lib.hid (HF9.out.put Hxl.out.symm X u2)
                        go_wp2_with fail
                        go_ret
                        exact ⟨⟨_, rfl, _, HFz.out.o.mono (by omega), by rw [List.length_set]; have := Hxl.out; omega⟩, HFz.out.cq.cur.mono (by omega), HFz.out.cq.grow⟩
                      · go_simp
                        refine (spec_pick g a n cap _ _ _ (by omega) (by omega) HF8.out.drew.cq.cur).mono ?_
                        rintro e w9 ⟨⟨y, rfl, -, -⟩, c9, g9⟩
                        have HF9 := Lib.hid (HF8.out.drew.step c9 g9)
                        have h9c := HF9.out.o.cell (i := X) (by have := Hxl.out; omega)
                        have h9f := HF9.out.o.free Hxl.out.symm X
                        clear c9 g9
                        refine hKq.out _ _ ?_ (fun hHeld1 => ?_)
                        · trivial
                        clear hKq Kq
                        (try simp only [Act.put, List.setIfInBounds_toArray, List.set_cons_zero, List.set_cons_succ])
                        clear hHeld0
                        refine wpAnyH_ready (rs := [5]) (by kernel_rfl) (by simp) ?_
                        refine consH rfl (fun Kq hKq => ?_)
                        go_simp
                        refine hKq.out _ _ ?_ (fun hHeld2 => ?_)
                        · trivial
                        clear hKq Kq
                        (try simp only [Act.put, List.setIfInBounds_toArray, List.set_cons_zero, List.set_cons_succ])
                        clear hHeld1
                        refine takeH (i := 8) (oi := _) (v := ?_) rfl (by kernel_rfl) (by kernel_rfl) (by kernel_rfl) (fun _ _ _ h => h) (Or.inl ⟨by rfl, ?_⟩) (by assumption) ?_
                        rotate_left
                        · first | (intro w hSw; (try dsimp only at hSw); go_simp; done) | (intro w hSw; (try dsimp only at hSw); go_simp; with_reducible rfl)
                        (try simp only [Act.put, List.setIfInBounds_toArray, List.set_cons_zero, List.set_cons_succ])
                        refine wpAnyH_ready (rs := [9]) (by kernel_rfl) (by simp) ?_
                        refine consH rfl (fun Kq hKq => ?_)
                        go_simp
                        refine (spec_l1Most _ _ _).mono ?_
                        rintro e w' ⟨rfl, rfl⟩
                        generalize most _ _ = u2
                        refine hKq.out _ _ ?_ (fun hHeld3 => ?_)
                        · trivial
                        clear hKq Kq
                        (try simp only [Act.put, List.setIfInBounds_toArray, List.set_cons_zero, List.set_cons_succ])
                        clear hHeld2
                        refine takeH (i := 10) (oi := _) (v := ?_) rfl (by kernel_rfl) (by kernel_rfl) (by kernel_rfl) (fun _ _ _ h => h) (Or.inl ⟨by rfl, ?_⟩) (by assumption) ?_
                        rotate_left
                        · first | (intro w hSw; (try dsimp only at hSw); go_simp; done) | (intro w hSw; (try dsimp only at hSw); go_simp; with_reducible rfl)
                        (try simp only [Act.put, List.setIfInBounds_toArray, List.set_cons_zero, List.set_cons_succ])
                        refine wpAnyH_ready (rs := [11]) (by kernel_rfl) (by simp) ?_
                        refine consH rfl (fun Kq hKq => ?_)
                        go_simp
                        refine hKq.out _ _ ?_ (fun hHeld4 => ?_)
                        · trivial
                        clear hKq Kq
                        (try simp only [Act.put, List.setIfInBounds_toArray, List.set_cons_zero, List.set_cons_succ])
                        clear hHeld3
                        refine wpAnyH_done (by kernel_rfl) ?_ _
                        refine NoPanic.normal ?_
                        have HFz := Lib.hid (HF9.out.put Hxl.out.symm X u2)
                        go_wp2_with fail
                        go_ret
                        exact ⟨⟨_, rfl, _, HFz.out.o.mono (by omega), by rw [List.length_set]; have := Hxl.out; omega⟩, HFz.out.cq.cur.mono (by omega), HFz.out.cq.grow⟩
                    · go_wp2_with fail
                      go_ret
                      exact ⟨⟨_, rfl, xs, HF8.out.o.mono (by omega), by have := Hxl.out; omega⟩, HF8.out.cq.cur.mono (by omega), HF8.out.cq.grow⟩
end Go.Proofs.YtnbomleieianoaaGreat

/- Contract: a stopping drawn by the cursor. No conditions but those stated. -/
namespace Go.Proofs.YtnbomleieianoaaGreat
open Go.RowKit

theorem Bo.own_other {w w' : World} {base g : Nat} {v : Value} {xs : List Bool} (h : Bo.Own w base v xs) (hg : w.grownBy w' (some g)) (hlt : g < base) : Bo.Own w' base v xs :=
  h.grown hg (by
    cases hb : v.ownBlock with
    | none => exact .inl rfl
    | some k => refine .inr fun e => ?_; cases e; have := (World.ownsRow.lt h g hb).1; omega)
/-- A list that is being made and a list of bools, of the call's own and apart; the tree's box lies ahead of them. -/
structure Sp (w wr : World) (g : Nat) (a : Option Addr) (n cap : Nat) (lim : Int) (x y vO : Value) (gd N cd : Nat) (xs : List Int) (ds : List Bool) : Prop where
  cq : Cq w wr g a n cap lim
  box : Pair wr w.heap.size x y
  o : Own wr (w.heap.size + 1) vO xs
  d : Bo.Own wr (w.heap.size + 1) (.slice (some ⟨gd, 0, none⟩) N cd) ds
  ne : vO.ownBlock ≠ some gd
theorem Sp.below {w wr w' : World} {g : Nat} {a : Option Addr} {n cap : Nat} {lim : Int} {x y vO : Value} {gd N cd : Nat} {xs : List Int} {ds : List Bool} (h : Sp w wr g a n cap lim x y vO gd N cd xs ds) (hb : Below wr.heap.size wr w') : Sp w w' g a n cap lim x y vO gd N cd xs ds :=
  ⟨h.cq.below hb, h.box.below hb, h.o.below hb, h.d.below hb, h.ne⟩
theorem Sp.step {w wr w' : World} {g : Nat} {a : Option Addr} {n cap : Nat} {lim lim' : Int} {x y vO : Value} {gd N cd : Nat} {xs : List Int} {ds : List Bool} (h : Sp w wr g a n cap lim x y vO gd N cd xs ds) (hc : Cur w' g a n cap lim') (hg : wr.grownBy w' (some g)) : Sp w w' g a n cap lim' x y vO gd N cd xs ds :=
  ⟨h.cq.step hc hg, pair_other h.box hg (by have := h.cq.glt; omega), own_other h.o hg (by have := h.cq.glt; omega), Bo.own_other h.d hg (by have := h.cq.glt; omega), h.ne⟩
theorem Sp.mono {w wr : World} {g : Nat} {a : Option Addr} {n cap : Nat} {lim lim' : Int} {x y vO : Value} {gd N cd : Nat} {xs : List Int} {ds : List Bool} (h : Sp w wr g a n cap lim x y vO gd N cd xs ds) (hl : lim ≤ lim') : Sp w wr g a n cap lim' x y vO gd N cd xs ds :=
  ⟨h.cq.mono hl, h.box, h.o, h.d, h.ne⟩
theorem Sp.push {w wr w' : World} {g : Nat} {a : Option Addr} {n cap : Nat} {lim : Int} {x y vO v' : Value} {gd N cd : Nat} {xs xs' : List Int} {ds : List Bool} (h : Sp w wr g a n cap lim x y vO gd N cd xs ds) (ho : Own w' (w.heap.size + 1) v' xs') (hb : Below (w.heap.size + 1) wr w') (hm : Moved wr vO w' v') : Sp w w' g a n cap lim x y v' gd N cd xs' ds :=
  ⟨h.cq.up (hb.mono (by omega)), h.box.up hb (by omega), ho, h.d.moved hm (fun k h1 e => h.ne (by cases h1; exact e)), (hm.2 gd h.d.lt.2 h.ne).1⟩
theorem Sp.put {w wr : World} {g : Nat} {a : Option Addr} {n cap : Nat} {lim : Int} {x y vO : Value} {gd N cd : Nat} {xs : List Int} {ds : List Bool} (h : Sp w wr g a n cap lim x y vO gd N cd xs ds) (hn : N = ds.length) (i : Nat) (u : Bool) : Sp w (wr.setCell ⟨gd, i, none⟩ (.bool u)) g a n cap lim x y vO gd N cd xs (ds.set i u) := by
  have h1 := h.d.lt
  exact ⟨h.cq.up (show Below w.heap.size wr (wr.setCell ⟨gd, i, none⟩ (.bool u)) from (Below.refl w.heap.size wr).setCell (show w.heap.size ≤ gd by omega) _), h.box.far (by omega) _, h.o.far (a := ⟨gd, i, none⟩) h.ne _, h.d.set hn i u, h.ne⟩
set_option maxRecDepth 100000 in
set_option maxHeartbeats 4000000 in
theorem spec_stop3 (g : Nat) (a : Option Addr) (n cap : Nat) (lim : Int) (base : Nat) (aP : Option Addr) (nP cP : Nat) (aW : Option Addr) (nW cW : Nat) (ps ws : List Int) (w : World) (hl : lim ≤ 20000) (hD : DTre w base aP nP cP aW nW cW ps ws) (hgb : g < base) (h : Cur w g a n cap lim) :
    Calls Tryz.prog 82 #[.pointer (some ⟨g, 0, none⟩), .agg #[.slice aP nP cP, .slice aW nW cW]] w fun e w' => (∃ v, e = .returned v ∧ OwnA w' w.heap.size v 31) ∧ Cur w' g a n cap (lim + 1000) ∧ w.grownBy w' (some g) := by
  have C0 := Lib.hid (((Cq.start h).lit (.cells #[.slice aP nP cP, .slice aW nW cW] 26)).lit (.cells #[] 3))
  have P0 := Lib.hid ((Pair.new w (.slice aP nP cP) (.slice aW nW cW) 26).alloc (.cells #[] 3))
  have hnil : Own ((w.alloc (.cells #[.slice aP nP cP, .slice aW nW cW] 26)).alloc (.cells #[] 3)) (w.heap.size + 1) (.slice (some ⟨w.heap.size + 1, 0, none⟩) 0 0) [] := by
    have := own_nil0 (w.alloc (.cells #[.slice aP nP cP, .slice aW nW cW] 26))
    simpa using this
  have O0 := Lib.hid hnil
  have hgw := h.lt
  have hnP := hD.pn
  have HD := Lib.hid (fun w' (hg : w.grownBy w' (some g)) => (hD.other hg hgb).tre)
  have Hl := Lib.hid hD.p.ints.1
  have Hlw := Lib.hid hD.w.ints.1
  clear h hD hnil
  go_enter Tryz.func82, Tryz.ntmps82
  have c0 := P0.out.c0
  have c1 := P0.out.c1
  go_wp2_with fail
  generalize ((w.alloc (.cells #[.slice aP nP cP, .slice aW nW cW] 26)).alloc (.cells #[] 3)) = w1 at *
  refine (spec_l2Good _ _ _ _ _ _ ps ws _ (HD.out _ C0.out.grow)).mono ?_
  rintro e w2 ⟨rfl, b2⟩
  have C2 := Lib.hid (C0.out.below b2)
  have P2 := Lib.hid (P0.out.below b2)
  have O2 := Lib.hid (O0.out.below b2)
  have d0 := P2.out.c0
  have d1 := P2.out.c1
  have hs2 : w.heap.size < w2.heap.size := P2.out.lt
  clear b2 c0 c1 C0 P0 O0
  cases ht : treeB ps ws
  · clear ht
    go_wp2_with fail
    go_ret
    exact ⟨⟨_, rfl, [], O2.out.mono (by omega), by simp⟩, C2.out.cur.mono (by omega), C2.out.grow⟩
  · have hTr := Lib.hid (treeB_t ht)
    clear ht
    have hn1 : 1 ≤ nP ∧ nP ≤ 24 := by have := hTr.out.n1; have := hTr.out.n24; have := Hl.out; omega
    have hmk := Bo.mk_bools nP (by omega)
    have hmx : nP ≤ maxLen := by have : maxLen = 9223372036854775807 := rfl; omega
    have hS : Sp w (w2.alloc (.cells (Bo.zv nP) 4)) g a n cap (lim + 10) (.slice aP nP cP) (.slice aW nW cW) (.slice (some ⟨w.heap.size + 1, 0, none⟩) 0 0) w2.heap.size nP nP [] (List.replicate nP false) :=
      ⟨(C2.out.lit _).mono (by omega), P2.out.alloc _, O2.out.lit _, (Bo.Own.zeros w2 (w.heap.size + 1) nP (by omega) hmx), by have := (World.ownsRow.lt O2.out (w.heap.size + 1) rfl).2; simp [Value.ownBlock]; omega⟩
    have HS := Lib.hid hS
    clear hS C2 P2 O2
    go_wp2_with fail
    clear hmk d1 d0
    generalize (w2.alloc (.cells (Bo.zv nP) 4)) = w3 at *
    generalize w2.heap.size = gd at *
    generalize (Value.slice (some ⟨w.heap.size + 1, 0, none⟩) 0 0) = v0 at *
    go_loopw [5, 7] (fun v5 v7 wr => ∃ (k : Nat) (xs : List Int) (ds : List Bool), k ≤ nP ∧ v7 = .int .i64 (k : Int) ∧ xs.length ≤ k ∧ ds.length = nP ∧ Sp w wr g a n cap (lim + 10 + 2 * (k : Int)) (.slice aP nP cP) (.slice aW nW cW) v5 gd nP nP xs ds) (fun _ v7 _ => nP - (intOf v7).toNat)
    case atStart => exact ⟨0, [], List.replicate nP false, Nat.zero_le _, rfl, by simp, by simp, HS.out.mono (by omega)⟩
    case round =>
      clear HS
      obtain ⟨k, xs, ds, hk, rfl, hxl, hdl, hS⟩ := hrel
      have HS := Lib.hid hS
      have Hdl := Lib.hid hdl
      clear hS hdl
      by_cases hlt : (k : Int) < nP
      · have d0 := HS.out.box.c0
        have d1 := HS.out.box.c1
        have hgdl := HS.out.d.lt.2
        have hdk := HS.out.d.cell (i := k) (by have := Hdl.out; omega)
        have hfk := HS.out.d.free Hdl.out.symm k
        have hwl : nW = nP := by have := hTr.out.wl; have := Hl.out; have := Hlw.out; omega
        obtain ⟨bW, oW, rfl, hcW⟩ := (HD.out _ HS.out.cq.grow).w.at (i := k) (Below.refl _ _) (by omega)
        have hkW : k < nW := by omega
        have hsr : w.heap.size + 1 ≤ wr.heap.size := HS.out.box.lt
        generalize nth ws k = wq at *
        generalize Bo.nth ds k = dk at *
        clear hwl
        by_cases hk0 : (k : Int) > 0
        · obtain ⟨bP, oP, rfl, hcP⟩ := (HD.out _ HS.out.cq.grow).p.at (i := k) (Below.refl _ _) (by omega)
          have hup := hTr.out.toPa.upN (x := k) (by omega) (by have := Hl.out; omega)
          rw [hup.1] at hcP
          have hupl := hup.2
          clear hup
          generalize par ps k = p at *
          have hdp := HS.out.d.cell (i := p) (by have := Hdl.out; omega)
          generalize Bo.nth ds p = dp at *
          cases dp
          · by_cases hq : wq > 0
            · go_wp2_with (at_builtin; refine wp_push2 (.tmp 48) (.tmp 50) rfl rfl (w.heap.size + 1) _ xs rfl HS.out.o rfl (by omega) hsr ?_; intro v' w' ho hb hm; have HS2 := Lib.hid (HS.out.push ho hb hm); clear ho hb hm; have e1 := HS2.out.d.cell (i := k) (by have := Hdl.out; omega); have e2 := HS2.out.d.free Hdl.out.symm k)
              go_roundw
              case rel => exact ⟨k + 1, _, _, by omega, by go_num, by simp; omega, by rw [List.length_set]; exact Hdl.out, (HS2.out.put Hdl.out.symm k true).mono (by omega)⟩
              case measure => simp [intOf]; omega
            · go_wp2_with fail
              refine (spec_one g a n cap _ _ _ (by omega) (by omega) HS.out.cq.cur).mono ?_
              rintro e w7 ⟨⟨t, rfl⟩, c7, g7⟩
              have HS7 := Lib.hid (HS.out.step c7 g7)
              have hsr7 : w.heap.size + 1 ≤ w7.heap.size := HS7.out.box.lt
              clear c7 g7 hdk hfk hdp d0 d1 hcW hcP
              cases t
              · go_wp2_with fail
                go_roundw
                case rel => exact ⟨k + 1, xs, ds, by omega, by go_num, by omega, Hdl.out, HS7.out.mono (by omega)⟩
                case measure => simp [intOf]; omega
              · go_wp2_with (at_builtin; refine wp_push2 (.tmp 48) (.tmp 50) rfl rfl (w.heap.size + 1) _ xs rfl HS7.out.o rfl (by omega) hsr7 ?_; intro v' w' ho hb hm; have HS2 := Lib.hid (HS7.out.push ho hb hm); clear ho hb hm; have e1 := HS2.out.d.cell (i := k) (by have := Hdl.out; omega); have e2 := HS2.out.d.free Hdl.out.symm k)
                go_roundw
                case rel => exact ⟨k + 1, _, _, by omega, by go_num, by simp; omega, by rw [List.length_set]; exact Hdl.out, (HS2.out.put Hdl.out.symm k true).mono (by omega)⟩
                case measure => simp [intOf]; omega
          · go_wp2_with fail
            go_roundw
            case rel => exact ⟨k + 1, xs, _, by omega, by go_num, by omega, by rw [List.length_set]; exact Hdl.out, (HS.out.put Hdl.out.symm k true).mono (by omega)⟩
            case measure => simp [intOf]; omega
        · by_cases hq : wq > 0
          · go_wp2_with (at_builtin; refine wp_push2 (.tmp 48) (.tmp 50) rfl rfl (w.heap.size + 1) _ xs rfl HS.out.o rfl (by omega) hsr ?_; intro v' w' ho hb hm; have HS2 := Lib.hid (HS.out.push ho hb hm); clear ho hb hm; have e1 := HS2.out.d.cell (i := k) (by have := Hdl.out; omega); have e2 := HS2.out.d.free Hdl.out.symm k)
            go_roundw
            case rel => exact ⟨k + 1, _, _, by omega, by go_num, by simp; omega, by rw [List.length_set]; exact Hdl.out, (HS2.out.put Hdl.out.symm k true).mono (by omega)⟩
            case measure => simp [intOf]; omega
          · go_wp2_with fail
            refine (spec_one g a n cap _ _ _ (by omega) (by omega) HS.out.cq.cur).mono ?_
            rintro e w7 ⟨⟨t, rfl⟩, c7, g7⟩
            have HS7 := Lib.hid (HS.out.step c7 g7)
            have hsr7 : w.heap.size + 1 ≤ w7.heap.size := HS7.out.box.lt
            clear c7 g7 hdk hfk d0 d1 hcW
            cases t
            · go_wp2_with fail
              go_roundw
              case rel => exact ⟨k + 1, xs, ds, by omega, by go_num, by omega, Hdl.out, HS7.out.mono (by omega)⟩
              case measure => simp [intOf]; omega
            · go_wp2_with (at_builtin; refine wp_push2 (.tmp 48) (.tmp 50) rfl rfl (w.heap.size + 1) _ xs rfl HS7.out.o rfl (by omega) hsr7 ?_; intro v' w' ho hb hm; have HS2 := Lib.hid (HS7.out.push ho hb hm); clear ho hb hm; have e1 := HS2.out.d.cell (i := k) (by have := Hdl.out; omega); have e2 := HS2.out.d.free Hdl.out.symm k)
              go_roundw
              case rel => exact ⟨k + 1, _, _, by omega, by go_num, by simp; omega, by rw [List.length_set]; exact Hdl.out, (HS2.out.put Hdl.out.symm k true).mono (by omega)⟩
              case measure => simp [intOf]; omega
      · obtain rfl : k = nP := by omega
        clear hlt
        go_wp2_with fail
        refine (spec_one g a n cap _ _ _ (by omega) (by omega) HS.out.cq.cur).mono ?_
        rintro e w7 ⟨⟨t, rfl⟩, c7, g7⟩
        have HS7 := Lib.hid (HS.out.step c7 g7)
        have d0 := HS7.out.box.c0
        have d1 := HS7.out.box.c1
        clear c7 g7 HS
        cases t
        · go_wp2_with fail
          go_ret
          exact ⟨⟨_, rfl, xs, HS7.out.o.mono (by omega), by omega⟩, HS7.out.cq.cur.mono (by omega), HS7.out.cq.grow⟩
        · go_wp2_with fail
          refine (spec_nodeOf g a n cap _ aP k cP aW nW cW _ (by omega) hnP HS7.out.cq.cur).mono ?_
          rintro e w8 ⟨⟨z, rfl⟩, c8, g8⟩
          have HS8 := Lib.hid (HS7.out.step c8 g8)
          have hsr8 : w.heap.size + 1 ≤ w8.heap.size := HS8.out.box.lt
          clear c8 g8 HS7 d0 d1
          go_wp2_with (at_builtin; refine wp_push2 (.tmp 57) (.tmp 61) rfl rfl (w.heap.size + 1) _ xs rfl HS8.out.o rfl (by omega) hsr8 ?_; intro v' w' ho hb hm; have HS2 := Lib.hid (HS8.out.push ho hb hm); clear ho hb hm)
          go_ret
          exact ⟨⟨_, rfl, _, HS2.out.o.mono (by omega), by simp; omega⟩, HS2.out.cq.cur.mono (by omega), HS2.out.cq.grow⟩
end Go.Proofs.YtnbomleieianoaaGreat

/- Contracts: what is drawn with a tree. No conditions but those stated. -/
namespace Go.Proofs.YtnbomleieianoaaGreat
open Go.RowKit

set_option maxHeartbeats 1000000 in
theorem spec_tree (g : Nat) (a : Option Addr) (n cap : Nat) (lim : Int) (w : World) (hl : lim ≤ 10000) (h : Cur w g a n cap lim) :
    Calls Tryz.prog 81 #[.pointer (some ⟨g, 0, none⟩)] w fun e w' => (∃ v, e = .returned v ∧ TreV w' w.heap.size v) ∧ Cur w' g a n cap (lim + 400) ∧ w.grownBy w' (some g) := by
  have C0 := Lib.hid (((Cq.start h).lit (.cells #[.slice none 0 0, .slice none 0 0] 26)))
  have R0 := Lib.hid (Pair.new w (.slice none 0 0) (.slice none 0 0) 26)
  have hs0 : w.heap.size < (w.alloc (.cells #[.slice none 0 0, .slice none 0 0] 26)).heap.size := by simp
  have hgw := h.lt
  clear h
  go_enter Tryz.func81, Tryz.ntmps81
  go_wp2_with fail
  generalize (w.alloc (.cells #[.slice none 0 0, .slice none 0 0] 26)) = w1 at *
  refine (spec_someTree g a n cap lim 24 _ (by omega) (by omega) C0.out.cur).mono ?_
  rintro e w2 ⟨⟨v, rfl, aP, nP, cP, aW, nW, cW, ps, ws, rfl, hD⟩, c2, g2⟩
  have C2 := Lib.hid (C0.out.step c2 g2)
  have R2 := pair_other R0.out g2 (by omega)
  have e0 := R2.c0
  have e1 := R2.c1
  have f0 := R2.f0
  have f1 := R2.f1
  have hr := R2.set (.slice aP nP cP) (.slice aW nW cW)
  have hp : (Value.slice aP nP cP).ownBlock ≠ some w.heap.size := fun e => by have := (World.ownsRow.lt hD.p _ e).1; omega
  have hw : (Value.slice aW nW cW).ownBlock ≠ some w.heap.size := fun e => by have := (World.ownsRow.lt hD.w _ e).1; omega
  have HD := Lib.hid hD
  have Hp := Lib.hid hp
  have Hw := Lib.hid hw
  clear c2 g2 hD hp hw
  go_wp2_with fail
  exact bodyPost_ret (v := .agg #[.slice aP nP cP, .slice aW nW cW]) (by simp [results, Tryz.results81, go_sem, hr.1, hr.2]) rfl ⟨⟨_, rfl, _, _, _, _, _, _, ps, ws, rfl, ((HD.out.p.far (a := ⟨w.heap.size, 0, none⟩) Hp.out _).far (a := ⟨w.heap.size, 1, none⟩) Hp.out _).mono (by omega), ((HD.out.w.far (a := ⟨w.heap.size, 0, none⟩) Hw.out _).far (a := ⟨w.heap.size, 1, none⟩) Hw.out _).mono (by omega), HD.out.pn, HD.out.wn⟩, (Two.doneC C2.out _ _).cur, (Two.doneC C2.out _ _).grow⟩
/-- A draw under way: the world w0 has the new cursor g and the empty box rb for the result; the tree lies in the box tb. -/
structure Bx (w0 w : World) (rb tb : Nat) (aP : Option Addr) (nP cP : Nat) (aW : Option Addr) (nW cW : Nat) (ps ws : List Int) : Prop where
  box : Pair w tb (.slice aP nP cP) (.slice aW nW cW)
  t : DTre w w0.heap.size aP nP cP aW nW cW ps ws
  ge : w0.heap.size ≤ tb
  res : Pair w rb (.slice none 0 0) (.slice none 0 0)
  lt : rb < w0.heap.size
theorem Bx.below {w0 w w' : World} {rb tb : Nat} {aP : Option Addr} {nP cP : Nat} {aW : Option Addr} {nW cW : Nat} {ps ws : List Int} (h : Bx w0 w rb tb aP nP cP aW nW cW ps ws) (hb : Below w.heap.size w w') : Bx w0 w' rb tb aP nP cP aW nW cW ps ws :=
  ⟨h.box.below hb, h.t.below hb, h.ge, h.res.below hb, h.lt⟩
theorem Bx.lit {w0 w : World} {rb tb : Nat} {aP : Option Addr} {nP cP : Nat} {aW : Option Addr} {nW cW : Nat} {ps ws : List Int} (h : Bx w0 w rb tb aP nP cP aW nW cW ps ws) (o : Obj) : Bx w0 (w.alloc o) rb tb aP nP cP aW nW cW ps ws := h.below (below_new w o)
theorem Bx.drew {w0 w : World} {rb tb : Nat} {aP : Option Addr} {nP cP : Nat} {aW : Option Addr} {nW cW : Nat} {ps ws : List Int} (h : Bx w0 w rb tb aP nP cP aW nW cW ps ws) : Bx w0 w.drew rb tb aP nP cP aW nW cW ps ws := h.below (Below.refl _ _).drew
theorem Bx.other {w0 w w' : World} {rb tb g : Nat} {aP : Option Addr} {nP cP : Nat} {aW : Option Addr} {nW cW : Nat} {ps ws : List Int} (h : Bx w0 w rb tb aP nP cP aW nW cW ps ws) (hg : w.grownBy w' (some g)) (hlt : g < w0.heap.size) (hne : rb ≠ g) : Bx w0 w' rb tb aP nP cP aW nW cW ps ws :=
  ⟨pair_other h.box hg (by have := h.ge; omega), h.t.other hg hlt, h.ge, pair_other h.res hg hne, h.lt⟩
/-- A tree put into a new box. -/
theorem bx_new {w0 w : World} {rb : Nat} {aP : Option Addr} {nP cP : Nat} {aW : Option Addr} {nW cW : Nat} {ps ws : List Int} (t : TypeId) (hT : DTre w w0.heap.size aP nP cP aW nW cW ps ws) (hs : w0.heap.size ≤ w.heap.size) (hr : Pair w rb (.slice none 0 0) (.slice none 0 0)) (hlt : rb < w0.heap.size) :
    Bx w0 (w.alloc (.cells #[.slice aP nP cP, .slice aW nW cW] t)) rb w.heap.size aP nP cP aW nW cW ps ws :=
  ⟨Pair.new w _ _ t, hT.below (below_new w _), hs, hr.alloc _, hlt⟩
theorem own_res {w : World} {base rb : Nat} {v x y : Value} {xs : List Int} (h : Own w base v xs) (hlt : rb < base) : Own ((w.setCell ⟨rb, 0, none⟩ x).setCell ⟨rb, 1, none⟩ y) base v xs := by
  have hne : v.ownBlock ≠ some rb := fun e => by have := (World.ownsRow.lt h _ e).1; omega
  exact (h.far (a := ⟨rb, 0, none⟩) hne x).far (a := ⟨rb, 1, none⟩) hne y
theorem OwnA.res {w : World} {base rb m : Nat} {v x y : Value} (h : OwnA w base v m) (hlt : rb < base) : OwnA ((w.setCell ⟨rb, 0, none⟩ x).setCell ⟨rb, 1, none⟩ y) base v m := by
  obtain ⟨xs, h1, h2⟩ := h; exact ⟨xs, own_res h1 hlt, h2⟩
theorem DTre.res {w : World} {base rb : Nat} {x y : Value} {aP : Option Addr} {nP cP : Nat} {aW : Option Addr} {nW cW : Nat} {ps ws : List Int} (h : DTre w base aP nP cP aW nW cW ps ws) (hlt : rb < base) : DTre ((w.setCell ⟨rb, 0, none⟩ x).setCell ⟨rb, 1, none⟩ y) base aP nP cP aW nW cW ps ws :=
  ⟨own_res h.p hlt, own_res h.w hlt, h.pn, h.wn⟩
/-- What a draw leaves alone. -/
theorem draw_below {w w0 w' : World} {g rb : Nat} {x y : Value} (hb : Below w.heap.size w w0) (hg : w0.grownBy w' (some g)) (h1 : w.heap.size ≤ g) (h2 : w.heap.size ≤ rb) : Below w.heap.size w ((w'.setCell ⟨rb, 0, none⟩ x).setCell ⟨rb, 1, none⟩ y) :=
  ((hb.grown hg hb.size (fun k hk => by cases hk; exact h1)).setCell h2 _).setCell h2 _
/-- A tree and lists, drawn. -/
def DrT (w : World) (base : Nat) (v : Value) : Prop := ∃ (aP : Option Addr) (nP cP : Nat) (aW : Option Addr) (nW cW : Nat) (ps ws : List Int), v = .agg #[.slice aP nP cP, .slice aW nW cW] ∧ DTre w base aP nP cP aW nW cW ps ws
def DrTL (w : World) (base : Nat) (v : Value) : Prop := ∃ (aP : Option Addr) (nP cP : Nat) (aW : Option Addr) (nW cW : Nat) (ps ws : List Int) (u : Value), v = .tuple #[.agg #[.slice aP nP cP, .slice aW nW cW], u] ∧ DTre w base aP nP cP aW nW cW ps ws ∧ OwnA w base u 40
def DrTLL (w : World) (base : Nat) (v : Value) : Prop := ∃ (aP : Option Addr) (nP cP : Nat) (aW : Option Addr) (nW cW : Nat) (ps ws : List Int) (u u2 : Value), v = .tuple #[.agg #[.slice aP nP cP, .slice aW nW cW], u, u2] ∧ DTre w base aP nP cP aW nW cW ps ws ∧ OwnA w base u 40 ∧ OwnA w base u2 40
def DrTLI (w : World) (base : Nat) (v : Value) (I : Int → Prop) : Prop := ∃ (aP : Option Addr) (nP cP : Nat) (aW : Option Addr) (nW cW : Nat) (ps ws : List Int) (u : Value) (x : Int), v = .tuple #[.agg #[.slice aP nP cP, .slice aW nW cW], u, .int .i64 x] ∧ DTre w base aP nP cP aW nW cW ps ws ∧ OwnA w base u 40 ∧ I x
def DrTLII (w : World) (base : Nat) (v : Value) (I : Int → Int → Prop) : Prop := ∃ (aP : Option Addr) (nP cP : Nat) (aW : Option Addr) (nW cW : Nat) (ps ws : List Int) (u : Value) (x y : Int), v = .tuple #[.agg #[.slice aP nP cP, .slice aW nW cW], u, .int .i64 x, .int .i64 y] ∧ DTre w base aP nP cP aW nW cW ps ws ∧ OwnA w base u 40 ∧ I x y
end Go.Proofs.YtnbomleieianoaaGreat

/- Contracts: an event drawn by the cursor; draws of processes and stoppings. No conditions but those stated. -/
namespace Go.Proofs.YtnbomleieianoaaGreat
open Go.RowKit

/-- A list that is being made and another of the call's own, apart; the tree's box lies ahead of them. -/
structure Ev (w wr : World) (g : Nat) (a : Option Addr) (n cap : Nat) (lim : Int) (x y vO vE : Value) (xs es : List Int) : Prop where
  cq : Cq w wr g a n cap lim
  box : Pair wr w.heap.size x y
  o : Own wr (w.heap.size + 1) vO xs
  en : Own wr (w.heap.size + 1) vE es
  ne : ∀ k, vE.ownBlock = some k → vO.ownBlock ≠ some k
theorem Ev.step {w wr w' : World} {g : Nat} {a : Option Addr} {n cap : Nat} {lim lim' : Int} {x y vO vE : Value} {xs es : List Int} (h : Ev w wr g a n cap lim x y vO vE xs es) (hc : Cur w' g a n cap lim') (hg : wr.grownBy w' (some g)) : Ev w w' g a n cap lim' x y vO vE xs es :=
  ⟨h.cq.step hc hg, pair_other h.box hg (by have := h.cq.glt; omega), own_other h.o hg (by have := h.cq.glt; omega), own_other h.en hg (by have := h.cq.glt; omega), h.ne⟩
theorem Ev.mono {w wr : World} {g : Nat} {a : Option Addr} {n cap : Nat} {lim lim' : Int} {x y vO vE : Value} {xs es : List Int} (h : Ev w wr g a n cap lim x y vO vE xs es) (hl : lim ≤ lim') : Ev w wr g a n cap lim' x y vO vE xs es :=
  ⟨h.cq.mono hl, h.box, h.o, h.en, h.ne⟩
theorem Ev.push {w wr w' : World} {g : Nat} {a : Option Addr} {n cap : Nat} {lim : Int} {x y vO v' vE : Value} {xs xs' es : List Int} (h : Ev w wr g a n cap lim x y vO vE xs es) (ho : Own w' (w.heap.size + 1) v' xs') (hb : Below (w.heap.size + 1) wr w') (hm : Moved wr vO w' v') : Ev w w' g a n cap lim x y v' vE xs' es :=
  ⟨h.cq.up (hb.mono (by omega)), h.box.up hb (by omega), ho, h.en.moved hm h.ne, fun k hk => (hm.2 k (World.ownsRow.lt h.en k hk).2 (h.ne k hk)).1⟩
set_option maxRecDepth 100000 in
set_option maxHeartbeats 4000000 in
theorem spec_event (g : Nat) (a : Option Addr) (n cap : Nat) (lim : Int) (base : Nat) (aP : Option Addr) (nP cP : Nat) (aW : Option Addr) (nW cW : Nat) (ps ws : List Int) (w : World) (hl : lim ≤ 20000) (hD : DTre w base aP nP cP aW nW cW ps ws) (hgb : g < base) (h : Cur w g a n cap lim) :
    Calls Tryz.prog 88 #[.pointer (some ⟨g, 0, none⟩), .agg #[.slice aP nP cP, .slice aW nW cW]] w fun e w' => (∃ v, e = .returned v ∧ OwnA w' w.heap.size v 31) ∧ Cur w' g a n cap (lim + 1000) ∧ w.grownBy w' (some g) := by
  have C0 := Lib.hid (((Cq.start h).lit (.cells #[.slice aP nP cP, .slice aW nW cW] 26)).lit (.cells #[] 3))
  have P0 := Lib.hid ((Pair.new w (.slice aP nP cP) (.slice aW nW cW) 26).alloc (.cells #[] 3))
  have hnil : Own ((w.alloc (.cells #[.slice aP nP cP, .slice aW nW cW] 26)).alloc (.cells #[] 3)) (w.heap.size + 1) (.slice (some ⟨w.heap.size + 1, 0, none⟩) 0 0) [] := by
    have := own_nil0 (w.alloc (.cells #[.slice aP nP cP, .slice aW nW cW] 26))
    simpa using this
  have O0 := Lib.hid hnil
  have hgw := h.lt
  have hnP := hD.pn
  have HD := Lib.hid (fun w' (hg : w.grownBy w' (some g)) => (hD.other hg hgb).tre)
  have Hl := Lib.hid hD.p.ints.1
  have Hlw := Lib.hid hD.w.ints.1
  clear h hD hnil
  go_enter Tryz.func88, Tryz.ntmps88
  have c0 := P0.out.c0
  have c1 := P0.out.c1
  go_wp2_with fail
  generalize ((w.alloc (.cells #[.slice aP nP cP, .slice aW nW cW] 26)).alloc (.cells #[] 3)) = w1 at *
  refine (spec_l2Good _ _ _ _ _ _ ps ws _ (HD.out _ C0.out.grow)).mono ?_
  rintro e w2 ⟨rfl, b2⟩
  have C2 := Lib.hid (C0.out.below b2)
  have P2 := Lib.hid (P0.out.below b2)
  have O2 := Lib.hid (O0.out.below b2)
  have d0 := P2.out.c0
  have d1 := P2.out.c1
  have hs2 : w.heap.size < w2.heap.size := P2.out.lt
  clear b2 c0 c1 C0 P0 O0
  cases ht : treeB ps ws
  · clear ht
    go_wp2_with fail
    go_ret
    exact ⟨⟨_, rfl, [], O2.out.mono (by omega), by simp⟩, C2.out.cur.mono (by omega), C2.out.grow⟩
  · have hTr := Lib.hid (treeB_t ht)
    clear ht
    go_wp2_with fail
    refine (spec_l2Ends _ _ _ _ _ _ ps ws _ (HD.out _ C2.out.grow) hTr.out.toPa).mono ?_
    rintro e w3 ⟨vE, rfl, oE, b3⟩
    have hel : (ends ps).length ≤ 24 := by have := filt_length (endB ps) ps.length; have := hTr.out.n24; unfold ends; omega
    have hS : Ev w w3 g a n cap lim (.slice aP nP cP) (.slice aW nW cW) (.slice (some ⟨w.heap.size + 1, 0, none⟩) 0 0) vE [] (ends ps) :=
      ⟨C2.out.below b3, P2.out.below b3, O2.out.below b3, oE.mono (by omega), fun k hk => by have h1 := (World.ownsRow.lt oE k hk).1; have h2 := (World.ownsRow.lt O2.out (w.heap.size + 1) rfl).2; simp [Value.ownBlock]; omega⟩
    obtain ⟨aE, cE, rfl⟩ := oE.shape
    generalize ends ps = es at *
    obtain ⟨nE, hnE⟩ : ∃ z, z = es.length := ⟨_, rfl⟩
    rw [← hnE] at hS hel ⊢
    have HnE := Lib.hid hnE
    have HS := Lib.hid hS
    clear hS C2 P2 O2 oE b3 hnE d0 d1
    generalize (Value.slice (some ⟨w.heap.size + 1, 0, none⟩) 0 0) = v0 at *
    go_wp2_with fail
    go_loopw [5, 7] (fun v5 v7 wr => ∃ (k : Nat) (xs : List Int), k ≤ nE ∧ v7 = .int .i64 (k : Int) ∧ xs.length ≤ k ∧ Ev w wr g a n cap (lim + 2 * (k : Int)) (.slice aP nP cP) (.slice aW nW cW) v5 (.slice aE nE cE) xs es) (fun _ v7 _ => nE - (intOf v7).toNat)
    case atStart => exact ⟨0, [], Nat.zero_le _, rfl, by simp, HS.out.mono (by omega)⟩
    case round =>
      clear HS
      obtain ⟨k, xs, hk, rfl, hxl, hS⟩ := hrel
      have HS := Lib.hid hS
      clear hS
      by_cases hlt : (k : Int) < nE
      · go_wp2_with fail
        refine (spec_one g a n cap _ _ _ (by omega) (by omega) HS.out.cq.cur).mono ?_
        rintro e w7 ⟨⟨t, rfl⟩, c7, g7⟩
        have HS7 := Lib.hid (HS.out.step c7 g7)
        have hsr7 : w.heap.size + 1 ≤ w7.heap.size := HS7.out.box.lt
        clear c7 g7 HS
        cases t
        · go_wp2_with fail
          go_roundw
          case rel => exact ⟨k + 1, xs, by omega, by go_num, by omega, HS7.out.mono (by omega)⟩
          case measure => simp [intOf]; omega
        · obtain ⟨bE, oE, rfl, hcE⟩ := HS7.out.en.ints.at (i := k) (Below.refl _ _) (by omega)
          generalize nth es k = z at *
          go_wp2_with (at_builtin; refine wp_push2 (.tmp 23) (.tmp 28) rfl rfl (w.heap.size + 1) _ xs rfl HS7.out.o rfl (by omega) hsr7 ?_; intro v' w' ho hb hm; have HS2 := Lib.hid (HS7.out.push ho hb hm); clear ho hb hm)

          go_roundw
          case rel => exact ⟨k + 1, _, by omega, by go_num, by simp; omega, HS2.out.mono (by omega)⟩
          case measure => simp [intOf]; omega
      · obtain rfl : k = nE := by omega
        clear hlt
        go_wp2_with fail
        refine (spec_one g a n cap _ _ _ (by omega) (by omega) HS.out.cq.cur).mono ?_
        rintro e w7 ⟨⟨t, rfl⟩, c7, g7⟩
        have HS7 := Lib.hid (HS.out.step c7 g7)
        have d0 := HS7.out.box.c0
        have d1 := HS7.out.box.c1
        clear c7 g7 HS
        cases t
        · go_wp2_with fail
          go_ret
          exact ⟨⟨_, rfl, xs, HS7.out.o.mono (by omega), by omega⟩, HS7.out.cq.cur.mono (by omega), HS7.out.cq.grow⟩
        · go_wp2_with fail
          refine (spec_nodeOf g a n cap _ aP nP cP aW nW cW _ (by omega) hnP HS7.out.cq.cur).mono ?_
          rintro e w8 ⟨⟨z, rfl⟩, c8, g8⟩
          have HS8 := Lib.hid (HS7.out.step c8 g8)
          have hsr8 : w.heap.size + 1 ≤ w8.heap.size := HS8.out.box.lt
          clear c8 g8 HS7 d0 d1
          go_wp2_with (at_builtin; refine wp_push2 (.tmp 32) (.tmp 36) rfl rfl (w.heap.size + 1) _ xs rfl HS8.out.o rfl (by omega) hsr8 ?_; intro v' w' ho hb hm; have HS2 := Lib.hid (HS8.out.push ho hb hm); clear ho hb hm)
          go_ret
          exact ⟨⟨_, rfl, _, HS2.out.o.mono (by omega), by simp; omega⟩, HS2.out.cq.cur.mono (by omega), HS2.out.cq.grow⟩
set_option maxRecDepth 100000 in
set_option maxHeartbeats 2000000 in
theorem spec_DrawStoppedProcess (a : Option Addr) (n cap : Nat) (w : World) (h : Bytes w a n) :
    Calls Tryz.prog 69 #[.slice a n cap] w fun e w' => (∃ v, e = .returned v ∧ DrTLL w' w.heap.size v) ∧ Below w.heap.size w w' := by
  have hb0 : Below w.heap.size w ((w.alloc (.cells #[.slice none 0 0, .slice none 0 0] 26)).alloc (.cells #[.slice a n cap, .int .i64 0, .int .u64 0] 69)) := (below_new w _).alloc (by simp) _
  have hc := Cur.new (cap := cap) 69 (h.below (below_new w (.cells #[.slice none 0 0, .slice none 0 0] 26)))
  have R0 := Lib.hid ((Pair.new w (.slice none 0 0) (.slice none 0 0) 26).alloc (.cells #[.slice a n cap, .int .i64 0, .int .u64 0] 69))
  have hs0 : ((w.alloc (.cells #[.slice none 0 0, .slice none 0 0] 26)).alloc (.cells #[.slice a n cap, .int .i64 0, .int .u64 0] 69)).heap.size = w.heap.size + 1 + 1 := by simp
  rw [show (w.alloc (.cells #[.slice none 0 0, .slice none 0 0] 26)).heap.size = w.heap.size + 1 by simp] at hc
  have C0 := Lib.hid (Cq.start hc)
  clear hc h
  go_enter Tryz.func69, Tryz.ntmps69
  go_wp2_with fail
  generalize ((w.alloc (.cells #[.slice none 0 0, .slice none 0 0] 26)).alloc (.cells #[.slice a n cap, .int .i64 0, .int .u64 0] 69)) = w0 at *
  have hg0 : w.heap.size + 1 < w0.heap.size := by omega
  have HB0 := Lib.hid hb0
  clear hs0 hb0
  refine (spec_tree (w.heap.size + 1) a n cap 0 _ (by omega) C0.out.cur).mono ?_
  rintro e w1 ⟨⟨v, rfl, aP, nP, cP, aW, nW, cW, ps, ws, rfl, hD⟩, c1, g1⟩
  have C1 := Lib.hid (C0.out.step c1 g1)
  have R1 := Lib.hid (pair_other R0.out g1 (by omega))
  have HD := Lib.hid hD
  have hs1 := C1.out.size
  have hP5 := Pair.new w1 (.slice none 0 0) (.slice none 0 0) 26
  have x0 := hP5.c0
  have x1 := hP5.c1
  have y0 := hP5.f0
  have y1 := hP5.f1
  clear c1 g1 hD hP5 R0 C0
  have B3 := Lib.hid (bx_new 26 HD.out hs1 R1.out (by omega))
  have C3 := Lib.hid (C1.out.lit (.cells #[.slice aP nP cP, .slice aW nW cW] 26))
  have hnP := HD.out.pn
  go_wp2_with fail
  clear x0 x1 y0 y1 R1 HD C1
  generalize (w1.alloc (.cells #[.slice aP nP cP, .slice aW nW cW] 26)) = w3 at *
  generalize w1.heap.size = tb at *
  have c0 := B3.out.box.c0
  have c1 := B3.out.box.c1
  refine wp_region_noPanic ?_
  refine wp_region_held_drew (S := (fun W' => W'.cell? ⟨tb, 0, none⟩ = some (.slice aP nP cP) ∧ W'.cell? ⟨tb, 1, none⟩ = some (.slice aW nW cW))) (by kernel_rfl) ?_ (fun hHeld0 => ?_)
  · (try dsimp only); first | assumption | exact ⟨B3.out.drew.box.c0, B3.out.drew.box.c1⟩ | exact ⟨((B3.out.lit _).drew).box.c0, ((B3.out.lit _).drew).box.c1⟩ | exact ⟨HX.out.c0, HX.out.c1⟩
  refine takeH (i := 0) (oi := _) (v := ?_) rfl (by kernel_rfl) (by kernel_rfl) (by kernel_rfl) (fun _ _ _ h => h) (Or.inl ⟨by rfl, ?_⟩) (by assumption) ?_
  rotate_left
  · first | (intro w hSw; (try dsimp only at hSw); go_simp; done) | (intro w hSw; (try dsimp only at hSw); go_simp; with_reducible rfl)
  (try simp only [Act.put, List.setIfInBounds_toArray, List.set_cons_zero, List.set_cons_succ])
  refine takeH (i := 1) (oi := _) (v := ?_) rfl (by kernel_rfl) (by kernel_rfl) (by kernel_rfl) (fun _ _ _ h => h) (Or.inl ⟨by rfl, ?_⟩) (by assumption) ?_
  rotate_left
  · first | (intro w hSw; (try dsimp only at hSw); go_simp; done) | (intro w hSw; (try dsimp only at hSw); go_simp; with_reducible rfl)
  (try simp only [Act.put, List.setIfInBounds_toArray, List.set_cons_zero, List.set_cons_succ])
  refine takeH (i := 2) (oi := _) (v := ?_) rfl (by kernel_rfl) (by kernel_rfl) (by kernel_rfl) (fun _ _ _ h => h) (Or.inl ⟨by rfl, ?_⟩) (by assumption) ?_
  rotate_left
  · first | (intro w hSw; (try dsimp only at hSw); go_simp; done) | (intro w hSw; (try dsimp only at hSw); go_simp; with_reducible rfl)
  (try simp only [Act.put, List.setIfInBounds_toArray, List.set_cons_zero, List.set_cons_succ])
  refine takeH (i := 4) (oi := _) (v := ?_) rfl (by kernel_rfl) (by kernel_rfl) (by kernel_rfl) (fun _ _ _ h => h) (Or.inl ⟨by rfl, ?_⟩) (by assumption) ?_
  rotate_left
  · first | (intro w hSw; (try dsimp only at hSw); go_simp; done) | (intro w hSw; (try dsimp only at hSw); go_simp; with_reducible rfl)
  (try simp only [Act.put, List.setIfInBounds_toArray, List.set_cons_zero, List.set_cons_succ])
  refine takeH (i := 5) (oi := _) (v := ?_) rfl (by kernel_rfl) (by kernel_rfl) (by kernel_rfl) (fun _ _ _ h => h) (Or.inl ⟨by rfl, ?_⟩) (by assumption) ?_
  rotate_left
  · first | (intro w hSw; (try dsimp only at hSw); go_simp; done) | (intro w hSw; (try dsimp only at hSw); go_simp; with_reducible rfl)
  (try simp only [Act.put, List.setIfInBounds_toArray, List.set_cons_zero, List.set_cons_succ])
  refine wpAnyH_ready (rs := [3]) (by kernel_rfl) (by simp) ?_
  refine consH rfl (fun Kq hKq => ?_)
  go_simp
  refine (spec_fair3 (w.heap.size + 1) a n cap _ w0.heap.size aP nP cP aW nW cW ps ws _ (by omega) (B3.out.drew).t (by omega) (C3.out.drew).cur).mono ?_
  rintro e w4a ⟨⟨vL, rfl, o4a⟩, c4a, g4a⟩
  have C4a := Lib.hid ((C3.out.drew).step c4a g4a)
  have B4a := Lib.hid ((B3.out.drew).other g4a (by omega) (by omega))
  have VL4a := Lib.hid ((o4a.mono (C3.out.drew).size).more (show _ ≤ 40 by omega))
  have hSS := And.intro B4a.out.box.c0 B4a.out.box.c1
  clear c4a g4a o4a
  refine hKq.out _ _ ?_ (fun hHeld1 => ?_)
  · (try dsimp only); first | assumption | exact ⟨B3.out.drew.box.c0, B3.out.drew.box.c1⟩ | exact ⟨((B3.out.lit _).drew).box.c0, ((B3.out.lit _).drew).box.c1⟩ | exact ⟨HX.out.c0, HX.out.c1⟩
  clear hKq Kq
  (try simp only [Act.put, List.setIfInBounds_toArray, List.set_cons_zero, List.set_cons_succ])
  clear hHeld0
  refine wpAnyH_ready (rs := [6]) (by kernel_rfl) (by simp) ?_
  refine consH rfl (fun Kq hKq => ?_)
  go_simp
  refine (spec_stop3 (w.heap.size + 1) a n cap _ w0.heap.size aP nP cP aW nW cW ps ws _ (by omega) B4a.out.t (by omega) C4a.out.cur).mono ?_
  rintro e w5a ⟨⟨vM, rfl, o5a⟩, c5a, g5a⟩
  have C5a := Lib.hid (C4a.out.step c5a g5a)
  have B5a := Lib.hid (B4a.out.other g5a (by omega) (by omega))
  have VL5a := Lib.hid (OwnA.other VL4a.out g5a (by omega))
  have VM5a := Lib.hid ((o5a.mono C4a.out.size).more (show _ ≤ 40 by omega))
  have hSS := And.intro B5a.out.box.c0 B5a.out.box.c1
  clear c5a g5a o5a
  have e0 := B5a.out.res.c0
  have e1 := B5a.out.res.c1
  have f0 := B5a.out.res.f0
  have f1 := B5a.out.res.f1
  have HX := Lib.hid ((B5a.out.box.far (show w.heap.size ≠ tb by have := B5a.out.ge; omega) (i := 0) (.slice aP nP cP)).far (show w.heap.size ≠ tb by have := B5a.out.ge; omega) (i := 1) (.slice aW nW cW))
  have hr := B5a.out.res.set (.slice aP nP cP) (.slice aW nW cW)
  refine hKq.out _ _ ?_ (fun hHeld2 => ?_)
  · (try dsimp only); first | assumption | exact ⟨B3.out.drew.box.c0, B3.out.drew.box.c1⟩ | exact ⟨((B3.out.lit _).drew).box.c0, ((B3.out.lit _).drew).box.c1⟩ | exact ⟨HX.out.c0, HX.out.c1⟩
  clear hKq Kq
  (try simp only [Act.put, List.setIfInBounds_toArray, List.set_cons_zero, List.set_cons_succ])
  clear hHeld1
  refine wpAnyH_ready (rs := [7]) (by kernel_rfl) (by simp) ?_
  refine consH rfl (fun Kq hKq => ?_)
  go_simp
  refine hKq.out _ _ ?_ (fun hHeld3 => ?_)
  · (try dsimp only); first | assumption | exact ⟨B3.out.drew.box.c0, B3.out.drew.box.c1⟩ | exact ⟨((B3.out.lit _).drew).box.c0, ((B3.out.lit _).drew).box.c1⟩ | exact ⟨HX.out.c0, HX.out.c1⟩
  clear hKq Kq
  (try simp only [Act.put, List.setIfInBounds_toArray, List.set_cons_zero, List.set_cons_succ])
  clear hHeld2
  refine takeH (i := 8) (oi := _) (v := ?_) rfl (by kernel_rfl) (by kernel_rfl) (by kernel_rfl) (fun _ _ _ h => h) (Or.inl ⟨by rfl, ?_⟩) (by assumption) ?_
  rotate_left
  · first | (intro w hSw; (try dsimp only at hSw); go_simp; done) | (intro w hSw; (try dsimp only at hSw); go_simp; with_reducible rfl)
  (try simp only [Act.put, List.setIfInBounds_toArray, List.set_cons_zero, List.set_cons_succ])
  refine takeH (i := 9) (oi := _) (v := ?_) rfl (by kernel_rfl) (by kernel_rfl) (by kernel_rfl) (fun _ _ _ h => h) (Or.inl ⟨by rfl, ?_⟩) (by assumption) ?_
  rotate_left
  · first | (intro w hSw; (try dsimp only at hSw); go_simp; done) | (intro w hSw; (try dsimp only at hSw); go_simp; with_reducible rfl)
  (try simp only [Act.put, List.setIfInBounds_toArray, List.set_cons_zero, List.set_cons_succ])
  refine wpAnyH_done (by kernel_rfl) ?_ _
  refine NoPanic.normal ?_
  have hbb := draw_below HB0.out C5a.out.grow (show w.heap.size ≤ w.heap.size + 1 by omega) (Nat.le_refl w.heap.size) (x := .slice aP nP cP) (y := .slice aW nW cW)
  have hTT := (B5a.out.t.res (rb := w.heap.size) (x := .slice aP nP cP) (y := .slice aW nW cW) (by omega)).mono (base' := w.heap.size) (by omega)
  have ZL := (((VL5a.out.res (rb := w.heap.size) (x := .slice aP nP cP) (y := .slice aW nW cW) (by omega)).mono (base' := w.heap.size) (by omega)))
  have ZM := (((VM5a.out.res (rb := w.heap.size) (x := .slice aP nP cP) (y := .slice aW nW cW) (by omega)).mono (base' := w.heap.size) (by omega)))
  go_wp2_with fail
  exact bodyPost_ret (v := .tuple #[.agg #[.slice aP nP cP, .slice aW nW cW], vL, vM]) (by simp [results, Tryz.results69, go_sem, hr.1, hr.2]) rfl ⟨⟨_, rfl, _, _, _, _, _, _, ps, ws, _, _, rfl, hTT, ZL, ZM⟩, hbb⟩
set_option maxHeartbeats 1000000 in
theorem spec_DrawStoppedMean (a : Option Addr) (n cap : Nat) (w : World) (h : Bytes w a n) :
    Calls Tryz.prog 7 #[.slice a n cap] w fun e w' => (∃ v, e = .returned v ∧ DrTLL w' w.heap.size v) ∧ Below w.heap.size w w' := by
  have hb1 := below_new w (.cells #[.slice none 0 0, .slice none 0 0] 26)
  have R1 := Lib.hid (Pair.new w (.slice none 0 0) (.slice none 0 0) 26)
  have HB := Lib.hid (h.below hb1)
  have hs1 : w.heap.size < (w.alloc (.cells #[.slice none 0 0, .slice none 0 0] 26)).heap.size := by simp
  clear h
  go_enter Tryz.func7, Tryz.ntmps7
  go_wp2_with fail
  generalize (w.alloc (.cells #[.slice none 0 0, .slice none 0 0] 26)) = w1 at *
  refine (spec_DrawStoppedProcess a n cap _ HB.out).mono ?_
  rintro e w2 ⟨⟨v, rfl, aP, nP, cP, aW, nW, cW, ps, ws, vL, vM, rfl, hD, oL, oM⟩, b2⟩
  have R2 := R1.out.below b2
  have e0 := R2.c0
  have e1 := R2.c1
  have f0 := R2.f0
  have f1 := R2.f1
  have hr := R2.set (.slice aP nP cP) (.slice aW nW cW)
  have hbb : Below w.heap.size w ((w2.setCell ⟨w.heap.size, 0, none⟩ (.slice aP nP cP)).setCell ⟨w.heap.size, 1, none⟩ (.slice aW nW cW)) := ((hb1.trans (b2.mono hb1.size)).setCell (Nat.le_refl _) _).setCell (Nat.le_refl _) _
  have HBB := Lib.hid hbb
  have HD := Lib.hid hD
  have OL := Lib.hid oL
  have OM := Lib.hid oM
  clear R2 hD oL b2 hb1 hbb oM
  go_wp2_with fail
  exact bodyPost_ret (v := .tuple #[.agg #[.slice aP nP cP, .slice aW nW cW], vL, vM]) (by simp [results, Tryz.results7, go_sem, hr.1, hr.2]) rfl ⟨⟨_, rfl, _, _, _, _, _, _, ps, ws, _, _, rfl, (((HD.out.res (rb := w.heap.size) (x := .slice aP nP cP) (y := .slice aW nW cW) (by omega)).mono (base' := w.heap.size) (by omega))), (((OL.out.res (rb := w.heap.size) (x := .slice aP nP cP) (y := .slice aW nW cW) (by omega)).mono (base' := w.heap.size) (by omega))), (((OM.out.res (rb := w.heap.size) (x := .slice aP nP cP) (y := .slice aW nW cW) (by omega)).mono (base' := w.heap.size) (by omega)))⟩, HBB.out⟩
set_option maxRecDepth 100000 in
set_option maxHeartbeats 2000000 in
theorem spec_DrawEarlierStop (a : Option Addr) (n cap : Nat) (w : World) (h : Bytes w a n) :
    Calls Tryz.prog 12 #[.slice a n cap] w fun e w' => (∃ v, e = .returned v ∧ DrTLL w' w.heap.size v) ∧ Below w.heap.size w w' := by
  have hb0 : Below w.heap.size w ((w.alloc (.cells #[.slice none 0 0, .slice none 0 0] 26)).alloc (.cells #[.slice a n cap, .int .i64 0, .int .u64 0] 69)) := (below_new w _).alloc (by simp) _
  have hc := Cur.new (cap := cap) 69 (h.below (below_new w (.cells #[.slice none 0 0, .slice none 0 0] 26)))
  have R0 := Lib.hid ((Pair.new w (.slice none 0 0) (.slice none 0 0) 26).alloc (.cells #[.slice a n cap, .int .i64 0, .int .u64 0] 69))
  have hs0 : ((w.alloc (.cells #[.slice none 0 0, .slice none 0 0] 26)).alloc (.cells #[.slice a n cap, .int .i64 0, .int .u64 0] 69)).heap.size = w.heap.size + 1 + 1 := by simp
  rw [show (w.alloc (.cells #[.slice none 0 0, .slice none 0 0] 26)).heap.size = w.heap.size + 1 by simp] at hc
  have C0 := Lib.hid (Cq.start hc)
  clear hc h
  go_enter Tryz.func12, Tryz.ntmps12
  go_wp2_with fail
  generalize ((w.alloc (.cells #[.slice none 0 0, .slice none 0 0] 26)).alloc (.cells #[.slice a n cap, .int .i64 0, .int .u64 0] 69)) = w0 at *
  have hg0 : w.heap.size + 1 < w0.heap.size := by omega
  have HB0 := Lib.hid hb0
  clear hs0 hb0
  refine (spec_tree (w.heap.size + 1) a n cap 0 _ (by omega) C0.out.cur).mono ?_
  rintro e w1 ⟨⟨v, rfl, aP, nP, cP, aW, nW, cW, ps, ws, rfl, hD⟩, c1, g1⟩
  have C1 := Lib.hid (C0.out.step c1 g1)
  have R1 := Lib.hid (pair_other R0.out g1 (by omega))
  have HD := Lib.hid hD
  have hs1 := C1.out.size
  have hP5 := Pair.new w1 (.slice none 0 0) (.slice none 0 0) 26
  have x0 := hP5.c0
  have x1 := hP5.c1
  have y0 := hP5.f0
  have y1 := hP5.f1
  clear c1 g1 hD hP5 R0 C0
  have B3 := Lib.hid (bx_new 26 HD.out hs1 R1.out (by omega))
  have C3 := Lib.hid (C1.out.lit (.cells #[.slice aP nP cP, .slice aW nW cW] 26))
  have hnP := HD.out.pn
  go_wp2_with fail
  clear x0 x1 y0 y1 R1 HD C1
  generalize (w1.alloc (.cells #[.slice aP nP cP, .slice aW nW cW] 26)) = w3 at *
  generalize w1.heap.size = tb at *
  have c0 := B3.out.box.c0
  have c1 := B3.out.box.c1
  refine wp_region_noPanic ?_
  refine wp_region_held_drew (S := (fun W' => W'.cell? ⟨tb, 0, none⟩ = some (.slice aP nP cP) ∧ W'.cell? ⟨tb, 1, none⟩ = some (.slice aW nW cW))) (by kernel_rfl) ?_ (fun hHeld0 => ?_)
  · (try dsimp only); first | assumption | exact ⟨B3.out.drew.box.c0, B3.out.drew.box.c1⟩ | exact ⟨((B3.out.lit _).drew).box.c0, ((B3.out.lit _).drew).box.c1⟩ | exact ⟨HX.out.c0, HX.out.c1⟩
  refine takeH (i := 0) (oi := _) (v := ?_) rfl (by kernel_rfl) (by kernel_rfl) (by kernel_rfl) (fun _ _ _ h => h) (Or.inl ⟨by rfl, ?_⟩) (by assumption) ?_
  rotate_left
  · first | (intro w hSw; (try dsimp only at hSw); go_simp; done) | (intro w hSw; (try dsimp only at hSw); go_simp; with_reducible rfl)
  (try simp only [Act.put, List.setIfInBounds_toArray, List.set_cons_zero, List.set_cons_succ])
  refine takeH (i := 1) (oi := _) (v := ?_) rfl (by kernel_rfl) (by kernel_rfl) (by kernel_rfl) (fun _ _ _ h => h) (Or.inl ⟨by rfl, ?_⟩) (by assumption) ?_
  rotate_left
  · first | (intro w hSw; (try dsimp only at hSw); go_simp; done) | (intro w hSw; (try dsimp only at hSw); go_simp; with_reducible rfl)
  (try simp only [Act.put, List.setIfInBounds_toArray, List.set_cons_zero, List.set_cons_succ])
  refine takeH (i := 2) (oi := _) (v := ?_) rfl (by kernel_rfl) (by kernel_rfl) (by kernel_rfl) (fun _ _ _ h => h) (Or.inl ⟨by rfl, ?_⟩) (by assumption) ?_
  rotate_left
  · first | (intro w hSw; (try dsimp only at hSw); go_simp; done) | (intro w hSw; (try dsimp only at hSw); go_simp; with_reducible rfl)
  (try simp only [Act.put, List.setIfInBounds_toArray, List.set_cons_zero, List.set_cons_succ])
  refine takeH (i := 4) (oi := _) (v := ?_) rfl (by kernel_rfl) (by kernel_rfl) (by kernel_rfl) (fun _ _ _ h => h) (Or.inl ⟨by rfl, ?_⟩) (by assumption) ?_
  rotate_left
  · first | (intro w hSw; (try dsimp only at hSw); go_simp; done) | (intro w hSw; (try dsimp only at hSw); go_simp; with_reducible rfl)
  (try simp only [Act.put, List.setIfInBounds_toArray, List.set_cons_zero, List.set_cons_succ])
  refine takeH (i := 5) (oi := _) (v := ?_) rfl (by kernel_rfl) (by kernel_rfl) (by kernel_rfl) (fun _ _ _ h => h) (Or.inl ⟨by rfl, ?_⟩) (by assumption) ?_
  rotate_left
  · first | (intro w hSw; (try dsimp only at hSw); go_simp; done) | (intro w hSw; (try dsimp only at hSw); go_simp; with_reducible rfl)
  (try simp only [Act.put, List.setIfInBounds_toArray, List.set_cons_zero, List.set_cons_succ])
  refine wpAnyH_ready (rs := [3]) (by kernel_rfl) (by simp) ?_
  refine consH rfl (fun Kq hKq => ?_)
  go_simp
  refine (spec_stop3 (w.heap.size + 1) a n cap _ w0.heap.size aP nP cP aW nW cW ps ws _ (by omega) (B3.out.drew).t (by omega) (C3.out.drew).cur).mono ?_
  rintro e w4a ⟨⟨vL, rfl, o4a⟩, c4a, g4a⟩
  have C4a := Lib.hid ((C3.out.drew).step c4a g4a)
  have B4a := Lib.hid ((B3.out.drew).other g4a (by omega) (by omega))
  have VL4a := Lib.hid ((o4a.mono (C3.out.drew).size).more (show _ ≤ 40 by omega))
  have hSS := And.intro B4a.out.box.c0 B4a.out.box.c1
  clear c4a g4a o4a
  refine hKq.out _ _ ?_ (fun hHeld1 => ?_)
  · (try dsimp only); first | assumption | exact ⟨B3.out.drew.box.c0, B3.out.drew.box.c1⟩ | exact ⟨((B3.out.lit _).drew).box.c0, ((B3.out.lit _).drew).box.c1⟩ | exact ⟨HX.out.c0, HX.out.c1⟩
  clear hKq Kq
  (try simp only [Act.put, List.setIfInBounds_toArray, List.set_cons_zero, List.set_cons_succ])
  clear hHeld0
  refine wpAnyH_ready (rs := [6]) (by kernel_rfl) (by simp) ?_
  refine consH rfl (fun Kq hKq => ?_)
  go_simp
  refine (spec_stop3 (w.heap.size + 1) a n cap _ w0.heap.size aP nP cP aW nW cW ps ws _ (by omega) B4a.out.t (by omega) C4a.out.cur).mono ?_
  rintro e w5a ⟨⟨vM, rfl, o5a⟩, c5a, g5a⟩
  have C5a := Lib.hid (C4a.out.step c5a g5a)
  have B5a := Lib.hid (B4a.out.other g5a (by omega) (by omega))
  have VL5a := Lib.hid (OwnA.other VL4a.out g5a (by omega))
  have VM5a := Lib.hid ((o5a.mono C4a.out.size).more (show _ ≤ 40 by omega))
  have hSS := And.intro B5a.out.box.c0 B5a.out.box.c1
  clear c5a g5a o5a
  have e0 := B5a.out.res.c0
  have e1 := B5a.out.res.c1
  have f0 := B5a.out.res.f0
  have f1 := B5a.out.res.f1
  have HX := Lib.hid ((B5a.out.box.far (show w.heap.size ≠ tb by have := B5a.out.ge; omega) (i := 0) (.slice aP nP cP)).far (show w.heap.size ≠ tb by have := B5a.out.ge; omega) (i := 1) (.slice aW nW cW))
  have hr := B5a.out.res.set (.slice aP nP cP) (.slice aW nW cW)
  refine hKq.out _ _ ?_ (fun hHeld2 => ?_)
  · (try dsimp only); first | assumption | exact ⟨B3.out.drew.box.c0, B3.out.drew.box.c1⟩ | exact ⟨((B3.out.lit _).drew).box.c0, ((B3.out.lit _).drew).box.c1⟩ | exact ⟨HX.out.c0, HX.out.c1⟩
  clear hKq Kq
  (try simp only [Act.put, List.setIfInBounds_toArray, List.set_cons_zero, List.set_cons_succ])
  clear hHeld1
  refine wpAnyH_ready (rs := [7]) (by kernel_rfl) (by simp) ?_
  refine consH rfl (fun Kq hKq => ?_)
  go_simp
  refine hKq.out _ _ ?_ (fun hHeld3 => ?_)
  · (try dsimp only); first | assumption | exact ⟨B3.out.drew.box.c0, B3.out.drew.box.c1⟩ | exact ⟨((B3.out.lit _).drew).box.c0, ((B3.out.lit _).drew).box.c1⟩ | exact ⟨HX.out.c0, HX.out.c1⟩
  clear hKq Kq
  (try simp only [Act.put, List.setIfInBounds_toArray, List.set_cons_zero, List.set_cons_succ])
  clear hHeld2
  refine takeH (i := 8) (oi := _) (v := ?_) rfl (by kernel_rfl) (by kernel_rfl) (by kernel_rfl) (fun _ _ _ h => h) (Or.inl ⟨by rfl, ?_⟩) (by assumption) ?_
  rotate_left
  · first | (intro w hSw; (try dsimp only at hSw); go_simp; done) | (intro w hSw; (try dsimp only at hSw); go_simp; with_reducible rfl)
  (try simp only [Act.put, List.setIfInBounds_toArray, List.set_cons_zero, List.set_cons_succ])
  refine takeH (i := 9) (oi := _) (v := ?_) rfl (by kernel_rfl) (by kernel_rfl) (by kernel_rfl) (fun _ _ _ h => h) (Or.inl ⟨by rfl, ?_⟩) (by assumption) ?_
  rotate_left
  · first | (intro w hSw; (try dsimp only at hSw); go_simp; done) | (intro w hSw; (try dsimp only at hSw); go_simp; with_reducible rfl)
  (try simp only [Act.put, List.setIfInBounds_toArray, List.set_cons_zero, List.set_cons_succ])
  refine wpAnyH_done (by kernel_rfl) ?_ _
  refine NoPanic.normal ?_
  have hbb := draw_below HB0.out C5a.out.grow (show w.heap.size ≤ w.heap.size + 1 by omega) (Nat.le_refl w.heap.size) (x := .slice aP nP cP) (y := .slice aW nW cW)
  have hTT := (B5a.out.t.res (rb := w.heap.size) (x := .slice aP nP cP) (y := .slice aW nW cW) (by omega)).mono (base' := w.heap.size) (by omega)
  have ZL := (((VL5a.out.res (rb := w.heap.size) (x := .slice aP nP cP) (y := .slice aW nW cW) (by omega)).mono (base' := w.heap.size) (by omega)))
  have ZM := (((VM5a.out.res (rb := w.heap.size) (x := .slice aP nP cP) (y := .slice aW nW cW) (by omega)).mono (base' := w.heap.size) (by omega)))
  go_wp2_with fail
  exact bodyPost_ret (v := .tuple #[.agg #[.slice aP nP cP, .slice aW nW cW], vL, vM]) (by simp [results, Tryz.results12, go_sem, hr.1, hr.2]) rfl ⟨⟨_, rfl, _, _, _, _, _, _, ps, ws, _, _, rfl, hTT, ZL, ZM⟩, hbb⟩
set_option maxRecDepth 100000 in
set_option maxHeartbeats 2000000 in
theorem spec_DrawIsStopping (a : Option Addr) (n cap : Nat) (w : World) (h : Bytes w a n) :
    Calls Tryz.prog 18 #[.slice a n cap] w fun e w' => (∃ v, e = .returned v ∧ DrTL w' w.heap.size v) ∧ Below w.heap.size w w' := by
  have hb0 : Below w.heap.size w ((w.alloc (.cells #[.slice none 0 0, .slice none 0 0] 26)).alloc (.cells #[.slice a n cap, .int .i64 0, .int .u64 0] 69)) := (below_new w _).alloc (by simp) _
  have hc := Cur.new (cap := cap) 69 (h.below (below_new w (.cells #[.slice none 0 0, .slice none 0 0] 26)))
  have R0 := Lib.hid ((Pair.new w (.slice none 0 0) (.slice none 0 0) 26).alloc (.cells #[.slice a n cap, .int .i64 0, .int .u64 0] 69))
  have hs0 : ((w.alloc (.cells #[.slice none 0 0, .slice none 0 0] 26)).alloc (.cells #[.slice a n cap, .int .i64 0, .int .u64 0] 69)).heap.size = w.heap.size + 1 + 1 := by simp
  rw [show (w.alloc (.cells #[.slice none 0 0, .slice none 0 0] 26)).heap.size = w.heap.size + 1 by simp] at hc
  have C0 := Lib.hid (Cq.start hc)
  clear hc h
  go_enter Tryz.func18, Tryz.ntmps18
  go_wp2_with fail
  generalize ((w.alloc (.cells #[.slice none 0 0, .slice none 0 0] 26)).alloc (.cells #[.slice a n cap, .int .i64 0, .int .u64 0] 69)) = w0 at *
  have hg0 : w.heap.size + 1 < w0.heap.size := by omega
  have HB0 := Lib.hid hb0
  clear hs0 hb0
  refine (spec_tree (w.heap.size + 1) a n cap 0 _ (by omega) C0.out.cur).mono ?_
  rintro e w1 ⟨⟨v, rfl, aP, nP, cP, aW, nW, cW, ps, ws, rfl, hD⟩, c1, g1⟩
  have C1 := Lib.hid (C0.out.step c1 g1)
  have R1 := Lib.hid (pair_other R0.out g1 (by omega))
  have HD := Lib.hid hD
  have hs1 := C1.out.size
  have hP5 := Pair.new w1 (.slice none 0 0) (.slice none 0 0) 26
  have x0 := hP5.c0
  have x1 := hP5.c1
  have y0 := hP5.f0
  have y1 := hP5.f1
  clear c1 g1 hD hP5 R0 C0
  have B3 := Lib.hid (bx_new 26 HD.out hs1 R1.out (by omega))
  have C3 := Lib.hid (C1.out.lit (.cells #[.slice aP nP cP, .slice aW nW cW] 26))
  have hnP := HD.out.pn
  go_wp2_with fail
  clear x0 x1 y0 y1 R1 HD C1
  generalize (w1.alloc (.cells #[.slice aP nP cP, .slice aW nW cW] 26)) = w3 at *
  generalize w1.heap.size = tb at *
  have c0 := B3.out.box.c0
  have c1 := B3.out.box.c1
  refine (spec_one (w.heap.size + 1) a n cap _ _ _ (by omega) (by omega) C3.out.cur).mono ?_
  rintro e w4 ⟨⟨t, rfl⟩, cc4, gg4⟩
  have C4 := Lib.hid (C3.out.step cc4 gg4)
  have B4 := Lib.hid (B3.out.other gg4 (by omega) (by omega))
  clear cc4 gg4 c0 c1
  have c0 := B4.out.box.c0
  have c1 := B4.out.box.c1
  cases t
  · go_wp2_with fail
    refine wp_region_noPanic ?_
    refine wp_region_held_drew (S := (fun W' => W'.cell? ⟨tb, 0, none⟩ = some (.slice aP nP cP) ∧ W'.cell? ⟨tb, 1, none⟩ = some (.slice aW nW cW))) (by kernel_rfl) ?_ (fun hHeld0 => ?_)
    · (try dsimp only); first | assumption | exact ⟨B4.out.drew.box.c0, B4.out.drew.box.c1⟩ | exact ⟨((B4.out.lit _).drew).box.c0, ((B4.out.lit _).drew).box.c1⟩ | exact ⟨HX.out.c0, HX.out.c1⟩
    refine takeH (i := 0) (oi := _) (v := ?_) rfl (by kernel_rfl) (by kernel_rfl) (by kernel_rfl) (fun _ _ _ h => h) (Or.inl ⟨by rfl, ?_⟩) (by assumption) ?_
    rotate_left
    · first | (intro w hSw; (try dsimp only at hSw); go_simp; done) | (intro w hSw; (try dsimp only at hSw); go_simp; with_reducible rfl)
    (try simp only [Act.put, List.setIfInBounds_toArray, List.set_cons_zero, List.set_cons_succ])
    refine takeH (i := 1) (oi := _) (v := ?_) rfl (by kernel_rfl) (by kernel_rfl) (by kernel_rfl) (fun _ _ _ h => h) (Or.inl ⟨by rfl, ?_⟩) (by assumption) ?_
    rotate_left
    · first | (intro w hSw; (try dsimp only at hSw); go_simp; done) | (intro w hSw; (try dsimp only at hSw); go_simp; with_reducible rfl)
    (try simp only [Act.put, List.setIfInBounds_toArray, List.set_cons_zero, List.set_cons_succ])
    refine takeH (i := 2) (oi := _) (v := ?_) rfl (by kernel_rfl) (by kernel_rfl) (by kernel_rfl) (fun _ _ _ h => h) (Or.inl ⟨by rfl, ?_⟩) (by assumption) ?_
    rotate_left
    · first | (intro w hSw; (try dsimp only at hSw); go_simp; done) | (intro w hSw; (try dsimp only at hSw); go_simp; with_reducible rfl)
    (try simp only [Act.put, List.setIfInBounds_toArray, List.set_cons_zero, List.set_cons_succ])
    refine wpAnyH_ready (rs := [3]) (by kernel_rfl) (by simp) ?_
    refine consH rfl (fun Kq hKq => ?_)
    go_simp
    refine (spec_stop3 (w.heap.size + 1) a n cap _ w0.heap.size aP nP cP aW nW cW ps ws _ (by omega) (B4.out.drew).t (by omega) (C4.out.drew).cur).mono ?_
    rintro e w5x ⟨⟨vL, rfl, o5x⟩, c5x, g5x⟩
    have C5x := Lib.hid ((C4.out.drew).step c5x g5x)
    have B5x := Lib.hid ((B4.out.drew).other g5x (by omega) (by omega))
    have VL5x := Lib.hid ((o5x.mono (C4.out.drew).size).more (show _ ≤ 40 by omega))
    have hSS := And.intro B5x.out.box.c0 B5x.out.box.c1
    clear c5x g5x o5x
    have e0 := B5x.out.res.c0
    have e1 := B5x.out.res.c1
    have f0 := B5x.out.res.f0
    have f1 := B5x.out.res.f1
    have HX := Lib.hid ((B5x.out.box.far (show w.heap.size ≠ tb by have := B5x.out.ge; omega) (i := 0) (.slice aP nP cP)).far (show w.heap.size ≠ tb by have := B5x.out.ge; omega) (i := 1) (.slice aW nW cW))
    have hr := B5x.out.res.set (.slice aP nP cP) (.slice aW nW cW)
    refine hKq.out _ _ ?_ (fun hHeld1 => ?_)
    · (try dsimp only); first | assumption | exact ⟨B4.out.drew.box.c0, B4.out.drew.box.c1⟩ | exact ⟨((B4.out.lit _).drew).box.c0, ((B4.out.lit _).drew).box.c1⟩ | exact ⟨HX.out.c0, HX.out.c1⟩
    clear hKq Kq
    (try simp only [Act.put, List.setIfInBounds_toArray, List.set_cons_zero, List.set_cons_succ])
    clear hHeld0
    refine wpAnyH_ready (rs := [4]) (by kernel_rfl) (by simp) ?_
    refine consH rfl (fun Kq hKq => ?_)
    go_simp
    refine hKq.out _ _ ?_ (fun hHeld2 => ?_)
    · (try dsimp only); first | assumption | exact ⟨B4.out.drew.box.c0, B4.out.drew.box.c1⟩ | exact ⟨((B4.out.lit _).drew).box.c0, ((B4.out.lit _).drew).box.c1⟩ | exact ⟨HX.out.c0, HX.out.c1⟩
    clear hKq Kq
    (try simp only [Act.put, List.setIfInBounds_toArray, List.set_cons_zero, List.set_cons_succ])
    clear hHeld1
    refine takeH (i := 5) (oi := _) (v := ?_) rfl (by kernel_rfl) (by kernel_rfl) (by kernel_rfl) (fun _ _ _ h => h) (Or.inl ⟨by rfl, ?_⟩) (by assumption) ?_
    rotate_left
    · first | (intro w hSw; (try dsimp only at hSw); go_simp; done) | (intro w hSw; (try dsimp only at hSw); go_simp; with_reducible rfl)
    (try simp only [Act.put, List.setIfInBounds_toArray, List.set_cons_zero, List.set_cons_succ])
    refine wpAnyH_done (by kernel_rfl) ?_ _
    refine NoPanic.normal ?_
    have hbb := draw_below HB0.out C5x.out.grow (show w.heap.size ≤ w.heap.size + 1 by omega) (Nat.le_refl w.heap.size) (x := .slice aP nP cP) (y := .slice aW nW cW)
    have hTT := (B5x.out.t.res (rb := w.heap.size) (x := .slice aP nP cP) (y := .slice aW nW cW) (by omega)).mono (base' := w.heap.size) (by omega)
    have ZL := (((VL5x.out.res (rb := w.heap.size) (x := .slice aP nP cP) (y := .slice aW nW cW) (by omega)).mono (base' := w.heap.size) (by omega)))
    go_wp2_with fail
    exact bodyPost_ret (v := .tuple #[.agg #[.slice aP nP cP, .slice aW nW cW], vL]) (by simp [results, Tryz.results18, go_sem, hr.1, hr.2]) rfl ⟨⟨_, rfl, _, _, _, _, _, _, ps, ws, _, rfl, hTT, ZL⟩, hbb⟩
  · go_wp2_with fail
    refine wp_region_noPanic ?_
    refine wp_region_held_drew (S := (fun W' => W'.cell? ⟨tb, 0, none⟩ = some (.slice aP nP cP) ∧ W'.cell? ⟨tb, 1, none⟩ = some (.slice aW nW cW))) (by kernel_rfl) ?_ (fun hHeld0 => ?_)
    · (try dsimp only); first | assumption | exact ⟨B4.out.drew.box.c0, B4.out.drew.box.c1⟩ | exact ⟨((B4.out.lit _).drew).box.c0, ((B4.out.lit _).drew).box.c1⟩ | exact ⟨HX.out.c0, HX.out.c1⟩
    refine takeH (i := 0) (oi := _) (v := ?_) rfl (by kernel_rfl) (by kernel_rfl) (by kernel_rfl) (fun _ _ _ h => h) (Or.inl ⟨by rfl, ?_⟩) (by assumption) ?_
    rotate_left
    · first | (intro w hSw; (try dsimp only at hSw); go_simp; done) | (intro w hSw; (try dsimp only at hSw); go_simp; with_reducible rfl)
    (try simp only [Act.put, List.setIfInBounds_toArray, List.set_cons_zero, List.set_cons_succ])
    refine takeH (i := 1) (oi := _) (v := ?_) rfl (by kernel_rfl) (by kernel_rfl) (by kernel_rfl) (fun _ _ _ h => h) (Or.inl ⟨by rfl, ?_⟩) (by assumption) ?_
    rotate_left
    · first | (intro w hSw; (try dsimp only at hSw); go_simp; done) | (intro w hSw; (try dsimp only at hSw); go_simp; with_reducible rfl)
    (try simp only [Act.put, List.setIfInBounds_toArray, List.set_cons_zero, List.set_cons_succ])
    refine takeH (i := 2) (oi := _) (v := ?_) rfl (by kernel_rfl) (by kernel_rfl) (by kernel_rfl) (fun _ _ _ h => h) (Or.inl ⟨by rfl, ?_⟩) (by assumption) ?_
    rotate_left
    · first | (intro w hSw; (try dsimp only at hSw); go_simp; done) | (intro w hSw; (try dsimp only at hSw); go_simp; with_reducible rfl)
    (try simp only [Act.put, List.setIfInBounds_toArray, List.set_cons_zero, List.set_cons_succ])
    refine wpAnyH_ready (rs := [3]) (by kernel_rfl) (by simp) ?_
    refine consH rfl (fun Kq hKq => ?_)
    go_simp
    refine (spec_event (w.heap.size + 1) a n cap _ w0.heap.size aP nP cP aW nW cW ps ws _ (by omega) (B4.out.drew).t (by omega) (C4.out.drew).cur).mono ?_
    rintro e w5y ⟨⟨vL, rfl, o5y⟩, c5y, g5y⟩
    have C5y := Lib.hid ((C4.out.drew).step c5y g5y)
    have B5y := Lib.hid ((B4.out.drew).other g5y (by omega) (by omega))
    have VL5y := Lib.hid ((o5y.mono (C4.out.drew).size).more (show _ ≤ 40 by omega))
    have hSS := And.intro B5y.out.box.c0 B5y.out.box.c1
    clear c5y g5y o5y
    have e0 := B5y.out.res.c0
    have e1 := B5y.out.res.c1
    have f0 := B5y.out.res.f0
    have f1 := B5y.out.res.f1
    have HX := Lib.hid ((B5y.out.box.far (show w.heap.size ≠ tb by have := B5y.out.ge; omega) (i := 0) (.slice aP nP cP)).far (show w.heap.size ≠ tb by have := B5y.out.ge; omega) (i := 1) (.slice aW nW cW))
    have hr := B5y.out.res.set (.slice aP nP cP) (.slice aW nW cW)
    refine hKq.out _ _ ?_ (fun hHeld1 => ?_)
    · (try dsimp only); first | assumption | exact ⟨B4.out.drew.box.c0, B4.out.drew.box.c1⟩ | exact ⟨((B4.out.lit _).drew).box.c0, ((B4.out.lit _).drew).box.c1⟩ | exact ⟨HX.out.c0, HX.out.c1⟩
    clear hKq Kq
    (try simp only [Act.put, List.setIfInBounds_toArray, List.set_cons_zero, List.set_cons_succ])
    clear hHeld0
    refine wpAnyH_ready (rs := [4]) (by kernel_rfl) (by simp) ?_
    refine consH rfl (fun Kq hKq => ?_)
    go_simp
    refine hKq.out _ _ ?_ (fun hHeld2 => ?_)
    · (try dsimp only); first | assumption | exact ⟨B4.out.drew.box.c0, B4.out.drew.box.c1⟩ | exact ⟨((B4.out.lit _).drew).box.c0, ((B4.out.lit _).drew).box.c1⟩ | exact ⟨HX.out.c0, HX.out.c1⟩
    clear hKq Kq
    (try simp only [Act.put, List.setIfInBounds_toArray, List.set_cons_zero, List.set_cons_succ])
    clear hHeld1
    refine takeH (i := 5) (oi := _) (v := ?_) rfl (by kernel_rfl) (by kernel_rfl) (by kernel_rfl) (fun _ _ _ h => h) (Or.inl ⟨by rfl, ?_⟩) (by assumption) ?_
    rotate_left
    · first | (intro w hSw; (try dsimp only at hSw); go_simp; done) | (intro w hSw; (try dsimp only at hSw); go_simp; with_reducible rfl)
    (try simp only [Act.put, List.setIfInBounds_toArray, List.set_cons_zero, List.set_cons_succ])
    refine wpAnyH_done (by kernel_rfl) ?_ _
    refine NoPanic.normal ?_
    have hbb := draw_below HB0.out C5y.out.grow (show w.heap.size ≤ w.heap.size + 1 by omega) (Nat.le_refl w.heap.size) (x := .slice aP nP cP) (y := .slice aW nW cW)
    have hTT := (B5y.out.t.res (rb := w.heap.size) (x := .slice aP nP cP) (y := .slice aW nW cW) (by omega)).mono (base' := w.heap.size) (by omega)
    have ZL := (((VL5y.out.res (rb := w.heap.size) (x := .slice aP nP cP) (y := .slice aW nW cW) (by omega)).mono (base' := w.heap.size) (by omega)))
    go_wp2_with fail
    exact bodyPost_ret (v := .tuple #[.agg #[.slice aP nP cP, .slice aW nW cW], vL]) (by simp [results, Tryz.results18, go_sem, hr.1, hr.2]) rfl ⟨⟨_, rfl, _, _, _, _, _, _, ps, ws, _, rfl, hTT, ZL⟩, hbb⟩
end Go.Proofs.YtnbomleieianoaaGreat
