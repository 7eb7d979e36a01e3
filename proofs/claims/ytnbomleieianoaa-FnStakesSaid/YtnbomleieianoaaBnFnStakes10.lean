/- Contracts and plain laws for the statement FnStakes, part 10. No conditions but those stated in each. -/
import Derived.Test.YtnbomleieianoaaBnFnStakes8
import Derived.Test.YtnbomleieianoaaBnFnStakes9
/- Contract: a tree, a process and stakes, drawn. No conditions but those stated. -/
namespace Go.Proofs.Ytnbomleieianoaa
open Go.RowKit

set_option maxRecDepth 100000 in
set_option maxHeartbeats 2000000 in
theorem spec_DrawStakeGains (a : Option Addr) (n cap : Nat) (w : World) (h : Bytes w a n) :
    Calls Try.prog 59 #[.slice a n cap] w fun e w' => (∃ v, e = .returned v ∧ DrTLL w' w.heap.size v) ∧ Below w.heap.size w w' := by
  have hb0 : Below w.heap.size w ((w.alloc (.cells #[.slice none 0 0, .slice none 0 0] 26)).alloc (.cells #[.slice a n cap, .int .i64 0, .int .u64 0] 75)) := (below_new w _).alloc (by simp) _
  have hc := Cur.new (cap := cap) 75 (h.below (below_new w (.cells #[.slice none 0 0, .slice none 0 0] 26)))
  have R0 := Lib.hid ((Pair.new w (.slice none 0 0) (.slice none 0 0) 26).alloc (.cells #[.slice a n cap, .int .i64 0, .int .u64 0] 75))
  have hs0 : ((w.alloc (.cells #[.slice none 0 0, .slice none 0 0] 26)).alloc (.cells #[.slice a n cap, .int .i64 0, .int .u64 0] 75)).heap.size = w.heap.size + 1 + 1 := by simp
  rw [show (w.alloc (.cells #[.slice none 0 0, .slice none 0 0] 26)).heap.size = w.heap.size + 1 by simp] at hc
  have C0 := Lib.hid (Cq.start hc)
  clear hc h
  go_enter Try.func59, Try.ntmps59
  go_wp2_with fail
  generalize ((w.alloc (.cells #[.slice none 0 0, .slice none 0 0] 26)).alloc (.cells #[.slice a n cap, .int .i64 0, .int .u64 0] 75)) = w0 at *
  have hg0 : w.heap.size + 1 < w0.heap.size := by omega
  have HB0 := Lib.hid hb0
  clear hs0 hb0
  refine (spec_tree (w.heap.size + 1) a n cap 0 _ (by omega) C0.out.cur).mono ?_
  rintro e w1 ⟨⟨v, rfl, aP, nP, cP, aW, nW, cW, ps, ws, rfl, hD⟩, c1, g1⟩
  have C1 := Lib.hid (C0.out.step c1 g1)
  have R1 := Lib.hid (pair_other R0.out g1 (by omega))
  have HD := Lib.hid hD
  have hs1 := C1.out.size
  have hP5 := Pair.new w1 (.slice none 0 0) (.slice none 0 0) 26
  have x0 := hP5.c0
  have x1 := hP5.c1
  have y0 := hP5.f0
  have y1 := hP5.f1
  clear c1 g1 hD hP5 R0 C0
  have B3 := Lib.hid (bx_new 26 HD.out hs1 R1.out (by omega))
  have C3 := Lib.hid (C1.out.lit (.cells #[.slice aP nP cP, .slice aW nW cW] 26))
  have hnP := HD.out.pn
  go_wp2_with fail
  clear x0 x1 y0 y1 R1 HD C1
  generalize (w1.alloc (.cells #[.slice aP nP cP, .slice aW nW cW] 26)) = w3 at *
  generalize w1.heap.size = tb at *
  have c0 := B3.out.box.c0
  have c1 := B3.out.box.c1
  refine (spec_fair3 (w.heap.size + 1) a n cap _ w0.heap.size aP nP cP aW nW cW ps ws _ (by omega) B3.out.t (by omega) C3.out.cur).mono ?_
  rintro e w4 ⟨⟨vL, rfl, xs, oL, hxl⟩, cc4, gg4⟩
  have C4 := Lib.hid (C3.out.step cc4 gg4)
  have B4 := Lib.hid (B3.out.other gg4 (by omega) (by omega))
  obtain ⟨aL, cL, rfl⟩ := oL.shape
  obtain ⟨nL, hnL⟩ : ∃ z, z = xs.length := ⟨_, rfl⟩
  rw [← hnL] at oL ⊢
  have hnL2 : nL ≤ 31 := by omega
  have hs3 := C3.out.size
  have HOL := Lib.hid ((oL.mono hs3).lit (.cells #[] 3))
  have HxL := Lib.hid hxl
  have hs4 := C4.out.size
  have hnil : Own (w4.alloc (.cells #[] 3)) w0.heap.size (.slice (some ⟨w4.heap.size, 0, none⟩) 0 0) [] := (own_nil0 w4).mono hs4
  have hH : Hv w0 w0 (w4.alloc (.cells #[] 3)) (w.heap.size + 1) a n cap 2000 w.heap.size tb aP nP cP aW nW cW ps ws (.slice (some ⟨w4.heap.size, 0, none⟩) 0 0) [] :=
    ⟨(C4.out.lit _).mono (by omega), B4.out.lit _, hnil, by have := B4.out.box.lt; simp [Value.ownBlock]; omega, fun k hk => by have := (World.ownsRow.lt B4.out.t.p k hk).2; simp [Value.ownBlock]; omega, fun k hk => by have := (World.ownsRow.lt B4.out.t.w k hk).2; simp [Value.ownBlock]; omega, Nat.le_refl _⟩
  have HH := Lib.hid hH
  have HNL : Hid (∀ k, (Value.slice aL nL cL).ownBlock = some k → (Value.slice (some ⟨w4.heap.size, 0, none⟩) 0 0).ownBlock ≠ some k) := Lib.hid fun k hk => by have := (World.ownsRow.lt oL k hk).2; simp [Value.ownBlock]; omega
  clear cc4 gg4 c0 c1 oL hxl hnL B3 C3 hnil hH C4 B4
  go_wp2_with fail
  generalize (w4.alloc (.cells #[] 3)) = w5 at *
  generalize (Value.slice (some ⟨w4.heap.size, 0, none⟩) 0 0) = v0 at *
  go_loopw [8, 9] (fun v8 v9 wr => ∃ (k : Nat) (st : List Int), k ≤ 25 ∧ k ≤ nP ∧ v9 = .int .i64 (k : Int) ∧ st.length = k ∧ Hv w0 w0 wr (w.heap.size + 1) a n cap (2000 + 2 * (k : Int)) w.heap.size tb aP nP cP aW nW cW ps ws v8 st ∧ Own wr w0.heap.size (.slice aL nL cL) xs ∧ (∀ k, (Value.slice aL nL cL).ownBlock = some k → v8.ownBlock ≠ some k)) (fun _ v9 _ => 25 - (intOf v9).toNat)
  case atStart => exact ⟨0, [], by omega, by omega, rfl, rfl, HH.out.mono (by omega), HOL.out, HNL.out⟩
  case round =>
    clear HH HOL HNL
    obtain ⟨k, st, hk, hkn, rfl, hst, hH, hOL, hNL⟩ := hrel
    have HH := Lib.hid hH
    have HOL := Lib.hid hOL
    have HNL := Lib.hid hNL
    have Hst := Lib.hid hst
    have d0 := HH.out.bx.box.c0
    clear hH hOL hNL hst
    by_cases hlt : (k : Int) < nP
    · by_cases hl5 : (k : Int) < 25
      · go_wp2_with fail
        refine (spec_pick (w.heap.size + 1) a n cap _ _ _ (by omega) (by omega) HH.out.cq.cur).mono ?_
        rintro e w6 ⟨⟨x, rfl, hx0, hx1⟩, c6, g6⟩
        have HH6 := Lib.hid (HH.out.step c6 g6 (by omega))
        have HOL6 := Lib.hid (own_other HOL.out g6 (by omega))
        obtain ⟨u, hu⟩ : ∃ u, u = x - 4 := ⟨_, rfl⟩
        have k0 : IntKind.i64.wrap (x - 4) = u := by rw [hu]; exact IntWalk.i64_in _ (by omega)
        have hle : w0.heap.size ≤ w6.heap.size := HH6.out.cq.size
        obtain ⟨a8, c8, rfl⟩ := HH6.out.o.shape
        clear c6 g6 HH HOL hu d0
        go_wp2_with (at_builtin; refine wp_push2 (.tmp 30) (.tmp 34) rfl rfl w0.heap.size _ st rfl HH6.out.o rfl (by have := Hst.out; omega) hle ?_; intro v' w' ho hb hm; have HH7 := Lib.hid (HH6.out.push ho hb hm); have HOL7 := Lib.hid (HOL6.out.moved hm HNL.out); have HNL7 := Lib.hid (fun k (hk : (Value.slice aL nL cL).ownBlock = some k) => (hm.2 k (World.ownsRow.lt HOL6.out k hk).2 (HNL.out k hk)).1); clear ho hb hm)
        go_roundw
        case rel => exact ⟨k + 1, _, by omega, by omega, by go_num, by rw [List.length_append]; have := Hst.out; simp; omega, HH7.out.mono (by omega), HOL7.out, HNL7.out⟩
        case measure => simp [intOf] <;> omega
      · go_upto_region 9 with fail
        obtain ⟨a8, c8, hv8⟩ := HH.out.o.shape
        rw [Hst.out] at hv8
        subst hv8
        by_cases hkp : (k : Int) > 0
        rotate_left
        · exfalso; omega
        · skip
          go_wp2_with fail
          refine (spec_one (w.heap.size + 1) a n cap _ _ _ (by omega) (by omega) HH.out.cq.cur).mono ?_
          rintro e w7 ⟨⟨t, rfl⟩, c7, g7⟩
          have HH7 := Lib.hid (HH.out.step c7 g7 (by omega))
          have HOL7 := Lib.hid (own_other HOL.out g7 (by omega))
          clear c7 g7 HH HOL d0
          cases t
          · go_upto_region 11 with fail
            have d0 := HH7.out.bx.box.c0
            have d1 := HH7.out.bx.box.c1
            have e0 := HH7.out.bx.res.c0
            have e1 := HH7.out.bx.res.c1
            have f0 := HH7.out.bx.res.f0
            have f1 := HH7.out.bx.res.f1
            have hr := HH7.out.bx.res.set (.slice aP nP cP) (.slice aW nW cW)
            have hbb := draw_below HB0.out HH7.out.cq.grow (show w.heap.size ≤ w.heap.size + 1 by omega) (Nat.le_refl w.heap.size) (x := .slice aP nP cP) (y := .slice aW nW cW)
            have hTT := (HH7.out.bx.t.res (rb := w.heap.size) (x := .slice aP nP cP) (y := .slice aW nW cW) (by omega)).mono (base' := w.heap.size) (by omega)
            have hLL : OwnA _ w.heap.size (.slice aL nL cL) 40 := ⟨_, (own_res (rb := w.heap.size) (x := .slice aP nP cP) (y := .slice aW nW cW) HOL7.out (by omega)).mono (base' := w.heap.size) (by omega), by have := HxL.out; omega⟩
            have hCC : OwnA _ w.heap.size (.slice a8 k c8) 40 := ⟨_, (own_res (rb := w.heap.size) (x := .slice aP nP cP) (y := .slice aW nW cW) HH7.out.o (by omega)).mono (base' := w.heap.size) (by omega), by have := Hst.out; omega⟩
            have HZ := Lib.hid (And.intro hbb (And.intro hTT (And.intro hLL hCC)))
            clear hbb hTT hLL hCC
            go_wp2_with fail
            exact bodyPost_ret (v := .tuple #[.agg #[.slice aP nP cP, .slice aW nW cW], .slice aL nL cL, (.slice a8 k c8)]) (by simp [results, Try.results59, go_sem, hr.1, hr.2]) rfl ⟨⟨_, rfl, _, _, _, _, _, _, ps, ws, _, _, rfl, HZ.out.2.1, HZ.out.2.2.1, HZ.out.2.2.2⟩, HZ.out.1⟩
          · obtain ⟨go, co', hv, hgo, hgl⟩ := HH7.out.o.form (by have := Hst.out; omega)
            rw [Hst.out] at hv
            obtain ⟨rfl, -, rfl⟩ := Value.slice.inj hv
            clear hv
            go_wp2_with fail
            refine (among_lit (w.heap.size + 1) a n cap _ [-20, 20, 21, -21] _ 4 _ (by omega) rfl rfl (by omega) HH7.out.cq.cur).mono ?_
            rintro e w8 ⟨⟨i8, hi8, rfl⟩, c8', g8⟩
            generalize nth _ i8 = dv at *
            have HH8 := Lib.hid (HH7.out.step c8' g8 (by omega))
            have HOL8 := Lib.hid (own_other HOL7.out g8 (by omega))
            have h8c := HH8.out.o.cell (i := 0) (by have := Hst.out; omega)
            have h8f := HH8.out.o.free Hst.out.symm 0
            have HH9 := Lib.hid (HH8.out.put Hst.out.symm 0 dv)
            have HOL9 := Lib.hid (HOL8.out.far (a := ⟨go, 0, none⟩) (fun e => HNL.out go e rfl) (.int .i64 dv))
            have hkn2 : 0 < k := by omega
            clear c8' g8 HH7 HOL7
            go_upto_region 11 with fail
            have d0 := HH9.out.bx.box.c0
            have d1 := HH9.out.bx.box.c1
            have e0 := HH9.out.bx.res.c0
            have e1 := HH9.out.bx.res.c1
            have f0 := HH9.out.bx.res.f0
            have f1 := HH9.out.bx.res.f1
            have hr := HH9.out.bx.res.set (.slice aP nP cP) (.slice aW nW cW)
            have hbb := draw_below HB0.out HH9.out.cq.grow (show w.heap.size ≤ w.heap.size + 1 by omega) (Nat.le_refl w.heap.size) (x := .slice aP nP cP) (y := .slice aW nW cW)
            have hTT := (HH9.out.bx.t.res (rb := w.heap.size) (x := .slice aP nP cP) (y := .slice aW nW cW) (by omega)).mono (base' := w.heap.size) (by omega)
            have hLL : OwnA _ w.heap.size (.slice aL nL cL) 40 := ⟨_, (own_res (rb := w.heap.size) (x := .slice aP nP cP) (y := .slice aW nW cW) HOL9.out (by omega)).mono (base' := w.heap.size) (by omega), by have := HxL.out; omega⟩
            have hCC : OwnA _ w.heap.size (.slice (some ⟨go, 0, none⟩) k c8) 40 := ⟨_, (own_res (rb := w.heap.size) (x := .slice aP nP cP) (y := .slice aW nW cW) HH9.out.o (by omega)).mono (base' := w.heap.size) (by omega), by rw [List.length_set]; have := Hst.out; omega⟩
            have HZ := Lib.hid (And.intro hbb (And.intro hTT (And.intro hLL hCC)))
            clear hbb hTT hLL hCC
            go_wp2_with fail
            exact bodyPost_ret (v := .tuple #[.agg #[.slice aP nP cP, .slice aW nW cW], .slice aL nL cL, (.slice (some ⟨go, 0, none⟩) k c8)]) (by simp [results, Try.results59, go_sem, hr.1, hr.2]) rfl ⟨⟨_, rfl, _, _, _, _, _, _, ps, ws, _, _, rfl, HZ.out.2.1, HZ.out.2.2.1, HZ.out.2.2.2⟩, HZ.out.1⟩
    · go_upto_region 9 with fail
      obtain ⟨a8, c8, hv8⟩ := HH.out.o.shape
      rw [Hst.out] at hv8
      subst hv8
      by_cases hkp : (k : Int) > 0
      rotate_left
      · go_upto_region 11 with fail
        have d0 := HH.out.bx.box.c0
        have d1 := HH.out.bx.box.c1
        have e0 := HH.out.bx.res.c0
        have e1 := HH.out.bx.res.c1
        have f0 := HH.out.bx.res.f0
        have f1 := HH.out.bx.res.f1
        have hr := HH.out.bx.res.set (.slice aP nP cP) (.slice aW nW cW)
        have hbb := draw_below HB0.out HH.out.cq.grow (show w.heap.size ≤ w.heap.size + 1 by omega) (Nat.le_refl w.heap.size) (x := .slice aP nP cP) (y := .slice aW nW cW)
        have hTT := (HH.out.bx.t.res (rb := w.heap.size) (x := .slice aP nP cP) (y := .slice aW nW cW) (by omega)).mono (base' := w.heap.size) (by omega)
        have hLL : OwnA _ w.heap.size (.slice aL nL cL) 40 := ⟨_, (own_res (rb := w.heap.size) (x := .slice aP nP cP) (y := .slice aW nW cW) HOL.out (by omega)).mono (base' := w.heap.size) (by omega), by have := HxL.out; omega⟩
        have hCC : OwnA _ w.heap.size (.slice a8 k c8) 40 := ⟨_, (own_res (rb := w.heap.size) (x := .slice aP nP cP) (y := .slice aW nW cW) HH.out.o (by omega)).mono (base' := w.heap.size) (by omega), by have := Hst.out; omega⟩
        have HZ := Lib.hid (And.intro hbb (And.intro hTT (And.intro hLL hCC)))
        clear hbb hTT hLL hCC
        go_wp2_with fail
        exact bodyPost_ret (v := .tuple #[.agg #[.slice aP nP cP, .slice aW nW cW], .slice aL nL cL, (.slice a8 k c8)]) (by simp [results, Try.results59, go_sem, hr.1, hr.2]) rfl ⟨⟨_, rfl, _, _, _, _, _, _, ps, ws, _, _, rfl, HZ.out.2.1, HZ.out.2.2.1, HZ.out.2.2.2⟩, HZ.out.1⟩
      · skip
        go_wp2_with fail
        refine (spec_one (w.heap.size + 1) a n cap _ _ _ (by omega) (by omega) HH.out.cq.cur).mono ?_
        rintro e w7 ⟨⟨t, rfl⟩, c7, g7⟩
        have HH7 := Lib.hid (HH.out.step c7 g7 (by omega))
        have HOL7 := Lib.hid (own_other HOL.out g7 (by omega))
        clear c7 g7 HH HOL d0
        cases t
        · go_upto_region 11 with fail
          have d0 := HH7.out.bx.box.c0
          have d1 := HH7.out.bx.box.c1
          have e0 := HH7.out.bx.res.c0
          have e1 := HH7.out.bx.res.c1
          have f0 := HH7.out.bx.res.f0
          have f1 := HH7.out.bx.res.f1
          have hr := HH7.out.bx.res.set (.slice aP nP cP) (.slice aW nW cW)
          have hbb := draw_below HB0.out HH7.out.cq.grow (show w.heap.size ≤ w.heap.size + 1 by omega) (Nat.le_refl w.heap.size) (x := .slice aP nP cP) (y := .slice aW nW cW)
          have hTT := (HH7.out.bx.t.res (rb := w.heap.size) (x := .slice aP nP cP) (y := .slice aW nW cW) (by omega)).mono (base' := w.heap.size) (by omega)
          have hLL : OwnA _ w.heap.size (.slice aL nL cL) 40 := ⟨_, (own_res (rb := w.heap.size) (x := .slice aP nP cP) (y := .slice aW nW cW) HOL7.out (by omega)).mono (base' := w.heap.size) (by omega), by have := HxL.out; omega⟩
          have hCC : OwnA _ w.heap.size (.slice a8 k c8) 40 := ⟨_, (own_res (rb := w.heap.size) (x := .slice aP nP cP) (y := .slice aW nW cW) HH7.out.o (by omega)).mono (base' := w.heap.size) (by omega), by have := Hst.out; omega⟩
          have HZ := Lib.hid (And.intro hbb (And.intro hTT (And.intro hLL hCC)))
          clear hbb hTT hLL hCC
          go_wp2_with fail
          exact bodyPost_ret (v := .tuple #[.agg #[.slice aP nP cP, .slice aW nW cW], .slice aL nL cL, (.slice a8 k c8)]) (by simp [results, Try.results59, go_sem, hr.1, hr.2]) rfl ⟨⟨_, rfl, _, _, _, _, _, _, ps, ws, _, _, rfl, HZ.out.2.1, HZ.out.2.2.1, HZ.out.2.2.2⟩, HZ.out.1⟩
        · obtain ⟨go, co', hv, hgo, hgl⟩ := HH7.out.o.form (by have := Hst.out; omega)
          rw [Hst.out] at hv
          obtain ⟨rfl, -, rfl⟩ := Value.slice.inj hv
          clear hv
          go_wp2_with fail
          refine (among_lit (w.heap.size + 1) a n cap _ [-20, 20, 21, -21] _ 4 _ (by omega) rfl rfl (by omega) HH7.out.cq.cur).mono ?_
          rintro e w8 ⟨⟨i8, hi8, rfl⟩, c8', g8⟩
          generalize nth _ i8 = dv at *
          have HH8 := Lib.hid (HH7.out.step c8' g8 (by omega))
          have HOL8 := Lib.hid (own_other HOL7.out g8 (by omega))
          have h8c := HH8.out.o.cell (i := 0) (by have := Hst.out; omega)
          have h8f := HH8.out.o.free Hst.out.symm 0
          have HH9 := Lib.hid (HH8.out.put Hst.out.symm 0 dv)
          have HOL9 := Lib.hid (HOL8.out.far (a := ⟨go, 0, none⟩) (fun e => HNL.out go e rfl) (.int .i64 dv))
          have hkn2 : 0 < k := by omega
          clear c8' g8 HH7 HOL7
          go_upto_region 11 with fail
          have d0 := HH9.out.bx.box.c0
          have d1 := HH9.out.bx.box.c1
          have e0 := HH9.out.bx.res.c0
          have e1 := HH9.out.bx.res.c1
          have f0 := HH9.out.bx.res.f0
          have f1 := HH9.out.bx.res.f1
          have hr := HH9.out.bx.res.set (.slice aP nP cP) (.slice aW nW cW)
          have hbb := draw_below HB0.out HH9.out.cq.grow (show w.heap.size ≤ w.heap.size + 1 by omega) (Nat.le_refl w.heap.size) (x := .slice aP nP cP) (y := .slice aW nW cW)
          have hTT := (HH9.out.bx.t.res (rb := w.heap.size) (x := .slice aP nP cP) (y := .slice aW nW cW) (by omega)).mono (base' := w.heap.size) (by omega)
          have hLL : OwnA _ w.heap.size (.slice aL nL cL) 40 := ⟨_, (own_res (rb := w.heap.size) (x := .slice aP nP cP) (y := .slice aW nW cW) HOL9.out (by omega)).mono (base' := w.heap.size) (by omega), by have := HxL.out; omega⟩
          have hCC : OwnA _ w.heap.size (.slice (some ⟨go, 0, none⟩) k c8) 40 := ⟨_, (own_res (rb := w.heap.size) (x := .slice aP nP cP) (y := .slice aW nW cW) HH9.out.o (by omega)).mono (base' := w.heap.size) (by omega), by rw [List.length_set]; have := Hst.out; omega⟩
          have HZ := Lib.hid (And.intro hbb (And.intro hTT (And.intro hLL hCC)))
          clear hbb hTT hLL hCC
          go_wp2_with fail
          exact bodyPost_ret (v := .tuple #[.agg #[.slice aP nP cP, .slice aW nW cW], .slice aL nL cL, (.slice (some ⟨go, 0, none⟩) k c8)]) (by simp [results, Try.results59, go_sem, hr.1, hr.2]) rfl ⟨⟨_, rfl, _, _, _, _, _, _, ps, ws, _, _, rfl, HZ.out.2.1, HZ.out.2.2.1, HZ.out.2.2.2⟩, HZ.out.1⟩

end Go.Proofs.Ytnbomleieianoaa
