/- Contracts and plain laws for the statement FnRules, part 12. No conditions but those stated in each. -/
import Derived.Test.YtnbomleieianoaaGreatBnFnRules6
import Derived.Test.YtnbomleieianoaaGreatBnFnRules7
import Derived.Test.YtnbomleieianoaaGreatBnFnRules11
import Derived.Test.YtnbomleieianoaaGreatBnFnRules8
import Derived.Test.YtnbomleieianoaaGreatBnFnRules10
/- Contracts: what is drawn with a tree for rules. No conditions but those stated. -/
namespace Go.Proofs.YtnbomleieianoaaGreat
open Go.RowKit

def DrTS (w : World) (base : Nat) (v : Value) : Prop := ∃ (aP : Option Addr) (nP cP : Nat) (aW : Option Addr) (nW cW : Nat) (ps ws : List Int) (u : Value), v = .tuple #[.agg #[.slice aP nP cP, .slice aW nW cW], u] ∧ DTre w base aP nP cP aW nW cW ps ws ∧ LisA w base u 40
def DrTLS (w : World) (base : Nat) (v : Value) : Prop := ∃ (aP : Option Addr) (nP cP : Nat) (aW : Option Addr) (nW cW : Nat) (ps ws : List Int) (u u2 : Value), v = .tuple #[.agg #[.slice aP nP cP, .slice aW nW cW], u, u2] ∧ DTre w base aP nP cP aW nW cW ps ws ∧ OwnA w base u 40 ∧ LisA w base u2 40
def DrTSS (w : World) (base : Nat) (v : Value) : Prop := ∃ (aP : Option Addr) (nP cP : Nat) (aW : Option Addr) (nW cW : Nat) (ps ws : List Int) (u u2 : Value), v = .tuple #[.agg #[.slice aP nP cP, .slice aW nW cW], u, u2] ∧ DTre w base aP nP cP aW nW cW ps ws ∧ LisA w base u 40 ∧ LisA w base u2 40
set_option maxRecDepth 100000 in
set_option maxHeartbeats 2000000 in
theorem spec_DrawEarlierRule (a : Option Addr) (n cap : Nat) (w : World) (h : Bytes w a n) :
    Calls Tryz.prog 50 #[.slice a n cap] w fun e w' => (∃ v, e = .returned v ∧ DrTSS w' w.heap.size v) ∧ Below w.heap.size w w' := by
  have hb0 : Below w.heap.size w ((w.alloc (.cells #[.slice none 0 0, .slice none 0 0] 26)).alloc (.cells #[.slice a n cap, .int .i64 0, .int .u64 0] 69)) := (below_new w _).alloc (by simp) _
  have hc := Cur.new (cap := cap) 69 (h.below (below_new w (.cells #[.slice none 0 0, .slice none 0 0] 26)))
  have R0 := Lib.hid ((Pair.new w (.slice none 0 0) (.slice none 0 0) 26).alloc (.cells #[.slice a n cap, .int .i64 0, .int .u64 0] 69))
  have hs0 : ((w.alloc (.cells #[.slice none 0 0, .slice none 0 0] 26)).alloc (.cells #[.slice a n cap, .int .i64 0, .int .u64 0] 69)).heap.size = w.heap.size + 1 + 1 := by simp
  rw [show (w.alloc (.cells #[.slice none 0 0, .slice none 0 0] 26)).heap.size = w.heap.size + 1 by simp] at hc
  have C0 := Lib.hid (Cq.start hc)
  clear hc h
  go_enter Tryz.func50, Tryz.ntmps50
  go_wp2_with fail
  generalize ((w.alloc (.cells #[.slice none 0 0, .slice none 0 0] 26)).alloc (.cells #[.slice a n cap, .int .i64 0, .int .u64 0] 69)) = w0 at *
  have hg0 : w.heap.size + 1 < w0.heap.size := by omega
  have HB0 := Lib.hid hb0
  clear hs0 hb0
  refine (spec_tree (w.heap.size + 1) a n cap 0 _ (by omega) C0.out.cur).mono ?_
  rintro e w1 ⟨⟨v, rfl, aP, nP, cP, aW, nW, cW, ps, ws, rfl, hD⟩, c1, g1⟩
  have C1 := Lib.hid (C0.out.step c1 g1)
  have R1 := Lib.hid (pair_other R0.out g1 (by omega))
  have HD := Lib.hid hD
  have hs1 := C1.out.size
  have hP5 := Pair.new w1 (.slice none 0 0) (.slice none 0 0) 26
  have x0 := hP5.c0
  have x1 := hP5.c1
  have y0 := hP5.f0
  have y1 := hP5.f1
  clear c1 g1 hD hP5 R0 C0
  have B3 := Lib.hid (bx_new 26 HD.out hs1 R1.out (by omega))
  have C3 := Lib.hid (C1.out.lit (.cells #[.slice aP nP cP, .slice aW nW cW] 26))
  have hnP := HD.out.pn
  go_wp2_with fail
  clear x0 x1 y0 y1 R1 HD C1
  generalize (w1.alloc (.cells #[.slice aP nP cP, .slice aW nW cW] 26)) = w3 at *
  generalize w1.heap.size = tb at *
  have c0 := B3.out.box.c0
  have c1 := B3.out.box.c1
  refine wp_region_noPanic ?_
  refine wp_region_held_drew (S := (fun W' => W'.cell? ⟨tb, 0, none⟩ = some (.slice aP nP cP) ∧ W'.cell? ⟨tb, 1, none⟩ = some (.slice aW nW cW))) (by kernel_rfl) ?_ (fun hHeld0 => ?_)
  · (try dsimp only); first | assumption | exact ⟨B3.out.drew.box.c0, B3.out.drew.box.c1⟩ | exact ⟨((B3.out.lit _).drew).box.c0, ((B3.out.lit _).drew).box.c1⟩ | exact ⟨HX.out.c0, HX.out.c1⟩
  refine takeH (i := 0) (oi := _) (v := ?_) rfl (by kernel_rfl) (by kernel_rfl) (by kernel_rfl) (fun _ _ _ h => h) (Or.inl ⟨by rfl, ?_⟩) (by assumption) ?_
  rotate_left
  · first | (intro w hSw; (try dsimp only at hSw); go_simp; done) | (intro w hSw; (try dsimp only at hSw); go_simp; with_reducible rfl)
  (try simp only [Act.put, List.setIfInBounds_toArray, List.set_cons_zero, List.set_cons_succ])
  refine takeH (i := 1) (oi := _) (v := ?_) rfl (by kernel_rfl) (by kernel_rfl) (by kernel_rfl) (fun _ _ _ h => h) (Or.inl ⟨by rfl, ?_⟩) (by assumption) ?_
  rotate_left
  · first | (intro w hSw; (try dsimp only at hSw); go_simp; done) | (intro w hSw; (try dsimp only at hSw); go_simp; with_reducible rfl)
  (try simp only [Act.put, List.setIfInBounds_toArray, List.set_cons_zero, List.set_cons_succ])
  refine takeH (i := 2) (oi := _) (v := ?_) rfl (by kernel_rfl) (by kernel_rfl) (by kernel_rfl) (fun _ _ _ h => h) (Or.inl ⟨by rfl, ?_⟩) (by assumption) ?_
  rotate_left
  · first | (intro w hSw; (try dsimp only at hSw); go_simp; done) | (intro w hSw; (try dsimp only at hSw); go_simp; with_reducible rfl)
  (try simp only [Act.put, List.setIfInBounds_toArray, List.set_cons_zero, List.set_cons_succ])
  refine takeH (i := 4) (oi := _) (v := ?_) rfl (by kernel_rfl) (by kernel_rfl) (by kernel_rfl) (fun _ _ _ h => h) (Or.inl ⟨by rfl, ?_⟩) (by assumption) ?_
  rotate_left
  · first | (intro w hSw; (try dsimp only at hSw); go_simp; done) | (intro w hSw; (try dsimp only at hSw); go_simp; with_reducible rfl)
  (try simp only [Act.put, List.setIfInBounds_toArray, List.set_cons_zero, List.set_cons_succ])
  refine takeH (i := 5) (oi := _) (v := ?_) rfl (by kernel_rfl) (by kernel_rfl) (by kernel_rfl) (fun _ _ _ h => h) (Or.inl ⟨by rfl, ?_⟩) (by assumption) ?_
  rotate_left
  · first | (intro w hSw; (try dsimp only at hSw); go_simp; done) | (intro w hSw; (try dsimp only at hSw); go_simp; with_reducible rfl)
  (try simp only [Act.put, List.setIfInBounds_toArray, List.set_cons_zero, List.set_cons_succ])
  refine wpAnyH_ready (rs := [3]) (by kernel_rfl) (by simp) ?_
  refine consH rfl (fun Kq hKq => ?_)
  go_simp
  refine (spec_stops (w.heap.size + 1) a n cap _ w0.heap.size aP nP cP aW nW cW ps ws _ (by omega) (B3.out.drew).t (by omega) (C3.out.drew).cur).mono ?_
  rintro e w4a ⟨⟨vL, rfl, o4a⟩, c4a, g4a⟩
  have C4a := Lib.hid ((C3.out.drew).step c4a g4a)
  have B4a := Lib.hid ((B3.out.drew).other g4a (by omega) (by omega))
  have VL4a := Lib.hid ((o4a.mono (C3.out.drew).size).more (show _ ≤ 40 by omega))
  have hSS := And.intro B4a.out.box.c0 B4a.out.box.c1
  clear c4a g4a o4a
  refine hKq.out _ _ ?_ (fun hHeld1 => ?_)
  · (try dsimp only); first | assumption | exact ⟨B3.out.drew.box.c0, B3.out.drew.box.c1⟩ | exact ⟨((B3.out.lit _).drew).box.c0, ((B3.out.lit _).drew).box.c1⟩ | exact ⟨HX.out.c0, HX.out.c1⟩
  clear hKq Kq
  (try simp only [Act.put, List.setIfInBounds_toArray, List.set_cons_zero, List.set_cons_succ])
  clear hHeld0
  refine wpAnyH_ready (rs := [6]) (by kernel_rfl) (by simp) ?_
  refine consH rfl (fun Kq hKq => ?_)
  go_simp
  refine (spec_stops (w.heap.size + 1) a n cap _ w0.heap.size aP nP cP aW nW cW ps ws _ (by omega) B4a.out.t (by omega) C4a.out.cur).mono ?_
  rintro e w5a ⟨⟨vM, rfl, o5a⟩, c5a, g5a⟩
  have C5a := Lib.hid (C4a.out.step c5a g5a)
  have B5a := Lib.hid (B4a.out.other g5a (by omega) (by omega))
  have VL5a := Lib.hid (LisA.other VL4a.out g5a (by omega))
  have VM5a := Lib.hid ((o5a.mono C4a.out.size).more (show _ ≤ 40 by omega))
  have hSS := And.intro B5a.out.box.c0 B5a.out.box.c1
  clear c5a g5a o5a
  have e0 := B5a.out.res.c0
  have e1 := B5a.out.res.c1
  have f0 := B5a.out.res.f0
  have f1 := B5a.out.res.f1
  have HX := Lib.hid ((B5a.out.box.far (show w.heap.size ≠ tb by have := B5a.out.ge; omega) (i := 0) (.slice aP nP cP)).far (show w.heap.size ≠ tb by have := B5a.out.ge; omega) (i := 1) (.slice aW nW cW))
  have hr := B5a.out.res.set (.slice aP nP cP) (.slice aW nW cW)
  refine hKq.out _ _ ?_ (fun hHeld2 => ?_)
  · (try dsimp only); first | assumption | exact ⟨B3.out.drew.box.c0, B3.out.drew.box.c1⟩ | exact ⟨((B3.out.lit _).drew).box.c0, ((B3.out.lit _).drew).box.c1⟩ | exact ⟨HX.out.c0, HX.out.c1⟩
  clear hKq Kq
  (try simp only [Act.put, List.setIfInBounds_toArray, List.set_cons_zero, List.set_cons_succ])
  clear hHeld1
  refine wpAnyH_ready (rs := [7]) (by kernel_rfl) (by simp) ?_
  refine consH rfl (fun Kq hKq => ?_)
  go_simp
  refine hKq.out _ _ ?_ (fun hHeld3 => ?_)
  · (try dsimp only); first | assumption | exact ⟨B3.out.drew.box.c0, B3.out.drew.box.c1⟩ | exact ⟨((B3.out.lit _).drew).box.c0, ((B3.out.lit _).drew).box.c1⟩ | exact ⟨HX.out.c0, HX.out.c1⟩
  clear hKq Kq
  (try simp only [Act.put, List.setIfInBounds_toArray, List.set_cons_zero, List.set_cons_succ])
  clear hHeld2
  refine takeH (i := 8) (oi := _) (v := ?_) rfl (by kernel_rfl) (by kernel_rfl) (by kernel_rfl) (fun _ _ _ h => h) (Or.inl ⟨by rfl, ?_⟩) (by assumption) ?_
  rotate_left
  · first | (intro w hSw; (try dsimp only at hSw); go_simp; done) | (intro w hSw; (try dsimp only at hSw); go_simp; with_reducible rfl)
  (try simp only [Act.put, List.setIfInBounds_toArray, List.set_cons_zero, List.set_cons_succ])
  refine takeH (i := 9) (oi := _) (v := ?_) rfl (by kernel_rfl) (by kernel_rfl) (by kernel_rfl) (fun _ _ _ h => h) (Or.inl ⟨by rfl, ?_⟩) (by assumption) ?_
  rotate_left
  · first | (intro w hSw; (try dsimp only at hSw); go_simp; done) | (intro w hSw; (try dsimp only at hSw); go_simp; with_reducible rfl)
  (try simp only [Act.put, List.setIfInBounds_toArray, List.set_cons_zero, List.set_cons_succ])
  refine wpAnyH_done (by kernel_rfl) ?_ _
  refine NoPanic.normal ?_
  have hbb := draw_below HB0.out C5a.out.grow (show w.heap.size ≤ w.heap.size + 1 by omega) (Nat.le_refl w.heap.size) (x := .slice aP nP cP) (y := .slice aW nW cW)
  have hTT := (B5a.out.t.res (rb := w.heap.size) (x := .slice aP nP cP) (y := .slice aW nW cW) (by omega)).mono (base' := w.heap.size) (by omega)
  have ZL := (((VL5a.out.res (rb := w.heap.size) (x := .slice aP nP cP) (y := .slice aW nW cW) (by omega)).mono (base' := w.heap.size) (by omega)))
  have ZM := (((VM5a.out.res (rb := w.heap.size) (x := .slice aP nP cP) (y := .slice aW nW cW) (by omega)).mono (base' := w.heap.size) (by omega)))
  go_wp2_with fail
  exact bodyPost_ret (v := .tuple #[.agg #[.slice aP nP cP, .slice aW nW cW], vL, vM]) (by simp [results, Tryz.results50, go_sem, hr.1, hr.2]) rfl ⟨⟨_, rfl, _, _, _, _, _, _, ps, ws, _, _, rfl, hTT, ZL, ZM⟩, hbb⟩
set_option maxRecDepth 100000 in
set_option maxHeartbeats 2000000 in
theorem spec_DrawIsRule (a : Option Addr) (n cap : Nat) (w : World) (h : Bytes w a n) :
    Calls Tryz.prog 57 #[.slice a n cap] w fun e w' => (∃ v, e = .returned v ∧ DrTS w' w.heap.size v) ∧ Below w.heap.size w w' := by
  have hb0 : Below w.heap.size w ((w.alloc (.cells #[.slice none 0 0, .slice none 0 0] 26)).alloc (.cells #[.slice a n cap, .int .i64 0, .int .u64 0] 69)) := (below_new w _).alloc (by simp) _
  have hc := Cur.new (cap := cap) 69 (h.below (below_new w (.cells #[.slice none 0 0, .slice none 0 0] 26)))
  have R0 := Lib.hid ((Pair.new w (.slice none 0 0) (.slice none 0 0) 26).alloc (.cells #[.slice a n cap, .int .i64 0, .int .u64 0] 69))
  have hs0 : ((w.alloc (.cells #[.slice none 0 0, .slice none 0 0] 26)).alloc (.cells #[.slice a n cap, .int .i64 0, .int .u64 0] 69)).heap.size = w.heap.size + 1 + 1 := by simp
  rw [show (w.alloc (.cells #[.slice none 0 0, .slice none 0 0] 26)).heap.size = w.heap.size + 1 by simp] at hc
  have C0 := Lib.hid (Cq.start hc)
  clear hc h
  go_enter Tryz.func57, Tryz.ntmps57
  go_wp2_with fail
  generalize ((w.alloc (.cells #[.slice none 0 0, .slice none 0 0] 26)).alloc (.cells #[.slice a n cap, .int .i64 0, .int .u64 0] 69)) = w0 at *
  have hg0 : w.heap.size + 1 < w0.heap.size := by omega
  have HB0 := Lib.hid hb0
  clear hs0 hb0
  refine (spec_tree (w.heap.size + 1) a n cap 0 _ (by omega) C0.out.cur).mono ?_
  rintro e w1 ⟨⟨v, rfl, aP, nP, cP, aW, nW, cW, ps, ws, rfl, hD⟩, c1, g1⟩
  have C1 := Lib.hid (C0.out.step c1 g1)
  have R1 := Lib.hid (pair_other R0.out g1 (by omega))
  have HD := Lib.hid hD
  have hs1 := C1.out.size
  have hP5 := Pair.new w1 (.slice none 0 0) (.slice none 0 0) 26
  have x0 := hP5.c0
  have x1 := hP5.c1
  have y0 := hP5.f0
  have y1 := hP5.f1
  clear c1 g1 hD hP5 R0 C0
  have B3 := Lib.hid (bx_new 26 HD.out hs1 R1.out (by omega))
  have C3 := Lib.hid (C1.out.lit (.cells #[.slice aP nP cP, .slice aW nW cW] 26))
  have hnP := HD.out.pn
  go_wp2_with fail
  clear x0 x1 y0 y1 R1 HD C1
  generalize (w1.alloc (.cells #[.slice aP nP cP, .slice aW nW cW] 26)) = w3 at *
  generalize w1.heap.size = tb at *
  have c0 := B3.out.box.c0
  have c1 := B3.out.box.c1
  refine wp_region_noPanic ?_
  refine wp_region_held_drew (S := (fun W' => W'.cell? ⟨tb, 0, none⟩ = some (.slice aP nP cP) ∧ W'.cell? ⟨tb, 1, none⟩ = some (.slice aW nW cW))) (by kernel_rfl) ?_ (fun hHeld0 => ?_)
  · (try dsimp only); first | assumption | exact ⟨B3.out.drew.box.c0, B3.out.drew.box.c1⟩ | exact ⟨((B3.out.lit _).drew).box.c0, ((B3.out.lit _).drew).box.c1⟩ | exact ⟨HX.out.c0, HX.out.c1⟩
  refine takeH (i := 0) (oi := _) (v := ?_) rfl (by kernel_rfl) (by kernel_rfl) (by kernel_rfl) (fun _ _ _ h => h) (Or.inl ⟨by rfl, ?_⟩) (by assumption) ?_
  rotate_left
  · first | (intro w hSw; (try dsimp only at hSw); go_simp; done) | (intro w hSw; (try dsimp only at hSw); go_simp; with_reducible rfl)
  (try simp only [Act.put, List.setIfInBounds_toArray, List.set_cons_zero, List.set_cons_succ])
  refine takeH (i := 1) (oi := _) (v := ?_) rfl (by kernel_rfl) (by kernel_rfl) (by kernel_rfl) (fun _ _ _ h => h) (Or.inl ⟨by rfl, ?_⟩) (by assumption) ?_
  rotate_left
  · first | (intro w hSw; (try dsimp only at hSw); go_simp; done) | (intro w hSw; (try dsimp only at hSw); go_simp; with_reducible rfl)
  (try simp only [Act.put, List.setIfInBounds_toArray, List.set_cons_zero, List.set_cons_succ])
  refine takeH (i := 2) (oi := _) (v := ?_) rfl (by kernel_rfl) (by kernel_rfl) (by kernel_rfl) (fun _ _ _ h => h) (Or.inl ⟨by rfl, ?_⟩) (by assumption) ?_
  rotate_left
  · first | (intro w hSw; (try dsimp only at hSw); go_simp; done) | (intro w hSw; (try dsimp only at hSw); go_simp; with_reducible rfl)
  (try simp only [Act.put, List.setIfInBounds_toArray, List.set_cons_zero, List.set_cons_succ])
  refine wpAnyH_ready (rs := [3]) (by kernel_rfl) (by simp) ?_
  refine consH rfl (fun Kq hKq => ?_)
  go_simp
  refine (spec_stops (w.heap.size + 1) a n cap _ w0.heap.size aP nP cP aW nW cW ps ws _ (by omega) (B3.out.drew).t (by omega) (C3.out.drew).cur).mono ?_
  rintro e w4a ⟨⟨vL, rfl, o4a⟩, c4a, g4a⟩
  have C4a := Lib.hid ((C3.out.drew).step c4a g4a)
  have B4a := Lib.hid ((B3.out.drew).other g4a (by omega) (by omega))
  have VL4a := Lib.hid ((o4a.mono (C3.out.drew).size).more (show _ ≤ 40 by omega))
  have hSS := And.intro B4a.out.box.c0 B4a.out.box.c1
  clear c4a g4a o4a
  have e0 := B4a.out.res.c0
  have e1 := B4a.out.res.c1
  have f0 := B4a.out.res.f0
  have f1 := B4a.out.res.f1
  have HX := Lib.hid ((B4a.out.box.far (show w.heap.size ≠ tb by have := B4a.out.ge; omega) (i := 0) (.slice aP nP cP)).far (show w.heap.size ≠ tb by have := B4a.out.ge; omega) (i := 1) (.slice aW nW cW))
  have hr := B4a.out.res.set (.slice aP nP cP) (.slice aW nW cW)
  refine hKq.out _ _ ?_ (fun hHeld1 => ?_)
  · (try dsimp only); first | assumption | exact ⟨B3.out.drew.box.c0, B3.out.drew.box.c1⟩ | exact ⟨((B3.out.lit _).drew).box.c0, ((B3.out.lit _).drew).box.c1⟩ | exact ⟨HX.out.c0, HX.out.c1⟩
  clear hKq Kq
  (try simp only [Act.put, List.setIfInBounds_toArray, List.set_cons_zero, List.set_cons_succ])
  clear hHeld0
  refine wpAnyH_ready (rs := [4]) (by kernel_rfl) (by simp) ?_
  refine consH rfl (fun Kq hKq => ?_)
  go_simp
  refine hKq.out _ _ ?_ (fun hHeld2 => ?_)
  · (try dsimp only); first | assumption | exact ⟨B3.out.drew.box.c0, B3.out.drew.box.c1⟩ | exact ⟨((B3.out.lit _).drew).box.c0, ((B3.out.lit _).drew).box.c1⟩ | exact ⟨HX.out.c0, HX.out.c1⟩
  clear hKq Kq
  (try simp only [Act.put, List.setIfInBounds_toArray, List.set_cons_zero, List.set_cons_succ])
  clear hHeld1
  refine takeH (i := 5) (oi := _) (v := ?_) rfl (by kernel_rfl) (by kernel_rfl) (by kernel_rfl) (fun _ _ _ h => h) (Or.inl ⟨by rfl, ?_⟩) (by assumption) ?_
  rotate_left
  · first | (intro w hSw; (try dsimp only at hSw); go_simp; done) | (intro w hSw; (try dsimp only at hSw); go_simp; with_reducible rfl)
  (try simp only [Act.put, List.setIfInBounds_toArray, List.set_cons_zero, List.set_cons_succ])
  refine wpAnyH_done (by kernel_rfl) ?_ _
  refine NoPanic.normal ?_
  have hbb := draw_below HB0.out C4a.out.grow (show w.heap.size ≤ w.heap.size + 1 by omega) (Nat.le_refl w.heap.size) (x := .slice aP nP cP) (y := .slice aW nW cW)
  have hTT := (B4a.out.t.res (rb := w.heap.size) (x := .slice aP nP cP) (y := .slice aW nW cW) (by omega)).mono (base' := w.heap.size) (by omega)
  have ZL := (((VL4a.out.res (rb := w.heap.size) (x := .slice aP nP cP) (y := .slice aW nW cW) (by omega)).mono (base' := w.heap.size) (by omega)))
  go_wp2_with fail
  exact bodyPost_ret (v := .tuple #[.agg #[.slice aP nP cP, .slice aW nW cW], vL]) (by simp [results, Tryz.results57, go_sem, hr.1, hr.2]) rfl ⟨⟨_, rfl, _, _, _, _, _, _, ps, ws, _, rfl, hTT, ZL⟩, hbb⟩
set_option maxRecDepth 100000 in
set_option maxHeartbeats 2000000 in
theorem spec_DrawLookAhead (a : Option Addr) (n cap : Nat) (w : World) (h : Bytes w a n) :
    Calls Tryz.prog 60 #[.slice a n cap] w fun e w' => (∃ v, e = .returned v ∧ DrTLI w' w.heap.size v (fun _ => True)) ∧ Below w.heap.size w w' := by
  have hb0 : Below w.heap.size w ((w.alloc (.cells #[.slice none 0 0, .slice none 0 0] 26)).alloc (.cells #[.slice a n cap, .int .i64 0, .int .u64 0] 69)) := (below_new w _).alloc (by simp) _
  have hc := Cur.new (cap := cap) 69 (h.below (below_new w (.cells #[.slice none 0 0, .slice none 0 0] 26)))
  have R0 := Lib.hid ((Pair.new w (.slice none 0 0) (.slice none 0 0) 26).alloc (.cells #[.slice a n cap, .int .i64 0, .int .u64 0] 69))
  have hs0 : ((w.alloc (.cells #[.slice none 0 0, .slice none 0 0] 26)).alloc (.cells #[.slice a n cap, .int .i64 0, .int .u64 0] 69)).heap.size = w.heap.size + 1 + 1 := by simp
  rw [show (w.alloc (.cells #[.slice none 0 0, .slice none 0 0] 26)).heap.size = w.heap.size + 1 by simp] at hc
  have C0 := Lib.hid (Cq.start hc)
  clear hc h
  go_enter Tryz.func60, Tryz.ntmps60
  go_wp2_with fail
  generalize ((w.alloc (.cells #[.slice none 0 0, .slice none 0 0] 26)).alloc (.cells #[.slice a n cap, .int .i64 0, .int .u64 0] 69)) = w0 at *
  have hg0 : w.heap.size + 1 < w0.heap.size := by omega
  have HB0 := Lib.hid hb0
  clear hs0 hb0
  refine (spec_tree (w.heap.size + 1) a n cap 0 _ (by omega) C0.out.cur).mono ?_
  rintro e w1 ⟨⟨v, rfl, aP, nP, cP, aW, nW, cW, ps, ws, rfl, hD⟩, c1, g1⟩
  have C1 := Lib.hid (C0.out.step c1 g1)
  have R1 := Lib.hid (pair_other R0.out g1 (by omega))
  have HD := Lib.hid hD
  have hs1 := C1.out.size
  have hP5 := Pair.new w1 (.slice none 0 0) (.slice none 0 0) 26
  have x0 := hP5.c0
  have x1 := hP5.c1
  have y0 := hP5.f0
  have y1 := hP5.f1
  clear c1 g1 hD hP5 R0 C0
  have B3 := Lib.hid (bx_new 26 HD.out hs1 R1.out (by omega))
  have C3 := Lib.hid (C1.out.lit (.cells #[.slice aP nP cP, .slice aW nW cW] 26))
  have hnP := HD.out.pn
  go_wp2_with fail
  clear x0 x1 y0 y1 R1 HD C1
  generalize (w1.alloc (.cells #[.slice aP nP cP, .slice aW nW cW] 26)) = w3 at *
  generalize w1.heap.size = tb at *
  have c0 := B3.out.box.c0
  have c1 := B3.out.box.c1
  refine wp_region_noPanic ?_
  refine wp_region_held_drew (S := (fun W' => W'.cell? ⟨tb, 0, none⟩ = some (.slice aP nP cP) ∧ W'.cell? ⟨tb, 1, none⟩ = some (.slice aW nW cW))) (by kernel_rfl) ?_ (fun hHeld0 => ?_)
  · (try dsimp only); first | assumption | exact ⟨B3.out.drew.box.c0, B3.out.drew.box.c1⟩ | exact ⟨((B3.out.lit _).drew).box.c0, ((B3.out.lit _).drew).box.c1⟩ | exact ⟨HX.out.c0, HX.out.c1⟩ | exact ⟨(B4a.out.lit _).box.c0, (B4a.out.lit _).box.c1⟩
  refine takeH (i := 0) (oi := _) (v := ?_) rfl (by kernel_rfl) (by kernel_rfl) (by kernel_rfl) (fun _ _ _ h => h) (Or.inl ⟨by rfl, ?_⟩) (by assumption) ?_
  rotate_left
  · first | (intro w hSw; (try dsimp only at hSw); go_simp; done) | (intro w hSw; (try dsimp only at hSw); go_simp; with_reducible rfl)
  (try simp only [Act.put, List.setIfInBounds_toArray, List.set_cons_zero, List.set_cons_succ])
  refine takeH (i := 1) (oi := _) (v := ?_) rfl (by kernel_rfl) (by kernel_rfl) (by kernel_rfl) (fun _ _ _ h => h) (Or.inl ⟨by rfl, ?_⟩) (by assumption) ?_
  rotate_left
  · first | (intro w hSw; (try dsimp only at hSw); go_simp; done) | (intro w hSw; (try dsimp only at hSw); go_simp; with_reducible rfl)
  (try simp only [Act.put, List.setIfInBounds_toArray, List.set_cons_zero, List.set_cons_succ])
  refine takeH (i := 2) (oi := _) (v := ?_) rfl (by kernel_rfl) (by kernel_rfl) (by kernel_rfl) (fun _ _ _ h => h) (Or.inl ⟨by rfl, ?_⟩) (by assumption) ?_
  rotate_left
  · first | (intro w hSw; (try dsimp only at hSw); go_simp; done) | (intro w hSw; (try dsimp only at hSw); go_simp; with_reducible rfl)
  (try simp only [Act.put, List.setIfInBounds_toArray, List.set_cons_zero, List.set_cons_succ])
  refine takeH (i := 4) (oi := _) (v := ?_) rfl (by kernel_rfl) (by kernel_rfl) (by kernel_rfl) (fun _ _ _ h => h) (Or.inl ⟨by rfl, ?_⟩) (by assumption) ?_
  rotate_left
  · first | (intro w hSw; (try dsimp only at hSw); go_simp; done) | (intro w hSw; (try dsimp only at hSw); go_simp; with_reducible rfl)
  (try simp only [Act.put, List.setIfInBounds_toArray, List.set_cons_zero, List.set_cons_succ])
  refine wpAnyH_ready (rs := [3, 5]) (by kernel_rfl) (by simp) ?_
  refine consM rfl (fun Kq hKq => ?_) (consH rfl (fun Kq hKq => ?_))
  · go_simp
    refine (spec_pays (w.heap.size + 1) a n cap _ aP nP cP aW nW cW _ (by omega) hnP (C3.out.drew).cur).mono ?_
    rintro e w4a ⟨⟨vL, rfl, o4a⟩, c4a, g4a⟩
    have C4a := Lib.hid ((C3.out.drew).step c4a g4a)
    have B4a := Lib.hid ((B3.out.drew).other g4a (by omega) (by omega))
    have VL4a := Lib.hid ((o4a.mono (C3.out.drew).size).more (show _ ≤ 40 by omega))
    have hSS := And.intro B4a.out.box.c0 B4a.out.box.c1
    clear c4a g4a o4a
    refine hKq.out _ _ ?_ (fun hHeld1 => ?_)
    · (try dsimp only); first | assumption | exact ⟨B3.out.drew.box.c0, B3.out.drew.box.c1⟩ | exact ⟨((B3.out.lit _).drew).box.c0, ((B3.out.lit _).drew).box.c1⟩ | exact ⟨HX.out.c0, HX.out.c1⟩ | exact ⟨(B4a.out.lit _).box.c0, (B4a.out.lit _).box.c1⟩
    clear hKq Kq
    (try simp only [Act.put, List.setIfInBounds_toArray, List.set_cons_zero, List.set_cons_succ])
    clear hHeld0
    refine wpAnyH_ready (rs := [5]) (by kernel_rfl) (by simp) ?_
    refine consH rfl (fun Kq hKq => ?_)
    go_simp
    refine hKq.out _ _ ?_ (fun hHeld2 => ?_)
    · (try dsimp only); first | assumption | exact ⟨B3.out.drew.box.c0, B3.out.drew.box.c1⟩ | exact ⟨((B3.out.lit _).drew).box.c0, ((B3.out.lit _).drew).box.c1⟩ | exact ⟨HX.out.c0, HX.out.c1⟩ | exact ⟨(B4a.out.lit _).box.c0, (B4a.out.lit _).box.c1⟩
    clear hKq Kq
    (try simp only [Act.put, List.setIfInBounds_toArray, List.set_cons_zero, List.set_cons_succ])
    clear hHeld1
    refine wpAnyH_ready (rs := [6]) (by kernel_rfl) (by simp) ?_
    refine consH rfl (fun Kq hKq => ?_)
    go_simp
    refine (spec_among (w.heap.size + 1) a n cap _ _ 8 8 [1, 2, 0, 3, 24, 25, -1, 1] _ (by omega) (by omega) (ints_lit _ [1, 2, 0, 3, 24, 25, -1, 1] _ 8 rfl rfl) C4a.out.cur.ne (C4a.out.lit _).cur).mono ?_
    rintro e w5a ⟨⟨i5a, hi5a, rfl⟩, c5a, g5a⟩
    generalize nth _ i5a = vI at *
    have C5a := Lib.hid ((C4a.out.lit _).step c5a g5a)
    have B5a := Lib.hid ((B4a.out.lit _).other g5a (by omega) (by omega))
    have VL5a := Lib.hid (OwnA.other (OwnA.below VL4a.out (below_new _ _)) g5a (by omega))
    have hSS := And.intro B5a.out.box.c0 B5a.out.box.c1
    clear c5a g5a
    have e0 := B5a.out.res.c0
    have e1 := B5a.out.res.c1
    have f0 := B5a.out.res.f0
    have f1 := B5a.out.res.f1
    have HX := Lib.hid ((B5a.out.box.far (show w.heap.size ≠ tb by have := B5a.out.ge; omega) (i := 0) (.slice aP nP cP)).far (show w.heap.size ≠ tb by have := B5a.out.ge; omega) (i := 1) (.slice aW nW cW))
    have hr := B5a.out.res.set (.slice aP nP cP) (.slice aW nW cW)
    refine hKq.out _ _ ?_ (fun hHeld3 => ?_)
    · (try dsimp only); first | assumption | exact ⟨B3.out.drew.box.c0, B3.out.drew.box.c1⟩ | exact ⟨((B3.out.lit _).drew).box.c0, ((B3.out.lit _).drew).box.c1⟩ | exact ⟨HX.out.c0, HX.out.c1⟩ | exact ⟨(B4a.out.lit _).box.c0, (B4a.out.lit _).box.c1⟩
    clear hKq Kq
    (try simp only [Act.put, List.setIfInBounds_toArray, List.set_cons_zero, List.set_cons_succ])
    clear hHeld2
    refine wpAnyH_ready (rs := [7]) (by kernel_rfl) (by simp) ?_
    refine consH rfl (fun Kq hKq => ?_)
    go_simp
    refine hKq.out _ _ ?_ (fun hHeld4 => ?_)
    · (try dsimp only); first | assumption | exact ⟨B3.out.drew.box.c0, B3.out.drew.box.c1⟩ | exact ⟨((B3.out.lit _).drew).box.c0, ((B3.out.lit _).drew).box.c1⟩ | exact ⟨HX.out.c0, HX.out.c1⟩ | exact ⟨(B4a.out.lit _).box.c0, (B4a.out.lit _).box.c1⟩
    clear hKq Kq
    (try simp only [Act.put, List.setIfInBounds_toArray, List.set_cons_zero, List.set_cons_succ])
    clear hHeld3
    refine takeH (i := 8) (oi := _) (v := ?_) rfl (by kernel_rfl) (by kernel_rfl) (by kernel_rfl) (fun _ _ _ h => h) (Or.inl ⟨by rfl, ?_⟩) (by assumption) ?_
    rotate_left
    · first | (intro w hSw; (try dsimp only at hSw); go_simp; done) | (intro w hSw; (try dsimp only at hSw); go_simp; with_reducible rfl)
    (try simp only [Act.put, List.setIfInBounds_toArray, List.set_cons_zero, List.set_cons_succ])
    refine takeH (i := 9) (oi := _) (v := ?_) rfl (by kernel_rfl) (by kernel_rfl) (by kernel_rfl) (fun _ _ _ h => h) (Or.inl ⟨by rfl, ?_⟩) (by assumption) ?_
    rotate_left
    · first | (intro w hSw; (try dsimp only at hSw); go_simp; done) | (intro w hSw; (try dsimp only at hSw); go_simp; with_reducible rfl)
    (try simp only [Act.put, List.setIfInBounds_toArray, List.set_cons_zero, List.set_cons_succ])
    refine wpAnyH_done (by kernel_rfl) ?_ _
    refine NoPanic.normal ?_
    have hbb := draw_below HB0.out C5a.out.grow (show w.heap.size ≤ w.heap.size + 1 by omega) (Nat.le_refl w.heap.size) (x := .slice aP nP cP) (y := .slice aW nW cW)
    have hTT := (B5a.out.t.res (rb := w.heap.size) (x := .slice aP nP cP) (y := .slice aW nW cW) (by omega)).mono (base' := w.heap.size) (by omega)
    have ZL := (((VL5a.out.res (rb := w.heap.size) (x := .slice aP nP cP) (y := .slice aW nW cW) (by omega)).mono (base' := w.heap.size) (by omega)))
    go_wp2_with fail
    exact bodyPost_ret (v := .tuple #[.agg #[.slice aP nP cP, .slice aW nW cW], vL, .int .i64 vI]) (by simp [results, Tryz.results60, go_sem, hr.1, hr.2]) rfl ⟨⟨_, rfl, _, _, _, _, _, _, ps, ws, _, _, rfl, hTT, ZL, trivial⟩, hbb⟩
  · go_simp
    refine hKq.out _ _ ?_ (fun hHeld1 => ?_)
    · (try dsimp only); first | assumption | exact ⟨B3.out.drew.box.c0, B3.out.drew.box.c1⟩ | exact ⟨((B3.out.lit _).drew).box.c0, ((B3.out.lit _).drew).box.c1⟩ | exact ⟨HX.out.c0, HX.out.c1⟩ | exact ⟨(B4a.out.lit _).box.c0, (B4a.out.lit _).box.c1⟩
    clear hKq Kq
    (try simp only [Act.put, List.setIfInBounds_toArray, List.set_cons_zero, List.set_cons_succ])
    clear hHeld0
    refine wpAnyH_ready (rs := [3]) (by kernel_rfl) (by simp) ?_
    refine consH rfl (fun Kq hKq => ?_)
    go_simp
    refine (spec_pays (w.heap.size + 1) a n cap _ aP nP cP aW nW cW _ (by omega) hnP ((C3.out.lit _).drew).cur).mono ?_
    rintro e w4b ⟨⟨vL, rfl, o4b⟩, c4b, g4b⟩
    have C4b := Lib.hid (((C3.out.lit _).drew).step c4b g4b)
    have B4b := Lib.hid (((B3.out.lit _).drew).other g4b (by omega) (by omega))
    have I04b := Lib.hid (Ints.other (ints_lit _ [1, 2, 0, 3, 24, 25, -1, 1] _ 8 rfl rfl).drew g4b (by intro p hp; cases hp; show w3.heap.size ≠ _; have := C3.out.size; omega))
    have VL4b := Lib.hid ((o4b.mono ((C3.out.lit _).drew).size).more (show _ ≤ 40 by omega))
    have hSS := And.intro B4b.out.box.c0 B4b.out.box.c1
    clear c4b g4b o4b
    refine hKq.out _ _ ?_ (fun hHeld2 => ?_)
    · (try dsimp only); first | assumption | exact ⟨B3.out.drew.box.c0, B3.out.drew.box.c1⟩ | exact ⟨((B3.out.lit _).drew).box.c0, ((B3.out.lit _).drew).box.c1⟩ | exact ⟨HX.out.c0, HX.out.c1⟩ | exact ⟨(B4a.out.lit _).box.c0, (B4a.out.lit _).box.c1⟩
    clear hKq Kq
    (try simp only [Act.put, List.setIfInBounds_toArray, List.set_cons_zero, List.set_cons_succ])
    clear hHeld1
    refine wpAnyH_ready (rs := [6]) (by kernel_rfl) (by simp) ?_
    refine consH rfl (fun Kq hKq => ?_)
    go_simp
    refine (spec_among (w.heap.size + 1) a n cap _ _ 8 8 [1, 2, 0, 3, 24, 25, -1, 1] _ (by omega) (by omega) I04b.out (by intro p hp; cases hp; show w3.heap.size ≠ _; have := C3.out.size; omega) C4b.out.cur).mono ?_
    rintro e w5b ⟨⟨i5b, hi5b, rfl⟩, c5b, g5b⟩
    generalize nth _ i5b = vI at *
    have C5b := Lib.hid (C4b.out.step c5b g5b)
    have B5b := Lib.hid (B4b.out.other g5b (by omega) (by omega))
    have VL5b := Lib.hid (OwnA.other VL4b.out g5b (by omega))
    have hSS := And.intro B5b.out.box.c0 B5b.out.box.c1
    clear c5b g5b
    have e0 := B5b.out.res.c0
    have e1 := B5b.out.res.c1
    have f0 := B5b.out.res.f0
    have f1 := B5b.out.res.f1
    have HX := Lib.hid ((B5b.out.box.far (show w.heap.size ≠ tb by have := B5b.out.ge; omega) (i := 0) (.slice aP nP cP)).far (show w.heap.size ≠ tb by have := B5b.out.ge; omega) (i := 1) (.slice aW nW cW))
    have hr := B5b.out.res.set (.slice aP nP cP) (.slice aW nW cW)
    refine hKq.out _ _ ?_ (fun hHeld3 => ?_)
    · (try dsimp only); first | assumption | exact ⟨B3.out.drew.box.c0, B3.out.drew.box.c1⟩ | exact ⟨((B3.out.lit _).drew).box.c0, ((B3.out.lit _).drew).box.c1⟩ | exact ⟨HX.out.c0, HX.out.c1⟩ | exact ⟨(B4a.out.lit _).box.c0, (B4a.out.lit _).box.c1⟩
    clear hKq Kq
    (try simp only [Act.put, List.setIfInBounds_toArray, List.set_cons_zero, List.set_cons_succ])
    clear hHeld2
    refine wpAnyH_ready (rs := [7]) (by kernel_rfl) (by simp) ?_
    refine consH rfl (fun Kq hKq => ?_)
    go_simp
    refine hKq.out _ _ ?_ (fun hHeld4 => ?_)
    · (try dsimp only); first | assumption | exact ⟨B3.out.drew.box.c0, B3.out.drew.box.c1⟩ | exact ⟨((B3.out.lit _).drew).box.c0, ((B3.out.lit _).drew).box.c1⟩ | exact ⟨HX.out.c0, HX.out.c1⟩ | exact ⟨(B4a.out.lit _).box.c0, (B4a.out.lit _).box.c1⟩
    clear hKq Kq
    (try simp only [Act.put, List.setIfInBounds_toArray, List.set_cons_zero, List.set_cons_succ])
    clear hHeld3
    refine takeH (i := 8) (oi := _) (v := ?_) rfl (by kernel_rfl) (by kernel_rfl) (by kernel_rfl) (fun _ _ _ h => h) (Or.inl ⟨by rfl, ?_⟩) (by assumption) ?_
    rotate_left
    · first | (intro w hSw; (try dsimp only at hSw); go_simp; done) | (intro w hSw; (try dsimp only at hSw); go_simp; with_reducible rfl)
    (try simp only [Act.put, List.setIfInBounds_toArray, List.set_cons_zero, List.set_cons_succ])
    refine takeH (i := 9) (oi := _) (v := ?_) rfl (by kernel_rfl) (by kernel_rfl) (by kernel_rfl) (fun _ _ _ h => h) (Or.inl ⟨by rfl, ?_⟩) (by assumption) ?_
    rotate_left
    · first | (intro w hSw; (try dsimp only at hSw); go_simp; done) | (intro w hSw; (try dsimp only at hSw); go_simp; with_reducible rfl)
    (try simp only [Act.put, List.setIfInBounds_toArray, List.set_cons_zero, List.set_cons_succ])
    refine wpAnyH_done (by kernel_rfl) ?_ _
    refine NoPanic.normal ?_
    have hbb := draw_below HB0.out C5b.out.grow (show w.heap.size ≤ w.heap.size + 1 by omega) (Nat.le_refl w.heap.size) (x := .slice aP nP cP) (y := .slice aW nW cW)
    have hTT := (B5b.out.t.res (rb := w.heap.size) (x := .slice aP nP cP) (y := .slice aW nW cW) (by omega)).mono (base' := w.heap.size) (by omega)
    have ZL := (((VL5b.out.res (rb := w.heap.size) (x := .slice aP nP cP) (y := .slice aW nW cW) (by omega)).mono (base' := w.heap.size) (by omega)))
    go_wp2_with fail
    exact bodyPost_ret (v := .tuple #[.agg #[.slice aP nP cP, .slice aW nW cW], vL, .int .i64 vI]) (by simp [results, Tryz.results60, go_sem, hr.1, hr.2]) rfl ⟨⟨_, rfl, _, _, _, _, _, _, ps, ws, _, _, rfl, hTT, ZL, trivial⟩, hbb⟩
set_option maxRecDepth 100000 in
set_option maxHeartbeats 2000000 in
theorem spec_DrawThresholdRule (a : Option Addr) (n cap : Nat) (w : World) (h : Bytes w a n) :
    Calls Tryz.prog 63 #[.slice a n cap] w fun e w' => (∃ v, e = .returned v ∧ DrTLI w' w.heap.size v (fun _ => True)) ∧ Below w.heap.size w w' := by
  have hb0 : Below w.heap.size w ((w.alloc (.cells #[.slice none 0 0, .slice none 0 0] 26)).alloc (.cells #[.slice a n cap, .int .i64 0, .int .u64 0] 69)) := (below_new w _).alloc (by simp) _
  have hc := Cur.new (cap := cap) 69 (h.below (below_new w (.cells #[.slice none 0 0, .slice none 0 0] 26)))
  have R0 := Lib.hid ((Pair.new w (.slice none 0 0) (.slice none 0 0) 26).alloc (.cells #[.slice a n cap, .int .i64 0, .int .u64 0] 69))
  have hs0 : ((w.alloc (.cells #[.slice none 0 0, .slice none 0 0] 26)).alloc (.cells #[.slice a n cap, .int .i64 0, .int .u64 0] 69)).heap.size = w.heap.size + 1 + 1 := by simp
  rw [show (w.alloc (.cells #[.slice none 0 0, .slice none 0 0] 26)).heap.size = w.heap.size + 1 by simp] at hc
  have C0 := Lib.hid (Cq.start hc)
  clear hc h
  go_enter Tryz.func63, Tryz.ntmps63
  go_wp2_with fail
  generalize ((w.alloc (.cells #[.slice none 0 0, .slice none 0 0] 26)).alloc (.cells #[.slice a n cap, .int .i64 0, .int .u64 0] 69)) = w0 at *
  have hg0 : w.heap.size + 1 < w0.heap.size := by omega
  have HB0 := Lib.hid hb0
  clear hs0 hb0
  refine (spec_tree (w.heap.size + 1) a n cap 0 _ (by omega) C0.out.cur).mono ?_
  rintro e w1 ⟨⟨v, rfl, aP, nP, cP, aW, nW, cW, ps, ws, rfl, hD⟩, c1, g1⟩
  have C1 := Lib.hid (C0.out.step c1 g1)
  have R1 := Lib.hid (pair_other R0.out g1 (by omega))
  have HD := Lib.hid hD
  have hs1 := C1.out.size
  have hP5 := Pair.new w1 (.slice none 0 0) (.slice none 0 0) 26
  have x0 := hP5.c0
  have x1 := hP5.c1
  have y0 := hP5.f0
  have y1 := hP5.f1
  clear c1 g1 hD hP5 R0 C0
  have B3 := Lib.hid (bx_new 26 HD.out hs1 R1.out (by omega))
  have C3 := Lib.hid (C1.out.lit (.cells #[.slice aP nP cP, .slice aW nW cW] 26))
  have hnP := HD.out.pn
  go_wp2_with fail
  clear x0 x1 y0 y1 R1 HD C1
  generalize (w1.alloc (.cells #[.slice aP nP cP, .slice aW nW cW] 26)) = w3 at *
  generalize w1.heap.size = tb at *
  have c0 := B3.out.box.c0
  have c1 := B3.out.box.c1
  refine wp_region_noPanic ?_
  refine wp_region_held_drew (S := (fun W' => W'.cell? ⟨tb, 0, none⟩ = some (.slice aP nP cP) ∧ W'.cell? ⟨tb, 1, none⟩ = some (.slice aW nW cW))) (by kernel_rfl) ?_ (fun hHeld0 => ?_)
  · (try dsimp only); first | assumption | exact ⟨B3.out.drew.box.c0, B3.out.drew.box.c1⟩ | exact ⟨((B3.out.lit _).drew).box.c0, ((B3.out.lit _).drew).box.c1⟩ | exact ⟨HX.out.c0, HX.out.c1⟩ | exact ⟨(B4a.out.lit _).box.c0, (B4a.out.lit _).box.c1⟩
  refine takeH (i := 0) (oi := _) (v := ?_) rfl (by kernel_rfl) (by kernel_rfl) (by kernel_rfl) (fun _ _ _ h => h) (Or.inl ⟨by rfl, ?_⟩) (by assumption) ?_
  rotate_left
  · first | (intro w hSw; (try dsimp only at hSw); go_simp; done) | (intro w hSw; (try dsimp only at hSw); go_simp; with_reducible rfl)
  (try simp only [Act.put, List.setIfInBounds_toArray, List.set_cons_zero, List.set_cons_succ])
  refine takeH (i := 1) (oi := _) (v := ?_) rfl (by kernel_rfl) (by kernel_rfl) (by kernel_rfl) (fun _ _ _ h => h) (Or.inl ⟨by rfl, ?_⟩) (by assumption) ?_
  rotate_left
  · first | (intro w hSw; (try dsimp only at hSw); go_simp; done) | (intro w hSw; (try dsimp only at hSw); go_simp; with_reducible rfl)
  (try simp only [Act.put, List.setIfInBounds_toArray, List.set_cons_zero, List.set_cons_succ])
  refine takeH (i := 2) (oi := _) (v := ?_) rfl (by kernel_rfl) (by kernel_rfl) (by kernel_rfl) (fun _ _ _ h => h) (Or.inl ⟨by rfl, ?_⟩) (by assumption) ?_
  rotate_left
  · first | (intro w hSw; (try dsimp only at hSw); go_simp; done) | (intro w hSw; (try dsimp only at hSw); go_simp; with_reducible rfl)
  (try simp only [Act.put, List.setIfInBounds_toArray, List.set_cons_zero, List.set_cons_succ])
  refine takeH (i := 4) (oi := _) (v := ?_) rfl (by kernel_rfl) (by kernel_rfl) (by kernel_rfl) (fun _ _ _ h => h) (Or.inl ⟨by rfl, ?_⟩) (by assumption) ?_
  rotate_left
  · first | (intro w hSw; (try dsimp only at hSw); go_simp; done) | (intro w hSw; (try dsimp only at hSw); go_simp; with_reducible rfl)
  (try simp only [Act.put, List.setIfInBounds_toArray, List.set_cons_zero, List.set_cons_succ])
  refine wpAnyH_ready (rs := [3, 5]) (by kernel_rfl) (by simp) ?_
  refine consM rfl (fun Kq hKq => ?_) (consH rfl (fun Kq hKq => ?_))
  · go_simp
    refine (spec_pays (w.heap.size + 1) a n cap _ aP nP cP aW nW cW _ (by omega) hnP (C3.out.drew).cur).mono ?_
    rintro e w4a ⟨⟨vL, rfl, o4a⟩, c4a, g4a⟩
    have C4a := Lib.hid ((C3.out.drew).step c4a g4a)
    have B4a := Lib.hid ((B3.out.drew).other g4a (by omega) (by omega))
    have VL4a := Lib.hid ((o4a.mono (C3.out.drew).size).more (show _ ≤ 40 by omega))
    have hSS := And.intro B4a.out.box.c0 B4a.out.box.c1
    clear c4a g4a o4a
    refine hKq.out _ _ ?_ (fun hHeld1 => ?_)
    · (try dsimp only); first | assumption | exact ⟨B3.out.drew.box.c0, B3.out.drew.box.c1⟩ | exact ⟨((B3.out.lit _).drew).box.c0, ((B3.out.lit _).drew).box.c1⟩ | exact ⟨HX.out.c0, HX.out.c1⟩ | exact ⟨(B4a.out.lit _).box.c0, (B4a.out.lit _).box.c1⟩
    clear hKq Kq
    (try simp only [Act.put, List.setIfInBounds_toArray, List.set_cons_zero, List.set_cons_succ])
    clear hHeld0
    refine wpAnyH_ready (rs := [5]) (by kernel_rfl) (by simp) ?_
    refine consH rfl (fun Kq hKq => ?_)
    go_simp
    refine hKq.out _ _ ?_ (fun hHeld2 => ?_)
    · (try dsimp only); first | assumption | exact ⟨B3.out.drew.box.c0, B3.out.drew.box.c1⟩ | exact ⟨((B3.out.lit _).drew).box.c0, ((B3.out.lit _).drew).box.c1⟩ | exact ⟨HX.out.c0, HX.out.c1⟩ | exact ⟨(B4a.out.lit _).box.c0, (B4a.out.lit _).box.c1⟩
    clear hKq Kq
    (try simp only [Act.put, List.setIfInBounds_toArray, List.set_cons_zero, List.set_cons_succ])
    clear hHeld1
    refine wpAnyH_ready (rs := [6]) (by kernel_rfl) (by simp) ?_
    refine consH rfl (fun Kq hKq => ?_)
    go_simp
    refine (spec_among (w.heap.size + 1) a n cap _ _ 11 11 [0, 1, 2, 5, -1, -3, 10, 999, 1000, -1000, 4611686018427387904] _ (by omega) (by omega) (ints_lit _ [0, 1, 2, 5, -1, -3, 10, 999, 1000, -1000, 4611686018427387904] _ 11 rfl rfl) C4a.out.cur.ne (C4a.out.lit _).cur).mono ?_
    rintro e w5a ⟨⟨i5a, hi5a, rfl⟩, c5a, g5a⟩
    generalize nth _ i5a = vI at *
    have C5a := Lib.hid ((C4a.out.lit _).step c5a g5a)
    have B5a := Lib.hid ((B4a.out.lit _).other g5a (by omega) (by omega))
    have VL5a := Lib.hid (OwnA.other (OwnA.below VL4a.out (below_new _ _)) g5a (by omega))
    have hSS := And.intro B5a.out.box.c0 B5a.out.box.c1
    clear c5a g5a
    have e0 := B5a.out.res.c0
    have e1 := B5a.out.res.c1
    have f0 := B5a.out.res.f0
    have f1 := B5a.out.res.f1
    have HX := Lib.hid ((B5a.out.box.far (show w.heap.size ≠ tb by have := B5a.out.ge; omega) (i := 0) (.slice aP nP cP)).far (show w.heap.size ≠ tb by have := B5a.out.ge; omega) (i := 1) (.slice aW nW cW))
    have hr := B5a.out.res.set (.slice aP nP cP) (.slice aW nW cW)
    refine hKq.out _ _ ?_ (fun hHeld3 => ?_)
    · (try dsimp only); first | assumption | exact ⟨B3.out.drew.box.c0, B3.out.drew.box.c1⟩ | exact ⟨((B3.out.lit _).drew).box.c0, ((B3.out.lit _).drew).box.c1⟩ | exact ⟨HX.out.c0, HX.out.c1⟩ | exact ⟨(B4a.out.lit _).box.c0, (B4a.out.lit _).box.c1⟩
    clear hKq Kq
    (try simp only [Act.put, List.setIfInBounds_toArray, List.set_cons_zero, List.set_cons_succ])
    clear hHeld2
    refine wpAnyH_ready (rs := [7]) (by kernel_rfl) (by simp) ?_
    refine consH rfl (fun Kq hKq => ?_)
    go_simp
    refine hKq.out _ _ ?_ (fun hHeld4 => ?_)
    · (try dsimp only); first | assumption | exact ⟨B3.out.drew.box.c0, B3.out.drew.box.c1⟩ | exact ⟨((B3.out.lit _).drew).box.c0, ((B3.out.lit _).drew).box.c1⟩ | exact ⟨HX.out.c0, HX.out.c1⟩ | exact ⟨(B4a.out.lit _).box.c0, (B4a.out.lit _).box.c1⟩
    clear hKq Kq
    (try simp only [Act.put, List.setIfInBounds_toArray, List.set_cons_zero, List.set_cons_succ])
    clear hHeld3
    refine takeH (i := 8) (oi := _) (v := ?_) rfl (by kernel_rfl) (by kernel_rfl) (by kernel_rfl) (fun _ _ _ h => h) (Or.inl ⟨by rfl, ?_⟩) (by assumption) ?_
    rotate_left
    · first | (intro w hSw; (try dsimp only at hSw); go_simp; done) | (intro w hSw; (try dsimp only at hSw); go_simp; with_reducible rfl)
    (try simp only [Act.put, List.setIfInBounds_toArray, List.set_cons_zero, List.set_cons_succ])
    refine takeH (i := 9) (oi := _) (v := ?_) rfl (by kernel_rfl) (by kernel_rfl) (by kernel_rfl) (fun _ _ _ h => h) (Or.inl ⟨by rfl, ?_⟩) (by assumption) ?_
    rotate_left
    · first | (intro w hSw; (try dsimp only at hSw); go_simp; done) | (intro w hSw; (try dsimp only at hSw); go_simp; with_reducible rfl)
    (try simp only [Act.put, List.setIfInBounds_toArray, List.set_cons_zero, List.set_cons_succ])
    refine wpAnyH_done (by kernel_rfl) ?_ _
    refine NoPanic.normal ?_
    have hbb := draw_below HB0.out C5a.out.grow (show w.heap.size ≤ w.heap.size + 1 by omega) (Nat.le_refl w.heap.size) (x := .slice aP nP cP) (y := .slice aW nW cW)
    have hTT := (B5a.out.t.res (rb := w.heap.size) (x := .slice aP nP cP) (y := .slice aW nW cW) (by omega)).mono (base' := w.heap.size) (by omega)
    have ZL := (((VL5a.out.res (rb := w.heap.size) (x := .slice aP nP cP) (y := .slice aW nW cW) (by omega)).mono (base' := w.heap.size) (by omega)))
    go_wp2_with fail
    exact bodyPost_ret (v := .tuple #[.agg #[.slice aP nP cP, .slice aW nW cW], vL, .int .i64 vI]) (by simp [results, Tryz.results63, go_sem, hr.1, hr.2]) rfl ⟨⟨_, rfl, _, _, _, _, _, _, ps, ws, _, _, rfl, hTT, ZL, trivial⟩, hbb⟩
  · go_simp
    refine hKq.out _ _ ?_ (fun hHeld1 => ?_)
    · (try dsimp only); first | assumption | exact ⟨B3.out.drew.box.c0, B3.out.drew.box.c1⟩ | exact ⟨((B3.out.lit _).drew).box.c0, ((B3.out.lit _).drew).box.c1⟩ | exact ⟨HX.out.c0, HX.out.c1⟩ | exact ⟨(B4a.out.lit _).box.c0, (B4a.out.lit _).box.c1⟩
    clear hKq Kq
    (try simp only [Act.put, List.setIfInBounds_toArray, List.set_cons_zero, List.set_cons_succ])
    clear hHeld0
    refine wpAnyH_ready (rs := [3]) (by kernel_rfl) (by simp) ?_
    refine consH rfl (fun Kq hKq => ?_)
    go_simp
    refine (spec_pays (w.heap.size + 1) a n cap _ aP nP cP aW nW cW _ (by omega) hnP ((C3.out.lit _).drew).cur).mono ?_
    rintro e w4b ⟨⟨vL, rfl, o4b⟩, c4b, g4b⟩
    have C4b := Lib.hid (((C3.out.lit _).drew).step c4b g4b)
    have B4b := Lib.hid (((B3.out.lit _).drew).other g4b (by omega) (by omega))
    have I04b := Lib.hid (Ints.other (ints_lit _ [0, 1, 2, 5, -1, -3, 10, 999, 1000, -1000, 4611686018427387904] _ 11 rfl rfl).drew g4b (by intro p hp; cases hp; show w3.heap.size ≠ _; have := C3.out.size; omega))
    have VL4b := Lib.hid ((o4b.mono ((C3.out.lit _).drew).size).more (show _ ≤ 40 by omega))
    have hSS := And.intro B4b.out.box.c0 B4b.out.box.c1
    clear c4b g4b o4b
    refine hKq.out _ _ ?_ (fun hHeld2 => ?_)
    · (try dsimp only); first | assumption | exact ⟨B3.out.drew.box.c0, B3.out.drew.box.c1⟩ | exact ⟨((B3.out.lit _).drew).box.c0, ((B3.out.lit _).drew).box.c1⟩ | exact ⟨HX.out.c0, HX.out.c1⟩ | exact ⟨(B4a.out.lit _).box.c0, (B4a.out.lit _).box.c1⟩
    clear hKq Kq
    (try simp only [Act.put, List.setIfInBounds_toArray, List.set_cons_zero, List.set_cons_succ])
    clear hHeld1
    refine wpAnyH_ready (rs := [6]) (by kernel_rfl) (by simp) ?_
    refine consH rfl (fun Kq hKq => ?_)
    go_simp
    refine (spec_among (w.heap.size + 1) a n cap _ _ 11 11 [0, 1, 2, 5, -1, -3, 10, 999, 1000, -1000, 4611686018427387904] _ (by omega) (by omega) I04b.out (by intro p hp; cases hp; show w3.heap.size ≠ _; have := C3.out.size; omega) C4b.out.cur).mono ?_
    rintro e w5b ⟨⟨i5b, hi5b, rfl⟩, c5b, g5b⟩
    generalize nth _ i5b = vI at *
    have C5b := Lib.hid (C4b.out.step c5b g5b)
    have B5b := Lib.hid (B4b.out.other g5b (by omega) (by omega))
    have VL5b := Lib.hid (OwnA.other VL4b.out g5b (by omega))
    have hSS := And.intro B5b.out.box.c0 B5b.out.box.c1
    clear c5b g5b
    have e0 := B5b.out.res.c0
    have e1 := B5b.out.res.c1
    have f0 := B5b.out.res.f0
    have f1 := B5b.out.res.f1
    have HX := Lib.hid ((B5b.out.box.far (show w.heap.size ≠ tb by have := B5b.out.ge; omega) (i := 0) (.slice aP nP cP)).far (show w.heap.size ≠ tb by have := B5b.out.ge; omega) (i := 1) (.slice aW nW cW))
    have hr := B5b.out.res.set (.slice aP nP cP) (.slice aW nW cW)
    refine hKq.out _ _ ?_ (fun hHeld3 => ?_)
    · (try dsimp only); first | assumption | exact ⟨B3.out.drew.box.c0, B3.out.drew.box.c1⟩ | exact ⟨((B3.out.lit _).drew).box.c0, ((B3.out.lit _).drew).box.c1⟩ | exact ⟨HX.out.c0, HX.out.c1⟩ | exact ⟨(B4a.out.lit _).box.c0, (B4a.out.lit _).box.c1⟩
    clear hKq Kq
    (try simp only [Act.put, List.setIfInBounds_toArray, List.set_cons_zero, List.set_cons_succ])
    clear hHeld2
    refine wpAnyH_ready (rs := [7]) (by kernel_rfl) (by simp) ?_
    refine consH rfl (fun Kq hKq => ?_)
    go_simp
    refine hKq.out _ _ ?_ (fun hHeld4 => ?_)
    · (try dsimp only); first | assumption | exact ⟨B3.out.drew.box.c0, B3.out.drew.box.c1⟩ | exact ⟨((B3.out.lit _).drew).box.c0, ((B3.out.lit _).drew).box.c1⟩ | exact ⟨HX.out.c0, HX.out.c1⟩ | exact ⟨(B4a.out.lit _).box.c0, (B4a.out.lit _).box.c1⟩
    clear hKq Kq
    (try simp only [Act.put, List.setIfInBounds_toArray, List.set_cons_zero, List.set_cons_succ])
    clear hHeld3
    refine takeH (i := 8) (oi := _) (v := ?_) rfl (by kernel_rfl) (by kernel_rfl) (by kernel_rfl) (fun _ _ _ h => h) (Or.inl ⟨by rfl, ?_⟩) (by assumption) ?_
    rotate_left
    · first | (intro w hSw; (try dsimp only at hSw); go_simp; done) | (intro w hSw; (try dsimp only at hSw); go_simp; with_reducible rfl)
    (try simp only [Act.put, List.setIfInBounds_toArray, List.set_cons_zero, List.set_cons_succ])
    refine takeH (i := 9) (oi := _) (v := ?_) rfl (by kernel_rfl) (by kernel_rfl) (by kernel_rfl) (fun _ _ _ h => h) (Or.inl ⟨by rfl, ?_⟩) (by assumption) ?_
    rotate_left
    · first | (intro w hSw; (try dsimp only at hSw); go_simp; done) | (intro w hSw; (try dsimp only at hSw); go_simp; with_reducible rfl)
    (try simp only [Act.put, List.setIfInBounds_toArray, List.set_cons_zero, List.set_cons_succ])
    refine wpAnyH_done (by kernel_rfl) ?_ _
    refine NoPanic.normal ?_
    have hbb := draw_below HB0.out C5b.out.grow (show w.heap.size ≤ w.heap.size + 1 by omega) (Nat.le_refl w.heap.size) (x := .slice aP nP cP) (y := .slice aW nW cW)
    have hTT := (B5b.out.t.res (rb := w.heap.size) (x := .slice aP nP cP) (y := .slice aW nW cW) (by omega)).mono (base' := w.heap.size) (by omega)
    have ZL := (((VL5b.out.res (rb := w.heap.size) (x := .slice aP nP cP) (y := .slice aW nW cW) (by omega)).mono (base' := w.heap.size) (by omega)))
    go_wp2_with fail
    exact bodyPost_ret (v := .tuple #[.agg #[.slice aP nP cP, .slice aW nW cW], vL, .int .i64 vI]) (by simp [results, Tryz.results63, go_sem, hr.1, hr.2]) rfl ⟨⟨_, rfl, _, _, _, _, _, _, ps, ws, _, _, rfl, hTT, ZL, trivial⟩, hbb⟩
end Go.Proofs.YtnbomleieianoaaGreat

/- Contract: the envelope of each node, by the reference. -/
namespace Go.Proofs.YtnbomleieianoaaGreat
open Go.RowKit

namespace Fr
/-- The same behind a call of the region. -/
theorem step_push3 {ops : Array Oper} {o : Oper} {a : Act} {K : Act → World → Prop} {Q : Exit → Act → World → Prop} {E : Prop} {w : World} {x1 x2 : Int} (hgd : o.guard = none) (s x : Operand)
    (ho : o.op = .call { callee := .builtin .append, args := #[s, x], argTypes := #[43, 43] })
    (base : Nat) (v : Value) (xs : List (Int × Int)) (hs : a.eval s = v) (hown : Own w base v xs) (hx : a.eval x = .slice (some ⟨w.heap.size, 0, none⟩) 1 1)
    (hl : xs.length ≤ 1048576) (hb : base ≤ w.heap.size)
    (h : ∀ v' w', Own w' base v' (xs ++ [(x1, x2)]) → Below base w w' → Moved w v w' v' → K (a.put o.dst v') w') :
    if Region.wanted o (yielded ops a.tmps) = true then Oper.wp Tryz.prog o a (w.alloc (.cells #[.int .i64 x1, .int .i64 x2] 29)) K Q else E := by
  obtain ⟨i0, hi0, hz0, hz1, hz2⟩ := info_parts
  refine step_append_lies _ hgd s x 43 ho base 29 i0 (.agg #[.int .i64 0, .int .i64 0]) 2 16 Tryz.underlying43 hi0 hz0 hz1 hz2 rfl (by decide) v xs.length (fs xs) hs
    (hown.below ((Below.refl _ _).alloc (Nat.le_refl _) _)) ⟨w.heap.size, 0, none⟩ 1 1 [.int .i64 x1, .int .i64 x2] hx rfl
    (World.news_of_block (cs := #[.int .i64 x1, .int .i64 x2]) (t := 29) (fr := (0, 0)) (heap_alloc_new w _)) (by simp [Value.oneCell']) (by decide) (by simp only [maxLen]; omega) (by omega) (by simp; omega) (w.heap.size + 1) (by simp) ?_
  intro g cap w' h1 h2 h3 _
  have hdb : Below w.heap.size w (w.alloc (.cells #[.int .i64 x1, .int .i64 x2] 29)) := ((Below.refl _ _).alloc (Nat.le_refl _) _)
  refine h _ w' ?_ ?_ ⟨Nat.le_trans hdb.size h2.size, fun b hb' hne => ⟨fun e => ?_, ?_⟩⟩
  · unfold Own
    rw [← fs_append, List.length_append]; exact h1
  · exact (((Below.refl base w).alloc hb _)).grown h2 (by simp; omega) fun k hk => (World.ownsRow.lt hown k hk).1
  · simp [Value.ownBlock] at e
    rcases h3 with h3 | h3
    · rw [h3, e] at hne; exact hne rfl
    · omega
  · have := h2.block b (Nat.lt_of_lt_of_le hb' hdb.size) (fun e => hne e.symm)
    rw [this]; exact hdb.block b hb'
end Fr
set_option maxRecDepth 100000 in
set_option maxHeartbeats 2000000 in
theorem spec_EnvelopeOf (aP : Option Addr) (nP cP : Nat) (aW : Option Addr) (nW cW : Nat) (ps ws : List Int) (aL : Option Addr) (nL cL : Nat) (l : List Int) (w : World) (h : Tre w aP nP cP aW nW cW ps ws) (hL : Ints w aL nL l) (_hLc : aL = none → cL = 0) (hn : nL ≤ 1048576) :
    Calls Tryz.prog 34 #[.agg #[.slice aP nP cP, .slice aW nW cW], .slice aL nL cL] w fun e w' => ∃ v, e = .returned (.tuple #[v, .bool (paysB ps ws l)]) ∧ Fr.Own w' w.heap.size v (envV ps ws l) ∧ Below w.heap.size w w' := by
  have hl := h.p.1
  have hlw := h.w.1
  have hpn := h.pn
  have hwn := h.wn
  have hb1 := below_new w (.cells #[.slice aP nP cP, .slice aW nW cW] 26)
  have hP1 := Lib.hid (Pair.new w (.slice aP nP cP) (.slice aW nW cW) 26)
  have H := Lib.hid h
  have Hl := Lib.hid hl
  have Hlw := Lib.hid hlw
  clear h hl hlw
  have HL := Lib.hid hL
  have hll := Lib.hid hL.1
  clear hL
  go_enter Tryz.func34, Tryz.ntmps34
  have hnil := Fr.own_nil0 (w.alloc (.cells #[.slice aP nP cP, .slice aW nW cW] 26))
  rw [show (w.alloc (.cells #[.slice aP nP cP, .slice aW nW cW] 26)).heap.size = w.heap.size + 1 by simp] at hnil
  have hb2 : Below w.heap.size w ((w.alloc (.cells #[.slice aP nP cP, .slice aW nW cW] 26)).alloc (.cells #[] 29)) := hb1.alloc (by simp) _
  have hP2 := Lib.hid (hP1.out.alloc (.cells #[] 29))
  have hs2 : ((w.alloc (.cells #[.slice aP nP cP, .slice aW nW cW] 26)).alloc (.cells #[] 29)).heap.size = w.heap.size + 2 := by simp
  have c0 := hP2.out.c0
  have c1 := hP2.out.c1
  clear hP1 hb1
  go_wp2_with fail
  generalize ((w.alloc (.cells #[.slice aP nP cP, .slice aW nW cW] 26)).alloc (.cells #[] 29)) = w2 at *
  refine (spec_l4Pays _ _ _ _ _ _ ps ws _ _ _ l _ (H.out.below hb2) (HL.out.below hb2) hn).mono ?_
  rintro e w4 ⟨rfl, hb4⟩
  have HP4 := Lib.hid (hP2.out.below hb4)
  have HO4 := Lib.hid (hnil.below hb4)
  have e0 := HP4.out.c0
  have e1 := HP4.out.c1
  have hb14 := hb2.trans (hb4.mono hb2.size)
  have hs4 : w.heap.size + 2 ≤ w4.heap.size := by have := hb4.size; omega
  clear c0 c1 hb4 hP2 hb2 hs2 hnil
  cases hT : paysB ps ws l
  · have Hv := Lib.hid hT
    clear hT
    go_wp2_with fail
    go_ret2
    exact ⟨_, by rw [Hv.out]; rfl, by rw [envV_no Hv.out]; exact HO4.out.mono (Nat.le_succ _), hb14⟩
  have Hpays := Lib.hid hT
  obtain ⟨hTr, _, _, hleq, hlb⟩ := paysB_t hT
  have hnL : nP = nL := by have := hll.out; have := Hl.out; omega
  have HTT := Lib.hid hTr
  have Hlb := Lib.hid hlb
  have hn24 := hTr.n24
  have hnP : 1 ≤ nP ∧ nP ≤ 24 := by have := hTr.n1; have := Hl.out; omega
  have Hval := Lib.hid (envV_yes Hpays.out)
  clear hT hTr hleq hlb hn24 hn hpn hwn
  subst hnL
  have Hsl : Hid ((sums ps ws).length = nP) := Lib.hid (by rw [sums_length HTT.out]; exact Hl.out)
  have Hcl : Hid ((capW ps ws l).length = nP) := Lib.hid (by rw [capW_length]; exact Hl.out)
  have Hca := Lib.hid (worth_abs HTT.out Hlb.out 24)
  go_upto_region 3 with fail
  refine wp_region_noPanic ?_
  refine wp_region_held_drew (S := fun W' => KeepR w4 W' ∧ W'.cell? ⟨w.heap.size, 0, none⟩ = some (.slice aP nP cP) ∧ W'.cell? ⟨w.heap.size, 1, none⟩ = some (.slice aW nW cW)) (by kernel_rfl) ?_ (fun hHeld0 => ?_)
  · (try dsimp only); first | exact keep2 (by assumption) HP4.out | exact keep2 (KeepR.start _) HP4.out
  refine takeH (i := 0) (oi := _) (v := ?_) rfl (by kernel_rfl) (by kernel_rfl) (by kernel_rfl) (fun _ _ _ h => h) (Or.inl ⟨by rfl, ?_⟩) (by assumption) ?_
  rotate_left
  · first | (intro w hSw; (try dsimp only at hSw); go_simp; done) | (intro w hSw; (try dsimp only at hSw); go_simp; with_reducible rfl)
  (try simp only [Act.put, List.setIfInBounds_toArray, List.set_cons_zero, List.set_cons_succ])
  refine takeH (i := 1) (oi := _) (v := ?_) rfl (by kernel_rfl) (by kernel_rfl) (by kernel_rfl) (fun _ _ _ h => h) (Or.inl ⟨by rfl, ?_⟩) (by assumption) ?_
  rotate_left
  · first | (intro w hSw; (try dsimp only at hSw); go_simp; done) | (intro w hSw; (try dsimp only at hSw); go_simp; with_reducible rfl)
  (try simp only [Act.put, List.setIfInBounds_toArray, List.set_cons_zero, List.set_cons_succ])
  refine takeH (i := 3) (oi := _) (v := ?_) rfl (by kernel_rfl) (by kernel_rfl) (by kernel_rfl) (fun _ _ _ h => h) (Or.inl ⟨by rfl, ?_⟩) (by assumption) ?_
  rotate_left
  · first | (intro w hSw; (try dsimp only at hSw); go_simp; done) | (intro w hSw; (try dsimp only at hSw); go_simp; with_reducible rfl)
  (try simp only [Act.put, List.setIfInBounds_toArray, List.set_cons_zero, List.set_cons_succ])
  refine wpAnyH_ready (rs := [2]) (by kernel_rfl) (by simp) ?_
  refine consH rfl (fun Kq hKq => ?_)
  go_simp
  (go_at_call 100; refine (spec_l4Caps _ _ _ _ _ _ ps ws _ _ _ l _ (H.out.below (hb14.trans (Below.mono (by assumption : KeepR w4 _ ∧ _).1 hb14.size))) HTT.out (HL.out.below (hb14.trans (Below.mono (by assumption : KeepR w4 _ ∧ _).1 hb14.size))) rfl Hlb.out).mono ?_; rintro e w5 ⟨v5, rfl, o5, b5⟩; have hk5 := KeepR.next b5 (by assumption : KeepR w4 _ ∧ _).1)
  refine hKq.out _ _ ?_ (fun hHeld1 => ?_)
  · (try dsimp only); first | exact keep2 (by assumption) HP4.out | exact keep2 (KeepR.start _) HP4.out
  clear hKq Kq
  (try simp only [Act.put, List.setIfInBounds_toArray, List.set_cons_zero, List.set_cons_succ])
  clear hHeld0
  refine wpAnyH_ready (rs := [4]) (by kernel_rfl) (by simp) ?_
  refine consH rfl (fun Kq hKq => ?_)
  go_simp
  (go_at_call 75; refine (spec_l2Sums _ _ _ _ _ _ ps ws _ (H.out.below (hb14.trans (Below.mono (by assumption : KeepR w4 _ ∧ _).1 hb14.size))) HTT.out).mono ?_; rintro e w6 ⟨v6, rfl, o6, b6⟩; have hk6 := KeepR.next b6 (by assumption : KeepR w4 _ ∧ _).1)
  refine hKq.out _ _ ?_ (fun hHeld2 => ?_)
  · (try dsimp only); first | exact keep2 (by assumption) HP4.out | exact keep2 (KeepR.start _) HP4.out
  clear hKq Kq
  (try simp only [Act.put, List.setIfInBounds_toArray, List.set_cons_zero, List.set_cons_succ])
  clear hHeld1
  refine takeH (i := 5) (oi := _) (v := ?_) rfl (by kernel_rfl) (by kernel_rfl) (by kernel_rfl) (fun _ _ _ h => h) (Or.inl ⟨by rfl, ?_⟩) (by assumption) ?_
  rotate_left
  · first | (intro w hSw; (try dsimp only at hSw); go_simp; done) | (intro w hSw; (try dsimp only at hSw); go_simp; with_reducible rfl)
  (try simp only [Act.put, List.setIfInBounds_toArray, List.set_cons_zero, List.set_cons_succ])
  refine takeH (i := 6) (oi := _) (v := ?_) rfl (by kernel_rfl) (by kernel_rfl) (by kernel_rfl) (fun _ _ _ h => h) (Or.inl ⟨by rfl, ?_⟩) (by assumption) ?_
  rotate_left
  · first | (intro w hSw; (try dsimp only at hSw); go_simp; done) | (intro w hSw; (try dsimp only at hSw); go_simp; with_reducible rfl)
  (try simp only [Act.put, List.setIfInBounds_toArray, List.set_cons_zero, List.set_cons_succ])
  refine wpAnyH_done (by kernel_rfl) ?_ _
  refine NoPanic.normal ?_
  go_wp2_with fail
  obtain ⟨a5, c5, rfl⟩ := o5.shape
  obtain ⟨a6, c6, rfl⟩ := o6.shape
  rw [Hcl.out] at o5 ⊢
  rw [Hsl.out] at o6 ⊢
  have hk6' : Below w4.heap.size w4 w6 := hk6
  have hb16 := hb14.trans (hk6'.mono hb14.size)
  have G5 := Lib.hid (o5.ints.below b6)
  have G6 := Lib.hid o6.ints
  have HP6 := Lib.hid (HP4.out.below hk6')
  have HO6 := Lib.hid (HO4.out.below hk6')
  have hk5' : Below w4.heap.size w4 w5 := hk5
  have P5 : Hid (Apart a5 (Value.slice (some ⟨w.heap.size + 1, 0, none⟩) 0 0)) := Lib.hid fun p hp e => by
    obtain ⟨g, cap, he, hg, _⟩ := o5.form (by rw [capW_length]; have := Hl.out; omega)
    have hd : w4.drew.heap.size = w4.heap.size := rfl
    cases he
    cases hp
    simp [Value.ownBlock] at e
    omega
  have P6 : Hid (Apart a6 (Value.slice (some ⟨w.heap.size + 1, 0, none⟩) 0 0)) := Lib.hid fun p hp e => by
    obtain ⟨g, cap, he, hg, _⟩ := o6.form (by rw [sums_length HTT.out]; have := Hl.out; omega)
    cases he
    cases hp
    have := hk5'.size
    simp [Value.ownBlock] at e
    omega
  have hs6 : w.heap.size + 1 ≤ w6.heap.size := by have := hk6'.size; omega
  clear o5 o6 b5 b6 hk5 hk6 hk5' hk6' HP4 HO4 hb14 hs4
  generalize hU : w.heap.size + 1 = U at *
  have hUw : w.heap.size ≤ U := by omega
  clear hU
  go_loopw [6, 9] (fun v5 v8 wr => ∃ x : Nat, x ≤ nP ∧ v8 = .int .i64 (x : Int) ∧ Fr.Own wr U v5 ((envL ps ws l).take x) ∧ Ints wr a6 nP (sums ps ws) ∧ Ints wr a5 nP (capW ps ws l) ∧ Apart a6 v5 ∧ Apart a5 v5 ∧ Below w.heap.size w wr ∧ U ≤ wr.heap.size) (fun _ v8 _ => nP - (intOf v8).toNat)
  case atStart => exact ⟨0, Nat.zero_le _, rfl, by rw [List.take_zero]; exact HO6.out, G6.out, G5.out, P6.out, P5.out, hb16, hs6⟩
  case round =>
    clear hb16 HO6 G6 G5 P6 P5 HP6 hs6
    obtain ⟨x, hx, rfl, hou, h6, h7, p6, p7, hbel, hsz⟩ := hrel
    have G6 := Lib.hid h6
    have G7 := Lib.hid h7
    have P6 := Lib.hid p6
    have P7 := Lib.hid p7
    clear h6 h7 p6 p7
    by_cases hlt : (x : Int) < nP
    · obtain ⟨b6, o6, rfl, hc6⟩ := G6.out.at (i := x) (Below.refl _ _) (by omega)
      obtain ⟨b7, o7, rfl, hc7⟩ := G7.out.at (i := x) (Below.refl _ _) (by omega)
      have Hml := Lib.hid (envL_take ps ws l (x := x) (by have := Hl.out; omega))
      have hol : ((envL ps ws l).take x).length ≤ 24 := by rw [List.length_take]; omega
      have hs1 := sums_pos HTT.out x (by have := Hl.out; omega)
      have hs2 := (sums_bd HTT.out x).2
      have hcx : -479520 ≤ nth (capW ps ws l) x ∧ nth (capW ps ws l) x ≤ 479520 := Hca.out x
      have HcC : Hid (∀ W : World, Calls Tryz.prog 76 #[.int .i64 (nth (capW ps ws l) x), .int .i64 (nth (sums ps ws) x)] W fun e w' => e = .returned (.agg #[.int .i64 (nm (nth (capW ps ws l) x) (nth (sums ps ws) x)), .int .i64 (dn (nth (capW ps ws l) x) (nth (sums ps ws) x))]) ∧ Below W.heap.size W w') := Lib.hid fun W => spec_l2Cut _ _ W (by omega) (by omega)
      clear hs1 hs2 hcx
      generalize nm (nth (capW ps ws l) x) (nth (sums ps ws) x) = gn at *
      generalize dn (nth (capW ps ws l) x) (nth (sums ps ws) x) = gd at *
      generalize nth (capW ps ws l) x = tx at *
      generalize nth (sums ps ws) x = sx at *
      generalize (envL ps ws l).take x = acc at *
      have k2 : (0 : Int) ≤ (x : Int) := by omega
      obtain ⟨a5, c5, rfl⟩ := hou.shape
      have HO := Lib.hid hou
      clear hou
      go_wp2_with fail
      refine wp_region_noPanic ?_
      refine wp_region_held_drew (S := fun W' => Below U wr W' ∧ W'.cell? ⟨b6, o6 + x, none⟩ = some (.int .i64 sx) ∧ W'.cell? ⟨b7, o7 + x, none⟩ = some (.int .i64 tx)) (by kernel_rfl) ?_ (fun hHeld0 => ?_)
      · (try dsimp only); first | assumption | exact ⟨(Below.refl _ _).drew, hc6, hc7⟩ | exact ⟨(Below.mono hk9 hsz), cell_up hk9 hc6, cell_up hk9 hc7⟩ | exact ⟨Below.alloc (Below.mono hk9 hsz) hsz9 _, cell_up (below_new w9 _) (cell_up hk9 hc6), cell_up (below_new w9 _) (cell_up hk9 hc7)⟩
      refine takeH (i := 0) (oi := _) (v := ?_) rfl (by kernel_rfl) (by kernel_rfl) (by kernel_rfl) (fun _ _ _ h => h) (Or.inl ⟨by rfl, ?_⟩) (by assumption) ?_
      rotate_left
      · first | (intro w hSw; (try dsimp only at hSw); go_simp; done) | (intro w hSw; (try dsimp only at hSw); go_simp; with_reducible rfl)
      (try simp only [Act.put, List.setIfInBounds_toArray, List.set_cons_zero, List.set_cons_succ])
      refine takeH (i := 1) (oi := _) (v := ?_) rfl (by kernel_rfl) (by kernel_rfl) (by kernel_rfl) (fun _ _ _ h => h) (Or.inl ⟨by rfl, ?_⟩) (by assumption) ?_
      rotate_left
      · first | (intro w hSw; (try dsimp only at hSw); go_simp; done) | (intro w hSw; (try dsimp only at hSw); go_simp; with_reducible rfl)
      (try simp only [Act.put, List.setIfInBounds_toArray, List.set_cons_zero, List.set_cons_succ])
      refine takeH (i := 2) (oi := _) (v := ?_) rfl (by kernel_rfl) (by kernel_rfl) (by kernel_rfl) (fun _ _ _ h => h) (Or.inl ⟨by rfl, ?_⟩) (by assumption) ?_
      rotate_left
      · first | (intro w hSw; (try dsimp only at hSw); go_simp; done) | (intro w hSw; (try dsimp only at hSw); go_simp; with_reducible rfl)
      (try simp only [Act.put, List.setIfInBounds_toArray, List.set_cons_zero, List.set_cons_succ])
      refine takeH (i := 3) (oi := _) (v := ?_) rfl (by kernel_rfl) (by kernel_rfl) (by kernel_rfl) (fun _ _ _ h => h) (Or.inl ⟨by rfl, ?_⟩) (by assumption) ?_
      rotate_left
      · first | (intro w hSw; (try dsimp only at hSw); go_simp; done) | (intro w hSw; (try dsimp only at hSw); go_simp; with_reducible rfl)
      (try simp only [Act.put, List.setIfInBounds_toArray, List.set_cons_zero, List.set_cons_succ])
      refine takeH (i := 4) (oi := _) (v := ?_) rfl (by kernel_rfl) (by kernel_rfl) (by kernel_rfl) (fun _ _ _ h => h) (Or.inl ⟨by rfl, ?_⟩) (by assumption) ?_
      rotate_left
      · first | (intro w hSw; (try dsimp only at hSw); go_simp; done) | (intro w hSw; (try dsimp only at hSw); go_simp; with_reducible rfl)
      (try simp only [Act.put, List.setIfInBounds_toArray, List.set_cons_zero, List.set_cons_succ])
      refine takeH (i := 5) (oi := _) (v := ?_) rfl (by kernel_rfl) (by kernel_rfl) (by kernel_rfl) (fun _ _ _ h => h) (Or.inl ⟨by rfl, ?_⟩) (by assumption) ?_
      rotate_left
      · first | (intro w hSw; (try dsimp only at hSw); go_simp; done) | (intro w hSw; (try dsimp only at hSw); go_simp; with_reducible rfl)
      (try simp only [Act.put, List.setIfInBounds_toArray, List.set_cons_zero, List.set_cons_succ])
      refine takeH (i := 6) (oi := _) (v := ?_) rfl (by kernel_rfl) (by kernel_rfl) (by kernel_rfl) (fun _ _ _ h => h) (Or.inl ⟨by rfl, ?_⟩) (by assumption) ?_
      rotate_left
      · first | (intro w hSw; (try dsimp only at hSw); go_simp; done) | (intro w hSw; (try dsimp only at hSw); go_simp; with_reducible rfl)
      (try simp only [Act.put, List.setIfInBounds_toArray, List.set_cons_zero, List.set_cons_succ])
      refine takeH (i := 7) (oi := _) (v := ?_) rfl (by kernel_rfl) (by kernel_rfl) (by kernel_rfl) (fun _ _ _ h => h) (Or.inl ⟨by rfl, ?_⟩) (by assumption) ?_
      rotate_left
      · first | (intro w hSw; (try dsimp only at hSw); go_simp; done) | (intro w hSw; (try dsimp only at hSw); go_simp; with_reducible rfl)
      (try simp only [Act.put, List.setIfInBounds_toArray, List.set_cons_zero, List.set_cons_succ])
      refine takeH (i := 8) (oi := _) (v := ?_) rfl (by kernel_rfl) (by kernel_rfl) (by kernel_rfl) (fun _ _ _ h => h) (Or.inl ⟨by rfl, ?_⟩) (by assumption) ?_
      rotate_left
      · first | (intro w hSw; (try dsimp only at hSw); go_simp; done) | (intro w hSw; (try dsimp only at hSw); go_simp; with_reducible rfl)
      (try simp only [Act.put, List.setIfInBounds_toArray, List.set_cons_zero, List.set_cons_succ])
      refine wpAnyH_ready (rs := [9]) (by kernel_rfl) (by simp) ?_
      refine consH rfl (fun Kq hKq => ?_)
      go_simp
      (go_at_call 76; refine (HcC.out _).mono ?_; rintro e w9 ⟨rfl, b9⟩; have hk9 : KeepR wr w9 := KeepR.next b9 (KeepR.start wr); have hsz9 : U ≤ w9.heap.size := Nat.le_trans hsz (Below.size hk9))
      refine hKq.out _ _ ?_ (fun hHeld1 => ?_)
      · (try dsimp only); first | assumption | exact ⟨(Below.refl _ _).drew, hc6, hc7⟩ | exact ⟨(Below.mono hk9 hsz), cell_up hk9 hc6, cell_up hk9 hc7⟩ | exact ⟨Below.alloc (Below.mono hk9 hsz) hsz9 _, cell_up (below_new w9 _) (cell_up hk9 hc6), cell_up (below_new w9 _) (cell_up hk9 hc7)⟩
      clear hKq Kq
      (try simp only [Act.put, List.setIfInBounds_toArray, List.set_cons_zero, List.set_cons_succ])
      clear hHeld0
      refine wpAnyH_ready (rs := [10]) (by kernel_rfl) (by simp) ?_
      refine consH rfl (fun Kq hKq => ?_)
      go_simp
      refine hKq.out _ _ ?_ (fun hHeld2 => ?_)
      · (try dsimp only); first | assumption | exact ⟨(Below.refl _ _).drew, hc6, hc7⟩ | exact ⟨(Below.mono hk9 hsz), cell_up hk9 hc6, cell_up hk9 hc7⟩ | exact ⟨Below.alloc (Below.mono hk9 hsz) hsz9 _, cell_up (below_new w9 _) (cell_up hk9 hc6), cell_up (below_new w9 _) (cell_up hk9 hc7)⟩
      clear hKq Kq
      (try simp only [Act.put, List.setIfInBounds_toArray, List.set_cons_zero, List.set_cons_succ])
      clear hHeld1
      refine wpAnyH_ready (rs := [11]) (by kernel_rfl) (by simp) ?_
      refine consH rfl (fun Kq hKq => ?_)
      (refine Fr.step_push3 (x1 := gn) (x2 := gd) rfl _ _ rfl U _ _ (by rfl) (HO.out.below hk9) (by rfl) (by omega) hsz9 ?_; intro v' w' ho hb hm; have x6 := hm.cell (cell_up hk9 hc6) (P6.out ⟨b6, o6, none⟩ rfl); have x7 := hm.cell (cell_up hk9 hc7) (P7.out ⟨b7, o7, none⟩ rfl); have hSS : Below U wr w' ∧ w'.cell? ⟨b6, o6 + x, none⟩ = some (.int .i64 sx) ∧ w'.cell? ⟨b7, o7 + x, none⟩ = some (.int .i64 tx) := ⟨(Below.mono hk9 hsz).trans hb, x6, x7⟩)
      refine hKq.out _ _ ?_ (fun hHeld3 => ?_)
      · (try dsimp only); first | assumption | exact ⟨(Below.refl _ _).drew, hc6, hc7⟩ | exact ⟨(Below.mono hk9 hsz), cell_up hk9 hc6, cell_up hk9 hc7⟩ | exact ⟨Below.alloc (Below.mono hk9 hsz) hsz9 _, cell_up (below_new w9 _) (cell_up hk9 hc6), cell_up (below_new w9 _) (cell_up hk9 hc7)⟩
      clear hKq Kq
      (try simp only [Act.put, List.setIfInBounds_toArray, List.set_cons_zero, List.set_cons_succ])
      clear hHeld2
      refine takeH (i := 12) (oi := _) (v := ?_) rfl (by kernel_rfl) (by kernel_rfl) (by kernel_rfl) (fun _ _ _ h => h) (Or.inl ⟨by rfl, ?_⟩) (by assumption) ?_
      rotate_left
      · first | (intro w hSw; (try dsimp only at hSw); go_simp; done) | (intro w hSw; (try dsimp only at hSw); go_simp; with_reducible rfl)
      (try simp only [Act.put, List.setIfInBounds_toArray, List.set_cons_zero, List.set_cons_succ])
      refine wpAnyH_done (by kernel_rfl) ?_ _
      refine NoPanic.normal ?_
      go_wp2_with fail
      have hk9' : Below wr.heap.size wr w9 := hk9
      have h6' := (G6.out.below hk9').moved hm (fun _ => P6.out)
      have h7' := (G7.out.below hk9').moved hm (fun _ => P7.out)
      go_roundw
      case rel => exact ⟨x + 1, by omega, by go_num, by rw [Hml.out]; exact ho, h6'.1, h7'.1, h6'.2 (by omega), h7'.2 (by omega), (hbel.trans (hk9'.mono hbel.size)).trans (hb.mono hUw), Nat.le_trans hsz9 hb.size⟩
      case measure => simp [intOf]; omega
    · obtain rfl : x = nP := by omega
      have hfin : (envL ps ws l).take x = envL ps ws l := List.take_of_length_le (by rw [envL_length]; have := Hl.out; omega)
      rw [hfin] at hou
      go_wp2_with fail
      go_ret2
      exact ⟨_, by rw [Hpays.out]; rfl, by rw [Hval.out]; exact hou.mono hUw, hbel⟩
end Go.Proofs.YtnbomleieianoaaGreat

/- Contracts: the rule that looks some steps ahead, by the reference. -/
namespace Go.Proofs.YtnbomleieianoaaGreat
open Go.RowKit

/-- The first k numbers of ys, then those of xs. -/
def mix (xs ys : List Int) (k : Nat) : List Int := (List.range xs.length).map fun y => if y < k then nth ys y else nth xs y
theorem mix_length (xs ys : List Int) (k : Nat) : (mix xs ys k).length = xs.length := by simp [mix]
theorem mix_zero (xs ys : List Int) : mix xs ys 0 = xs := ext_nth (mix_length _ _ _) fun i hi => by
  rw [mix_length] at hi
  rw [mix, nth_map_range hi, if_neg (by omega)]
theorem mix_all {xs ys : List Int} (h : ys.length = xs.length) : mix xs ys xs.length = ys := ext_nth (by rw [mix_length, h]) fun i hi => by
  rw [mix_length] at hi
  rw [mix, nth_map_range hi, if_pos hi]
theorem nth_mix {xs ys : List Int} {k : Nat} (h : k < xs.length) : nth (mix xs ys k) k = nth xs k := by rw [mix, nth_map_range h, if_neg (by omega)]
theorem mix_succ {xs ys : List Int} {k : Nat} (h : k < xs.length) : mix xs ys (k + 1) = (mix xs ys k).set k (nth ys k) := ext_nth (by simp [mix_length]) fun i hi => by
  rw [mix_length] at hi
  rw [nth_set (by rw [mix_length]; exact h), mix, mix, nth_map_range hi, nth_map_range hi]
  by_cases e : k = i
  · subst e; rw [if_pos (by omega), if_pos rfl]
  · rw [if_neg e]
    by_cases e2 : i < k
    · rw [if_pos e2, if_pos (by omega)]
    · rw [if_neg e2, if_neg (by omega)]
theorem mix_same {xs ys : List Int} {k : Nat} (_h : k < xs.length) (e : nth ys k = nth xs k) : mix xs ys (k + 1) = mix xs ys k := ext_nth (by simp [mix_length]) fun i hi => by
  rw [mix_length] at hi
  rw [mix, mix, nth_map_range hi, nth_map_range hi]
  by_cases e2 : k = i
  · subst e2; rw [if_pos (by omega), if_neg (by omega), e]
  · by_cases e3 : i < k
    · rw [if_pos e3, if_pos (by omega)]
    · rw [if_neg e3, if_neg (by omega)]
theorem look_end {ps ws l : List Int} {k x : Nat} (he : endB ps x = true) (hx : x < ps.length) : (ownW ps ws l x == nth (worthL ps ws l k) x) = true := by
  cases k with
  | zero => rw [nth_worth0 hx]; simp
  | succ k => rw [nth_worthS hx, stepA, if_pos he]; simp
theorem take_all0 (ps ws l : List Int) (k : Nat) (h : k < ps.length) : (worthL ps ws l 0).take (k + 1) = (worthL ps ws l 0).take k ++ [nth (sums ps ws) k * nth l k] := by
  rw [take_succ_nth (by rw [worthL_length]; exact h), nth_worth0 h]; rfl
/-- Sums, no numbers and no bools, just made, apart from each other. -/
def ThreeL (u wc : World) (n : Nat) (ps ws : List Int) (v6 v7 v8 : Value) : Prop :=
  KeepR u wc ∧ ∃ (a6 : Option Addr) (c6 g7 g8 : Nat), v6 = .slice a6 n c6 ∧ v7 = .slice (some ⟨g7, 0, none⟩) 0 0 ∧ v8 = .slice (some ⟨g8, 0, none⟩) 0 0 ∧ Ints wc a6 n (sums ps ws) ∧ Own wc u.heap.size v7 [] ∧ Bo.Own wc u.heap.size v8 [] ∧ g7 ≠ g8 ∧ Apart a6 v7
theorem threeL_mk {u wc : World} {n : Nat} {ps ws : List Int} {v6 : Value} {b6 b7 b8 g7 g8 : Nat} (hk : KeepR u wc) (hs : (sums ps ws).length = n) (h6 : Own wc b6 v6 (sums ps ws)) (h7 : Own wc b7 (.slice (some ⟨g7, 0, none⟩) 0 0) []) (h8 : Bo.Own wc b8 (.slice (some ⟨g8, 0, none⟩) 0 0) []) (hb7 : u.heap.size ≤ b7) (hb8 : u.heap.size ≤ b8) (hne : g7 ≠ g8)
    (s6 : ∀ g, v6.ownBlock = some g → g ≠ g7) : ThreeL u wc n ps ws v6 (.slice (some ⟨g7, 0, none⟩) 0 0) (.slice (some ⟨g8, 0, none⟩) 0 0) := by
  obtain ⟨a6, c6, rfl⟩ := h6.shape
  rw [hs] at h6 s6 ⊢
  exact ⟨hk, a6, c6, g7, g8, rfl, rfl, rfl, h6.ints, h7.mono hb7, h8.mono hb8, hne, fun p hp e => by subst hp; simp [Value.ownBlock] at e; exact s6 _ rfl e.symm⟩
set_option maxRecDepth 100000 in
set_option maxHeartbeats 4000000 in
theorem spec_LookAhead (aP : Option Addr) (nP cP : Nat) (aW : Option Addr) (nW cW : Nat) (ps ws : List Int) (aL : Option Addr) (nL cL : Nat) (l : List Int) (k : Int) (w : World) (h : Tre w aP nP cP aW nW cW ps ws) (hL : Ints w aL nL l) (_hLc : aL = none → cL = 0) (hn : nL ≤ 1048576) :
    Calls Tryz.prog 62 #[.agg #[.slice aP nP cP, .slice aW nW cW], .slice aL nL cL, .int .i64 k] w fun e w' => ∃ v, e = .returned (.tuple #[v, .bool (lookOk ps ws l k)]) ∧ Own w' w.heap.size v (lookV ps ws l k) ∧ Below w.heap.size w w' := by
  have hl := h.p.1
  have hlw := h.w.1
  have hpn := h.pn
  have hwn := h.wn
  have hb1 := below_new w (.cells #[.slice aP nP cP, .slice aW nW cW] 26)
  have hP1 := Lib.hid (Pair.new w (.slice aP nP cP) (.slice aW nW cW) 26)
  have H := Lib.hid h
  have Hl := Lib.hid hl
  have Hlw := Lib.hid hlw
  clear h hl hlw
  have HL := Lib.hid hL
  have hll := Lib.hid hL.1
  clear hL
  have hlt2 := hP1.out.lt
  go_enter Tryz.func62, Tryz.ntmps62
  have c0 := hP1.out.c0
  have c1 := hP1.out.c1
  go_wp2_with fail
  try generalize (w.alloc (.cells #[.slice aP nP cP, .slice aW nW cW] 26)) = w2 at *
  refine (spec_l4Pays _ _ _ _ _ _ ps ws _ _ _ l _ (H.out.below hb1) (HL.out.below hb1) hn).mono ?_
  rintro e w3 ⟨rfl, hb3⟩
  have hP3 := hP1.out.below hb3
  have d0 := hP3.c0
  have d1 := hP3.c1
  have HP3 := Lib.hid hP3
  have hb13 := hb1.trans (hb3.mono hb1.size)
  clear hP3 hb3
  try clear c0 c1
  cases hT : paysB ps ws l
  · have Hno := Lib.hid hT
    clear hT
    go_wp2_with fail
    go_ret2
    exact ⟨_, by rw [look_no1 Hno.out]; rfl, by rw [lookV_no (look_no1 Hno.out)]; exact (own_nil0 w3).mono hb13.size, hb13.trans ((below_new w3 _).mono hb13.size)⟩
  have Hpays := Lib.hid hT
  have hpt := paysB_t hT
  have hTr := hpt.1
  have hn24 := hTr.n24
  have hn1 := hTr.n1
  have hnL : nP = nL := by have := hll.out; have := hpt.2.2.2.1; have := Hl.out; omega
  have hnW : nP = nW := by have := Hlw.out; have := hTr.wl; have := Hl.out; omega
  have hnP : 1 ≤ nP ∧ nP ≤ 24 := by have := Hl.out; omega
  have Hpp := Lib.hid hpt.2.2.2.2
  have HTr := Lib.hid hTr
  have HnW := Lib.hid hnW
  have hnW2 : nP ≤ nW := by omega
  clear hT hpt hn24 hn1 hTr hpn hwn hnW
  subst hnL
  cases hk : inB k 0 24
  · have Hno := Lib.hid (look_no2 (ps := ps) (ws := ws) (l := l) hk)
    have Hk := Lib.hid hk
    clear hk
    go_wp2_with (go_at_call 110; refine (spec_l1In _ _ _ _).mono ?_; rintro e w' ⟨rfl, rfl⟩; rw [Hk.out])
    go_ret2
    exact ⟨_, by rw [Hno.out]; rfl, by rw [lookV_no Hno.out]; exact (own_nil0 w3).mono hb13.size, hb13.trans ((below_new w3 _).mono hb13.size)⟩
  have Hok := Lib.hid (look_yes Hpays.out hk)
  have hkb := inB_t hk
  have Hk := Lib.hid hk
  obtain ⟨K, rfl⟩ : ∃ K : Nat, k = K := ⟨k.toNat, by omega⟩
  clear hk
  have Hsl : Hid ((sums ps ws).length = nP) := Lib.hid (by rw [sums_length HTr.out]; exact Hl.out)
  go_wp2_with (go_at_call 110; refine (spec_l1In _ _ _ _).mono ?_; rintro e w' ⟨rfl, rfl⟩; rw [Hk.out])
  refine (spec_l2Sums _ _ _ _ _ _ ps ws _ (H.out.below hb13) HTr.out).mono ?_
  rintro e w6 ⟨v6, rfl, o6, b6⟩
  obtain ⟨a6, c6, rfl⟩ := o6.shape
  rw [Hsl.out] at o6 ⊢
  have hbx : Below w6.heap.size w6 ((w6.alloc (.cells #[] 3)).alloc (.cells #[] 4)) := (below_new w6 _).alloc (by simp) _
  have hb16 := hb13.trans (b6.mono hb13.size)
  have hb14 := hb16.trans (hbx.mono hb16.size)
  have HP4 := Lib.hid ((HP3.out.below b6).below hbx)
  have hW3 : w.heap.size < w3.heap.size := HP3.out.lt
  have hs6 := b6.size
  have G6 := Lib.hid (o6.ints.below hbx)
  have O7 := Lib.hid (((own_nil0 w6).below (below_new _ (.cells #[] 4))).mono (base' := w3.heap.size) hs6)
  have z1 : Bo.Own ((w6.alloc (.cells #[] 3)).alloc (.cells #[] 4)) w3.heap.size (.slice (some ⟨w6.heap.size + 1, 0, none⟩) 0 0) [] := by
    have := (Bo.own_nil0 (w6.alloc (.cells #[] 3))).mono (base' := w3.heap.size) (by simp; omega)
    simpa using this
  have O8 := Lib.hid z1
  have Hne0 : Hid ((Value.slice (some ⟨w6.heap.size, 0, none⟩) 0 0).ownBlock ≠ some (w6.heap.size + 1)) := Lib.hid (by simp [Value.ownBlock])
  have Hap0 : Hid (Apart a6 (.slice (some ⟨w6.heap.size, 0, none⟩) 0 0)) := Lib.hid (fun p hp e => by
    have h1 := World.ownsRow.lt o6
    subst hp
    simp [Value.ownBlock] at e
    have := (h1 p.block (by
      obtain ⟨gg, cp, he, _, _⟩ := o6.form (by rw [Hsl.out]; omega)
      have := (Value.slice.inj he).1
      cases this; rfl)).2
    omega)
  have hsz0 : w3.heap.size ≤ ((w6.alloc (.cells #[] 3)).alloc (.cells #[] 4)).heap.size := by simp; omega
  clear z1 o6 b6 hbx d0 d1 hb16
  go_wp2_with fail
  generalize hg8 : w6.heap.size + 1 = g8 at *
  clear hg8
  generalize ((w6.alloc (.cells #[] 3)).alloc (.cells #[] 4)) = wc at *
  go_loopw [9, 11] (fun v9 v11 wr => ∃ x : Nat, x ≤ nP ∧ v11 = .int .i64 (x : Int) ∧ Own wr w3.heap.size v9 ((worthL ps ws l 0).take x) ∧ Ints wr a6 nP (sums ps ws) ∧ Apart a6 v9 ∧ v9.ownBlock ≠ some g8 ∧ Bo.Own wr w3.heap.size (.slice (some ⟨g8, 0, none⟩) 0 0) [] ∧ Pair wr w.heap.size (.slice aP nP cP) (.slice aW nW cW) ∧ Below w.heap.size w wr ∧ w3.heap.size ≤ wr.heap.size) (fun _ v11 _ => nP - (intOf v11).toNat)
  case atStart => exact ⟨0, Nat.zero_le _, rfl, O7.out, G6.out, Hap0.out, Hne0.out, O8.out, HP4.out, hb14, hsz0⟩
  case round =>
    clear O7 G6 Hap0 Hne0 O8 HP4 hb14 hsz0
    obtain ⟨x, hx, rfl, hown, h6, hap, hne, h8, hP, hbel, hsz⟩ := hrel
    have HP := Lib.hid hP
    have G6 := Lib.hid h6
    have Hap := Lib.hid hap
    have Hne := Lib.hid hne
    have O8 := Lib.hid h8
    clear hP h6 hap hne h8
    by_cases hlt : (x : Int) < nP
    · obtain ⟨b6, o6, rfl, hc6⟩ := G6.out.at (i := x) (Below.refl _ _) (by omega)
      obtain ⟨bL, oL, rfl, hbLw, hcL⟩ := HL.out.at2 (i := x) hbel (by omega)
      have Hms := Lib.hid (take_all0 ps ws l x (by have := Hl.out; omega))
      have hll2 : ((worthL ps ws l 0).take x).length ≤ 24 := by rw [List.length_take, worthL_length]; have := Hl.out; omega
      have hsb := sums_bd HTr.out x
      have hlb := Hpp.out x
      have hmb := mul_abs (B := 999) (U := 480) hlb hsb (by omega)
      rw [Int.mul_comm (nth l x) (nth (sums ps ws) x)] at hmb
      generalize (worthL ps ws l 0).take x = nk at *
      generalize nth (sums ps ws) x = u at *
      generalize nth l x = p at *
      have k1 : IntKind.i64.wrap (u * p) = u * p := IntWalk.i64_in _ (by omega)
      have k2 : (0 : Int) ≤ (x : Int) := by omega
      have HA0 : Hid (∀ o, Below w3.heap.size wr (wr.alloc o).drew) := Lib.hid fun o => ((Below.refl _ _).alloc hsz o).drew
      have HA0' : Hid (∀ o, Below wr.heap.size wr (wr.alloc o).drew) := Lib.hid fun o => (below_new wr o).drew
      clear hsb hlb hmb
      go_wp2_with fail
      go_region_held3 (fun W' => Below w3.heap.size wr W' ∧ W'.cell? ⟨b6, o6 + x, none⟩ = some (.int .i64 u) ∧ W'.cell? ⟨bL, oL + x, none⟩ = some (.int .i64 p))
        (first | assumption | exact ⟨(Below.refl _ _).drew, hc6, hcL⟩ | exact ⟨HA0.out _, cell_up (HA0'.out _) hc6, cell_up (HA0'.out _) hcL⟩)
        (first
          | (refine step_push2 (u := u * p) rfl _ _ rfl w3.heap.size _ _ (by rfl) hown (by rfl) (by omega) hsz ?_; intro v' w' ho hb hm
             have x6 := hm.cell hc6 (Hap.out ⟨b6, o6, none⟩ rfl)
             have xL := hm.cell hcL (fun e => by have h1 := (World.ownsRow.lt hown _ e).1; simp at h1; omega)
             have hSS : Below w3.heap.size wr w' ∧ w'.cell? ⟨b6, o6 + x, none⟩ = some (.int .i64 u) ∧ w'.cell? ⟨bL, oL + x, none⟩ = some (.int .i64 p) := ⟨hb, x6, xL⟩))
      go_wp2_with fail
      have hg6 := G6.out.moved hm (fun _ => Hap.out)
      have hg8 := O8.out.moved hm (fun g hg e => Hne.out ((show g8 = g by simpa [Value.ownBlock] using hg) ▸ e))
      have hg8l : g8 < wr.heap.size := O8.out.lt.2
      go_roundw
      case rel => exact ⟨x + 1, by omega, by go_num, by rw [Hms.out]; exact ho, hg6.1, hg6.2 (by omega), (hm.2 g8 hg8l Hne.out).1, hg8, HP.out.up hb (by omega), hbel.trans (hb.mono (by omega)), Nat.le_trans hsz hb.size⟩
      case measure => simp [intOf]; omega
    · obtain rfl : x = nP := by omega
      have hfin : (worthL ps ws l 0).take x = worthL ps ws l 0 := List.take_of_length_le (by rw [worthL_length]; have := Hl.out; omega)
      rw [hfin] at hown
      obtain ⟨a9, c9, rfl⟩ := hown.shape
      have hwl : (worthL ps ws l 0).length = x := by rw [worthL_length]; exact Hl.out
      rw [hwl] at hown ⊢
      have G9 := Lib.hid hown.ints
      have hcap9 := hown.cap.2.1
      have HapN0 : Hid (Apart a9 (.slice (some ⟨g8, 0, none⟩) 0 0)) := Lib.hid (fun p hp e => Hne.out (by subst hp; simp [Value.ownBlock] at e; obtain ⟨gg, cp, he, _, _⟩ := hown.form (by rw [worthL_length]; have := Hl.out; omega); have := (Value.slice.inj he).1; cases this; simp [Value.ownBlock]; exact e.symm))
      clear hfin hown hlt hwl Hap Hne G6
      go_wp2_with fail
      refine (spec_l1Own _ _ _ (worthL ps ws l 0) _ (by omega) hcap9 G9.out).mono ?_
      rintro e wO ⟨vO, rfl, oO, bO⟩
      obtain ⟨aO, cO, rfl⟩ := oO.shape
      have hwl : (worthL ps ws l 0).length = x := by rw [worthL_length]; exact Hl.out
      rw [hwl] at oO ⊢
      have hbelO := hbel.trans (bO.mono hbel.size)
      have HPO := Lib.hid (HP.out.below bO)
      have G9O := Lib.hid (G9.out.below bO)
      have O8O := Lib.hid (O8.out.below bO)
      have GO := Lib.hid oO.ints
      have hcapO := oO.cap.2.1
      have hszO : w3.heap.size ≤ wO.heap.size := Nat.le_trans hsz bO.size
      have HapN := HapN0
      have hg8O : g8 < wr.heap.size := O8.out.lt.2
      have HapO : Hid (Apart aO (.slice (some ⟨g8, 0, none⟩) 0 0)) := Lib.hid (fun p hp e => by subst hp; simp [Value.ownBlock] at e; obtain ⟨gg, cp, he, h1, _⟩ := oO.form (by rw [worthL_length]; have := Hl.out; omega); have := (Value.slice.inj he).1; cases this; simp at e; omega)
      clear oO bO hwl HP G9 O8 hbel hsz
      go_wp2_with fail
      go_loopw [9, 13] (fun v9 v13 wr => ∃ j : Nat, j ≤ K ∧ v13 = .int .i64 (j : Int) ∧ ∃ (a9 : Option Addr) (c9 : Nat), v9 = .slice a9 x c9 ∧ Ints wr a9 x (worthL ps ws l j) ∧ Apart a9 (.slice (some ⟨g8, 0, none⟩) 0 0) ∧ Ints wr aO x (worthL ps ws l 0) ∧ Bo.Own wr w3.heap.size (.slice (some ⟨g8, 0, none⟩) 0 0) [] ∧ Pair wr w.heap.size (.slice aP x cP) (.slice aW nW cW) ∧ Below w.heap.size w wr ∧ w3.heap.size ≤ wr.heap.size) (fun _ v13 _ => K - (intOf v13).toNat)
      case atStart => exact ⟨0, Nat.zero_le _, rfl, a9, c9, rfl, G9O.out, HapN.out, GO.out, O8O.out, HPO.out, hbelO, hszO⟩
      case round =>
        clear G9O GO O8O HPO hbelO hszO
        obtain ⟨j, hj, rfl, a9, c9, rfl, h9, hap9, hO, h8, hP, hbel, hsz⟩ := hrel
        have Hap9 := Lib.hid hap9
        clear hap9
        have hg8o : g8 < wr.heap.size := h8.lt.2
        have c0 := hP.c0
        have c1 := hP.c1
        have HP := Lib.hid hP
        have G9 := Lib.hid h9
        have GO := Lib.hid hO
        have O8 := Lib.hid h8
        clear hP h9 hO h8
        obtain ⟨wo, hwo⟩ : ∃ wo : World, wo = wr := ⟨_, rfl⟩
        rw [← hwo] at c0 c1 HP G9 GO O8 hbel hsz hg8o ⊢
        clear hwo wr
        by_cases hltj : (j : Int) < K
        · go_wp2_with fail
          refine (spec_l1Own _ _ _ (worthL ps ws l 0) _ (by omega) hcapO GO.out).mono ?_
          rintro e wN ⟨vN, rfl, oN, bN⟩
          have hwl : (worthL ps ws l 0).length = x := by rw [worthL_length]; exact Hl.out
          obtain ⟨gN, cN, rfl, hgN, hgN2⟩ := oN.form (by rw [hwl]; omega)
          rw [hwl] at oN ⊢
          have ON := Lib.hid oN
          have HbN := Lib.hid bN
          clear oN bN c0 c1
          go_wp2_with fail
          go_loopw [15] (fun v15 wi => ∃ y : Nat, y ≤ x ∧ v15 = .int .i64 (y : Int) ∧ Own wi wo.heap.size (.slice (some ⟨gN, 0, none⟩) x cN) (mix (worthL ps ws l 0) (worthL ps ws l (j + 1)) y) ∧ Below wo.heap.size wo wi) (fun v15 _ => x - (intOf v15).toNat)
          case atStart => exact ⟨0, Nat.zero_le _, rfl, by rw [mix_zero]; exact ON.out, HbN.out⟩
          case round =>
            clear ON HbN
            obtain ⟨y, hy, rfl, hown, hbi⟩ := hrel
            have hbw := hbel.trans (hbi.mono hbel.size)
            have HPi := Lib.hid (HP.out.below hbi)
            have c0 := HPi.out.c0
            have c1 := HPi.out.c1
            by_cases hlty : (y : Int) < x
            · obtain ⟨bW, oW, rfl, hbWw, hcW⟩ := H.out.w.at2 (i := y) hbw (by omega)
              have hwz := w_zero HTr.out (x := y) (by have := Hl.out; omega)
              have hml : (mix (worthL ps ws l 0) (worthL ps ws l (j + 1)) y).length = x := by rw [mix_length, worthL_length]; exact Hl.out
              have hyl : y < (worthL ps ws l 0).length := by rw [worthL_length]; have := Hl.out; omega
              have hstep : nth (worthL ps ws l (j + 1)) y = stepA ps ws l (worthL ps ws l j) y := nth_worthS (by have := Hl.out; omega)
              have hw0 : nth (worthL ps ws l 0) y = ownW ps ws l y := nth_worth0 (by have := Hl.out; omega)
              cases he : endB ps y
              · rw [he] at hwz
                have hwz2 : (nth ws y == 0) = true := hwz
                have hcO := hown.cell (i := y) (by omega)
                have hfO := hown.free hml.symm y
                rw [nth_mix hyl] at hcO
                have hv : nth (worthL ps ws l (j + 1)) y = max (nth (worthL ps ws l 0) y) (kidSum ps (fun z => nth (worthL ps ws l j) z) y ps.length) := by rw [hstep, hw0, stepA, he]; rfl
                have Hsucc := Lib.hid (mix_succ (ys := worthL ps ws l (j + 1)) hyl)
                have Hv := Lib.hid hv
                have Hml := Lib.hid hml
                have Hown := Lib.hid hown
                have Hcall : Hid (∀ W : World, Below w.heap.size w W → Ints W a9 x (worthL ps ws l j) → Calls Tryz.prog 106 #[.agg #[.slice aP x cP, .slice (some ⟨bW, oW, none⟩) nW cW], .slice a9 x c9, .int .i64 (y : Int)] W fun e w' => e = .returned (.int .i64 (kidSum ps (fun z => nth (worthL ps ws l j) z) y ps.length)) ∧ Below W.heap.size W w') := Lib.hid fun W hW hI => by
                  have := spec_l4Kids _ _ _ _ _ _ ps ws a9 x c9 (worthL ps ws l j) y 1000000000 W (H.out.below hW) HTr.out.toPa hI (Nat.le_refl _) (by omega) (fun i => by have := worth_abs HTr.out Hpp.out j i; omega) (by omega)
                  rw [Int.toNat_natCast] at this
                  exact this
                clear hwz he hv hstep hw0 hml hown
                generalize kidSum ps (fun z => nth (worthL ps ws l j) z) y ps.length = kv at *
                generalize hov : nth (worthL ps ws l 0) y = ov at *
                have Hov := Lib.hid hov
                clear hov
                generalize nth ws y = uv at *
                have k2 : (0 : Int) ≤ (y : Int) := by omega
                go_wp2_with fail
                refine wp_region_noPanic ?_
                refine wp_region_held_drew (S := (fun W' => Below wo.heap.size wo W' ∧ W'.cell? ⟨w.heap.size, 0, none⟩ = some (.slice aP x cP) ∧ W'.cell? ⟨w.heap.size, 1, none⟩ = some (.slice (some ⟨bW, oW, none⟩) nW cW))) (by kernel_rfl) ?_ (fun hHeld0 => ?_)
                · (try dsimp only); first | assumption | exact bk2_start hbi c0 c1 | exact bk2_set hgN (by simp; omega) (by simp; omega) (by assumption)
                refine takeH (i := 0) (oi := _) (v := ?_) rfl (by kernel_rfl) (by kernel_rfl) (by kernel_rfl) (fun _ _ _ h => h) (Or.inl ⟨by rfl, ?_⟩) (by assumption) ?_
                rotate_left
                · first | (intro w hSw; (try dsimp only at hSw); go_simp; done) | (intro w hSw; (try dsimp only at hSw); go_simp; with_reducible rfl)
                (try simp only [Act.put, List.setIfInBounds_toArray, List.set_cons_zero, List.set_cons_succ])
                refine takeH (i := 1) (oi := _) (v := ?_) rfl (by kernel_rfl) (by kernel_rfl) (by kernel_rfl) (fun _ _ _ h => h) (Or.inl ⟨by rfl, ?_⟩) (by assumption) ?_
                rotate_left
                · first | (intro w hSw; (try dsimp only at hSw); go_simp; done) | (intro w hSw; (try dsimp only at hSw); go_simp; with_reducible rfl)
                (try simp only [Act.put, List.setIfInBounds_toArray, List.set_cons_zero, List.set_cons_succ])
                refine takeH (i := 2) (oi := _) (v := ?_) rfl (by kernel_rfl) (by kernel_rfl) (by kernel_rfl) (fun _ _ _ h => h) (Or.inl ⟨by rfl, ?_⟩) (by assumption) ?_
                rotate_left
                · first | (intro w hSw; (try dsimp only at hSw); go_simp; done) | (intro w hSw; (try dsimp only at hSw); go_simp; with_reducible rfl)
                (try simp only [Act.put, List.setIfInBounds_toArray, List.set_cons_zero, List.set_cons_succ])
                refine takeH (i := 3) (oi := _) (v := ?_) rfl (by kernel_rfl) (by kernel_rfl) (by kernel_rfl) (fun _ _ _ h => h) (Or.inl ⟨by rfl, ?_⟩) (by assumption) ?_
                rotate_left
                · first | (intro w hSw; (try dsimp only at hSw); go_simp; done) | (intro w hSw; (try dsimp only at hSw); go_simp; with_reducible rfl)
                (try simp only [Act.put, List.setIfInBounds_toArray, List.set_cons_zero, List.set_cons_succ])
                refine takeH (i := 4) (oi := _) (v := ?_) rfl (by kernel_rfl) (by kernel_rfl) (by kernel_rfl) (fun _ _ _ h => h) (Or.inl ⟨by rfl, ?_⟩) (by assumption) ?_
                rotate_left
                · first | (intro w hSw; (try dsimp only at hSw); go_simp; done) | (intro w hSw; (try dsimp only at hSw); go_simp; with_reducible rfl)
                (try simp only [Act.put, List.setIfInBounds_toArray, List.set_cons_zero, List.set_cons_succ])
                refine takeH (i := 6) (oi := _) (v := ?_) rfl (by kernel_rfl) (by kernel_rfl) (by kernel_rfl) (fun _ _ _ h => h) (Or.inl ⟨by rfl, ?_⟩) (by assumption) ?_
                rotate_left
                · first | (intro w hSw; (try dsimp only at hSw); go_simp; done) | (intro w hSw; (try dsimp only at hSw); go_simp; with_reducible rfl)
                (try simp only [Act.put, List.setIfInBounds_toArray, List.set_cons_zero, List.set_cons_succ])
                refine takeH (i := 7) (oi := _) (v := ?_) rfl (by kernel_rfl) (by kernel_rfl) (by kernel_rfl) (fun _ _ _ h => h) (Or.inl ⟨by rfl, ?_⟩) (by assumption) ?_
                rotate_left
                · first | (intro w hSw; (try dsimp only at hSw); go_simp; done) | (intro w hSw; (try dsimp only at hSw); go_simp; with_reducible rfl)
                (try simp only [Act.put, List.setIfInBounds_toArray, List.set_cons_zero, List.set_cons_succ])
                refine takeH (i := 8) (oi := _) (v := ?_) rfl (by kernel_rfl) (by kernel_rfl) (by kernel_rfl) (fun _ _ _ h => h) (Or.inl ⟨by rfl, ?_⟩) (by assumption) ?_
                rotate_left
                · first | (intro w hSw; (try dsimp only at hSw); go_simp; done) | (intro w hSw; (try dsimp only at hSw); go_simp; with_reducible rfl)
                (try simp only [Act.put, List.setIfInBounds_toArray, List.set_cons_zero, List.set_cons_succ])
                refine wpAnyH_ready (rs := [5, 9]) (by kernel_rfl) (by simp) ?_
                refine consM rfl (fun Kq hKq => ?_) (consH rfl (fun Kq hKq => ?_))
                · go_simp
                  refine hKq.out _ _ ?_ (fun hHeld1 => ?_)
                  · (try dsimp only); first | assumption | exact bk2_start hbi c0 c1 | exact bk2_set hgN (by simp; omega) (by simp; omega) (by assumption)
                  clear hKq Kq
                  (try simp only [Act.put, List.setIfInBounds_toArray, List.set_cons_zero, List.set_cons_succ])
                  clear hHeld0
                  refine wpAnyH_ready (rs := [9]) (by kernel_rfl) (by simp) ?_
                  refine consH rfl (fun Kq hKq => ?_)
                  go_simp
                  (first
                      | (go_at_call 106; refine (Hcall.out _ (hbel.trans (Below.mono (by assumption : Below wo.heap.size wo _ ∧ _).1 hbel.size)) (G9.out.below (by assumption : Below wo.heap.size wo _ ∧ _).1)).mono ?_; rintro e w7 ⟨rfl, hb7⟩
                         have hk7 := bk2_next hb7 (by assumption : Below wo.heap.size wo _ ∧ _ ∧ _)
                         have hO7 := (Hown.out.below (Below.refl _ _).drew).below hb7
                         have xO7 := hO7.cell (i := y) (by rw [Hml.out]; omega)
                         rw [nth_mix hyl, Hov.out] at xO7
                         have xF7 := hO7.free Hml.out.symm y)
                      | (go_at_call 119; refine (spec_l1Most _ _ _).mono ?_; rintro e w' ⟨rfl, rfl⟩))
                  refine hKq.out _ _ ?_ (fun hHeld2 => ?_)
                  · (try dsimp only); first | assumption | exact bk2_start hbi c0 c1 | exact bk2_set hgN (by simp; omega) (by simp; omega) (by assumption)
                  clear hKq Kq
                  (try simp only [Act.put, List.setIfInBounds_toArray, List.set_cons_zero, List.set_cons_succ])
                  clear hHeld1
                  refine wpAnyH_ready (rs := [10]) (by kernel_rfl) (by simp) ?_
                  refine consH rfl (fun Kq hKq => ?_)
                  go_simp
                  (first
                      | (go_at_call 106; refine (Hcall.out _ (hbel.trans (Below.mono (by assumption : Below wo.heap.size wo _ ∧ _).1 hbel.size)) (G9.out.below (by assumption : Below wo.heap.size wo _ ∧ _).1)).mono ?_; rintro e w7 ⟨rfl, hb7⟩
                         have hk7 := bk2_next hb7 (by assumption : Below wo.heap.size wo _ ∧ _ ∧ _)
                         have hO7 := (Hown.out.below (Below.refl _ _).drew).below hb7
                         have xO7 := hO7.cell (i := y) (by rw [Hml.out]; omega)
                         rw [nth_mix hyl, Hov.out] at xO7
                         have xF7 := hO7.free Hml.out.symm y)
                      | (go_at_call 119; refine (spec_l1Most _ _ _).mono ?_; rintro e w' ⟨rfl, rfl⟩))
                  refine hKq.out _ _ ?_ (fun hHeld3 => ?_)
                  · (try dsimp only); first | assumption | exact bk2_start hbi c0 c1 | exact bk2_set hgN (by simp; omega) (by simp; omega) (by assumption)
                  clear hKq Kq
                  (try simp only [Act.put, List.setIfInBounds_toArray, List.set_cons_zero, List.set_cons_succ])
                  clear hHeld2
                  refine takeH (i := 11) (oi := _) (v := ?_) rfl (by kernel_rfl) (by kernel_rfl) (by kernel_rfl) (fun _ _ _ h => h) (Or.inl ⟨by rfl, ?_⟩) (by assumption) ?_
                  rotate_left
                  · first | (intro w hSw; (try dsimp only at hSw); go_simp; done) | (intro w hSw; (try dsimp only at hSw); go_simp; with_reducible rfl)
                  (try simp only [Act.put, List.setIfInBounds_toArray, List.set_cons_zero, List.set_cons_succ])
                  refine wpAnyH_ready (rs := [12]) (by kernel_rfl) (by simp) ?_
                  refine consH rfl (fun Kq hKq => ?_)
                  go_simp
                  refine hKq.out _ _ ?_ (fun hHeld4 => ?_)
                  · (try dsimp only); first | assumption | exact bk2_start hbi c0 c1 | exact bk2_set hgN (by simp; omega) (by simp; omega) (by assumption)
                  clear hKq Kq
                  (try simp only [Act.put, List.setIfInBounds_toArray, List.set_cons_zero, List.set_cons_succ])
                  clear hHeld3
                  refine wpAnyH_done (by kernel_rfl) ?_ _
                  refine NoPanic.normal ?_
                  go_wp2_with fail
                  have hset8 := Own.set (w := w7) hO7 Hml.out.symm y (most ov kv)
                  have hmx : most ov kv = nth (worthL ps ws l (j + 1)) y := by rw [most_eq, Hv.out]
                  rw [hmx, ← Hsucc.out] at hset8
                  go_roundw
                  case rel => rw [hmx]; exact ⟨y + 1, by omega, by go_num, hset8, (show Below wo.heap.size wo w7 from hk7.1).setCell (show wo.heap.size ≤ gN from hgN) _⟩
                  case measure => simp [intOf]; omega
                · go_simp
                  (first
                      | (go_at_call 106; refine (Hcall.out _ (hbel.trans (Below.mono (by assumption : Below wo.heap.size wo _ ∧ _).1 hbel.size)) (G9.out.below (by assumption : Below wo.heap.size wo _ ∧ _).1)).mono ?_; rintro e w7 ⟨rfl, hb7⟩
                         have hk7 := bk2_next hb7 (by assumption : Below wo.heap.size wo _ ∧ _ ∧ _)
                         have hO7 := (Hown.out.below (Below.refl _ _).drew).below hb7
                         have xO7 := hO7.cell (i := y) (by rw [Hml.out]; omega)
                         rw [nth_mix hyl, Hov.out] at xO7
                         have xF7 := hO7.free Hml.out.symm y)
                      | (go_at_call 119; refine (spec_l1Most _ _ _).mono ?_; rintro e w' ⟨rfl, rfl⟩))
                  refine hKq.out _ _ ?_ (fun hHeld1 => ?_)
                  · (try dsimp only); first | assumption | exact bk2_start hbi c0 c1 | exact bk2_set hgN (by simp; omega) (by simp; omega) (by assumption)
                  clear hKq Kq
                  (try simp only [Act.put, List.setIfInBounds_toArray, List.set_cons_zero, List.set_cons_succ])
                  clear hHeld0
                  refine wpAnyH_ready (rs := [5]) (by kernel_rfl) (by simp) ?_
                  refine consH rfl (fun Kq hKq => ?_)
                  go_simp
                  refine hKq.out _ _ ?_ (fun hHeld2 => ?_)
                  · (try dsimp only); first | assumption | exact bk2_start hbi c0 c1 | exact bk2_set hgN (by simp; omega) (by simp; omega) (by assumption)
                  clear hKq Kq
                  (try simp only [Act.put, List.setIfInBounds_toArray, List.set_cons_zero, List.set_cons_succ])
                  clear hHeld1
                  refine wpAnyH_ready (rs := [10]) (by kernel_rfl) (by simp) ?_
                  refine consH rfl (fun Kq hKq => ?_)
                  go_simp
                  (first
                      | (go_at_call 106; refine (Hcall.out _ (hbel.trans (Below.mono (by assumption : Below wo.heap.size wo _ ∧ _).1 hbel.size)) (G9.out.below (by assumption : Below wo.heap.size wo _ ∧ _).1)).mono ?_; rintro e w7 ⟨rfl, hb7⟩
                         have hk7 := bk2_next hb7 (by assumption : Below wo.heap.size wo _ ∧ _ ∧ _)
                         have hO7 := (Hown.out.below (Below.refl _ _).drew).below hb7
                         have xO7 := hO7.cell (i := y) (by rw [Hml.out]; omega)
                         rw [nth_mix hyl, Hov.out] at xO7
                         have xF7 := hO7.free Hml.out.symm y)
                      | (go_at_call 119; refine (spec_l1Most _ _ _).mono ?_; rintro e w' ⟨rfl, rfl⟩))
                  refine hKq.out _ _ ?_ (fun hHeld3 => ?_)
                  · (try dsimp only); first | assumption | exact bk2_start hbi c0 c1 | exact bk2_set hgN (by simp; omega) (by simp; omega) (by assumption)
                  clear hKq Kq
                  (try simp only [Act.put, List.setIfInBounds_toArray, List.set_cons_zero, List.set_cons_succ])
                  clear hHeld2
                  refine takeH (i := 11) (oi := _) (v := ?_) rfl (by kernel_rfl) (by kernel_rfl) (by kernel_rfl) (fun _ _ _ h => h) (Or.inl ⟨by rfl, ?_⟩) (by assumption) ?_
                  rotate_left
                  · first | (intro w hSw; (try dsimp only at hSw); go_simp; done) | (intro w hSw; (try dsimp only at hSw); go_simp; with_reducible rfl)
                  (try simp only [Act.put, List.setIfInBounds_toArray, List.set_cons_zero, List.set_cons_succ])
                  refine wpAnyH_ready (rs := [12]) (by kernel_rfl) (by simp) ?_
                  refine consH rfl (fun Kq hKq => ?_)
                  go_simp
                  refine hKq.out _ _ ?_ (fun hHeld4 => ?_)
                  · (try dsimp only); first | assumption | exact bk2_start hbi c0 c1 | exact bk2_set hgN (by simp; omega) (by simp; omega) (by assumption)
                  clear hKq Kq
                  (try simp only [Act.put, List.setIfInBounds_toArray, List.set_cons_zero, List.set_cons_succ])
                  clear hHeld3
                  refine wpAnyH_done (by kernel_rfl) ?_ _
                  refine NoPanic.normal ?_
                  go_wp2_with fail
                  have hset8 := Own.set (w := w7) hO7 Hml.out.symm y (most ov kv)
                  have hmx : most ov kv = nth (worthL ps ws l (j + 1)) y := by rw [most_eq, Hv.out]
                  rw [hmx, ← Hsucc.out] at hset8
                  go_roundw
                  case rel => rw [hmx]; exact ⟨y + 1, by omega, by go_num, hset8, (show Below wo.heap.size wo w7 from hk7.1).setCell (show wo.heap.size ≤ gN from hgN) _⟩
                  case measure => simp [intOf]; omega
              · rw [he] at hwz
                have hwz2 : (nth ws y == 0) = false := hwz
                have Hsame := Lib.hid (mix_same (ys := worthL ps ws l (j + 1)) hyl (by rw [hstep, hw0, stepA, if_pos he]))
                clear hwz he hstep hw0
                generalize nth ws y = uv at *
                go_wp2_with fail
                go_roundw
                case rel => exact ⟨y + 1, by omega, by go_num, by rw [Hsame.out]; exact hown, hbi⟩
                case measure => simp [intOf]; omega
            · obtain rfl : y = x := by omega
              have hma : mix (worthL ps ws l 0) (worthL ps ws l (j + 1)) y = worthL ps ws l (j + 1) := by
                have := mix_all (xs := worthL ps ws l 0) (ys := worthL ps ws l (j + 1)) (by rw [worthL_length, worthL_length])
                rwa [worthL_length, Hl.out] at this
              rw [hma] at hown
              have HI := Lib.hid hown.ints
              clear hown hma
              have hszi : w3.heap.size ≤ wr.heap.size := Nat.le_trans hsz hbi.size
              go_wp2_with fail
              go_roundw
              case rel => exact ⟨j + 1, by omega, by go_num, _, _, rfl, HI.out, (fun p hp e => by cases hp; simp [Value.ownBlock] at e; omega), GO.out.below hbi, O8.out.below hbi, HPi.out, hbw, hszi⟩
              case measure => simp [intOf]; omega
        · obtain rfl : j = K := by omega
          have HAP1 : 0 < x → Apart a9 (.slice (some ⟨g8, 0, none⟩) 0 0) := fun _ => Hap9.out
          have HAP2 : 0 < x → Apart aO (.slice (some ⟨g8, 0, none⟩) 0 0) := fun _ => HapO.out
          have HAP1 := HAP1
          have HPz := HP
          go_wp2_with fail
          clear HP hltj c0 c1
          go_loopw [10, 16] (fun v10 v16 wr => ∃ y : Nat, y ≤ x ∧ v16 = .int .i64 (y : Int) ∧ Bo.Own wr w3.heap.size v10 ((List.range y).map (lookB ps ws l j)) ∧ Ints wr a9 x (worthL ps ws l j) ∧ Ints wr aO x (worthL ps ws l 0) ∧ (0 < x → Apart a9 v10) ∧ (0 < x → Apart aO v10) ∧ Pair wr w.heap.size (.slice aP x cP) (.slice aW nW cW) ∧ Below w.heap.size w wr ∧ w3.heap.size ≤ wr.heap.size) (fun _ v16 _ => x - (intOf v16).toNat)
          case atStart => exact ⟨0, Nat.zero_le _, rfl, O8.out, G9.out, GO.out, HAP1, HAP2, HPz.out, hbel, hsz⟩
          case round =>
            clear O8 G9 GO hbel hsz
            obtain ⟨y, hy, rfl, hown, h9, hO, hs9, hsO, hP, hbel, hsz⟩ := hrel
            have c0 := hP.c0
            have c1 := hP.c1
            have HP := Lib.hid hP
            have G9 := Lib.hid h9
            have GO := Lib.hid hO
            have S9 := Lib.hid hs9
            have SO := Lib.hid hsO
            clear hP h9 hO hs9 hsO
            by_cases hlty : (y : Int) < x
            · obtain ⟨b9, o9, rfl, hc9⟩ := G9.out.at (i := y) (Below.refl _ _) (by omega)
              obtain ⟨bO, oO, rfl, hcO⟩ := GO.out.at (i := y) (Below.refl _ _) (by omega)
              have Hms := Lib.hid (map_succ (lookB ps ws l j) y)
              have hlv : lookB ps ws l j y = (nth (worthL ps ws l 0) y == nth (worthL ps ws l j) y) := by rw [nth_worth0 (by have := Hl.out; omega)]; rfl
              have hll2 : ((List.range y).map (lookB ps ws l j)).length ≤ 24 := by simp; omega
              generalize (List.range y).map (lookB ps ws l j) = bsk at *
              generalize lookB ps ws l j y = bk at *
              generalize nth (worthL ps ws l 0) y = u at *
              generalize nth (worthL ps ws l j) y = r at *
              have hcm : (r == u) = bk := by rw [hlv, Bool.eq_iff_iff, beq_iff_eq, beq_iff_eq]; exact eq_comm
              have k2 : (0 : Int) ≤ (y : Int) := by omega
              have HA0 : Hid (∀ o, Below w3.heap.size wr (wr.alloc o).drew) := Lib.hid fun o => ((Below.refl _ _).alloc hsz o).drew
              have HA0' : Hid (∀ o, Below wr.heap.size wr (wr.alloc o).drew) := Lib.hid fun o => (below_new wr o).drew
              clear hlv
              go_wp2_with fail
              go_region_held3 (fun W' => Below w3.heap.size wr W' ∧ W'.cell? ⟨b9, o9 + y, none⟩ = some (.int .i64 r) ∧ W'.cell? ⟨bO, oO + y, none⟩ = some (.int .i64 u))
                (first | assumption | exact ⟨(Below.refl _ _).drew, hc9, hcO⟩ | exact ⟨HA0.out _, cell_up (HA0'.out _) hc9, cell_up (HA0'.out _) hcO⟩)
                (first
                  | (refine Bo.step_push2 (u := bk) rfl _ _ rfl w3.heap.size _ _ (by rfl) hown (by rfl) (by omega) hsz ?_; intro v' w' ho hb hm
                     have x9 := hm.cell hc9 (S9.out (by omega) ⟨b9, o9, none⟩ rfl)
                     have xO := hm.cell hcO (SO.out (by omega) ⟨bO, oO, none⟩ rfl)
                     have hSS : Below w3.heap.size wr w' ∧ w'.cell? ⟨b9, o9 + y, none⟩ = some (.int .i64 r) ∧ w'.cell? ⟨bO, oO + y, none⟩ = some (.int .i64 u) := ⟨hb, x9, xO⟩))
              go_wp2_with fail
              have hg9 := G9.out.moved hm S9.out
              have hgO := GO.out.moved hm SO.out
              go_roundw
              case rel => exact ⟨y + 1, by omega, by go_num, by rw [Hms.out]; exact ho, hg9.1, hgO.1, hg9.2, hgO.2, HP.out.up hb (by omega), hbel.trans (hb.mono (by omega)), Nat.le_trans hsz hb.size⟩
              case measure => simp [intOf]; omega
            · obtain rfl : y = x := by omega
              obtain ⟨a8, c8, rfl⟩ := hown.shape
              have hbl : ((List.range y).map (lookB ps ws l j)).length = y := by simp
              rw [hbl] at hown ⊢
              have HB := Lib.hid hown.bools
              clear hown hbl
              go_wp2_with fail
              refine (spec_l4First _ _ _ _ _ _ ps ws _ _ _ ((List.range y).map (lookB ps ws l j)) _ (H.out.below hbel) HTr.out.toPa HB.out rfl (fun z hz he => by rw [Bo.nth_map_range (by have := Hl.out; omega), lookB]; exact look_end he hz)).mono ?_
              rintro e wq ⟨vq, rfl, oq, bq⟩
              have Hf : Hid (firsts ps (bS ((List.range y).map (lookB ps ws l j))) = firsts ps (fS (lookB ps ws l j))) := Lib.hid (firB_congr HTr.out.toPa fun z hz => bS_map (by have := Hl.out; omega))
              have OQ := Lib.hid oq
              clear oq
              go_wp2_with fail
              go_ret2
              exact ⟨_, by rw [Hok.out]; rfl, by rw [lookV_yes Hok.out, Int.toNat_natCast, ← Hf.out]; exact OQ.out.mono hbel.size, hbel.trans (bq.mono hbel.size)⟩
end Go.Proofs.YtnbomleieianoaaGreat
