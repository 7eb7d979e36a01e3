/- Contracts and plain laws for the statement FnEnvelopes, part 13. No conditions but those stated in each. -/
import Derived.Test.YtnbomleieianoaaGreatBnFnEnvelopes7
import Derived.Test.YtnbomleieianoaaGreatBnFnEnvelopes11
import Derived.Test.YtnbomleieianoaaGreatBnFnEnvelopes8
import Derived.Test.YtnbomleieianoaaGreatBnFnEnvelopes12
/- Contracts: what is drawn with a tree for rules. No conditions but those stated. -/
namespace Go.Proofs.YtnbomleieianoaaGreat
open Go.RowKit

def DrTS (w : World) (base : Nat) (v : Value) : Prop := ∃ (aP : Option Addr) (nP cP : Nat) (aW : Option Addr) (nW cW : Nat) (ps ws : List Int) (u : Value), v = .tuple #[.agg #[.slice aP nP cP, .slice aW nW cW], u] ∧ DTre w base aP nP cP aW nW cW ps ws ∧ LisA w base u 40
def DrTLS (w : World) (base : Nat) (v : Value) : Prop := ∃ (aP : Option Addr) (nP cP : Nat) (aW : Option Addr) (nW cW : Nat) (ps ws : List Int) (u u2 : Value), v = .tuple #[.agg #[.slice aP nP cP, .slice aW nW cW], u, u2] ∧ DTre w base aP nP cP aW nW cW ps ws ∧ OwnA w base u 40 ∧ LisA w base u2 40
def DrTSS (w : World) (base : Nat) (v : Value) : Prop := ∃ (aP : Option Addr) (nP cP : Nat) (aW : Option Addr) (nW cW : Nat) (ps ws : List Int) (u u2 : Value), v = .tuple #[.agg #[.slice aP nP cP, .slice aW nW cW], u, u2] ∧ DTre w base aP nP cP aW nW cW ps ws ∧ LisA w base u 40 ∧ LisA w base u2 40
set_option maxRecDepth 100000 in
set_option maxHeartbeats 2000000 in
theorem spec_DrawRuleMean (a : Option Addr) (n cap : Nat) (w : World) (h : Bytes w a n) :
    Calls Tryz.prog 30 #[.slice a n cap] w fun e w' => (∃ v, e = .returned v ∧ DrTLS w' w.heap.size v) ∧ Below w.heap.size w w' := by
  have hb0 : Below w.heap.size w ((w.alloc (.cells #[.slice none 0 0, .slice none 0 0] 26)).alloc (.cells #[.slice a n cap, .int .i64 0, .int .u64 0] 69)) := (below_new w _).alloc (by simp) _
  have hc := Cur.new (cap := cap) 69 (h.below (below_new w (.cells #[.slice none 0 0, .slice none 0 0] 26)))
  have R0 := Lib.hid ((Pair.new w (.slice none 0 0) (.slice none 0 0) 26).alloc (.cells #[.slice a n cap, .int .i64 0, .int .u64 0] 69))
  have hs0 : ((w.alloc (.cells #[.slice none 0 0, .slice none 0 0] 26)).alloc (.cells #[.slice a n cap, .int .i64 0, .int .u64 0] 69)).heap.size = w.heap.size + 1 + 1 := by simp
  rw [show (w.alloc (.cells #[.slice none 0 0, .slice none 0 0] 26)).heap.size = w.heap.size + 1 by simp] at hc
  have C0 := Lib.hid (Cq.start hc)
  clear hc h
  go_enter Tryz.func30, Tryz.ntmps30
  go_wp2_with fail
  generalize ((w.alloc (.cells #[.slice none 0 0, .slice none 0 0] 26)).alloc (.cells #[.slice a n cap, .int .i64 0, .int .u64 0] 69)) = w0 at *
  have hg0 : w.heap.size + 1 < w0.heap.size := by omega
  have HB0 := Lib.hid hb0
  clear hs0 hb0
  refine (spec_tree (w.heap.size + 1) a n cap 0 _ (by omega) C0.out.cur).mono ?_
  rintro e w1 ⟨⟨v, rfl, aP, nP, cP, aW, nW, cW, ps, ws, rfl, hD⟩, c1, g1⟩
  have C1 := Lib.hid (C0.out.step c1 g1)
  have R1 := Lib.hid (pair_other R0.out g1 (by omega))
  have HD := Lib.hid hD
  have hs1 := C1.out.size
  have hP5 := Pair.new w1 (.slice none 0 0) (.slice none 0 0) 26
  have x0 := hP5.c0
  have x1 := hP5.c1
  have y0 := hP5.f0
  have y1 := hP5.f1
  clear c1 g1 hD hP5 R0 C0
  have B3 := Lib.hid (bx_new 26 HD.out hs1 R1.out (by omega))
  have C3 := Lib.hid (C1.out.lit (.cells #[.slice aP nP cP, .slice aW nW cW] 26))
  have hnP := HD.out.pn
  go_wp2_with fail
  clear x0 x1 y0 y1 R1 HD C1
  generalize (w1.alloc (.cells #[.slice aP nP cP, .slice aW nW cW] 26)) = w3 at *
  generalize w1.heap.size = tb at *
  have c0 := B3.out.box.c0
  have c1 := B3.out.box.c1
  refine wp_region_noPanic ?_
  refine wp_region_held_drew (S := (fun W' => W'.cell? ⟨tb, 0, none⟩ = some (.slice aP nP cP) ∧ W'.cell? ⟨tb, 1, none⟩ = some (.slice aW nW cW))) (by kernel_rfl) ?_ (fun hHeld0 => ?_)
  · (try dsimp only); first | assumption | exact ⟨B3.out.drew.box.c0, B3.out.drew.box.c1⟩ | exact ⟨((B3.out.lit _).drew).box.c0, ((B3.out.lit _).drew).box.c1⟩ | exact ⟨HX.out.c0, HX.out.c1⟩
  refine takeH (i := 0) (oi := _) (v := ?_) rfl (by kernel_rfl) (by kernel_rfl) (by kernel_rfl) (fun _ _ _ h => h) (Or.inl ⟨by rfl, ?_⟩) (by assumption) ?_
  rotate_left
  · first | (intro w hSw; (try dsimp only at hSw); go_simp; done) | (intro w hSw; (try dsimp only at hSw); go_simp; with_reducible rfl)
  (try simp only [Act.put, List.setIfInBounds_toArray, List.set_cons_zero, List.set_cons_succ])
  refine takeH (i := 1) (oi := _) (v := ?_) rfl (by kernel_rfl) (by kernel_rfl) (by kernel_rfl) (fun _ _ _ h => h) (Or.inl ⟨by rfl, ?_⟩) (by assumption) ?_
  rotate_left
  · first | (intro w hSw; (try dsimp only at hSw); go_simp; done) | (intro w hSw; (try dsimp only at hSw); go_simp; with_reducible rfl)
  (try simp only [Act.put, List.setIfInBounds_toArray, List.set_cons_zero, List.set_cons_succ])
  refine takeH (i := 2) (oi := _) (v := ?_) rfl (by kernel_rfl) (by kernel_rfl) (by kernel_rfl) (fun _ _ _ h => h) (Or.inl ⟨by rfl, ?_⟩) (by assumption) ?_
  rotate_left
  · first | (intro w hSw; (try dsimp only at hSw); go_simp; done) | (intro w hSw; (try dsimp only at hSw); go_simp; with_reducible rfl)
  (try simp only [Act.put, List.setIfInBounds_toArray, List.set_cons_zero, List.set_cons_succ])
  refine takeH (i := 4) (oi := _) (v := ?_) rfl (by kernel_rfl) (by kernel_rfl) (by kernel_rfl) (fun _ _ _ h => h) (Or.inl ⟨by rfl, ?_⟩) (by assumption) ?_
  rotate_left
  · first | (intro w hSw; (try dsimp only at hSw); go_simp; done) | (intro w hSw; (try dsimp only at hSw); go_simp; with_reducible rfl)
  (try simp only [Act.put, List.setIfInBounds_toArray, List.set_cons_zero, List.set_cons_succ])
  refine takeH (i := 5) (oi := _) (v := ?_) rfl (by kernel_rfl) (by kernel_rfl) (by kernel_rfl) (fun _ _ _ h => h) (Or.inl ⟨by rfl, ?_⟩) (by assumption) ?_
  rotate_left
  · first | (intro w hSw; (try dsimp only at hSw); go_simp; done) | (intro w hSw; (try dsimp only at hSw); go_simp; with_reducible rfl)
  (try simp only [Act.put, List.setIfInBounds_toArray, List.set_cons_zero, List.set_cons_succ])
  refine wpAnyH_ready (rs := [3]) (by kernel_rfl) (by simp) ?_
  refine consH rfl (fun Kq hKq => ?_)
  go_simp
  refine (spec_pays (w.heap.size + 1) a n cap _ aP nP cP aW nW cW _ (by omega) hnP (C3.out.drew).cur).mono ?_
  rintro e w4a ⟨⟨vL, rfl, o4a⟩, c4a, g4a⟩
  have C4a := Lib.hid ((C3.out.drew).step c4a g4a)
  have B4a := Lib.hid ((B3.out.drew).other g4a (by omega) (by omega))
  have VL4a := Lib.hid ((o4a.mono (C3.out.drew).size).more (show _ ≤ 40 by omega))
  have hSS := And.intro B4a.out.box.c0 B4a.out.box.c1
  clear c4a g4a o4a
  refine hKq.out _ _ ?_ (fun hHeld1 => ?_)
  · (try dsimp only); first | assumption | exact ⟨B3.out.drew.box.c0, B3.out.drew.box.c1⟩ | exact ⟨((B3.out.lit _).drew).box.c0, ((B3.out.lit _).drew).box.c1⟩ | exact ⟨HX.out.c0, HX.out.c1⟩
  clear hKq Kq
  (try simp only [Act.put, List.setIfInBounds_toArray, List.set_cons_zero, List.set_cons_succ])
  clear hHeld0
  refine wpAnyH_ready (rs := [6]) (by kernel_rfl) (by simp) ?_
  refine consH rfl (fun Kq hKq => ?_)
  go_simp
  refine (spec_stops (w.heap.size + 1) a n cap _ w0.heap.size aP nP cP aW nW cW ps ws _ (by omega) B4a.out.t (by omega) C4a.out.cur).mono ?_
  rintro e w5a ⟨⟨vM, rfl, o5a⟩, c5a, g5a⟩
  have C5a := Lib.hid (C4a.out.step c5a g5a)
  have B5a := Lib.hid (B4a.out.other g5a (by omega) (by omega))
  have VL5a := Lib.hid (OwnA.other VL4a.out g5a (by omega))
  have VM5a := Lib.hid ((o5a.mono C4a.out.size).more (show _ ≤ 40 by omega))
  have hSS := And.intro B5a.out.box.c0 B5a.out.box.c1
  clear c5a g5a o5a
  have e0 := B5a.out.res.c0
  have e1 := B5a.out.res.c1
  have f0 := B5a.out.res.f0
  have f1 := B5a.out.res.f1
  have HX := Lib.hid ((B5a.out.box.far (show w.heap.size ≠ tb by have := B5a.out.ge; omega) (i := 0) (.slice aP nP cP)).far (show w.heap.size ≠ tb by have := B5a.out.ge; omega) (i := 1) (.slice aW nW cW))
  have hr := B5a.out.res.set (.slice aP nP cP) (.slice aW nW cW)
  refine hKq.out _ _ ?_ (fun hHeld2 => ?_)
  · (try dsimp only); first | assumption | exact ⟨B3.out.drew.box.c0, B3.out.drew.box.c1⟩ | exact ⟨((B3.out.lit _).drew).box.c0, ((B3.out.lit _).drew).box.c1⟩ | exact ⟨HX.out.c0, HX.out.c1⟩
  clear hKq Kq
  (try simp only [Act.put, List.setIfInBounds_toArray, List.set_cons_zero, List.set_cons_succ])
  clear hHeld1
  refine wpAnyH_ready (rs := [7]) (by kernel_rfl) (by simp) ?_
  refine consH rfl (fun Kq hKq => ?_)
  go_simp
  refine hKq.out _ _ ?_ (fun hHeld3 => ?_)
  · (try dsimp only); first | assumption | exact ⟨B3.out.drew.box.c0, B3.out.drew.box.c1⟩ | exact ⟨((B3.out.lit _).drew).box.c0, ((B3.out.lit _).drew).box.c1⟩ | exact ⟨HX.out.c0, HX.out.c1⟩
  clear hKq Kq
  (try simp only [Act.put, List.setIfInBounds_toArray, List.set_cons_zero, List.set_cons_succ])
  clear hHeld2
  refine takeH (i := 8) (oi := _) (v := ?_) rfl (by kernel_rfl) (by kernel_rfl) (by kernel_rfl) (fun _ _ _ h => h) (Or.inl ⟨by rfl, ?_⟩) (by assumption) ?_
  rotate_left
  · first | (intro w hSw; (try dsimp only at hSw); go_simp; done) | (intro w hSw; (try dsimp only at hSw); go_simp; with_reducible rfl)
  (try simp only [Act.put, List.setIfInBounds_toArray, List.set_cons_zero, List.set_cons_succ])
  refine takeH (i := 9) (oi := _) (v := ?_) rfl (by kernel_rfl) (by kernel_rfl) (by kernel_rfl) (fun _ _ _ h => h) (Or.inl ⟨by rfl, ?_⟩) (by assumption) ?_
  rotate_left
  · first | (intro w hSw; (try dsimp only at hSw); go_simp; done) | (intro w hSw; (try dsimp only at hSw); go_simp; with_reducible rfl)
  (try simp only [Act.put, List.setIfInBounds_toArray, List.set_cons_zero, List.set_cons_succ])
  refine wpAnyH_done (by kernel_rfl) ?_ _
  refine NoPanic.normal ?_
  have hbb := draw_below HB0.out C5a.out.grow (show w.heap.size ≤ w.heap.size + 1 by omega) (Nat.le_refl w.heap.size) (x := .slice aP nP cP) (y := .slice aW nW cW)
  have hTT := (B5a.out.t.res (rb := w.heap.size) (x := .slice aP nP cP) (y := .slice aW nW cW) (by omega)).mono (base' := w.heap.size) (by omega)
  have ZL := (((VL5a.out.res (rb := w.heap.size) (x := .slice aP nP cP) (y := .slice aW nW cW) (by omega)).mono (base' := w.heap.size) (by omega)))
  have ZM := (((VM5a.out.res (rb := w.heap.size) (x := .slice aP nP cP) (y := .slice aW nW cW) (by omega)).mono (base' := w.heap.size) (by omega)))
  go_wp2_with fail
  exact bodyPost_ret (v := .tuple #[.agg #[.slice aP nP cP, .slice aW nW cW], vL, vM]) (by simp [results, Tryz.results30, go_sem, hr.1, hr.2]) rfl ⟨⟨_, rfl, _, _, _, _, _, _, ps, ws, _, _, rfl, hTT, ZL, ZM⟩, hbb⟩
set_option maxRecDepth 100000 in
set_option maxHeartbeats 2000000 in
theorem spec_DrawGoingOn (a : Option Addr) (n cap : Nat) (w : World) (h : Bytes w a n) :
    Calls Tryz.prog 46 #[.slice a n cap] w fun e w' => (∃ v, e = .returned v ∧ DrTLI w' w.heap.size v (fun _ => True)) ∧ Below w.heap.size w w' := by
  have hb0 : Below w.heap.size w ((w.alloc (.cells #[.slice none 0 0, .slice none 0 0] 26)).alloc (.cells #[.slice a n cap, .int .i64 0, .int .u64 0] 69)) := (below_new w _).alloc (by simp) _
  have hc := Cur.new (cap := cap) 69 (h.below (below_new w (.cells #[.slice none 0 0, .slice none 0 0] 26)))
  have R0 := Lib.hid ((Pair.new w (.slice none 0 0) (.slice none 0 0) 26).alloc (.cells #[.slice a n cap, .int .i64 0, .int .u64 0] 69))
  have hs0 : ((w.alloc (.cells #[.slice none 0 0, .slice none 0 0] 26)).alloc (.cells #[.slice a n cap, .int .i64 0, .int .u64 0] 69)).heap.size = w.heap.size + 1 + 1 := by simp
  rw [show (w.alloc (.cells #[.slice none 0 0, .slice none 0 0] 26)).heap.size = w.heap.size + 1 by simp] at hc
  have C0 := Lib.hid (Cq.start hc)
  clear hc h
  go_enter Tryz.func46, Tryz.ntmps46
  go_wp2_with fail
  generalize ((w.alloc (.cells #[.slice none 0 0, .slice none 0 0] 26)).alloc (.cells #[.slice a n cap, .int .i64 0, .int .u64 0] 69)) = w0 at *
  have hg0 : w.heap.size + 1 < w0.heap.size := by omega
  have HB0 := Lib.hid hb0
  clear hs0 hb0
  refine (spec_tree (w.heap.size + 1) a n cap 0 _ (by omega) C0.out.cur).mono ?_
  rintro e w1 ⟨⟨v, rfl, aP, nP, cP, aW, nW, cW, ps, ws, rfl, hD⟩, c1, g1⟩
  have C1 := Lib.hid (C0.out.step c1 g1)
  have R1 := Lib.hid (pair_other R0.out g1 (by omega))
  have HD := Lib.hid hD
  have hs1 := C1.out.size
  have hP5 := Pair.new w1 (.slice none 0 0) (.slice none 0 0) 26
  have x0 := hP5.c0
  have x1 := hP5.c1
  have y0 := hP5.f0
  have y1 := hP5.f1
  clear c1 g1 hD hP5 R0 C0
  have B3 := Lib.hid (bx_new 26 HD.out hs1 R1.out (by omega))
  have C3 := Lib.hid (C1.out.lit (.cells #[.slice aP nP cP, .slice aW nW cW] 26))
  have hnP := HD.out.pn
  go_wp2_with fail
  clear x0 x1 y0 y1 R1 HD C1
  generalize (w1.alloc (.cells #[.slice aP nP cP, .slice aW nW cW] 26)) = w3 at *
  generalize w1.heap.size = tb at *
  have c0 := B3.out.box.c0
  have c1 := B3.out.box.c1
  refine wp_region_noPanic ?_
  refine wp_region_held_drew (S := (fun W' => W'.cell? ⟨tb, 0, none⟩ = some (.slice aP nP cP) ∧ W'.cell? ⟨tb, 1, none⟩ = some (.slice aW nW cW))) (by kernel_rfl) ?_ (fun hHeld0 => ?_)
  · (try dsimp only); first | assumption | exact ⟨B3.out.drew.box.c0, B3.out.drew.box.c1⟩ | exact ⟨((B3.out.lit _).drew).box.c0, ((B3.out.lit _).drew).box.c1⟩ | exact ⟨HX.out.c0, HX.out.c1⟩
  refine takeH (i := 0) (oi := _) (v := ?_) rfl (by kernel_rfl) (by kernel_rfl) (by kernel_rfl) (fun _ _ _ h => h) (Or.inl ⟨by rfl, ?_⟩) (by assumption) ?_
  rotate_left
  · first | (intro w hSw; (try dsimp only at hSw); go_simp; done) | (intro w hSw; (try dsimp only at hSw); go_simp; with_reducible rfl)
  (try simp only [Act.put, List.setIfInBounds_toArray, List.set_cons_zero, List.set_cons_succ])
  refine takeH (i := 1) (oi := _) (v := ?_) rfl (by kernel_rfl) (by kernel_rfl) (by kernel_rfl) (fun _ _ _ h => h) (Or.inl ⟨by rfl, ?_⟩) (by assumption) ?_
  rotate_left
  · first | (intro w hSw; (try dsimp only at hSw); go_simp; done) | (intro w hSw; (try dsimp only at hSw); go_simp; with_reducible rfl)
  (try simp only [Act.put, List.setIfInBounds_toArray, List.set_cons_zero, List.set_cons_succ])
  refine takeH (i := 2) (oi := _) (v := ?_) rfl (by kernel_rfl) (by kernel_rfl) (by kernel_rfl) (fun _ _ _ h => h) (Or.inl ⟨by rfl, ?_⟩) (by assumption) ?_
  rotate_left
  · first | (intro w hSw; (try dsimp only at hSw); go_simp; done) | (intro w hSw; (try dsimp only at hSw); go_simp; with_reducible rfl)
  (try simp only [Act.put, List.setIfInBounds_toArray, List.set_cons_zero, List.set_cons_succ])
  refine takeH (i := 4) (oi := _) (v := ?_) rfl (by kernel_rfl) (by kernel_rfl) (by kernel_rfl) (fun _ _ _ h => h) (Or.inl ⟨by rfl, ?_⟩) (by assumption) ?_
  rotate_left
  · first | (intro w hSw; (try dsimp only at hSw); go_simp; done) | (intro w hSw; (try dsimp only at hSw); go_simp; with_reducible rfl)
  (try simp only [Act.put, List.setIfInBounds_toArray, List.set_cons_zero, List.set_cons_succ])
  refine takeH (i := 5) (oi := _) (v := ?_) rfl (by kernel_rfl) (by kernel_rfl) (by kernel_rfl) (fun _ _ _ h => h) (Or.inl ⟨by rfl, ?_⟩) (by assumption) ?_
  rotate_left
  · first | (intro w hSw; (try dsimp only at hSw); go_simp; done) | (intro w hSw; (try dsimp only at hSw); go_simp; with_reducible rfl)
  (try simp only [Act.put, List.setIfInBounds_toArray, List.set_cons_zero, List.set_cons_succ])
  refine wpAnyH_ready (rs := [3]) (by kernel_rfl) (by simp) ?_
  refine consH rfl (fun Kq hKq => ?_)
  go_simp
  refine (spec_pays (w.heap.size + 1) a n cap _ aP nP cP aW nW cW _ (by omega) hnP (C3.out.drew).cur).mono ?_
  rintro e w4a ⟨⟨vL, rfl, o4a⟩, c4a, g4a⟩
  have C4a := Lib.hid ((C3.out.drew).step c4a g4a)
  have B4a := Lib.hid ((B3.out.drew).other g4a (by omega) (by omega))
  have VL4a := Lib.hid ((o4a.mono (C3.out.drew).size).more (show _ ≤ 40 by omega))
  have hSS := And.intro B4a.out.box.c0 B4a.out.box.c1
  clear c4a g4a o4a
  refine hKq.out _ _ ?_ (fun hHeld1 => ?_)
  · (try dsimp only); first | assumption | exact ⟨B3.out.drew.box.c0, B3.out.drew.box.c1⟩ | exact ⟨((B3.out.lit _).drew).box.c0, ((B3.out.lit _).drew).box.c1⟩ | exact ⟨HX.out.c0, HX.out.c1⟩
  clear hKq Kq
  (try simp only [Act.put, List.setIfInBounds_toArray, List.set_cons_zero, List.set_cons_succ])
  clear hHeld0
  refine wpAnyH_ready (rs := [6]) (by kernel_rfl) (by simp) ?_
  refine consH rfl (fun Kq hKq => ?_)
  go_simp
  refine (spec_nodeOf (w.heap.size + 1) a n cap _ aP nP cP aW nW cW _ (by omega) hnP C4a.out.cur).mono ?_
  rintro e w5a ⟨⟨vI, rfl⟩, c5a, g5a⟩
  have C5a := Lib.hid (C4a.out.step c5a g5a)
  have B5a := Lib.hid (B4a.out.other g5a (by omega) (by omega))
  have VL5a := Lib.hid (OwnA.other VL4a.out g5a (by omega))
  have hSS := And.intro B5a.out.box.c0 B5a.out.box.c1
  clear c5a g5a
  have e0 := B5a.out.res.c0
  have e1 := B5a.out.res.c1
  have f0 := B5a.out.res.f0
  have f1 := B5a.out.res.f1
  have HX := Lib.hid ((B5a.out.box.far (show w.heap.size ≠ tb by have := B5a.out.ge; omega) (i := 0) (.slice aP nP cP)).far (show w.heap.size ≠ tb by have := B5a.out.ge; omega) (i := 1) (.slice aW nW cW))
  have hr := B5a.out.res.set (.slice aP nP cP) (.slice aW nW cW)
  refine hKq.out _ _ ?_ (fun hHeld2 => ?_)
  · (try dsimp only); first | assumption | exact ⟨B3.out.drew.box.c0, B3.out.drew.box.c1⟩ | exact ⟨((B3.out.lit _).drew).box.c0, ((B3.out.lit _).drew).box.c1⟩ | exact ⟨HX.out.c0, HX.out.c1⟩
  clear hKq Kq
  (try simp only [Act.put, List.setIfInBounds_toArray, List.set_cons_zero, List.set_cons_succ])
  clear hHeld1
  refine wpAnyH_ready (rs := [7]) (by kernel_rfl) (by simp) ?_
  refine consH rfl (fun Kq hKq => ?_)
  go_simp
  refine hKq.out _ _ ?_ (fun hHeld3 => ?_)
  · (try dsimp only); first | assumption | exact ⟨B3.out.drew.box.c0, B3.out.drew.box.c1⟩ | exact ⟨((B3.out.lit _).drew).box.c0, ((B3.out.lit _).drew).box.c1⟩ | exact ⟨HX.out.c0, HX.out.c1⟩
  clear hKq Kq
  (try simp only [Act.put, List.setIfInBounds_toArray, List.set_cons_zero, List.set_cons_succ])
  clear hHeld2
  refine takeH (i := 8) (oi := _) (v := ?_) rfl (by kernel_rfl) (by kernel_rfl) (by kernel_rfl) (fun _ _ _ h => h) (Or.inl ⟨by rfl, ?_⟩) (by assumption) ?_
  rotate_left
  · first | (intro w hSw; (try dsimp only at hSw); go_simp; done) | (intro w hSw; (try dsimp only at hSw); go_simp; with_reducible rfl)
  (try simp only [Act.put, List.setIfInBounds_toArray, List.set_cons_zero, List.set_cons_succ])
  refine takeH (i := 9) (oi := _) (v := ?_) rfl (by kernel_rfl) (by kernel_rfl) (by kernel_rfl) (fun _ _ _ h => h) (Or.inl ⟨by rfl, ?_⟩) (by assumption) ?_
  rotate_left
  · first | (intro w hSw; (try dsimp only at hSw); go_simp; done) | (intro w hSw; (try dsimp only at hSw); go_simp; with_reducible rfl)
  (try simp only [Act.put, List.setIfInBounds_toArray, List.set_cons_zero, List.set_cons_succ])
  refine wpAnyH_done (by kernel_rfl) ?_ _
  refine NoPanic.normal ?_
  have hbb := draw_below HB0.out C5a.out.grow (show w.heap.size ≤ w.heap.size + 1 by omega) (Nat.le_refl w.heap.size) (x := .slice aP nP cP) (y := .slice aW nW cW)
  have hTT := (B5a.out.t.res (rb := w.heap.size) (x := .slice aP nP cP) (y := .slice aW nW cW) (by omega)).mono (base' := w.heap.size) (by omega)
  have ZL := (((VL5a.out.res (rb := w.heap.size) (x := .slice aP nP cP) (y := .slice aW nW cW) (by omega)).mono (base' := w.heap.size) (by omega)))
  go_wp2_with fail
  exact bodyPost_ret (v := .tuple #[.agg #[.slice aP nP cP, .slice aW nW cW], vL, .int .i64 vI]) (by simp [results, Tryz.results46, go_sem, hr.1, hr.2]) rfl ⟨⟨_, rfl, _, _, _, _, _, _, ps, ws, _, _, rfl, hTT, ZL, trivial⟩, hbb⟩
set_option maxRecDepth 100000 in
set_option maxHeartbeats 2000000 in
theorem spec_DrawEarlierRule (a : Option Addr) (n cap : Nat) (w : World) (h : Bytes w a n) :
    Calls Tryz.prog 50 #[.slice a n cap] w fun e w' => (∃ v, e = .returned v ∧ DrTSS w' w.heap.size v) ∧ Below w.heap.size w w' := by
  have hb0 : Below w.heap.size w ((w.alloc (.cells #[.slice none 0 0, .slice none 0 0] 26)).alloc (.cells #[.slice a n cap, .int .i64 0, .int .u64 0] 69)) := (below_new w _).alloc (by simp) _
  have hc := Cur.new (cap := cap) 69 (h.below (below_new w (.cells #[.slice none 0 0, .slice none 0 0] 26)))
  have R0 := Lib.hid ((Pair.new w (.slice none 0 0) (.slice none 0 0) 26).alloc (.cells #[.slice a n cap, .int .i64 0, .int .u64 0] 69))
  have hs0 : ((w.alloc (.cells #[.slice none 0 0, .slice none 0 0] 26)).alloc (.cells #[.slice a n cap, .int .i64 0, .int .u64 0] 69)).heap.size = w.heap.size + 1 + 1 := by simp
  rw [show (w.alloc (.cells #[.slice none 0 0, .slice none 0 0] 26)).heap.size = w.heap.size + 1 by simp] at hc
  have C0 := Lib.hid (Cq.start hc)
  clear hc h
  go_enter Tryz.func50, Tryz.ntmps50
  go_wp2_with fail
  generalize ((w.alloc (.cells #[.slice none 0 0, .slice none 0 0] 26)).alloc (.cells #[.slice a n cap, .int .i64 0, .int .u64 0] 69)) = w0 at *
  have hg0 : w.heap.size + 1 < w0.heap.size := by omega
  have HB0 := Lib.hid hb0
  clear hs0 hb0
  refine (spec_tree (w.heap.size + 1) a n cap 0 _ (by omega) C0.out.cur).mono ?_
  rintro e w1 ⟨⟨v, rfl, aP, nP, cP, aW, nW, cW, ps, ws, rfl, hD⟩, c1, g1⟩
  have C1 := Lib.hid (C0.out.step c1 g1)
  have R1 := Lib.hid (pair_other R0.out g1 (by omega))
  have HD := Lib.hid hD
  have hs1 := C1.out.size
  have hP5 := Pair.new w1 (.slice none 0 0) (.slice none 0 0) 26
  have x0 := hP5.c0
  have x1 := hP5.c1
  have y0 := hP5.f0
  have y1 := hP5.f1
  clear c1 g1 hD hP5 R0 C0
  have B3 := Lib.hid (bx_new 26 HD.out hs1 R1.out (by omega))
  have C3 := Lib.hid (C1.out.lit (.cells #[.slice aP nP cP, .slice aW nW cW] 26))
  have hnP := HD.out.pn
  go_wp2_with fail
  clear x0 x1 y0 y1 R1 HD C1
  generalize (w1.alloc (.cells #[.slice aP nP cP, .slice aW nW cW] 26)) = w3 at *
  generalize w1.heap.size = tb at *
  have c0 := B3.out.box.c0
  have c1 := B3.out.box.c1
  refine wp_region_noPanic ?_
  refine wp_region_held_drew (S := (fun W' => W'.cell? ⟨tb, 0, none⟩ = some (.slice aP nP cP) ∧ W'.cell? ⟨tb, 1, none⟩ = some (.slice aW nW cW))) (by kernel_rfl) ?_ (fun hHeld0 => ?_)
  · (try dsimp only); first | assumption | exact ⟨B3.out.drew.box.c0, B3.out.drew.box.c1⟩ | exact ⟨((B3.out.lit _).drew).box.c0, ((B3.out.lit _).drew).box.c1⟩ | exact ⟨HX.out.c0, HX.out.c1⟩
  refine takeH (i := 0) (oi := _) (v := ?_) rfl (by kernel_rfl) (by kernel_rfl) (by kernel_rfl) (fun _ _ _ h => h) (Or.inl ⟨by rfl, ?_⟩) (by assumption) ?_
  rotate_left
  · first | (intro w hSw; (try dsimp only at hSw); go_simp; done) | (intro w hSw; (try dsimp only at hSw); go_simp; with_reducible rfl)
  (try simp only [Act.put, List.setIfInBounds_toArray, List.set_cons_zero, List.set_cons_succ])
  refine takeH (i := 1) (oi := _) (v := ?_) rfl (by kernel_rfl) (by kernel_rfl) (by kernel_rfl) (fun _ _ _ h => h) (Or.inl ⟨by rfl, ?_⟩) (by assumption) ?_
  rotate_left
  · first | (intro w hSw; (try dsimp only at hSw); go_simp; done) | (intro w hSw; (try dsimp only at hSw); go_simp; with_reducible rfl)
  (try simp only [Act.put, List.setIfInBounds_toArray, List.set_cons_zero, List.set_cons_succ])
  refine takeH (i := 2) (oi := _) (v := ?_) rfl (by kernel_rfl) (by kernel_rfl) (by kernel_rfl) (fun _ _ _ h => h) (Or.inl ⟨by rfl, ?_⟩) (by assumption) ?_
  rotate_left
  · first | (intro w hSw; (try dsimp only at hSw); go_simp; done) | (intro w hSw; (try dsimp only at hSw); go_simp; with_reducible rfl)
  (try simp only [Act.put, List.setIfInBounds_toArray, List.set_cons_zero, List.set_cons_succ])
  refine takeH (i := 4) (oi := _) (v := ?_) rfl (by kernel_rfl) (by kernel_rfl) (by kernel_rfl) (fun _ _ _ h => h) (Or.inl ⟨by rfl, ?_⟩) (by assumption) ?_
  rotate_left
  · first | (intro w hSw; (try dsimp only at hSw); go_simp; done) | (intro w hSw; (try dsimp only at hSw); go_simp; with_reducible rfl)
  (try simp only [Act.put, List.setIfInBounds_toArray, List.set_cons_zero, List.set_cons_succ])
  refine takeH (i := 5) (oi := _) (v := ?_) rfl (by kernel_rfl) (by kernel_rfl) (by kernel_rfl) (fun _ _ _ h => h) (Or.inl ⟨by rfl, ?_⟩) (by assumption) ?_
  rotate_left
  · first | (intro w hSw; (try dsimp only at hSw); go_simp; done) | (intro w hSw; (try dsimp only at hSw); go_simp; with_reducible rfl)
  (try simp only [Act.put, List.setIfInBounds_toArray, List.set_cons_zero, List.set_cons_succ])
  refine wpAnyH_ready (rs := [3]) (by kernel_rfl) (by simp) ?_
  refine consH rfl (fun Kq hKq => ?_)
  go_simp
  refine (spec_stops (w.heap.size + 1) a n cap _ w0.heap.size aP nP cP aW nW cW ps ws _ (by omega) (B3.out.drew).t (by omega) (C3.out.drew).cur).mono ?_
  rintro e w4a ⟨⟨vL, rfl, o4a⟩, c4a, g4a⟩
  have C4a := Lib.hid ((C3.out.drew).step c4a g4a)
  have B4a := Lib.hid ((B3.out.drew).other g4a (by omega) (by omega))
  have VL4a := Lib.hid ((o4a.mono (C3.out.drew).size).more (show _ ≤ 40 by omega))
  have hSS := And.intro B4a.out.box.c0 B4a.out.box.c1
  clear c4a g4a o4a
  refine hKq.out _ _ ?_ (fun hHeld1 => ?_)
  · (try dsimp only); first | assumption | exact ⟨B3.out.drew.box.c0, B3.out.drew.box.c1⟩ | exact ⟨((B3.out.lit _).drew).box.c0, ((B3.out.lit _).drew).box.c1⟩ | exact ⟨HX.out.c0, HX.out.c1⟩
  clear hKq Kq
  (try simp only [Act.put, List.setIfInBounds_toArray, List.set_cons_zero, List.set_cons_succ])
  clear hHeld0
  refine wpAnyH_ready (rs := [6]) (by kernel_rfl) (by simp) ?_
  refine consH rfl (fun Kq hKq => ?_)
  go_simp
  refine (spec_stops (w.heap.size + 1) a n cap _ w0.heap.size aP nP cP aW nW cW ps ws _ (by omega) B4a.out.t (by omega) C4a.out.cur).mono ?_
  rintro e w5a ⟨⟨vM, rfl, o5a⟩, c5a, g5a⟩
  have C5a := Lib.hid (C4a.out.step c5a g5a)
  have B5a := Lib.hid (B4a.out.other g5a (by omega) (by omega))
  have VL5a := Lib.hid (LisA.other VL4a.out g5a (by omega))
  have VM5a := Lib.hid ((o5a.mono C4a.out.size).more (show _ ≤ 40 by omega))
  have hSS := And.intro B5a.out.box.c0 B5a.out.box.c1
  clear c5a g5a o5a
  have e0 := B5a.out.res.c0
  have e1 := B5a.out.res.c1
  have f0 := B5a.out.res.f0
  have f1 := B5a.out.res.f1
  have HX := Lib.hid ((B5a.out.box.far (show w.heap.size ≠ tb by have := B5a.out.ge; omega) (i := 0) (.slice aP nP cP)).far (show w.heap.size ≠ tb by have := B5a.out.ge; omega) (i := 1) (.slice aW nW cW))
  have hr := B5a.out.res.set (.slice aP nP cP) (.slice aW nW cW)
  refine hKq.out _ _ ?_ (fun hHeld2 => ?_)
  · (try dsimp only); first | assumption | exact ⟨B3.out.drew.box.c0, B3.out.drew.box.c1⟩ | exact ⟨((B3.out.lit _).drew).box.c0, ((B3.out.lit _).drew).box.c1⟩ | exact ⟨HX.out.c0, HX.out.c1⟩
  clear hKq Kq
  (try simp only [Act.put, List.setIfInBounds_toArray, List.set_cons_zero, List.set_cons_succ])
  clear hHeld1
  refine wpAnyH_ready (rs := [7]) (by kernel_rfl) (by simp) ?_
  refine consH rfl (fun Kq hKq => ?_)
  go_simp
  refine hKq.out _ _ ?_ (fun hHeld3 => ?_)
  · (try dsimp only); first | assumption | exact ⟨B3.out.drew.box.c0, B3.out.drew.box.c1⟩ | exact ⟨((B3.out.lit _).drew).box.c0, ((B3.out.lit _).drew).box.c1⟩ | exact ⟨HX.out.c0, HX.out.c1⟩
  clear hKq Kq
  (try simp only [Act.put, List.setIfInBounds_toArray, List.set_cons_zero, List.set_cons_succ])
  clear hHeld2
  refine takeH (i := 8) (oi := _) (v := ?_) rfl (by kernel_rfl) (by kernel_rfl) (by kernel_rfl) (fun _ _ _ h => h) (Or.inl ⟨by rfl, ?_⟩) (by assumption) ?_
  rotate_left
  · first | (intro w hSw; (try dsimp only at hSw); go_simp; done) | (intro w hSw; (try dsimp only at hSw); go_simp; with_reducible rfl)
  (try simp only [Act.put, List.setIfInBounds_toArray, List.set_cons_zero, List.set_cons_succ])
  refine takeH (i := 9) (oi := _) (v := ?_) rfl (by kernel_rfl) (by kernel_rfl) (by kernel_rfl) (fun _ _ _ h => h) (Or.inl ⟨by rfl, ?_⟩) (by assumption) ?_
  rotate_left
  · first | (intro w hSw; (try dsimp only at hSw); go_simp; done) | (intro w hSw; (try dsimp only at hSw); go_simp; with_reducible rfl)
  (try simp only [Act.put, List.setIfInBounds_toArray, List.set_cons_zero, List.set_cons_succ])
  refine wpAnyH_done (by kernel_rfl) ?_ _
  refine NoPanic.normal ?_
  have hbb := draw_below HB0.out C5a.out.grow (show w.heap.size ≤ w.heap.size + 1 by omega) (Nat.le_refl w.heap.size) (x := .slice aP nP cP) (y := .slice aW nW cW)
  have hTT := (B5a.out.t.res (rb := w.heap.size) (x := .slice aP nP cP) (y := .slice aW nW cW) (by omega)).mono (base' := w.heap.size) (by omega)
  have ZL := (((VL5a.out.res (rb := w.heap.size) (x := .slice aP nP cP) (y := .slice aW nW cW) (by omega)).mono (base' := w.heap.size) (by omega)))
  have ZM := (((VM5a.out.res (rb := w.heap.size) (x := .slice aP nP cP) (y := .slice aW nW cW) (by omega)).mono (base' := w.heap.size) (by omega)))
  go_wp2_with fail
  exact bodyPost_ret (v := .tuple #[.agg #[.slice aP nP cP, .slice aW nW cW], vL, vM]) (by simp [results, Tryz.results50, go_sem, hr.1, hr.2]) rfl ⟨⟨_, rfl, _, _, _, _, _, _, ps, ws, _, _, rfl, hTT, ZL, ZM⟩, hbb⟩
set_option maxRecDepth 100000 in
set_option maxHeartbeats 2000000 in
theorem spec_DrawIsRule (a : Option Addr) (n cap : Nat) (w : World) (h : Bytes w a n) :
    Calls Tryz.prog 57 #[.slice a n cap] w fun e w' => (∃ v, e = .returned v ∧ DrTS w' w.heap.size v) ∧ Below w.heap.size w w' := by
  have hb0 : Below w.heap.size w ((w.alloc (.cells #[.slice none 0 0, .slice none 0 0] 26)).alloc (.cells #[.slice a n cap, .int .i64 0, .int .u64 0] 69)) := (below_new w _).alloc (by simp) _
  have hc := Cur.new (cap := cap) 69 (h.below (below_new w (.cells #[.slice none 0 0, .slice none 0 0] 26)))
  have R0 := Lib.hid ((Pair.new w (.slice none 0 0) (.slice none 0 0) 26).alloc (.cells #[.slice a n cap, .int .i64 0, .int .u64 0] 69))
  have hs0 : ((w.alloc (.cells #[.slice none 0 0, .slice none 0 0] 26)).alloc (.cells #[.slice a n cap, .int .i64 0, .int .u64 0] 69)).heap.size = w.heap.size + 1 + 1 := by simp
  rw [show (w.alloc (.cells #[.slice none 0 0, .slice none 0 0] 26)).heap.size = w.heap.size + 1 by simp] at hc
  have C0 := Lib.hid (Cq.start hc)
  clear hc h
  go_enter Tryz.func57, Tryz.ntmps57
  go_wp2_with fail
  generalize ((w.alloc (.cells #[.slice none 0 0, .slice none 0 0] 26)).alloc (.cells #[.slice a n cap, .int .i64 0, .int .u64 0] 69)) = w0 at *
  have hg0 : w.heap.size + 1 < w0.heap.size := by omega
  have HB0 := Lib.hid hb0
  clear hs0 hb0
  refine (spec_tree (w.heap.size + 1) a n cap 0 _ (by omega) C0.out.cur).mono ?_
  rintro e w1 ⟨⟨v, rfl, aP, nP, cP, aW, nW, cW, ps, ws, rfl, hD⟩, c1, g1⟩
  have C1 := Lib.hid (C0.out.step c1 g1)
  have R1 := Lib.hid (pair_other R0.out g1 (by omega))
  have HD := Lib.hid hD
  have hs1 := C1.out.size
  have hP5 := Pair.new w1 (.slice none 0 0) (.slice none 0 0) 26
  have x0 := hP5.c0
  have x1 := hP5.c1
  have y0 := hP5.f0
  have y1 := hP5.f1
  clear c1 g1 hD hP5 R0 C0
  have B3 := Lib.hid (bx_new 26 HD.out hs1 R1.out (by omega))
  have C3 := Lib.hid (C1.out.lit (.cells #[.slice aP nP cP, .slice aW nW cW] 26))
  have hnP := HD.out.pn
  go_wp2_with fail
  clear x0 x1 y0 y1 R1 HD C1
  generalize (w1.alloc (.cells #[.slice aP nP cP, .slice aW nW cW] 26)) = w3 at *
  generalize w1.heap.size = tb at *
  have c0 := B3.out.box.c0
  have c1 := B3.out.box.c1
  refine wp_region_noPanic ?_
  refine wp_region_held_drew (S := (fun W' => W'.cell? ⟨tb, 0, none⟩ = some (.slice aP nP cP) ∧ W'.cell? ⟨tb, 1, none⟩ = some (.slice aW nW cW))) (by kernel_rfl) ?_ (fun hHeld0 => ?_)
  · (try dsimp only); first | assumption | exact ⟨B3.out.drew.box.c0, B3.out.drew.box.c1⟩ | exact ⟨((B3.out.lit _).drew).box.c0, ((B3.out.lit _).drew).box.c1⟩ | exact ⟨HX.out.c0, HX.out.c1⟩
  refine takeH (i := 0) (oi := _) (v := ?_) rfl (by kernel_rfl) (by kernel_rfl) (by kernel_rfl) (fun _ _ _ h => h) (Or.inl ⟨by rfl, ?_⟩) (by assumption) ?_
  rotate_left
  · first | (intro w hSw; (try dsimp only at hSw); go_simp; done) | (intro w hSw; (try dsimp only at hSw); go_simp; with_reducible rfl)
  (try simp only [Act.put, List.setIfInBounds_toArray, List.set_cons_zero, List.set_cons_succ])
  refine takeH (i := 1) (oi := _) (v := ?_) rfl (by kernel_rfl) (by kernel_rfl) (by kernel_rfl) (fun _ _ _ h => h) (Or.inl ⟨by rfl, ?_⟩) (by assumption) ?_
  rotate_left
  · first | (intro w hSw; (try dsimp only at hSw); go_simp; done) | (intro w hSw; (try dsimp only at hSw); go_simp; with_reducible rfl)
  (try simp only [Act.put, List.setIfInBounds_toArray, List.set_cons_zero, List.set_cons_succ])
  refine takeH (i := 2) (oi := _) (v := ?_) rfl (by kernel_rfl) (by kernel_rfl) (by kernel_rfl) (fun _ _ _ h => h) (Or.inl ⟨by rfl, ?_⟩) (by assumption) ?_
  rotate_left
  · first | (intro w hSw; (try dsimp only at hSw); go_simp; done) | (intro w hSw; (try dsimp only at hSw); go_simp; with_reducible rfl)
  (try simp only [Act.put, List.setIfInBounds_toArray, List.set_cons_zero, List.set_cons_succ])
  refine wpAnyH_ready (rs := [3]) (by kernel_rfl) (by simp) ?_
  refine consH rfl (fun Kq hKq => ?_)
  go_simp
  refine (spec_stops (w.heap.size + 1) a n cap _ w0.heap.size aP nP cP aW nW cW ps ws _ (by omega) (B3.out.drew).t (by omega) (C3.out.drew).cur).mono ?_
  rintro e w4a ⟨⟨vL, rfl, o4a⟩, c4a, g4a⟩
  have C4a := Lib.hid ((C3.out.drew).step c4a g4a)
  have B4a := Lib.hid ((B3.out.drew).other g4a (by omega) (by omega))
  have VL4a := Lib.hid ((o4a.mono (C3.out.drew).size).more (show _ ≤ 40 by omega))
  have hSS := And.intro B4a.out.box.c0 B4a.out.box.c1
  clear c4a g4a o4a
  have e0 := B4a.out.res.c0
  have e1 := B4a.out.res.c1
  have f0 := B4a.out.res.f0
  have f1 := B4a.out.res.f1
  have HX := Lib.hid ((B4a.out.box.far (show w.heap.size ≠ tb by have := B4a.out.ge; omega) (i := 0) (.slice aP nP cP)).far (show w.heap.size ≠ tb by have := B4a.out.ge; omega) (i := 1) (.slice aW nW cW))
  have hr := B4a.out.res.set (.slice aP nP cP) (.slice aW nW cW)
  refine hKq.out _ _ ?_ (fun hHeld1 => ?_)
  · (try dsimp only); first | assumption | exact ⟨B3.out.drew.box.c0, B3.out.drew.box.c1⟩ | exact ⟨((B3.out.lit _).drew).box.c0, ((B3.out.lit _).drew).box.c1⟩ | exact ⟨HX.out.c0, HX.out.c1⟩
  clear hKq Kq
  (try simp only [Act.put, List.setIfInBounds_toArray, List.set_cons_zero, List.set_cons_succ])
  clear hHeld0
  refine wpAnyH_ready (rs := [4]) (by kernel_rfl) (by simp) ?_
  refine consH rfl (fun Kq hKq => ?_)
  go_simp
  refine hKq.out _ _ ?_ (fun hHeld2 => ?_)
  · (try dsimp only); first | assumption | exact ⟨B3.out.drew.box.c0, B3.out.drew.box.c1⟩ | exact ⟨((B3.out.lit _).drew).box.c0, ((B3.out.lit _).drew).box.c1⟩ | exact ⟨HX.out.c0, HX.out.c1⟩
  clear hKq Kq
  (try simp only [Act.put, List.setIfInBounds_toArray, List.set_cons_zero, List.set_cons_succ])
  clear hHeld1
  refine takeH (i := 5) (oi := _) (v := ?_) rfl (by kernel_rfl) (by kernel_rfl) (by kernel_rfl) (fun _ _ _ h => h) (Or.inl ⟨by rfl, ?_⟩) (by assumption) ?_
  rotate_left
  · first | (intro w hSw; (try dsimp only at hSw); go_simp; done) | (intro w hSw; (try dsimp only at hSw); go_simp; with_reducible rfl)
  (try simp only [Act.put, List.setIfInBounds_toArray, List.set_cons_zero, List.set_cons_succ])
  refine wpAnyH_done (by kernel_rfl) ?_ _
  refine NoPanic.normal ?_
  have hbb := draw_below HB0.out C4a.out.grow (show w.heap.size ≤ w.heap.size + 1 by omega) (Nat.le_refl w.heap.size) (x := .slice aP nP cP) (y := .slice aW nW cW)
  have hTT := (B4a.out.t.res (rb := w.heap.size) (x := .slice aP nP cP) (y := .slice aW nW cW) (by omega)).mono (base' := w.heap.size) (by omega)
  have ZL := (((VL4a.out.res (rb := w.heap.size) (x := .slice aP nP cP) (y := .slice aW nW cW) (by omega)).mono (base' := w.heap.size) (by omega)))
  go_wp2_with fail
  exact bodyPost_ret (v := .tuple #[.agg #[.slice aP nP cP, .slice aW nW cW], vL]) (by simp [results, Tryz.results57, go_sem, hr.1, hr.2]) rfl ⟨⟨_, rfl, _, _, _, _, _, _, ps, ws, _, rfl, hTT, ZL⟩, hbb⟩
set_option maxRecDepth 100000 in
set_option maxHeartbeats 2000000 in
theorem spec_DrawLookAhead (a : Option Addr) (n cap : Nat) (w : World) (h : Bytes w a n) :
    Calls Tryz.prog 60 #[.slice a n cap] w fun e w' => (∃ v, e = .returned v ∧ DrTLI w' w.heap.size v (fun _ => True)) ∧ Below w.heap.size w w' := by
  have hb0 : Below w.heap.size w ((w.alloc (.cells #[.slice none 0 0, .slice none 0 0] 26)).alloc (.cells #[.slice a n cap, .int .i64 0, .int .u64 0] 69)) := (below_new w _).alloc (by simp) _
  have hc := Cur.new (cap := cap) 69 (h.below (below_new w (.cells #[.slice none 0 0, .slice none 0 0] 26)))
  have R0 := Lib.hid ((Pair.new w (.slice none 0 0) (.slice none 0 0) 26).alloc (.cells #[.slice a n cap, .int .i64 0, .int .u64 0] 69))
  have hs0 : ((w.alloc (.cells #[.slice none 0 0, .slice none 0 0] 26)).alloc (.cells #[.slice a n cap, .int .i64 0, .int .u64 0] 69)).heap.size = w.heap.size + 1 + 1 := by simp
  rw [show (w.alloc (.cells #[.slice none 0 0, .slice none 0 0] 26)).heap.size = w.heap.size + 1 by simp] at hc
  have C0 := Lib.hid (Cq.start hc)
  clear hc h
  go_enter Tryz.func60, Tryz.ntmps60
  go_wp2_with fail
  generalize ((w.alloc (.cells #[.slice none 0 0, .slice none 0 0] 26)).alloc (.cells #[.slice a n cap, .int .i64 0, .int .u64 0] 69)) = w0 at *
  have hg0 : w.heap.size + 1 < w0.heap.size := by omega
  have HB0 := Lib.hid hb0
  clear hs0 hb0
  refine (spec_tree (w.heap.size + 1) a n cap 0 _ (by omega) C0.out.cur).mono ?_
  rintro e w1 ⟨⟨v, rfl, aP, nP, cP, aW, nW, cW, ps, ws, rfl, hD⟩, c1, g1⟩
  have C1 := Lib.hid (C0.out.step c1 g1)
  have R1 := Lib.hid (pair_other R0.out g1 (by omega))
  have HD := Lib.hid hD
  have hs1 := C1.out.size
  have hP5 := Pair.new w1 (.slice none 0 0) (.slice none 0 0) 26
  have x0 := hP5.c0
  have x1 := hP5.c1
  have y0 := hP5.f0
  have y1 := hP5.f1
  clear c1 g1 hD hP5 R0 C0
  have B3 := Lib.hid (bx_new 26 HD.out hs1 R1.out (by omega))
  have C3 := Lib.hid (C1.out.lit (.cells #[.slice aP nP cP, .slice aW nW cW] 26))
  have hnP := HD.out.pn
  go_wp2_with fail
  clear x0 x1 y0 y1 R1 HD C1
  generalize (w1.alloc (.cells #[.slice aP nP cP, .slice aW nW cW] 26)) = w3 at *
  generalize w1.heap.size = tb at *
  have c0 := B3.out.box.c0
  have c1 := B3.out.box.c1
  refine wp_region_noPanic ?_
  refine wp_region_held_drew (S := (fun W' => W'.cell? ⟨tb, 0, none⟩ = some (.slice aP nP cP) ∧ W'.cell? ⟨tb, 1, none⟩ = some (.slice aW nW cW))) (by kernel_rfl) ?_ (fun hHeld0 => ?_)
  · (try dsimp only); first | assumption | exact ⟨B3.out.drew.box.c0, B3.out.drew.box.c1⟩ | exact ⟨((B3.out.lit _).drew).box.c0, ((B3.out.lit _).drew).box.c1⟩ | exact ⟨HX.out.c0, HX.out.c1⟩ | exact ⟨(B4a.out.lit _).box.c0, (B4a.out.lit _).box.c1⟩
  refine takeH (i := 0) (oi := _) (v := ?_) rfl (by kernel_rfl) (by kernel_rfl) (by kernel_rfl) (fun _ _ _ h => h) (Or.inl ⟨by rfl, ?_⟩) (by assumption) ?_
  rotate_left
  · first | (intro w hSw; (try dsimp only at hSw); go_simp; done) | (intro w hSw; (try dsimp only at hSw); go_simp; with_reducible rfl)
  (try simp only [Act.put, List.setIfInBounds_toArray, List.set_cons_zero, List.set_cons_succ])
  refine takeH (i := 1) (oi := _) (v := ?_) rfl (by kernel_rfl) (by kernel_rfl) (by kernel_rfl) (fun _ _ _ h => h) (Or.inl ⟨by rfl, ?_⟩) (by assumption) ?_
  rotate_left
  · first | (intro w hSw; (try dsimp only at hSw); go_simp; done) | (intro w hSw; (try dsimp only at hSw); go_simp; with_reducible rfl)
  (try simp only [Act.put, List.setIfInBounds_toArray, List.set_cons_zero, List.set_cons_succ])
  refine takeH (i := 2) (oi := _) (v := ?_) rfl (by kernel_rfl) (by kernel_rfl) (by kernel_rfl) (fun _ _ _ h => h) (Or.inl ⟨by rfl, ?_⟩) (by assumption) ?_
  rotate_left
  · first | (intro w hSw; (try dsimp only at hSw); go_simp; done) | (intro w hSw; (try dsimp only at hSw); go_simp; with_reducible rfl)
  (try simp only [Act.put, List.setIfInBounds_toArray, List.set_cons_zero, List.set_cons_succ])
  refine takeH (i := 4) (oi := _) (v := ?_) rfl (by kernel_rfl) (by kernel_rfl) (by kernel_rfl) (fun _ _ _ h => h) (Or.inl ⟨by rfl, ?_⟩) (by assumption) ?_
  rotate_left
  · first | (intro w hSw; (try dsimp only at hSw); go_simp; done) | (intro w hSw; (try dsimp only at hSw); go_simp; with_reducible rfl)
  (try simp only [Act.put, List.setIfInBounds_toArray, List.set_cons_zero, List.set_cons_succ])
  refine wpAnyH_ready (rs := [3, 5]) (by kernel_rfl) (by simp) ?_
  refine consM rfl (fun Kq hKq => ?_) (consH rfl (fun Kq hKq => ?_))
  · go_simp
    refine (spec_pays (w.heap.size + 1) a n cap _ aP nP cP aW nW cW _ (by omega) hnP (C3.out.drew).cur).mono ?_
    rintro e w4a ⟨⟨vL, rfl, o4a⟩, c4a, g4a⟩
    have C4a := Lib.hid ((C3.out.drew).step c4a g4a)
    have B4a := Lib.hid ((B3.out.drew).other g4a (by omega) (by omega))
    have VL4a := Lib.hid ((o4a.mono (C3.out.drew).size).more (show _ ≤ 40 by omega))
    have hSS := And.intro B4a.out.box.c0 B4a.out.box.c1
    clear c4a g4a o4a
    refine hKq.out _ _ ?_ (fun hHeld1 => ?_)
    · (try dsimp only); first | assumption | exact ⟨B3.out.drew.box.c0, B3.out.drew.box.c1⟩ | exact ⟨((B3.out.lit _).drew).box.c0, ((B3.out.lit _).drew).box.c1⟩ | exact ⟨HX.out.c0, HX.out.c1⟩ | exact ⟨(B4a.out.lit _).box.c0, (B4a.out.lit _).box.c1⟩
    clear hKq Kq
    (try simp only [Act.put, List.setIfInBounds_toArray, List.set_cons_zero, List.set_cons_succ])
    clear hHeld0
    refine wpAnyH_ready (rs := [5]) (by kernel_rfl) (by simp) ?_
    refine consH rfl (fun Kq hKq => ?_)
    go_simp
    refine hKq.out _ _ ?_ (fun hHeld2 => ?_)
    · (try dsimp only); first | assumption | exact ⟨B3.out.drew.box.c0, B3.out.drew.box.c1⟩ | exact ⟨((B3.out.lit _).drew).box.c0, ((B3.out.lit _).drew).box.c1⟩ | exact ⟨HX.out.c0, HX.out.c1⟩ | exact ⟨(B4a.out.lit _).box.c0, (B4a.out.lit _).box.c1⟩
    clear hKq Kq
    (try simp only [Act.put, List.setIfInBounds_toArray, List.set_cons_zero, List.set_cons_succ])
    clear hHeld1
    refine wpAnyH_ready (rs := [6]) (by kernel_rfl) (by simp) ?_
    refine consH rfl (fun Kq hKq => ?_)
    go_simp
    refine (spec_among (w.heap.size + 1) a n cap _ _ 8 8 [1, 2, 0, 3, 24, 25, -1, 1] _ (by omega) (by omega) (ints_lit _ [1, 2, 0, 3, 24, 25, -1, 1] _ 8 rfl rfl) C4a.out.cur.ne (C4a.out.lit _).cur).mono ?_
    rintro e w5a ⟨⟨i5a, hi5a, rfl⟩, c5a, g5a⟩
    generalize nth _ i5a = vI at *
    have C5a := Lib.hid ((C4a.out.lit _).step c5a g5a)
    have B5a := Lib.hid ((B4a.out.lit _).other g5a (by omega) (by omega))
    have VL5a := Lib.hid (OwnA.other (OwnA.below VL4a.out (below_new _ _)) g5a (by omega))
    have hSS := And.intro B5a.out.box.c0 B5a.out.box.c1
    clear c5a g5a
    have e0 := B5a.out.res.c0
    have e1 := B5a.out.res.c1
    have f0 := B5a.out.res.f0
    have f1 := B5a.out.res.f1
    have HX := Lib.hid ((B5a.out.box.far (show w.heap.size ≠ tb by have := B5a.out.ge; omega) (i := 0) (.slice aP nP cP)).far (show w.heap.size ≠ tb by have := B5a.out.ge; omega) (i := 1) (.slice aW nW cW))
    have hr := B5a.out.res.set (.slice aP nP cP) (.slice aW nW cW)
    refine hKq.out _ _ ?_ (fun hHeld3 => ?_)
    · (try dsimp only); first | assumption | exact ⟨B3.out.drew.box.c0, B3.out.drew.box.c1⟩ | exact ⟨((B3.out.lit _).drew).box.c0, ((B3.out.lit _).drew).box.c1⟩ | exact ⟨HX.out.c0, HX.out.c1⟩ | exact ⟨(B4a.out.lit _).box.c0, (B4a.out.lit _).box.c1⟩
    clear hKq Kq
    (try simp only [Act.put, List.setIfInBounds_toArray, List.set_cons_zero, List.set_cons_succ])
    clear hHeld2
    refine wpAnyH_ready (rs := [7]) (by kernel_rfl) (by simp) ?_
    refine consH rfl (fun Kq hKq => ?_)
    go_simp
    refine hKq.out _ _ ?_ (fun hHeld4 => ?_)
    · (try dsimp only); first | assumption | exact ⟨B3.out.drew.box.c0, B3.out.drew.box.c1⟩ | exact ⟨((B3.out.lit _).drew).box.c0, ((B3.out.lit _).drew).box.c1⟩ | exact ⟨HX.out.c0, HX.out.c1⟩ | exact ⟨(B4a.out.lit _).box.c0, (B4a.out.lit _).box.c1⟩
    clear hKq Kq
    (try simp only [Act.put, List.setIfInBounds_toArray, List.set_cons_zero, List.set_cons_succ])
    clear hHeld3
    refine takeH (i := 8) (oi := _) (v := ?_) rfl (by kernel_rfl) (by kernel_rfl) (by kernel_rfl) (fun _ _ _ h => h) (Or.inl ⟨by rfl, ?_⟩) (by assumption) ?_
    rotate_left
    · first | (intro w hSw; (try dsimp only at hSw); go_simp; done) | (intro w hSw; (try dsimp only at hSw); go_simp; with_reducible rfl)
    (try simp only [Act.put, List.setIfInBounds_toArray, List.set_cons_zero, List.set_cons_succ])
    refine takeH (i := 9) (oi := _) (v := ?_) rfl (by kernel_rfl) (by kernel_rfl) (by kernel_rfl) (fun _ _ _ h => h) (Or.inl ⟨by rfl, ?_⟩) (by assumption) ?_
    rotate_left
    · first | (intro w hSw; (try dsimp only at hSw); go_simp; done) | (intro w hSw; (try dsimp only at hSw); go_simp; with_reducible rfl)
    (try simp only [Act.put, List.setIfInBounds_toArray, List.set_cons_zero, List.set_cons_succ])
    refine wpAnyH_done (by kernel_rfl) ?_ _
    refine NoPanic.normal ?_
    have hbb := draw_below HB0.out C5a.out.grow (show w.heap.size ≤ w.heap.size + 1 by omega) (Nat.le_refl w.heap.size) (x := .slice aP nP cP) (y := .slice aW nW cW)
    have hTT := (B5a.out.t.res (rb := w.heap.size) (x := .slice aP nP cP) (y := .slice aW nW cW) (by omega)).mono (base' := w.heap.size) (by omega)
    have ZL := (((VL5a.out.res (rb := w.heap.size) (x := .slice aP nP cP) (y := .slice aW nW cW) (by omega)).mono (base' := w.heap.size) (by omega)))
    go_wp2_with fail
    exact bodyPost_ret (v := .tuple #[.agg #[.slice aP nP cP, .slice aW nW cW], vL, .int .i64 vI]) (by simp [results, Tryz.results60, go_sem, hr.1, hr.2]) rfl ⟨⟨_, rfl, _, _, _, _, _, _, ps, ws, _, _, rfl, hTT, ZL, trivial⟩, hbb⟩
  · go_simp
    refine hKq.out _ _ ?_ (fun hHeld1 => ?_)
    · (try dsimp only); first | assumption | exact ⟨B3.out.drew.box.c0, B3.out.drew.box.c1⟩ | exact ⟨((B3.out.lit _).drew).box.c0, ((B3.out.lit _).drew).box.c1⟩ | exact ⟨HX.out.c0, HX.out.c1⟩ | exact ⟨(B4a.out.lit _).box.c0, (B4a.out.lit _).box.c1⟩
    clear hKq Kq
    (try simp only [Act.put, List.setIfInBounds_toArray, List.set_cons_zero, List.set_cons_succ])
    clear hHeld0
    refine wpAnyH_ready (rs := [3]) (by kernel_rfl) (by simp) ?_
    refine consH rfl (fun Kq hKq => ?_)
    go_simp
    refine (spec_pays (w.heap.size + 1) a n cap _ aP nP cP aW nW cW _ (by omega) hnP ((C3.out.lit _).drew).cur).mono ?_
    rintro e w4b ⟨⟨vL, rfl, o4b⟩, c4b, g4b⟩
    have C4b := Lib.hid (((C3.out.lit _).drew).step c4b g4b)
    have B4b := Lib.hid (((B3.out.lit _).drew).other g4b (by omega) (by omega))
    have I04b := Lib.hid (Ints.other (ints_lit _ [1, 2, 0, 3, 24, 25, -1, 1] _ 8 rfl rfl).drew g4b (by intro p hp; cases hp; show w3.heap.size ≠ _; have := C3.out.size; omega))
    have VL4b := Lib.hid ((o4b.mono ((C3.out.lit _).drew).size).more (show _ ≤ 40 by omega))
    have hSS := And.intro B4b.out.box.c0 B4b.out.box.c1
    clear c4b g4b o4b
    refine hKq.out _ _ ?_ (fun hHeld2 => ?_)
    · (try dsimp only); first | assumption | exact ⟨B3.out.drew.box.c0, B3.out.drew.box.c1⟩ | exact ⟨((B3.out.lit _).drew).box.c0, ((B3.out.lit _).drew).box.c1⟩ | exact ⟨HX.out.c0, HX.out.c1⟩ | exact ⟨(B4a.out.lit _).box.c0, (B4a.out.lit _).box.c1⟩
    clear hKq Kq
    (try simp only [Act.put, List.setIfInBounds_toArray, List.set_cons_zero, List.set_cons_succ])
    clear hHeld1
    refine wpAnyH_ready (rs := [6]) (by kernel_rfl) (by simp) ?_
    refine consH rfl (fun Kq hKq => ?_)
    go_simp
    refine (spec_among (w.heap.size + 1) a n cap _ _ 8 8 [1, 2, 0, 3, 24, 25, -1, 1] _ (by omega) (by omega) I04b.out (by intro p hp; cases hp; show w3.heap.size ≠ _; have := C3.out.size; omega) C4b.out.cur).mono ?_
    rintro e w5b ⟨⟨i5b, hi5b, rfl⟩, c5b, g5b⟩
    generalize nth _ i5b = vI at *
    have C5b := Lib.hid (C4b.out.step c5b g5b)
    have B5b := Lib.hid (B4b.out.other g5b (by omega) (by omega))
    have VL5b := Lib.hid (OwnA.other VL4b.out g5b (by omega))
    have hSS := And.intro B5b.out.box.c0 B5b.out.box.c1
    clear c5b g5b
    have e0 := B5b.out.res.c0
    have e1 := B5b.out.res.c1
    have f0 := B5b.out.res.f0
    have f1 := B5b.out.res.f1
    have HX := Lib.hid ((B5b.out.box.far (show w.heap.size ≠ tb by have := B5b.out.ge; omega) (i := 0) (.slice aP nP cP)).far (show w.heap.size ≠ tb by have := B5b.out.ge; omega) (i := 1) (.slice aW nW cW))
    have hr := B5b.out.res.set (.slice aP nP cP) (.slice aW nW cW)
    refine hKq.out _ _ ?_ (fun hHeld3 => ?_)
    · (try dsimp only); first | assumption | exact ⟨B3.out.drew.box.c0, B3.out.drew.box.c1⟩ | exact ⟨((B3.out.lit _).drew).box.c0, ((B3.out.lit _).drew).box.c1⟩ | exact ⟨HX.out.c0, HX.out.c1⟩ | exact ⟨(B4a.out.lit _).box.c0, (B4a.out.lit _).box.c1⟩
    clear hKq Kq
    (try simp only [Act.put, List.setIfInBounds_toArray, List.set_cons_zero, List.set_cons_succ])
    clear hHeld2
    refine wpAnyH_ready (rs := [7]) (by kernel_rfl) (by simp) ?_
    refine consH rfl (fun Kq hKq => ?_)
    go_simp
    refine hKq.out _ _ ?_ (fun hHeld4 => ?_)
    · (try dsimp only); first | assumption | exact ⟨B3.out.drew.box.c0, B3.out.drew.box.c1⟩ | exact ⟨((B3.out.lit _).drew).box.c0, ((B3.out.lit _).drew).box.c1⟩ | exact ⟨HX.out.c0, HX.out.c1⟩ | exact ⟨(B4a.out.lit _).box.c0, (B4a.out.lit _).box.c1⟩
    clear hKq Kq
    (try simp only [Act.put, List.setIfInBounds_toArray, List.set_cons_zero, List.set_cons_succ])
    clear hHeld3
    refine takeH (i := 8) (oi := _) (v := ?_) rfl (by kernel_rfl) (by kernel_rfl) (by kernel_rfl) (fun _ _ _ h => h) (Or.inl ⟨by rfl, ?_⟩) (by assumption) ?_
    rotate_left
    · first | (intro w hSw; (try dsimp only at hSw); go_simp; done) | (intro w hSw; (try dsimp only at hSw); go_simp; with_reducible rfl)
    (try simp only [Act.put, List.setIfInBounds_toArray, List.set_cons_zero, List.set_cons_succ])
    refine takeH (i := 9) (oi := _) (v := ?_) rfl (by kernel_rfl) (by kernel_rfl) (by kernel_rfl) (fun _ _ _ h => h) (Or.inl ⟨by rfl, ?_⟩) (by assumption) ?_
    rotate_left
    · first | (intro w hSw; (try dsimp only at hSw); go_simp; done) | (intro w hSw; (try dsimp only at hSw); go_simp; with_reducible rfl)
    (try simp only [Act.put, List.setIfInBounds_toArray, List.set_cons_zero, List.set_cons_succ])
    refine wpAnyH_done (by kernel_rfl) ?_ _
    refine NoPanic.normal ?_
    have hbb := draw_below HB0.out C5b.out.grow (show w.heap.size ≤ w.heap.size + 1 by omega) (Nat.le_refl w.heap.size) (x := .slice aP nP cP) (y := .slice aW nW cW)
    have hTT := (B5b.out.t.res (rb := w.heap.size) (x := .slice aP nP cP) (y := .slice aW nW cW) (by omega)).mono (base' := w.heap.size) (by omega)
    have ZL := (((VL5b.out.res (rb := w.heap.size) (x := .slice aP nP cP) (y := .slice aW nW cW) (by omega)).mono (base' := w.heap.size) (by omega)))
    go_wp2_with fail
    exact bodyPost_ret (v := .tuple #[.agg #[.slice aP nP cP, .slice aW nW cW], vL, .int .i64 vI]) (by simp [results, Tryz.results60, go_sem, hr.1, hr.2]) rfl ⟨⟨_, rfl, _, _, _, _, _, _, ps, ws, _, _, rfl, hTT, ZL, trivial⟩, hbb⟩
set_option maxRecDepth 100000 in
set_option maxHeartbeats 2000000 in
theorem spec_DrawThresholdRule (a : Option Addr) (n cap : Nat) (w : World) (h : Bytes w a n) :
    Calls Tryz.prog 63 #[.slice a n cap] w fun e w' => (∃ v, e = .returned v ∧ DrTLI w' w.heap.size v (fun _ => True)) ∧ Below w.heap.size w w' := by
  have hb0 : Below w.heap.size w ((w.alloc (.cells #[.slice none 0 0, .slice none 0 0] 26)).alloc (.cells #[.slice a n cap, .int .i64 0, .int .u64 0] 69)) := (below_new w _).alloc (by simp) _
  have hc := Cur.new (cap := cap) 69 (h.below (below_new w (.cells #[.slice none 0 0, .slice none 0 0] 26)))
  have R0 := Lib.hid ((Pair.new w (.slice none 0 0) (.slice none 0 0) 26).alloc (.cells #[.slice a n cap, .int .i64 0, .int .u64 0] 69))
  have hs0 : ((w.alloc (.cells #[.slice none 0 0, .slice none 0 0] 26)).alloc (.cells #[.slice a n cap, .int .i64 0, .int .u64 0] 69)).heap.size = w.heap.size + 1 + 1 := by simp
  rw [show (w.alloc (.cells #[.slice none 0 0, .slice none 0 0] 26)).heap.size = w.heap.size + 1 by simp] at hc
  have C0 := Lib.hid (Cq.start hc)
  clear hc h
  go_enter Tryz.func63, Tryz.ntmps63
  go_wp2_with fail
  generalize ((w.alloc (.cells #[.slice none 0 0, .slice none 0 0] 26)).alloc (.cells #[.slice a n cap, .int .i64 0, .int .u64 0] 69)) = w0 at *
  have hg0 : w.heap.size + 1 < w0.heap.size := by omega
  have HB0 := Lib.hid hb0
  clear hs0 hb0
  refine (spec_tree (w.heap.size + 1) a n cap 0 _ (by omega) C0.out.cur).mono ?_
  rintro e w1 ⟨⟨v, rfl, aP, nP, cP, aW, nW, cW, ps, ws, rfl, hD⟩, c1, g1⟩
  have C1 := Lib.hid (C0.out.step c1 g1)
  have R1 := Lib.hid (pair_other R0.out g1 (by omega))
  have HD := Lib.hid hD
  have hs1 := C1.out.size
  have hP5 := Pair.new w1 (.slice none 0 0) (.slice none 0 0) 26
  have x0 := hP5.c0
  have x1 := hP5.c1
  have y0 := hP5.f0
  have y1 := hP5.f1
  clear c1 g1 hD hP5 R0 C0
  have B3 := Lib.hid (bx_new 26 HD.out hs1 R1.out (by omega))
  have C3 := Lib.hid (C1.out.lit (.cells #[.slice aP nP cP, .slice aW nW cW] 26))
  have hnP := HD.out.pn
  go_wp2_with fail
  clear x0 x1 y0 y1 R1 HD C1
  generalize (w1.alloc (.cells #[.slice aP nP cP, .slice aW nW cW] 26)) = w3 at *
  generalize w1.heap.size = tb at *
  have c0 := B3.out.box.c0
  have c1 := B3.out.box.c1
  refine wp_region_noPanic ?_
  refine wp_region_held_drew (S := (fun W' => W'.cell? ⟨tb, 0, none⟩ = some (.slice aP nP cP) ∧ W'.cell? ⟨tb, 1, none⟩ = some (.slice aW nW cW))) (by kernel_rfl) ?_ (fun hHeld0 => ?_)
  · (try dsimp only); first | assumption | exact ⟨B3.out.drew.box.c0, B3.out.drew.box.c1⟩ | exact ⟨((B3.out.lit _).drew).box.c0, ((B3.out.lit _).drew).box.c1⟩ | exact ⟨HX.out.c0, HX.out.c1⟩ | exact ⟨(B4a.out.lit _).box.c0, (B4a.out.lit _).box.c1⟩
  refine takeH (i := 0) (oi := _) (v := ?_) rfl (by kernel_rfl) (by kernel_rfl) (by kernel_rfl) (fun _ _ _ h => h) (Or.inl ⟨by rfl, ?_⟩) (by assumption) ?_
  rotate_left
  · first | (intro w hSw; (try dsimp only at hSw); go_simp; done) | (intro w hSw; (try dsimp only at hSw); go_simp; with_reducible rfl)
  (try simp only [Act.put, List.setIfInBounds_toArray, List.set_cons_zero, List.set_cons_succ])
  refine takeH (i := 1) (oi := _) (v := ?_) rfl (by kernel_rfl) (by kernel_rfl) (by kernel_rfl) (fun _ _ _ h => h) (Or.inl ⟨by rfl, ?_⟩) (by assumption) ?_
  rotate_left
  · first | (intro w hSw; (try dsimp only at hSw); go_simp; done) | (intro w hSw; (try dsimp only at hSw); go_simp; with_reducible rfl)
  (try simp only [Act.put, List.setIfInBounds_toArray, List.set_cons_zero, List.set_cons_succ])
  refine takeH (i := 2) (oi := _) (v := ?_) rfl (by kernel_rfl) (by kernel_rfl) (by kernel_rfl) (fun _ _ _ h => h) (Or.inl ⟨by rfl, ?_⟩) (by assumption) ?_
  rotate_left
  · first | (intro w hSw; (try dsimp only at hSw); go_simp; done) | (intro w hSw; (try dsimp only at hSw); go_simp; with_reducible rfl)
  (try simp only [Act.put, List.setIfInBounds_toArray, List.set_cons_zero, List.set_cons_succ])
  refine takeH (i := 4) (oi := _) (v := ?_) rfl (by kernel_rfl) (by kernel_rfl) (by kernel_rfl) (fun _ _ _ h => h) (Or.inl ⟨by rfl, ?_⟩) (by assumption) ?_
  rotate_left
  · first | (intro w hSw; (try dsimp only at hSw); go_simp; done) | (intro w hSw; (try dsimp only at hSw); go_simp; with_reducible rfl)
  (try simp only [Act.put, List.setIfInBounds_toArray, List.set_cons_zero, List.set_cons_succ])
  refine wpAnyH_ready (rs := [3, 5]) (by kernel_rfl) (by simp) ?_
  refine consM rfl (fun Kq hKq => ?_) (consH rfl (fun Kq hKq => ?_))
  · go_simp
    refine (spec_pays (w.heap.size + 1) a n cap _ aP nP cP aW nW cW _ (by omega) hnP (C3.out.drew).cur).mono ?_
    rintro e w4a ⟨⟨vL, rfl, o4a⟩, c4a, g4a⟩
    have C4a := Lib.hid ((C3.out.drew).step c4a g4a)
    have B4a := Lib.hid ((B3.out.drew).other g4a (by omega) (by omega))
    have VL4a := Lib.hid ((o4a.mono (C3.out.drew).size).more (show _ ≤ 40 by omega))
    have hSS := And.intro B4a.out.box.c0 B4a.out.box.c1
    clear c4a g4a o4a
    refine hKq.out _ _ ?_ (fun hHeld1 => ?_)
    · (try dsimp only); first | assumption | exact ⟨B3.out.drew.box.c0, B3.out.drew.box.c1⟩ | exact ⟨((B3.out.lit _).drew).box.c0, ((B3.out.lit _).drew).box.c1⟩ | exact ⟨HX.out.c0, HX.out.c1⟩ | exact ⟨(B4a.out.lit _).box.c0, (B4a.out.lit _).box.c1⟩
    clear hKq Kq
    (try simp only [Act.put, List.setIfInBounds_toArray, List.set_cons_zero, List.set_cons_succ])
    clear hHeld0
    refine wpAnyH_ready (rs := [5]) (by kernel_rfl) (by simp) ?_
    refine consH rfl (fun Kq hKq => ?_)
    go_simp
    refine hKq.out _ _ ?_ (fun hHeld2 => ?_)
    · (try dsimp only); first | assumption | exact ⟨B3.out.drew.box.c0, B3.out.drew.box.c1⟩ | exact ⟨((B3.out.lit _).drew).box.c0, ((B3.out.lit _).drew).box.c1⟩ | exact ⟨HX.out.c0, HX.out.c1⟩ | exact ⟨(B4a.out.lit _).box.c0, (B4a.out.lit _).box.c1⟩
    clear hKq Kq
    (try simp only [Act.put, List.setIfInBounds_toArray, List.set_cons_zero, List.set_cons_succ])
    clear hHeld1
    refine wpAnyH_ready (rs := [6]) (by kernel_rfl) (by simp) ?_
    refine consH rfl (fun Kq hKq => ?_)
    go_simp
    refine (spec_among (w.heap.size + 1) a n cap _ _ 11 11 [0, 1, 2, 5, -1, -3, 10, 999, 1000, -1000, 4611686018427387904] _ (by omega) (by omega) (ints_lit _ [0, 1, 2, 5, -1, -3, 10, 999, 1000, -1000, 4611686018427387904] _ 11 rfl rfl) C4a.out.cur.ne (C4a.out.lit _).cur).mono ?_
    rintro e w5a ⟨⟨i5a, hi5a, rfl⟩, c5a, g5a⟩
    generalize nth _ i5a = vI at *
    have C5a := Lib.hid ((C4a.out.lit _).step c5a g5a)
    have B5a := Lib.hid ((B4a.out.lit _).other g5a (by omega) (by omega))
    have VL5a := Lib.hid (OwnA.other (OwnA.below VL4a.out (below_new _ _)) g5a (by omega))
    have hSS := And.intro B5a.out.box.c0 B5a.out.box.c1
    clear c5a g5a
    have e0 := B5a.out.res.c0
    have e1 := B5a.out.res.c1
    have f0 := B5a.out.res.f0
    have f1 := B5a.out.res.f1
    have HX := Lib.hid ((B5a.out.box.far (show w.heap.size ≠ tb by have := B5a.out.ge; omega) (i := 0) (.slice aP nP cP)).far (show w.heap.size ≠ tb by have := B5a.out.ge; omega) (i := 1) (.slice aW nW cW))
    have hr := B5a.out.res.set (.slice aP nP cP) (.slice aW nW cW)
    refine hKq.out _ _ ?_ (fun hHeld3 => ?_)
    · (try dsimp only); first | assumption | exact ⟨B3.out.drew.box.c0, B3.out.drew.box.c1⟩ | exact ⟨((B3.out.lit _).drew).box.c0, ((B3.out.lit _).drew).box.c1⟩ | exact ⟨HX.out.c0, HX.out.c1⟩ | exact ⟨(B4a.out.lit _).box.c0, (B4a.out.lit _).box.c1⟩
    clear hKq Kq
    (try simp only [Act.put, List.setIfInBounds_toArray, List.set_cons_zero, List.set_cons_succ])
    clear hHeld2
    refine wpAnyH_ready (rs := [7]) (by kernel_rfl) (by simp) ?_
    refine consH rfl (fun Kq hKq => ?_)
    go_simp
    refine hKq.out _ _ ?_ (fun hHeld4 => ?_)
    · (try dsimp only); first | assumption | exact ⟨B3.out.drew.box.c0, B3.out.drew.box.c1⟩ | exact ⟨((B3.out.lit _).drew).box.c0, ((B3.out.lit _).drew).box.c1⟩ | exact ⟨HX.out.c0, HX.out.c1⟩ | exact ⟨(B4a.out.lit _).box.c0, (B4a.out.lit _).box.c1⟩
    clear hKq Kq
    (try simp only [Act.put, List.setIfInBounds_toArray, List.set_cons_zero, List.set_cons_succ])
    clear hHeld3
    refine takeH (i := 8) (oi := _) (v := ?_) rfl (by kernel_rfl) (by kernel_rfl) (by kernel_rfl) (fun _ _ _ h => h) (Or.inl ⟨by rfl, ?_⟩) (by assumption) ?_
    rotate_left
    · first | (intro w hSw; (try dsimp only at hSw); go_simp; done) | (intro w hSw; (try dsimp only at hSw); go_simp; with_reducible rfl)
    (try simp only [Act.put, List.setIfInBounds_toArray, List.set_cons_zero, List.set_cons_succ])
    refine takeH (i := 9) (oi := _) (v := ?_) rfl (by kernel_rfl) (by kernel_rfl) (by kernel_rfl) (fun _ _ _ h => h) (Or.inl ⟨by rfl, ?_⟩) (by assumption) ?_
    rotate_left
    · first | (intro w hSw; (try dsimp only at hSw); go_simp; done) | (intro w hSw; (try dsimp only at hSw); go_simp; with_reducible rfl)
    (try simp only [Act.put, List.setIfInBounds_toArray, List.set_cons_zero, List.set_cons_succ])
    refine wpAnyH_done (by kernel_rfl) ?_ _
    refine NoPanic.normal ?_
    have hbb := draw_below HB0.out C5a.out.grow (show w.heap.size ≤ w.heap.size + 1 by omega) (Nat.le_refl w.heap.size) (x := .slice aP nP cP) (y := .slice aW nW cW)
    have hTT := (B5a.out.t.res (rb := w.heap.size) (x := .slice aP nP cP) (y := .slice aW nW cW) (by omega)).mono (base' := w.heap.size) (by omega)
    have ZL := (((VL5a.out.res (rb := w.heap.size) (x := .slice aP nP cP) (y := .slice aW nW cW) (by omega)).mono (base' := w.heap.size) (by omega)))
    go_wp2_with fail
    exact bodyPost_ret (v := .tuple #[.agg #[.slice aP nP cP, .slice aW nW cW], vL, .int .i64 vI]) (by simp [results, Tryz.results63, go_sem, hr.1, hr.2]) rfl ⟨⟨_, rfl, _, _, _, _, _, _, ps, ws, _, _, rfl, hTT, ZL, trivial⟩, hbb⟩
  · go_simp
    refine hKq.out _ _ ?_ (fun hHeld1 => ?_)
    · (try dsimp only); first | assumption | exact ⟨B3.out.drew.box.c0, B3.out.drew.box.c1⟩ | exact ⟨((B3.out.lit _).drew).box.c0, ((B3.out.lit _).drew).box.c1⟩ | exact ⟨HX.out.c0, HX.out.c1⟩ | exact ⟨(B4a.out.lit _).box.c0, (B4a.out.lit _).box.c1⟩
    clear hKq Kq
    (try simp only [Act.put, List.setIfInBounds_toArray, List.set_cons_zero, List.set_cons_succ])
    clear hHeld0
    refine wpAnyH_ready (rs := [3]) (by kernel_rfl) (by simp) ?_
    refine consH rfl (fun Kq hKq => ?_)
    go_simp
    refine (spec_pays (w.heap.size + 1) a n cap _ aP nP cP aW nW cW _ (by omega) hnP ((C3.out.lit _).drew).cur).mono ?_
    rintro e w4b ⟨⟨vL, rfl, o4b⟩, c4b, g4b⟩
    have C4b := Lib.hid (((C3.out.lit _).drew).step c4b g4b)
    have B4b := Lib.hid (((B3.out.lit _).drew).other g4b (by omega) (by omega))
    have I04b := Lib.hid (Ints.other (ints_lit _ [0, 1, 2, 5, -1, -3, 10, 999, 1000, -1000, 4611686018427387904] _ 11 rfl rfl).drew g4b (by intro p hp; cases hp; show w3.heap.size ≠ _; have := C3.out.size; omega))
    have VL4b := Lib.hid ((o4b.mono ((C3.out.lit _).drew).size).more (show _ ≤ 40 by omega))
    have hSS := And.intro B4b.out.box.c0 B4b.out.box.c1
    clear c4b g4b o4b
    refine hKq.out _ _ ?_ (fun hHeld2 => ?_)
    · (try dsimp only); first | assumption | exact ⟨B3.out.drew.box.c0, B3.out.drew.box.c1⟩ | exact ⟨((B3.out.lit _).drew).box.c0, ((B3.out.lit _).drew).box.c1⟩ | exact ⟨HX.out.c0, HX.out.c1⟩ | exact ⟨(B4a.out.lit _).box.c0, (B4a.out.lit _).box.c1⟩
    clear hKq Kq
    (try simp only [Act.put, List.setIfInBounds_toArray, List.set_cons_zero, List.set_cons_succ])
    clear hHeld1
    refine wpAnyH_ready (rs := [6]) (by kernel_rfl) (by simp) ?_
    refine consH rfl (fun Kq hKq => ?_)
    go_simp
    refine (spec_among (w.heap.size + 1) a n cap _ _ 11 11 [0, 1, 2, 5, -1, -3, 10, 999, 1000, -1000, 4611686018427387904] _ (by omega) (by omega) I04b.out (by intro p hp; cases hp; show w3.heap.size ≠ _; have := C3.out.size; omega) C4b.out.cur).mono ?_
    rintro e w5b ⟨⟨i5b, hi5b, rfl⟩, c5b, g5b⟩
    generalize nth _ i5b = vI at *
    have C5b := Lib.hid (C4b.out.step c5b g5b)
    have B5b := Lib.hid (B4b.out.other g5b (by omega) (by omega))
    have VL5b := Lib.hid (OwnA.other VL4b.out g5b (by omega))
    have hSS := And.intro B5b.out.box.c0 B5b.out.box.c1
    clear c5b g5b
    have e0 := B5b.out.res.c0
    have e1 := B5b.out.res.c1
    have f0 := B5b.out.res.f0
    have f1 := B5b.out.res.f1
    have HX := Lib.hid ((B5b.out.box.far (show w.heap.size ≠ tb by have := B5b.out.ge; omega) (i := 0) (.slice aP nP cP)).far (show w.heap.size ≠ tb by have := B5b.out.ge; omega) (i := 1) (.slice aW nW cW))
    have hr := B5b.out.res.set (.slice aP nP cP) (.slice aW nW cW)
    refine hKq.out _ _ ?_ (fun hHeld3 => ?_)
    · (try dsimp only); first | assumption | exact ⟨B3.out.drew.box.c0, B3.out.drew.box.c1⟩ | exact ⟨((B3.out.lit _).drew).box.c0, ((B3.out.lit _).drew).box.c1⟩ | exact ⟨HX.out.c0, HX.out.c1⟩ | exact ⟨(B4a.out.lit _).box.c0, (B4a.out.lit _).box.c1⟩
    clear hKq Kq
    (try simp only [Act.put, List.setIfInBounds_toArray, List.set_cons_zero, List.set_cons_succ])
    clear hHeld2
    refine wpAnyH_ready (rs := [7]) (by kernel_rfl) (by simp) ?_
    refine consH rfl (fun Kq hKq => ?_)
    go_simp
    refine hKq.out _ _ ?_ (fun hHeld4 => ?_)
    · (try dsimp only); first | assumption | exact ⟨B3.out.drew.box.c0, B3.out.drew.box.c1⟩ | exact ⟨((B3.out.lit _).drew).box.c0, ((B3.out.lit _).drew).box.c1⟩ | exact ⟨HX.out.c0, HX.out.c1⟩ | exact ⟨(B4a.out.lit _).box.c0, (B4a.out.lit _).box.c1⟩
    clear hKq Kq
    (try simp only [Act.put, List.setIfInBounds_toArray, List.set_cons_zero, List.set_cons_succ])
    clear hHeld3
    refine takeH (i := 8) (oi := _) (v := ?_) rfl (by kernel_rfl) (by kernel_rfl) (by kernel_rfl) (fun _ _ _ h => h) (Or.inl ⟨by rfl, ?_⟩) (by assumption) ?_
    rotate_left
    · first | (intro w hSw; (try dsimp only at hSw); go_simp; done) | (intro w hSw; (try dsimp only at hSw); go_simp; with_reducible rfl)
    (try simp only [Act.put, List.setIfInBounds_toArray, List.set_cons_zero, List.set_cons_succ])
    refine takeH (i := 9) (oi := _) (v := ?_) rfl (by kernel_rfl) (by kernel_rfl) (by kernel_rfl) (fun _ _ _ h => h) (Or.inl ⟨by rfl, ?_⟩) (by assumption) ?_
    rotate_left
    · first | (intro w hSw; (try dsimp only at hSw); go_simp; done) | (intro w hSw; (try dsimp only at hSw); go_simp; with_reducible rfl)
    (try simp only [Act.put, List.setIfInBounds_toArray, List.set_cons_zero, List.set_cons_succ])
    refine wpAnyH_done (by kernel_rfl) ?_ _
    refine NoPanic.normal ?_
    have hbb := draw_below HB0.out C5b.out.grow (show w.heap.size ≤ w.heap.size + 1 by omega) (Nat.le_refl w.heap.size) (x := .slice aP nP cP) (y := .slice aW nW cW)
    have hTT := (B5b.out.t.res (rb := w.heap.size) (x := .slice aP nP cP) (y := .slice aW nW cW) (by omega)).mono (base' := w.heap.size) (by omega)
    have ZL := (((VL5b.out.res (rb := w.heap.size) (x := .slice aP nP cP) (y := .slice aW nW cW) (by omega)).mono (base' := w.heap.size) (by omega)))
    go_wp2_with fail
    exact bodyPost_ret (v := .tuple #[.agg #[.slice aP nP cP, .slice aW nW cW], vL, .int .i64 vI]) (by simp [results, Tryz.results63, go_sem, hr.1, hr.2]) rfl ⟨⟨_, rfl, _, _, _, _, _, _, ps, ws, _, _, rfl, hTT, ZL, trivial⟩, hbb⟩
set_option maxRecDepth 100000 in
set_option maxHeartbeats 2000000 in
theorem spec_DrawDoCover (a : Option Addr) (n cap : Nat) (w : World) (h : Bytes w a n) :
    Calls Tryz.prog 43 #[.slice a n cap] w fun e w' => (∃ v, e = .returned v ∧ DrTLS w' w.heap.size v) ∧ Below w.heap.size w w' := by
  have hb0 : Below w.heap.size w ((w.alloc (.cells #[.slice none 0 0, .slice none 0 0] 26)).alloc (.cells #[.slice a n cap, .int .i64 0, .int .u64 0] 69)) := (below_new w _).alloc (by simp) _
  have hc := Cur.new (cap := cap) 69 (h.below (below_new w (.cells #[.slice none 0 0, .slice none 0 0] 26)))
  have R0 := Lib.hid ((Pair.new w (.slice none 0 0) (.slice none 0 0) 26).alloc (.cells #[.slice a n cap, .int .i64 0, .int .u64 0] 69))
  have hs0 : ((w.alloc (.cells #[.slice none 0 0, .slice none 0 0] 26)).alloc (.cells #[.slice a n cap, .int .i64 0, .int .u64 0] 69)).heap.size = w.heap.size + 1 + 1 := by simp
  rw [show (w.alloc (.cells #[.slice none 0 0, .slice none 0 0] 26)).heap.size = w.heap.size + 1 by simp] at hc
  have C0 := Lib.hid (Cq.start hc)
  clear hc h
  go_enter Tryz.func43, Tryz.ntmps43
  go_wp2_with fail
  generalize ((w.alloc (.cells #[.slice none 0 0, .slice none 0 0] 26)).alloc (.cells #[.slice a n cap, .int .i64 0, .int .u64 0] 69)) = w0 at *
  have hg0 : w.heap.size + 1 < w0.heap.size := by omega
  have HB0 := Lib.hid hb0
  clear hs0 hb0
  refine (spec_tree (w.heap.size + 1) a n cap 0 _ (by omega) C0.out.cur).mono ?_
  rintro e w1 ⟨⟨v, rfl, aP, nP, cP, aW, nW, cW, ps, ws, rfl, hD⟩, c1, g1⟩
  have C1 := Lib.hid (C0.out.step c1 g1)
  have R1 := Lib.hid (pair_other R0.out g1 (by omega))
  have HD := Lib.hid hD
  have hs1 := C1.out.size
  have hP5 := Pair.new w1 (.slice none 0 0) (.slice none 0 0) 26
  have x0 := hP5.c0
  have x1 := hP5.c1
  have y0 := hP5.f0
  have y1 := hP5.f1
  clear c1 g1 hD hP5 R0 C0
  have B3 := Lib.hid (bx_new 26 HD.out hs1 R1.out (by omega))
  have C3 := Lib.hid (C1.out.lit (.cells #[.slice aP nP cP, .slice aW nW cW] 26))
  have hnP := HD.out.pn
  go_wp2_with fail
  clear x0 x1 y0 y1 R1 HD C1
  generalize (w1.alloc (.cells #[.slice aP nP cP, .slice aW nW cW] 26)) = w3 at *
  generalize w1.heap.size = tb at *
  have c0 := B3.out.box.c0
  have c1 := B3.out.box.c1
  refine (spec_pays (w.heap.size + 1) a n cap _ aP nP cP aW nW cW _ (by omega) hnP C3.out.cur).mono ?_
  rintro e w4 ⟨⟨vL, rfl, xs, oL, hxl⟩, cc4, gg4⟩
  have C4 := Lib.hid (C3.out.step cc4 gg4)
  have B4 := Lib.hid (B3.out.other gg4 (by omega) (by omega))
  obtain ⟨aL, cL, rfl⟩ := oL.shape
  obtain ⟨nL, hnL⟩ : ∃ z, z = xs.length := ⟨_, rfl⟩
  rw [← hnL] at oL ⊢
  have hnL2 : nL ≤ 31 := by omega
  have HOL := Lib.hid (oL.mono C3.out.size)
  have HxL := Lib.hid hxl
  have hs4 := C4.out.size
  have d0 := B4.out.box.c0
  have d1 := B4.out.box.c1
  clear cc4 gg4 c0 c1 oL hxl hnL B3 C3
  go_wp2_with fail
  refine (spec_LeastCaps _ _ _ _ _ _ ps ws _ _ _ xs _ B4.out.t.tre HOL.out.ints HOL.out.cap.2.1 (by omega)).mono ?_
  rintro e w5 ⟨v5, rfl, o5, b5⟩
  have C5 := Lib.hid ((Cq.start C4.out.cur).below b5)
  obtain ⟨caps, hcaps⟩ : ∃ z, z = lcV ps ws xs := ⟨_, rfl⟩
  have hcl : caps.length ≤ 24 := by
    rw [hcaps, lcV]
    split
    · rename_i hpy
      rw [capW_length]; exact (paysB_t hpy).1.n24
    · simp
  rw [← hcaps] at o5
  obtain ⟨m, hm⟩ : ∃ z, z = caps.length := ⟨_, rfl⟩
  obtain ⟨aC, co, hv⟩ := o5.shape
  rw [← hm] at hv
  subst hv
  have OC5 := Lib.hid o5
  have Hm := Lib.hid hm
  have hm24 : m ≤ 24 := by omega
  generalize paysB ps ws xs = okk at *
  clear o5 b5 hcaps hm hcl d0 d1
  by_cases hm0 : (m : Int) > 0
  · obtain ⟨go, co', hv, hgo, hgl⟩ := OC5.out.form (by have := Hm.out; omega)
    rw [← Hm.out] at hv
    obtain ⟨rfl, -, rfl⟩ := Value.slice.inj hv
    clear hv
    go_wp2_with fail
    refine (spec_pick (w.heap.size + 1) a n cap _ _ _ (by omega) (by omega) C5.out.cur).mono ?_
    rintro e w6 ⟨⟨x0, rfl, hx0, hx1⟩, c6, g6⟩
    obtain ⟨X, rfl⟩ : ∃ X : Nat, x0 = X := ⟨x0.toNat, by omega⟩
    have hX : X < m := by omega
    have C6 := Lib.hid (C5.out.step c6 g6)
    have OC6 := Lib.hid (own_other OC5.out g6 (by omega))
    clear c6 g6 hx0 hx1 C5 OC5
    go_wp2_with fail
    refine (spec_pick (w.heap.size + 1) a n cap _ _ _ (by omega) (by omega) C6.out.cur).mono ?_
    rintro e w7 ⟨⟨z, rfl, -, -⟩, c7, g7⟩
    have C7 := Lib.hid (C6.out.step c7 g7)
    have OC7 := Lib.hid (own_other OC6.out g7 (by omega))
    have hgo7 := OC7.out.lt.2
    clear c7 g7 C6 OC6
    have hcX := OC7.out.cell (i := X) (by have := Hm.out; omega)
    have r1 : (0 : Int) ≤ (X : Int) := by omega
    have r2 : (X : Int) < (m : Int) := by omega
    rcases (show z = 0 ∨ z = 1 ∨ z = 2 ∨ z = 3 ∨ (z ≠ 0 ∧ z ≠ 1 ∧ z ≠ 2 ∧ z ≠ 3) by omega) with rfl | rfl | rfl | rfl | hz
    · go_wp2_with fail
      refine wp_region_noPanic ?_
      refine wp_region_held_drew (S := (fun _ => True)) (by kernel_rfl) ?_ (fun hHeld0 => ?_)
      · trivial
      refine takeH (i := 0) (oi := _) (v := ?_) rfl (by kernel_rfl) (by kernel_rfl) (by kernel_rfl) (fun _ _ _ h => h) (Or.inl ⟨by rfl, ?_⟩) (by assumption) ?_
      rotate_left
      · first | (intro w hSw; (try dsimp only at hSw); go_simp; done) | (intro w hSw; (try dsimp only at hSw); go_simp; with_reducible rfl)
      (try simp only [Act.put, List.setIfInBounds_toArray, List.set_cons_zero, List.set_cons_succ])
      refine takeH (i := 1) (oi := _) (v := ?_) rfl (by kernel_rfl) (by kernel_rfl) (by kernel_rfl) (fun _ _ _ h => h) (Or.inl ⟨by rfl, ?_⟩) (by assumption) ?_
      rotate_left
      · first | (intro w hSw; (try dsimp only at hSw); go_simp; done) | (intro w hSw; (try dsimp only at hSw); go_simp; with_reducible rfl)
      (try simp only [Act.put, List.setIfInBounds_toArray, List.set_cons_zero, List.set_cons_succ])
      refine takeH (i := 2) (oi := _) (v := ?_) rfl (by kernel_rfl) (by kernel_rfl) (by kernel_rfl) (fun _ _ _ h => h) (Or.inl ⟨by rfl, ?_⟩) (by assumption) ?_
      rotate_left
      · first | (intro w hSw; (try dsimp only at hSw); go_simp; done) | (intro w hSw; (try dsimp only at hSw); go_simp; with_reducible rfl)
      (try simp only [Act.put, List.setIfInBounds_toArray, List.set_cons_zero, List.set_cons_succ])
      refine takeH (i := 3) (oi := _) (v := ?_) rfl (by kernel_rfl) (by kernel_rfl) (by kernel_rfl) (fun _ _ _ h => h) (Or.inl ⟨by rfl, ?_⟩) (by assumption) ?_
      rotate_left
      · first | (intro w hSw; (try dsimp only at hSw); go_simp; done) | (intro w hSw; (try dsimp only at hSw); go_simp; with_reducible rfl)
      (try simp only [Act.put, List.setIfInBounds_toArray, List.set_cons_zero, List.set_cons_succ])
      refine takeH (i := 4) (oi := _) (v := ?_) rfl (by kernel_rfl) (by kernel_rfl) (by kernel_rfl) (fun _ _ _ h => h) (Or.inl ⟨by rfl, ?_⟩) (by assumption) ?_
      rotate_left
      · first | (intro w hSw; (try dsimp only at hSw); go_simp; done) | (intro w hSw; (try dsimp only at hSw); go_simp; with_reducible rfl)
      (try simp only [Act.put, List.setIfInBounds_toArray, List.set_cons_zero, List.set_cons_succ])
      refine takeH (i := 6) (oi := _) (v := ?_) rfl (by kernel_rfl) (by kernel_rfl) (by kernel_rfl) (fun _ _ _ h => h) (Or.inl ⟨by rfl, ?_⟩) (by assumption) ?_
      rotate_left
      · first | (intro w hSw; (try dsimp only at hSw); go_simp; done) | (intro w hSw; (try dsimp only at hSw); go_simp; with_reducible rfl)
      (try simp only [Act.put, List.setIfInBounds_toArray, List.set_cons_zero, List.set_cons_succ])
      refine wpAnyH_ready (rs := [5, 7]) (by kernel_rfl) (by simp) ?_
      refine consM rfl (fun Kq hKq => ?_) (consH rfl (fun Kq hKq => ?_))
      · go_simp
        refine hKq.out _ _ ?_ (fun hHeld1 => ?_)
        · trivial
        clear hKq Kq
        (try simp only [Act.put, List.setIfInBounds_toArray, List.set_cons_zero, List.set_cons_succ])
        clear hHeld0
        refine wpAnyH_ready (rs := [7]) (by kernel_rfl) (by simp) ?_
        refine consH rfl (fun Kq hKq => ?_)
        go_simp
        refine hKq.out _ _ ?_ (fun hHeld2 => ?_)
        · trivial
        clear hKq Kq
        (try simp only [Act.put, List.setIfInBounds_toArray, List.set_cons_zero, List.set_cons_succ])
        clear hHeld1
        refine wpAnyH_ready (rs := [8]) (by kernel_rfl) (by simp) ?_
        refine consH rfl (fun Kq hKq => ?_)
        go_simp
        refine (spec_among (w.heap.size + 1) a n cap _ _ 2 2 [1, -1] _ (by omega) (by omega) (ints_lit _ [1, -1] _ 2 rfl rfl).drew C7.out.cur.ne (C7.out.lit _).drew.cur).mono ?_
        rintro e w8 ⟨⟨i8, hi8, rfl⟩, c8, g8⟩
        generalize nth _ i8 = dv at *
        have C8 := Lib.hid ((C7.out.lit _).drew.step c8 g8)
        have o8 := own_other (OC7.out.lit _).drew g8 (by omega)
        have h8c := o8.cell (i := X) (by have := Hm.out; omega)
        have h8f := o8.free Hm.out X
        have OC8 := Lib.hid o8
        clear c8 g8 o8
        refine hKq.out _ _ ?_ (fun hHeld3 => ?_)
        · trivial
        clear hKq Kq
        (try simp only [Act.put, List.setIfInBounds_toArray, List.set_cons_zero, List.set_cons_succ])
        clear hHeld2
        refine takeH (i := 9) (oi := _) (v := ?_) rfl (by kernel_rfl) (by kernel_rfl) (by kernel_rfl) (fun _ _ _ h => h) (Or.inl ⟨by rfl, ?_⟩) (by assumption) ?_
        rotate_left
        · first | (intro w hSw; (try dsimp only at hSw); go_simp; done) | (intro w hSw; (try dsimp only at hSw); go_simp; with_reducible rfl)
        (try simp only [Act.put, List.setIfInBounds_toArray, List.set_cons_zero, List.set_cons_succ])
        refine takeH (i := 10) (oi := _) (v := ?_) rfl (by kernel_rfl) (by kernel_rfl) (by kernel_rfl) (fun _ _ _ h => h) (Or.inl ⟨by rfl, ?_⟩) (by assumption) ?_
        rotate_left
        · first | (intro w hSw; (try dsimp only at hSw); go_simp; done) | (intro w hSw; (try dsimp only at hSw); go_simp; with_reducible rfl)
        (try simp only [Act.put, List.setIfInBounds_toArray, List.set_cons_zero, List.set_cons_succ])
        refine wpAnyH_ready (rs := [11]) (by kernel_rfl) (by simp) ?_
        refine consH rfl (fun Kq hKq => ?_)
        go_simp
        refine hKq.out _ _ ?_ (fun hHeld4 => ?_)
        · trivial
        clear hKq Kq
        (try simp only [Act.put, List.setIfInBounds_toArray, List.set_cons_zero, List.set_cons_succ])
        clear hHeld3
        refine wpAnyH_done (by kernel_rfl) ?_ _
        refine NoPanic.normal ?_
        have C9 := Lib.hid (fun u : Value => Two.setC (i := X) C8.out (show w4.heap.size ≤ go from hgo) u)
        have OC9 := Lib.hid (fun u => OC8.out.set Hm.out X u)
        obtain ⟨us, hus⟩ : ∃ us, IntKind.i64.wrap (nth caps X + dv) = us := ⟨_, rfl⟩
        have CF := Lib.hid (C9.out (.int .i64 us))
        have hlis := OwnA.lis (⟨_, OC9.out us, by rw [List.length_set]; have := Hm.out; omega⟩ : OwnA _ w4.heap.size (.slice (some ⟨go, 0, none⟩) m co) 40)
        have hF := B4.out.other CF.out.grow (by omega) (by omega)
        have d0 := hF.box.c0
        have d1 := hF.box.c1
        have e0 := hF.res.c0
        have e1 := hF.res.c1
        have f0 := hF.res.f0
        have f1 := hF.res.f1
        have hr := hF.res.set (.slice aP nP cP) (.slice aW nW cW)
        have hbb := draw_below HB0.out (C4.out.grow.trans CF.out.grow) (show w.heap.size ≤ w.heap.size + 1 by omega) (Nat.le_refl w.heap.size) (x := .slice aP nP cP) (y := .slice aW nW cW)
        have hTT := (hF.t.res (rb := w.heap.size) (x := .slice aP nP cP) (y := .slice aW nW cW) (by omega)).mono (base' := w.heap.size) (by omega)
        have hVL := ((own_other HOL.out CF.out.grow (by omega)))
        have hLL : OwnA _ w.heap.size (.slice aL nL cL) 40 := ⟨_, (own_res (rb := w.heap.size) (x := .slice aP nP cP) (y := .slice aW nW cW) hVL (by omega)).mono (base' := w.heap.size) (by omega), by have := HxL.out; omega⟩
        have hCC := (LisA.res (rb := w.heap.size) (x := .slice aP nP cP) (y := .slice aW nW cW) hlis (by omega)).mono (base' := w.heap.size) (by omega)
        have HZ := Lib.hid (And.intro hbb (And.intro hTT (And.intro hLL hCC)))
        clear hlis hbb hTT hLL hCC hVL hF
        go_wp2_with fail
        exact bodyPost_ret (v := .tuple #[.agg #[.slice aP nP cP, .slice aW nW cW], .slice aL nL cL, .slice (some ⟨go, 0, none⟩) m co]) (by simp [results, Tryz.results43, go_sem, hr.1, hr.2]) rfl ⟨⟨_, rfl, _, _, _, _, _, _, ps, ws, _, _, rfl, HZ.out.2.1, HZ.out.2.2.1, HZ.out.2.2.2⟩, HZ.out.1⟩
      · go_simp
        refine hKq.out _ _ ?_ (fun hHeld1 => ?_)
        · trivial
        clear hKq Kq
        (try simp only [Act.put, List.setIfInBounds_toArray, List.set_cons_zero, List.set_cons_succ])
        clear hHeld0
        refine wpAnyH_ready (rs := [5, 8]) (by kernel_rfl) (by simp) ?_
        refine consM rfl (fun Kq hKq => ?_) (consH rfl (fun Kq hKq => ?_))
        · go_simp
          refine hKq.out _ _ ?_ (fun hHeld2 => ?_)
          · trivial
          clear hKq Kq
          (try simp only [Act.put, List.setIfInBounds_toArray, List.set_cons_zero, List.set_cons_succ])
          clear hHeld1
          refine wpAnyH_ready (rs := [8]) (by kernel_rfl) (by simp) ?_
          refine consH rfl (fun Kq hKq => ?_)
          go_simp
          refine (spec_among (w.heap.size + 1) a n cap _ _ 2 2 [1, -1] _ (by omega) (by omega) (ints_lit _ [1, -1] _ 2 rfl rfl).drew C7.out.cur.ne (C7.out.lit _).drew.cur).mono ?_
          rintro e w8 ⟨⟨i8, hi8, rfl⟩, c8, g8⟩
          generalize nth _ i8 = dv at *
          have C8 := Lib.hid ((C7.out.lit _).drew.step c8 g8)
          have o8 := own_other (OC7.out.lit _).drew g8 (by omega)
          have h8c := o8.cell (i := X) (by have := Hm.out; omega)
          have h8f := o8.free Hm.out X
          have OC8 := Lib.hid o8
          clear c8 g8 o8
          refine hKq.out _ _ ?_ (fun hHeld3 => ?_)
          · trivial
          clear hKq Kq
          (try simp only [Act.put, List.setIfInBounds_toArray, List.set_cons_zero, List.set_cons_succ])
          clear hHeld2
          refine takeH (i := 9) (oi := _) (v := ?_) rfl (by kernel_rfl) (by kernel_rfl) (by kernel_rfl) (fun _ _ _ h => h) (Or.inl ⟨by rfl, ?_⟩) (by assumption) ?_
          rotate_left
          · first | (intro w hSw; (try dsimp only at hSw); go_simp; done) | (intro w hSw; (try dsimp only at hSw); go_simp; with_reducible rfl)
          (try simp only [Act.put, List.setIfInBounds_toArray, List.set_cons_zero, List.set_cons_succ])
          refine takeH (i := 10) (oi := _) (v := ?_) rfl (by kernel_rfl) (by kernel_rfl) (by kernel_rfl) (fun _ _ _ h => h) (Or.inl ⟨by rfl, ?_⟩) (by assumption) ?_
          rotate_left
          · first | (intro w hSw; (try dsimp only at hSw); go_simp; done) | (intro w hSw; (try dsimp only at hSw); go_simp; with_reducible rfl)
          (try simp only [Act.put, List.setIfInBounds_toArray, List.set_cons_zero, List.set_cons_succ])
          refine wpAnyH_ready (rs := [11]) (by kernel_rfl) (by simp) ?_
          refine consH rfl (fun Kq hKq => ?_)
          go_simp
          refine hKq.out _ _ ?_ (fun hHeld4 => ?_)
          · trivial
          clear hKq Kq
          (try simp only [Act.put, List.setIfInBounds_toArray, List.set_cons_zero, List.set_cons_succ])
          clear hHeld3
          refine wpAnyH_done (by kernel_rfl) ?_ _
          refine NoPanic.normal ?_
          have C9 := Lib.hid (fun u : Value => Two.setC (i := X) C8.out (show w4.heap.size ≤ go from hgo) u)
          have OC9 := Lib.hid (fun u => OC8.out.set Hm.out X u)
          obtain ⟨us, hus⟩ : ∃ us, IntKind.i64.wrap (nth caps X + dv) = us := ⟨_, rfl⟩
          have CF := Lib.hid (C9.out (.int .i64 us))
          have hlis := OwnA.lis (⟨_, OC9.out us, by rw [List.length_set]; have := Hm.out; omega⟩ : OwnA _ w4.heap.size (.slice (some ⟨go, 0, none⟩) m co) 40)
          have hF := B4.out.other CF.out.grow (by omega) (by omega)
          have d0 := hF.box.c0
          have d1 := hF.box.c1
          have e0 := hF.res.c0
          have e1 := hF.res.c1
          have f0 := hF.res.f0
          have f1 := hF.res.f1
          have hr := hF.res.set (.slice aP nP cP) (.slice aW nW cW)
          have hbb := draw_below HB0.out (C4.out.grow.trans CF.out.grow) (show w.heap.size ≤ w.heap.size + 1 by omega) (Nat.le_refl w.heap.size) (x := .slice aP nP cP) (y := .slice aW nW cW)
          have hTT := (hF.t.res (rb := w.heap.size) (x := .slice aP nP cP) (y := .slice aW nW cW) (by omega)).mono (base' := w.heap.size) (by omega)
          have hVL := ((own_other HOL.out CF.out.grow (by omega)))
          have hLL : OwnA _ w.heap.size (.slice aL nL cL) 40 := ⟨_, (own_res (rb := w.heap.size) (x := .slice aP nP cP) (y := .slice aW nW cW) hVL (by omega)).mono (base' := w.heap.size) (by omega), by have := HxL.out; omega⟩
          have hCC := (LisA.res (rb := w.heap.size) (x := .slice aP nP cP) (y := .slice aW nW cW) hlis (by omega)).mono (base' := w.heap.size) (by omega)
          have HZ := Lib.hid (And.intro hbb (And.intro hTT (And.intro hLL hCC)))
          clear hlis hbb hTT hLL hCC hVL hF
          go_wp2_with fail
          exact bodyPost_ret (v := .tuple #[.agg #[.slice aP nP cP, .slice aW nW cW], .slice aL nL cL, .slice (some ⟨go, 0, none⟩) m co]) (by simp [results, Tryz.results43, go_sem, hr.1, hr.2]) rfl ⟨⟨_, rfl, _, _, _, _, _, _, ps, ws, _, _, rfl, HZ.out.2.1, HZ.out.2.2.1, HZ.out.2.2.2⟩, HZ.out.1⟩
        · go_simp
          refine (spec_among (w.heap.size + 1) a n cap _ _ 2 2 [1, -1] _ (by omega) (by omega) (ints_lit _ [1, -1] _ 2 rfl rfl).drew C7.out.cur.ne (C7.out.lit _).drew.cur).mono ?_
          rintro e w8 ⟨⟨i8, hi8, rfl⟩, c8, g8⟩
          generalize nth _ i8 = dv at *
          have C8 := Lib.hid ((C7.out.lit _).drew.step c8 g8)
          have o8 := own_other (OC7.out.lit _).drew g8 (by omega)
          have h8c := o8.cell (i := X) (by have := Hm.out; omega)
          have h8f := o8.free Hm.out X
          have OC8 := Lib.hid o8
          clear c8 g8 o8
          refine hKq.out _ _ ?_ (fun hHeld2 => ?_)
          · trivial
          clear hKq Kq
          (try simp only [Act.put, List.setIfInBounds_toArray, List.set_cons_zero, List.set_cons_succ])
          clear hHeld1
          refine wpAnyH_ready (rs := [5]) (by kernel_rfl) (by simp) ?_
          refine consH rfl (fun Kq hKq => ?_)
          go_simp
          refine hKq.out _ _ ?_ (fun hHeld3 => ?_)
          · trivial
          clear hKq Kq
          (try simp only [Act.put, List.setIfInBounds_toArray, List.set_cons_zero, List.set_cons_succ])
          clear hHeld2
          refine takeH (i := 9) (oi := _) (v := ?_) rfl (by kernel_rfl) (by kernel_rfl) (by kernel_rfl) (fun _ _ _ h => h) (Or.inl ⟨by rfl, ?_⟩) (by assumption) ?_
          rotate_left
          · first | (intro w hSw; (try dsimp only at hSw); go_simp; done) | (intro w hSw; (try dsimp only at hSw); go_simp; with_reducible rfl)
          (try simp only [Act.put, List.setIfInBounds_toArray, List.set_cons_zero, List.set_cons_succ])
          refine takeH (i := 10) (oi := _) (v := ?_) rfl (by kernel_rfl) (by kernel_rfl) (by kernel_rfl) (fun _ _ _ h => h) (Or.inl ⟨by rfl, ?_⟩) (by assumption) ?_
          rotate_left
          · first | (intro w hSw; (try dsimp only at hSw); go_simp; done) | (intro w hSw; (try dsimp only at hSw); go_simp; with_reducible rfl)
          (try simp only [Act.put, List.setIfInBounds_toArray, List.set_cons_zero, List.set_cons_succ])
          refine wpAnyH_ready (rs := [11]) (by kernel_rfl) (by simp) ?_
          refine consH rfl (fun Kq hKq => ?_)
          go_simp
          refine hKq.out _ _ ?_ (fun hHeld4 => ?_)
          · trivial
          clear hKq Kq
          (try simp only [Act.put, List.setIfInBounds_toArray, List.set_cons_zero, List.set_cons_succ])
          clear hHeld3
          refine wpAnyH_done (by kernel_rfl) ?_ _
          refine NoPanic.normal ?_
          have C9 := Lib.hid (fun u : Value => Two.setC (i := X) C8.out (show w4.heap.size ≤ go from hgo) u)
          have OC9 := Lib.hid (fun u => OC8.out.set Hm.out X u)
          obtain ⟨us, hus⟩ : ∃ us, IntKind.i64.wrap (nth caps X + dv) = us := ⟨_, rfl⟩
          have CF := Lib.hid (C9.out (.int .i64 us))
          have hlis := OwnA.lis (⟨_, OC9.out us, by rw [List.length_set]; have := Hm.out; omega⟩ : OwnA _ w4.heap.size (.slice (some ⟨go, 0, none⟩) m co) 40)
          have hF := B4.out.other CF.out.grow (by omega) (by omega)
          have d0 := hF.box.c0
          have d1 := hF.box.c1
          have e0 := hF.res.c0
          have e1 := hF.res.c1
          have f0 := hF.res.f0
          have f1 := hF.res.f1
          have hr := hF.res.set (.slice aP nP cP) (.slice aW nW cW)
          have hbb := draw_below HB0.out (C4.out.grow.trans CF.out.grow) (show w.heap.size ≤ w.heap.size + 1 by omega) (Nat.le_refl w.heap.size) (x := .slice aP nP cP) (y := .slice aW nW cW)
          have hTT := (hF.t.res (rb := w.heap.size) (x := .slice aP nP cP) (y := .slice aW nW cW) (by omega)).mono (base' := w.heap.size) (by omega)
          have hVL := ((own_other HOL.out CF.out.grow (by omega)))
          have hLL : OwnA _ w.heap.size (.slice aL nL cL) 40 := ⟨_, (own_res (rb := w.heap.size) (x := .slice aP nP cP) (y := .slice aW nW cW) hVL (by omega)).mono (base' := w.heap.size) (by omega), by have := HxL.out; omega⟩
          have hCC := (LisA.res (rb := w.heap.size) (x := .slice aP nP cP) (y := .slice aW nW cW) hlis (by omega)).mono (base' := w.heap.size) (by omega)
          have HZ := Lib.hid (And.intro hbb (And.intro hTT (And.intro hLL hCC)))
          clear hlis hbb hTT hLL hCC hVL hF
          go_wp2_with fail
          exact bodyPost_ret (v := .tuple #[.agg #[.slice aP nP cP, .slice aW nW cW], .slice aL nL cL, .slice (some ⟨go, 0, none⟩) m co]) (by simp [results, Tryz.results43, go_sem, hr.1, hr.2]) rfl ⟨⟨_, rfl, _, _, _, _, _, _, ps, ws, _, _, rfl, HZ.out.2.1, HZ.out.2.2.1, HZ.out.2.2.2⟩, HZ.out.1⟩
    · clear hcX
      go_wp2_with fail
      refine (among_lit (w.heap.size + 1) a n cap _ [1000000000, 1000000001, -1000000001, 4611686018427387904] _ 4 _ (by omega) rfl rfl (by omega) C7.out.cur).mono ?_
      rintro e w8 ⟨⟨i8, hi8, rfl⟩, c8, g8⟩
      generalize nth _ i8 = dv at *
      have C8 := Lib.hid (C7.out.step c8 g8)
      have o8 := own_other OC7.out g8 (by omega)
      have h8c := o8.cell (i := X) (by have := Hm.out; omega)
      have h8f := o8.free Hm.out X
      have OC9 := Lib.hid (o8.set Hm.out X dv)
      have CF := Lib.hid (Two.setC (i := X) C8.out (show w4.heap.size ≤ go from hgo) (.int .i64 dv))
      clear c8 g8 o8
      go_upto_region 16 with fail
      have hlis := OwnA.lis (⟨_, OC9.out, by rw [List.length_set]; have := Hm.out; omega⟩ : OwnA _ w4.heap.size (.slice (some ⟨go, 0, none⟩) m co) 40)
      have hF := B4.out.other CF.out.grow (by omega) (by omega)
      have d0 := hF.box.c0
      have d1 := hF.box.c1
      have e0 := hF.res.c0
      have e1 := hF.res.c1
      have f0 := hF.res.f0
      have f1 := hF.res.f1
      have hr := hF.res.set (.slice aP nP cP) (.slice aW nW cW)
      have hbb := draw_below HB0.out (C4.out.grow.trans CF.out.grow) (show w.heap.size ≤ w.heap.size + 1 by omega) (Nat.le_refl w.heap.size) (x := .slice aP nP cP) (y := .slice aW nW cW)
      have hTT := (hF.t.res (rb := w.heap.size) (x := .slice aP nP cP) (y := .slice aW nW cW) (by omega)).mono (base' := w.heap.size) (by omega)
      have hVL := ((own_other HOL.out CF.out.grow (by omega)))
      have hLL : OwnA _ w.heap.size (.slice aL nL cL) 40 := ⟨_, (own_res (rb := w.heap.size) (x := .slice aP nP cP) (y := .slice aW nW cW) hVL (by omega)).mono (base' := w.heap.size) (by omega), by have := HxL.out; omega⟩
      have hCC := (LisA.res (rb := w.heap.size) (x := .slice aP nP cP) (y := .slice aW nW cW) hlis (by omega)).mono (base' := w.heap.size) (by omega)
      have HZ := Lib.hid (And.intro hbb (And.intro hTT (And.intro hLL hCC)))
      clear hlis hbb hTT hLL hCC hVL hF
      go_wp2_with fail
      exact bodyPost_ret (v := .tuple #[.agg #[.slice aP nP cP, .slice aW nW cW], .slice aL nL cL, .slice (some ⟨go, 0, none⟩) m co]) (by simp [results, Tryz.results43, go_sem, hr.1, hr.2]) rfl ⟨⟨_, rfl, _, _, _, _, _, _, ps, ws, _, _, rfl, HZ.out.2.1, HZ.out.2.2.1, HZ.out.2.2.2⟩, HZ.out.1⟩
    · have r3 : 0 < m := by omega
      have r4 : (0 : Int) < (m : Int) := by omega
      have h7c := OC7.out.cell (i := 0) (by have := Hm.out; omega)
      have h7f := OC7.out.free Hm.out 0
      clear hcX
      obtain ⟨us, hus⟩ : ∃ us, IntKind.i64.wrap (nth caps 0 + 5) = us := ⟨_, rfl⟩
      have OC9 := Lib.hid (OC7.out.set Hm.out 0 us)
      have CF := Lib.hid (Two.setC (i := 0) C7.out (show w4.heap.size ≤ go from hgo) (.int .i64 us))
      go_upto_region 16 with fail
      have hlis := OwnA.lis (⟨_, OC9.out, by rw [List.length_set]; have := Hm.out; omega⟩ : OwnA _ w4.heap.size (.slice (some ⟨go, 0, none⟩) m co) 40)
      have hF := B4.out.other CF.out.grow (by omega) (by omega)
      have d0 := hF.box.c0
      have d1 := hF.box.c1
      have e0 := hF.res.c0
      have e1 := hF.res.c1
      have f0 := hF.res.f0
      have f1 := hF.res.f1
      have hr := hF.res.set (.slice aP nP cP) (.slice aW nW cW)
      have hbb := draw_below HB0.out (C4.out.grow.trans CF.out.grow) (show w.heap.size ≤ w.heap.size + 1 by omega) (Nat.le_refl w.heap.size) (x := .slice aP nP cP) (y := .slice aW nW cW)
      have hTT := (hF.t.res (rb := w.heap.size) (x := .slice aP nP cP) (y := .slice aW nW cW) (by omega)).mono (base' := w.heap.size) (by omega)
      have hVL := ((own_other HOL.out CF.out.grow (by omega)))
      have hLL : OwnA _ w.heap.size (.slice aL nL cL) 40 := ⟨_, (own_res (rb := w.heap.size) (x := .slice aP nP cP) (y := .slice aW nW cW) hVL (by omega)).mono (base' := w.heap.size) (by omega), by have := HxL.out; omega⟩
      have hCC := (LisA.res (rb := w.heap.size) (x := .slice aP nP cP) (y := .slice aW nW cW) hlis (by omega)).mono (base' := w.heap.size) (by omega)
      have HZ := Lib.hid (And.intro hbb (And.intro hTT (And.intro hLL hCC)))
      clear hlis hbb hTT hLL hCC hVL hF
      go_wp2_with fail
      exact bodyPost_ret (v := .tuple #[.agg #[.slice aP nP cP, .slice aW nW cW], .slice aL nL cL, .slice (some ⟨go, 0, none⟩) m co]) (by simp [results, Tryz.results43, go_sem, hr.1, hr.2]) rfl ⟨⟨_, rfl, _, _, _, _, _, _, ps, ws, _, _, rfl, HZ.out.2.1, HZ.out.2.2.1, HZ.out.2.2.2⟩, HZ.out.1⟩
    · have hcap := OC7.out.cap.1
      have hcap2 := OC7.out.cap.2.2.2
      have r3 : (1 : Int) ≤ (m : Int) := by omega
      have r4 : (m : Int) ≤ (co : Int) := by omega
      clear hcX
      have CF := C7
      by_cases hc1 : co = 1
      · have hm1 : m = 1 := by omega
        subst hc1
        subst hm1
        go_upto_region 16 with fail
        have hlis := (⟨some ⟨go, 0, none⟩, 0, 0, [], rfl, ints_nil _ _, by omega, (fun h => by cases h), fun p hp => by cases hp; exact hgo⟩ : LisA w7 w4.heap.size (.slice (some ⟨go, 0, none⟩) 0 0) 40)
        have hF := B4.out.other CF.out.grow (by omega) (by omega)
        have d0 := hF.box.c0
        have d1 := hF.box.c1
        have e0 := hF.res.c0
        have e1 := hF.res.c1
        have f0 := hF.res.f0
        have f1 := hF.res.f1
        have hr := hF.res.set (.slice aP nP cP) (.slice aW nW cW)
        have hbb := draw_below HB0.out (C4.out.grow.trans CF.out.grow) (show w.heap.size ≤ w.heap.size + 1 by omega) (Nat.le_refl w.heap.size) (x := .slice aP nP cP) (y := .slice aW nW cW)
        have hTT := (hF.t.res (rb := w.heap.size) (x := .slice aP nP cP) (y := .slice aW nW cW) (by omega)).mono (base' := w.heap.size) (by omega)
        have hVL := ((own_other HOL.out CF.out.grow (by omega)))
        have hLL : OwnA _ w.heap.size (.slice aL nL cL) 40 := ⟨_, (own_res (rb := w.heap.size) (x := .slice aP nP cP) (y := .slice aW nW cW) hVL (by omega)).mono (base' := w.heap.size) (by omega), by have := HxL.out; omega⟩
        have hCC := (LisA.res (rb := w.heap.size) (x := .slice aP nP cP) (y := .slice aW nW cW) hlis (by omega)).mono (base' := w.heap.size) (by omega)
        have HZ := Lib.hid (And.intro hbb (And.intro hTT (And.intro hLL hCC)))
        clear hlis hbb hTT hLL hCC hVL hF
        go_wp2_with fail
        exact bodyPost_ret (v := .tuple #[.agg #[.slice aP nP cP, .slice aW nW cW], .slice aL nL cL, .slice (some ⟨go, 0, none⟩) 0 0]) (by simp [results, Tryz.results43, go_sem, hr.1, hr.2]) rfl ⟨⟨_, rfl, _, _, _, _, _, _, ps, ws, _, _, rfl, HZ.out.2.1, HZ.out.2.2.1, HZ.out.2.2.2⟩, HZ.out.1⟩
      · go_upto_region 16 with fail
        have hlis := (⟨some ⟨go, 0 + 1, none⟩, m - 1, co - 1, _, rfl, OC7.out.ints.rest (by omega), by omega, (fun h => by cases h), fun p hp => by cases hp; exact hgo⟩ : LisA w7 w4.heap.size (.slice (some ⟨go, 0 + 1, none⟩) (m - 1) (co - 1)) 40)
        have hF := B4.out.other CF.out.grow (by omega) (by omega)
        have d0 := hF.box.c0
        have d1 := hF.box.c1
        have e0 := hF.res.c0
        have e1 := hF.res.c1
        have f0 := hF.res.f0
        have f1 := hF.res.f1
        have hr := hF.res.set (.slice aP nP cP) (.slice aW nW cW)
        have hbb := draw_below HB0.out (C4.out.grow.trans CF.out.grow) (show w.heap.size ≤ w.heap.size + 1 by omega) (Nat.le_refl w.heap.size) (x := .slice aP nP cP) (y := .slice aW nW cW)
        have hTT := (hF.t.res (rb := w.heap.size) (x := .slice aP nP cP) (y := .slice aW nW cW) (by omega)).mono (base' := w.heap.size) (by omega)
        have hVL := ((own_other HOL.out CF.out.grow (by omega)))
        have hLL : OwnA _ w.heap.size (.slice aL nL cL) 40 := ⟨_, (own_res (rb := w.heap.size) (x := .slice aP nP cP) (y := .slice aW nW cW) hVL (by omega)).mono (base' := w.heap.size) (by omega), by have := HxL.out; omega⟩
        have hCC := (LisA.res (rb := w.heap.size) (x := .slice aP nP cP) (y := .slice aW nW cW) hlis (by omega)).mono (base' := w.heap.size) (by omega)
        have HZ := Lib.hid (And.intro hbb (And.intro hTT (And.intro hLL hCC)))
        clear hlis hbb hTT hLL hCC hVL hF
        go_wp2_with fail
        exact bodyPost_ret (v := .tuple #[.agg #[.slice aP nP cP, .slice aW nW cW], .slice aL nL cL, .slice (some ⟨go, 0 + 1, none⟩) (m - 1) (co - 1)]) (by simp [results, Tryz.results43, go_sem, hr.1, hr.2]) rfl ⟨⟨_, rfl, _, _, _, _, _, _, ps, ws, _, _, rfl, HZ.out.2.1, HZ.out.2.2.1, HZ.out.2.2.2⟩, HZ.out.1⟩
    · obtain ⟨z0, z1, z2, z3⟩ := hz
      have z0 : (z == 0) = false := by simpa using z0
      have z1 : (z == 1) = false := by simpa using z1
      have z2 : (z == 2) = false := by simpa using z2
      have z3 : (z == 3) = false := by simpa using z3
      clear hcX
      have CF := C7
      go_upto_region 16 with fail
      have hlis := OwnA.lis (⟨_, OC7.out, by have := Hm.out; omega⟩ : OwnA _ w4.heap.size (.slice (some ⟨go, 0, none⟩) m co) 40)
      have hF := B4.out.other CF.out.grow (by omega) (by omega)
      have d0 := hF.box.c0
      have d1 := hF.box.c1
      have e0 := hF.res.c0
      have e1 := hF.res.c1
      have f0 := hF.res.f0
      have f1 := hF.res.f1
      have hr := hF.res.set (.slice aP nP cP) (.slice aW nW cW)
      have hbb := draw_below HB0.out (C4.out.grow.trans CF.out.grow) (show w.heap.size ≤ w.heap.size + 1 by omega) (Nat.le_refl w.heap.size) (x := .slice aP nP cP) (y := .slice aW nW cW)
      have hTT := (hF.t.res (rb := w.heap.size) (x := .slice aP nP cP) (y := .slice aW nW cW) (by omega)).mono (base' := w.heap.size) (by omega)
      have hVL := ((own_other HOL.out CF.out.grow (by omega)))
      have hLL : OwnA _ w.heap.size (.slice aL nL cL) 40 := ⟨_, (own_res (rb := w.heap.size) (x := .slice aP nP cP) (y := .slice aW nW cW) hVL (by omega)).mono (base' := w.heap.size) (by omega), by have := HxL.out; omega⟩
      have hCC := (LisA.res (rb := w.heap.size) (x := .slice aP nP cP) (y := .slice aW nW cW) hlis (by omega)).mono (base' := w.heap.size) (by omega)
      have HZ := Lib.hid (And.intro hbb (And.intro hTT (And.intro hLL hCC)))
      clear hlis hbb hTT hLL hCC hVL hF
      go_wp2_with fail
      exact bodyPost_ret (v := .tuple #[.agg #[.slice aP nP cP, .slice aW nW cW], .slice aL nL cL, .slice (some ⟨go, 0, none⟩) m co]) (by simp [results, Tryz.results43, go_sem, hr.1, hr.2]) rfl ⟨⟨_, rfl, _, _, _, _, _, _, ps, ws, _, _, rfl, HZ.out.2.1, HZ.out.2.2.1, HZ.out.2.2.2⟩, HZ.out.1⟩
  · have CF := C5
    go_upto_region 16 with fail
    have hlis := OwnA.lis (⟨_, OC5.out, by have := Hm.out; omega⟩ : OwnA _ w4.heap.size (.slice aC m co) 40)
    have hF := B4.out.other CF.out.grow (by omega) (by omega)
    have d0 := hF.box.c0
    have d1 := hF.box.c1
    have e0 := hF.res.c0
    have e1 := hF.res.c1
    have f0 := hF.res.f0
    have f1 := hF.res.f1
    have hr := hF.res.set (.slice aP nP cP) (.slice aW nW cW)
    have hbb := draw_below HB0.out (C4.out.grow.trans CF.out.grow) (show w.heap.size ≤ w.heap.size + 1 by omega) (Nat.le_refl w.heap.size) (x := .slice aP nP cP) (y := .slice aW nW cW)
    have hTT := (hF.t.res (rb := w.heap.size) (x := .slice aP nP cP) (y := .slice aW nW cW) (by omega)).mono (base' := w.heap.size) (by omega)
    have hVL := ((own_other HOL.out CF.out.grow (by omega)))
    have hLL : OwnA _ w.heap.size (.slice aL nL cL) 40 := ⟨_, (own_res (rb := w.heap.size) (x := .slice aP nP cP) (y := .slice aW nW cW) hVL (by omega)).mono (base' := w.heap.size) (by omega), by have := HxL.out; omega⟩
    have hCC := (LisA.res (rb := w.heap.size) (x := .slice aP nP cP) (y := .slice aW nW cW) hlis (by omega)).mono (base' := w.heap.size) (by omega)
    have HZ := Lib.hid (And.intro hbb (And.intro hTT (And.intro hLL hCC)))
    clear hlis hbb hTT hLL hCC hVL hF
    go_wp2_with fail
    exact bodyPost_ret (v := .tuple #[.agg #[.slice aP nP cP, .slice aW nW cW], .slice aL nL cL, .slice aC m co]) (by simp [results, Tryz.results43, go_sem, hr.1, hr.2]) rfl ⟨⟨_, rfl, _, _, _, _, _, _, ps, ws, _, _, rfl, HZ.out.2.1, HZ.out.2.2.1, HZ.out.2.2.2⟩, HZ.out.1⟩

end Go.Proofs.YtnbomleieianoaaGreat
