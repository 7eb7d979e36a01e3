/- Contracts and plain laws for the statement FnDrifts, part 6. No conditions but those stated in each. -/
import Derived.Test.YtnbomleieianoaaBnFnDrifts5
import Derived.Test.YtnbomleieianoaaBnFnDrifts10
import Derived.Test.YtnbomleieianoaaBnFnDrifts2
/- Contract: a tree drawn by the cursor. No conditions but those stated. -/
namespace Go.Proofs.Ytnbomleieianoaa
open Go.RowKit

theorem Pair.sto0 {w : World} {g : Nat} {x y : Value} (h : Pair w g x y) (x' : Value) : Pair (w.setCell ⟨g, 0, none⟩ x') g x' y :=
  ⟨cell_set h.c0, by rw [World.cell?_setCell_other _ _ _ _ (by simp)]; exact h.c1, by simpa using h.f0, by simpa using h.f1⟩
theorem Pair.sto1 {w : World} {g : Nat} {x y : Value} (h : Pair w g x y) (y' : Value) : Pair (w.setCell ⟨g, 1, none⟩ y') g x y' :=
  ⟨by rw [World.cell?_setCell_other _ _ _ _ (by simp)]; exact h.c0, cell_set h.c1, by simpa using h.f0, by simpa using h.f1⟩
/-- The two slices of a tree that is being made, in the box tb, of the call's own and apart; the box for the result stands empty. -/
structure Two (w0 w : World) (tb : Nat) (vP vW : Value) (ps ws : List Int) : Prop where
  box : Pair w tb vP vW
  p : Own w (w0.heap.size + 1) vP ps
  q : Own w (w0.heap.size + 1) vW ws
  sPW : ∀ k, vP.ownBlock = some k → vW.ownBlock = some k → False
  sP : vP.ownBlock ≠ some tb
  sW : vW.ownBlock ≠ some tb
  ge : w0.heap.size + 1 ≤ tb
  res : Pair w w0.heap.size (.slice none 0 0) (.slice none 0 0)
theorem Two.below {w0 w w' : World} {tb : Nat} {vP vW : Value} {ps ws : List Int} (h : Two w0 w tb vP vW ps ws) (hb : Below w.heap.size w w') : Two w0 w' tb vP vW ps ws :=
  ⟨h.box.below hb, h.p.below hb, h.q.below hb, h.sPW, h.sP, h.sW, h.ge, h.res.below hb⟩
theorem Two.lit {w0 w : World} {tb : Nat} {vP vW : Value} {ps ws : List Int} (h : Two w0 w tb vP vW ps ws) (o : Obj) : Two w0 (w.alloc o) tb vP vW ps ws := h.below (below_new w o)
theorem Two.drew {w0 w : World} {tb : Nat} {vP vW : Value} {ps ws : List Int} (h : Two w0 w tb vP vW ps ws) : Two w0 w.drew tb vP vW ps ws := h.below (Below.refl _ _).drew
theorem Two.other {w0 w w' : World} {tb g : Nat} {vP vW : Value} {ps ws : List Int} (h : Two w0 w tb vP vW ps ws) (hg : w.grownBy w' (some g)) (hlt : g < w0.heap.size) : Two w0 w' tb vP vW ps ws :=
  ⟨pair_other h.box hg (by have := h.ge; omega), own_other h.p hg (by omega), own_other h.q hg (by omega), h.sPW, h.sP, h.sW, h.ge, pair_other h.res hg (by omega)⟩
/-- What an append to the first slice leaves, ahead of the store and behind it. -/
theorem Two.pushP {w0 w w' : World} {tb : Nat} {vP vW v' : Value} {ps ps' ws : List Int} (h : Two w0 w tb vP vW ps ws) (ho : Own w' (w0.heap.size + 1) v' ps') (hb : Below (w0.heap.size + 1) w w') (hm : Moved w vP w' v') :
    Pair w' tb vP vW ∧ Two w0 (w'.setCell ⟨tb, 0, none⟩ v') tb v' vW ps' ws := by
  have h1 := pair_moved h.box hm h.sP
  have h2 := (hm.2 tb h.box.lt h.sP).1
  have hw : Own w' (w0.heap.size + 1) vW ws := h.q.moved hm fun k h1 h2 => h.sPW k h2 h1
  refine ⟨h1, h1.sto0 v', ho.far (a := ⟨tb, 0, none⟩) h2 v', hw.far (a := ⟨tb, 0, none⟩) h.sW v', fun k h3 h4 => ?_, h2, h.sW, h.ge, ((h.res.up hb (by omega)).far (by have := h.ge; omega) v')⟩
  exact (hm.2 k (World.ownsRow.lt h.q k h4).2 (fun e => h.sPW k e h4)).1 h3
theorem Two.pushW {w0 w w' : World} {tb : Nat} {vP vW v' : Value} {ps ws ws' : List Int} (h : Two w0 w tb vP vW ps ws) (ho : Own w' (w0.heap.size + 1) v' ws') (hb : Below (w0.heap.size + 1) w w') (hm : Moved w vW w' v') :
    Pair w' tb vP vW ∧ Two w0 (w'.setCell ⟨tb, 1, none⟩ v') tb vP v' ps ws' := by
  have h1 := pair_moved h.box hm h.sW
  have h2 := (hm.2 tb h.box.lt h.sW).1
  have hp : Own w' (w0.heap.size + 1) vP ps := h.p.moved hm fun k h1 h2 => h.sPW k h1 h2
  refine ⟨h1, h1.sto1 v', hp.far (a := ⟨tb, 1, none⟩) h.sP v', ho.far (a := ⟨tb, 1, none⟩) h2 v', fun k h3 h4 => ?_, h.sP, h2, h.ge, ((h.res.up hb (by omega)).far (by have := h.ge; omega) v')⟩
  exact (hm.2 k (World.ownsRow.lt h.p k h3).2 (fun e => h.sPW k h3 e)).1 h4
/-- A number put into one of the slices. -/
theorem Two.setP {w0 w : World} {tb gp np cp : Nat} {vW : Value} {ps ws : List Int} (h : Two w0 w tb (.slice (some ⟨gp, 0, none⟩) np cp) vW ps ws) (hn : np = ps.length) (i : Nat) (u : Int) :
    Two w0 (w.setCell ⟨gp, i, none⟩ (.int .i64 u)) tb (.slice (some ⟨gp, 0, none⟩) np cp) vW (ps.set i u) ws := by
  have h1 : gp ≠ tb := fun e => h.sP (by rw [e]; rfl)
  have h2 := World.ownsRow.lt h.p gp rfl
  exact ⟨h.box.far h1 _, h.p.set hn i u, h.q.far (a := ⟨gp, i, none⟩) (fun e => h.sPW gp rfl e) _, h.sPW, h.sP, h.sW, h.ge, h.res.far (by omega) _⟩
theorem Two.setW {w0 w : World} {tb gw nw cw : Nat} {vP : Value} {ps ws : List Int} (h : Two w0 w tb vP (.slice (some ⟨gw, 0, none⟩) nw cw) ps ws) (hn : nw = ws.length) (i : Nat) (u : Int) :
    Two w0 (w.setCell ⟨gw, i, none⟩ (.int .i64 u)) tb vP (.slice (some ⟨gw, 0, none⟩) nw cw) ps (ws.set i u) := by
  have h1 : gw ≠ tb := fun e => h.sW (by rw [e]; rfl)
  have h2 := World.ownsRow.lt h.q gw rfl
  exact ⟨h.box.far h1 _, h.p.far (a := ⟨gw, i, none⟩) (fun e => h.sPW gw e rfl) _, h.q.set hn i u, h.sPW, h.sP, h.sW, h.ge, h.res.far (by omega) _⟩
/-- A new box for two new slices. -/
theorem two_new {w0 w : World} {vP vW : Value} {ps ws : List Int} (t : TypeId) (hp : Own w (w0.heap.size + 1) vP ps) (hw : Own w (w0.heap.size + 1) vW ws) (hs : ∀ k, vP.ownBlock = some k → vW.ownBlock = some k → False) (hr : Pair w w0.heap.size (.slice none 0 0) (.slice none 0 0)) :
    Two w0 (w.alloc (.cells #[vP, vW] t)) w.heap.size vP vW ps ws := by
  have hlt := hr.lt
  exact ⟨Pair.new w vP vW t, hp.lit _, hw.lit _, hs, fun e => by have := (World.ownsRow.lt hp _ e).2; omega, fun e => by have := (World.ownsRow.lt hw _ e).2; omega, hlt, hr.alloc _⟩
theorem Two.cq {w0 w : World} {g : Nat} {a : Option Addr} {n cap : Nat} {lim : Int} (hc : Cq w0 w g a n cap lim) {tb i : Nat} (h : w0.heap.size + 1 ≤ tb) (v : Value) : Cq w0 (w.setCell ⟨tb, i, none⟩ v) g a n cap lim :=
  hc.up (show Below w0.heap.size w (w.setCell ⟨tb, i, none⟩ v) from (Below.refl w0.heap.size w).setCell (show w0.heap.size ≤ tb by omega) v)
/-- A drawn tree. -/
def TreV (w : World) (base : Nat) (v : Value) : Prop := ∃ (aP : Option Addr) (nP cP : Nat) (aW : Option Addr) (nW cW : Nat) (ps ws : List Int), v = .agg #[.slice aP nP cP, .slice aW nW cW] ∧ DTre w base aP nP cP aW nW cW ps ws
theorem Two.done {w0 w : World} {tb nP cP nW cW : Nat} {aP aW : Option Addr} {ps ws : List Int} (h : Two w0 w tb (.slice aP nP cP) (.slice aW nW cW) ps ws) (h1 : nP ≤ 30) (h2 : nW ≤ 30) :
    TreV ((w.setCell ⟨w0.heap.size, 0, none⟩ (.slice aP nP cP)).setCell ⟨w0.heap.size, 1, none⟩ (.slice aW nW cW)) w0.heap.size (.agg #[.slice aP nP cP, .slice aW nW cW]) := by
  have hp : (Value.slice aP nP cP).ownBlock ≠ some w0.heap.size := fun e => by have := (World.ownsRow.lt h.p _ e).1; omega
  have hw : (Value.slice aW nW cW).ownBlock ≠ some w0.heap.size := fun e => by have := (World.ownsRow.lt h.q _ e).1; omega
  exact ⟨_, _, _, _, _, _, ps, ws, rfl, ((h.p.far (a := ⟨w0.heap.size, 0, none⟩) hp _).far (a := ⟨w0.heap.size, 1, none⟩) hp _).mono (by omega), ((h.q.far (a := ⟨w0.heap.size, 0, none⟩) hw _).far (a := ⟨w0.heap.size, 1, none⟩) hw _).mono (by omega), h1, h2⟩
theorem Two.doneC {w0 w : World} {g : Nat} {a : Option Addr} {n cap : Nat} {lim : Int} (hc : Cq w0 w g a n cap lim) (x y : Value) : Cq w0 ((w.setCell ⟨w0.heap.size, 0, none⟩ x).setCell ⟨w0.heap.size, 1, none⟩ y) g a n cap lim :=
  hc.up (show Below w0.heap.size w ((w.setCell ⟨w0.heap.size, 0, none⟩ x).setCell ⟨w0.heap.size, 1, none⟩ y) from ((Below.refl w0.heap.size w).setCell (Nat.le_refl _) x).setCell (Nat.le_refl _) y)
theorem Two.setC {w0 w : World} {g : Nat} {a : Option Addr} {n cap : Nat} {lim : Int} (hc : Cq w0 w g a n cap lim) {q i : Nat} (h : w0.heap.size ≤ q) (v : Value) : Cq w0 (w.setCell ⟨q, i, none⟩ v) g a n cap lim :=
  hc.up (show Below w0.heap.size w (w.setCell ⟨q, i, none⟩ v) from (Below.refl w0.heap.size w).setCell (show w0.heap.size ≤ q from h) v)
/-- Between the steps of the draw. -/
def SomeR (w wr : World) (g : Nat) (a : Option Addr) (n cap : Nat) (lim : Int) (tb np nw : Nat) : Prop :=
  ∃ (aP : Option Addr) (cP : Nat) (aW : Option Addr) (cW : Nat) (ps ws : List Int), Two w wr tb (.slice aP np cP) (.slice aW nw cW) ps ws ∧ Cq w wr g a n cap lim
theorem SomeR.mono {w wr : World} {g : Nat} {a : Option Addr} {n cap : Nat} {lim lim' : Int} {tb np nw : Nat} (h : SomeR w wr g a n cap lim tb np nw) (hl : lim ≤ lim') : SomeR w wr g a n cap lim' tb np nw := by
  obtain ⟨aP, cP, aW, cW, ps, ws, h1, h2⟩ := h; exact ⟨aP, cP, aW, cW, ps, ws, h1, h2.mono hl⟩
set_option maxRecDepth 100000 in
set_option maxHeartbeats 4000000 in
theorem spec_someTree (g : Nat) (a : Option Addr) (n cap : Nat) (lim : Int) (mx : Int) (w : World) (hl : lim ≤ 10000) (hmx : 1 ≤ mx ∧ mx ≤ 24) (h : Cur w g a n cap lim) :
    Calls Try.prog 142 #[.pointer (some ⟨g, 0, none⟩), .int .i64 mx] w fun e w' => (∃ v, e = .returned v ∧ TreV w' w.heap.size v) ∧ Cur w' g a n cap (lim + 400) ∧ w.grownBy w' (some g) := by
  have C0 := Lib.hid (((Cq.start h).lit (.cells #[.slice none 0 0, .slice none 0 0] 26)))
  have R0 := Lib.hid (Pair.new w (.slice none 0 0) (.slice none 0 0) 26)
  have hs1 : (w.alloc (.cells #[.slice none 0 0, .slice none 0 0] 26)).heap.size = w.heap.size + 1 := by simp
  have hgw := h.lt
  clear h
  go_enter Try.func142, Try.ntmps142
  go_wp2_with fail
  generalize (w.alloc (.cells #[.slice none 0 0, .slice none 0 0] 26)) = w1 at *
  have hn1 : Own ((w1.alloc (.cells #[.int .i64 (-1)] 3)).alloc (.cells #[] 3)) (w.heap.size + 1) (.slice (some ⟨w1.heap.size, 0, none⟩) 1 1) [-1] := by
    have := World.ownsRow_lit (size := 1) (e := 3) (base := w.heap.size + 1) w1 #[.int .i64 (-1)] 1 (by omega) (by simp [maxLen]) (by simp)
    exact Own.lit (xs := [-1]) this _
  have hn2 : Own ((w1.alloc (.cells #[.int .i64 (-1)] 3)).alloc (.cells #[] 3)) (w.heap.size + 1) (.slice (some ⟨w1.heap.size + 1, 0, none⟩) 0 0) [] := by
    have := (own_nil0 (w1.alloc (.cells #[.int .i64 (-1)] 3))).mono (base' := w.heap.size + 1) (by simp; omega)
    simpa using this
  have C2 := Lib.hid ((C0.out.lit (.cells #[.int .i64 (-1)] 3)).lit (.cells #[] 3))
  have R2 := Lib.hid ((R0.out.alloc (.cells #[.int .i64 (-1)] 3)).alloc (.cells #[] 3))
  have hs2 : ((w1.alloc (.cells #[.int .i64 (-1)] 3)).alloc (.cells #[] 3)).heap.size = w.heap.size + 1 + 1 + 1 := by simp; omega
  rw [hs1] at hn1 hn2
  have N1 := Lib.hid hn1
  have N2 := Lib.hid hn2
  clear hn1 hn2 C0 R0 hs1
  generalize ((w1.alloc (.cells #[.int .i64 (-1)] 3)).alloc (.cells #[] 3)) = w2 at *
  rw [← hs2]
  have hsz2 : w.heap.size < w2.heap.size := by omega
  clear hs2
  refine (among_lit g a n cap lim [5, 7, 4, 10, 3, 2, 1, 15, 24] _ 9 _ (by omega) rfl rfl (by omega) C2.out.cur).mono ?_
  rintro e w3 ⟨⟨i, hi, rfl⟩, c3, g3⟩
  have hM : 1 ≤ nth [5, 7, 4, 10, 3, 2, 1, 15, 24] i ∧ nth [5, 7, 4, 10, 3, 2, 1, 15, 24] i ≤ 24 := by
    rcases (show i = 0 ∨ i = 1 ∨ i = 2 ∨ i = 3 ∨ i = 4 ∨ i = 5 ∨ i = 6 ∨ i = 7 ∨ i = 8 by omega) with rfl | rfl | rfl | rfl | rfl | rfl | rfl | rfl | rfl <;> decide
  generalize nth [5, 7, 4, 10, 3, 2, 1, 15, 24] i = M at *
  have C3 := Lib.hid (C2.out.step c3 g3)
  have M1 := Lib.hid (own_other N1.out g3 (by omega))
  have M2 := Lib.hid (own_other N2.out g3 (by omega))
  have R3 := Lib.hid (pair_other R2.out g3 (by omega))
  clear c3 g3 N1 N2 R2 C2
  go_wp2_with fail
  refine (spec_l1Least _ _ _).mono ?_
  rintro e w4 ⟨rfl, rfl⟩
  obtain ⟨N, hN, hN1⟩ : ∃ N : Nat, least M mx = (N : Int) ∧ 1 ≤ N ∧ N ≤ 24 := ⟨(least M mx).toNat, by unfold least; omega, by unfold least; omega⟩
  rw [hN]
  clear hN
  go_wp2_with fail
  refine (spec_one g a n cap _ _ _ (by omega) (by omega) C3.out.cur).mono ?_
  rintro e w5 ⟨⟨wide, rfl⟩, c5, g5⟩
  have C5 := Lib.hid (C3.out.step c5 g5)
  have hT := two_new 26 (own_other M1.out g5 (by omega)) (own_other M2.out g5 (by omega)) (fun k h1 h2 => by simp [Value.ownBlock] at h1 h2; omega) (pair_other R3.out g5 (by omega))
  have hC := C5.out.lit (.cells #[.slice (some ⟨w.heap.size + 1, 0, none⟩) 1 1, .slice (some ⟨w.heap.size + 1 + 1, 0, none⟩) 0 0] 26)
  have h0 : SomeR w (w5.alloc (.cells #[.slice (some ⟨w.heap.size + 1, 0, none⟩) 1 1, .slice (some ⟨w.heap.size + 1 + 1, 0, none⟩) 0 0] 26)) g a n cap (lim + 10) w5.heap.size 1 0 := ⟨_, _, _, _, _, _, hT, hC.mono (by omega)⟩
  have H0 := Lib.hid h0
  have hP5 := Pair.new w5 (.slice none 0 0) (.slice none 0 0) 26
  have x0 := hP5.c0
  have x1 := hP5.c1
  have y0 := hP5.f0
  have y1 := hP5.f1
  clear c5 g5 hT hC M1 M2 R3 C3 hP5 h0
  go_wp2_with fail
  clear x0 x1 y0 y1
  generalize (w5.alloc (.cells #[.slice (some ⟨w.heap.size + 1, 0, none⟩) 1 1, .slice (some ⟨w.heap.size + 1 + 1, 0, none⟩) 0 0] 26)) = w6 at *
  clear C5
  generalize w5.heap.size = tb at *
  clear hM hi
  go_loopw [8] (fun v8 wr => ∃ x : Nat, 1 ≤ x ∧ x ≤ N ∧ v8 = .int .i64 (x : Int) ∧ SomeR w wr g a n cap (lim + 10 + 2 * (x : Int)) tb x 0) (fun v8 _ => N - (intOf v8).toNat)
  case atStart => exact ⟨1, Nat.le_refl _, hN1.1, rfl, H0.out.mono (by omega)⟩
  case round =>
    clear H0
    obtain ⟨x, hx1, hxN, rfl, hS⟩ := hrel
    by_cases hlt : (x : Int) < N
    · obtain ⟨aP, cP, aW, cW, ps, ws, hT, hC⟩ := hS
      have HT := Lib.hid hT
      have HC := Lib.hid hC
      clear hT hC
      go_wp2_with fail
      refine (spec_pick g a n cap _ _ _ (by omega) (by omega) HC.out.cur).mono ?_
      rintro e w7 ⟨⟨p, rfl, hp0, -⟩, c7, g7⟩
      have C7 := Lib.hid (HC.out.step c7 g7)
      have hT7 := HT.out.other g7 HC.out.glt
      have c0 := hT7.box.c0
      have hpl := hT7.p.ints.1
      have Hpl := Lib.hid hpl
      have hlt7 := hT7.box.lt
      have hps : ps.length ≤ 24 := by omega
      have K7 := Lib.hid hT7
      have hge7 := C7.out.size
      have hres7 := hT7.res.lt
      clear c7 g7 hT7 HT HC hpl
      cases wide
      · go_wp2_with fail
        refine wp_region_noPanic ?_
        refine wp_region_held_drew (S := (fun _ => True)) (by kernel_rfl) ?_ (fun hHeld0 => ?_)
        · trivial
        refine takeH (i := 0) (oi := _) (v := ?_) rfl (by kernel_rfl) (by kernel_rfl) (by kernel_rfl) (fun _ _ _ h => h) (Or.inl ⟨by rfl, ?_⟩) (by assumption) ?_
        rotate_left
        · first | (intro w hSw; (try dsimp only at hSw); go_simp; done) | (intro w hSw; (try dsimp only at hSw); go_simp; with_reducible rfl)
        (try simp only [Act.put, List.setIfInBounds_toArray, List.set_cons_zero, List.set_cons_succ])
        refine takeH (i := 2) (oi := _) (v := ?_) rfl (by kernel_rfl) (by kernel_rfl) (by kernel_rfl) (fun _ _ _ h => h) (Or.inl ⟨by rfl, ?_⟩) (by assumption) ?_
        rotate_left
        · first | (intro w hSw; (try dsimp only at hSw); go_simp; done) | (intro w hSw; (try dsimp only at hSw); go_simp; with_reducible rfl)
        (try simp only [Act.put, List.setIfInBounds_toArray, List.set_cons_zero, List.set_cons_succ])
        refine takeH (i := 3) (oi := _) (v := ?_) rfl (by kernel_rfl) (by kernel_rfl) (by kernel_rfl) (fun _ _ _ h => h) (Or.inl ⟨by rfl, ?_⟩) (by assumption) ?_
        rotate_left
        · first | (intro w hSw; (try dsimp only at hSw); go_simp; done) | (intro w hSw; (try dsimp only at hSw); go_simp; with_reducible rfl)
        (try simp only [Act.put, List.setIfInBounds_toArray, List.set_cons_zero, List.set_cons_succ])
        refine takeH (i := 4) (oi := _) (v := ?_) rfl (by kernel_rfl) (by kernel_rfl) (by kernel_rfl) (fun _ _ _ h => h) (Or.inl ⟨by rfl, ?_⟩) (by assumption) ?_
        rotate_left
        · first | (intro w hSw; (try dsimp only at hSw); go_simp; done) | (intro w hSw; (try dsimp only at hSw); go_simp; with_reducible rfl)
        (try simp only [Act.put, List.setIfInBounds_toArray, List.set_cons_zero, List.set_cons_succ])
        refine wpAnyH_ready (rs := [1, 5]) (by kernel_rfl) (by simp) ?_
        refine consM rfl (fun Kq hKq => ?_) (consH rfl (fun Kq hKq => ?_))
        · go_simp
          refine hKq.out _ _ ?_ (fun hHeld1 => ?_)
          · trivial
          clear hKq Kq
          (try simp only [Act.put, List.setIfInBounds_toArray, List.set_cons_zero, List.set_cons_succ])
          clear hHeld0
          refine wpAnyH_ready (rs := [5]) (by kernel_rfl) (by simp) ?_
          refine consH rfl (fun Kq hKq => ?_)
          go_simp
          refine (spec_l1Least _ _ _).mono ?_; rintro e w' ⟨rfl, rfl⟩; generalize least _ _ = u
          refine hKq.out _ _ ?_ (fun hHeld2 => ?_)
          · trivial
          clear hKq Kq
          (try simp only [Act.put, List.setIfInBounds_toArray, List.set_cons_zero, List.set_cons_succ])
          clear hHeld1
          refine wpAnyH_ready (rs := [6]) (by kernel_rfl) (by simp) ?_
          refine consH rfl (fun Kq hKq => ?_)
          go_simp
          refine hKq.out _ _ ?_ (fun hHeld3 => ?_)
          · trivial
          clear hKq Kq
          (try simp only [Act.put, List.setIfInBounds_toArray, List.set_cons_zero, List.set_cons_succ])
          clear hHeld2
          refine wpAnyH_ready (rs := [7]) (by kernel_rfl) (by simp) ?_
          refine consH rfl (fun Kq hKq => ?_)
          refine step_appI rfl _ _ rfl (w.heap.size + 1) (.slice aP x cP) ps (by rfl) (K7.out.p.lit _).drew _ 1 1 [u] (by rfl) (fun h => by cases h) (ints_lit _ [_] _ 1 rfl rfl).drew (by omega) (by simp; omega) ?_; intro v' w' ho hb hm
          have hT := Two.pushP (K7.out.lit _).drew ho hb hm
          have hC := Cq.up (C7.out.lit _).drew (hb.mono (by omega))
          have e0 := hT.1.c0
          have f0 := hT.1.f0
          obtain ⟨a', c', rfl⟩ := ho.shape
          have hlx : (ps ++ [u]).length = x + 1 := by rw [List.length_append, Hpl.out]; rfl
          rw [hlx] at hT ⊢
          have HD := Lib.hid hT.2
          have HCw := Lib.hid hC
          have hge := hT.2.ge
          clear hT hC ho hm hb
          refine hKq.out _ _ ?_ (fun hHeld4 => ?_)
          · trivial
          clear hKq Kq
          (try simp only [Act.put, List.setIfInBounds_toArray, List.set_cons_zero, List.set_cons_succ])
          clear hHeld3
          refine takeH (i := 8) (oi := _) (v := ?_) rfl (by kernel_rfl) (by kernel_rfl) (by kernel_rfl) (fun _ _ _ h => h) (Or.inl ⟨by rfl, ?_⟩) (by assumption) ?_
          rotate_left
          · first | (intro w hSw; (try dsimp only at hSw); go_simp; done) | (intro w hSw; (try dsimp only at hSw); go_simp; with_reducible rfl)
          (try simp only [Act.put, List.setIfInBounds_toArray, List.set_cons_zero, List.set_cons_succ])
          refine wpAnyH_ready (rs := [9]) (by kernel_rfl) (by simp) ?_
          refine consH rfl (fun Kq hKq => ?_)
          go_simp
          refine hKq.out _ _ ?_ (fun hHeld5 => ?_)
          · trivial
          clear hKq Kq
          (try simp only [Act.put, List.setIfInBounds_toArray, List.set_cons_zero, List.set_cons_succ])
          clear hHeld4
          refine wpAnyH_done (by kernel_rfl) ?_ _
          refine NoPanic.normal ?_
          go_wp2_with fail
          refine ⟨⟨x + 1, by omega, by omega, by go_num, ⟨_, _, _, _, _, _, HD.out, (Two.cq HCw.out hge _).mono (by omega)⟩⟩, by simp [intOf]; omega⟩
        · go_simp
          refine (spec_l1Least _ _ _).mono ?_; rintro e w' ⟨rfl, rfl⟩; generalize least _ _ = u
          refine hKq.out _ _ ?_ (fun hHeld1 => ?_)
          · trivial
          clear hKq Kq
          (try simp only [Act.put, List.setIfInBounds_toArray, List.set_cons_zero, List.set_cons_succ])
          clear hHeld0
          refine wpAnyH_ready (rs := [1, 6]) (by kernel_rfl) (by simp) ?_
          refine consM rfl (fun Kq hKq => ?_) (consH rfl (fun Kq hKq => ?_))
          · go_simp
            refine hKq.out _ _ ?_ (fun hHeld2 => ?_)
            · trivial
            clear hKq Kq
            (try simp only [Act.put, List.setIfInBounds_toArray, List.set_cons_zero, List.set_cons_succ])
            clear hHeld1
            refine wpAnyH_ready (rs := [6]) (by kernel_rfl) (by simp) ?_
            refine consH rfl (fun Kq hKq => ?_)
            go_simp
            refine hKq.out _ _ ?_ (fun hHeld3 => ?_)
            · trivial
            clear hKq Kq
            (try simp only [Act.put, List.setIfInBounds_toArray, List.set_cons_zero, List.set_cons_succ])
            clear hHeld2
            refine wpAnyH_ready (rs := [7]) (by kernel_rfl) (by simp) ?_
            refine consH rfl (fun Kq hKq => ?_)
            refine step_appI rfl _ _ rfl (w.heap.size + 1) (.slice aP x cP) ps (by rfl) (K7.out.p.lit _).drew _ 1 1 [u] (by rfl) (fun h => by cases h) (ints_lit _ [_] _ 1 rfl rfl).drew (by omega) (by simp; omega) ?_; intro v' w' ho hb hm
            have hT := Two.pushP (K7.out.lit _).drew ho hb hm
            have hC := Cq.up (C7.out.lit _).drew (hb.mono (by omega))
            have e0 := hT.1.c0
            have f0 := hT.1.f0
            obtain ⟨a', c', rfl⟩ := ho.shape
            have hlx : (ps ++ [u]).length = x + 1 := by rw [List.length_append, Hpl.out]; rfl
            rw [hlx] at hT ⊢
            have HD := Lib.hid hT.2
            have HCw := Lib.hid hC
            have hge := hT.2.ge
            clear hT hC ho hm hb
            refine hKq.out _ _ ?_ (fun hHeld4 => ?_)
            · trivial
            clear hKq Kq
            (try simp only [Act.put, List.setIfInBounds_toArray, List.set_cons_zero, List.set_cons_succ])
            clear hHeld3
            refine takeH (i := 8) (oi := _) (v := ?_) rfl (by kernel_rfl) (by kernel_rfl) (by kernel_rfl) (fun _ _ _ h => h) (Or.inl ⟨by rfl, ?_⟩) (by assumption) ?_
            rotate_left
            · first | (intro w hSw; (try dsimp only at hSw); go_simp; done) | (intro w hSw; (try dsimp only at hSw); go_simp; with_reducible rfl)
            (try simp only [Act.put, List.setIfInBounds_toArray, List.set_cons_zero, List.set_cons_succ])
            refine wpAnyH_ready (rs := [9]) (by kernel_rfl) (by simp) ?_
            refine consH rfl (fun Kq hKq => ?_)
            go_simp
            refine hKq.out _ _ ?_ (fun hHeld5 => ?_)
            · trivial
            clear hKq Kq
            (try simp only [Act.put, List.setIfInBounds_toArray, List.set_cons_zero, List.set_cons_succ])
            clear hHeld4
            refine wpAnyH_done (by kernel_rfl) ?_ _
            refine NoPanic.normal ?_
            go_wp2_with fail
            refine ⟨⟨x + 1, by omega, by omega, by go_num, ⟨_, _, _, _, _, _, HD.out, (Two.cq HCw.out hge _).mono (by omega)⟩⟩, by simp [intOf]; omega⟩
          · go_simp
            refine hKq.out _ _ ?_ (fun hHeld2 => ?_)
            · trivial
            clear hKq Kq
            (try simp only [Act.put, List.setIfInBounds_toArray, List.set_cons_zero, List.set_cons_succ])
            clear hHeld1
            refine wpAnyH_ready (rs := [1]) (by kernel_rfl) (by simp) ?_
            refine consH rfl (fun Kq hKq => ?_)
            go_simp
            refine hKq.out _ _ ?_ (fun hHeld3 => ?_)
            · trivial
            clear hKq Kq
            (try simp only [Act.put, List.setIfInBounds_toArray, List.set_cons_zero, List.set_cons_succ])
            clear hHeld2
            refine wpAnyH_ready (rs := [7]) (by kernel_rfl) (by simp) ?_
            refine consH rfl (fun Kq hKq => ?_)
            refine step_appI rfl _ _ rfl (w.heap.size + 1) (.slice aP x cP) ps (by rfl) (K7.out.p.lit _).drew _ 1 1 [u] (by rfl) (fun h => by cases h) (ints_lit _ [_] _ 1 rfl rfl).drew (by omega) (by simp; omega) ?_; intro v' w' ho hb hm
            have hT := Two.pushP (K7.out.lit _).drew ho hb hm
            have hC := Cq.up (C7.out.lit _).drew (hb.mono (by omega))
            have e0 := hT.1.c0
            have f0 := hT.1.f0
            obtain ⟨a', c', rfl⟩ := ho.shape
            have hlx : (ps ++ [u]).length = x + 1 := by rw [List.length_append, Hpl.out]; rfl
            rw [hlx] at hT ⊢
            have HD := Lib.hid hT.2
            have HCw := Lib.hid hC
            have hge := hT.2.ge
            clear hT hC ho hm hb
            refine hKq.out _ _ ?_ (fun hHeld4 => ?_)
            · trivial
            clear hKq Kq
            (try simp only [Act.put, List.setIfInBounds_toArray, List.set_cons_zero, List.set_cons_succ])
            clear hHeld3
            refine takeH (i := 8) (oi := _) (v := ?_) rfl (by kernel_rfl) (by kernel_rfl) (by kernel_rfl) (fun _ _ _ h => h) (Or.inl ⟨by rfl, ?_⟩) (by assumption) ?_
            rotate_left
            · first | (intro w hSw; (try dsimp only at hSw); go_simp; done) | (intro w hSw; (try dsimp only at hSw); go_simp; with_reducible rfl)
            (try simp only [Act.put, List.setIfInBounds_toArray, List.set_cons_zero, List.set_cons_succ])
            refine wpAnyH_ready (rs := [9]) (by kernel_rfl) (by simp) ?_
            refine consH rfl (fun Kq hKq => ?_)
            go_simp
            refine hKq.out _ _ ?_ (fun hHeld5 => ?_)
            · trivial
            clear hKq Kq
            (try simp only [Act.put, List.setIfInBounds_toArray, List.set_cons_zero, List.set_cons_succ])
            clear hHeld4
            refine wpAnyH_done (by kernel_rfl) ?_ _
            refine NoPanic.normal ?_
            go_wp2_with fail
            refine ⟨⟨x + 1, by omega, by omega, by go_num, ⟨_, _, _, _, _, _, HD.out, (Two.cq HCw.out hge _).mono (by omega)⟩⟩, by simp [intOf]; omega⟩
      · go_wp2_with fail
        refine (spec_l1Most _ _ _).mono ?_
        rintro e w8 ⟨rfl, rfl⟩
        generalize most _ _ = p1
        go_wp2_with fail
        refine (spec_l1Most _ _ _).mono ?_
        rintro e w8 ⟨rfl, rfl⟩
        generalize most _ _ = p2
        go_wp2_with fail
        refine wp_region_noPanic ?_
        refine wp_region_held_drew (S := (fun _ => True)) (by kernel_rfl) ?_ (fun hHeld0 => ?_)
        · trivial
        refine takeH (i := 0) (oi := _) (v := ?_) rfl (by kernel_rfl) (by kernel_rfl) (by kernel_rfl) (fun _ _ _ h => h) (Or.inl ⟨by rfl, ?_⟩) (by assumption) ?_
        rotate_left
        · first | (intro w hSw; (try dsimp only at hSw); go_simp; done) | (intro w hSw; (try dsimp only at hSw); go_simp; with_reducible rfl)
        (try simp only [Act.put, List.setIfInBounds_toArray, List.set_cons_zero, List.set_cons_succ])
        refine takeH (i := 2) (oi := _) (v := ?_) rfl (by kernel_rfl) (by kernel_rfl) (by kernel_rfl) (fun _ _ _ h => h) (Or.inl ⟨by rfl, ?_⟩) (by assumption) ?_
        rotate_left
        · first | (intro w hSw; (try dsimp only at hSw); go_simp; done) | (intro w hSw; (try dsimp only at hSw); go_simp; with_reducible rfl)
        (try simp only [Act.put, List.setIfInBounds_toArray, List.set_cons_zero, List.set_cons_succ])
        refine takeH (i := 3) (oi := _) (v := ?_) rfl (by kernel_rfl) (by kernel_rfl) (by kernel_rfl) (fun _ _ _ h => h) (Or.inl ⟨by rfl, ?_⟩) (by assumption) ?_
        rotate_left
        · first | (intro w hSw; (try dsimp only at hSw); go_simp; done) | (intro w hSw; (try dsimp only at hSw); go_simp; with_reducible rfl)
        (try simp only [Act.put, List.setIfInBounds_toArray, List.set_cons_zero, List.set_cons_succ])
        refine takeH (i := 4) (oi := _) (v := ?_) rfl (by kernel_rfl) (by kernel_rfl) (by kernel_rfl) (fun _ _ _ h => h) (Or.inl ⟨by rfl, ?_⟩) (by assumption) ?_
        rotate_left
        · first | (intro w hSw; (try dsimp only at hSw); go_simp; done) | (intro w hSw; (try dsimp only at hSw); go_simp; with_reducible rfl)
        (try simp only [Act.put, List.setIfInBounds_toArray, List.set_cons_zero, List.set_cons_succ])
        refine wpAnyH_ready (rs := [1, 5]) (by kernel_rfl) (by simp) ?_
        refine consM rfl (fun Kq hKq => ?_) (consH rfl (fun Kq hKq => ?_))
        · go_simp
          refine hKq.out _ _ ?_ (fun hHeld1 => ?_)
          · trivial
          clear hKq Kq
          (try simp only [Act.put, List.setIfInBounds_toArray, List.set_cons_zero, List.set_cons_succ])
          clear hHeld0
          refine wpAnyH_ready (rs := [5]) (by kernel_rfl) (by simp) ?_
          refine consH rfl (fun Kq hKq => ?_)
          go_simp
          refine (spec_l1Least _ _ _).mono ?_; rintro e w' ⟨rfl, rfl⟩; generalize least _ _ = u
          refine hKq.out _ _ ?_ (fun hHeld2 => ?_)
          · trivial
          clear hKq Kq
          (try simp only [Act.put, List.setIfInBounds_toArray, List.set_cons_zero, List.set_cons_succ])
          clear hHeld1
          refine wpAnyH_ready (rs := [6]) (by kernel_rfl) (by simp) ?_
          refine consH rfl (fun Kq hKq => ?_)
          go_simp
          refine hKq.out _ _ ?_ (fun hHeld3 => ?_)
          · trivial
          clear hKq Kq
          (try simp only [Act.put, List.setIfInBounds_toArray, List.set_cons_zero, List.set_cons_succ])
          clear hHeld2
          refine wpAnyH_ready (rs := [7]) (by kernel_rfl) (by simp) ?_
          refine consH rfl (fun Kq hKq => ?_)
          refine step_appI rfl _ _ rfl (w.heap.size + 1) (.slice aP x cP) ps (by rfl) (K7.out.p.lit _).drew _ 1 1 [u] (by rfl) (fun h => by cases h) (ints_lit _ [_] _ 1 rfl rfl).drew (by omega) (by simp; omega) ?_; intro v' w' ho hb hm
          have hT := Two.pushP (K7.out.lit _).drew ho hb hm
          have hC := Cq.up (C7.out.lit _).drew (hb.mono (by omega))
          have e0 := hT.1.c0
          have f0 := hT.1.f0
          obtain ⟨a', c', rfl⟩ := ho.shape
          have hlx : (ps ++ [u]).length = x + 1 := by rw [List.length_append, Hpl.out]; rfl
          rw [hlx] at hT ⊢
          have HD := Lib.hid hT.2
          have HCw := Lib.hid hC
          have hge := hT.2.ge
          clear hT hC ho hm hb
          refine hKq.out _ _ ?_ (fun hHeld4 => ?_)
          · trivial
          clear hKq Kq
          (try simp only [Act.put, List.setIfInBounds_toArray, List.set_cons_zero, List.set_cons_succ])
          clear hHeld3
          refine takeH (i := 8) (oi := _) (v := ?_) rfl (by kernel_rfl) (by kernel_rfl) (by kernel_rfl) (fun _ _ _ h => h) (Or.inl ⟨by rfl, ?_⟩) (by assumption) ?_
          rotate_left
          · first | (intro w hSw; (try dsimp only at hSw); go_simp; done) | (intro w hSw; (try dsimp only at hSw); go_simp; with_reducible rfl)
          (try simp only [Act.put, List.setIfInBounds_toArray, List.set_cons_zero, List.set_cons_succ])
          refine wpAnyH_ready (rs := [9]) (by kernel_rfl) (by simp) ?_
          refine consH rfl (fun Kq hKq => ?_)
          go_simp
          refine hKq.out _ _ ?_ (fun hHeld5 => ?_)
          · trivial
          clear hKq Kq
          (try simp only [Act.put, List.setIfInBounds_toArray, List.set_cons_zero, List.set_cons_succ])
          clear hHeld4
          refine wpAnyH_done (by kernel_rfl) ?_ _
          refine NoPanic.normal ?_
          go_wp2_with fail
          refine ⟨⟨x + 1, by omega, by omega, by go_num, ⟨_, _, _, _, _, _, HD.out, (Two.cq HCw.out hge _).mono (by omega)⟩⟩, by simp [intOf]; omega⟩
        · go_simp
          refine (spec_l1Least _ _ _).mono ?_; rintro e w' ⟨rfl, rfl⟩; generalize least _ _ = u
          refine hKq.out _ _ ?_ (fun hHeld1 => ?_)
          · trivial
          clear hKq Kq
          (try simp only [Act.put, List.setIfInBounds_toArray, List.set_cons_zero, List.set_cons_succ])
          clear hHeld0
          refine wpAnyH_ready (rs := [1, 6]) (by kernel_rfl) (by simp) ?_
          refine consM rfl (fun Kq hKq => ?_) (consH rfl (fun Kq hKq => ?_))
          · go_simp
            refine hKq.out _ _ ?_ (fun hHeld2 => ?_)
            · trivial
            clear hKq Kq
            (try simp only [Act.put, List.setIfInBounds_toArray, List.set_cons_zero, List.set_cons_succ])
            clear hHeld1
            refine wpAnyH_ready (rs := [6]) (by kernel_rfl) (by simp) ?_
            refine consH rfl (fun Kq hKq => ?_)
            go_simp
            refine hKq.out _ _ ?_ (fun hHeld3 => ?_)
            · trivial
            clear hKq Kq
            (try simp only [Act.put, List.setIfInBounds_toArray, List.set_cons_zero, List.set_cons_succ])
            clear hHeld2
            refine wpAnyH_ready (rs := [7]) (by kernel_rfl) (by simp) ?_
            refine consH rfl (fun Kq hKq => ?_)
            refine step_appI rfl _ _ rfl (w.heap.size + 1) (.slice aP x cP) ps (by rfl) (K7.out.p.lit _).drew _ 1 1 [u] (by rfl) (fun h => by cases h) (ints_lit _ [_] _ 1 rfl rfl).drew (by omega) (by simp; omega) ?_; intro v' w' ho hb hm
            have hT := Two.pushP (K7.out.lit _).drew ho hb hm
            have hC := Cq.up (C7.out.lit _).drew (hb.mono (by omega))
            have e0 := hT.1.c0
            have f0 := hT.1.f0
            obtain ⟨a', c', rfl⟩ := ho.shape
            have hlx : (ps ++ [u]).length = x + 1 := by rw [List.length_append, Hpl.out]; rfl
            rw [hlx] at hT ⊢
            have HD := Lib.hid hT.2
            have HCw := Lib.hid hC
            have hge := hT.2.ge
            clear hT hC ho hm hb
            refine hKq.out _ _ ?_ (fun hHeld4 => ?_)
            · trivial
            clear hKq Kq
            (try simp only [Act.put, List.setIfInBounds_toArray, List.set_cons_zero, List.set_cons_succ])
            clear hHeld3
            refine takeH (i := 8) (oi := _) (v := ?_) rfl (by kernel_rfl) (by kernel_rfl) (by kernel_rfl) (fun _ _ _ h => h) (Or.inl ⟨by rfl, ?_⟩) (by assumption) ?_
            rotate_left
            · first | (intro w hSw; (try dsimp only at hSw); go_simp; done) | (intro w hSw; (try dsimp only at hSw); go_simp; with_reducible rfl)
            (try simp only [Act.put, List.setIfInBounds_toArray, List.set_cons_zero, List.set_cons_succ])
            refine wpAnyH_ready (rs := [9]) (by kernel_rfl) (by simp) ?_
            refine consH rfl (fun Kq hKq => ?_)
            go_simp
            refine hKq.out _ _ ?_ (fun hHeld5 => ?_)
            · trivial
            clear hKq Kq
            (try simp only [Act.put, List.setIfInBounds_toArray, List.set_cons_zero, List.set_cons_succ])
            clear hHeld4
            refine wpAnyH_done (by kernel_rfl) ?_ _
            refine NoPanic.normal ?_
            go_wp2_with fail
            refine ⟨⟨x + 1, by omega, by omega, by go_num, ⟨_, _, _, _, _, _, HD.out, (Two.cq HCw.out hge _).mono (by omega)⟩⟩, by simp [intOf]; omega⟩
          · go_simp
            refine hKq.out _ _ ?_ (fun hHeld2 => ?_)
            · trivial
            clear hKq Kq
            (try simp only [Act.put, List.setIfInBounds_toArray, List.set_cons_zero, List.set_cons_succ])
            clear hHeld1
            refine wpAnyH_ready (rs := [1]) (by kernel_rfl) (by simp) ?_
            refine consH rfl (fun Kq hKq => ?_)
            go_simp
            refine hKq.out _ _ ?_ (fun hHeld3 => ?_)
            · trivial
            clear hKq Kq
            (try simp only [Act.put, List.setIfInBounds_toArray, List.set_cons_zero, List.set_cons_succ])
            clear hHeld2
            refine wpAnyH_ready (rs := [7]) (by kernel_rfl) (by simp) ?_
            refine consH rfl (fun Kq hKq => ?_)
            refine step_appI rfl _ _ rfl (w.heap.size + 1) (.slice aP x cP) ps (by rfl) (K7.out.p.lit _).drew _ 1 1 [u] (by rfl) (fun h => by cases h) (ints_lit _ [_] _ 1 rfl rfl).drew (by omega) (by simp; omega) ?_; intro v' w' ho hb hm
            have hT := Two.pushP (K7.out.lit _).drew ho hb hm
            have hC := Cq.up (C7.out.lit _).drew (hb.mono (by omega))
            have e0 := hT.1.c0
            have f0 := hT.1.f0
            obtain ⟨a', c', rfl⟩ := ho.shape
            have hlx : (ps ++ [u]).length = x + 1 := by rw [List.length_append, Hpl.out]; rfl
            rw [hlx] at hT ⊢
            have HD := Lib.hid hT.2
            have HCw := Lib.hid hC
            have hge := hT.2.ge
            clear hT hC ho hm hb
            refine hKq.out _ _ ?_ (fun hHeld4 => ?_)
            · trivial
            clear hKq Kq
            (try simp only [Act.put, List.setIfInBounds_toArray, List.set_cons_zero, List.set_cons_succ])
            clear hHeld3
            refine takeH (i := 8) (oi := _) (v := ?_) rfl (by kernel_rfl) (by kernel_rfl) (by kernel_rfl) (fun _ _ _ h => h) (Or.inl ⟨by rfl, ?_⟩) (by assumption) ?_
            rotate_left
            · first | (intro w hSw; (try dsimp only at hSw); go_simp; done) | (intro w hSw; (try dsimp only at hSw); go_simp; with_reducible rfl)
            (try simp only [Act.put, List.setIfInBounds_toArray, List.set_cons_zero, List.set_cons_succ])
            refine wpAnyH_ready (rs := [9]) (by kernel_rfl) (by simp) ?_
            refine consH rfl (fun Kq hKq => ?_)
            go_simp
            refine hKq.out _ _ ?_ (fun hHeld5 => ?_)
            · trivial
            clear hKq Kq
            (try simp only [Act.put, List.setIfInBounds_toArray, List.set_cons_zero, List.set_cons_succ])
            clear hHeld4
            refine wpAnyH_done (by kernel_rfl) ?_ _
            refine NoPanic.normal ?_
            go_wp2_with fail
            refine ⟨⟨x + 1, by omega, by omega, by go_num, ⟨_, _, _, _, _, _, HD.out, (Two.cq HCw.out hge _).mono (by omega)⟩⟩, by simp [intOf]; omega⟩
    · obtain rfl : x = N := by omega
      have H1 := Lib.hid hS
      clear hS hlt
      go_wp2_with fail
      go_loopw [10] (fun v10 wr => ∃ y : Nat, y ≤ x ∧ v10 = .int .i64 (y : Int) ∧ SomeR w wr g a n cap (lim + 60 + 2 * (y : Int)) tb x y) (fun v10 _ => x - (intOf v10).toNat)
      case atStart => exact ⟨0, Nat.zero_le _, rfl, H1.out.mono (by omega)⟩
      case round =>
        clear H1
        obtain ⟨y, hyN, rfl, hS⟩ := hrel
        by_cases hlt : (y : Int) < x
        · obtain ⟨aP, cP, aW, cW, ps, ws, hT, hC⟩ := hS
          have hwl := hT.q.ints.1
          have Hwl := Lib.hid hwl
          have hws : ws.length ≤ 24 := by omega
          have hK := spec_l2KidsA aP x cP aW y cW ps ws y wr ⟨hT.p.ints, hT.q.ints, by omega, by omega, hT.p.cap.2.1, hT.q.cap.2.1⟩ (by omega) (by omega)
          have HK := Lib.hid hK
          have c0 := hT.box.c0
          have c1 := hT.box.c1
          have HT := Lib.hid hT
          have HC := Lib.hid hC
          clear hT hC hK hwl
          go_wp2_with fail
          refine HK.out.mono ?_
          rintro e w7 ⟨v7, rfl, ⟨xs, o7, hxs⟩, b7⟩
          obtain ⟨a7, c7, rfl⟩ := o7.shape
          have C7 := Lib.hid (HC.out.below b7)
          have hT7 := HT.out.below b7
          generalize xs.length = m at *
          have hlt7 := hT7.box.lt
          have hge7 := C7.out.size
          have hres7 := hT7.res.lt
          have hge := hT7.ge
          clear o7 b7 HT HC HK c0 c1
          cases hq : ((m : Int) == 0)
          · have d1 := hT7.box.c1
            have K7 := Lib.hid hT7
            clear hT7
            go_wp2_with (at_builtin; refine wp_push2 (.tmp 62) (.tmp 64) rfl rfl (w.heap.size + 1) (.slice aW y cW) ws rfl K7.out.q rfl (by omega) (by omega) ?_; intro v' w' ho hb hm; have hT := Two.pushW K7.out ho hb hm; have hC := Cq.up C7.out (hb.mono (by omega)); have e1 := hT.1.c1; have f1 := hT.1.f1; obtain ⟨a', c', rfl⟩ := ho.shape; have hlx : (ws ++ [0]).length = y + 1 := by { rw [List.length_append, Hwl.out]; rfl }; rw [hlx] at hT ⊢; have HD := Lib.hid hT.2; have HCw := Lib.hid hC; clear hT hC ho hm hb)
            go_roundw
            case rel => exact ⟨y + 1, by omega, by go_num, ⟨_, _, _, _, _, _, HD.out, (Two.cq HCw.out hge _).mono (by omega)⟩⟩
            case measure => simp [intOf]; omega
          · have K7 := Lib.hid hT7
            clear hT7
            go_wp2_with fail
            refine (among_lit g a n cap _ [1, 1, 2, 3, 5, 20] _ 6 _ (by omega) rfl rfl (by omega) C7.out.cur).mono ?_
            rintro e w8 ⟨⟨i, hi, rfl⟩, c8, g8⟩
            generalize nth _ i = u
            have C8 := Lib.hid (C7.out.step c8 g8)
            have hT8 := K7.out.other g8 C7.out.glt
            have d1 := hT8.box.c1
            have hlt8 := hT8.box.lt
            have hge8 := C8.out.size
            have hres8 := hT8.res.lt
            have K8 := Lib.hid hT8
            clear c8 g8 hT8 K7 C7
            go_wp2_with (at_builtin; refine wp_push2 (.tmp 62) (.tmp 64) rfl rfl (w.heap.size + 1) (.slice aW y cW) ws rfl K8.out.q rfl (by omega) (by omega) ?_; intro v' w' ho hb hm; have hT := Two.pushW K8.out ho hb hm; have hC := Cq.up C8.out (hb.mono (by omega)); have e1 := hT.1.c1; have f1 := hT.1.f1; obtain ⟨a', c', rfl⟩ := ho.shape; have hlx : (ws ++ [u]).length = y + 1 := by { rw [List.length_append, Hwl.out]; rfl }; rw [hlx] at hT ⊢; have HD := Lib.hid hT.2; have HCw := Lib.hid hC; clear hT hC ho hm hb)
            go_roundw
            case rel => exact ⟨y + 1, by omega, by go_num, ⟨_, _, _, _, _, _, HD.out, (Two.cq HCw.out hge _).mono (by omega)⟩⟩
            case measure => simp [intOf]; omega
        · obtain rfl : y = x := by omega
          obtain ⟨aP, cP, aW, cW, ps, ws, hT, hC⟩ := hS
          have HT := Lib.hid hT
          have HC := Lib.hid hC
          clear hT hC hlt
          go_wp2_with fail
          refine (spec_pick g a n cap _ _ _ (by omega) (by omega) HC.out.cur).mono ?_
          rintro e w7 ⟨⟨x0, rfl, hx0, hx1⟩, c7, g7⟩
          obtain ⟨X, rfl⟩ : ∃ X : Nat, x0 = X := ⟨x0.toNat, by omega⟩
          have hX : X < y := by omega
          clear hx0 hx1
          have C7 := Lib.hid (HC.out.step c7 g7)
          have K7 := Lib.hid (HT.out.other g7 HC.out.glt)
          clear c7 g7 HT HC
          go_wp2_with fail
          refine (spec_pick g a n cap _ _ _ (by omega) (by omega) C7.out.cur).mono ?_
          rintro e w8 ⟨⟨z, rfl, -, -⟩, c8, g8⟩
          have C8 := Lib.hid (C7.out.step c8 g8)
          have K8 := Lib.hid (K7.out.other g8 C7.out.glt)
          clear c8 g8 C7 K7
          have hge := K8.out.ge
          have hge8 := C8.out.size
          have hlt8 := K8.out.box.lt
          have hres8 := K8.out.res.lt
          have Hpl := Lib.hid K8.out.p.ints.1
          have Hwl := Lib.hid K8.out.q.ints.1
          rcases (show z = 0 ∨ z = 1 ∨ z = 2 ∨ z = 3 ∨ z = 4 ∨ (z ≠ 0 ∧ z ≠ 1 ∧ z ≠ 2 ∧ z ≠ 3 ∧ z ≠ 4) by omega) with rfl | rfl | rfl | rfl | rfl | hz
          · obtain ⟨gp, cp, he, hgp, hgp2⟩ := K8.out.p.form (by have := Hpl.out; omega)
            have he2 := Value.slice.inj he
            obtain ⟨rfl, -, rfl⟩ := he2
            clear he
            have c0 := K8.out.box.c0
            go_wp2_with fail
            refine wp_region_noPanic ?_
            refine wp_region_held_drew (S := (fun W' => W'.cell? ⟨tb, 0, none⟩ = some (.slice (some ⟨gp, 0, none⟩) y cP))) (by kernel_rfl) ?_ (fun hHeld0 => ?_)
            · (try dsimp only); first | assumption | exact (K8.out.drew).box.c0 | exact ((K8.out.lit _).drew).box.c0 | exact HSet.out.box.c0
            refine takeH (i := 0) (oi := _) (v := ?_) rfl (by kernel_rfl) (by kernel_rfl) (by kernel_rfl) (fun _ _ _ h => h) (Or.inl ⟨by rfl, ?_⟩) (by assumption) ?_
            rotate_left
            · first | (intro w hSw; (try dsimp only at hSw); go_simp; done) | (intro w hSw; (try dsimp only at hSw); go_simp; with_reducible rfl)
            (try simp only [Act.put, List.setIfInBounds_toArray, List.set_cons_zero, List.set_cons_succ])
            refine takeH (i := 1) (oi := _) (v := ?_) rfl (by kernel_rfl) (by kernel_rfl) (by kernel_rfl) (fun _ _ _ h => h) (Or.inl ⟨by rfl, ?_⟩) (by assumption) ?_
            rotate_left
            · first | (intro w hSw; (try dsimp only at hSw); go_simp; done) | (intro w hSw; (try dsimp only at hSw); go_simp; with_reducible rfl)
            (try simp only [Act.put, List.setIfInBounds_toArray, List.set_cons_zero, List.set_cons_succ])
            refine takeH (i := 2) (oi := _) (v := ?_) rfl (by kernel_rfl) (by kernel_rfl) (by kernel_rfl) (fun _ _ _ h => h) (Or.inl ⟨by rfl, ?_⟩) (by assumption) ?_
            rotate_left
            · first | (intro w hSw; (try dsimp only at hSw); go_simp; done) | (intro w hSw; (try dsimp only at hSw); go_simp; with_reducible rfl)
            (try simp only [Act.put, List.setIfInBounds_toArray, List.set_cons_zero, List.set_cons_succ])
            refine takeH (i := 3) (oi := _) (v := ?_) rfl (by kernel_rfl) (by kernel_rfl) (by kernel_rfl) (fun _ _ _ h => h) (Or.inl ⟨by rfl, ?_⟩) (by assumption) ?_
            rotate_left
            · first | (intro w hSw; (try dsimp only at hSw); go_simp; done) | (intro w hSw; (try dsimp only at hSw); go_simp; with_reducible rfl)
            (try simp only [Act.put, List.setIfInBounds_toArray, List.set_cons_zero, List.set_cons_succ])
            refine takeH (i := 4) (oi := _) (v := ?_) rfl (by kernel_rfl) (by kernel_rfl) (by kernel_rfl) (fun _ _ _ h => h) (Or.inl ⟨by rfl, ?_⟩) (by assumption) ?_
            rotate_left
            · first | (intro w hSw; (try dsimp only at hSw); go_simp; done) | (intro w hSw; (try dsimp only at hSw); go_simp; with_reducible rfl)
            (try simp only [Act.put, List.setIfInBounds_toArray, List.set_cons_zero, List.set_cons_succ])
            refine wpAnyH_ready (rs := [5]) (by kernel_rfl) (by simp) ?_
            refine consH rfl (fun Kq hKq => ?_)
            go_simp
            refine hKq.out _ _ ?_ (fun hHeld1 => ?_)
            · (try dsimp only); first | assumption | exact (K8.out.drew).box.c0 | exact ((K8.out.lit _).drew).box.c0 | exact HSet.out.box.c0
            clear hKq Kq
            (try simp only [Act.put, List.setIfInBounds_toArray, List.set_cons_zero, List.set_cons_succ])
            clear hHeld0
            refine wpAnyH_ready (rs := [6]) (by kernel_rfl) (by simp) ?_
            refine consH rfl (fun Kq hKq => ?_)
            go_simp
            refine (spec_among g a n cap _ _ 4 4 [-1, (X : Int), -2, 4611686018427387904] _ (by omega) (by omega) (ints_lit w8 [-1, (X : Int), -2, 4611686018427387904] _ 4 rfl rfl).drew C8.out.cur.ne (C8.out.lit _).drew.cur).mono ?_
            rintro e w9 ⟨⟨i, hi, rfl⟩, c9, g9⟩
            generalize nth _ i = u
            have C9 := Lib.hid ((C8.out.lit _).drew.step c9 g9)
            have K9 := Lib.hid ((K8.out.lit _).drew.other g9 C8.out.glt)
            have h9c := K9.out.p.cell (i := X) (by have := Hpl.out; omega)
            have h9f := K9.out.p.free Hpl.out.symm X
            have hSS := K9.out.box.c0
            have HSet := Lib.hid (K9.out.setP Hpl.out.symm X u)
            have CSet := Lib.hid (Two.setC C9.out (show w.heap.size ≤ gp by omega) (i := X) (.int .i64 u))
            clear c9 g9
            refine hKq.out _ _ ?_ (fun hHeld2 => ?_)
            · (try dsimp only); first | assumption | exact (K8.out.drew).box.c0 | exact ((K8.out.lit _).drew).box.c0 | exact HSet.out.box.c0
            clear hKq Kq
            (try simp only [Act.put, List.setIfInBounds_toArray, List.set_cons_zero, List.set_cons_succ])
            clear hHeld1
            refine takeH (i := 7) (oi := _) (v := ?_) rfl (by kernel_rfl) (by kernel_rfl) (by kernel_rfl) (fun _ _ _ h => h) (Or.inl ⟨by rfl, ?_⟩) (by assumption) ?_
            rotate_left
            · first | (intro w hSw; (try dsimp only at hSw); go_simp; done) | (intro w hSw; (try dsimp only at hSw); go_simp; with_reducible rfl)
            (try simp only [Act.put, List.setIfInBounds_toArray, List.set_cons_zero, List.set_cons_succ])
            refine wpAnyH_ready (rs := [8]) (by kernel_rfl) (by simp) ?_
            refine consH rfl (fun Kq hKq => ?_)
            go_simp
            refine hKq.out _ _ ?_ (fun hHeld3 => ?_)
            · (try dsimp only); first | assumption | exact (K8.out.drew).box.c0 | exact ((K8.out.lit _).drew).box.c0 | exact HSet.out.box.c0
            clear hKq Kq
            (try simp only [Act.put, List.setIfInBounds_toArray, List.set_cons_zero, List.set_cons_succ])
            clear hHeld2
            refine wpAnyH_done (by kernel_rfl) ?_ _
            refine NoPanic.normal ?_
            have d0 := HSet.out.box.c0
            have d1 := HSet.out.box.c1
            have e0 := HSet.out.res.c0
            have e1 := HSet.out.res.c1
            have f0 := HSet.out.res.f0
            have f1 := HSet.out.res.f1
            have hr := HSet.out.res.set (.slice (some ⟨gp, 0, none⟩) y cP) (.slice aW y cW)
            clear h9c h9f
            go_wp2_with fail
            exact bodyPost_ret (v := .agg #[.slice (some ⟨gp, 0, none⟩) y cP, .slice aW y cW]) (by simp [results, Try.results142, go_sem, hr.1, hr.2]) rfl ⟨⟨_, rfl, HSet.out.done (by omega) (by omega)⟩, (Two.doneC CSet.out _ _).cur.mono (by omega), (Two.doneC CSet.out _ _).grow⟩
          · obtain ⟨gp, cp, he, hgp, hgp2⟩ := K8.out.q.form (by have := Hwl.out; omega)
            have he2 := Value.slice.inj he
            obtain ⟨rfl, -, rfl⟩ := he2
            clear he
            have c0 := K8.out.box.c1
            go_wp2_with fail
            refine wp_region_noPanic ?_
            refine wp_region_held_drew (S := (fun W' => W'.cell? ⟨tb, 1, none⟩ = some (.slice (some ⟨gp, 0, none⟩) y cW))) (by kernel_rfl) ?_ (fun hHeld0 => ?_)
            · (try dsimp only); first | assumption | exact (K8.out.drew).box.c1 | exact ((K8.out.lit _).drew).box.c1 | exact HSet.out.box.c1
            refine takeH (i := 0) (oi := _) (v := ?_) rfl (by kernel_rfl) (by kernel_rfl) (by kernel_rfl) (fun _ _ _ h => h) (Or.inl ⟨by rfl, ?_⟩) (by assumption) ?_
            rotate_left
            · first | (intro w hSw; (try dsimp only at hSw); go_simp; done) | (intro w hSw; (try dsimp only at hSw); go_simp; with_reducible rfl)
            (try simp only [Act.put, List.setIfInBounds_toArray, List.set_cons_zero, List.set_cons_succ])
            refine takeH (i := 1) (oi := _) (v := ?_) rfl (by kernel_rfl) (by kernel_rfl) (by kernel_rfl) (fun _ _ _ h => h) (Or.inl ⟨by rfl, ?_⟩) (by assumption) ?_
            rotate_left
            · first | (intro w hSw; (try dsimp only at hSw); go_simp; done) | (intro w hSw; (try dsimp only at hSw); go_simp; with_reducible rfl)
            (try simp only [Act.put, List.setIfInBounds_toArray, List.set_cons_zero, List.set_cons_succ])
            refine takeH (i := 2) (oi := _) (v := ?_) rfl (by kernel_rfl) (by kernel_rfl) (by kernel_rfl) (fun _ _ _ h => h) (Or.inl ⟨by rfl, ?_⟩) (by assumption) ?_
            rotate_left
            · first | (intro w hSw; (try dsimp only at hSw); go_simp; done) | (intro w hSw; (try dsimp only at hSw); go_simp; with_reducible rfl)
            (try simp only [Act.put, List.setIfInBounds_toArray, List.set_cons_zero, List.set_cons_succ])
            refine takeH (i := 3) (oi := _) (v := ?_) rfl (by kernel_rfl) (by kernel_rfl) (by kernel_rfl) (fun _ _ _ h => h) (Or.inl ⟨by rfl, ?_⟩) (by assumption) ?_
            rotate_left
            · first | (intro w hSw; (try dsimp only at hSw); go_simp; done) | (intro w hSw; (try dsimp only at hSw); go_simp; with_reducible rfl)
            (try simp only [Act.put, List.setIfInBounds_toArray, List.set_cons_zero, List.set_cons_succ])
            refine wpAnyH_ready (rs := [4]) (by kernel_rfl) (by simp) ?_
            refine consH rfl (fun Kq hKq => ?_)
            go_simp
            refine hKq.out _ _ ?_ (fun hHeld1 => ?_)
            · (try dsimp only); first | assumption | exact (K8.out.drew).box.c1 | exact ((K8.out.lit _).drew).box.c1 | exact HSet.out.box.c1
            clear hKq Kq
            (try simp only [Act.put, List.setIfInBounds_toArray, List.set_cons_zero, List.set_cons_succ])
            clear hHeld0
            refine wpAnyH_ready (rs := [5]) (by kernel_rfl) (by simp) ?_
            refine consH rfl (fun Kq hKq => ?_)
            go_simp
            refine (spec_among g a n cap _ _ 4 4 [0, 1, 21, -1] _ (by omega) (by omega) (ints_lit w8 [0, 1, 21, -1] _ 4 rfl rfl).drew C8.out.cur.ne (C8.out.lit _).drew.cur).mono ?_
            rintro e w9 ⟨⟨i, hi, rfl⟩, c9, g9⟩
            generalize nth _ i = u
            have C9 := Lib.hid ((C8.out.lit _).drew.step c9 g9)
            have K9 := Lib.hid ((K8.out.lit _).drew.other g9 C8.out.glt)
            have h9c := K9.out.q.cell (i := X) (by have := Hwl.out; omega)
            have h9f := K9.out.q.free Hwl.out.symm X
            have hSS := K9.out.box.c1
            have HSet := Lib.hid (K9.out.setW Hwl.out.symm X u)
            have CSet := Lib.hid (Two.setC C9.out (show w.heap.size ≤ gp by omega) (i := X) (.int .i64 u))
            clear c9 g9
            refine hKq.out _ _ ?_ (fun hHeld2 => ?_)
            · (try dsimp only); first | assumption | exact (K8.out.drew).box.c1 | exact ((K8.out.lit _).drew).box.c1 | exact HSet.out.box.c1
            clear hKq Kq
            (try simp only [Act.put, List.setIfInBounds_toArray, List.set_cons_zero, List.set_cons_succ])
            clear hHeld1
            refine takeH (i := 6) (oi := _) (v := ?_) rfl (by kernel_rfl) (by kernel_rfl) (by kernel_rfl) (fun _ _ _ h => h) (Or.inl ⟨by rfl, ?_⟩) (by assumption) ?_
            rotate_left
            · first | (intro w hSw; (try dsimp only at hSw); go_simp; done) | (intro w hSw; (try dsimp only at hSw); go_simp; with_reducible rfl)
            (try simp only [Act.put, List.setIfInBounds_toArray, List.set_cons_zero, List.set_cons_succ])
            refine wpAnyH_ready (rs := [7]) (by kernel_rfl) (by simp) ?_
            refine consH rfl (fun Kq hKq => ?_)
            go_simp
            refine hKq.out _ _ ?_ (fun hHeld3 => ?_)
            · (try dsimp only); first | assumption | exact (K8.out.drew).box.c1 | exact ((K8.out.lit _).drew).box.c1 | exact HSet.out.box.c1
            clear hKq Kq
            (try simp only [Act.put, List.setIfInBounds_toArray, List.set_cons_zero, List.set_cons_succ])
            clear hHeld2
            refine wpAnyH_done (by kernel_rfl) ?_ _
            refine NoPanic.normal ?_
            have d0 := HSet.out.box.c0
            have d1 := HSet.out.box.c1
            have e0 := HSet.out.res.c0
            have e1 := HSet.out.res.c1
            have f0 := HSet.out.res.f0
            have f1 := HSet.out.res.f1
            have hr := HSet.out.res.set (.slice aP y cP) (.slice (some ⟨gp, 0, none⟩) y cW)
            clear h9c h9f
            go_wp2_with fail
            exact bodyPost_ret (v := .agg #[.slice aP y cP, .slice (some ⟨gp, 0, none⟩) y cW]) (by simp [results, Try.results142, go_sem, hr.1, hr.2]) rfl ⟨⟨_, rfl, HSet.out.done (by omega) (by omega)⟩, (Two.doneC CSet.out _ _).cur.mono (by omega), (Two.doneC CSet.out _ _).grow⟩
          · have d1 := K8.out.box.c1
            have hws : ws.length ≤ 24 := by have := Hwl.out; omega
            go_wp2_with (at_builtin; refine wp_push2 (.tmp 94) (.tmp 95) rfl rfl (w.heap.size + 1) (.slice aW y cW) ws rfl K8.out.q rfl (by omega) (by omega) ?_; intro v' w' ho hb hm; have hT := Two.pushW K8.out ho hb hm; have hC := Cq.up C8.out (hb.mono (by omega)); have e1 := hT.1.c1; have f1 := hT.1.f1; obtain ⟨a', c', rfl⟩ := ho.shape; have hlx : (ws ++ [1]).length = y + 1 := by { rw [List.length_append, Hwl.out]; rfl }; rw [hlx] at hT ⊢; have HD := Lib.hid hT.2; have HCw := Lib.hid (Two.cq (i := 1) hC hge (.slice a' (y + 1) c')); clear hT hC ho hm hb; have d0 := HD.out.box.c0; have d1 := HD.out.box.c1; have e0 := HD.out.res.c0; have e1 := HD.out.res.c1; have f0 := HD.out.res.f0; have f1 := HD.out.res.f1)
            have hr := HD.out.res.set (.slice aP y cP) (.slice a' (y + 1) c')
            exact bodyPost_ret (v := .agg #[.slice aP y cP, .slice a' (y + 1) c']) (by simp [results, Try.results142, go_sem, hr.1, hr.2]) rfl ⟨⟨_, rfl, HD.out.done (by omega) (by omega)⟩, (Two.doneC HCw.out _ _).cur.mono (by omega), (Two.doneC HCw.out _ _).grow⟩
          · have h3 : SomeR w w8 g a n cap (lim + 60 + 2 * (y : Int) + 2 + 2) tb y y := ⟨_, _, _, _, _, _, K8.out, C8.out⟩
            have H3 := Lib.hid h3
            clear h3 K8 C8 hge8 hlt8 hres8 Hpl Hwl
            go_wp2_with fail
            go_loopw [] (fun wr => ∃ k : Nat, y ≤ k ∧ k ≤ 25 ∧ SomeR w wr g a n cap (lim + 60 + 2 * (y : Int) + 2 + 2) tb k k) (fun wr => match wr.cell? ⟨tb, 0, none⟩ with | some (.slice _ k _) => 25 - k | _ => 0)
            case atStart => exact ⟨y, Nat.le_refl _, by omega, H3.out⟩
            case round =>
              clear H3
              obtain ⟨k, hyk, hk25, aP', cP', aW', cW', ps', ws', hT, hC⟩ := hrel
              have hge := hT.ge
              have hges := hC.size
              have hltr := hT.box.lt
              have hresr := hT.res.lt
              have c0 := hT.box.c0
              have Hpl := Lib.hid hT.p.ints.1
              have Hwl := Lib.hid hT.q.ints.1
              have HT := Lib.hid hT
              have HC := Lib.hid hC
              clear hT hC
              have hps : ps'.length ≤ 25 := by have := Hpl.out; omega
              have hws : ws'.length ≤ 25 := by have := Hwl.out; omega
              by_cases hlt : (k : Int) < 25
              · go_upto_region 27 with (at_builtin; refine wp_push2 (.tmp 105) (.tmp 106) rfl rfl (w.heap.size + 1) (.slice aP' k cP') ps' rfl HT.out.p rfl (by omega) (by omega) ?_; intro v' w' ho hb hm; have hT := Two.pushP HT.out ho hb hm; have hC := Cq.up HC.out (hb.mono (by omega)); have e1 := hT.1.c0; have f1 := hT.1.f0; obtain ⟨a', c', rfl⟩ := ho.shape; have hlx : (ps' ++ [0]).length = k + 1 := by { rw [List.length_append, Hpl.out]; rfl }; rw [hlx] at hT ⊢; have HD := Lib.hid hT.2; have HCw := Lib.hid (Two.cq (i := 0) hC hge (.slice a' (k + 1) c')); clear hT hC ho hm hb)
                generalize (w'.setCell ⟨tb, 0, none⟩ (.slice a' (k + 1) c')) = wd at *
                have d1 := HD.out.box.c1
                have hltd := HD.out.box.lt
                have hgesd := HCw.out.size
                have hresd := HD.out.res.lt
                clear e1 f1
                go_wp2_with (at_builtin; refine wp_push2 (.tmp 110) (.tmp 111) rfl rfl (w.heap.size + 1) (.slice aW' k cW') ws' rfl HD.out.q rfl (by omega) (by omega) ?_; intro v2 w2' ho hb hm; have hT := Two.pushW HD.out ho hb hm; have hC := Cq.up HCw.out (hb.mono (by omega)); have e2 := hT.1.c1; have f2 := hT.1.f1; obtain ⟨a2', c2', rfl⟩ := ho.shape; have hlx2 : (ws' ++ [1]).length = k + 1 := by { rw [List.length_append, Hwl.out]; rfl }; rw [hlx2] at hT ⊢; have HE := Lib.hid hT.2; have HCx := Lib.hid (Two.cq (i := 1) hC hge (.slice a2' (k + 1) c2')); clear hT hC ho hm hb)
                go_roundw
                case rel => exact ⟨k + 1, by omega, by omega, ⟨_, _, _, _, _, _, HE.out, HCx.out⟩⟩
                case measure => rw [HE.out.box.c0, c0]; simp; omega
              · obtain rfl : k = 25 := by omega
                have d0 := HT.out.box.c0
                have d1 := HT.out.box.c1
                have e0 := HT.out.res.c0
                have e1 := HT.out.res.c1
                have f0 := HT.out.res.f0
                have f1 := HT.out.res.f1
                have hr := HT.out.res.set (.slice aP' 25 cP') (.slice aW' 25 cW')
                go_wp2_with fail
                exact bodyPost_ret (v := .agg #[.slice aP' 25 cP', .slice aW' 25 cW']) (by simp [results, Try.results142, go_sem, hr.1, hr.2]) rfl ⟨⟨_, rfl, HT.out.done (by omega) (by omega)⟩, (Two.doneC HC.out _ _).cur.mono (by omega), (Two.doneC HC.out _ _).grow⟩
          · have e0 := K8.out.res.c0
            have e1 := K8.out.res.c1
            have f0 := K8.out.res.f0
            have f1 := K8.out.res.f1
            have hr := K8.out.res.set (.slice none 0 0) (.slice none 0 0)
            go_wp2_with fail
            exact bodyPost_ret (v := .agg #[.slice none 0 0, .slice none 0 0]) (by simp [results, Try.results142, go_sem, hr.1, hr.2]) rfl ⟨⟨_, rfl, none, 0, 0, none, 0, 0, [], [], rfl, Own.nil _ _, Own.nil _ _, by omega, by omega⟩, (Two.doneC C8.out _ _).cur.mono (by omega), (Two.doneC C8.out _ _).grow⟩
          · obtain ⟨z0, z1, z2, z3, z4⟩ := hz
            have z0 : (z == 0) = false := by simpa using z0
            have z1 : (z == 1) = false := by simpa using z1
            have z2 : (z == 2) = false := by simpa using z2
            have z3 : (z == 3) = false := by simpa using z3
            have z4 : (z == 4) = false := by simpa using z4
            have d0 := K8.out.box.c0
            have d1 := K8.out.box.c1
            have e0 := K8.out.res.c0
            have e1 := K8.out.res.c1
            have f0 := K8.out.res.f0
            have f1 := K8.out.res.f1
            have hr := K8.out.res.set (.slice aP y cP) (.slice aW y cW)
            go_wp2_with fail
            exact bodyPost_ret (v := .agg #[.slice aP y cP, .slice aW y cW]) (by simp [results, Try.results142, go_sem, hr.1, hr.2]) rfl ⟨⟨_, rfl, K8.out.done (by omega) (by omega)⟩, (Two.doneC C8.out _ _).cur.mono (by omega), (Two.doneC C8.out _ _).grow⟩
end Go.Proofs.Ytnbomleieianoaa

/- Contract: a process drawn by the cursor. No conditions but those stated. -/
namespace Go.Proofs.Ytnbomleieianoaa
open Go.RowKit

/-- Sums and a list of numbers that is being made, of the call's own and apart; the tree's box lies ahead of them. -/
structure Fa (w wr : World) (g : Nat) (a : Option Addr) (n cap : Nat) (lim : Int) (x y vS vO : Value) (s xs : List Int) : Prop where
  cq : Cq w wr g a n cap lim
  box : Pair wr w.heap.size x y
  s : Own wr (w.heap.size + 1) vS s
  o : Own wr (w.heap.size + 1) vO xs
  ne : ∀ k, vS.ownBlock = some k → vO.ownBlock = some k → False
theorem Fa.below {w wr w' : World} {g : Nat} {a : Option Addr} {n cap : Nat} {lim : Int} {x y vS vO : Value} {s xs : List Int} (h : Fa w wr g a n cap lim x y vS vO s xs) (hb : Below wr.heap.size wr w') : Fa w w' g a n cap lim x y vS vO s xs :=
  ⟨h.cq.below hb, h.box.below hb, h.s.below hb, h.o.below hb, h.ne⟩
theorem Fa.drew {w wr : World} {g : Nat} {a : Option Addr} {n cap : Nat} {lim : Int} {x y vS vO : Value} {s xs : List Int} (h : Fa w wr g a n cap lim x y vS vO s xs) : Fa w wr.drew g a n cap lim x y vS vO s xs := h.below (Below.refl _ _).drew
theorem Fa.drewN {w wr : World} {g : Nat} {a : Option Addr} {n cap : Nat} {lim : Int} {x y vS vO : Value} {s xs : List Int} (h : Fa w wr g a n cap lim x y vS vO s xs) (m : Nat) : Fa w (wr.drewN m) g a n cap lim x y vS vO s xs := h.below (below_drewN (Below.refl _ _) m)
theorem Fa.step {w wr w' : World} {g : Nat} {a : Option Addr} {n cap : Nat} {lim lim' : Int} {x y vS vO : Value} {s xs : List Int} (h : Fa w wr g a n cap lim x y vS vO s xs) (hc : Cur w' g a n cap lim') (hg : wr.grownBy w' (some g)) : Fa w w' g a n cap lim' x y vS vO s xs :=
  ⟨h.cq.step hc hg, pair_other h.box hg (by have := h.cq.glt; omega), own_other h.s hg (by have := h.cq.glt; omega), own_other h.o hg (by have := h.cq.glt; omega), h.ne⟩
theorem Fa.mono {w wr : World} {g : Nat} {a : Option Addr} {n cap : Nat} {lim lim' : Int} {x y vS vO : Value} {s xs : List Int} (h : Fa w wr g a n cap lim x y vS vO s xs) (hl : lim ≤ lim') : Fa w wr g a n cap lim' x y vS vO s xs :=
  ⟨h.cq.mono hl, h.box, h.s, h.o, h.ne⟩
theorem Fa.push {w wr w' : World} {g : Nat} {a : Option Addr} {n cap : Nat} {lim : Int} {x y vS vO v' : Value} {s xs xs' : List Int} (h : Fa w wr g a n cap lim x y vS vO s xs) (ho : Own w' (w.heap.size + 1) v' xs') (hb : Below (w.heap.size + 1) wr w') (hm : Moved wr vO w' v') : Fa w w' g a n cap lim x y vS v' s xs' :=
  ⟨h.cq.up (hb.mono (by omega)), h.box.up hb (by omega), h.s.moved hm (fun k h1 h2 => h.ne k h1 h2), ho, fun k h1 h2 => (hm.2 k (World.ownsRow.lt h.s k h1).2 (fun e => h.ne k h1 e)).1 h2⟩
theorem Fa.put {w wr : World} {g : Nat} {a : Option Addr} {n cap : Nat} {lim : Int} {x y vS : Value} {go no co : Nat} {s xs : List Int} (h : Fa w wr g a n cap lim x y vS (.slice (some ⟨go, 0, none⟩) no co) s xs) (hn : no = xs.length) (i : Nat) (u : Int) : Fa w (wr.setCell ⟨go, i, none⟩ (.int .i64 u)) g a n cap lim x y vS (.slice (some ⟨go, 0, none⟩) no co) s (xs.set i u) := by
  have h1 := h.o.lt
  exact ⟨h.cq.up (show Below w.heap.size wr (wr.setCell ⟨go, i, none⟩ (.int .i64 u)) from (Below.refl w.heap.size wr).setCell (show w.heap.size ≤ go by omega) _), h.box.far (by omega) _, h.s.far (a := ⟨go, i, none⟩) (fun e => h.ne go e rfl) _, h.o.set hn i u, h.ne⟩
theorem kid_nth {ps : List Int} (hp : Pa ps) {x i : Nat} (hi : i < (kids ps x).length) : ∃ j : Nat, x < j ∧ j < ps.length ∧ nth (kids ps x) i = (j : Int) := by
  obtain ⟨j, h1, h2, h3⟩ := mem_filt.1 (nth_mem hi)
  exact ⟨j, kids_lt hp h1 (by simpa using h2), h1, h3⟩
set_option maxRecDepth 100000 in
set_option maxHeartbeats 4000000 in
theorem spec_fair3 (g : Nat) (a : Option Addr) (n cap : Nat) (lim : Int) (base : Nat) (aP : Option Addr) (nP cP : Nat) (aW : Option Addr) (nW cW : Nat) (ps ws : List Int) (w : World) (hl : lim ≤ 20000) (hD : DTre w base aP nP cP aW nW cW ps ws) (hgb : g < base) (h : Cur w g a n cap lim) :
    Calls Try.prog 83 #[.pointer (some ⟨g, 0, none⟩), .agg #[.slice aP nP cP, .slice aW nW cW]] w fun e w' => (∃ v, e = .returned v ∧ OwnA w' w.heap.size v 31) ∧ Cur w' g a n cap (lim + 1000) ∧ w.grownBy w' (some g) := by
  have C0 := Lib.hid ((Cq.start h).lit (.cells #[.slice aP nP cP, .slice aW nW cW] 26))
  have P0 := Lib.hid (Pair.new w (.slice aP nP cP) (.slice aW nW cW) 26)
  have hs0 : w.heap.size < (w.alloc (.cells #[.slice aP nP cP, .slice aW nW cW] 26)).heap.size := by simp
  have hgw := h.lt
  have hnP := hD.pn
  have HD := Lib.hid (fun w' (hg : w.grownBy w' (some g)) => (hD.other hg hgb).tre)
  have Hl := Lib.hid hD.p.ints.1
  have Hlw := Lib.hid hD.w.ints.1
  clear h hD
  go_enter Try.func83, Try.ntmps83
  have c0 := P0.out.c0
  have c1 := P0.out.c1
  go_wp2_with fail
  generalize (w.alloc (.cells #[.slice aP nP cP, .slice aW nW cW] 26)) = w1 at *
  refine (spec_l2Good _ _ _ _ _ _ ps ws _ (HD.out _ C0.out.grow)).mono ?_
  rintro e w2 ⟨rfl, b2⟩
  have C2 := Lib.hid (C0.out.below b2)
  have P2 := Lib.hid (P0.out.below b2)
  have d0 := P2.out.c0
  have d1 := P2.out.c1
  have hs2 : w.heap.size < w2.heap.size := P2.out.lt
  clear b2 c0 c1 C0 P0
  cases ht : treeB ps ws
  · clear ht
    go_wp2_with fail
    refine (spec_pays g a n cap _ aP nP cP aW nW cW _ (by omega) hnP C2.out.cur).mono ?_
    rintro e w3 ⟨⟨v, rfl, ov⟩, c3, g3⟩
    have C3 := Lib.hid (C2.out.step c3 g3)
    have OV := Lib.hid (ov.mono (base' := w.heap.size) (by omega))
    clear ov c3 g3
    go_wp2_with fail
    go_ret
    exact ⟨⟨_, rfl, OV.out⟩, C3.out.cur.mono (by omega), C3.out.grow⟩
  · have hTr := Lib.hid (treeB_t ht)
    clear ht
    go_wp2_with fail
    refine (spec_one g a n cap _ _ _ (by omega) (by omega) C2.out.cur).mono ?_
    rintro e w3 ⟨⟨t, rfl⟩, c3, g3⟩
    have C3 := Lib.hid (C2.out.step c3 g3)
    have P3 := Lib.hid (pair_other P2.out g3 (by omega))
    have e0 := P3.out.c0
    have e1 := P3.out.c1
    have hs3 : w.heap.size < w3.heap.size := P3.out.lt
    clear c3 g3 d0 d1 C2 P2
    cases t
    rotate_left
    · go_wp2_with fail
      refine (spec_pays g a n cap _ aP nP cP aW nW cW _ (by omega) hnP C3.out.cur).mono ?_
      rintro e w4 ⟨⟨v, rfl, ov⟩, c4, g4⟩
      have C4 := Lib.hid (C3.out.step c4 g4)
      have OV := Lib.hid (ov.mono (base' := w.heap.size) (by omega))
      clear ov c4 g4
      go_wp2_with fail
      go_ret
      exact ⟨⟨_, rfl, OV.out⟩, C4.out.cur.mono (by omega), C4.out.grow⟩
    · go_wp2_with fail
      refine (spec_l2Sums _ _ _ _ _ _ ps ws _ (HD.out _ C3.out.grow) hTr.out).mono ?_
      rintro e w4 ⟨v4, rfl, o4, b4⟩
      obtain ⟨a4, c4, rfl⟩ := o4.shape
      have Hsl : Hid ((sums ps ws).length = nP) := Lib.hid (by rw [sums_length hTr.out]; exact Hl.out)
      rw [Hsl.out] at o4 ⊢
      obtain ⟨gs, cs4, hv4, hgs, hgs2⟩ := o4.form (by have := Hsl.out; have := hTr.out.n1; have := Hl.out; omega)
      rw [Hsl.out] at hv4
      obtain ⟨rfl, -, rfl⟩ := Value.slice.inj hv4
      clear hv4
      have C4 := Lib.hid (C3.out.below b4)
      have P4 := Lib.hid (P3.out.below b4)
      have O4 := Lib.hid (o4.mono (base' := w.heap.size + 1) (by omega))
      have hs4 : w.heap.size < w4.heap.size := P4.out.lt
      have hn1 : 1 ≤ nP ∧ nP ≤ 24 := by have := hTr.out.n1; have := hTr.out.n24; have := Hl.out; omega
      clear o4 b4 e0 e1 C3 P3
      go_wp2_with fail
      refine (spec_pick g a n cap _ _ _ (by omega) (by omega) C4.out.cur).mono ?_
      rintro e w5 ⟨⟨x, rfl, hx0, hx1⟩, c5, g5⟩
      have C5 := Lib.hid (C4.out.step c5 g5)
      have P5 := Lib.hid (pair_other P4.out g5 (by omega))
      have O5 := Lib.hid (own_other O4.out g5 (by omega))
      have hs5 : w.heap.size < w5.heap.size := P5.out.lt
      clear c5 g5 C4 P4 O4
      obtain ⟨u, hu⟩ : ∃ u, u = x - 5 := ⟨_, rfl⟩
      have k0 : IntKind.i64.wrap (x - 5) = u := by rw [hu]; exact IntWalk.i64_in _ (by omega)
      have Hu := Lib.hid hu
      clear hu hx0 hx1
      have hlit : Own (w5.alloc (.cells #[.int .i64 u] 3)) (w.heap.size + 1) (.slice (some ⟨w5.heap.size, 0, none⟩) 1 1) [u] := World.ownsRow_lit (size := 1) (e := 3) (base := w.heap.size + 1) w5 #[.int .i64 u] 1 (by omega) (by simp [maxLen]) (by simp)
      have hF : Fa w (w5.alloc (.cells #[.int .i64 u] 3)) g a n cap (lim + 10) (.slice aP nP cP) (.slice aW nW cW) (.slice (some ⟨gs, 0, none⟩) nP c4) (.slice (some ⟨w5.heap.size, 0, none⟩) 1 1) (sums ps ws) [u] :=
        ⟨(C5.out.lit _).mono (by omega), P5.out.alloc _, O5.out.lit _, hlit, fun k h1 h2 => by have := (World.ownsRow.lt O5.out k h1).2; simp [Value.ownBlock] at h2; omega⟩
      have HF := Lib.hid hF
      clear hlit hF C5 P5 O5
      go_wp2_with fail
      generalize (w5.alloc (.cells #[.int .i64 u] 3)) = w6 at *
      generalize (Value.slice (some ⟨w5.heap.size, 0, none⟩) 1 1) = v6 at *
      go_loopw [6, 7] (fun v6 v7 wr => ∃ (k : Nat) (xs : List Int), 1 ≤ k ∧ k ≤ nP ∧ v7 = .int .i64 (k : Int) ∧ xs.length = k ∧ Fa w wr g a n cap (lim + 10) (.slice aP nP cP) (.slice aW nW cW) (.slice (some ⟨gs, 0, none⟩) nP c4) v6 (sums ps ws) xs) (fun _ v7 _ => nP - (intOf v7).toNat)
      case atStart => exact ⟨1, [u], Nat.le_refl _, hn1.1, rfl, rfl, HF.out⟩
      case round =>
        clear HF
        obtain ⟨k, xs, hk1, hk2, rfl, hxl, hF⟩ := hrel
        have Hxl := Lib.hid hxl
        have HF := Lib.hid hF
        clear hxl hF
        by_cases hlt : (k : Int) < nP
        · obtain ⟨bP, oP, rfl, hcP⟩ := (HD.out _ HF.out.cq.grow).p.at (i := k) (Below.refl _ _) (by omega)
          have hup := hTr.out.toPa.upN (x := k) (by omega) (by have := Hl.out; omega)
          rw [hup.1] at hcP
          have hupl := hup.2
          generalize par ps k = p at *
          obtain ⟨go, co, hv, hgo, hgl⟩ := HF.out.o.form (by have := Hxl.out; omega)
          rw [Hxl.out] at hv
          subst hv
          have hcO := HF.out.o.cell (i := p) (by have := Hxl.out; omega)
          have d0 := HF.out.box.c0
          have hsr : w.heap.size + 1 ≤ wr.heap.size := HF.out.box.lt
          have hxs : xs.length ≤ 24 := by have := Hxl.out; omega
          generalize nth xs p = q at *
          clear hup
          go_wp2_with (at_builtin; refine wp_push2 (.tmp 38) (.tmp 47) rfl rfl (w.heap.size + 1) _ xs rfl HF.out.o rfl (by omega) hsr ?_; intro v' w' ho hb hm; have hF2 := HF.out.push ho hb hm; have HF2 := Lib.hid hF2; clear hF2 ho hb hm)
          go_roundw
          case rel => exact ⟨k + 1, _, by omega, by omega, by go_num, by simp [Hxl.out], HF2.out⟩
          case measure => simp [intOf]; omega
        · obtain rfl : k = nP := by omega
          obtain ⟨go, co, hv, hgo, hgl⟩ := HF.out.o.form (by have := Hxl.out; omega)
          rw [Hxl.out] at hv
          subst hv
          have d0 := HF.out.box.c0
          clear hlt
          go_wp2_with fail
          clear d0
          go_loopw [8] (fun v8 wr => ∃ (x : Nat) (xs : List Int), x ≤ k ∧ v8 = .int .i64 (x : Int) ∧ xs.length = k ∧ Fa w wr g a n cap (lim + 10 + 2 * (x : Int)) (.slice aP k cP) (.slice aW nW cW) (.slice (some ⟨gs, 0, none⟩) k c4) (.slice (some ⟨go, 0, none⟩) k co) (sums ps ws) xs) (fun v8 _ => k - (intOf v8).toNat)
          case atStart => exact ⟨0, xs, Nat.zero_le _, rfl, Hxl.out, HF.out.mono (by omega)⟩
          case round =>
            clear HF Hxl
            obtain ⟨x, xs, hx, rfl, hxl, hF⟩ := hrel
            have Hxl := Lib.hid hxl
            have HF := Lib.hid hF
            clear hxl hF
            by_cases hlt : (x : Int) < k
            · have d0 := HF.out.box.c0
              have d1 := HF.out.box.c1
              go_wp2_with fail
              refine (spec_l2Kids _ _ _ _ _ _ ps ws _ _ (HD.out _ HF.out.cq.grow) hTr.out.toPa (by omega)).mono ?_
              rintro e w7 ⟨v7, rfl, o7, b7⟩
              rw [Int.toNat_natCast] at o7
              obtain ⟨a7, c7, rfl⟩ := o7.shape
              have HF7 := Lib.hid (HF.out.below b7)
              have hgl7 : go < wr.heap.size := HF.out.o.lt.2
              have Hne7 : Hid (∀ p, a7 = some p → p.block ≠ go) := Lib.hid fun p hp e => by
                subst hp
                rcases Nat.eq_zero_or_pos (kids ps x).length with h0 | h0
                · have h1 := World.ownsRow.lt o7 p.block
                  have : (Value.slice (some p) (kids ps x).length c7).ownBlock = some p.block := by
                    obtain ⟨b, off, _⟩ := p; rfl
                  have := h1 this; omega
                · obtain ⟨gg, cc, he, h1, _⟩ := o7.form h0
                  have := (Value.slice.inj he).1; cases this; simp at e; omega
              have I7 := Lib.hid o7.ints
              have Hkl : Hid (∀ i, i < (kids ps x).length → ∃ j : Nat, x < j ∧ j < k ∧ nth (kids ps x) i = (j : Int)) := Lib.hid fun i hi => by have := kid_nth hTr.out.toPa hi; rw [Hl.out] at this; exact this
              have hml : (kids ps x).length ≤ 24 := by have := filt_length (fun y => nth ps y == (x : Int)) ps.length; have := Hl.out; unfold kids; omega
              generalize (kids ps x) = kl at *
              obtain ⟨m, hm⟩ : ∃ m, m = kl.length := ⟨_, rfl⟩
              rw [← hm] at I7 Hkl hml ⊢
              clear hm o7 b7 d0 d1 HF
              go_wp2_with fail
              go_loopw [10] (fun v10 wi => ∃ (i : Nat) (xs : List Int), i ≤ m ∧ v10 = .int .i64 (i : Int) ∧ xs.length = k ∧ Ints wi a7 m kl ∧ Fa w wi g a n cap (lim + 10 + 2 * (x : Int)) (.slice aP k cP) (.slice aW nW cW) (.slice (some ⟨gs, 0, none⟩) k c4) (.slice (some ⟨go, 0, none⟩) k co) (sums ps ws) xs) (fun v10 _ => m - (intOf v10).toNat)
              case atStart => exact ⟨0, xs, Nat.zero_le _, rfl, Hxl.out, I7.out, HF7.out⟩
              case round =>
                clear I7 HF7 Hxl
                obtain ⟨i, xs, hi, rfl, hxl, hI, hF⟩ := hrel
                have Hxl := Lib.hid hxl
                have HF := Lib.hid hF
                have HI := Lib.hid hI
                clear hxl hF hI
                by_cases hlti : (i : Int) < m
                · obtain ⟨b7, o7, rfl, hc7⟩ := HI.out.at (i := i) (Below.refl _ _) (by omega)
                  obtain ⟨j, hxj, hjk, hj⟩ := Hkl.out i (by omega)
                  rw [hj] at hc7
                  clear hj
                  have hcx := HF.out.o.cell (i := x) (by have := Hxl.out; omega)
                  have hcj := HF.out.o.cell (i := j) (by have := Hxl.out; omega)
                  have hfj := HF.out.o.free Hxl.out.symm j
                  have HF2 := Lib.hid (HF.out.drew.put Hxl.out.symm j (nth xs x))
                  have HI2 := Lib.hid (ints_far (w := wr.drew) (HI.out.below (Below.refl _ _).drew) (b := go) (i := j) Hne7.out (.int .i64 (nth xs x)))
                  generalize hox : nth xs x = ox at *
                  generalize nth xs j = oj at *
                  have Hox := Lib.hid hox
                  clear hox
                  have s1 : (0 : Int) ≤ (i : Int) := by omega
                  have s2 : (i : Int) < (m : Int) := by omega
                  have s3 : (0 : Int) ≤ (x : Int) := by omega
                  have s4 : (x : Int) < (k : Int) := by omega
                  have s5 : (0 : Int) ≤ (j : Int) := by omega
                  have s6 : (j : Int) < (k : Int) := by omega
                  go_wp2_with fail
                  refine wp_region_still_tail 10 (by kernel_rfl) (by kernel_rfl) ?_
                  simp only [List.take_succ_cons, List.take_zero, List.drop_succ_cons, List.drop_zero]
                  still_step
                  still_step
                  still_step
                  still_step
                  still_step
                  still_step
                  still_step
                  still_step
                  still_step
                  still_step
                  refine wpStill_nil ?_
                  change wpList _ _ _ _ _ wr.drew
                  go_wp2_with fail
                  go_roundw
                  case rel => exact ⟨i + 1, _, by omega, by go_num, by rw [List.length_set]; exact Hxl.out, HI2.out, HF2.out⟩
                  case measure => simp [intOf]; omega
                · obtain rfl : i = m := by omega
                  clear hlti
                  by_cases hm1 : (i : Int) > 1
                  · obtain ⟨b7, o7, rfl, hc7⟩ := HI.out.at (i := 0) (Below.refl _ _) (by omega)
                    obtain ⟨b7', o7', he7, hc7'⟩ := HI.out.at (i := i - 1) (Below.refl _ _) (by omega)
                    cases he7
                    obtain ⟨A, hxA, hAk, hA⟩ := Hkl.out 0 (by omega)
                    obtain ⟨B, hxB, hBk, hB⟩ := Hkl.out (i - 1) (by omega)
                    rw [hA] at hc7
                    rw [hB] at hc7'
                    clear hA hB
                    have k1 : IntKind.i64.wrap ((i : Int) - 1) = (i : Int) - 1 := IntWalk.i64_in _ (by omega)
                    have k2 : (0 : Int) ≤ (i : Int) - 1 := by omega
                    have k3 : (i : Int) - 1 < (i : Int) := by omega
                    have k4 : (0 : Int) < (i : Int) := by omega
                    have k5 : 0 < i := by omega
                    rw [Nat.add_zero] at hc7
                    go_wp2_with fail
                    go_quiet (fail)
                    clear hc7 hc7' k1 k2 k3 k4 k5
                    have HFq : Hid (∀ m', Fa w (wr.drewN m') g a n cap (lim + 10 + 2 * (x : Int)) (.slice aP k cP) (.slice aW nW cW) (.slice (some ⟨gs, 0, none⟩) k c4) (.slice (some ⟨go, 0, none⟩) k co) (sums ps ws) xs) := Lib.hid fun m' => HF.out.drewN m'
                    have hcx := HF.out.o.cell (i := x) (by have := Hxl.out; omega)
                    have hcs := HF.out.s.cell (i := B) (by have := Hsl.out; omega)
                    have hAx : A ≠ x := by omega
                    have r1 : (0 : Int) ≤ (x : Int) := by omega
                    have r2 : (x : Int) < (k : Int) := by omega
                    have r3 : (0 : Int) ≤ (B : Int) := by omega
                    have r4 : (B : Int) < (k : Int) := by omega
                    have r5 : (0 : Int) ≤ (A : Int) := by omega
                    have r6 : (A : Int) < (k : Int) := by omega
                    go_wp2_with fail
                    refine wp_region_noPanic ?_
                    refine wp_region_held_drew (S := (fun W' => W'.cell? ⟨go, x, none⟩ = some (.int .i64 (nth xs x)) ∧ W'.cell? ⟨gs, B, none⟩ = some (.int .i64 (nth (sums ps ws) B)))) (by kernel_rfl) ?_ (fun hHeld0 => ?_)
                    · (try dsimp only); first | assumption | exact ⟨hcx, hcs⟩ | exact HK.out
                    refine takeH (i := 0) (oi := _) (v := ?_) rfl (by kernel_rfl) (by kernel_rfl) (by kernel_rfl) (fun _ _ _ h => h) (Or.inl ⟨by rfl, ?_⟩) (by assumption) ?_
                    rotate_left
                    · first | (intro w hSw; (try dsimp only at hSw); go_simp; done) | (intro w hSw; (try dsimp only at hSw); go_simp; with_reducible rfl)
                    (try simp only [Act.put, List.setIfInBounds_toArray, List.set_cons_zero, List.set_cons_succ])
                    refine takeH (i := 1) (oi := _) (v := ?_) rfl (by kernel_rfl) (by kernel_rfl) (by kernel_rfl) (fun _ _ _ h => h) (Or.inl ⟨by rfl, ?_⟩) (by assumption) ?_
                    rotate_left
                    · first | (intro w hSw; (try dsimp only at hSw); go_simp; done) | (intro w hSw; (try dsimp only at hSw); go_simp; with_reducible rfl)
                    (try simp only [Act.put, List.setIfInBounds_toArray, List.set_cons_zero, List.set_cons_succ])
                    refine takeH (i := 2) (oi := _) (v := ?_) rfl (by kernel_rfl) (by kernel_rfl) (by kernel_rfl) (fun _ _ _ h => h) (Or.inl ⟨by rfl, ?_⟩) (by assumption) ?_
                    rotate_left
                    · first | (intro w hSw; (try dsimp only at hSw); go_simp; done) | (intro w hSw; (try dsimp only at hSw); go_simp; with_reducible rfl)
                    (try simp only [Act.put, List.setIfInBounds_toArray, List.set_cons_zero, List.set_cons_succ])
                    refine takeH (i := 3) (oi := _) (v := ?_) rfl (by kernel_rfl) (by kernel_rfl) (by kernel_rfl) (fun _ _ _ h => h) (Or.inl ⟨by rfl, ?_⟩) (by assumption) ?_
                    rotate_left
                    · first | (intro w hSw; (try dsimp only at hSw); go_simp; done) | (intro w hSw; (try dsimp only at hSw); go_simp; with_reducible rfl)
                    (try simp only [Act.put, List.setIfInBounds_toArray, List.set_cons_zero, List.set_cons_succ])
                    refine takeH (i := 4) (oi := _) (v := ?_) rfl (by kernel_rfl) (by kernel_rfl) (by kernel_rfl) (fun _ _ _ h => h) (Or.inl ⟨by rfl, ?_⟩) (by assumption) ?_
                    rotate_left
                    · first | (intro w hSw; (try dsimp only at hSw); go_simp; done) | (intro w hSw; (try dsimp only at hSw); go_simp; with_reducible rfl)
                    (try simp only [Act.put, List.setIfInBounds_toArray, List.set_cons_zero, List.set_cons_succ])
                    refine takeH (i := 5) (oi := _) (v := ?_) rfl (by kernel_rfl) (by kernel_rfl) (by kernel_rfl) (fun _ _ _ h => h) (Or.inl ⟨by rfl, ?_⟩) (by assumption) ?_
                    rotate_left
                    · first | (intro w hSw; (try dsimp only at hSw); go_simp; done) | (intro w hSw; (try dsimp only at hSw); go_simp; with_reducible rfl)
                    (try simp only [Act.put, List.setIfInBounds_toArray, List.set_cons_zero, List.set_cons_succ])
                    refine takeH (i := 6) (oi := _) (v := ?_) rfl (by kernel_rfl) (by kernel_rfl) (by kernel_rfl) (fun _ _ _ h => h) (Or.inl ⟨by rfl, ?_⟩) (by assumption) ?_
                    rotate_left
                    · first | (intro w hSw; (try dsimp only at hSw); go_simp; done) | (intro w hSw; (try dsimp only at hSw); go_simp; with_reducible rfl)
                    (try simp only [Act.put, List.setIfInBounds_toArray, List.set_cons_zero, List.set_cons_succ])
                    refine takeH (i := 7) (oi := _) (v := ?_) rfl (by kernel_rfl) (by kernel_rfl) (by kernel_rfl) (fun _ _ _ h => h) (Or.inl ⟨by rfl, ?_⟩) (by assumption) ?_
                    rotate_left
                    · first | (intro w hSw; (try dsimp only at hSw); go_simp; done) | (intro w hSw; (try dsimp only at hSw); go_simp; with_reducible rfl)
                    (try simp only [Act.put, List.setIfInBounds_toArray, List.set_cons_zero, List.set_cons_succ])
                    refine takeH (i := 8) (oi := _) (v := ?_) rfl (by kernel_rfl) (by kernel_rfl) (by kernel_rfl) (fun _ _ _ h => h) (Or.inl ⟨by rfl, ?_⟩) (by assumption) ?_
                    rotate_left
                    · first | (intro w hSw; (try dsimp only at hSw); go_simp; done) | (intro w hSw; (try dsimp only at hSw); go_simp; with_reducible rfl)
                    (try simp only [Act.put, List.setIfInBounds_toArray, List.set_cons_zero, List.set_cons_succ])
                    refine takeH (i := 9) (oi := _) (v := ?_) rfl (by kernel_rfl) (by kernel_rfl) (by kernel_rfl) (fun _ _ _ h => h) (Or.inl ⟨by rfl, ?_⟩) (by assumption) ?_
                    rotate_left
                    · first | (intro w hSw; (try dsimp only at hSw); go_simp; done) | (intro w hSw; (try dsimp only at hSw); go_simp; with_reducible rfl)
                    (try simp only [Act.put, List.setIfInBounds_toArray, List.set_cons_zero, List.set_cons_succ])
                    refine takeH (i := 10) (oi := _) (v := ?_) rfl (by kernel_rfl) (by kernel_rfl) (by kernel_rfl) (fun _ _ _ h => h) (Or.inl ⟨by rfl, ?_⟩) (by assumption) ?_
                    rotate_left
                    · first | (intro w hSw; (try dsimp only at hSw); go_simp; done) | (intro w hSw; (try dsimp only at hSw); go_simp; with_reducible rfl)
                    (try simp only [Act.put, List.setIfInBounds_toArray, List.set_cons_zero, List.set_cons_succ])
                    refine wpAnyH_ready (rs := [11]) (by kernel_rfl) (by simp) ?_
                    refine consH rfl (fun Kq hKq => ?_)
                    go_simp
                    refine (spec_pick g a n cap _ _ _ (by omega) (by omega) (HFq.out _).cq.cur).mono ?_
                    rintro e w9 ⟨⟨z, rfl, hz0, hz1⟩, c9, g9⟩
                    have HF9 := Lib.hid ((HFq.out _).step c9 g9)
                    have h9c := HF9.out.o.cell (i := A) (by have := Hxl.out; omega)
                    have h9f := HF9.out.o.free Hxl.out.symm A
                    have hSS := And.intro (HF9.out.o.cell (i := x) (by have := Hxl.out; omega)) (HF9.out.s.cell (i := B) (by have := Hsl.out; omega))
                    have z1 : IntKind.i64.wrap (z - 1) = z - 1 := IntWalk.i64_in _ (by omega)
                    obtain ⟨u1, z2⟩ : ∃ u1, IntKind.i64.wrap (nth (sums ps ws) B * (z - 1)) = u1 := ⟨_, rfl⟩
                    obtain ⟨u2, z3⟩ : ∃ u2, IntKind.i64.wrap (nth xs x + u1) = u2 := ⟨_, rfl⟩
                    have HF10 := Lib.hid (HF9.out.put Hxl.out.symm A u2)
                    have hnx : nth (xs.set A u2) x = nth xs x := by rw [nth_set (by have := Hxl.out; omega), if_neg hAx]
                    have HK := Lib.hid (And.intro (hnx ▸ HF10.out.o.cell (i := x) (by rw [List.length_set]; have := Hxl.out; omega)) (HF10.out.s.cell (i := B) (by have := Hsl.out; omega)))
                    clear c9 g9 hz0 hz1 hnx
                    refine hKq.out _ _ ?_ (fun hHeld1 => ?_)
                    · (try dsimp only); first | assumption | exact ⟨hcx, hcs⟩ | exact HK.out
                    clear hKq Kq
                    (try simp only [Act.put, List.setIfInBounds_toArray, List.set_cons_zero, List.set_cons_succ])
                    clear hHeld0
                    refine takeH (i := 12) (oi := _) (v := ?_) rfl (by kernel_rfl) (by kernel_rfl) (by kernel_rfl) (fun _ _ _ h => h) (Or.inl ⟨by rfl, ?_⟩) (by assumption) ?_
                    rotate_left
                    · first | (intro w hSw; (try dsimp only at hSw); go_simp; done) | (intro w hSw; (try dsimp only at hSw); go_simp; with_reducible rfl)
                    (try simp only [Act.put, List.setIfInBounds_toArray, List.set_cons_zero, List.set_cons_succ])
                    refine takeH (i := 13) (oi := _) (v := ?_) rfl (by kernel_rfl) (by kernel_rfl) (by kernel_rfl) (fun _ _ _ h => h) (Or.inl ⟨by rfl, ?_⟩) (by assumption) ?_
                    rotate_left
                    · first | (intro w hSw; (try dsimp only at hSw); go_simp; done) | (intro w hSw; (try dsimp only at hSw); go_simp; with_reducible rfl)
                    (try simp only [Act.put, List.setIfInBounds_toArray, List.set_cons_zero, List.set_cons_succ])
                    refine takeH (i := 14) (oi := _) (v := ?_) rfl (by kernel_rfl) (by kernel_rfl) (by kernel_rfl) (fun _ _ _ h => h) (Or.inl ⟨by rfl, ?_⟩) (by assumption) ?_
                    rotate_left
                    · first | (intro w hSw; (try dsimp only at hSw); go_simp; done) | (intro w hSw; (try dsimp only at hSw); go_simp; with_reducible rfl)
                    (try simp only [Act.put, List.setIfInBounds_toArray, List.set_cons_zero, List.set_cons_succ])
                    refine takeH (i := 15) (oi := _) (v := ?_) rfl (by kernel_rfl) (by kernel_rfl) (by kernel_rfl) (fun _ _ _ h => h) (Or.inl ⟨by rfl, ?_⟩) (by assumption) ?_
                    rotate_left
                    · first | (intro w hSw; (try dsimp only at hSw); go_simp; done) | (intro w hSw; (try dsimp only at hSw); go_simp; with_reducible rfl)
                    (try simp only [Act.put, List.setIfInBounds_toArray, List.set_cons_zero, List.set_cons_succ])
                    refine wpAnyH_ready (rs := [16]) (by kernel_rfl) (by simp) ?_
                    refine consH rfl (fun Kq hKq => ?_)
                    go_simp
                    refine hKq.out _ _ ?_ (fun hHeld2 => ?_)
                    · (try dsimp only); first | assumption | exact ⟨hcx, hcs⟩ | exact HK.out
                    clear hKq Kq
                    (try simp only [Act.put, List.setIfInBounds_toArray, List.set_cons_zero, List.set_cons_succ])
                    clear hHeld1
                    refine wpAnyH_done (by kernel_rfl) ?_ _
                    refine NoPanic.normal ?_
                    have Hxl2 : Hid ((xs.set A u2).length = k) := Lib.hid (by rw [List.length_set]; exact Hxl.out)
                    clear HK hSS h9c h9f HF9 z1 z2 z3 hcx hcs HFq HF
                    generalize xs.set A u2 = ys at *
                    generalize (w9.setCell ⟨go, A, none⟩ (.int .i64 u2)) = w10 at *
                    have hsp := sums_pos hTr.out B (by have := Hl.out; omega)
                    have q1 := HF10.out.o.cell (i := x) (by have := Hxl2.out; omega)
                    have q2 := HF10.out.s.cell (i := A) (by have := Hsl.out; omega)
                    have q3 := HF10.out.o.cell (i := A) (by have := Hxl2.out; omega)
                    have q4 := HF10.out.s.cell (i := B) (by have := Hsl.out; omega)
                    have q5 := HF10.out.o.cell (i := B) (by have := Hxl2.out; omega)
                    have q6 := HF10.out.o.free Hxl2.out.symm B
                    generalize nth (sums ps ws) A = sA at *
                    generalize nth (sums ps ws) B = sB at *
                    generalize nth ys x = ox at *
                    generalize nth ys A = oA at *
                    generalize nth ys B = oB at *
                    have q0 : ¬ sB = 0 := by omega
                    obtain ⟨d1, z1⟩ : ∃ d1, IntKind.i64.wrap (oA - ox) = d1 := ⟨_, rfl⟩
                    obtain ⟨d2, z2⟩ : ∃ d2, d1.tdiv sB = d2 := ⟨_, rfl⟩
                    obtain ⟨d3, z3⟩ : ∃ d3, IntKind.i64.wrap d2 = d3 := ⟨_, rfl⟩
                    obtain ⟨d4, z4⟩ : ∃ d4, IntKind.i64.wrap (sA * d3) = d4 := ⟨_, rfl⟩
                    obtain ⟨d5, z5⟩ : ∃ d5, IntKind.i64.wrap (ox - d4) = d5 := ⟨_, rfl⟩
                    go_wp2_with fail
                    refine wp_region_still_tail 27 (by kernel_rfl) (by kernel_rfl) ?_
                    simp only [List.take_succ_cons, List.take_zero, List.drop_succ_cons, List.drop_zero]
                    still_step
                    still_step
                    still_step
                    still_step
                    still_step
                    still_step
                    still_step
                    still_step
                    still_step
                    still_step
                    still_step
                    still_step
                    still_step
                    still_step
                    still_step
                    still_step
                    still_step
                    still_step
                    still_step
                    still_step
                    still_step
                    still_step
                    still_step
                    still_step
                    still_step
                    still_step
                    still_step
                    refine wpStill_nil ?_
                    change wpList _ _ _ _ _ w10.drew
                    go_wp2_with fail
                    exact ⟨⟨x + 1, _, by omega, by go_num, by rw [List.length_set]; exact Hxl2.out, (((HF10.out.put Hxl2.out.symm B _).drew).mono (by omega))⟩, by simp [intOf]; omega⟩
                  · go_wp2_with fail
                    go_roundw
                    case rel => exact ⟨x + 1, xs, by omega, by go_num, Hxl.out, HF.out.mono (by omega)⟩
                    case measure => simp [intOf]; omega
            · obtain rfl : x = k := by omega
              clear hlt
              go_wp2_with fail
              go_loopw [13] (fun v13 wr => ∃ (z : Nat) (xs : List Int), z ≤ x ∧ v13 = .int .i64 (z : Int) ∧ xs.length = x ∧ Fa w wr g a n cap (lim + 70) (.slice aP x cP) (.slice aW nW cW) (.slice (some ⟨gs, 0, none⟩) x c4) (.slice (some ⟨go, 0, none⟩) x co) (sums ps ws) xs) (fun v13 _ => x - (intOf v13).toNat)
              case atStart => exact ⟨0, xs, Nat.zero_le _, rfl, Hxl.out, HF.out.mono (by omega)⟩
              case round =>
                clear HF Hxl
                obtain ⟨z, xs, hz, rfl, hxl, hF⟩ := hrel
                have Hxl := Lib.hid hxl
                have HF := Lib.hid hF
                clear hxl hF
                by_cases hlt : (z : Int) < x
                · have hcz := HF.out.o.cell (i := z) (by have := Hxl.out; omega)
                  have hfz := HF.out.o.free Hxl.out.symm z
                  generalize nth xs z = q at *
                  go_wp2_with fail
                  refine (spec_l1Least _ _ _).mono ?_
                  rintro e w' ⟨rfl, rfl⟩
                  generalize least _ _ = u1
                  go_wp2_with fail
                  refine (spec_l1Most _ _ _).mono ?_
                  rintro e w' ⟨rfl, rfl⟩
                  generalize most _ _ = u2
                  go_wp2_with fail
                  go_roundw
                  case rel => exact ⟨z + 1, _, by omega, by go_num, by rw [List.length_set]; exact Hxl.out, HF.out.put Hxl.out.symm z u2⟩
                  case measure => simp [intOf]; omega
                · obtain rfl : z = x := by omega
                  clear hlt
                  go_wp2_with fail
                  refine (spec_one g a n cap _ _ _ (by omega) (by omega) HF.out.cq.cur).mono ?_
                  rintro e w7 ⟨⟨t, rfl⟩, c7, g7⟩
                  have HF7 := Lib.hid (HF.out.step c7 g7)
                  clear c7 g7 HF
                  cases t
                  · go_wp2_with fail
                    go_ret
                    exact ⟨⟨_, rfl, xs, HF7.out.o.mono (by omega), by have := Hxl.out; omega⟩, HF7.out.cq.cur.mono (by omega), HF7.out.cq.grow⟩
                  · go_wp2_with fail
                    refine (spec_pick g a n cap _ _ _ (by omega) (by omega) HF7.out.cq.cur).mono ?_
                    rintro e w8 ⟨⟨x0, rfl, hx0, hx1⟩, c8, g8⟩
                    obtain ⟨X, rfl⟩ : ∃ X : Nat, x0 = X := ⟨x0.toNat, by omega⟩
                    have hX : X < z := by omega
                    have HF8 := Lib.hid (HF7.out.step c8 g8)
                    have hwn : nW = z := by have := hTr.out.wl; have := Hl.out; have := Hlw.out; omega
                    obtain ⟨bW, oW, rfl, hcW⟩ := (HD.out _ HF8.out.cq.grow).w.at (i := X) (Below.refl _ _) (by omega)
                    have d1 := HF8.out.box.c1
                    have HwN := Lib.hid hwn
                    have hXw : X < nW := by omega
                    generalize nth ws X = wq at *
                    clear c8 g8 hx0 hx1 HF7 hwn
                    by_cases hq : wq > 0
                    · have hcx := HF8.out.o.cell (i := X) (by have := Hxl.out; omega)
                      have hfx := HF8.out.o.free Hxl.out.symm X
                      have r1 : (0 : Int) ≤ (X : Int) := by omega
                      have r2 : (X : Int) < (z : Int) := by omega
                      generalize nth xs X = ox at *
                      go_wp2_with fail
                      refine wp_region_noPanic ?_
                      refine wp_region_held_drew (S := (fun _ => True)) (by kernel_rfl) ?_ (fun hHeld0 => ?_)
                      · trivial
                      refine takeH (i := 0) (oi := _) (v := ?_) rfl (by kernel_rfl) (by kernel_rfl) (by kernel_rfl) (fun _ _ _ h => h) (Or.inl ⟨by rfl, ?_⟩) (by assumption) ?_
                      rotate_left
                      · first | (intro w hSw; (try dsimp only at hSw); go_simp; done) | (intro w hSw; (try dsimp only at hSw); go_simp; with_reducible rfl)
                      (try simp only [Act.put, List.setIfInBounds_toArray, List.set_cons_zero, List.set_cons_succ])
                      refine takeH (i := 1) (oi := _) (v := ?_) rfl (by kernel_rfl) (by kernel_rfl) (by kernel_rfl) (fun _ _ _ h => h) (Or.inl ⟨by rfl, ?_⟩) (by assumption) ?_
                      rotate_left
                      · first | (intro w hSw; (try dsimp only at hSw); go_simp; done) | (intro w hSw; (try dsimp only at hSw); go_simp; with_reducible rfl)
                      (try simp only [Act.put, List.setIfInBounds_toArray, List.set_cons_zero, List.set_cons_succ])
                      refine takeH (i := 2) (oi := _) (v := ?_) rfl (by kernel_rfl) (by kernel_rfl) (by kernel_rfl) (fun _ _ _ h => h) (Or.inl ⟨by rfl, ?_⟩) (by assumption) ?_
                      rotate_left
                      · first | (intro w hSw; (try dsimp only at hSw); go_simp; done) | (intro w hSw; (try dsimp only at hSw); go_simp; with_reducible rfl)
                      (try simp only [Act.put, List.setIfInBounds_toArray, List.set_cons_zero, List.set_cons_succ])
                      refine takeH (i := 3) (oi := _) (v := ?_) rfl (by kernel_rfl) (by kernel_rfl) (by kernel_rfl) (fun _ _ _ h => h) (Or.inl ⟨by rfl, ?_⟩) (by assumption) ?_
                      rotate_left
                      · first | (intro w hSw; (try dsimp only at hSw); go_simp; done) | (intro w hSw; (try dsimp only at hSw); go_simp; with_reducible rfl)
                      (try simp only [Act.put, List.setIfInBounds_toArray, List.set_cons_zero, List.set_cons_succ])
                      refine takeH (i := 4) (oi := _) (v := ?_) rfl (by kernel_rfl) (by kernel_rfl) (by kernel_rfl) (fun _ _ _ h => h) (Or.inl ⟨by rfl, ?_⟩) (by assumption) ?_
                      rotate_left
                      · first | (intro w hSw; (try dsimp only at hSw); go_simp; done) | (intro w hSw; (try dsimp only at hSw); go_simp; with_reducible rfl)
                      (try simp only [Act.put, List.setIfInBounds_toArray, List.set_cons_zero, List.set_cons_succ])
                      refine takeH (i := 6) (oi := _) (v := ?_) rfl (by kernel_rfl) (by kernel_rfl) (by kernel_rfl) (fun _ _ _ h => h) (Or.inl ⟨by rfl, ?_⟩) (by assumption) ?_
                      rotate_left
                      · first | (intro w hSw; (try dsimp only at hSw); go_simp; done) | (intro w hSw; (try dsimp only at hSw); go_simp; with_reducible rfl)
                      (try simp only [Act.put, List.setIfInBounds_toArray, List.set_cons_zero, List.set_cons_succ])
                      refine wpAnyH_ready (rs := [5, 7]) (by kernel_rfl) (by simp) ?_
                      refine consM rfl (fun Kq hKq => ?_) (consH rfl (fun Kq hKq => ?_))
                      · go_simp
                        refine hKq.out _ _ ?_ (fun hHeld1 => ?_)
                        · trivial
                        clear hKq Kq
                        (try simp only [Act.put, List.setIfInBounds_toArray, List.set_cons_zero, List.set_cons_succ])
                        clear hHeld0
                        refine wpAnyH_ready (rs := [7]) (by kernel_rfl) (by simp) ?_
                        refine consH rfl (fun Kq hKq => ?_)
                        go_simp
                        refine (spec_pick g a n cap _ _ _ (by omega) (by omega) HF8.out.drew.cq.cur).mono ?_
                        rintro e w9 ⟨⟨y, rfl, -, -⟩, c9, g9⟩
                        have HF9 := Lib.hid (HF8.out.drew.step c9 g9)
                        have h9c := HF9.out.o.cell (i := X) (by have := Hxl.out; omega)
                        have h9f := HF9.out.o.free Hxl.out.symm X
                        clear c9 g9
                        refine hKq.out _ _ ?_ (fun hHeld2 => ?_)
                        · trivial
                        clear hKq Kq
                        (try simp only [Act.put, List.setIfInBounds_toArray, List.set_cons_zero, List.set_cons_succ])
                        clear hHeld1
                        refine takeH (i := 8) (oi := _) (v := ?_) rfl (by kernel_rfl) (by kernel_rfl) (by kernel_rfl) (fun _ _ _ h => h) (Or.inl ⟨by rfl, ?_⟩) (by assumption) ?_
                        rotate_left
                        · first | (intro w hSw; (try dsimp only at hSw); go_simp; done) | (intro w hSw; (try dsimp only at hSw); go_simp; with_reducible rfl)
                        (try simp only [Act.put, List.setIfInBounds_toArray, List.set_cons_zero, List.set_cons_succ])
                        refine wpAnyH_ready (rs := [9]) (by kernel_rfl) (by simp) ?_
                        refine consH rfl (fun Kq hKq => ?_)
                        go_simp
                        refine (spec_l1Most _ _ _).mono ?_
                        rintro e w' ⟨rfl, rfl⟩
                        generalize most _ _ = u2
                        refine hKq.out _ _ ?_ (fun hHeld3 => ?_)
                        · trivial
                        clear hKq Kq
                        (try simp only [Act.put, List.setIfInBounds_toArray, List.set_cons_zero, List.set_cons_succ])
                        clear hHeld2
                        refine takeH (i := 10) (oi := _) (v := ?_) rfl (by kernel_rfl) (by kernel_rfl) (by kernel_rfl) (fun _ _ _ h => h) (Or.inl ⟨by rfl, ?_⟩) (by assumption) ?_
                        rotate_left
                        · first | (intro w hSw; (try dsimp only at hSw); go_simp; done) | (intro w hSw; (try dsimp only at hSw); go_simp; with_reducible rfl)
                        (try simp only [Act.put, List.setIfInBounds_toArray, List.set_cons_zero, List.set_cons_succ])
                        refine wpAnyH_ready (rs := [11]) (by kernel_rfl) (by simp) ?_
                        refine consH rfl (fun Kq hKq => ?_)
                        go_simp
                        refine hKq.out _ _ ?_ (fun hHeld4 => ?_)
                        · trivial
                        clear hKq Kq
                        (try simp only [Act.put, List.setIfInBounds_toArray, List.set_cons_zero, List.set_cons_succ])
                        clear hHeld3
                        refine wpAnyH_done (by kernel_rfl) ?_ _
                        refine NoPanic.normal ?_
                        have HFz := Lib.hid (HF9.out.put Hxl.out.symm X u2)
                        go_wp2_with fail
                        go_ret
                        exact ⟨⟨_, rfl, _, HFz.out.o.mono (by omega), by rw [List.length_set]; have := Hxl.out; omega⟩, HFz.out.cq.cur.mono (by omega), HFz.out.cq.grow⟩
                      · go_simp
                        refine (spec_pick g a n cap _ _ _ (by omega) (by omega) HF8.out.drew.cq.cur).mono ?_
                        rintro e w9 ⟨⟨y, rfl, -, -⟩, c9, g9⟩
                        have HF9 := Lib.hid (HF8.out.drew.step c9 g9)
                        have h9c := HF9.out.o.cell (i := X) (by have := Hxl.out; omega)
                        have h9f := HF9.out.o.free Hxl.out.symm X
                        clear c9 g9
                        refine hKq.out _ _ ?_ (fun hHeld1 => ?_)
                        · trivial
                        clear hKq Kq
                        (try simp only [Act.put, List.setIfInBounds_toArray, List.set_cons_zero, List.set_cons_succ])
                        clear hHeld0
                        refine wpAnyH_ready (rs := [5]) (by kernel_rfl) (by simp) ?_
                        refine consH rfl (fun Kq hKq => ?_)
                        go_simp
                        refine hKq.out _ _ ?_ (fun hHeld2 => ?_)
                        · trivial
                        clear hKq Kq
                        (try simp only [Act.put, List.setIfInBounds_toArray, List.set_cons_zero, List.set_cons_succ])
                        clear hHeld1
                        refine takeH (i := 8) (oi := _) (v := ?_) rfl (by kernel_rfl) (by kernel_rfl) (by kernel_rfl) (fun _ _ _ h => h) (Or.inl ⟨by rfl, ?_⟩) (by assumption) ?_
                        rotate_left
                        · first | (intro w hSw; (try dsimp only at hSw); go_simp; done) | (intro w hSw; (try dsimp only at hSw); go_simp; with_reducible rfl)
                        (try simp only [Act.put, List.setIfInBounds_toArray, List.set_cons_zero, List.set_cons_succ])
                        refine wpAnyH_ready (rs := [9]) (by kernel_rfl) (by simp) ?_
                        refine consH rfl (fun Kq hKq => ?_)
                        go_simp
                        refine (spec_l1Most _ _ _).mono ?_
                        rintro e w' ⟨rfl, rfl⟩
                        generalize most _ _ = u2
                        refine hKq.out _ _ ?_ (fun hHeld3 => ?_)
                        · trivial
                        clear hKq Kq
                        (try simp only [Act.put, List.setIfInBounds_toArray, List.set_cons_zero, List.set_cons_succ])
                        clear hHeld2
                        refine takeH (i := 10) (oi := _) (v := ?_) rfl (by kernel_rfl) (by kernel_rfl) (by kernel_rfl) (fun _ _ _ h => h) (Or.inl ⟨by rfl, ?_⟩) (by assumption) ?_
                        rotate_left
                        · first | (intro w hSw; (try dsimp only at hSw); go_simp; done) | (intro w hSw; (try dsimp only at hSw); go_simp; with_reducible rfl)
                        (try simp only [Act.put, List.setIfInBounds_toArray, List.set_cons_zero, List.set_cons_succ])
                        refine wpAnyH_ready (rs := [11]) (by kernel_rfl) (by simp) ?_
                        refine consH rfl (fun Kq hKq => ?_)
                        go_simp
                        refine hKq.out _ _ ?_ (fun hHeld4 => ?_)
                        · trivial
                        clear hKq Kq
                        (try simp only [Act.put, List.setIfInBounds_toArray, List.set_cons_zero, List.set_cons_succ])
                        clear hHeld3
                        refine wpAnyH_done (by kernel_rfl) ?_ _
                        refine NoPanic.normal ?_
                        have HFz := Lib.hid (HF9.out.put Hxl.out.symm X u2)
                        go_wp2_with fail
                        go_ret
                        exact ⟨⟨_, rfl, _, HFz.out.o.mono (by omega), by rw [List.length_set]; have := Hxl.out; omega⟩, HFz.out.cq.cur.mono (by omega), HFz.out.cq.grow⟩
                    · go_wp2_with fail
                      go_ret
                      exact ⟨⟨_, rfl, xs, HF8.out.o.mono (by omega), by have := Hxl.out; omega⟩, HF8.out.cq.cur.mono (by omega), HF8.out.cq.grow⟩
end Go.Proofs.Ytnbomleieianoaa
