/- Contracts and plain laws for the statement FnStoppedMeans, part 6. No conditions but those stated in each. -/
import Derived.Test.YtnbomleieianoaaGreatBnFnStoppedMeans5
import Derived.Test.YtnbomleieianoaaGreatBnFnStoppedMeans8
/- Contracts: nodes and pays of a drawn tree. No conditions but those stated. -/
namespace Go.Proofs.YtnbomleieianoaaGreat
open Go.RowKit

set_option maxRecDepth 100000 in
set_option maxHeartbeats 1000000 in
theorem spec_nodeOf (g : Nat) (a : Option Addr) (n cap : Nat) (lim : Int) (aP : Option Addr) (nP cP : Nat) (aW : Option Addr) (nW cW : Nat) (w : World) (hl : lim ≤ 100000) (hnP : nP ≤ 30) (h : Cur w g a n cap lim) :
    Calls Tryz.prog 111 #[.pointer (some ⟨g, 0, none⟩), .agg #[.slice aP nP cP, .slice aW nW cW]] w fun e w' => (∃ x : Int, e = .returned (.int .i64 x)) ∧ Cur w' g a n cap (lim + 10) ∧ w.grownBy w' (some g) := by
  have C0 := Lib.hid ((Cq.start h).lit (.cells #[.slice aP nP cP, .slice aW nW cW] 26))
  have hP1 := Pair.new w (.slice aP nP cP) (.slice aW nW cW) 26
  have hgw : w.heap.size ≠ g := by have := h.lt; omega
  clear h
  go_enter Tryz.func111, Tryz.ntmps111
  have c0 := hP1.c0
  have HP1 := Lib.hid hP1
  clear hP1
  by_cases h0 : nP = 0
  · subst h0
    go_wp2_with fail
    have hs0 : (w.alloc (.cells #[.slice aP 0 cP, .slice aW nW cW] 26)).heap.size = w.heap.size + 1 := by simp
    generalize (w.alloc (.cells #[.slice aP 0 cP, .slice aW nW cW] 26)) = w0 at *
    rw [← hs0]
    refine (among_lit g a n cap lim [-1, 0, 0, 4611686018427387904] _ 4 _ (by omega) rfl rfl (by omega) C0.out.cur).mono ?_
    rintro e w1 ⟨⟨i, hi, rfl⟩, c1, g1⟩
    have C1 := Lib.hid (C0.out.step c1 g1)
    generalize nth _ i = u
    go_wp2_with fail
    go_ret
    exact ⟨⟨_, rfl⟩, C1.out.cur.mono (by omega), C1.out.grow⟩
  · have h1 : ((nP : Int) == 0) = false := by simp; omega
    go_wp2_with fail
    have hs0 : (w.alloc (.cells #[.slice aP nP cP, .slice aW nW cW] 26)).heap.size = w.heap.size + 1 := by simp
    generalize (w.alloc (.cells #[.slice aP nP cP, .slice aW nW cW] 26)) = w0 at *
    refine (spec_one g a n cap lim _ _ (by omega) (by omega) C0.out.cur).mono ?_
    rintro e w1 ⟨⟨t, rfl⟩, c1, g1⟩
    have C1 := Lib.hid (C0.out.step c1 g1)
    have hP2 := pair_other HP1.out g1 hgw
    have d0 := hP2.c0
    clear c1 g1 hP2 c0
    cases t
    · go_wp2_with fail
      refine (spec_pick g a n cap _ _ _ (by omega) (by omega) C1.out.cur).mono ?_
      rintro e w2 ⟨⟨x, rfl, -, -⟩, c2, g2⟩
      have C2 := Lib.hid (C1.out.step c2 g2)
      go_wp2_with fail
      go_ret
      exact ⟨⟨_, rfl⟩, C2.out.cur.mono (by omega), C2.out.grow⟩
    · go_wp2_with fail
      refine (among_lit g a n cap _ [-1, 0, (nP : Int), 4611686018427387904] _ 4 _ (by omega) rfl rfl (by omega) C1.out.cur).mono ?_
      rintro e w2 ⟨⟨i, hi, rfl⟩, c2, g2⟩
      have C2 := Lib.hid (C1.out.step c2 g2)
      generalize nth _ i = u
      go_wp2_with fail
      go_ret
      exact ⟨⟨_, rfl⟩, C2.out.cur.mono (by omega), C2.out.grow⟩
set_option maxRecDepth 100000 in
set_option maxHeartbeats 1000000 in
theorem spec_pays (g : Nat) (a : Option Addr) (n cap : Nat) (lim : Int) (aP : Option Addr) (nP cP : Nat) (aW : Option Addr) (nW cW : Nat) (w : World) (hl : lim ≤ 50000) (hnP : nP ≤ 30) (h : Cur w g a n cap lim) :
    Calls Tryz.prog 94 #[.pointer (some ⟨g, 0, none⟩), .agg #[.slice aP nP cP, .slice aW nW cW]] w fun e w' => (∃ v, e = .returned v ∧ OwnA w' w.heap.size v 31) ∧ Cur w' g a n cap (lim + 200) ∧ w.grownBy w' (some g) := by
  have C0 := Lib.hid ((Cq.start h).lit (.cells #[.slice aP nP cP, .slice aW nW cW] 26))
  have hP1 := Pair.new w (.slice aP nP cP) (.slice aW nW cW) 26
  have hgw : w.heap.size ≠ g := by have := h.lt; omega
  clear h
  go_enter Tryz.func94, Tryz.ntmps94
  have c0 := hP1.c0
  clear hP1
  go_wp2_with fail
  have hs0 : w.heap.size ≤ (w.alloc (.cells #[.slice aP nP cP, .slice aW nW cW] 26)).heap.size := by simp
  generalize (w.alloc (.cells #[.slice aP nP cP, .slice aW nW cW] 26)) = w0 at *
  refine (spec_l1Least _ _ _).mono ?_
  rintro e w1 ⟨rfl, rfl⟩
  obtain ⟨m, hm, hm2⟩ : ∃ m : Nat, least (nP : Int) 24 = (m : Int) ∧ m ≤ 30 := ⟨(least (nP : Int) 24).toNat, by unfold least; omega, by unfold least; omega⟩
  rw [hm]
  clear hm
  go_wp2_with fail
  refine (spec_somePays g a n cap lim m _ (by omega) hm2 C0.out.cur).mono ?_
  rintro e w2 ⟨⟨v, rfl, ov⟩, c2, g2⟩
  have C2 := Lib.hid (C0.out.step c2 g2)
  have OV := Lib.hid (ov.mono hs0)
  clear ov c2 g2
  go_wp2_with fail
  go_ret
  exact ⟨⟨_, rfl, OV.out⟩, C2.out.cur, C2.out.grow⟩
end Go.Proofs.YtnbomleieianoaaGreat

/- Contract: a tree drawn by the cursor. No conditions but those stated. -/
namespace Go.Proofs.YtnbomleieianoaaGreat
open Go.RowKit

theorem Pair.sto0 {w : World} {g : Nat} {x y : Value} (h : Pair w g x y) (x' : Value) : Pair (w.setCell ⟨g, 0, none⟩ x') g x' y :=
  ⟨cell_set h.c0, by rw [World.cell?_setCell_other _ _ _ _ (by simp)]; exact h.c1, by simpa using h.f0, by simpa using h.f1⟩
theorem Pair.sto1 {w : World} {g : Nat} {x y : Value} (h : Pair w g x y) (y' : Value) : Pair (w.setCell ⟨g, 1, none⟩ y') g x y' :=
  ⟨by rw [World.cell?_setCell_other _ _ _ _ (by simp)]; exact h.c0, cell_set h.c1, by simpa using h.f0, by simpa using h.f1⟩
/-- The two slices of a tree that is being made, in the box tb, of the call's own and apart; the box for the result stands empty. -/
structure Two (w0 w : World) (tb : Nat) (vP vW : Value) (ps ws : List Int) : Prop where
  box : Pair w tb vP vW
  p : Own w (w0.heap.size + 1) vP ps
  q : Own w (w0.heap.size + 1) vW ws
  sPW : ∀ k, vP.ownBlock = some k → vW.ownBlock = some k → False
  sP : vP.ownBlock ≠ some tb
  sW : vW.ownBlock ≠ some tb
  ge : w0.heap.size + 1 ≤ tb
  res : Pair w w0.heap.size (.slice none 0 0) (.slice none 0 0)
theorem Two.below {w0 w w' : World} {tb : Nat} {vP vW : Value} {ps ws : List Int} (h : Two w0 w tb vP vW ps ws) (hb : Below w.heap.size w w') : Two w0 w' tb vP vW ps ws :=
  ⟨h.box.below hb, h.p.below hb, h.q.below hb, h.sPW, h.sP, h.sW, h.ge, h.res.below hb⟩
theorem Two.lit {w0 w : World} {tb : Nat} {vP vW : Value} {ps ws : List Int} (h : Two w0 w tb vP vW ps ws) (o : Obj) : Two w0 (w.alloc o) tb vP vW ps ws := h.below (below_new w o)
theorem Two.drew {w0 w : World} {tb : Nat} {vP vW : Value} {ps ws : List Int} (h : Two w0 w tb vP vW ps ws) : Two w0 w.drew tb vP vW ps ws := h.below (Below.refl _ _).drew
theorem Two.other {w0 w w' : World} {tb g : Nat} {vP vW : Value} {ps ws : List Int} (h : Two w0 w tb vP vW ps ws) (hg : w.grownBy w' (some g)) (hlt : g < w0.heap.size) : Two w0 w' tb vP vW ps ws :=
  ⟨pair_other h.box hg (by have := h.ge; omega), own_other h.p hg (by omega), own_other h.q hg (by omega), h.sPW, h.sP, h.sW, h.ge, pair_other h.res hg (by omega)⟩
/-- What an append to the first slice leaves, ahead of the store and behind it. -/
theorem Two.pushP {w0 w w' : World} {tb : Nat} {vP vW v' : Value} {ps ps' ws : List Int} (h : Two w0 w tb vP vW ps ws) (ho : Own w' (w0.heap.size + 1) v' ps') (hb : Below (w0.heap.size + 1) w w') (hm : Moved w vP w' v') :
    Pair w' tb vP vW ∧ Two w0 (w'.setCell ⟨tb, 0, none⟩ v') tb v' vW ps' ws := by
  have h1 := pair_moved h.box hm h.sP
  have h2 := (hm.2 tb h.box.lt h.sP).1
  have hw : Own w' (w0.heap.size + 1) vW ws := h.q.moved hm fun k h1 h2 => h.sPW k h2 h1
  refine ⟨h1, h1.sto0 v', ho.far (a := ⟨tb, 0, none⟩) h2 v', hw.far (a := ⟨tb, 0, none⟩) h.sW v', fun k h3 h4 => ?_, h2, h.sW, h.ge, ((h.res.up hb (by omega)).far (by have := h.ge; omega) v')⟩
  exact (hm.2 k (World.ownsRow.lt h.q k h4).2 (fun e => h.sPW k e h4)).1 h3
theorem Two.pushW {w0 w w' : World} {tb : Nat} {vP vW v' : Value} {ps ws ws' : List Int} (h : Two w0 w tb vP vW ps ws) (ho : Own w' (w0.heap.size + 1) v' ws') (hb : Below (w0.heap.size + 1) w w') (hm : Moved w vW w' v') :
    Pair w' tb vP vW ∧ Two w0 (w'.setCell ⟨tb, 1, none⟩ v') tb vP v' ps ws' := by
  have h1 := pair_moved h.box hm h.sW
  have h2 := (hm.2 tb h.box.lt h.sW).1
  have hp : Own w' (w0.heap.size + 1) vP ps := h.p.moved hm fun k h1 h2 => h.sPW k h1 h2
  refine ⟨h1, h1.sto1 v', hp.far (a := ⟨tb, 1, none⟩) h.sP v', ho.far (a := ⟨tb, 1, none⟩) h2 v', fun k h3 h4 => ?_, h.sP, h2, h.ge, ((h.res.up hb (by omega)).far (by have := h.ge; omega) v')⟩
  exact (hm.2 k (World.ownsRow.lt h.p k h3).2 (fun e => h.sPW k h3 e)).1 h4
/-- A number put into one of the slices. -/
theorem Two.setP {w0 w : World} {tb gp np cp : Nat} {vW : Value} {ps ws : List Int} (h : Two w0 w tb (.slice (some ⟨gp, 0, none⟩) np cp) vW ps ws) (hn : np = ps.length) (i : Nat) (u : Int) :
    Two w0 (w.setCell ⟨gp, i, none⟩ (.int .i64 u)) tb (.slice (some ⟨gp, 0, none⟩) np cp) vW (ps.set i u) ws := by
  have h1 : gp ≠ tb := fun e => h.sP (by rw [e]; rfl)
  have h2 := World.ownsRow.lt h.p gp rfl
  exact ⟨h.box.far h1 _, h.p.set hn i u, h.q.far (a := ⟨gp, i, none⟩) (fun e => h.sPW gp rfl e) _, h.sPW, h.sP, h.sW, h.ge, h.res.far (by omega) _⟩
theorem Two.setW {w0 w : World} {tb gw nw cw : Nat} {vP : Value} {ps ws : List Int} (h : Two w0 w tb vP (.slice (some ⟨gw, 0, none⟩) nw cw) ps ws) (hn : nw = ws.length) (i : Nat) (u : Int) :
    Two w0 (w.setCell ⟨gw, i, none⟩ (.int .i64 u)) tb vP (.slice (some ⟨gw, 0, none⟩) nw cw) ps (ws.set i u) := by
  have h1 : gw ≠ tb := fun e => h.sW (by rw [e]; rfl)
  have h2 := World.ownsRow.lt h.q gw rfl
  exact ⟨h.box.far h1 _, h.p.far (a := ⟨gw, i, none⟩) (fun e => h.sPW gw e rfl) _, h.q.set hn i u, h.sPW, h.sP, h.sW, h.ge, h.res.far (by omega) _⟩
/-- A new box for two new slices. -/
theorem two_new {w0 w : World} {vP vW : Value} {ps ws : List Int} (t : TypeId) (hp : Own w (w0.heap.size + 1) vP ps) (hw : Own w (w0.heap.size + 1) vW ws) (hs : ∀ k, vP.ownBlock = some k → vW.ownBlock = some k → False) (hr : Pair w w0.heap.size (.slice none 0 0) (.slice none 0 0)) :
    Two w0 (w.alloc (.cells #[vP, vW] t)) w.heap.size vP vW ps ws := by
  have hlt := hr.lt
  exact ⟨Pair.new w vP vW t, hp.lit _, hw.lit _, hs, fun e => by have := (World.ownsRow.lt hp _ e).2; omega, fun e => by have := (World.ownsRow.lt hw _ e).2; omega, hlt, hr.alloc _⟩
theorem Two.cq {w0 w : World} {g : Nat} {a : Option Addr} {n cap : Nat} {lim : Int} (hc : Cq w0 w g a n cap lim) {tb i : Nat} (h : w0.heap.size + 1 ≤ tb) (v : Value) : Cq w0 (w.setCell ⟨tb, i, none⟩ v) g a n cap lim :=
  hc.up (show Below w0.heap.size w (w.setCell ⟨tb, i, none⟩ v) from (Below.refl w0.heap.size w).setCell (show w0.heap.size ≤ tb by omega) v)
/-- A drawn tree. -/
def TreV (w : World) (base : Nat) (v : Value) : Prop := ∃ (aP : Option Addr) (nP cP : Nat) (aW : Option Addr) (nW cW : Nat) (ps ws : List Int), v = .agg #[.slice aP nP cP, .slice aW nW cW] ∧ DTre w base aP nP cP aW nW cW ps ws
theorem Two.done {w0 w : World} {tb nP cP nW cW : Nat} {aP aW : Option Addr} {ps ws : List Int} (h : Two w0 w tb (.slice aP nP cP) (.slice aW nW cW) ps ws) (h1 : nP ≤ 30) (h2 : nW ≤ 30) :
    TreV ((w.setCell ⟨w0.heap.size, 0, none⟩ (.slice aP nP cP)).setCell ⟨w0.heap.size, 1, none⟩ (.slice aW nW cW)) w0.heap.size (.agg #[.slice aP nP cP, .slice aW nW cW]) := by
  have hp : (Value.slice aP nP cP).ownBlock ≠ some w0.heap.size := fun e => by have := (World.ownsRow.lt h.p _ e).1; omega
  have hw : (Value.slice aW nW cW).ownBlock ≠ some w0.heap.size := fun e => by have := (World.ownsRow.lt h.q _ e).1; omega
  exact ⟨_, _, _, _, _, _, ps, ws, rfl, ((h.p.far (a := ⟨w0.heap.size, 0, none⟩) hp _).far (a := ⟨w0.heap.size, 1, none⟩) hp _).mono (by omega), ((h.q.far (a := ⟨w0.heap.size, 0, none⟩) hw _).far (a := ⟨w0.heap.size, 1, none⟩) hw _).mono (by omega), h1, h2⟩
theorem Two.doneC {w0 w : World} {g : Nat} {a : Option Addr} {n cap : Nat} {lim : Int} (hc : Cq w0 w g a n cap lim) (x y : Value) : Cq w0 ((w.setCell ⟨w0.heap.size, 0, none⟩ x).setCell ⟨w0.heap.size, 1, none⟩ y) g a n cap lim :=
  hc.up (show Below w0.heap.size w ((w.setCell ⟨w0.heap.size, 0, none⟩ x).setCell ⟨w0.heap.size, 1, none⟩ y) from ((Below.refl w0.heap.size w).setCell (Nat.le_refl _) x).setCell (Nat.le_refl _) y)
theorem Two.setC {w0 w : World} {g : Nat} {a : Option Addr} {n cap : Nat} {lim : Int} (hc : Cq w0 w g a n cap lim) {q i : Nat} (h : w0.heap.size ≤ q) (v : Value) : Cq w0 (w.setCell ⟨q, i, none⟩ v) g a n cap lim :=
  hc.up (show Below w0.heap.size w (w.setCell ⟨q, i, none⟩ v) from (Below.refl w0.heap.size w).setCell (show w0.heap.size ≤ q from h) v)
/-- Between the steps of the draw. -/
def SomeR (w wr : World) (g : Nat) (a : Option Addr) (n cap : Nat) (lim : Int) (tb np nw : Nat) : Prop :=
  ∃ (aP : Option Addr) (cP : Nat) (aW : Option Addr) (cW : Nat) (ps ws : List Int), Two w wr tb (.slice aP np cP) (.slice aW nw cW) ps ws ∧ Cq w wr g a n cap lim
theorem SomeR.mono {w wr : World} {g : Nat} {a : Option Addr} {n cap : Nat} {lim lim' : Int} {tb np nw : Nat} (h : SomeR w wr g a n cap lim tb np nw) (hl : lim ≤ lim') : SomeR w wr g a n cap lim' tb np nw := by
  obtain ⟨aP, cP, aW, cW, ps, ws, h1, h2⟩ := h; exact ⟨aP, cP, aW, cW, ps, ws, h1, h2.mono hl⟩
set_option maxRecDepth 100000 in
set_option maxHeartbeats 4000000 in
theorem spec_someTree (g : Nat) (a : Option Addr) (n cap : Nat) (lim : Int) (mx : Int) (w : World) (hl : lim ≤ 10000) (hmx : 1 ≤ mx ∧ mx ≤ 24) (h : Cur w g a n cap lim) :
    Calls Tryz.prog 139 #[.pointer (some ⟨g, 0, none⟩), .int .i64 mx] w fun e w' => (∃ v, e = .returned v ∧ TreV w' w.heap.size v) ∧ Cur w' g a n cap (lim + 400) ∧ w.grownBy w' (some g) := by
  have C0 := Lib.hid (((Cq.start h).lit (.cells #[.slice none 0 0, .slice none 0 0] 26)))
  have R0 := Lib.hid (Pair.new w (.slice none 0 0) (.slice none 0 0) 26)
  have hs1 : (w.alloc (.cells #[.slice none 0 0, .slice none 0 0] 26)).heap.size = w.heap.size + 1 := by simp
  have hgw := h.lt
  clear h
  go_enter Tryz.func139, Tryz.ntmps139
  go_wp2_with fail
  generalize (w.alloc (.cells #[.slice none 0 0, .slice none 0 0] 26)) = w1 at *
  have hn1 : Own ((w1.alloc (.cells #[.int .i64 (-1)] 3)).alloc (.cells #[] 3)) (w.heap.size + 1) (.slice (some ⟨w1.heap.size, 0, none⟩) 1 1) [-1] := by
    have := World.ownsRow_lit (size := 1) (e := 3) (base := w.heap.size + 1) w1 #[.int .i64 (-1)] 1 (by omega) (by simp [maxLen]) (by simp)
    exact Own.lit (xs := [-1]) this _
  have hn2 : Own ((w1.alloc (.cells #[.int .i64 (-1)] 3)).alloc (.cells #[] 3)) (w.heap.size + 1) (.slice (some ⟨w1.heap.size + 1, 0, none⟩) 0 0) [] := by
    have := (own_nil0 (w1.alloc (.cells #[.int .i64 (-1)] 3))).mono (base' := w.heap.size + 1) (by simp; omega)
    simpa using this
  have C2 := Lib.hid ((C0.out.lit (.cells #[.int .i64 (-1)] 3)).lit (.cells #[] 3))
  have R2 := Lib.hid ((R0.out.alloc (.cells #[.int .i64 (-1)] 3)).alloc (.cells #[] 3))
  have hs2 : ((w1.alloc (.cells #[.int .i64 (-1)] 3)).alloc (.cells #[] 3)).heap.size = w.heap.size + 1 + 1 + 1 := by simp; omega
  rw [hs1] at hn1 hn2
  have N1 := Lib.hid hn1
  have N2 := Lib.hid hn2
  clear hn1 hn2 C0 R0 hs1
  generalize ((w1.alloc (.cells #[.int .i64 (-1)] 3)).alloc (.cells #[] 3)) = w2 at *
  rw [← hs2]
  have hsz2 : w.heap.size < w2.heap.size := by omega
  clear hs2
  refine (among_lit g a n cap lim [5, 7, 4, 10, 3, 2, 1, 15, 24] _ 9 _ (by omega) rfl rfl (by omega) C2.out.cur).mono ?_
  rintro e w3 ⟨⟨i, hi, rfl⟩, c3, g3⟩
  have hM : 1 ≤ nth [5, 7, 4, 10, 3, 2, 1, 15, 24] i ∧ nth [5, 7, 4, 10, 3, 2, 1, 15, 24] i ≤ 24 := by
    rcases (show i = 0 ∨ i = 1 ∨ i = 2 ∨ i = 3 ∨ i = 4 ∨ i = 5 ∨ i = 6 ∨ i = 7 ∨ i = 8 by omega) with rfl | rfl | rfl | rfl | rfl | rfl | rfl | rfl | rfl <;> decide
  generalize nth [5, 7, 4, 10, 3, 2, 1, 15, 24] i = M at *
  have C3 := Lib.hid (C2.out.step c3 g3)
  have M1 := Lib.hid (own_other N1.out g3 (by omega))
  have M2 := Lib.hid (own_other N2.out g3 (by omega))
  have R3 := Lib.hid (pair_other R2.out g3 (by omega))
  clear c3 g3 N1 N2 R2 C2
  go_wp2_with fail
  refine (spec_l1Least _ _ _).mono ?_
  rintro e w4 ⟨rfl, rfl⟩
  obtain ⟨N, hN, hN1⟩ : ∃ N : Nat, least M mx = (N : Int) ∧ 1 ≤ N ∧ N ≤ 24 := ⟨(least M mx).toNat, by unfold least; omega, by unfold least; omega⟩
  rw [hN]
  clear hN
  go_wp2_with fail
  refine (spec_one g a n cap _ _ _ (by omega) (by omega) C3.out.cur).mono ?_
  rintro e w5 ⟨⟨wide, rfl⟩, c5, g5⟩
  have C5 := Lib.hid (C3.out.step c5 g5)
  have hT := two_new 26 (own_other M1.out g5 (by omega)) (own_other M2.out g5 (by omega)) (fun k h1 h2 => by simp [Value.ownBlock] at h1 h2; omega) (pair_other R3.out g5 (by omega))
  have hC := C5.out.lit (.cells #[.slice (some ⟨w.heap.size + 1, 0, none⟩) 1 1, .slice (some ⟨w.heap.size + 1 + 1, 0, none⟩) 0 0] 26)
  have h0 : SomeR w (w5.alloc (.cells #[.slice (some ⟨w.heap.size + 1, 0, none⟩) 1 1, .slice (some ⟨w.heap.size + 1 + 1, 0, none⟩) 0 0] 26)) g a n cap (lim + 10) w5.heap.size 1 0 := ⟨_, _, _, _, _, _, hT, hC.mono (by omega)⟩
  have H0 := Lib.hid h0
  have hP5 := Pair.new w5 (.slice none 0 0) (.slice none 0 0) 26
  have x0 := hP5.c0
  have x1 := hP5.c1
  have y0 := hP5.f0
  have y1 := hP5.f1
  clear c5 g5 hT hC M1 M2 R3 C3 hP5 h0
  go_wp2_with fail
  clear x0 x1 y0 y1
  generalize (w5.alloc (.cells #[.slice (some ⟨w.heap.size + 1, 0, none⟩) 1 1, .slice (some ⟨w.heap.size + 1 + 1, 0, none⟩) 0 0] 26)) = w6 at *
  clear C5
  generalize w5.heap.size = tb at *
  clear hM hi
  go_loopw [8] (fun v8 wr => ∃ x : Nat, 1 ≤ x ∧ x ≤ N ∧ v8 = .int .i64 (x : Int) ∧ SomeR w wr g a n cap (lim + 10 + 2 * (x : Int)) tb x 0) (fun v8 _ => N - (intOf v8).toNat)
  case atStart => exact ⟨1, Nat.le_refl _, hN1.1, rfl, H0.out.mono (by omega)⟩
  case round =>
    clear H0
    obtain ⟨x, hx1, hxN, rfl, hS⟩ := hrel
    by_cases hlt : (x : Int) < N
    · obtain ⟨aP, cP, aW, cW, ps, ws, hT, hC⟩ := hS
      have HT := Lib.hid hT
      have HC := Lib.hid hC
      clear hT hC
      go_wp2_with fail
      refine (spec_pick g a n cap _ _ _ (by omega) (by omega) HC.out.cur).mono ?_
      rintro e w7 ⟨⟨p, rfl, hp0, -⟩, c7, g7⟩
      have C7 := Lib.hid (HC.out.step c7 g7)
      have hT7 := HT.out.other g7 HC.out.glt
      have c0 := hT7.box.c0
      have hpl := hT7.p.ints.1
      have Hpl := Lib.hid hpl
      have hlt7 := hT7.box.lt
      have hps : ps.length ≤ 24 := by omega
      have K7 := Lib.hid hT7
      have hge7 := C7.out.size
      have hres7 := hT7.res.lt
      clear c7 g7 hT7 HT HC hpl
      cases wide
      · go_wp2_with fail
        refine wp_region_noPanic ?_
        refine wp_region_held_drew (S := (fun _ => True)) (by kernel_rfl) ?_ (fun hHeld0 => ?_)
        · trivial
        refine takeH (i := 0) (oi := _) (v := ?_) rfl (by kernel_rfl) (by kernel_rfl) (by kernel_rfl) (fun _ _ _ h => h) (Or.inl ⟨by rfl, ?_⟩) (by assumption) ?_
        rotate_left
        · first | (intro w hSw; (try dsimp only at hSw); go_simp; done) | (intro w hSw; (try dsimp only at hSw); go_simp; with_reducible rfl)
        (try simp only [Act.put, List.setIfInBounds_toArray, List.set_cons_zero, List.set_cons_succ])
        refine takeH (i := 2) (oi := _) (v := ?_) rfl (by kernel_rfl) (by kernel_rfl) (by kernel_rfl) (fun _ _ _ h => h) (Or.inl ⟨by rfl, ?_⟩) (by assumption) ?_
        rotate_left
        · first | (intro w hSw; (try dsimp only at hSw); go_simp; done) | (intro w hSw; (try dsimp only at hSw); go_simp; with_reducible rfl)
        (try simp only [Act.put, List.setIfInBounds_toArray, List.set_cons_zero, List.set_cons_succ])
        refine takeH (i := 3) (oi := _) (v := ?_) rfl (by kernel_rfl) (by kernel_rfl) (by kernel_rfl) (fun _ _ _ h => h) (Or.inl ⟨by rfl, ?_⟩) (by assumption) ?_
        rotate_left
        · first | (intro w hSw; (try dsimp only at hSw); go_simp; done) | (intro w hSw; (try dsimp only at hSw); go_simp; with_reducible rfl)
        (try simp only [Act.put, List.setIfInBounds_toArray, List.set_cons_zero, List.set_cons_succ])
        refine takeH (i := 4) (oi := _) (v := ?_) rfl (by kernel_rfl) (by kernel_rfl) (by kernel_rfl) (fun _ _ _ h => h) (Or.inl ⟨by rfl, ?_⟩) (by assumption) ?_
        rotate_left
        · first | (intro w hSw; (try dsimp only at hSw); go_simp; done) | (intro w hSw; (try dsimp only at hSw); go_simp; with_reducible rfl)
        (try simp only [Act.put, List.setIfInBounds_toArray, List.set_cons_zero, List.set_cons_succ])
        refine wpAnyH_ready (rs := [1, 5]) (by kernel_rfl) (by simp) ?_
        refine consM rfl (fun Kq hKq => ?_) (consH rfl (fun Kq hKq => ?_))
        · go_simp
          refine hKq.out _ _ ?_ (fun hHeld1 => ?_)
          · trivial
          clear hKq Kq
          (try simp only [Act.put, List.setIfInBounds_toArray, List.set_cons_zero, List.set_cons_succ])
          clear hHeld0
          refine wpAnyH_ready (rs := [5]) (by kernel_rfl) (by simp) ?_
          refine consH rfl (fun Kq hKq => ?_)
          go_simp
          refine (spec_l1Least _ _ _).mono ?_; rintro e w' ⟨rfl, rfl⟩; generalize least _ _ = u
          refine hKq.out _ _ ?_ (fun hHeld2 => ?_)
          · trivial
          clear hKq Kq
          (try simp only [Act.put, List.setIfInBounds_toArray, List.set_cons_zero, List.set_cons_succ])
          clear hHeld1
          refine wpAnyH_ready (rs := [6]) (by kernel_rfl) (by simp) ?_
          refine consH rfl (fun Kq hKq => ?_)
          go_simp
          refine hKq.out _ _ ?_ (fun hHeld3 => ?_)
          · trivial
          clear hKq Kq
          (try simp only [Act.put, List.setIfInBounds_toArray, List.set_cons_zero, List.set_cons_succ])
          clear hHeld2
          refine wpAnyH_ready (rs := [7]) (by kernel_rfl) (by simp) ?_
          refine consH rfl (fun Kq hKq => ?_)
          refine step_appI rfl _ _ rfl (w.heap.size + 1) (.slice aP x cP) ps (by rfl) (K7.out.p.lit _).drew _ 1 1 [u] (by rfl) (fun h => by cases h) (ints_lit _ [_] _ 1 rfl rfl).drew (by omega) (by simp; omega) ?_; intro v' w' ho hb hm
          have hT := Two.pushP (K7.out.lit _).drew ho hb hm
          have hC := Cq.up (C7.out.lit _).drew (hb.mono (by omega))
          have e0 := hT.1.c0
          have f0 := hT.1.f0
          obtain ⟨a', c', rfl⟩ := ho.shape
          have hlx : (ps ++ [u]).length = x + 1 := by rw [List.length_append, Hpl.out]; rfl
          rw [hlx] at hT ⊢
          have HD := Lib.hid hT.2
          have HCw := Lib.hid hC
          have hge := hT.2.ge
          clear hT hC ho hm hb
          refine hKq.out _ _ ?_ (fun hHeld4 => ?_)
          · trivial
          clear hKq Kq
          (try simp only [Act.put, List.setIfInBounds_toArray, List.set_cons_zero, List.set_cons_succ])
          clear hHeld3
          refine takeH (i := 8) (oi := _) (v := ?_) rfl (by kernel_rfl) (by kernel_rfl) (by kernel_rfl) (fun _ _ _ h => h) (Or.inl ⟨by rfl, ?_⟩) (by assumption) ?_
          rotate_left
          · first | (intro w hSw; (try dsimp only at hSw); go_simp; done) | (intro w hSw; (try dsimp only at hSw); go_simp; with_reducible rfl)
          (try simp only [Act.put, List.setIfInBounds_toArray, List.set_cons_zero, List.set_cons_succ])
          refine wpAnyH_ready (rs := [9]) (by kernel_rfl) (by simp) ?_
          refine consH rfl (fun Kq hKq => ?_)
          go_simp
          refine hKq.out _ _ ?_ (fun hHeld5 => ?_)
          · trivial
          clear hKq Kq
          (try simp only [Act.put, List.setIfInBounds_toArray, List.set_cons_zero, List.set_cons_succ])
          clear hHeld4
          refine wpAnyH_done (by kernel_rfl) ?_ _
          refine NoPanic.normal ?_
          go_wp2_with fail
          refine ⟨⟨x + 1, by omega, by omega, by go_num, ⟨_, _, _, _, _, _, HD.out, (Two.cq HCw.out hge _).mono (by omega)⟩⟩, by simp [intOf]; omega⟩
        · go_simp
          refine (spec_l1Least _ _ _).mono ?_; rintro e w' ⟨rfl, rfl⟩; generalize least _ _ = u
          refine hKq.out _ _ ?_ (fun hHeld1 => ?_)
          · trivial
          clear hKq Kq
          (try simp only [Act.put, List.setIfInBounds_toArray, List.set_cons_zero, List.set_cons_succ])
          clear hHeld0
          refine wpAnyH_ready (rs := [1, 6]) (by kernel_rfl) (by simp) ?_
          refine consM rfl (fun Kq hKq => ?_) (consH rfl (fun Kq hKq => ?_))
          · go_simp
            refine hKq.out _ _ ?_ (fun hHeld2 => ?_)
            · trivial
            clear hKq Kq
            (try simp only [Act.put, List.setIfInBounds_toArray, List.set_cons_zero, List.set_cons_succ])
            clear hHeld1
            refine wpAnyH_ready (rs := [6]) (by kernel_rfl) (by simp) ?_
            refine consH rfl (fun Kq hKq => ?_)
            go_simp
            refine hKq.out _ _ ?_ (fun hHeld3 => ?_)
            · trivial
            clear hKq Kq
            (try simp only [Act.put, List.setIfInBounds_toArray, List.set_cons_zero, List.set_cons_succ])
            clear hHeld2
            refine wpAnyH_ready (rs := [7]) (by kernel_rfl) (by simp) ?_
            refine consH rfl (fun Kq hKq => ?_)
            refine step_appI rfl _ _ rfl (w.heap.size + 1) (.slice aP x cP) ps (by rfl) (K7.out.p.lit _).drew _ 1 1 [u] (by rfl) (fun h => by cases h) (ints_lit _ [_] _ 1 rfl rfl).drew (by omega) (by simp; omega) ?_; intro v' w' ho hb hm
            have hT := Two.pushP (K7.out.lit _).drew ho hb hm
            have hC := Cq.up (C7.out.lit _).drew (hb.mono (by omega))
            have e0 := hT.1.c0
            have f0 := hT.1.f0
            obtain ⟨a', c', rfl⟩ := ho.shape
            have hlx : (ps ++ [u]).length = x + 1 := by rw [List.length_append, Hpl.out]; rfl
            rw [hlx] at hT ⊢
            have HD := Lib.hid hT.2
            have HCw := Lib.hid hC
            have hge := hT.2.ge
            clear hT hC ho hm hb
            refine hKq.out _ _ ?_ (fun hHeld4 => ?_)
            · trivial
            clear hKq Kq
            (try simp only [Act.put, List.setIfInBounds_toArray, List.set_cons_zero, List.set_cons_succ])
            clear hHeld3
            refine takeH (i := 8) (oi := _) (v := ?_) rfl (by kernel_rfl) (by kernel_rfl) (by kernel_rfl) (fun _ _ _ h => h) (Or.inl ⟨by rfl, ?_⟩) (by assumption) ?_
            rotate_left
            · first | (intro w hSw; (try dsimp only at hSw); go_simp; done) | (intro w hSw; (try dsimp only at hSw); go_simp; with_reducible rfl)
            (try simp only [Act.put, List.setIfInBounds_toArray, List.set_cons_zero, List.set_cons_succ])
            refine wpAnyH_ready (rs := [9]) (by kernel_rfl) (by simp) ?_
            refine consH rfl (fun Kq hKq => ?_)
            go_simp
            refine hKq.out _ _ ?_ (fun hHeld5 => ?_)
            · trivial
            clear hKq Kq
            (try simp only [Act.put, List.setIfInBounds_toArray, List.set_cons_zero, List.set_cons_succ])
            clear hHeld4
            refine wpAnyH_done (by kernel_rfl) ?_ _
            refine NoPanic.normal ?_
            go_wp2_with fail
            refine ⟨⟨x + 1, by omega, by omega, by go_num, ⟨_, _, _, _, _, _, HD.out, (Two.cq HCw.out hge _).mono (by omega)⟩⟩, by simp [intOf]; omega⟩
          · go_simp
            refine hKq.out _ _ ?_ (fun hHeld2 => ?_)
            · trivial
            clear hKq Kq
            (try simp only [Act.put, List.setIfInBounds_toArray, List.set_cons_zero, List.set_cons_succ])
            clear hHeld1
            refine wpAnyH_ready (rs := [1]) (by kernel_rfl) (by simp) ?_
            refine consH rfl (fun Kq hKq => ?_)
            go_simp
            refine hKq.out _ _ ?_ (fun hHeld3 => ?_)
            · trivial
            clear hKq Kq
            (try simp only [Act.put, List.setIfInBounds_toArray, List.set_cons_zero, List.set_cons_succ])
            clear hHeld2
            refine wpAnyH_ready (rs := [7]) (by kernel_rfl) (by simp) ?_
            refine consH rfl (fun Kq hKq => ?_)
            refine step_appI rfl _ _ rfl (w.heap.size + 1) (.slice aP x cP) ps (by rfl) (K7.out.p.lit _).drew _ 1 1 [u] (by rfl) (fun h => by cases h) (ints_lit _ [_] _ 1 rfl rfl).drew (by omega) (by simp; omega) ?_; intro v' w' ho hb hm
            have hT := Two.pushP (K7.out.lit _).drew ho hb hm
            have hC := Cq.up (C7.out.lit _).drew (hb.mono (by omega))
            have e0 := hT.1.c0
            have f0 := hT.1.f0
            obtain ⟨a', c', rfl⟩ := ho.shape
            have hlx : (ps ++ [u]).length = x + 1 := by rw [List.length_append, Hpl.out]; rfl
            rw [hlx] at hT ⊢
            have HD := Lib.hid hT.2
            have HCw := Lib.hid hC
            have hge := hT.2.ge
            clear hT hC ho hm hb
            refine hKq.out _ _ ?_ (fun hHeld4 => ?_)
            · trivial
            clear hKq Kq
            (try simp only [Act.put, List.setIfInBounds_toArray, List.set_cons_zero, List.set_cons_succ])
            clear hHeld3
            refine takeH (i := 8) (oi := _) (v := ?_) rfl (by kernel_rfl) (by kernel_rfl) (by kernel_rfl) (fun _ _ _ h => h) (Or.inl ⟨by rfl, ?_⟩) (by assumption) ?_
            rotate_left
            · first | (intro w hSw; (try dsimp only at hSw); go_simp; done) | (intro w hSw; (try dsimp only at hSw); go_simp; with_reducible rfl)
            (try simp only [Act.put, List.setIfInBounds_toArray, List.set_cons_zero, List.set_cons_succ])
            refine wpAnyH_ready (rs := [9]) (by kernel_rfl) (by simp) ?_
            refine consH rfl (fun Kq hKq => ?_)
            go_simp
            refine hKq.out _ _ ?_ (fun hHeld5 => ?_)
            · trivial
            clear hKq Kq
            (try simp only [Act.put, List.setIfInBounds_toArray, List.set_cons_zero, List.set_cons_succ])
            clear hHeld4
            refine wpAnyH_done (by kernel_rfl) ?_ _
            refine NoPanic.normal ?_
            go_wp2_with fail
            refine ⟨⟨x + 1, by omega, by omega, by go_num, ⟨_, _, _, _, _, _, HD.out, (Two.cq HCw.out hge _).mono (by omega)⟩⟩, by simp [intOf]; omega⟩
      · go_wp2_with fail
        refine (spec_l1Most _ _ _).mono ?_
        rintro e w8 ⟨rfl, rfl⟩
        generalize most _ _ = p1
        go_wp2_with fail
        refine (spec_l1Most _ _ _).mono ?_
        rintro e w8 ⟨rfl, rfl⟩
        generalize most _ _ = p2
        go_wp2_with fail
        refine wp_region_noPanic ?_
        refine wp_region_held_drew (S := (fun _ => True)) (by kernel_rfl) ?_ (fun hHeld0 => ?_)
        · trivial
        refine takeH (i := 0) (oi := _) (v := ?_) rfl (by kernel_rfl) (by kernel_rfl) (by kernel_rfl) (fun _ _ _ h => h) (Or.inl ⟨by rfl, ?_⟩) (by assumption) ?_
        rotate_left
        · first | (intro w hSw; (try dsimp only at hSw); go_simp; done) | (intro w hSw; (try dsimp only at hSw); go_simp; with_reducible rfl)
        (try simp only [Act.put, List.setIfInBounds_toArray, List.set_cons_zero, List.set_cons_succ])
        refine takeH (i := 2) (oi := _) (v := ?_) rfl (by kernel_rfl) (by kernel_rfl) (by kernel_rfl) (fun _ _ _ h => h) (Or.inl ⟨by rfl, ?_⟩) (by assumption) ?_
        rotate_left
        · first | (intro w hSw; (try dsimp only at hSw); go_simp; done) | (intro w hSw; (try dsimp only at hSw); go_simp; with_reducible rfl)
        (try simp only [Act.put, List.setIfInBounds_toArray, List.set_cons_zero, List.set_cons_succ])
        refine takeH (i := 3) (oi := _) (v := ?_) rfl (by kernel_rfl) (by kernel_rfl) (by kernel_rfl) (fun _ _ _ h => h) (Or.inl ⟨by rfl, ?_⟩) (by assumption) ?_
        rotate_left
        · first | (intro w hSw; (try dsimp only at hSw); go_simp; done) | (intro w hSw; (try dsimp only at hSw); go_simp; with_reducible rfl)
        (try simp only [Act.put, List.setIfInBounds_toArray, List.set_cons_zero, List.set_cons_succ])
        refine takeH (i := 4) (oi := _) (v := ?_) rfl (by kernel_rfl) (by kernel_rfl) (by kernel_rfl) (fun _ _ _ h => h) (Or.inl ⟨by rfl, ?_⟩) (by assumption) ?_
        rotate_left
        · first | (intro w hSw; (try dsimp only at hSw); go_simp; done) | (intro w hSw; (try dsimp only at hSw); go_simp; with_reducible rfl)
        (try simp only [Act.put, List.setIfInBounds_toArray, List.set_cons_zero, List.set_cons_succ])
        refine wpAnyH_ready (rs := [1, 5]) (by kernel_rfl) (by simp) ?_
        refine consM rfl (fun Kq hKq => ?_) (consH rfl (fun Kq hKq => ?_))
        · go_simp
          refine hKq.out _ _ ?_ (fun hHeld1 => ?_)
          · trivial
          clear hKq Kq
          (try simp only [Act.put, List.setIfInBounds_toArray, List.set_cons_zero, List.set_cons_succ])
          clear hHeld0
          refine wpAnyH_ready (rs := [5]) (by kernel_rfl) (by simp) ?_
          refine consH rfl (fun Kq hKq => ?_)
          go_simp
          refine (spec_l1Least _ _ _).mono ?_; rintro e w' ⟨rfl, rfl⟩; generalize least _ _ = u
          refine hKq.out _ _ ?_ (fun hHeld2 => ?_)
          · trivial
          clear hKq Kq
          (try simp only [Act.put, List.setIfInBounds_toArray, List.set_cons_zero, List.set_cons_succ])
          clear hHeld1
          refine wpAnyH_ready (rs := [6]) (by kernel_rfl) (by simp) ?_
          refine consH rfl (fun Kq hKq => ?_)
          go_simp
          refine hKq.out _ _ ?_ (fun hHeld3 => ?_)
          · trivial
          clear hKq Kq
          (try simp only [Act.put, List.setIfInBounds_toArray, List.set_cons_zero, List.set_cons_succ])
          clear hHeld2
          refine wpAnyH_ready (rs := [7]) (by kernel_rfl) (by simp) ?_
          refine consH rfl (fun Kq hKq => ?_)
          refine step_appI rfl _ _ rfl (w.heap.size + 1) (.slice aP x cP) ps (by rfl) (K7.out.p.lit _).drew _ 1 1 [u] (by rfl) (fun h => by cases h) (ints_lit _ [_] _ 1 rfl rfl).drew (by omega) (by simp; omega) ?_; intro v' w' ho hb hm
          have hT := Two.pushP (K7.out.lit _).drew ho hb hm
          have hC := Cq.up (C7.out.lit _).drew (hb.mono (by omega))
          have e0 := hT.1.c0
          have f0 := hT.1.f0
          obtain ⟨a', c', rfl⟩ := ho.shape
          have hlx : (ps ++ [u]).length = x + 1 := by rw [List.length_append, Hpl.out]; rfl
          rw [hlx] at hT ⊢
          have HD := Lib.hid hT.2
          have HCw := Lib.hid hC
          have hge := hT.2.ge
          clear hT hC ho hm hb
          refine hKq.out _ _ ?_ (fun hHeld4 => ?_)
          · trivial
          clear hKq Kq
          (try simp only [Act.put, List.setIfInBounds_toArray, List.set_cons_zero, List.set_cons_succ])
          clear hHeld3
          refine takeH (i := 8) (oi := _) (v := ?_) rfl (by kernel_rfl) (by kernel_rfl) (by kernel_rfl) (fun _ _ _ h => h) (Or.inl ⟨by rfl, ?_⟩) (by assumption) ?_
          rotate_left
          · first | (intro w hSw; (try dsimp only at hSw); go_simp; done) | (intro w hSw; (try dsimp only at hSw); go_simp; with_reducible rfl)
          (try simp only [Act.put, List.setIfInBounds_toArray, List.set_cons_zero, List.set_cons_succ])
          refine wpAnyH_ready (rs := [9]) (by kernel_rfl) (by simp) ?_
          refine consH rfl (fun Kq hKq => ?_)
          go_simp
          refine hKq.out _ _ ?_ (fun hHeld5 => ?_)
          · trivial
          clear hKq Kq
          (try simp only [Act.put, List.setIfInBounds_toArray, List.set_cons_zero, List.set_cons_succ])
          clear hHeld4
          refine wpAnyH_done (by kernel_rfl) ?_ _
          refine NoPanic.normal ?_
          go_wp2_with fail
          refine ⟨⟨x + 1, by omega, by omega, by go_num, ⟨_, _, _, _, _, _, HD.out, (Two.cq HCw.out hge _).mono (by omega)⟩⟩, by simp [intOf]; omega⟩
        · go_simp
          refine (spec_l1Least _ _ _).mono ?_; rintro e w' ⟨rfl, rfl⟩; generalize least _ _ = u
          refine hKq.out _ _ ?_ (fun hHeld1 => ?_)
          · trivial
          clear hKq Kq
          (try simp only [Act.put, List.setIfInBounds_toArray, List.set_cons_zero, List.set_cons_succ])
          clear hHeld0
          refine wpAnyH_ready (rs := [1, 6]) (by kernel_rfl) (by simp) ?_
          refine consM rfl (fun Kq hKq => ?_) (consH rfl (fun Kq hKq => ?_))
          · go_simp
            refine hKq.out _ _ ?_ (fun hHeld2 => ?_)
            · trivial
            clear hKq Kq
            (try simp only [Act.put, List.setIfInBounds_toArray, List.set_cons_zero, List.set_cons_succ])
            clear hHeld1
            refine wpAnyH_ready (rs := [6]) (by kernel_rfl) (by simp) ?_
            refine consH rfl (fun Kq hKq => ?_)
            go_simp
            refine hKq.out _ _ ?_ (fun hHeld3 => ?_)
            · trivial
            clear hKq Kq
            (try simp only [Act.put, List.setIfInBounds_toArray, List.set_cons_zero, List.set_cons_succ])
            clear hHeld2
            refine wpAnyH_ready (rs := [7]) (by kernel_rfl) (by simp) ?_
            refine consH rfl (fun Kq hKq => ?_)
            refine step_appI rfl _ _ rfl (w.heap.size + 1) (.slice aP x cP) ps (by rfl) (K7.out.p.lit _).drew _ 1 1 [u] (by rfl) (fun h => by cases h) (ints_lit _ [_] _ 1 rfl rfl).drew (by omega) (by simp; omega) ?_; intro v' w' ho hb hm
            have hT := Two.pushP (K7.out.lit _).drew ho hb hm
            have hC := Cq.up (C7.out.lit _).drew (hb.mono (by omega))
            have e0 := hT.1.c0
            have f0 := hT.1.f0
            obtain ⟨a', c', rfl⟩ := ho.shape
            have hlx : (ps ++ [u]).length = x + 1 := by rw [List.length_append, Hpl.out]; rfl
            rw [hlx] at hT ⊢
            have HD := Lib.hid hT.2
            have HCw := Lib.hid hC
            have hge := hT.2.ge
            clear hT hC ho hm hb
            refine hKq.out _ _ ?_ (fun hHeld4 => ?_)
            · trivial
            clear hKq Kq
            (try simp only [Act.put, List.setIfInBounds_toArray, List.set_cons_zero, List.set_cons_succ])
            clear hHeld3
            refine takeH (i := 8) (oi := _) (v := ?_) rfl (by kernel_rfl) (by kernel_rfl) (by kernel_rfl) (fun _ _ _ h => h) (Or.inl ⟨by rfl, ?_⟩) (by assumption) ?_
            rotate_left
            · first | (intro w hSw; (try dsimp only at hSw); go_simp; done) | (intro w hSw; (try dsimp only at hSw); go_simp; with_reducible rfl)
            (try simp only [Act.put, List.setIfInBounds_toArray, List.set_cons_zero, List.set_cons_succ])
            refine wpAnyH_ready (rs := [9]) (by kernel_rfl) (by simp) ?_
            refine consH rfl (fun Kq hKq => ?_)
            go_simp
            refine hKq.out _ _ ?_ (fun hHeld5 => ?_)
            · trivial
            clear hKq Kq
            (try simp only [Act.put, List.setIfInBounds_toArray, List.set_cons_zero, List.set_cons_succ])
            clear hHeld4
            refine wpAnyH_done (by kernel_rfl) ?_ _
            refine NoPanic.normal ?_
            go_wp2_with fail
            refine ⟨⟨x + 1, by omega, by omega, by go_num, ⟨_, _, _, _, _, _, HD.out, (Two.cq HCw.out hge _).mono (by omega)⟩⟩, by simp [intOf]; omega⟩
          · go_simp
            refine hKq.out _ _ ?_ (fun hHeld2 => ?_)
            · trivial
            clear hKq Kq
            (try simp only [Act.put, List.setIfInBounds_toArray, List.set_cons_zero, List.set_cons_succ])
            clear hHeld1
            refine wpAnyH_ready (rs := [1]) (by kernel_rfl) (by simp) ?_
            refine consH rfl (fun Kq hKq => ?_)
            go_simp
            refine hKq.out _ _ ?_ (fun hHeld3 => ?_)
            · trivial
            clear hKq Kq
            (try simp only [Act.put, List.setIfInBounds_toArray, List.set_cons_zero, List.set_cons_succ])
            clear hHeld2
            refine wpAnyH_ready (rs := [7]) (by kernel_rfl) (by simp) ?_
            refine consH rfl (fun Kq hKq => ?_)
            refine step_appI rfl _ _ rfl (w.heap.size + 1) (.slice aP x cP) ps (by rfl) (K7.out.p.lit _).drew _ 1 1 [u] (by rfl) (fun h => by cases h) (ints_lit _ [_] _ 1 rfl rfl).drew (by omega) (by simp; omega) ?_; intro v' w' ho hb hm
            have hT := Two.pushP (K7.out.lit _).drew ho hb hm
            have hC := Cq.up (C7.out.lit _).drew (hb.mono (by omega))
            have e0 := hT.1.c0
            have f0 := hT.1.f0
            obtain ⟨a', c', rfl⟩ := ho.shape
            have hlx : (ps ++ [u]).length = x + 1 := by rw [List.length_append, Hpl.out]; rfl
            rw [hlx] at hT ⊢
            have HD := Lib.hid hT.2
            have HCw := Lib.hid hC
            have hge := hT.2.ge
            clear hT hC ho hm hb
            refine hKq.out _ _ ?_ (fun hHeld4 => ?_)
            · trivial
            clear hKq Kq
            (try simp only [Act.put, List.setIfInBounds_toArray, List.set_cons_zero, List.set_cons_succ])
            clear hHeld3
            refine takeH (i := 8) (oi := _) (v := ?_) rfl (by kernel_rfl) (by kernel_rfl) (by kernel_rfl) (fun _ _ _ h => h) (Or.inl ⟨by rfl, ?_⟩) (by assumption) ?_
            rotate_left
            · first | (intro w hSw; (try dsimp only at hSw); go_simp; done) | (intro w hSw; (try dsimp only at hSw); go_simp; with_reducible rfl)
            (try simp only [Act.put, List.setIfInBounds_toArray, List.set_cons_zero, List.set_cons_succ])
            refine wpAnyH_ready (rs := [9]) (by kernel_rfl) (by simp) ?_
            refine consH rfl (fun Kq hKq => ?_)
            go_simp
            refine hKq.out _ _ ?_ (fun hHeld5 => ?_)
            · trivial
            clear hKq Kq
            (try simp only [Act.put, List.setIfInBounds_toArray, List.set_cons_zero, List.set_cons_succ])
            clear hHeld4
            refine wpAnyH_done (by kernel_rfl) ?_ _
            refine NoPanic.normal ?_
            go_wp2_with fail
            refine ⟨⟨x + 1, by omega, by omega, by go_num, ⟨_, _, _, _, _, _, HD.out, (Two.cq HCw.out hge _).mono (by omega)⟩⟩, by simp [intOf]; omega⟩
    · obtain rfl : x = N := by omega
      have H1 := Lib.hid hS
      clear hS hlt
      go_wp2_with fail
      go_loopw [10] (fun v10 wr => ∃ y : Nat, y ≤ x ∧ v10 = .int .i64 (y : Int) ∧ SomeR w wr g a n cap (lim + 60 + 2 * (y : Int)) tb x y) (fun v10 _ => x - (intOf v10).toNat)
      case atStart => exact ⟨0, Nat.zero_le _, rfl, H1.out.mono (by omega)⟩
      case round =>
        clear H1
        obtain ⟨y, hyN, rfl, hS⟩ := hrel
        by_cases hlt : (y : Int) < x
        · obtain ⟨aP, cP, aW, cW, ps, ws, hT, hC⟩ := hS
          have hwl := hT.q.ints.1
          have Hwl := Lib.hid hwl
          have hws : ws.length ≤ 24 := by omega
          have hK := spec_l2KidsA aP x cP aW y cW ps ws y wr ⟨hT.p.ints, hT.q.ints, by omega, by omega, hT.p.cap.2.1, hT.q.cap.2.1⟩ (by omega) (by omega)
          have HK := Lib.hid hK
          have c0 := hT.box.c0
          have c1 := hT.box.c1
          have HT := Lib.hid hT
          have HC := Lib.hid hC
          clear hT hC hK hwl
          go_wp2_with fail
          refine HK.out.mono ?_
          rintro e w7 ⟨v7, rfl, ⟨xs, o7, hxs⟩, b7⟩
          obtain ⟨a7, c7, rfl⟩ := o7.shape
          have C7 := Lib.hid (HC.out.below b7)
          have hT7 := HT.out.below b7
          generalize xs.length = m at *
          have hlt7 := hT7.box.lt
          have hge7 := C7.out.size
          have hres7 := hT7.res.lt
          have hge := hT7.ge
          clear o7 b7 HT HC HK c0 c1
          cases hq : ((m : Int) == 0)
          · have d1 := hT7.box.c1
            have K7 := Lib.hid hT7
            clear hT7
            go_wp2_with (at_builtin; refine wp_push2 (.tmp 62) (.tmp 64) rfl rfl (w.heap.size + 1) (.slice aW y cW) ws rfl K7.out.q rfl (by omega) (by omega) ?_; intro v' w' ho hb hm; have hT := Two.pushW K7.out ho hb hm; have hC := Cq.up C7.out (hb.mono (by omega)); have e1 := hT.1.c1; have f1 := hT.1.f1; obtain ⟨a', c', rfl⟩ := ho.shape; have hlx : (ws ++ [0]).length = y + 1 := by { rw [List.length_append, Hwl.out]; rfl }; rw [hlx] at hT ⊢; have HD := Lib.hid hT.2; have HCw := Lib.hid hC; clear hT hC ho hm hb)
            go_roundw
            case rel => exact ⟨y + 1, by omega, by go_num, ⟨_, _, _, _, _, _, HD.out, (Two.cq HCw.out hge _).mono (by omega)⟩⟩
            case measure => simp [intOf]; omega
          · have K7 := Lib.hid hT7
            clear hT7
            go_wp2_with fail
            refine (among_lit g a n cap _ [1, 1, 2, 3, 5, 20] _ 6 _ (by omega) rfl rfl (by omega) C7.out.cur).mono ?_
            rintro e w8 ⟨⟨i, hi, rfl⟩, c8, g8⟩
            generalize nth _ i = u
            have C8 := Lib.hid (C7.out.step c8 g8)
            have hT8 := K7.out.other g8 C7.out.glt
            have d1 := hT8.box.c1
            have hlt8 := hT8.box.lt
            have hge8 := C8.out.size
            have hres8 := hT8.res.lt
            have K8 := Lib.hid hT8
            clear c8 g8 hT8 K7 C7
            go_wp2_with (at_builtin; refine wp_push2 (.tmp 62) (.tmp 64) rfl rfl (w.heap.size + 1) (.slice aW y cW) ws rfl K8.out.q rfl (by omega) (by omega) ?_; intro v' w' ho hb hm; have hT := Two.pushW K8.out ho hb hm; have hC := Cq.up C8.out (hb.mono (by omega)); have e1 := hT.1.c1; have f1 := hT.1.f1; obtain ⟨a', c', rfl⟩ := ho.shape; have hlx : (ws ++ [u]).length = y + 1 := by { rw [List.length_append, Hwl.out]; rfl }; rw [hlx] at hT ⊢; have HD := Lib.hid hT.2; have HCw := Lib.hid hC; clear hT hC ho hm hb)
            go_roundw
            case rel => exact ⟨y + 1, by omega, by go_num, ⟨_, _, _, _, _, _, HD.out, (Two.cq HCw.out hge _).mono (by omega)⟩⟩
            case measure => simp [intOf]; omega
        · obtain rfl : y = x := by omega
          obtain ⟨aP, cP, aW, cW, ps, ws, hT, hC⟩ := hS
          have HT := Lib.hid hT
          have HC := Lib.hid hC
          clear hT hC hlt
          go_wp2_with fail
          refine (spec_pick g a n cap _ _ _ (by omega) (by omega) HC.out.cur).mono ?_
          rintro e w7 ⟨⟨x0, rfl, hx0, hx1⟩, c7, g7⟩
          obtain ⟨X, rfl⟩ : ∃ X : Nat, x0 = X := ⟨x0.toNat, by omega⟩
          have hX : X < y := by omega
          clear hx0 hx1
          have C7 := Lib.hid (HC.out.step c7 g7)
          have K7 := Lib.hid (HT.out.other g7 HC.out.glt)
          clear c7 g7 HT HC
          go_wp2_with fail
          refine (spec_pick g a n cap _ _ _ (by omega) (by omega) C7.out.cur).mono ?_
          rintro e w8 ⟨⟨z, rfl, -, -⟩, c8, g8⟩
          have C8 := Lib.hid (C7.out.step c8 g8)
          have K8 := Lib.hid (K7.out.other g8 C7.out.glt)
          clear c8 g8 C7 K7
          have hge := K8.out.ge
          have hge8 := C8.out.size
          have hlt8 := K8.out.box.lt
          have hres8 := K8.out.res.lt
          have Hpl := Lib.hid K8.out.p.ints.1
          have Hwl := Lib.hid K8.out.q.ints.1
          rcases (show z = 0 ∨ z = 1 ∨ z = 2 ∨ z = 3 ∨ z = 4 ∨ (z ≠ 0 ∧ z ≠ 1 ∧ z ≠ 2 ∧ z ≠ 3 ∧ z ≠ 4) by omega) with rfl | rfl | rfl | rfl | rfl | hz
          · obtain ⟨gp, cp, he, hgp, hgp2⟩ := K8.out.p.form (by have := Hpl.out; omega)
            have he2 := Value.slice.inj he
            obtain ⟨rfl, -, rfl⟩ := he2
            clear he
            have c0 := K8.out.box.c0
            go_wp2_with fail
            refine wp_region_noPanic ?_
            refine wp_region_held_drew (S := (fun W' => W'.cell? ⟨tb, 0, none⟩ = some (.slice (some ⟨gp, 0, none⟩) y cP))) (by kernel_rfl) ?_ (fun hHeld0 => ?_)
            · (try dsimp only); first | assumption | exact (K8.out.drew).box.c0 | exact ((K8.out.lit _).drew).box.c0 | exact HSet.out.box.c0
            refine takeH (i := 0) (oi := _) (v := ?_) rfl (by kernel_rfl) (by kernel_rfl) (by kernel_rfl) (fun _ _ _ h => h) (Or.inl ⟨by rfl, ?_⟩) (by assumption) ?_
            rotate_left
            · first | (intro w hSw; (try dsimp only at hSw); go_simp; done) | (intro w hSw; (try dsimp only at hSw); go_simp; with_reducible rfl)
            (try simp only [Act.put, List.setIfInBounds_toArray, List.set_cons_zero, List.set_cons_succ])
            refine takeH (i := 1) (oi := _) (v := ?_) rfl (by kernel_rfl) (by kernel_rfl) (by kernel_rfl) (fun _ _ _ h => h) (Or.inl ⟨by rfl, ?_⟩) (by assumption) ?_
            rotate_left
            · first | (intro w hSw; (try dsimp only at hSw); go_simp; done) | (intro w hSw; (try dsimp only at hSw); go_simp; with_reducible rfl)
            (try simp only [Act.put, List.setIfInBounds_toArray, List.set_cons_zero, List.set_cons_succ])
            refine takeH (i := 2) (oi := _) (v := ?_) rfl (by kernel_rfl) (by kernel_rfl) (by kernel_rfl) (fun _ _ _ h => h) (Or.inl ⟨by rfl, ?_⟩) (by assumption) ?_
            rotate_left
            · first | (intro w hSw; (try dsimp only at hSw); go_simp; done) | (intro w hSw; (try dsimp only at hSw); go_simp; with_reducible rfl)
            (try simp only [Act.put, List.setIfInBounds_toArray, List.set_cons_zero, List.set_cons_succ])
            refine takeH (i := 3) (oi := _) (v := ?_) rfl (by kernel_rfl) (by kernel_rfl) (by kernel_rfl) (fun _ _ _ h => h) (Or.inl ⟨by rfl, ?_⟩) (by assumption) ?_
            rotate_left
            · first | (intro w hSw; (try dsimp only at hSw); go_simp; done) | (intro w hSw; (try dsimp only at hSw); go_simp; with_reducible rfl)
            (try simp only [Act.put, List.setIfInBounds_toArray, List.set_cons_zero, List.set_cons_succ])
            refine takeH (i := 4) (oi := _) (v := ?_) rfl (by kernel_rfl) (by kernel_rfl) (by kernel_rfl) (fun _ _ _ h => h) (Or.inl ⟨by rfl, ?_⟩) (by assumption) ?_
            rotate_left
            · first | (intro w hSw; (try dsimp only at hSw); go_simp; done) | (intro w hSw; (try dsimp only at hSw); go_simp; with_reducible rfl)
            (try simp only [Act.put, List.setIfInBounds_toArray, List.set_cons_zero, List.set_cons_succ])
            refine wpAnyH_ready (rs := [5]) (by kernel_rfl) (by simp) ?_
            refine consH rfl (fun Kq hKq => ?_)
            go_simp
            refine hKq.out _ _ ?_ (fun hHeld1 => ?_)
            · (try dsimp only); first | assumption | exact (K8.out.drew).box.c0 | exact ((K8.out.lit _).drew).box.c0 | exact HSet.out.box.c0
            clear hKq Kq
            (try simp only [Act.put, List.setIfInBounds_toArray, List.set_cons_zero, List.set_cons_succ])
            clear hHeld0
            refine wpAnyH_ready (rs := [6]) (by kernel_rfl) (by simp) ?_
            refine consH rfl (fun Kq hKq => ?_)
            go_simp
            refine (spec_among g a n cap _ _ 4 4 [-1, (X : Int), -2, 4611686018427387904] _ (by omega) (by omega) (ints_lit w8 [-1, (X : Int), -2, 4611686018427387904] _ 4 rfl rfl).drew C8.out.cur.ne (C8.out.lit _).drew.cur).mono ?_
            rintro e w9 ⟨⟨i, hi, rfl⟩, c9, g9⟩
            generalize nth _ i = u
            have C9 := Lib.hid ((C8.out.lit _).drew.step c9 g9)
            have K9 := Lib.hid ((K8.out.lit _).drew.other g9 C8.out.glt)
            have h9c := K9.out.p.cell (i := X) (by have := Hpl.out; omega)
            have h9f := K9.out.p.free Hpl.out.symm X
            have hSS := K9.out.box.c0
            have HSet := Lib.hid (K9.out.setP Hpl.out.symm X u)
            have CSet := Lib.hid (Two.setC C9.out (show w.heap.size ≤ gp by omega) (i := X) (.int .i64 u))
            clear c9 g9
            refine hKq.out _ _ ?_ (fun hHeld2 => ?_)
            · (try dsimp only); first | assumption | exact (K8.out.drew).box.c0 | exact ((K8.out.lit _).drew).box.c0 | exact HSet.out.box.c0
            clear hKq Kq
            (try simp only [Act.put, List.setIfInBounds_toArray, List.set_cons_zero, List.set_cons_succ])
            clear hHeld1
            refine takeH (i := 7) (oi := _) (v := ?_) rfl (by kernel_rfl) (by kernel_rfl) (by kernel_rfl) (fun _ _ _ h => h) (Or.inl ⟨by rfl, ?_⟩) (by assumption) ?_
            rotate_left
            · first | (intro w hSw; (try dsimp only at hSw); go_simp; done) | (intro w hSw; (try dsimp only at hSw); go_simp; with_reducible rfl)
            (try simp only [Act.put, List.setIfInBounds_toArray, List.set_cons_zero, List.set_cons_succ])
            refine wpAnyH_ready (rs := [8]) (by kernel_rfl) (by simp) ?_
            refine consH rfl (fun Kq hKq => ?_)
            go_simp
            refine hKq.out _ _ ?_ (fun hHeld3 => ?_)
            · (try dsimp only); first | assumption | exact (K8.out.drew).box.c0 | exact ((K8.out.lit _).drew).box.c0 | exact HSet.out.box.c0
            clear hKq Kq
            (try simp only [Act.put, List.setIfInBounds_toArray, List.set_cons_zero, List.set_cons_succ])
            clear hHeld2
            refine wpAnyH_done (by kernel_rfl) ?_ _
            refine NoPanic.normal ?_
            have d0 := HSet.out.box.c0
            have d1 := HSet.out.box.c1
            have e0 := HSet.out.res.c0
            have e1 := HSet.out.res.c1
            have f0 := HSet.out.res.f0
            have f1 := HSet.out.res.f1
            have hr := HSet.out.res.set (.slice (some ⟨gp, 0, none⟩) y cP) (.slice aW y cW)
            clear h9c h9f
            go_wp2_with fail
            exact bodyPost_ret (v := .agg #[.slice (some ⟨gp, 0, none⟩) y cP, .slice aW y cW]) (by simp [results, Tryz.results139, go_sem, hr.1, hr.2]) rfl ⟨⟨_, rfl, HSet.out.done (by omega) (by omega)⟩, (Two.doneC CSet.out _ _).cur.mono (by omega), (Two.doneC CSet.out _ _).grow⟩
          · obtain ⟨gp, cp, he, hgp, hgp2⟩ := K8.out.q.form (by have := Hwl.out; omega)
            have he2 := Value.slice.inj he
            obtain ⟨rfl, -, rfl⟩ := he2
            clear he
            have c0 := K8.out.box.c1
            go_wp2_with fail
            refine wp_region_noPanic ?_
            refine wp_region_held_drew (S := (fun W' => W'.cell? ⟨tb, 1, none⟩ = some (.slice (some ⟨gp, 0, none⟩) y cW))) (by kernel_rfl) ?_ (fun hHeld0 => ?_)
            · (try dsimp only); first | assumption | exact (K8.out.drew).box.c1 | exact ((K8.out.lit _).drew).box.c1 | exact HSet.out.box.c1
            refine takeH (i := 0) (oi := _) (v := ?_) rfl (by kernel_rfl) (by kernel_rfl) (by kernel_rfl) (fun _ _ _ h => h) (Or.inl ⟨by rfl, ?_⟩) (by assumption) ?_
            rotate_left
            · first | (intro w hSw; (try dsimp only at hSw); go_simp; done) | (intro w hSw; (try dsimp only at hSw); go_simp; with_reducible rfl)
            (try simp only [Act.put, List.setIfInBounds_toArray, List.set_cons_zero, List.set_cons_succ])
            refine takeH (i := 1) (oi := _) (v := ?_) rfl (by kernel_rfl) (by kernel_rfl) (by kernel_rfl) (fun _ _ _ h => h) (Or.inl ⟨by rfl, ?_⟩) (by assumption) ?_
            rotate_left
            · first | (intro w hSw; (try dsimp only at hSw); go_simp; done) | (intro w hSw; (try dsimp only at hSw); go_simp; with_reducible rfl)
            (try simp only [Act.put, List.setIfInBounds_toArray, List.set_cons_zero, List.set_cons_succ])
            refine takeH (i := 2) (oi := _) (v := ?_) rfl (by kernel_rfl) (by kernel_rfl) (by kernel_rfl) (fun _ _ _ h => h) (Or.inl ⟨by rfl, ?_⟩) (by assumption) ?_
            rotate_left
            · first | (intro w hSw; (try dsimp only at hSw); go_simp; done) | (intro w hSw; (try dsimp only at hSw); go_simp; with_reducible rfl)
            (try simp only [Act.put, List.setIfInBounds_toArray, List.set_cons_zero, List.set_cons_succ])
            refine takeH (i := 3) (oi := _) (v := ?_) rfl (by kernel_rfl) (by kernel_rfl) (by kernel_rfl) (fun _ _ _ h => h) (Or.inl ⟨by rfl, ?_⟩) (by assumption) ?_
            rotate_left
            · first | (intro w hSw; (try dsimp only at hSw); go_simp; done) | (intro w hSw; (try dsimp only at hSw); go_simp; with_reducible rfl)
            (try simp only [Act.put, List.setIfInBounds_toArray, List.set_cons_zero, List.set_cons_succ])
            refine wpAnyH_ready (rs := [4]) (by kernel_rfl) (by simp) ?_
            refine consH rfl (fun Kq hKq => ?_)
            go_simp
            refine hKq.out _ _ ?_ (fun hHeld1 => ?_)
            · (try dsimp only); first | assumption | exact (K8.out.drew).box.c1 | exact ((K8.out.lit _).drew).box.c1 | exact HSet.out.box.c1
            clear hKq Kq
            (try simp only [Act.put, List.setIfInBounds_toArray, List.set_cons_zero, List.set_cons_succ])
            clear hHeld0
            refine wpAnyH_ready (rs := [5]) (by kernel_rfl) (by simp) ?_
            refine consH rfl (fun Kq hKq => ?_)
            go_simp
            refine (spec_among g a n cap _ _ 4 4 [0, 1, 21, -1] _ (by omega) (by omega) (ints_lit w8 [0, 1, 21, -1] _ 4 rfl rfl).drew C8.out.cur.ne (C8.out.lit _).drew.cur).mono ?_
            rintro e w9 ⟨⟨i, hi, rfl⟩, c9, g9⟩
            generalize nth _ i = u
            have C9 := Lib.hid ((C8.out.lit _).drew.step c9 g9)
            have K9 := Lib.hid ((K8.out.lit _).drew.other g9 C8.out.glt)
            have h9c := K9.out.q.cell (i := X) (by have := Hwl.out; omega)
            have h9f := K9.out.q.free Hwl.out.symm X
            have hSS := K9.out.box.c1
            have HSet := Lib.hid (K9.out.setW Hwl.out.symm X u)
            have CSet := Lib.hid (Two.setC C9.out (show w.heap.size ≤ gp by omega) (i := X) (.int .i64 u))
            clear c9 g9
            refine hKq.out _ _ ?_ (fun hHeld2 => ?_)
            · (try dsimp only); first | assumption | exact (K8.out.drew).box.c1 | exact ((K8.out.lit _).drew).box.c1 | exact HSet.out.box.c1
            clear hKq Kq
            (try simp only [Act.put, List.setIfInBounds_toArray, List.set_cons_zero, List.set_cons_succ])
            clear hHeld1
            refine takeH (i := 6) (oi := _) (v := ?_) rfl (by kernel_rfl) (by kernel_rfl) (by kernel_rfl) (fun _ _ _ h => h) (Or.inl ⟨by rfl, ?_⟩) (by assumption) ?_
            rotate_left
            · first | (intro w hSw; (try dsimp only at hSw); go_simp; done) | (intro w hSw; (try dsimp only at hSw); go_simp; with_reducible rfl)
            (try simp only [Act.put, List.setIfInBounds_toArray, List.set_cons_zero, List.set_cons_succ])
            refine wpAnyH_ready (rs := [7]) (by kernel_rfl) (by simp) ?_
            refine consH rfl (fun Kq hKq => ?_)
            go_simp
            refine hKq.out _ _ ?_ (fun hHeld3 => ?_)
            · (try dsimp only); first | assumption | exact (K8.out.drew).box.c1 | exact ((K8.out.lit _).drew).box.c1 | exact HSet.out.box.c1
            clear hKq Kq
            (try simp only [Act.put, List.setIfInBounds_toArray, List.set_cons_zero, List.set_cons_succ])
            clear hHeld2
            refine wpAnyH_done (by kernel_rfl) ?_ _
            refine NoPanic.normal ?_
            have d0 := HSet.out.box.c0
            have d1 := HSet.out.box.c1
            have e0 := HSet.out.res.c0
            have e1 := HSet.out.res.c1
            have f0 := HSet.out.res.f0
            have f1 := HSet.out.res.f1
            have hr := HSet.out.res.set (.slice aP y cP) (.slice (some ⟨gp, 0, none⟩) y cW)
            clear h9c h9f
            go_wp2_with fail
            exact bodyPost_ret (v := .agg #[.slice aP y cP, .slice (some ⟨gp, 0, none⟩) y cW]) (by simp [results, Tryz.results139, go_sem, hr.1, hr.2]) rfl ⟨⟨_, rfl, HSet.out.done (by omega) (by omega)⟩, (Two.doneC CSet.out _ _).cur.mono (by omega), (Two.doneC CSet.out _ _).grow⟩
          · have d1 := K8.out.box.c1
            have hws : ws.length ≤ 24 := by have := Hwl.out; omega
            go_wp2_with (at_builtin; refine wp_push2 (.tmp 94) (.tmp 95) rfl rfl (w.heap.size + 1) (.slice aW y cW) ws rfl K8.out.q rfl (by omega) (by omega) ?_; intro v' w' ho hb hm; have hT := Two.pushW K8.out ho hb hm; have hC := Cq.up C8.out (hb.mono (by omega)); have e1 := hT.1.c1; have f1 := hT.1.f1; obtain ⟨a', c', rfl⟩ := ho.shape; have hlx : (ws ++ [1]).length = y + 1 := by { rw [List.length_append, Hwl.out]; rfl }; rw [hlx] at hT ⊢; have HD := Lib.hid hT.2; have HCw := Lib.hid (Two.cq (i := 1) hC hge (.slice a' (y + 1) c')); clear hT hC ho hm hb; have d0 := HD.out.box.c0; have d1 := HD.out.box.c1; have e0 := HD.out.res.c0; have e1 := HD.out.res.c1; have f0 := HD.out.res.f0; have f1 := HD.out.res.f1)
            have hr := HD.out.res.set (.slice aP y cP) (.slice a' (y + 1) c')
            exact bodyPost_ret (v := .agg #[.slice aP y cP, .slice a' (y + 1) c']) (by simp [results, Tryz.results139, go_sem, hr.1, hr.2]) rfl ⟨⟨_, rfl, HD.out.done (by omega) (by omega)⟩, (Two.doneC HCw.out _ _).cur.mono (by omega), (Two.doneC HCw.out _ _).grow⟩
          · have h3 : SomeR w w8 g a n cap (lim + 60 + 2 * (y : Int) + 2 + 2) tb y y := ⟨_, _, _, _, _, _, K8.out, C8.out⟩
            have H3 := Lib.hid h3
            clear h3 K8 C8 hge8 hlt8 hres8 Hpl Hwl
            go_wp2_with fail
            go_loopw [] (fun wr => ∃ k : Nat, y ≤ k ∧ k ≤ 25 ∧ SomeR w wr g a n cap (lim + 60 + 2 * (y : Int) + 2 + 2) tb k k) (fun wr => match wr.cell? ⟨tb, 0, none⟩ with | some (.slice _ k _) => 25 - k | _ => 0)
            case atStart => exact ⟨y, Nat.le_refl _, by omega, H3.out⟩
            case round =>
              clear H3
              obtain ⟨k, hyk, hk25, aP', cP', aW', cW', ps', ws', hT, hC⟩ := hrel
              have hge := hT.ge
              have hges := hC.size
              have hltr := hT.box.lt
              have hresr := hT.res.lt
              have c0 := hT.box.c0
              have Hpl := Lib.hid hT.p.ints.1
              have Hwl := Lib.hid hT.q.ints.1
              have HT := Lib.hid hT
              have HC := Lib.hid hC
              clear hT hC
              have hps : ps'.length ≤ 25 := by have := Hpl.out; omega
              have hws : ws'.length ≤ 25 := by have := Hwl.out; omega
              by_cases hlt : (k : Int) < 25
              · go_upto_region 27 with (at_builtin; refine wp_push2 (.tmp 105) (.tmp 106) rfl rfl (w.heap.size + 1) (.slice aP' k cP') ps' rfl HT.out.p rfl (by omega) (by omega) ?_; intro v' w' ho hb hm; have hT := Two.pushP HT.out ho hb hm; have hC := Cq.up HC.out (hb.mono (by omega)); have e1 := hT.1.c0; have f1 := hT.1.f0; obtain ⟨a', c', rfl⟩ := ho.shape; have hlx : (ps' ++ [0]).length = k + 1 := by { rw [List.length_append, Hpl.out]; rfl }; rw [hlx] at hT ⊢; have HD := Lib.hid hT.2; have HCw := Lib.hid (Two.cq (i := 0) hC hge (.slice a' (k + 1) c')); clear hT hC ho hm hb)
                generalize (w'.setCell ⟨tb, 0, none⟩ (.slice a' (k + 1) c')) = wd at *
                have d1 := HD.out.box.c1
                have hltd := HD.out.box.lt
                have hgesd := HCw.out.size
                have hresd := HD.out.res.lt
                clear e1 f1
                go_wp2_with (at_builtin; refine wp_push2 (.tmp 110) (.tmp 111) rfl rfl (w.heap.size + 1) (.slice aW' k cW') ws' rfl HD.out.q rfl (by omega) (by omega) ?_; intro v2 w2' ho hb hm; have hT := Two.pushW HD.out ho hb hm; have hC := Cq.up HCw.out (hb.mono (by omega)); have e2 := hT.1.c1; have f2 := hT.1.f1; obtain ⟨a2', c2', rfl⟩ := ho.shape; have hlx2 : (ws' ++ [1]).length = k + 1 := by { rw [List.length_append, Hwl.out]; rfl }; rw [hlx2] at hT ⊢; have HE := Lib.hid hT.2; have HCx := Lib.hid (Two.cq (i := 1) hC hge (.slice a2' (k + 1) c2')); clear hT hC ho hm hb)
                go_roundw
                case rel => exact ⟨k + 1, by omega, by omega, ⟨_, _, _, _, _, _, HE.out, HCx.out⟩⟩
                case measure => rw [HE.out.box.c0, c0]; simp; omega
              · obtain rfl : k = 25 := by omega
                have d0 := HT.out.box.c0
                have d1 := HT.out.box.c1
                have e0 := HT.out.res.c0
                have e1 := HT.out.res.c1
                have f0 := HT.out.res.f0
                have f1 := HT.out.res.f1
                have hr := HT.out.res.set (.slice aP' 25 cP') (.slice aW' 25 cW')
                go_wp2_with fail
                exact bodyPost_ret (v := .agg #[.slice aP' 25 cP', .slice aW' 25 cW']) (by simp [results, Tryz.results139, go_sem, hr.1, hr.2]) rfl ⟨⟨_, rfl, HT.out.done (by omega) (by omega)⟩, (Two.doneC HC.out _ _).cur.mono (by omega), (Two.doneC HC.out _ _).grow⟩
          · have e0 := K8.out.res.c0
            have e1 := K8.out.res.c1
            have f0 := K8.out.res.f0
            have f1 := K8.out.res.f1
            have hr := K8.out.res.set (.slice none 0 0) (.slice none 0 0)
            go_wp2_with fail
            exact bodyPost_ret (v := .agg #[.slice none 0 0, .slice none 0 0]) (by simp [results, Tryz.results139, go_sem, hr.1, hr.2]) rfl ⟨⟨_, rfl, none, 0, 0, none, 0, 0, [], [], rfl, Own.nil _ _, Own.nil _ _, by omega, by omega⟩, (Two.doneC C8.out _ _).cur.mono (by omega), (Two.doneC C8.out _ _).grow⟩
          · obtain ⟨z0, z1, z2, z3, z4⟩ := hz
            have z0 : (z == 0) = false := by simpa using z0
            have z1 : (z == 1) = false := by simpa using z1
            have z2 : (z == 2) = false := by simpa using z2
            have z3 : (z == 3) = false := by simpa using z3
            have z4 : (z == 4) = false := by simpa using z4
            have d0 := K8.out.box.c0
            have d1 := K8.out.box.c1
            have e0 := K8.out.res.c0
            have e1 := K8.out.res.c1
            have f0 := K8.out.res.f0
            have f1 := K8.out.res.f1
            have hr := K8.out.res.set (.slice aP y cP) (.slice aW y cW)
            go_wp2_with fail
            exact bodyPost_ret (v := .agg #[.slice aP y cP, .slice aW y cW]) (by simp [results, Tryz.results139, go_sem, hr.1, hr.2]) rfl ⟨⟨_, rfl, K8.out.done (by omega) (by omega)⟩, (Two.doneC C8.out _ _).cur.mono (by omega), (Two.doneC C8.out _ _).grow⟩
end Go.Proofs.YtnbomleieianoaaGreat
