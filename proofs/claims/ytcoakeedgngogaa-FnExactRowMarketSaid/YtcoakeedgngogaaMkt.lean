/- Markets: three slices; contracts of the laws' helpers on them: their size, a copy of them, comparing them, marking them. -/
import Derived.Test.YtcoakeedgngogaaLawT
import Derived.Test.YtcoakeedgngogaaKeepB
namespace Go.Proofs.Ytcoakeedgngogaa
open Go.RowKit

/-- Three cells of a block. -/
structure Trip (w : World) (g : Nat) (x y z : Value) : Prop where
  c0 : w.cell? ⟨g, 0, none⟩ = some x
  c1 : w.cell? ⟨g, 1, none⟩ = some y
  c2 : w.cell? ⟨g, 2, none⟩ = some z
  f0 : w.frozen? ⟨g, 0, none⟩ = false
  f1 : w.frozen? ⟨g, 1, none⟩ = false
  f2 : w.frozen? ⟨g, 2, none⟩ = false
theorem Trip.lt {w : World} {g : Nat} {x y z : Value} (h : Trip w g x y z) : g < w.heap.size := World.block_lt_of_cell? w _ h.c0
theorem Trip.up {w w' : World} {g base : Nat} {x y z : Value} (h : Trip w g x y z) (hb : Below base w w') (hg : g < base) : Trip w' g x y z :=
  ⟨(hb.cell (p := ⟨g, 0, none⟩) hg).trans h.c0, (hb.cell (p := ⟨g, 1, none⟩) hg).trans h.c1, (hb.cell (p := ⟨g, 2, none⟩) hg).trans h.c2, (hb.frozen (p := ⟨g, 0, none⟩) hg).trans h.f0, (hb.frozen (p := ⟨g, 1, none⟩) hg).trans h.f1, (hb.frozen (p := ⟨g, 2, none⟩) hg).trans h.f2⟩
theorem Trip.below {w w' : World} {g : Nat} {x y z : Value} (h : Trip w g x y z) (hb : Below w.heap.size w w') : Trip w' g x y z := h.up hb h.lt
theorem Trip.new (w : World) (x y z : Value) (t : TypeId) : Trip (w.alloc (.cells #[x, y, z] t)) w.heap.size x y z :=
  ⟨by rw [World.cell?_alloc_at _ _ _ _ rfl]; rfl, by rw [World.cell?_alloc_at _ _ _ _ rfl]; rfl, by rw [World.cell?_alloc_at _ _ _ _ rfl]; rfl, World.frozen?_alloc_at _ _ _ _ rfl, World.frozen?_alloc_at _ _ _ _ rfl, World.frozen?_alloc_at _ _ _ _ rfl⟩
theorem Trip.alloc {w : World} {g : Nat} {x y z : Value} (h : Trip w g x y z) (o : Obj) : Trip (w.alloc o) g x y z := h.below (below_new w o)
theorem Trip.far {w : World} {g : Nat} {x y z : Value} (h : Trip w g x y z) {b i : Nat} (hne : b ≠ g) (u : Value) : Trip (w.setCell ⟨b, i, none⟩ u) g x y z :=
  ⟨cell_far h.c0 (fun e => hne e.symm), cell_far h.c1 (fun e => hne e.symm), cell_far h.c2 (fun e => hne e.symm), by simpa using h.f0, by simpa using h.f1, by simpa using h.f2⟩
theorem Trip.put0 {w : World} {g : Nat} {x y z : Value} (h : Trip w g x y z) (u : Value) : Trip (w.setCell ⟨g, 0, none⟩ u) g u y z :=
  ⟨cell_set h.c0, by rw [World.cell?_setCell_other _ _ _ _ (by simp)]; exact h.c1, by rw [World.cell?_setCell_other _ _ _ _ (by simp)]; exact h.c2, by simpa using h.f0, by simpa using h.f1, by simpa using h.f2⟩
theorem Trip.put1 {w : World} {g : Nat} {x y z : Value} (h : Trip w g x y z) (u : Value) : Trip (w.setCell ⟨g, 1, none⟩ u) g x u z :=
  ⟨by rw [World.cell?_setCell_other _ _ _ _ (by simp)]; exact h.c0, cell_set h.c1, by rw [World.cell?_setCell_other _ _ _ _ (by simp)]; exact h.c2, by simpa using h.f0, by simpa using h.f1, by simpa using h.f2⟩
theorem Trip.put2 {w : World} {g : Nat} {x y z : Value} (h : Trip w g x y z) (u : Value) : Trip (w.setCell ⟨g, 2, none⟩ u) g x y u :=
  ⟨by rw [World.cell?_setCell_other _ _ _ _ (by simp)]; exact h.c0, by rw [World.cell?_setCell_other _ _ _ _ (by simp)]; exact h.c1, cell_set h.c2, by simpa using h.f0, by simpa using h.f1, by simpa using h.f2⟩
theorem Trip.only {lo hi : Nat} {w w' : World} {g : Nat} {x y z : Value} (h : Trip w g x y z) (ho : Only lo hi w w') (hs : g < lo ∨ hi ≤ g) : Trip w' g x y z := by
  have hb := ho.block g h.lt hs
  exact ⟨(World.cell?_of_block (a := ⟨g, 0, none⟩) hb).trans h.c0, (World.cell?_of_block (a := ⟨g, 1, none⟩) hb).trans h.c1, (World.cell?_of_block (a := ⟨g, 2, none⟩) hb).trans h.c2, (World.frozen?_of_block (a := ⟨g, 0, none⟩) hb).trans h.f0, (World.frozen?_of_block (a := ⟨g, 1, none⟩) hb).trans h.f1, (World.frozen?_of_block (a := ⟨g, 2, none⟩) hb).trans h.f2⟩
/-- A market's three slices read as parents, weights and prices. -/
structure Mkt (w : World) (aP : Option Addr) (nP cP : Nat) (aW : Option Addr) (nW cW : Nat) (aL : Option Addr) (nL cL : Nat) (ps ws l : List Int) : Prop where
  t : Tre w aP nP cP aW nW cW ps ws
  l : Ints w aL nL l
  ln : nL ≤ 1048576
  lc : aL = none → cL = 0
theorem Mkt.below {w w' : World} {aP : Option Addr} {nP cP : Nat} {aW : Option Addr} {nW cW : Nat} {aL : Option Addr} {nL cL : Nat} {ps ws l : List Int} (h : Mkt w aP nP cP aW nW cW aL nL cL ps ws l) (hb : Below w.heap.size w w') : Mkt w' aP nP cP aW nW cW aL nL cL ps ws l :=
  ⟨h.t.below hb, h.l.below hb, h.ln, h.lc⟩
/-- The three slices of a market of the call's own, apart from each other. -/
def MktO (w : World) (base : Nat) (aP : Option Addr) (nP cP : Nat) (aW : Option Addr) (nW cW : Nat) (aL : Option Addr) (nL cL : Nat) (ps ws l : List Int) : Prop :=
  ∃ mid, base ≤ mid ∧ TreO w base aP nP cP aW nW cW ps ws ∧ Own w mid (.slice aL nL cL) l ∧ (∀ g, (Value.slice aP nP cP).ownBlock = some g → g < mid) ∧ ∀ g, (Value.slice aW nW cW).ownBlock = some g → g < mid
theorem MktO.below {w w' : World} {base : Nat} {aP : Option Addr} {nP cP : Nat} {aW : Option Addr} {nW cW : Nat} {aL : Option Addr} {nL cL : Nat} {ps ws l : List Int} (h : MktO w base aP nP cP aW nW cW aL nL cL ps ws l) (hb : Below w.heap.size w w') : MktO w' base aP nP cP aW nW cW aL nL cL ps ws l := by
  obtain ⟨mid, h1, h2, h3, h4, h5⟩ := h
  exact ⟨mid, h1, h2.below hb, h3.below hb, h4, h5⟩
theorem MktO.mkt {w : World} {base : Nat} {aP : Option Addr} {nP cP : Nat} {aW : Option Addr} {nW cW : Nat} {aL : Option Addr} {nL cL : Nat} {ps ws l : List Int} (h : MktO w base aP nP cP aW nW cW aL nL cL ps ws l) (h1 : nP ≤ 1048576) (h2 : nW ≤ 1048576) (h3 : nL ≤ 1048576) : Mkt w aP nP cP aW nW cW aL nL cL ps ws l := by
  obtain ⟨mid, _, h4, h5, _⟩ := h
  exact ⟨h4.tre h1 h2, h5.ints, h3, h5.cap.2.1⟩
theorem MktO.lt {w : World} {base : Nat} {aP : Option Addr} {nP cP : Nat} {aW : Option Addr} {nW cW : Nat} {aL : Option Addr} {nL cL : Nat} {ps ws l : List Int} (h : MktO w base aP nP cP aW nW cW aL nL cL ps ws l) :
    ((∀ g, (Value.slice aP nP cP).ownBlock = some g → base ≤ g ∧ g < w.heap.size) ∧ (∀ g, (Value.slice aW nW cW).ownBlock = some g → base ≤ g ∧ g < w.heap.size)) ∧ ∀ g, (Value.slice aL nL cL).ownBlock = some g → base ≤ g ∧ g < w.heap.size := by
  obtain ⟨mid, h1, h2, h3, h4, h5⟩ := h
  exact ⟨h2.lt, fun g hg => by have := World.ownsRow.lt h3 g hg; omega⟩
set_option maxHeartbeats 1000000 in
theorem laws_eqMarket (aP : Option Addr) (nP cP : Nat) (aW : Option Addr) (nW cW : Nat) (aL : Option Addr) (nL cL : Nat) (bP : Option Addr) (dP : Nat) (bW : Option Addr) (dW : Nat) (bL : Option Addr) (dL : Nat) (ps ws l : List Int) (w : World) (h : Mkt w aP nP cP aW nW cW aL nL cL ps ws l) (h2 : Mkt w bP nP dP bW nW dW bL nL dL ps ws l) :
    Calls Try.prog 16 #[.agg #[.slice aP nP cP, .slice aW nW cW, .slice aL nL cL], .agg #[.slice bP nP dP, .slice bW nW dW, .slice bL nL dL]] w fun e w' => e = .returned (.bool true) ∧ Below w.heap.size w w' := by
  have hb2 : Below w.heap.size w ((w.alloc (.cells #[.slice aP nP cP, .slice aW nW cW, .slice aL nL cL] 35)).alloc (.cells #[.slice bP nP dP, .slice bW nW dW, .slice bL nL dL] 35)) := ((Below.refl _ _).alloc (Nat.le_refl _) _).alloc (by simp) _
  have hP1 := Lib.hid ((Trip.new w (.slice aP nP cP) (.slice aW nW cW) (.slice aL nL cL) 35).alloc (.cells #[.slice bP nP dP, .slice bW nW dW, .slice bL nL dL] 35))
  have hP2 := Trip.new (w.alloc (.cells #[.slice aP nP cP, .slice aW nW cW, .slice aL nL cL] 35)) (.slice bP nP dP) (.slice bW nW dW) (.slice bL nL dL) 35
  rw [show (w.alloc (.cells #[.slice aP nP cP, .slice aW nW cW, .slice aL nL cL] 35)).heap.size = w.heap.size + 1 by simp] at hP2
  have HP2 := Lib.hid hP2
  have H := Lib.hid h
  have H2 := Lib.hid h2
  have hln := h.ln
  clear h h2 hP2
  go_enter Try.func16, Try.ntmps16
  have c0 := hP1.out.c0
  have c1 := hP1.out.c1
  have d0 := HP2.out.c0
  have d1 := HP2.out.c1
  go_wp2_with fail
  generalize ((w.alloc (.cells #[.slice aP nP cP, .slice aW nW cW, .slice aL nL cL] 35)).alloc (.cells #[.slice bP nP dP, .slice bW nW dW, .slice bL nL dL] 35)) = w2 at *
  refine (laws_eqTree _ _ _ _ _ _ _ _ _ _ ps ws _ (H.out.t.below hb2) (H2.out.t.below hb2)).mono ?_
  rintro e w3 ⟨rfl, hb3⟩
  have e0 := (hP1.out.below hb3).c2
  have e1 := (HP2.out.below hb3).c2
  have hb13 := hb2.trans (hb3.mono hb2.size)
  clear c0 c1 d0 d1 hb3
  go_wp2_with fail
  refine (laws_eqIntS _ _ _ _ _ l _ (by omega) (H.out.l.below hb13) (H2.out.l.below hb13)).mono ?_
  rintro e w4 ⟨rfl, hb4⟩
  go_wp2_with fail
  go_ret
  exact ⟨rfl, hb13.trans (hb4.mono hb13.size)⟩
set_option maxRecDepth 100000 in
set_option maxHeartbeats 1000000 in
theorem laws_markMarket (lo hi base : Nat) (aP : Option Addr) (nP cP : Nat) (aW : Option Addr) (nW cW : Nat) (aL : Option Addr) (nL cL : Nat) (ps ws l : List Int) (k : Int) (w : World) (hpn : nP ≤ 1048576) (hwn : nW ≤ 1048576) (hln : nL ≤ 1048576) (hk0 : 0 ≤ k) (hk1 : k ≤ 10000000000) (h : MktO w base aP nP cP aW nW cW aL nL cL ps ws l) (hlo : lo ≤ base) (hhi : (∀ g, (Value.slice aP nP cP).ownBlock = some g → g < hi) ∧ (∀ g, (Value.slice aW nW cW).ownBlock = some g → g < hi) ∧ (∀ g, (Value.slice aL nL cL).ownBlock = some g → g < hi)) :
    Calls Try.prog 17 #[.agg #[.slice aP nP cP, .slice aW nW cW, .slice aL nL cL], .int .i64 k] w fun e w' => e = .returned (.int .i64 (k + nP + nW + nL)) ∧ Only lo hi w w' := by
  have hb1 := below_new w (.cells #[.slice aP nP cP, .slice aW nW cW, .slice aL nL cL] 35)
  have hP1 := Lib.hid (Trip.new w (.slice aP nP cP) (.slice aW nW cW) (.slice aL nL cL) 35)
  have hlt := Lib.hid h.lt
  obtain ⟨mid, hm, ht, hl, hs1, hs2⟩ := h.below hb1
  have Ht := Lib.hid ht
  have HL := Lib.hid hl
  have Hhi := Lib.hid hhi
  have Hs1 := Lib.hid hs1
  have Hs2 := Lib.hid hs2
  clear h ht hl hhi hs1 hs2
  go_enter Try.func17, Try.ntmps17
  have c0 := hP1.out.c0
  have c1 := hP1.out.c1
  have c2 := hP1.out.c2
  go_wp2_with fail
  have hsz := hP1.out.lt
  generalize (w.alloc (.cells #[.slice aP nP cP, .slice aW nW cW, .slice aL nL cL] 35)) = w2 at *
  have hq : ∀ g, (Value.slice aP nP cP).ownBlock = some g → g < min (min mid w.heap.size) hi := fun g hg => by
    have h1 := Hs1.out g hg
    have h2 := (hlt.out.1.1 g hg).2
    have h3 := Hhi.out.1 g hg
    omega
  have hq2 : ∀ g, (Value.slice aW nW cW).ownBlock = some g → g < min (min mid w.heap.size) hi := fun g hg => by
    have h1 := Hs2.out g hg
    have h2 := (hlt.out.1.2 g hg).2
    have h3 := Hhi.out.2.1 g hg
    omega
  have Hq := Lib.hid hq
  have Hq2 := Lib.hid hq2
  clear hq hq2
  refine (laws_markTree base (min (min mid w.heap.size) hi) base _ _ _ _ _ _ ps ws k _ hpn hwn hk0 (by omega) Ht.out (Nat.le_refl _) (.inr ⟨Hq.out, Hq2.out⟩)).mono ?_
  rintro e w3 ⟨rfl, o3, -⟩
  have hL3 : Own w3 mid (.slice aL nL cL) l := HL.out.only o3 (fun g hg => .inr (by have := (World.ownsRow.lt HL.out g hg).1; omega))
  have d2 : w3.cell? ⟨w.heap.size, 2, none⟩ = some (.slice aL nL cL) := (World.cell?_of_block (a := ⟨w.heap.size, 2, none⟩) (o3.block _ hsz (.inr (show min (min mid w.heap.size) hi ≤ w.heap.size by omega)))).trans c2
  have O3 : Hid (Only lo hi w w3) := Lib.hid ((Only.of_below hb1).trans (show Only lo hi w2 w3 from ⟨o3.os, o3.tape, o3.output, o3.size, fun j hj hc => o3.block j hj (by omega)⟩))
  have HL3 := Lib.hid hL3
  clear hL3 c0 c1 c2 o3
  go_wp2_with fail
  refine (laws_markIntS mid aL nL cL (k + nP + nW) l _ (by omega) (by omega) (by omega) HL3.out).mono ?_
  rintro e w4 ⟨rfl, -, g5⟩
  have O4 : Hid (Only lo hi w3 w4) := Lib.hid (Only.of_grown g5 fun g hg => ⟨by have := (hlt.out.2 g hg).1; omega, Hhi.out.2.2 g hg⟩)
  clear g5
  go_wp2_with fail
  go_ret
  exact ⟨rfl, O3.out.trans O4.out⟩
end Go.Proofs.Ytcoakeedgngogaa
