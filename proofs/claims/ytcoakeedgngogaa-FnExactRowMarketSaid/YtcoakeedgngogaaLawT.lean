/- Contracts of the helpers of the laws on arguments that are trees: their size, a copy of them, comparing them, marking them. -/
import Derived.Test.YtcoakeedgngogaaLawI
import Derived.Test.YtcoakeedgngogaaTree1
import Derived.Test.YtcoakeedgngogaaKeep
namespace Go.Proofs.Ytcoakeedgngogaa
open Go.RowKit

/-- Only the blocks from lo to hi may have changed. -/
structure Only (lo hi : Nat) (w w' : World) : Prop where
  os : w'.os = w.os
  tape : w'.tape = w.tape
  output : w'.output = w.output
  size : w.heap.size ≤ w'.heap.size
  block : ∀ k, k < w.heap.size → k < lo ∨ hi ≤ k → w'.heap[k]? = w.heap[k]?
theorem Only.trans {lo hi : Nat} {a b c : World} (h : Only lo hi a b) (k : Only lo hi b c) : Only lo hi a c :=
  ⟨k.os.trans h.os, k.tape.trans h.tape, k.output.trans h.output, Nat.le_trans h.size k.size, fun i hi' hc => (k.block i (Nat.lt_of_lt_of_le hi' h.size) hc).trans (h.block i hi' hc)⟩
theorem Only.of_grown {lo hi : Nat} {w w' : World} {v : Value} (hg : w.grownBy w' v.ownBlock) (hv : ∀ g, v.ownBlock = some g → lo ≤ g ∧ g < hi) : Only lo hi w w' :=
  ⟨hg.os, hg.tape, hg.output, hg.size, fun k hk hc => hg.block k hk (fun e => by have := hv k e.symm; omega)⟩
theorem Only.of_below {lo hi : Nat} {w w' : World} (hb : Below w.heap.size w w') : Only lo hi w w' :=
  ⟨hb.os, hb.tape, hb.output, hb.size, fun k hk _ => hb.block k hk⟩
theorem Only.below {lo hi : Nat} {w w' : World} (h : Only lo hi w w') (hlo : lo ≤ w.heap.size) : Below lo w w' :=
  ⟨h.os, h.tape, h.output, h.size, fun k hk => h.block k (by omega) (.inl hk)⟩
theorem Own.only {lo hi : Nat} {w w' : World} {base : Nat} {v : Value} {xs : List Int} (h : Own w base v xs) (ho : Only lo hi w w') (hs : ∀ g, v.ownBlock = some g → g < lo ∨ hi ≤ g) : Own w' base v xs := by
  refine ⟨h.1, ?_⟩
  rcases h.2 with hn | ⟨g, cap, cur, rfl, hb, hgg, rest⟩
  · exact .inl hn
  · refine .inr ⟨g, cap, cur, rfl, hb, ?_, rest⟩
    rw [ho.block g (Array.getElem?_eq_some_iff.1 hgg).1 (hs g rfl)]
    exact hgg
/-- The two slices of a tree of the call's own, apart from each other. -/
def TreO (w : World) (base : Nat) (aP : Option Addr) (nP cP : Nat) (aW : Option Addr) (nW cW : Nat) (ps ws : List Int) : Prop :=
  ∃ mid, base ≤ mid ∧ Own w base (.slice aP nP cP) ps ∧ Own w mid (.slice aW nW cW) ws ∧ ∀ g, (Value.slice aP nP cP).ownBlock = some g → g < mid
theorem TreO.below {w w' : World} {base : Nat} {aP : Option Addr} {nP cP : Nat} {aW : Option Addr} {nW cW : Nat} {ps ws : List Int} (h : TreO w base aP nP cP aW nW cW ps ws) (hb : Below w.heap.size w w') : TreO w' base aP nP cP aW nW cW ps ws := by
  obtain ⟨mid, h1, h2, h3, h4⟩ := h
  exact ⟨mid, h1, h2.below hb, h3.below hb, h4⟩
theorem TreO.mono {w : World} {base base' : Nat} {aP : Option Addr} {nP cP : Nat} {aW : Option Addr} {nW cW : Nat} {ps ws : List Int} (h : TreO w base aP nP cP aW nW cW ps ws) (hb : base' ≤ base) : TreO w base' aP nP cP aW nW cW ps ws := by
  obtain ⟨mid, h1, h2, h3, h4⟩ := h
  exact ⟨mid, by omega, h2.mono hb, h3, h4⟩
theorem TreO.tre {w : World} {base : Nat} {aP : Option Addr} {nP cP : Nat} {aW : Option Addr} {nW cW : Nat} {ps ws : List Int} (h : TreO w base aP nP cP aW nW cW ps ws) (h1 : nP ≤ 1048576) (h2 : nW ≤ 1048576) : Tre w aP nP cP aW nW cW ps ws := by
  obtain ⟨mid, _, h3, h4, _⟩ := h
  exact ⟨h3.ints, h4.ints, h1, h2, h3.cap.2.1, h4.cap.2.1⟩
theorem TreO.lt {w : World} {base : Nat} {aP : Option Addr} {nP cP : Nat} {aW : Option Addr} {nW cW : Nat} {ps ws : List Int} (h : TreO w base aP nP cP aW nW cW ps ws) :
    (∀ g, (Value.slice aP nP cP).ownBlock = some g → base ≤ g ∧ g < w.heap.size) ∧ (∀ g, (Value.slice aW nW cW).ownBlock = some g → base ≤ g ∧ g < w.heap.size) := by
  obtain ⟨mid, h1, h2, h3, h4⟩ := h
  exact ⟨fun g hg => World.ownsRow.lt h2 g hg, fun g hg => by have := World.ownsRow.lt h3 g hg; omega⟩
theorem laws_szTree (aP : Option Addr) (nP cP : Nat) (aW : Option Addr) (nW cW : Nat) (left : Int) (w : World) (hp : nP ≤ maxLen) (hw : nW ≤ maxLen) (hl : 0 ≤ left) (hl2 : left ≤ 1048576) :
    Calls Try.prog 19 #[.agg #[.slice aP nP cP, .slice aW nW cW], .int .i64 left] w fun e w' => IsLeft e left (nP ≤ 1048576 ∧ nW ≤ 1048576) ∧ Below w.heap.size w w' := by
  have hb1 := below_new w (.cells #[.slice aP nP cP, .slice aW nW cW] 41)
  have hP1 := Pair.new w (.slice aP nP cP) (.slice aW nW cW) 41
  have c0 := hP1.c0
  have c1 := hP1.c1
  clear hP1
  have Hp := Lib.hid hp
  have Hw := Lib.hid hw
  clear hp hw
  go_enter Try.func19, Try.ntmps19
  go_wp2_with fail
  refine (laws_szIntS _ _ _ _ _ Hp.out hl hl2).mono ?_
  rintro e w1 ⟨⟨z, rfl, hz, hz1, hz2⟩, rfl⟩
  by_cases hzn : z < 0
  · clear hz
    go_wp2_with fail
    go_ret
    exact ⟨isLeft_mk rfl (by omega) (by omega) (by omega), hb1⟩
  · have hz' := hz (by omega)
    clear hz
    go_wp2_with fail
    refine (laws_szIntS _ _ _ _ _ Hw.out (by omega) (by omega)).mono ?_
    rintro e w1 ⟨⟨y, rfl, hy, hy1, hy2⟩, rfl⟩
    by_cases hyn : y < 0
    · clear hy
      go_wp2_with fail
      go_ret
      exact ⟨isLeft_mk rfl (by omega) (by omega) (by omega), hb1⟩
    · have hy' := hy (by omega)
      clear hy
      go_wp2_with fail
      go_ret
      exact ⟨isLeft_mk rfl (fun _ => ⟨hz', hy'⟩) (by omega) (by omega), hb1⟩
theorem Pair.put0 {w : World} {g : Nat} {x y : Value} (h : Pair w g x y) (x' : Value) : Pair (w.setCell ⟨g, 0, none⟩ x') g x' y :=
  ⟨cell_set h.c0, by rw [World.cell?_setCell_other _ _ _ _ (by simp)]; exact h.c1, by simpa using h.f0, by simpa using h.f1⟩
theorem Pair.put1 {w : World} {g : Nat} {x y : Value} (h : Pair w g x y) (y' : Value) : Pair (w.setCell ⟨g, 1, none⟩ y') g x y' :=
  ⟨by rw [World.cell?_setCell_other _ _ _ _ (by simp)]; exact h.c0, cell_set h.c1, by simpa using h.f0, by simpa using h.f1⟩
theorem own_far {w : World} {base : Nat} {v : Value} {xs : List Int} (h : Own w base v xs) {b i : Nat} (hne : v.ownBlock ≠ some b) (u : Value) : Own (w.setCell ⟨b, i, none⟩ u) base v xs := h.far (a := ⟨b, i, none⟩) hne u
set_option maxHeartbeats 1000000 in
theorem laws_toTree (aP : Option Addr) (nP cP : Nat) (aW : Option Addr) (nW cW : Nat) (ps ws : List Int) (w : World) (h : Tre w aP nP cP aW nW cW ps ws) :
    Calls Try.prog 21 #[.agg #[.slice aP nP cP, .slice aW nW cW]] w fun e w' => ∃ (a1 : Option Addr) (c1 : Nat) (a2 : Option Addr) (c2 : Nat), e = .returned (.agg #[.slice a1 nP c1, .slice a2 nW c2]) ∧ TreO w' w.heap.size a1 nP c1 a2 nW c2 ps ws ∧ Below w.heap.size w w' := by
  have hl := Lib.hid h.p.1
  have hlw := Lib.hid h.w.1
  have H := Lib.hid h
  have hpn := h.pn
  have hwn := h.wn
  clear h
  have B1 := below_new w (.cells #[.slice aP nP cP, .slice aW nW cW] 41)
  have P1 := Pair.new w (.slice aP nP cP) (.slice aW nW cW) 41
  have P2 : Pair (((w.alloc (.cells #[.slice aP nP cP, .slice aW nW cW] 41)).alloc (.cells #[.slice none 0 0, .slice none 0 0] 33)).alloc (.cells #[.slice none 0 0, .slice none 0 0] 33)) (w.heap.size + 1) (.slice none 0 0) (.slice none 0 0) := by
    have := (Pair.new (w.alloc (.cells #[.slice aP nP cP, .slice aW nW cW] 41)) (.slice none 0 0) (.slice none 0 0) 33).alloc (.cells #[.slice none 0 0, .slice none 0 0] 33)
    simpa using this
  have P3 : Pair (((w.alloc (.cells #[.slice aP nP cP, .slice aW nW cW] 41)).alloc (.cells #[.slice none 0 0, .slice none 0 0] 33)).alloc (.cells #[.slice none 0 0, .slice none 0 0] 33)) (w.heap.size + 1 + 1) (.slice none 0 0) (.slice none 0 0) := by
    have := Pair.new ((w.alloc (.cells #[.slice aP nP cP, .slice aW nW cW] 41)).alloc (.cells #[.slice none 0 0, .slice none 0 0] 33)) (.slice none 0 0) (.slice none 0 0) 33
    simpa using this
  have Q1 := Lib.hid ((P1.alloc (.cells #[.slice none 0 0, .slice none 0 0] 33)).alloc (.cells #[.slice none 0 0, .slice none 0 0] 33))
  have Q2 := Lib.hid P2
  have Q3 := Lib.hid P3
  have B3 : Below w.heap.size w (((w.alloc (.cells #[.slice aP nP cP, .slice aW nW cW] 41)).alloc (.cells #[.slice none 0 0, .slice none 0 0] 33)).alloc (.cells #[.slice none 0 0, .slice none 0 0] 33)) := (B1.alloc (by simp) _).alloc (by simp; omega) _
  have S3 : w.heap.size + 3 ≤ (((w.alloc (.cells #[.slice aP nP cP, .slice aW nW cW] 41)).alloc (.cells #[.slice none 0 0, .slice none 0 0] 33)).alloc (.cells #[.slice none 0 0, .slice none 0 0] 33)).heap.size := by simp
  have c0 := P1.c0
  clear P2 P3 B1
  go_enter Try.func21, Try.ntmps21
  go_wp2_with fail
  clear c0 P1
  generalize (((w.alloc (.cells #[.slice aP nP cP, .slice aW nW cW] 41)).alloc (.cells #[.slice none 0 0, .slice none 0 0] 33)).alloc (.cells #[.slice none 0 0, .slice none 0 0] 33)) = w3 at *
  refine (laws_toIntS _ _ _ ps _ (by omega) (H.out.p.below B3)).mono ?_
  rintro e w4 ⟨v4, rfl, o4, b4⟩
  obtain ⟨a4, c4, rfl⟩ := o4.shape
  rw [hl.out] at o4 ⊢
  have B4 := B3.trans (b4.mono B3.size)
  have p1 := Q1.out.below b4
  have p3 := Q3.out.below b4
  have c1 := p1.c1
  have d0 := p3.c0
  have g0 := p3.f0
  have P1' := Lib.hid (p1.far (b := w.heap.size + 1 + 1) (i := 0) (by omega) (.slice a4 nP c4))
  have P2' := Lib.hid ((Q2.out.below b4).far (b := w.heap.size + 1 + 1) (i := 0) (by omega) (.slice a4 nP c4))
  have P3' := Lib.hid (p3.put0 (.slice a4 nP c4))
  have O4 := Lib.hid (own_far o4 (b := w.heap.size + 1 + 1) (i := 0) (own_low o4 (by omega)) (.slice a4 nP c4))
  have O4b := Lib.hid (fun g hg => (World.ownsRow.lt o4 g hg).2)
  have B5 : Below w.heap.size w (w4.setCell ⟨w.heap.size + 1 + 1, 0, none⟩ (.slice a4 nP c4)) := B4.setCell (by simp; omega) _
  have S5 : w4.heap.size ≤ (w4.setCell ⟨w.heap.size + 1 + 1, 0, none⟩ (.slice a4 nP c4)).heap.size := by simp [World.setCell]
  have S6 := b4.size
  clear p1 p3 o4 b4
  go_wp2_with fail
  clear c1 d0 g0
  generalize (w4.setCell ⟨w.heap.size + 1 + 1, 0, none⟩ (.slice a4 nP c4)) = w5 at *
  refine (laws_toIntS _ _ _ ws _ (by omega) (H.out.w.below B5)).mono ?_
  rintro e w6 ⟨v6, rfl, o6, b6⟩
  obtain ⟨a6, c6, rfl⟩ := o6.shape
  rw [hlw.out] at o6 ⊢
  have B6 := B5.trans (b6.mono B5.size)
  have p3 := P3'.out.below b6
  have p2 := P2'.out.below b6
  have d0 := p3.c0
  have d1 := p3.c1
  have g1 := p3.f1
  have e0 := p2.c0
  have e1 := p2.c1
  have h0 := p2.f0
  have h1 := p2.f1
  have Y1 := O4.out.below b6
  have Y2 := own_far (own_far (own_far Y1 (b := w.heap.size + 1 + 1) (i := 1) (own_low Y1 (by omega)) (.slice a6 nW c6)) (b := w.heap.size + 1) (i := 0) (own_low Y1 (by omega)) (.slice a4 nP c4)) (b := w.heap.size + 1) (i := 1) (own_low Y1 (by omega)) (.slice a6 nW c6)
  have Y3 := own_far (own_far (own_far o6 (b := w.heap.size + 1 + 1) (i := 1) (own_low o6 (by omega)) (.slice a6 nW c6)) (b := w.heap.size + 1) (i := 0) (own_low o6 (by omega)) (.slice a4 nP c4)) (b := w.heap.size + 1) (i := 1) (own_low o6 (by omega)) (.slice a6 nW c6)
  have Y4 := Lib.hid Y2
  have Y5 := Lib.hid Y3
  have hr := ((p2.far (b := w.heap.size + 1 + 1) (i := 1) (by omega) (.slice a6 nW c6)).set (.slice a4 nP c4) (.slice a6 nW c6))
  clear Y1 Y2 Y3 p3 p2 o6 b6
  go_wp2_with fail
  exact bodyPost_ret (v := .agg #[.slice a4 nP c4, .slice a6 nW c6]) (by simp [results, Try.results21, go_sem, hr.1, hr.2]) rfl ⟨a4, c4, a6, c6, rfl, ⟨w5.heap.size, by omega, Y4.out.mono (by omega), Y5.out, fun g hg => by have := O4b.out g hg; omega⟩, ((B6.setCell (by simp; omega) _).setCell (by simp) _).setCell (by simp) _⟩
set_option maxHeartbeats 1000000 in
theorem laws_eqTree (aP : Option Addr) (nP cP : Nat) (aW : Option Addr) (nW cW : Nat) (bP : Option Addr) (dP : Nat) (bW : Option Addr) (dW : Nat) (ps ws : List Int) (w : World) (h : Tre w aP nP cP aW nW cW ps ws) (h2 : Tre w bP nP dP bW nW dW ps ws) :
    Calls Try.prog 24 #[.agg #[.slice aP nP cP, .slice aW nW cW], .agg #[.slice bP nP dP, .slice bW nW dW]] w fun e w' => e = .returned (.bool true) ∧ Below w.heap.size w w' := by
  have hb2 : Below w.heap.size w ((w.alloc (.cells #[.slice aP nP cP, .slice aW nW cW] 33)).alloc (.cells #[.slice bP nP dP, .slice bW nW dW] 33)) := ((Below.refl _ _).alloc (Nat.le_refl _) _).alloc (by simp) _
  have hP1 := Lib.hid ((Pair.new w (.slice aP nP cP) (.slice aW nW cW) 33).alloc (.cells #[.slice bP nP dP, .slice bW nW dW] 33))
  have hP2 := Pair.new (w.alloc (.cells #[.slice aP nP cP, .slice aW nW cW] 33)) (.slice bP nP dP) (.slice bW nW dW) 33
  rw [show (w.alloc (.cells #[.slice aP nP cP, .slice aW nW cW] 33)).heap.size = w.heap.size + 1 by simp] at hP2
  have HP2 := Lib.hid hP2
  have H := Lib.hid h
  have H2 := Lib.hid h2
  have hpn := h.pn
  have hwn := h.wn
  clear h h2 hP2
  go_enter Try.func24, Try.ntmps24
  have c0 := hP1.out.c0
  have c1 := hP1.out.c1
  have d0 := HP2.out.c0
  have d1 := HP2.out.c1
  go_wp2_with fail
  generalize ((w.alloc (.cells #[.slice aP nP cP, .slice aW nW cW] 33)).alloc (.cells #[.slice bP nP dP, .slice bW nW dW] 33)) = w2 at *
  refine (laws_eqIntS _ _ _ _ _ ps _ (by omega) (H.out.p.below hb2) (H2.out.p.below hb2)).mono ?_
  rintro e w3 ⟨rfl, hb3⟩
  have e0 := (hP1.out.below hb3).c1
  have e1 := (HP2.out.below hb3).c1
  have hb13 := hb2.trans (hb3.mono hb2.size)
  clear c0 c1 d0 d1 hb3
  go_wp2_with fail
  refine (laws_eqIntS _ _ _ _ _ ws _ (by omega) (H.out.w.below hb13) (H2.out.w.below hb13)).mono ?_
  rintro e w4 ⟨rfl, hb4⟩
  go_wp2_with fail
  go_ret
  exact ⟨rfl, hb13.trans (hb4.mono hb13.size)⟩
theorem apart_or {a b : Option Nat} (h : ∀ g, a = some g → b = some g → False) : a = none ∨ a ≠ b := by
  cases a with
  | none => exact .inl rfl
  | some g => exact .inr fun e => h g rfl e.symm
set_option maxHeartbeats 1000000 in
theorem laws_markTree (lo hi base : Nat) (aP : Option Addr) (nP cP : Nat) (aW : Option Addr) (nW cW : Nat) (ps ws : List Int) (k : Int) (w : World) (hpn : nP ≤ 1048576) (hwn : nW ≤ 1048576) (hk0 : 0 ≤ k) (hk1 : k ≤ 100000000000) (h : TreO w base aP nP cP aW nW cW ps ws) (hlo : lo ≤ base) (hhi : w.heap.size ≤ hi ∨ ((∀ g, (Value.slice aP nP cP).ownBlock = some g → g < hi) ∧ (∀ g, (Value.slice aW nW cW).ownBlock = some g → g < hi))) :
    Calls Try.prog 50 #[.agg #[.slice aP nP cP, .slice aW nW cW], .int .i64 k] w fun e w' => e = .returned (.int .i64 (k + nP + nW)) ∧ Only lo hi w w' ∧ TreO w' base aP nP cP aW nW cW (marks k nP) (marks (k + nP) nW) := by
  have hbd : (∀ g, (Value.slice aP nP cP).ownBlock = some g → lo ≤ g ∧ g < hi) ∧ (∀ g, (Value.slice aW nW cW).ownBlock = some g → lo ≤ g ∧ g < hi) := by
    have hl := h.lt
    refine ⟨fun g hg => ?_, fun g hg => ?_⟩
    · have h1 := hl.1 g hg
      rcases hhi with hhi | hhi
      · omega
      · have := hhi.1 g hg; omega
    · have h1 := hl.2 g hg
      rcases hhi with hhi | hhi
      · omega
      · have := hhi.2 g hg; omega
  have hb1 := below_new w (.cells #[.slice aP nP cP, .slice aW nW cW] 33)
  have hP1 := Lib.hid (Pair.new w (.slice aP nP cP) (.slice aW nW cW) 33)
  have hlt := Lib.hid h.lt
  obtain ⟨mid, hm, hp, hw, hsep⟩ := h
  have Hp := Lib.hid (hp.below hb1)
  have Hw := Lib.hid (hw.below hb1)
  have Hsep := Lib.hid hsep
  have Hbd := Lib.hid hbd
  clear hp hw hsep hbd hhi
  go_enter Try.func50, Try.ntmps50
  have c0 := hP1.out.c0
  have c1 := hP1.out.c1
  go_wp2_with fail
  generalize (w.alloc (.cells #[.slice aP nP cP, .slice aW nW cW] 33)) = w2 at *
  refine (laws_markIntS base aP nP cP k ps _ (by omega) hk0 (by omega) Hp.out).mono ?_
  rintro e w3 ⟨rfl, o3, g3⟩
  have hs3 := g3.size
  have o4 : Own w3 mid (.slice aW nW cW) ws := Hw.out.grown g3 (apart_or fun g h1 h2 => by
    have h3 := Hsep.out g h2
    have h4 := (World.ownsRow.lt Hw.out g h1).1
    omega)
  have hne : (Value.slice aP nP cP).ownBlock ≠ some w.heap.size := fun e => by have := hlt.out.1 _ e; omega
  have d1 : w3.cell? ⟨w.heap.size, 1, none⟩ = some (.slice aW nW cW) := g3.cell (a := ⟨w.heap.size, 1, none⟩) c1 (fun e => hne e.symm)
  have Hl1 := Lib.hid (Only.of_grown g3 Hbd.out.1)
  have Ob1 : Hid (Only lo hi w w2) := Lib.hid (Only.of_below hb1)
  have O3 := Lib.hid o3
  have O4 := Lib.hid o4
  clear o3 o4 g3 c0 c1 hs3 hne
  go_wp2_with fail
  refine (laws_markIntS mid aW nW cW (k + nP) ws _ (by omega) (by omega) (by omega) O4.out).mono ?_
  rintro e w4 ⟨rfl, o5, g5⟩
  have o6 : Own w4 base (.slice aP nP cP) (marks k nP) := O3.out.grown g5 (apart_or fun g h1 h2 => by
    have h3 := Hsep.out g h1
    have h4 := (World.ownsRow.lt O4.out g h2).1
    omega)
  have Ob2 := Lib.hid (Only.of_grown g5 Hbd.out.2)
  have O5 := Lib.hid o5
  have O6 := Lib.hid o6
  clear o5 o6 g5
  go_wp2_with fail
  go_ret
  exact ⟨rfl, (Ob1.out.trans Hl1.out).trans Ob2.out, mid, hm, O6.out, O5.out, Hsep.out⟩
theorem Pair.only {lo hi : Nat} {w w' : World} {g : Nat} {x y : Value} (h : Pair w g x y) (ho : Only lo hi w w') (hs : g < lo ∨ hi ≤ g) : Pair w' g x y := by
  have hb := ho.block g h.lt hs
  exact ⟨(World.cell?_of_block (a := ⟨g, 0, none⟩) hb).trans h.c0, (World.cell?_of_block (a := ⟨g, 1, none⟩) hb).trans h.c1, (World.frozen?_of_block (a := ⟨g, 0, none⟩) hb).trans h.f0, (World.frozen?_of_block (a := ⟨g, 1, none⟩) hb).trans h.f1⟩
end Go.Proofs.Ytcoakeedgngogaa
