/- The walk through the law FnExactLaterStop: it returns true. No conditions but that the arguments can be read. -/
import Derived.Test.YtnbomleieianoaaOn5
import Derived.Test.YtnbomleieianoaaLawT
import Derived.Test.YtnbomleieianoaaOpenT
namespace Go.Proofs.Ytnbomleieianoaa.fnExactLaterStop
open Go.RowKit
set_option linter.unusedVariables false
set_option maxRecDepth 100000 in
set_option maxHeartbeats 4000000 in
theorem walk (aP0 : Option Addr) (nP0 cP0 : Nat) (aW0 : Option Addr) (nW0 cW0 : Nat) (ps0 ws0 : List Int) (a1 : Option Addr) (m1 c1 : Nat) (l1 : List Int) (a2 : Option Addr) (m2 c2 : Nat) (l2 : List Int)  (w : World) (h0 : TreA w aP0 nP0 cP0 aW0 nW0 cW0 ps0 ws0) (hm1 : m1 ≤ maxLen) (hc1 : m1 ≤ c1 ∧ c1 ≤ maxLen ∧ (a1 = none → c1 = 0)) (h1 : Ints w a1 m1 l1) (hm2 : m2 ≤ maxLen) (hc2 : m2 ≤ c2 ∧ c2 ≤ maxLen ∧ (a2 = none → c2 = 0)) (h2 : Ints w a2 m2 l2) :
    Calls Try.prog 9 #[.agg #[.slice aP0 nP0 cP0, .slice aW0 nW0 cW0], .slice a1 m1 c1, .slice a2 m2 c2] w fun e w' => e = .returned (.bool true) ∧ Below w.heap.size w w' := by
  have hpl0 := Lib.hid h0.p.1
  have hwl0 := Lib.hid h0.w.1
  have hpm0 := Lib.hid h0.pn
  have hwm0 := Lib.hid h0.wn
  have H0 := Lib.hid h0
  clear h0
  have hll1 := Lib.hid h1.1
  have H1 := Lib.hid h1
  have Hc1 := Lib.hid hc1
  clear h1 hc1
  rw [show maxLen = 9223372036854775807 from rfl] at hm1
  have hll2 := Lib.hid h2.1
  have H2 := Lib.hid h2
  have Hc2 := Lib.hid hc2
  clear h2 hc2
  rw [show maxLen = 9223372036854775807 from rfl] at hm2
  have hB0 : Below w.heap.size w ((w).alloc (.cells #[.slice aP0 nP0 cP0, .slice aW0 nW0 cW0] 64)) := below_new w _
  have hPB0 := Lib.hid (Pair.new w (.slice aP0 nP0 cP0) (.slice aW0 nW0 cW0) 64)
  by_cases hbig1 : (m1 : Int) > 1048576
  · go_enter Try.func9, Try.ntmps9
    go_wp2_with fail
    go_ret
    exact ⟨rfl, hB0⟩
  have hm2_1 : m1 ≤ 1048576 := by omega
  clear hm1
  have hm3_1 : m1 ≤ 4294967296 := by omega
  by_cases hbig2 : (m2 : Int) > 1048576
  · go_enter Try.func9, Try.ntmps9
    go_wp2_with fail
    go_ret
    exact ⟨rfl, hB0⟩
  have hm2_2 : m2 ≤ 1048576 := by omega
  clear hm2
  have hm3_2 : m2 ≤ 4294967296 := by omega
  have Hspec : Hid (∀ (W : World) (b0 : Option Addr) (d0 : Nat) (e0 : Option Addr) (f0 : Nat) (b1 : Option Addr) (d1 : Nat) (b2 : Option Addr) (d2 : Nat), Tre W b0 nP0 d0 e0 nW0 f0 ps0 ws0 → Ints W b1 m1 l1 → (b1 = none → d1 = 0) → Ints W b2 m2 l2 → (b2 = none → d2 = 0) → Calls Try.prog 80 #[.agg #[.slice b0 nP0 d0, .slice e0 nW0 f0], .slice b1 m1 d1, .slice b2 m2 d2] W fun e w' => ∃ v, e = .returned (.tuple #[v, .bool (twoB ps0 ws0 l1 l2)]) ∧ Own w' W.heap.size v (erlV ps0 ws0 l1 l2 false) ∧ Below W.heap.size W w') := Lib.hid fun W b0 d0 e0 f0 b1 d1 b2 d2 h0' h1' k1' h2' k2' => spec_LaterStop b0 nP0 d0 e0 nW0 f0 ps0 ws0 b1 m1 d1 l1 b2 m2 d2 l2 W h0' h1' k1' hm2_1 h2' k2' hm2_2
  have Himpl : Hid (∀ (W : World) (b0 : Option Addr) (d0 : Nat) (e0 : Option Addr) (f0 : Nat) (b1 : Option Addr) (d1 : Nat) (b2 : Option Addr) (d2 : Nat), Tre W b0 nP0 d0 e0 nW0 f0 ps0 ws0 → Ints W b1 m1 l1 → (b1 = none → d1 = 0) → Ints W b2 m2 l2 → (b2 = none → d2 = 0) → Calls Try.prog 81 #[.agg #[.slice b0 nP0 d0, .slice e0 nW0 f0], .slice b1 m1 d1, .slice b2 m2 d2] W fun e w' => ∃ v, e = .returned (.tuple #[v, .bool (twoB ps0 ws0 l1 l2)]) ∧ Own w' W.heap.size v (erlV ps0 ws0 l1 l2 false) ∧ Below W.heap.size W w') := Lib.hid fun W b0 d0 e0 f0 b1 d1 b2 d2 h0' h1' k1' h2' k2' => impl_LaterStop b0 nP0 d0 e0 nW0 f0 ps0 ws0 b1 m1 d1 l1 b2 m2 d2 l2 W h0' h1' k1' hm2_1 h2' k2' hm2_2
  have hVlen : Hid ((erlV ps0 ws0 l1 l2 false).length ≤ 4294967296) := Lib.hid (Nat.le_trans erl_len (by omega))
  generalize erlV ps0 ws0 l1 l2 false = vV at *
  generalize twoB ps0 ws0 l1 l2 = vB at *
  go_enter Try.func9, Try.ntmps9
  go_wp2_with fail
  generalize (w.alloc (.cells #[.slice aP0 nP0 cP0, .slice aW0 nW0 cW0] 64)) = u0 at *
  have S00 := hB0.size
  have hlt0 := hPB0.out.lt
  refine (laws_szTree _ _ _ _ _ _ _ _ hpm0.out hwm0.out (by omega) (by omega)).mono ?_
  rintro e u1 ⟨⟨z, rfl, hz, hz1, hz2⟩, b1⟩
  have S1 := b1.size
  have B1 := hB0.trans (b1.mono hB0.size)
  have PB_1 := Lib.hid (hPB0.out.below b1)
  by_cases hzn : z < 0
  · clear hz
    go_wp2_with fail
    go_ret
    exact ⟨rfl, B1⟩
  have hz' := hz (by omega)
  have hpn0 := hz'.1
  have hwn0 := hz'.2
  clear hz hz'
  have HA0 : Hid (Tre w aP0 nP0 cP0 aW0 nW0 cW0 ps0 ws0) := Lib.hid (H0.out.tre hpn0 hwn0)
  have cc0 := PB_1.out.c0
  have cd0 := PB_1.out.c1
  go_wp2_with fail
  clear cc0 cd0
  refine (laws_toTree _ _ _ _ _ _ ps0 ws0 _ (HA0.out.below B1)).mono ?_
  rintro e u2 ⟨s0a, s0c, s0e, s0d, rfl, s0o, b2⟩
  have S2 := b2.size
  have B2 := B1.trans (b2.mono B1.size)
  have PB_2 := Lib.hid (PB_1.out.below b2)
  have s0O := Lib.hid s0o
  clear s0o
  have cc0 := PB_2.out.c0
  have cd0 := PB_2.out.c1
  go_wp2_with fail
  clear cc0 cd0
  refine (laws_toIntS _ _ _ l1 _ hm3_1 (H1.out.below B2)).mono ?_
  rintro e u3 ⟨s1v, rfl, s1o, b3⟩
  obtain ⟨s1a, s1c, rfl⟩ := s1o.shape
  rw [hll1.out] at s1o ⊢
  have S3 := b3.size
  have B3 := B2.trans (b3.mono B2.size)
  have PB_3 := Lib.hid (PB_2.out.below b3)
  have s0_3 := Lib.hid (s0O.out.below b3)
  have s1O := Lib.hid s1o
  clear s1o
  have cc0 := PB_3.out.c0
  have cd0 := PB_3.out.c1
  go_wp2_with fail
  clear cc0 cd0
  refine (laws_toIntS _ _ _ l2 _ hm3_2 (H2.out.below B3)).mono ?_
  rintro e u4 ⟨s2v, rfl, s2o, b4⟩
  obtain ⟨s2a, s2c, rfl⟩ := s2o.shape
  rw [hll2.out] at s2o ⊢
  have S4 := b4.size
  have B4 := B3.trans (b4.mono B3.size)
  have PB_4 := Lib.hid (PB_3.out.below b4)
  have s0_4 := Lib.hid (s0_3.out.below b4)
  have s1_4 := Lib.hid (s1O.out.below b4)
  have s2O := Lib.hid s2o
  clear s2o
  have cc0 := PB_4.out.c0
  have cd0 := PB_4.out.c1
  go_wp2_with fail
  clear cc0 cd0
  refine (Hspec.out _ _ _ _ _ _ _ _ _ (s0_4.out.tre hpn0 hwn0) s1_4.out.ints s1_4.out.cap.2.1 s2O.out.ints s2O.out.cap.2.1).mono ?_
  rintro e u5 ⟨r0, rfl, r0o, b5⟩
  have S5 := b5.size
  have B5 := B4.trans (b5.mono B4.size)
  have PB_5 := Lib.hid (PB_4.out.below b5)
  obtain ⟨r0a, r0c, rfl⟩ := r0o.shape
  have r0O := Lib.hid r0o
  clear r0o
  have r0b : Hid (∀ g, (Value.slice r0a vV.length r0c).ownBlock = some g → g < u5.heap.size) := Lib.hid fun g hg => (World.ownsRow.lt r0O.out g hg).2
  have cc0 := PB_5.out.c0
  have cd0 := PB_5.out.c1
  go_wp2_with fail
  clear cc0 cd0
  refine (laws_toTree _ _ _ _ _ _ ps0 ws0 _ (HA0.out.below B5)).mono ?_
  rintro e u6 ⟨x0a, x0c, x0e, x0d, rfl, x0o, b6⟩
  have S6 := b6.size
  have B6 := B5.trans (b6.mono B5.size)
  have PB_6 := Lib.hid (PB_5.out.below b6)
  have r0_6 := Lib.hid (r0O.out.below b6)
  have x0O := Lib.hid x0o
  clear x0o
  have x0b := Lib.hid x0O.out.lt
  have cc0 := PB_6.out.c0
  have cd0 := PB_6.out.c1
  go_wp2_with fail
  clear cc0 cd0
  have X0_0 := Lib.hid (Pair.new u6 (.slice x0a nP0 x0c) (.slice x0e nW0 x0d) 26)
  have SL7 := X0_0.out.lt
  have b7 := below_new u6 (.cells #[.slice x0a nP0 x0c, .slice x0e nW0 x0d] 26)
  have S7 := b7.size
  have B7 := B6.trans (b7.mono B6.size)
  have PB_7 := Lib.hid (PB_6.out.below b7)
  have r0_7 := Lib.hid (r0_6.out.below b7)
  have x0_7 := Lib.hid (x0O.out.below b7)
  generalize (u6.alloc (.cells #[.slice x0a nP0 x0c, .slice x0e nW0 x0d] 26)) = u7 at *
  refine (laws_toIntS _ _ _ l1 _ hm3_1 (H1.out.below B7)).mono ?_
  rintro e u8 ⟨x1v, rfl, x1o, b8⟩
  obtain ⟨x1a, x1c, rfl⟩ := x1o.shape
  rw [hll1.out] at x1o ⊢
  have S8 := b8.size
  have B8 := B7.trans (b8.mono B7.size)
  have PB_8 := Lib.hid (PB_7.out.below b8)
  have r0_8 := Lib.hid (r0_7.out.below b8)
  have x0_8 := Lib.hid (x0_7.out.below b8)
  have PX0_8 := Lib.hid (X0_0.out.below b8)
  have x1O := Lib.hid x1o
  clear x1o
  have x1b : Hid (∀ g, (Value.slice x1a m1 x1c).ownBlock = some g → g < u8.heap.size) := Lib.hid fun g hg => (World.ownsRow.lt x1O.out g hg).2
  have cc0 := PB_8.out.c0
  have cd0 := PB_8.out.c1
  have cc1 := PX0_8.out.c0
  have cd1 := PX0_8.out.c1
  go_wp2_with fail
  clear cc0 cd0
  clear cc1 cd1
  refine (laws_toIntS _ _ _ l2 _ hm3_2 (H2.out.below B8)).mono ?_
  rintro e u9 ⟨x2v, rfl, x2o, b9⟩
  obtain ⟨x2a, x2c, rfl⟩ := x2o.shape
  rw [hll2.out] at x2o ⊢
  have S9 := b9.size
  have B9 := B8.trans (b9.mono B8.size)
  have PB_9 := Lib.hid (PB_8.out.below b9)
  have r0_9 := Lib.hid (r0_8.out.below b9)
  have x0_9 := Lib.hid (x0_8.out.below b9)
  have PX0_9 := Lib.hid (PX0_8.out.below b9)
  have x1_9 := Lib.hid (x1O.out.below b9)
  have x2O := Lib.hid x2o
  clear x2o
  have x2b : Hid (∀ g, (Value.slice x2a m2 x2c).ownBlock = some g → g < u9.heap.size) := Lib.hid fun g hg => (World.ownsRow.lt x2O.out g hg).2
  have cc0 := PB_9.out.c0
  have cd0 := PB_9.out.c1
  have cc1 := PX0_9.out.c0
  have cd1 := PX0_9.out.c1
  go_wp2_with fail
  clear cc0 cd0
  clear cc1 cd1
  refine (Himpl.out _ _ _ _ _ _ _ _ _ (x0_9.out.tre hpn0 hwn0) x1_9.out.ints x1_9.out.cap.2.1 x2O.out.ints x2O.out.cap.2.1).mono ?_
  rintro e u10 ⟨g0, rfl, g0o, b10⟩
  have S10 := b10.size
  have B10 := B9.trans (b10.mono B9.size)
  have PB_10 := Lib.hid (PB_9.out.below b10)
  have r0_10 := Lib.hid (r0_9.out.below b10)
  have x0_10 := Lib.hid (x0_9.out.below b10)
  have PX0_10 := Lib.hid (PX0_9.out.below b10)
  have x1_10 := Lib.hid (x1_9.out.below b10)
  have x2_10 := Lib.hid (x2O.out.below b10)
  obtain ⟨g0a, g0c, rfl⟩ := g0o.shape
  have g0O := Lib.hid g0o
  clear g0o
  have g0b : Hid (∀ g, (Value.slice g0a vV.length g0c).ownBlock = some g → g < u10.heap.size) := Lib.hid fun g hg => (World.ownsRow.lt g0O.out g hg).2
  have cc0 := PB_10.out.c0
  have cd0 := PB_10.out.c1
  have cc1 := PX0_10.out.c0
  have cd1 := PX0_10.out.c1
  go_wp2_with fail
  clear cc0 cd0
  clear cc1 cd1
  have hVl : vV.length ≤ 4294967296 := hVlen.out
  refine (laws_eqIntS _ _ _ _ _ vV _ hVl g0O.out.ints r0_10.out.ints).mono ?_
  rintro e u11 ⟨rfl, b11⟩
  have S11 := b11.size
  have B11 := B10.trans (b11.mono B10.size)
  have PB_11 := Lib.hid (PB_10.out.below b11)
  have r0_11 := Lib.hid (r0_10.out.below b11)
  have x0_11 := Lib.hid (x0_10.out.below b11)
  have PX0_11 := Lib.hid (PX0_10.out.below b11)
  have x1_11 := Lib.hid (x1_10.out.below b11)
  have x2_11 := Lib.hid (x2_10.out.below b11)
  have g0_11 := Lib.hid (g0O.out.below b11)
  have cc0 := PB_11.out.c0
  have cd0 := PB_11.out.c1
  have cc1 := PX0_11.out.c0
  have cd1 := PX0_11.out.c1
  go_wp2_with fail
  clear cc0 cd0
  clear cc1 cd1
  have ra13 := PX0_11.out.c0
  have rb13 := PX0_11.out.c1
  have rc13 := PB_11.out.c0
  have rd13 := PB_11.out.c1
  have hHA13 := Lib.hid (HA0.out.below B11)
  have hHX13 := Lib.hid (x0_11.out.tre hpn0 hwn0)
  go_region_held3 (fun W' => KeepR u11 W' ∧ (W'.cell? ⟨u6.heap.size, 0, none⟩ = some (.slice x0a nP0 x0c) ∧ W'.cell? ⟨u6.heap.size, 1, none⟩ = some (.slice x0e nW0 x0d)) ∧ W'.cell? ⟨w.heap.size, 0, none⟩ = some (.slice aP0 nP0 cP0) ∧ W'.cell? ⟨w.heap.size, 1, none⟩ = some (.slice aW0 nW0 cW0))
    (first | exact keep4 (by assumption) PX0_11.out PB_11.out | exact keep4 (KeepR.start _) PX0_11.out PB_11.out)
    (first
      | (go_at_call 72; refine (laws_toTree _ _ _ _ _ _ ps0 ws0 _ (hHA13.out.below (by assumption : KeepR u11 _ ∧ _).1)).mono ?_; rintro e u12 ⟨ta13, tc13, te13, td13, rfl, to13, hb13⟩; have hk13 := KeepR.next hb13 (by assumption : KeepR u11 _ ∧ _).1)
      | (go_at_call 76; refine (laws_eqTree _ _ _ _ _ _ _ _ _ _ ps0 ws0 _ (hHX13.out.below (by assumption : KeepR u11 _ ∧ _).1) (to13.tre hpn0 hwn0)).mono ?_; rintro e u13 ⟨rfl, hc13⟩; have hl13 := KeepR.next hc13 (by assumption : KeepR u11 _ ∧ _).1))
  have b13 : Below u11.heap.size u11 u13 := hl13
  clear ra13 rb13 rc13 rd13
  have S13 := b13.size
  have B13 := B11.trans (b13.mono B11.size)
  have PB_13 := Lib.hid (PB_11.out.below b13)
  have r0_13 := Lib.hid (r0_11.out.below b13)
  have x0_13 := Lib.hid (x0_11.out.below b13)
  have PX0_13 := Lib.hid (PX0_11.out.below b13)
  have x1_13 := Lib.hid (x1_11.out.below b13)
  have x2_13 := Lib.hid (x2_11.out.below b13)
  have g0_13 := Lib.hid (g0_11.out.below b13)
  have cc0 := PB_13.out.c0
  have cd0 := PB_13.out.c1
  have cc1 := PX0_13.out.c0
  have cd1 := PX0_13.out.c1
  go_wp2_with fail
  clear cc0 cd0
  clear cc1 cd1
  refine (laws_toIntS _ _ _ l1 _ hm3_1 (H1.out.below B13)).mono ?_
  rintro e u14 ⟨y1v, rfl, y1o, b14⟩
  obtain ⟨y1a, y1c, rfl⟩ := y1o.shape
  rw [hll1.out] at y1o ⊢
  have S14 := b14.size
  have B14 := B13.trans (b14.mono B13.size)
  have PB_14 := Lib.hid (PB_13.out.below b14)
  have r0_14 := Lib.hid (r0_13.out.below b14)
  have x0_14 := Lib.hid (x0_13.out.below b14)
  have PX0_14 := Lib.hid (PX0_13.out.below b14)
  have x1_14 := Lib.hid (x1_13.out.below b14)
  have x2_14 := Lib.hid (x2_13.out.below b14)
  have g0_14 := Lib.hid (g0_13.out.below b14)
  have y1O := Lib.hid y1o
  clear y1o
  have cc0 := PB_14.out.c0
  have cd0 := PB_14.out.c1
  have cc1 := PX0_14.out.c0
  have cd1 := PX0_14.out.c1
  go_wp2_with fail
  clear cc0 cd0
  clear cc1 cd1
  refine (laws_eqIntS _ _ _ _ _ l1 _ hm3_1 x1_14.out.ints y1O.out.ints).mono ?_
  rintro e u15 ⟨rfl, b15⟩
  have S15 := b15.size
  have B15 := B14.trans (b15.mono B14.size)
  have PB_15 := Lib.hid (PB_14.out.below b15)
  have r0_15 := Lib.hid (r0_14.out.below b15)
  have x0_15 := Lib.hid (x0_14.out.below b15)
  have PX0_15 := Lib.hid (PX0_14.out.below b15)
  have x1_15 := Lib.hid (x1_14.out.below b15)
  have x2_15 := Lib.hid (x2_14.out.below b15)
  have g0_15 := Lib.hid (g0_14.out.below b15)
  have cc0 := PB_15.out.c0
  have cd0 := PB_15.out.c1
  have cc1 := PX0_15.out.c0
  have cd1 := PX0_15.out.c1
  go_wp2_with fail
  clear cc0 cd0
  clear cc1 cd1
  refine (laws_toIntS _ _ _ l2 _ hm3_2 (H2.out.below B15)).mono ?_
  rintro e u16 ⟨y2v, rfl, y2o, b16⟩
  obtain ⟨y2a, y2c, rfl⟩ := y2o.shape
  rw [hll2.out] at y2o ⊢
  have S16 := b16.size
  have B16 := B15.trans (b16.mono B15.size)
  have PB_16 := Lib.hid (PB_15.out.below b16)
  have r0_16 := Lib.hid (r0_15.out.below b16)
  have x0_16 := Lib.hid (x0_15.out.below b16)
  have PX0_16 := Lib.hid (PX0_15.out.below b16)
  have x1_16 := Lib.hid (x1_15.out.below b16)
  have x2_16 := Lib.hid (x2_15.out.below b16)
  have g0_16 := Lib.hid (g0_15.out.below b16)
  have y2O := Lib.hid y2o
  clear y2o
  have cc0 := PB_16.out.c0
  have cd0 := PB_16.out.c1
  have cc1 := PX0_16.out.c0
  have cd1 := PX0_16.out.c1
  go_wp2_with fail
  clear cc0 cd0
  clear cc1 cd1
  refine (laws_eqIntS _ _ _ _ _ l2 _ hm3_2 x2_16.out.ints y2O.out.ints).mono ?_
  rintro e u17 ⟨rfl, b17⟩
  have S17 := b17.size
  have B17 := B16.trans (b17.mono B16.size)
  have PB_17 := Lib.hid (PB_16.out.below b17)
  have r0_17 := Lib.hid (r0_16.out.below b17)
  have x0_17 := Lib.hid (x0_16.out.below b17)
  have PX0_17 := Lib.hid (PX0_16.out.below b17)
  have x1_17 := Lib.hid (x1_16.out.below b17)
  have x2_17 := Lib.hid (x2_16.out.below b17)
  have g0_17 := Lib.hid (g0_16.out.below b17)
  have cc0 := PB_17.out.c0
  have cd0 := PB_17.out.c1
  have cc1 := PX0_17.out.c0
  have cd1 := PX0_17.out.c1
  go_wp2_with fail
  clear cc0 cd0
  clear cc1 cd1
  refine (laws_markTree u5.heap.size u6.heap.size u5.heap.size _ _ _ _ _ _ _ _ _ _ hpn0 hwn0 (by omega) (by omega) x0_17.out (Nat.le_refl _) (.inr ⟨fun g hg => (x0b.out.1 g hg).2, fun g hg => (x0b.out.2 g hg).2⟩)).mono ?_
  rintro e u18 ⟨rfl, ho18, -⟩
  have S18 := ho18.size
  have hlo18 := ho18.below (show u5.heap.size ≤ u17.heap.size by omega)
  have B18 := B17.trans (hlo18.mono (by omega))
  have PB_18 := Lib.hid (PB_17.out.only ho18 (.inl (by omega)))
  have r0_18 := Lib.hid (r0_17.out.only ho18 (fun g hg => .inl (by have := r0b.out g hg; omega)))
  have PX0_18 := Lib.hid (PX0_17.out.only ho18 (by omega))
  have x1_18 := Lib.hid (x1_17.out.only ho18 (fun g hg => .inr (by have := (World.ownsRow.lt x1_17.out g hg).1; omega)))
  have x2_18 := Lib.hid (x2_17.out.only ho18 (fun g hg => .inr (by have := (World.ownsRow.lt x2_17.out g hg).1; omega)))
  have g0_18 := Lib.hid (g0_17.out.only ho18 (fun g hg => .inr (by have := (World.ownsRow.lt g0_17.out g hg).1; omega)))
  have cc0 := PB_18.out.c0
  have cd0 := PB_18.out.c1
  have cc1 := PX0_18.out.c0
  have cd1 := PX0_18.out.c1
  go_wp2_with fail
  clear cc0 cd0
  clear cc1 cd1
  refine (laws_markIntS u7.heap.size _ _ _ _ l1 _ hm3_1 (by omega) (by omega) x1_18.out).mono ?_
  rintro e u19 ⟨rfl, -, hg19⟩
  have ho19 : Only (u7.heap.size) (u8.heap.size) u18 u19 := Only.of_grown hg19 fun g hg => ⟨(World.ownsRow.lt x1_18.out g hg).1, x1b.out g hg⟩
  have S19 := ho19.size
  have hlo19 := ho19.below (show u7.heap.size ≤ u18.heap.size by omega)
  have B19 := B18.trans (hlo19.mono (by omega))
  have PB_19 := Lib.hid (PB_18.out.only ho19 (.inl (by omega)))
  have r0_19 := Lib.hid (r0_18.out.only ho19 (fun g hg => .inl (by have := r0b.out g hg; omega)))
  have PX0_19 := Lib.hid (PX0_18.out.only ho19 (by omega))
  have x2_19 := Lib.hid (x2_18.out.only ho19 (fun g hg => .inr (by have := (World.ownsRow.lt x2_18.out g hg).1; omega)))
  have g0_19 := Lib.hid (g0_18.out.only ho19 (fun g hg => .inr (by have := (World.ownsRow.lt g0_18.out g hg).1; omega)))
  have cc0 := PB_19.out.c0
  have cd0 := PB_19.out.c1
  have cc1 := PX0_19.out.c0
  have cd1 := PX0_19.out.c1
  go_wp2_with fail
  clear cc0 cd0
  clear cc1 cd1
  refine (laws_markIntS u8.heap.size _ _ _ _ l2 _ hm3_2 (by omega) (by omega) x2_19.out).mono ?_
  rintro e u20 ⟨rfl, -, hg20⟩
  have ho20 : Only (u8.heap.size) (u9.heap.size) u19 u20 := Only.of_grown hg20 fun g hg => ⟨(World.ownsRow.lt x2_19.out g hg).1, x2b.out g hg⟩
  have S20 := ho20.size
  have hlo20 := ho20.below (show u8.heap.size ≤ u19.heap.size by omega)
  have B20 := B19.trans (hlo20.mono (by omega))
  have PB_20 := Lib.hid (PB_19.out.only ho20 (.inl (by omega)))
  have r0_20 := Lib.hid (r0_19.out.only ho20 (fun g hg => .inl (by have := r0b.out g hg; omega)))
  have PX0_20 := Lib.hid (PX0_19.out.only ho20 (by omega))
  have g0_20 := Lib.hid (g0_19.out.only ho20 (fun g hg => .inr (by have := (World.ownsRow.lt g0_19.out g hg).1; omega)))
  have cc0 := PB_20.out.c0
  have cd0 := PB_20.out.c1
  have cc1 := PX0_20.out.c0
  have cd1 := PX0_20.out.c1
  go_wp2_with fail
  clear cc0 cd0
  clear cc1 cd1
  refine (laws_eqIntS _ _ _ _ _ vV _ hVl g0_20.out.ints r0_20.out.ints).mono ?_
  rintro e u21 ⟨rfl, b21⟩
  have S21 := b21.size
  have B21 := B20.trans (b21.mono B20.size)
  have PB_21 := Lib.hid (PB_20.out.below b21)
  have r0_21 := Lib.hid (r0_20.out.below b21)
  have PX0_21 := Lib.hid (PX0_20.out.below b21)
  have g0_21 := Lib.hid (g0_20.out.below b21)
  have cc0 := PB_21.out.c0
  have cd0 := PB_21.out.c1
  have cc1 := PX0_21.out.c0
  have cd1 := PX0_21.out.c1
  go_wp2_with fail
  clear cc0 cd0
  clear cc1 cd1
  refine (laws_markIntS u9.heap.size _ _ _ _ vV _ hVl (by omega) (by omega) g0_21.out).mono ?_
  rintro e u22 ⟨rfl, gO22, hg22⟩
  have ho22 : Only (u9.heap.size) (u10.heap.size) u21 u22 := Only.of_grown hg22 fun g hg => ⟨(World.ownsRow.lt g0_21.out g hg).1, g0b.out g hg⟩
  have S22 := ho22.size
  have hlo22 := ho22.below (show u9.heap.size ≤ u21.heap.size by omega)
  have B22 := B21.trans (hlo22.mono (by omega))
  have PB_22 := Lib.hid (PB_21.out.only ho22 (.inl (by omega)))
  have r0_22 := Lib.hid (r0_21.out.only ho22 (fun g hg => .inl (by have := r0b.out g hg; omega)))
  have PX0_22 := Lib.hid (PX0_21.out.only ho22 (by omega))
  have gm22 := Lib.hid gO22
  clear gO22
  have cc0 := PB_22.out.c0
  have cd0 := PB_22.out.c1
  have cc1 := PX0_22.out.c0
  have cd1 := PX0_22.out.c1
  go_wp2_with fail
  clear cc0 cd0
  clear cc1 cd1
  refine (laws_heldIntS _ _ _ _ _ hVl (by omega) (by omega) gm22.out.ints).mono ?_
  rintro e wq ⟨rfl, rfl⟩
  have cc0 := PB_22.out.c0
  have cd0 := PB_22.out.c1
  have cc1 := PX0_22.out.c0
  have cd1 := PX0_22.out.c1
  go_wp2_with fail
  clear cc0 cd0
  clear cc1 cd1
  refine (laws_toTree _ _ _ _ _ _ ps0 ws0 _ (HA0.out.below B22)).mono ?_
  rintro e u23 ⟨z0a, z0c, z0e, z0d, rfl, z0o, b23⟩
  have S23 := b23.size
  have B23 := B22.trans (b23.mono B22.size)
  have PB_23 := Lib.hid (PB_22.out.below b23)
  have r0_23 := Lib.hid (r0_22.out.below b23)
  have PX0_23 := Lib.hid (PX0_22.out.below b23)
  have gm_23 := Lib.hid (gm22.out.below b23)
  have z0O := Lib.hid z0o
  clear z0o
  have cc0 := PB_23.out.c0
  have cd0 := PB_23.out.c1
  have cc1 := PX0_23.out.c0
  have cd1 := PX0_23.out.c1
  go_wp2_with fail
  clear cc0 cd0
  clear cc1 cd1
  refine (laws_toIntS _ _ _ l1 _ hm3_1 (H1.out.below B23)).mono ?_
  rintro e u24 ⟨z1v, rfl, z1o, b24⟩
  obtain ⟨z1a, z1c, rfl⟩ := z1o.shape
  rw [hll1.out] at z1o ⊢
  have S24 := b24.size
  have B24 := B23.trans (b24.mono B23.size)
  have PB_24 := Lib.hid (PB_23.out.below b24)
  have r0_24 := Lib.hid (r0_23.out.below b24)
  have PX0_24 := Lib.hid (PX0_23.out.below b24)
  have gm_24 := Lib.hid (gm_23.out.below b24)
  have z0_24 := Lib.hid (z0O.out.below b24)
  have z1O := Lib.hid z1o
  clear z1o
  have cc0 := PB_24.out.c0
  have cd0 := PB_24.out.c1
  have cc1 := PX0_24.out.c0
  have cd1 := PX0_24.out.c1
  go_wp2_with fail
  clear cc0 cd0
  clear cc1 cd1
  refine (laws_toIntS _ _ _ l2 _ hm3_2 (H2.out.below B24)).mono ?_
  rintro e u25 ⟨z2v, rfl, z2o, b25⟩
  obtain ⟨z2a, z2c, rfl⟩ := z2o.shape
  rw [hll2.out] at z2o ⊢
  have S25 := b25.size
  have B25 := B24.trans (b25.mono B24.size)
  have PB_25 := Lib.hid (PB_24.out.below b25)
  have r0_25 := Lib.hid (r0_24.out.below b25)
  have PX0_25 := Lib.hid (PX0_24.out.below b25)
  have gm_25 := Lib.hid (gm_24.out.below b25)
  have z0_25 := Lib.hid (z0_24.out.below b25)
  have z1_25 := Lib.hid (z1O.out.below b25)
  have z2O := Lib.hid z2o
  clear z2o
  have cc0 := PB_25.out.c0
  have cd0 := PB_25.out.c1
  have cc1 := PX0_25.out.c0
  have cd1 := PX0_25.out.c1
  go_wp2_with fail
  clear cc0 cd0
  clear cc1 cd1
  refine (Himpl.out _ _ _ _ _ _ _ _ _ (z0_25.out.tre hpn0 hwn0) z1_25.out.ints z1_25.out.cap.2.1 z2O.out.ints z2O.out.cap.2.1).mono ?_
  rintro e u26 ⟨h0, rfl, h0o, b26⟩
  have S26 := b26.size
  have B26 := B25.trans (b26.mono B25.size)
  have PB_26 := Lib.hid (PB_25.out.below b26)
  have r0_26 := Lib.hid (r0_25.out.below b26)
  have PX0_26 := Lib.hid (PX0_25.out.below b26)
  have gm_26 := Lib.hid (gm_25.out.below b26)
  obtain ⟨h0a, h0c, rfl⟩ := h0o.shape
  have h0O := Lib.hid h0o
  clear h0o
  have cc0 := PB_26.out.c0
  have cd0 := PB_26.out.c1
  have cc1 := PX0_26.out.c0
  have cd1 := PX0_26.out.c1
  go_wp2_with fail
  clear cc0 cd0
  clear cc1 cd1
  refine (laws_eqIntS _ _ _ _ _ vV _ hVl h0O.out.ints r0_26.out.ints).mono ?_
  rintro e u27 ⟨rfl, b27⟩
  have S27 := b27.size
  have B27 := B26.trans (b27.mono B26.size)
  have PB_27 := Lib.hid (PB_26.out.below b27)
  have r0_27 := Lib.hid (r0_26.out.below b27)
  have PX0_27 := Lib.hid (PX0_26.out.below b27)
  have gm_27 := Lib.hid (gm_26.out.below b27)
  have h0_27 := Lib.hid (h0O.out.below b27)
  have cc0 := PB_27.out.c0
  have cd0 := PB_27.out.c1
  have cc1 := PX0_27.out.c0
  have cd1 := PX0_27.out.c1
  go_wp2_with fail
  clear cc0 cd0
  clear cc1 cd1
  refine (laws_heldIntS _ _ _ _ _ hVl (by omega) (by omega) gm_27.out.ints).mono ?_
  rintro e wq ⟨rfl, rfl⟩
  have cc0 := PB_27.out.c0
  have cd0 := PB_27.out.c1
  have cc1 := PX0_27.out.c0
  have cd1 := PX0_27.out.c1
  go_wp2_with fail
  clear cc0 cd0
  clear cc1 cd1
  go_ret
  exact ⟨rfl, B27⟩
end Go.Proofs.Ytnbomleieianoaa.fnExactLaterStop
