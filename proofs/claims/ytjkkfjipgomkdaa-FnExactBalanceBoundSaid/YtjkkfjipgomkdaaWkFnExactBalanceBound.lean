/- The walk through the law FnExactBalanceBound: it returns true. No conditions but that the arguments can be read. -/
import Derived.Test.YtjkkfjipgomkdaaBB
import Derived.Test.YtjkkfjipgomkdaaLawT
import Derived.Test.YtjkkfjipgomkdaaOpenT
import Derived.Test.YtjkkfjipgomkdaaLawA2
namespace Go.Proofs.Ytjkkfjipgomkdaa.fnExactBalanceBound
open Go.RowKit
set_option linter.unusedVariables false
set_option maxRecDepth 100000 in
set_option maxHeartbeats 4000000 in
theorem walk (aP0 : Option Addr) (nP0 cP0 : Nat) (aW0 : Option Addr) (nW0 cW0 : Nat) (ps0 ws0 : List Int) (a1 : Option Addr) (m1 c1 : Nat) (l1 : List Int) (a2 : Option Addr) (m2 c2 : Nat) (l2 : List Int)  (w : World) (h0 : TreA w aP0 nP0 cP0 aW0 nW0 cW0 ps0 ws0) (hm1 : m1 ≤ maxLen) (hc1 : m1 ≤ c1 ∧ c1 ≤ maxLen ∧ (a1 = none → c1 = 0)) (h1 : Ints w a1 m1 l1) (hm2 : m2 ≤ maxLen) (hc2 : m2 ≤ c2 ∧ c2 ≤ maxLen ∧ (a2 = none → c2 = 0)) (h2 : Ints w a2 m2 l2) :
    Calls Try.prog 9 #[.agg #[.slice aP0 nP0 cP0, .slice aW0 nW0 cW0], .slice a1 m1 c1, .slice a2 m2 c2] w fun e w' => e = .returned (.bool true) ∧ Below w.heap.size w w' := by
  have hpl0 := Lib.hid h0.p.1
  have hwl0 := Lib.hid h0.w.1
  have hpm0 := Lib.hid h0.pn
  have hwm0 := Lib.hid h0.wn
  have H0 := Lib.hid h0
  clear h0
  have hll1 := Lib.hid h1.1
  have H1 := Lib.hid h1
  have Hc1 := Lib.hid hc1
  clear h1 hc1
  rw [show maxLen = 9223372036854775807 from rfl] at hm1
  have hll2 := Lib.hid h2.1
  have H2 := Lib.hid h2
  have Hc2 := Lib.hid hc2
  clear h2 hc2
  rw [show maxLen = 9223372036854775807 from rfl] at hm2
  have hB0 : Below w.heap.size w ((w).alloc (.cells #[.slice aP0 nP0 cP0, .slice aW0 nW0 cW0] 24)) := below_new w _
  have hPB0 := Lib.hid (Pair.new w (.slice aP0 nP0 cP0) (.slice aW0 nW0 cW0) 24)
  by_cases hbig1 : (m1 : Int) > 1048576
  · go_enter Try.func9, Try.ntmps9
    go_wp2_with fail
    go_ret
    exact ⟨rfl, hB0⟩
  have hm2_1 : m1 ≤ 1048576 := by omega
  clear hm1
  have hm3_1 : m1 ≤ 4294967296 := by omega
  by_cases hbig2 : (m2 : Int) > 1048576
  · go_enter Try.func9, Try.ntmps9
    go_wp2_with fail
    go_ret
    exact ⟨rfl, hB0⟩
  have hm2_2 : m2 ≤ 1048576 := by omega
  clear hm2
  have hm3_2 : m2 ≤ 4294967296 := by omega
  have Hspec : Hid (∀ (W : World) (b0 : Option Addr) (d0 : Nat) (e0 : Option Addr) (f0 : Nat) (b1 : Option Addr) (d1 : Nat) (b2 : Option Addr) (d2 : Nat), Tre W b0 nP0 d0 e0 nW0 f0 ps0 ws0 → Ints W b1 m1 l1 → (b1 = none → d1 = 0) → Ints W b2 m2 l2 → (b2 = none → d2 = 0) → Calls Try.prog 39 #[.agg #[.slice b0 nP0 d0, .slice e0 nW0 f0], .slice b1 m1 d1, .slice b2 m2 d2] W fun e w' => e = .returned (.tuple #[.agg #[.int .i64 (boN (bbB ps0 ws0 l1 l2) ps0 ws0 l1 l2), .int .i64 (boD (bbB ps0 ws0 l1 l2) ps0 ws0 l1 l2)], .bool (bbB ps0 ws0 l1 l2)]) ∧ Below W.heap.size W w') := Lib.hid fun W b0 d0 e0 f0 b1 d1 b2 d2 h0' h1' k1' h2' k2' => spec_BalanceBound b0 nP0 d0 e0 nW0 f0 ps0 ws0 b1 m1 d1 l1 b2 m2 d2 l2 W h0' h1' k1' hm2_1 h2' k2' hm2_2
  have Himpl : Hid (∀ (W : World) (b0 : Option Addr) (d0 : Nat) (e0 : Option Addr) (f0 : Nat) (b1 : Option Addr) (d1 : Nat) (b2 : Option Addr) (d2 : Nat), Tre W b0 nP0 d0 e0 nW0 f0 ps0 ws0 → Ints W b1 m1 l1 → (b1 = none → d1 = 0) → Ints W b2 m2 l2 → (b2 = none → d2 = 0) → Calls Try.prog 40 #[.agg #[.slice b0 nP0 d0, .slice e0 nW0 f0], .slice b1 m1 d1, .slice b2 m2 d2] W fun e w' => e = .returned (.tuple #[.agg #[.int .i64 (boN (bbB ps0 ws0 l1 l2) ps0 ws0 l1 l2), .int .i64 (boD (bbB ps0 ws0 l1 l2) ps0 ws0 l1 l2)], .bool (bbB ps0 ws0 l1 l2)]) ∧ Below W.heap.size W w') := Lib.hid fun W b0 d0 e0 f0 b1 d1 b2 d2 h0' h1' k1' h2' k2' => impl_BalanceBound b0 nP0 d0 e0 nW0 f0 ps0 ws0 b1 m1 d1 l1 b2 m2 d2 l2 W h0' h1' k1' hm2_1 h2' k2' hm2_2
  generalize boN (bbB ps0 ws0 l1 l2) ps0 ws0 l1 l2 = vX at *
  generalize boD (bbB ps0 ws0 l1 l2) ps0 ws0 l1 l2 = vY at *
  generalize bbB ps0 ws0 l1 l2 = vB at *
  go_enter Try.func9, Try.ntmps9
  go_wp2_with fail
  generalize (w.alloc (.cells #[.slice aP0 nP0 cP0, .slice aW0 nW0 cW0] 24)) = u0 at *
  have S00 := hB0.size
  have hlt0 := hPB0.out.lt
  refine (laws_szTree _ _ _ _ _ _ _ _ hpm0.out hwm0.out (by omega) (by omega)).mono ?_
  rintro e u1 ⟨⟨z, rfl, hz, hz1, hz2⟩, b1⟩
  have S1 := b1.size
  have B1 := hB0.trans (b1.mono hB0.size)
  have PB_1 := Lib.hid (hPB0.out.below b1)
  by_cases hzn : z < 0
  · clear hz
    go_wp2_with fail
    go_ret
    exact ⟨rfl, B1⟩
  have hz' := hz (by omega)
  have hpn0 := hz'.1
  have hwn0 := hz'.2
  clear hz hz'
  have HA0 : Hid (Tre w aP0 nP0 cP0 aW0 nW0 cW0 ps0 ws0) := Lib.hid (H0.out.tre hpn0 hwn0)
  have cc0 := PB_1.out.c0
  have cd0 := PB_1.out.c1
  go_wp2_with fail
  clear cc0 cd0
  refine (laws_toTree _ _ _ _ _ _ ps0 ws0 _ (HA0.out.below B1)).mono ?_
  rintro e u2 ⟨s0a, s0c, s0e, s0d, rfl, s0o, b2⟩
  have S2 := b2.size
  have B2 := B1.trans (b2.mono B1.size)
  have PB_2 := Lib.hid (PB_1.out.below b2)
  have s0O := Lib.hid s0o
  clear s0o
  have cc0 := PB_2.out.c0
  have cd0 := PB_2.out.c1
  go_wp2_with fail
  clear cc0 cd0
  refine (laws_toIntS _ _ _ l1 _ hm3_1 (H1.out.below B2)).mono ?_
  rintro e u3 ⟨s1v, rfl, s1o, b3⟩
  obtain ⟨s1a, s1c, rfl⟩ := s1o.shape
  rw [hll1.out] at s1o ⊢
  have S3 := b3.size
  have B3 := B2.trans (b3.mono B2.size)
  have PB_3 := Lib.hid (PB_2.out.below b3)
  have s0_3 := Lib.hid (s0O.out.below b3)
  have s1O := Lib.hid s1o
  clear s1o
  have cc0 := PB_3.out.c0
  have cd0 := PB_3.out.c1
  go_wp2_with fail
  clear cc0 cd0
  refine (laws_toIntS _ _ _ l2 _ hm3_2 (H2.out.below B3)).mono ?_
  rintro e u4 ⟨s2v, rfl, s2o, b4⟩
  obtain ⟨s2a, s2c, rfl⟩ := s2o.shape
  rw [hll2.out] at s2o ⊢
  have S4 := b4.size
  have B4 := B3.trans (b4.mono B3.size)
  have PB_4 := Lib.hid (PB_3.out.below b4)
  have s0_4 := Lib.hid (s0_3.out.below b4)
  have s1_4 := Lib.hid (s1O.out.below b4)
  have s2O := Lib.hid s2o
  clear s2o
  have cc0 := PB_4.out.c0
  have cd0 := PB_4.out.c1
  go_wp2_with fail
  clear cc0 cd0
  refine (Hspec.out _ _ _ _ _ _ _ _ _ (s0_4.out.tre hpn0 hwn0) s1_4.out.ints s1_4.out.cap.2.1 s2O.out.ints s2O.out.cap.2.1).mono ?_
  rintro e u5 ⟨rfl, b5⟩
  have S5 := b5.size
  have B5 := B4.trans (b5.mono B4.size)
  have PB_5 := Lib.hid (PB_4.out.below b5)
  have R0_0 := Lib.hid (Pair.new u5 (.int .i64 vX) (.int .i64 vY) 34)
  have SL6 := R0_0.out.lt
  have b6 := below_new u5 (.cells #[.int .i64 vX, .int .i64 vY] 34)
  have S6 := b6.size
  have B6 := B5.trans (b6.mono B5.size)
  have PB_6 := Lib.hid (PB_5.out.below b6)
  have cc0 := PB_6.out.c0
  have cd0 := PB_6.out.c1
  have cc1 := R0_0.out.c0
  have cd1 := R0_0.out.c1
  go_wp2_with fail
  clear cc0 cd0
  clear cc1 cd1
  generalize (u5.alloc (.cells #[.int .i64 vX, .int .i64 vY] 34)) = u6 at *
  refine (laws_toTree _ _ _ _ _ _ ps0 ws0 _ (HA0.out.below B6)).mono ?_
  rintro e u7 ⟨x0a, x0c, x0e, x0d, rfl, x0o, b7⟩
  have S7 := b7.size
  have B7 := B6.trans (b7.mono B6.size)
  have PB_7 := Lib.hid (PB_6.out.below b7)
  have PR0_7 := Lib.hid (R0_0.out.below b7)
  have x0O := Lib.hid x0o
  clear x0o
  have x0b := Lib.hid x0O.out.lt
  have cc0 := PB_7.out.c0
  have cd0 := PB_7.out.c1
  have cc1 := PR0_7.out.c0
  have cd1 := PR0_7.out.c1
  go_wp2_with fail
  clear cc0 cd0
  clear cc1 cd1
  have X0_0 := Lib.hid (Pair.new u7 (.slice x0a nP0 x0c) (.slice x0e nW0 x0d) 28)
  have SL8 := X0_0.out.lt
  have b8 := below_new u7 (.cells #[.slice x0a nP0 x0c, .slice x0e nW0 x0d] 28)
  have S8 := b8.size
  have B8 := B7.trans (b8.mono B7.size)
  have PB_8 := Lib.hid (PB_7.out.below b8)
  have PR0_8 := Lib.hid (PR0_7.out.below b8)
  have x0_8 := Lib.hid (x0O.out.below b8)
  generalize (u7.alloc (.cells #[.slice x0a nP0 x0c, .slice x0e nW0 x0d] 28)) = u8 at *
  refine (laws_toIntS _ _ _ l1 _ hm3_1 (H1.out.below B8)).mono ?_
  rintro e u9 ⟨x1v, rfl, x1o, b9⟩
  obtain ⟨x1a, x1c, rfl⟩ := x1o.shape
  rw [hll1.out] at x1o ⊢
  have S9 := b9.size
  have B9 := B8.trans (b9.mono B8.size)
  have PB_9 := Lib.hid (PB_8.out.below b9)
  have PR0_9 := Lib.hid (PR0_8.out.below b9)
  have x0_9 := Lib.hid (x0_8.out.below b9)
  have PX0_9 := Lib.hid (X0_0.out.below b9)
  have x1O := Lib.hid x1o
  clear x1o
  have x1b : Hid (∀ g, (Value.slice x1a m1 x1c).ownBlock = some g → g < u9.heap.size) := Lib.hid fun g hg => (World.ownsRow.lt x1O.out g hg).2
  have cc0 := PB_9.out.c0
  have cd0 := PB_9.out.c1
  have cc1 := PR0_9.out.c0
  have cd1 := PR0_9.out.c1
  have cc2 := PX0_9.out.c0
  have cd2 := PX0_9.out.c1
  go_wp2_with fail
  clear cc0 cd0
  clear cc1 cd1
  clear cc2 cd2
  refine (laws_toIntS _ _ _ l2 _ hm3_2 (H2.out.below B9)).mono ?_
  rintro e u10 ⟨x2v, rfl, x2o, b10⟩
  obtain ⟨x2a, x2c, rfl⟩ := x2o.shape
  rw [hll2.out] at x2o ⊢
  have S10 := b10.size
  have B10 := B9.trans (b10.mono B9.size)
  have PB_10 := Lib.hid (PB_9.out.below b10)
  have PR0_10 := Lib.hid (PR0_9.out.below b10)
  have x0_10 := Lib.hid (x0_9.out.below b10)
  have PX0_10 := Lib.hid (PX0_9.out.below b10)
  have x1_10 := Lib.hid (x1O.out.below b10)
  have x2O := Lib.hid x2o
  clear x2o
  have x2b : Hid (∀ g, (Value.slice x2a m2 x2c).ownBlock = some g → g < u10.heap.size) := Lib.hid fun g hg => (World.ownsRow.lt x2O.out g hg).2
  have cc0 := PB_10.out.c0
  have cd0 := PB_10.out.c1
  have cc1 := PR0_10.out.c0
  have cd1 := PR0_10.out.c1
  have cc2 := PX0_10.out.c0
  have cd2 := PX0_10.out.c1
  go_wp2_with fail
  clear cc0 cd0
  clear cc1 cd1
  clear cc2 cd2
  refine (Himpl.out _ _ _ _ _ _ _ _ _ (x0_10.out.tre hpn0 hwn0) x1_10.out.ints x1_10.out.cap.2.1 x2O.out.ints x2O.out.cap.2.1).mono ?_
  rintro e u11 ⟨rfl, b11⟩
  have S11 := b11.size
  have B11 := B10.trans (b11.mono B10.size)
  have PB_11 := Lib.hid (PB_10.out.below b11)
  have PR0_11 := Lib.hid (PR0_10.out.below b11)
  have x0_11 := Lib.hid (x0_10.out.below b11)
  have PX0_11 := Lib.hid (PX0_10.out.below b11)
  have x1_11 := Lib.hid (x1_10.out.below b11)
  have x2_11 := Lib.hid (x2O.out.below b11)
  have G0_0 := Lib.hid (Pair.new u11 (.int .i64 vX) (.int .i64 vY) 34)
  have SL12 := G0_0.out.lt
  have b12 := below_new u11 (.cells #[.int .i64 vX, .int .i64 vY] 34)
  have S12 := b12.size
  have B12 := B11.trans (b12.mono B11.size)
  have PB_12 := Lib.hid (PB_11.out.below b12)
  have PR0_12 := Lib.hid (PR0_11.out.below b12)
  have x0_12 := Lib.hid (x0_11.out.below b12)
  have PX0_12 := Lib.hid (PX0_11.out.below b12)
  have x1_12 := Lib.hid (x1_11.out.below b12)
  have x2_12 := Lib.hid (x2_11.out.below b12)
  have cc0 := PB_12.out.c0
  have cd0 := PB_12.out.c1
  have cc1 := PR0_12.out.c0
  have cd1 := PR0_12.out.c1
  have cc2 := PX0_12.out.c0
  have cd2 := PX0_12.out.c1
  have cc3 := G0_0.out.c0
  have cd3 := G0_0.out.c1
  go_wp2_with fail
  clear cc0 cd0
  clear cc1 cd1
  clear cc2 cd2
  clear cc3 cd3
  generalize (u11.alloc (.cells #[.int .i64 vX, .int .i64 vY] 34)) = u12 at *
  refine (laws_eqIntA2 _ _ _).mono ?_
  rintro e u13 ⟨rfl, b13⟩
  have S13 := b13.size
  have B13 := B12.trans (b13.mono B12.size)
  have PB_13 := Lib.hid (PB_12.out.below b13)
  have PR0_13 := Lib.hid (PR0_12.out.below b13)
  have x0_13 := Lib.hid (x0_12.out.below b13)
  have PX0_13 := Lib.hid (PX0_12.out.below b13)
  have x1_13 := Lib.hid (x1_12.out.below b13)
  have x2_13 := Lib.hid (x2_12.out.below b13)
  have PG0_13 := Lib.hid (G0_0.out.below b13)
  have cc0 := PB_13.out.c0
  have cd0 := PB_13.out.c1
  have cc1 := PR0_13.out.c0
  have cd1 := PR0_13.out.c1
  have cc2 := PX0_13.out.c0
  have cd2 := PX0_13.out.c1
  have cc3 := PG0_13.out.c0
  have cd3 := PG0_13.out.c1
  go_wp2_with fail
  clear cc0 cd0
  clear cc1 cd1
  clear cc2 cd2
  clear cc3 cd3
  have ra15 := PX0_13.out.c0
  have rb15 := PX0_13.out.c1
  have rc15 := PB_13.out.c0
  have rd15 := PB_13.out.c1
  have hHA15 := Lib.hid (HA0.out.below B13)
  have hHX15 := Lib.hid (x0_13.out.tre hpn0 hwn0)
  go_region_held3 (fun W' => KeepR u13 W' ∧ (W'.cell? ⟨u7.heap.size, 0, none⟩ = some (.slice x0a nP0 x0c) ∧ W'.cell? ⟨u7.heap.size, 1, none⟩ = some (.slice x0e nW0 x0d)) ∧ W'.cell? ⟨w.heap.size, 0, none⟩ = some (.slice aP0 nP0 cP0) ∧ W'.cell? ⟨w.heap.size, 1, none⟩ = some (.slice aW0 nW0 cW0))
    (first | exact keep4 (by assumption) PX0_13.out PB_13.out | exact keep4 (KeepR.start _) PX0_13.out PB_13.out)
    (first
      | (go_at_call 17; refine (laws_toTree _ _ _ _ _ _ ps0 ws0 _ (hHA15.out.below (by assumption : KeepR u13 _ ∧ _).1)).mono ?_; rintro e u14 ⟨ta15, tc15, te15, td15, rfl, to15, hb15⟩; have hk15 := KeepR.next hb15 (by assumption : KeepR u13 _ ∧ _).1)
      | (go_at_call 20; refine (laws_eqTree _ _ _ _ _ _ _ _ _ _ ps0 ws0 _ (hHX15.out.below (by assumption : KeepR u13 _ ∧ _).1) (to15.tre hpn0 hwn0)).mono ?_; rintro e u15 ⟨rfl, hc15⟩; have hl15 := KeepR.next hc15 (by assumption : KeepR u13 _ ∧ _).1))
  have b15 : Below u13.heap.size u13 u15 := hl15
  clear ra15 rb15 rc15 rd15
  have S15 := b15.size
  have B15 := B13.trans (b15.mono B13.size)
  have PB_15 := Lib.hid (PB_13.out.below b15)
  have PR0_15 := Lib.hid (PR0_13.out.below b15)
  have x0_15 := Lib.hid (x0_13.out.below b15)
  have PX0_15 := Lib.hid (PX0_13.out.below b15)
  have x1_15 := Lib.hid (x1_13.out.below b15)
  have x2_15 := Lib.hid (x2_13.out.below b15)
  have PG0_15 := Lib.hid (PG0_13.out.below b15)
  have cc0 := PB_15.out.c0
  have cd0 := PB_15.out.c1
  have cc1 := PR0_15.out.c0
  have cd1 := PR0_15.out.c1
  have cc2 := PX0_15.out.c0
  have cd2 := PX0_15.out.c1
  have cc3 := PG0_15.out.c0
  have cd3 := PG0_15.out.c1
  go_wp2_with fail
  clear cc0 cd0
  clear cc1 cd1
  clear cc2 cd2
  clear cc3 cd3
  refine (laws_toIntS _ _ _ l1 _ hm3_1 (H1.out.below B15)).mono ?_
  rintro e u16 ⟨y1v, rfl, y1o, b16⟩
  obtain ⟨y1a, y1c, rfl⟩ := y1o.shape
  rw [hll1.out] at y1o ⊢
  have S16 := b16.size
  have B16 := B15.trans (b16.mono B15.size)
  have PB_16 := Lib.hid (PB_15.out.below b16)
  have PR0_16 := Lib.hid (PR0_15.out.below b16)
  have x0_16 := Lib.hid (x0_15.out.below b16)
  have PX0_16 := Lib.hid (PX0_15.out.below b16)
  have x1_16 := Lib.hid (x1_15.out.below b16)
  have x2_16 := Lib.hid (x2_15.out.below b16)
  have PG0_16 := Lib.hid (PG0_15.out.below b16)
  have y1O := Lib.hid y1o
  clear y1o
  have cc0 := PB_16.out.c0
  have cd0 := PB_16.out.c1
  have cc1 := PR0_16.out.c0
  have cd1 := PR0_16.out.c1
  have cc2 := PX0_16.out.c0
  have cd2 := PX0_16.out.c1
  have cc3 := PG0_16.out.c0
  have cd3 := PG0_16.out.c1
  go_wp2_with fail
  clear cc0 cd0
  clear cc1 cd1
  clear cc2 cd2
  clear cc3 cd3
  refine (laws_eqIntS _ _ _ _ _ l1 _ hm3_1 x1_16.out.ints y1O.out.ints).mono ?_
  rintro e u17 ⟨rfl, b17⟩
  have S17 := b17.size
  have B17 := B16.trans (b17.mono B16.size)
  have PB_17 := Lib.hid (PB_16.out.below b17)
  have PR0_17 := Lib.hid (PR0_16.out.below b17)
  have x0_17 := Lib.hid (x0_16.out.below b17)
  have PX0_17 := Lib.hid (PX0_16.out.below b17)
  have x1_17 := Lib.hid (x1_16.out.below b17)
  have x2_17 := Lib.hid (x2_16.out.below b17)
  have PG0_17 := Lib.hid (PG0_16.out.below b17)
  have cc0 := PB_17.out.c0
  have cd0 := PB_17.out.c1
  have cc1 := PR0_17.out.c0
  have cd1 := PR0_17.out.c1
  have cc2 := PX0_17.out.c0
  have cd2 := PX0_17.out.c1
  have cc3 := PG0_17.out.c0
  have cd3 := PG0_17.out.c1
  go_wp2_with fail
  clear cc0 cd0
  clear cc1 cd1
  clear cc2 cd2
  clear cc3 cd3
  refine (laws_toIntS _ _ _ l2 _ hm3_2 (H2.out.below B17)).mono ?_
  rintro e u18 ⟨y2v, rfl, y2o, b18⟩
  obtain ⟨y2a, y2c, rfl⟩ := y2o.shape
  rw [hll2.out] at y2o ⊢
  have S18 := b18.size
  have B18 := B17.trans (b18.mono B17.size)
  have PB_18 := Lib.hid (PB_17.out.below b18)
  have PR0_18 := Lib.hid (PR0_17.out.below b18)
  have x0_18 := Lib.hid (x0_17.out.below b18)
  have PX0_18 := Lib.hid (PX0_17.out.below b18)
  have x1_18 := Lib.hid (x1_17.out.below b18)
  have x2_18 := Lib.hid (x2_17.out.below b18)
  have PG0_18 := Lib.hid (PG0_17.out.below b18)
  have y2O := Lib.hid y2o
  clear y2o
  have cc0 := PB_18.out.c0
  have cd0 := PB_18.out.c1
  have cc1 := PR0_18.out.c0
  have cd1 := PR0_18.out.c1
  have cc2 := PX0_18.out.c0
  have cd2 := PX0_18.out.c1
  have cc3 := PG0_18.out.c0
  have cd3 := PG0_18.out.c1
  go_wp2_with fail
  clear cc0 cd0
  clear cc1 cd1
  clear cc2 cd2
  clear cc3 cd3
  refine (laws_eqIntS _ _ _ _ _ l2 _ hm3_2 x2_18.out.ints y2O.out.ints).mono ?_
  rintro e u19 ⟨rfl, b19⟩
  have S19 := b19.size
  have B19 := B18.trans (b19.mono B18.size)
  have PB_19 := Lib.hid (PB_18.out.below b19)
  have PR0_19 := Lib.hid (PR0_18.out.below b19)
  have x0_19 := Lib.hid (x0_18.out.below b19)
  have PX0_19 := Lib.hid (PX0_18.out.below b19)
  have x1_19 := Lib.hid (x1_18.out.below b19)
  have x2_19 := Lib.hid (x2_18.out.below b19)
  have PG0_19 := Lib.hid (PG0_18.out.below b19)
  have cc0 := PB_19.out.c0
  have cd0 := PB_19.out.c1
  have cc1 := PR0_19.out.c0
  have cd1 := PR0_19.out.c1
  have cc2 := PX0_19.out.c0
  have cd2 := PX0_19.out.c1
  have cc3 := PG0_19.out.c0
  have cd3 := PG0_19.out.c1
  go_wp2_with fail
  clear cc0 cd0
  clear cc1 cd1
  clear cc2 cd2
  clear cc3 cd3
  go_ret
  exact ⟨rfl, B19⟩
end Go.Proofs.Ytjkkfjipgomkdaa.fnExactBalanceBound
