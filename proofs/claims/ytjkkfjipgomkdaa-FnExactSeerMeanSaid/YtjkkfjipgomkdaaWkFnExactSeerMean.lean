/- The walk through the law FnExactSeerMean: it returns true. No conditions but that the arguments can be read. -/
import Derived.Test.YtjkkfjipgomkdaaSeer4
import Derived.Test.YtjkkfjipgomkdaaLawT
import Derived.Test.YtjkkfjipgomkdaaOpenT
import Derived.Test.YtjkkfjipgomkdaaLawA2
namespace Go.Proofs.Ytjkkfjipgomkdaa.fnExactSeerMean
open Go.RowKit
set_option linter.unusedVariables false
set_option maxRecDepth 100000 in
set_option maxHeartbeats 4000000 in
theorem walk (aP0 : Option Addr) (nP0 cP0 : Nat) (aW0 : Option Addr) (nW0 cW0 : Nat) (ps0 ws0 : List Int) (a1 : Option Addr) (m1 c1 : Nat) (l1 : List Int)  (w : World) (h0 : TreA w aP0 nP0 cP0 aW0 nW0 cW0 ps0 ws0) (hm1 : m1 ≤ maxLen) (hc1 : m1 ≤ c1 ∧ c1 ≤ maxLen ∧ (a1 = none → c1 = 0)) (h1 : Ints w a1 m1 l1) :
    Calls Try.prog 4 #[.agg #[.slice aP0 nP0 cP0, .slice aW0 nW0 cW0], .slice a1 m1 c1] w fun e w' => e = .returned (.bool true) ∧ Below w.heap.size w w' := by
  have hpl0 := Lib.hid h0.p.1
  have hwl0 := Lib.hid h0.w.1
  have hpm0 := Lib.hid h0.pn
  have hwm0 := Lib.hid h0.wn
  have H0 := Lib.hid h0
  clear h0
  have hll1 := Lib.hid h1.1
  have H1 := Lib.hid h1
  have Hc1 := Lib.hid hc1
  clear h1 hc1
  rw [show maxLen = 9223372036854775807 from rfl] at hm1
  have hB0 : Below w.heap.size w ((w).alloc (.cells #[.slice aP0 nP0 cP0, .slice aW0 nW0 cW0] 24)) := below_new w _
  have hPB0 := Lib.hid (Pair.new w (.slice aP0 nP0 cP0) (.slice aW0 nW0 cW0) 24)
  by_cases hbig1 : (m1 : Int) > 1048576
  · go_enter Try.func4, Try.ntmps4
    go_wp2_with fail
    go_ret
    exact ⟨rfl, hB0⟩
  have hm2_1 : m1 ≤ 1048576 := by omega
  clear hm1
  have hm3_1 : m1 ≤ 4294967296 := by omega
  have Hspec : Hid (∀ (W : World) (b0 : Option Addr) (d0 : Nat) (e0 : Option Addr) (f0 : Nat) (b1 : Option Addr) (d1 : Nat), Tre W b0 nP0 d0 e0 nW0 f0 ps0 ws0 → Ints W b1 m1 l1 → (b1 = none → d1 = 0) → Calls Try.prog 22 #[.agg #[.slice b0 nP0 d0, .slice e0 nW0 f0], .slice b1 m1 d1] W fun e w' => e = .returned (.tuple #[.agg #[.int .i64 (boN (paysB ps0 ws0 l1) ps0 ws0 l1 (zeL ps0)), .int .i64 (boD (paysB ps0 ws0 l1) ps0 ws0 l1 (zeL ps0))], .bool (paysB ps0 ws0 l1)]) ∧ Below W.heap.size W w') := Lib.hid fun W b0 d0 e0 f0 b1 d1 h0' h1' k1' => spec_SeerMean b0 nP0 d0 e0 nW0 f0 ps0 ws0 b1 m1 d1 l1 W h0' h1' k1' hm2_1
  have Himpl : Hid (∀ (W : World) (b0 : Option Addr) (d0 : Nat) (e0 : Option Addr) (f0 : Nat) (b1 : Option Addr) (d1 : Nat), Tre W b0 nP0 d0 e0 nW0 f0 ps0 ws0 → Ints W b1 m1 l1 → (b1 = none → d1 = 0) → Calls Try.prog 23 #[.agg #[.slice b0 nP0 d0, .slice e0 nW0 f0], .slice b1 m1 d1] W fun e w' => e = .returned (.tuple #[.agg #[.int .i64 (boN (paysB ps0 ws0 l1) ps0 ws0 l1 (zeL ps0)), .int .i64 (boD (paysB ps0 ws0 l1) ps0 ws0 l1 (zeL ps0))], .bool (paysB ps0 ws0 l1)]) ∧ Below W.heap.size W w') := Lib.hid fun W b0 d0 e0 f0 b1 d1 h0' h1' k1' => impl_SeerMean b0 nP0 d0 e0 nW0 f0 ps0 ws0 b1 m1 d1 l1 W h0' h1' k1' hm2_1
  generalize boN (paysB ps0 ws0 l1) ps0 ws0 l1 (zeL ps0) = vX at *
  generalize boD (paysB ps0 ws0 l1) ps0 ws0 l1 (zeL ps0) = vY at *
  generalize paysB ps0 ws0 l1 = vB at *
  go_enter Try.func4, Try.ntmps4
  go_wp2_with fail
  generalize (w.alloc (.cells #[.slice aP0 nP0 cP0, .slice aW0 nW0 cW0] 24)) = u0 at *
  have S00 := hB0.size
  have hlt0 := hPB0.out.lt
  refine (laws_szTree _ _ _ _ _ _ _ _ hpm0.out hwm0.out (by omega) (by omega)).mono ?_
  rintro e u1 ⟨⟨z, rfl, hz, hz1, hz2⟩, b1⟩
  have S1 := b1.size
  have B1 := hB0.trans (b1.mono hB0.size)
  have PB_1 := Lib.hid (hPB0.out.below b1)
  by_cases hzn : z < 0
  · clear hz
    go_wp2_with fail
    go_ret
    exact ⟨rfl, B1⟩
  have hz' := hz (by omega)
  have hpn0 := hz'.1
  have hwn0 := hz'.2
  clear hz hz'
  have HA0 : Hid (Tre w aP0 nP0 cP0 aW0 nW0 cW0 ps0 ws0) := Lib.hid (H0.out.tre hpn0 hwn0)
  have cc0 := PB_1.out.c0
  have cd0 := PB_1.out.c1
  go_wp2_with fail
  clear cc0 cd0
  refine (laws_toTree _ _ _ _ _ _ ps0 ws0 _ (HA0.out.below B1)).mono ?_
  rintro e u2 ⟨s0a, s0c, s0e, s0d, rfl, s0o, b2⟩
  have S2 := b2.size
  have B2 := B1.trans (b2.mono B1.size)
  have PB_2 := Lib.hid (PB_1.out.below b2)
  have s0O := Lib.hid s0o
  clear s0o
  have cc0 := PB_2.out.c0
  have cd0 := PB_2.out.c1
  go_wp2_with fail
  clear cc0 cd0
  refine (laws_toIntS _ _ _ l1 _ hm3_1 (H1.out.below B2)).mono ?_
  rintro e u3 ⟨s1v, rfl, s1o, b3⟩
  obtain ⟨s1a, s1c, rfl⟩ := s1o.shape
  rw [hll1.out] at s1o ⊢
  have S3 := b3.size
  have B3 := B2.trans (b3.mono B2.size)
  have PB_3 := Lib.hid (PB_2.out.below b3)
  have s0_3 := Lib.hid (s0O.out.below b3)
  have s1O := Lib.hid s1o
  clear s1o
  have cc0 := PB_3.out.c0
  have cd0 := PB_3.out.c1
  go_wp2_with fail
  clear cc0 cd0
  refine (Hspec.out _ _ _ _ _ _ _ (s0_3.out.tre hpn0 hwn0) s1O.out.ints s1O.out.cap.2.1).mono ?_
  rintro e u4 ⟨rfl, b4⟩
  have S4 := b4.size
  have B4 := B3.trans (b4.mono B3.size)
  have PB_4 := Lib.hid (PB_3.out.below b4)
  have R0_0 := Lib.hid (Pair.new u4 (.int .i64 vX) (.int .i64 vY) 34)
  have SL5 := R0_0.out.lt
  have b5 := below_new u4 (.cells #[.int .i64 vX, .int .i64 vY] 34)
  have S5 := b5.size
  have B5 := B4.trans (b5.mono B4.size)
  have PB_5 := Lib.hid (PB_4.out.below b5)
  have cc0 := PB_5.out.c0
  have cd0 := PB_5.out.c1
  have cc1 := R0_0.out.c0
  have cd1 := R0_0.out.c1
  go_wp2_with fail
  clear cc0 cd0
  clear cc1 cd1
  generalize (u4.alloc (.cells #[.int .i64 vX, .int .i64 vY] 34)) = u5 at *
  refine (laws_toTree _ _ _ _ _ _ ps0 ws0 _ (HA0.out.below B5)).mono ?_
  rintro e u6 ⟨x0a, x0c, x0e, x0d, rfl, x0o, b6⟩
  have S6 := b6.size
  have B6 := B5.trans (b6.mono B5.size)
  have PB_6 := Lib.hid (PB_5.out.below b6)
  have PR0_6 := Lib.hid (R0_0.out.below b6)
  have x0O := Lib.hid x0o
  clear x0o
  have x0b := Lib.hid x0O.out.lt
  have cc0 := PB_6.out.c0
  have cd0 := PB_6.out.c1
  have cc1 := PR0_6.out.c0
  have cd1 := PR0_6.out.c1
  go_wp2_with fail
  clear cc0 cd0
  clear cc1 cd1
  have X0_0 := Lib.hid (Pair.new u6 (.slice x0a nP0 x0c) (.slice x0e nW0 x0d) 28)
  have SL7 := X0_0.out.lt
  have b7 := below_new u6 (.cells #[.slice x0a nP0 x0c, .slice x0e nW0 x0d] 28)
  have S7 := b7.size
  have B7 := B6.trans (b7.mono B6.size)
  have PB_7 := Lib.hid (PB_6.out.below b7)
  have PR0_7 := Lib.hid (PR0_6.out.below b7)
  have x0_7 := Lib.hid (x0O.out.below b7)
  generalize (u6.alloc (.cells #[.slice x0a nP0 x0c, .slice x0e nW0 x0d] 28)) = u7 at *
  refine (laws_toIntS _ _ _ l1 _ hm3_1 (H1.out.below B7)).mono ?_
  rintro e u8 ⟨x1v, rfl, x1o, b8⟩
  obtain ⟨x1a, x1c, rfl⟩ := x1o.shape
  rw [hll1.out] at x1o ⊢
  have S8 := b8.size
  have B8 := B7.trans (b8.mono B7.size)
  have PB_8 := Lib.hid (PB_7.out.below b8)
  have PR0_8 := Lib.hid (PR0_7.out.below b8)
  have x0_8 := Lib.hid (x0_7.out.below b8)
  have PX0_8 := Lib.hid (X0_0.out.below b8)
  have x1O := Lib.hid x1o
  clear x1o
  have x1b : Hid (∀ g, (Value.slice x1a m1 x1c).ownBlock = some g → g < u8.heap.size) := Lib.hid fun g hg => (World.ownsRow.lt x1O.out g hg).2
  have cc0 := PB_8.out.c0
  have cd0 := PB_8.out.c1
  have cc1 := PR0_8.out.c0
  have cd1 := PR0_8.out.c1
  have cc2 := PX0_8.out.c0
  have cd2 := PX0_8.out.c1
  go_wp2_with fail
  clear cc0 cd0
  clear cc1 cd1
  clear cc2 cd2
  refine (Himpl.out _ _ _ _ _ _ _ (x0_8.out.tre hpn0 hwn0) x1O.out.ints x1O.out.cap.2.1).mono ?_
  rintro e u9 ⟨rfl, b9⟩
  have S9 := b9.size
  have B9 := B8.trans (b9.mono B8.size)
  have PB_9 := Lib.hid (PB_8.out.below b9)
  have PR0_9 := Lib.hid (PR0_8.out.below b9)
  have x0_9 := Lib.hid (x0_8.out.below b9)
  have PX0_9 := Lib.hid (PX0_8.out.below b9)
  have x1_9 := Lib.hid (x1O.out.below b9)
  have G0_0 := Lib.hid (Pair.new u9 (.int .i64 vX) (.int .i64 vY) 34)
  have SL10 := G0_0.out.lt
  have b10 := below_new u9 (.cells #[.int .i64 vX, .int .i64 vY] 34)
  have S10 := b10.size
  have B10 := B9.trans (b10.mono B9.size)
  have PB_10 := Lib.hid (PB_9.out.below b10)
  have PR0_10 := Lib.hid (PR0_9.out.below b10)
  have x0_10 := Lib.hid (x0_9.out.below b10)
  have PX0_10 := Lib.hid (PX0_9.out.below b10)
  have x1_10 := Lib.hid (x1_9.out.below b10)
  have cc0 := PB_10.out.c0
  have cd0 := PB_10.out.c1
  have cc1 := PR0_10.out.c0
  have cd1 := PR0_10.out.c1
  have cc2 := PX0_10.out.c0
  have cd2 := PX0_10.out.c1
  have cc3 := G0_0.out.c0
  have cd3 := G0_0.out.c1
  go_wp2_with fail
  clear cc0 cd0
  clear cc1 cd1
  clear cc2 cd2
  clear cc3 cd3
  generalize (u9.alloc (.cells #[.int .i64 vX, .int .i64 vY] 34)) = u10 at *
  refine (laws_eqIntA2 _ _ _).mono ?_
  rintro e u11 ⟨rfl, b11⟩
  have S11 := b11.size
  have B11 := B10.trans (b11.mono B10.size)
  have PB_11 := Lib.hid (PB_10.out.below b11)
  have PR0_11 := Lib.hid (PR0_10.out.below b11)
  have x0_11 := Lib.hid (x0_10.out.below b11)
  have PX0_11 := Lib.hid (PX0_10.out.below b11)
  have x1_11 := Lib.hid (x1_10.out.below b11)
  have PG0_11 := Lib.hid (G0_0.out.below b11)
  have cc0 := PB_11.out.c0
  have cd0 := PB_11.out.c1
  have cc1 := PR0_11.out.c0
  have cd1 := PR0_11.out.c1
  have cc2 := PX0_11.out.c0
  have cd2 := PX0_11.out.c1
  have cc3 := PG0_11.out.c0
  have cd3 := PG0_11.out.c1
  go_wp2_with fail
  clear cc0 cd0
  clear cc1 cd1
  clear cc2 cd2
  clear cc3 cd3
  have ra13 := PX0_11.out.c0
  have rb13 := PX0_11.out.c1
  have rc13 := PB_11.out.c0
  have rd13 := PB_11.out.c1
  have hHA13 := Lib.hid (HA0.out.below B11)
  have hHX13 := Lib.hid (x0_11.out.tre hpn0 hwn0)
  go_region_held3 (fun W' => KeepR u11 W' ∧ (W'.cell? ⟨u6.heap.size, 0, none⟩ = some (.slice x0a nP0 x0c) ∧ W'.cell? ⟨u6.heap.size, 1, none⟩ = some (.slice x0e nW0 x0d)) ∧ W'.cell? ⟨w.heap.size, 0, none⟩ = some (.slice aP0 nP0 cP0) ∧ W'.cell? ⟨w.heap.size, 1, none⟩ = some (.slice aW0 nW0 cW0))
    (first | exact keep4 (by assumption) PX0_11.out PB_11.out | exact keep4 (KeepR.start _) PX0_11.out PB_11.out)
    (first
      | (go_at_call 17; refine (laws_toTree _ _ _ _ _ _ ps0 ws0 _ (hHA13.out.below (by assumption : KeepR u11 _ ∧ _).1)).mono ?_; rintro e u12 ⟨ta13, tc13, te13, td13, rfl, to13, hb13⟩; have hk13 := KeepR.next hb13 (by assumption : KeepR u11 _ ∧ _).1)
      | (go_at_call 20; refine (laws_eqTree _ _ _ _ _ _ _ _ _ _ ps0 ws0 _ (hHX13.out.below (by assumption : KeepR u11 _ ∧ _).1) (to13.tre hpn0 hwn0)).mono ?_; rintro e u13 ⟨rfl, hc13⟩; have hl13 := KeepR.next hc13 (by assumption : KeepR u11 _ ∧ _).1))
  have b13 : Below u11.heap.size u11 u13 := hl13
  clear ra13 rb13 rc13 rd13
  have S13 := b13.size
  have B13 := B11.trans (b13.mono B11.size)
  have PB_13 := Lib.hid (PB_11.out.below b13)
  have PR0_13 := Lib.hid (PR0_11.out.below b13)
  have x0_13 := Lib.hid (x0_11.out.below b13)
  have PX0_13 := Lib.hid (PX0_11.out.below b13)
  have x1_13 := Lib.hid (x1_11.out.below b13)
  have PG0_13 := Lib.hid (PG0_11.out.below b13)
  have cc0 := PB_13.out.c0
  have cd0 := PB_13.out.c1
  have cc1 := PR0_13.out.c0
  have cd1 := PR0_13.out.c1
  have cc2 := PX0_13.out.c0
  have cd2 := PX0_13.out.c1
  have cc3 := PG0_13.out.c0
  have cd3 := PG0_13.out.c1
  go_wp2_with fail
  clear cc0 cd0
  clear cc1 cd1
  clear cc2 cd2
  clear cc3 cd3
  refine (laws_toIntS _ _ _ l1 _ hm3_1 (H1.out.below B13)).mono ?_
  rintro e u14 ⟨y1v, rfl, y1o, b14⟩
  obtain ⟨y1a, y1c, rfl⟩ := y1o.shape
  rw [hll1.out] at y1o ⊢
  have S14 := b14.size
  have B14 := B13.trans (b14.mono B13.size)
  have PB_14 := Lib.hid (PB_13.out.below b14)
  have PR0_14 := Lib.hid (PR0_13.out.below b14)
  have x0_14 := Lib.hid (x0_13.out.below b14)
  have PX0_14 := Lib.hid (PX0_13.out.below b14)
  have x1_14 := Lib.hid (x1_13.out.below b14)
  have PG0_14 := Lib.hid (PG0_13.out.below b14)
  have y1O := Lib.hid y1o
  clear y1o
  have cc0 := PB_14.out.c0
  have cd0 := PB_14.out.c1
  have cc1 := PR0_14.out.c0
  have cd1 := PR0_14.out.c1
  have cc2 := PX0_14.out.c0
  have cd2 := PX0_14.out.c1
  have cc3 := PG0_14.out.c0
  have cd3 := PG0_14.out.c1
  go_wp2_with fail
  clear cc0 cd0
  clear cc1 cd1
  clear cc2 cd2
  clear cc3 cd3
  refine (laws_eqIntS _ _ _ _ _ l1 _ hm3_1 x1_14.out.ints y1O.out.ints).mono ?_
  rintro e u15 ⟨rfl, b15⟩
  have S15 := b15.size
  have B15 := B14.trans (b15.mono B14.size)
  have PB_15 := Lib.hid (PB_14.out.below b15)
  have PR0_15 := Lib.hid (PR0_14.out.below b15)
  have x0_15 := Lib.hid (x0_14.out.below b15)
  have PX0_15 := Lib.hid (PX0_14.out.below b15)
  have x1_15 := Lib.hid (x1_14.out.below b15)
  have PG0_15 := Lib.hid (PG0_14.out.below b15)
  have cc0 := PB_15.out.c0
  have cd0 := PB_15.out.c1
  have cc1 := PR0_15.out.c0
  have cd1 := PR0_15.out.c1
  have cc2 := PX0_15.out.c0
  have cd2 := PX0_15.out.c1
  have cc3 := PG0_15.out.c0
  have cd3 := PG0_15.out.c1
  go_wp2_with fail
  clear cc0 cd0
  clear cc1 cd1
  clear cc2 cd2
  clear cc3 cd3
  go_ret
  exact ⟨rfl, B15⟩
end Go.Proofs.Ytjkkfjipgomkdaa.fnExactSeerMean
