/- The walk through the law FnExactIsBalanced: it returns true. No conditions but that the arguments can be read. -/
import Derived.Test.YtcoakeedgngogaaBal2
import Derived.Test.YtcoakeedgngogaaLawT
import Derived.Test.YtcoakeedgngogaaOpenT
namespace Go.Proofs.Ytcoakeedgngogaa.fnExactIsBalanced
open Go.RowKit
set_option linter.unusedVariables false
set_option maxRecDepth 100000 in
set_option maxHeartbeats 4000000 in
theorem walk (aP0 : Option Addr) (nP0 cP0 : Nat) (aW0 : Option Addr) (nW0 cW0 : Nat) (ps0 ws0 : List Int) (a1 : Option Addr) (m1 c1 : Nat) (l1 : List Int)  (w : World) (h0 : TreA w aP0 nP0 cP0 aW0 nW0 cW0 ps0 ws0) (hm1 : m1 ≤ maxLen) (hc1 : m1 ≤ c1 ∧ c1 ≤ maxLen ∧ (a1 = none → c1 = 0)) (h1 : Ints w a1 m1 l1) :
    Calls Try.prog 5 #[.agg #[.slice aP0 nP0 cP0, .slice aW0 nW0 cW0], .slice a1 m1 c1] w fun e w' => e = .returned (.bool true) ∧ Below w.heap.size w w' := by
  have hpl0 := Lib.hid h0.p.1
  have hwl0 := Lib.hid h0.w.1
  have hpm0 := Lib.hid h0.pn
  have hwm0 := Lib.hid h0.wn
  have H0 := Lib.hid h0
  clear h0
  have hll1 := Lib.hid h1.1
  have H1 := Lib.hid h1
  have Hc1 := Lib.hid hc1
  clear h1 hc1
  rw [show maxLen = 9223372036854775807 from rfl] at hm1
  have hB0 : Below w.heap.size w ((w).alloc (.cells #[.slice aP0 nP0 cP0, .slice aW0 nW0 cW0] 41)) := below_new w _
  have hPB0 := Lib.hid (Pair.new w (.slice aP0 nP0 cP0) (.slice aW0 nW0 cW0) 41)
  by_cases hbig1 : (m1 : Int) > 1048576
  · go_enter Try.func5, Try.ntmps5
    go_wp2_with fail
    go_ret
    exact ⟨rfl, hB0⟩
  have hm2_1 : m1 ≤ 1048576 := by omega
  clear hm1
  have hm3_1 : m1 ≤ 4294967296 := by omega
  have Hspec : Hid (∀ (W : World) (b0 : Option Addr) (d0 : Nat) (e0 : Option Addr) (f0 : Nat) (b1 : Option Addr) (d1 : Nat), Tre W b0 nP0 d0 e0 nW0 f0 ps0 ws0 → Ints W b1 m1 l1 → (b1 = none → d1 = 0) → Calls Try.prog 20 #[.agg #[.slice b0 nP0 d0, .slice e0 nW0 f0], .slice b1 m1 d1] W fun e w' => e = .returned (.tuple #[.bool (balV ps0 ws0 l1), .bool (paysB ps0 ws0 l1)]) ∧ Below W.heap.size W w') := Lib.hid fun W b0 d0 e0 f0 b1 d1 h0' h1' k1' => spec_IsBalanced b0 nP0 d0 e0 nW0 f0 ps0 ws0 b1 m1 d1 l1 W h0' h1' k1' hm2_1
  have Himpl : Hid (∀ (W : World) (b0 : Option Addr) (d0 : Nat) (e0 : Option Addr) (f0 : Nat) (b1 : Option Addr) (d1 : Nat), Tre W b0 nP0 d0 e0 nW0 f0 ps0 ws0 → Ints W b1 m1 l1 → (b1 = none → d1 = 0) → Calls Try.prog 23 #[.agg #[.slice b0 nP0 d0, .slice e0 nW0 f0], .slice b1 m1 d1] W fun e w' => e = .returned (.tuple #[.bool (balV ps0 ws0 l1), .bool (paysB ps0 ws0 l1)]) ∧ Below W.heap.size W w') := Lib.hid fun W b0 d0 e0 f0 b1 d1 h0' h1' k1' => impl_IsBalanced b0 nP0 d0 e0 nW0 f0 ps0 ws0 b1 m1 d1 l1 W h0' h1' k1' hm2_1
  generalize balV ps0 ws0 l1 = vV at *
  generalize paysB ps0 ws0 l1 = vB at *
  go_enter Try.func5, Try.ntmps5
  go_wp2_with fail
  generalize (w.alloc (.cells #[.slice aP0 nP0 cP0, .slice aW0 nW0 cW0] 41)) = u0 at *
  have S00 := hB0.size
  have hlt0 := hPB0.out.lt
  refine (laws_szTree _ _ _ _ _ _ _ _ hpm0.out hwm0.out (by omega) (by omega)).mono ?_
  rintro e u1 ⟨⟨z, rfl, hz, hz1, hz2⟩, b1⟩
  have S1 := b1.size
  have B1 := hB0.trans (b1.mono hB0.size)
  have PB_1 := Lib.hid (hPB0.out.below b1)
  by_cases hzn : z < 0
  · clear hz
    go_wp2_with fail
    go_ret
    exact ⟨rfl, B1⟩
  have hz' := hz (by omega)
  have hpn0 := hz'.1
  have hwn0 := hz'.2
  clear hz hz'
  have HA0 : Hid (Tre w aP0 nP0 cP0 aW0 nW0 cW0 ps0 ws0) := Lib.hid (H0.out.tre hpn0 hwn0)
  have cc0 := PB_1.out.c0
  have cd0 := PB_1.out.c1
  go_wp2_with fail
  clear cc0 cd0
  refine (laws_toTree _ _ _ _ _ _ ps0 ws0 _ (HA0.out.below B1)).mono ?_
  rintro e u2 ⟨s0a, s0c, s0e, s0d, rfl, s0o, b2⟩
  have S2 := b2.size
  have B2 := B1.trans (b2.mono B1.size)
  have PB_2 := Lib.hid (PB_1.out.below b2)
  have s0O := Lib.hid s0o
  clear s0o
  have cc0 := PB_2.out.c0
  have cd0 := PB_2.out.c1
  go_wp2_with fail
  clear cc0 cd0
  refine (laws_toIntS _ _ _ l1 _ hm3_1 (H1.out.below B2)).mono ?_
  rintro e u3 ⟨s1v, rfl, s1o, b3⟩
  obtain ⟨s1a, s1c, rfl⟩ := s1o.shape
  rw [hll1.out] at s1o ⊢
  have S3 := b3.size
  have B3 := B2.trans (b3.mono B2.size)
  have PB_3 := Lib.hid (PB_2.out.below b3)
  have s0_3 := Lib.hid (s0O.out.below b3)
  have s1O := Lib.hid s1o
  clear s1o
  have cc0 := PB_3.out.c0
  have cd0 := PB_3.out.c1
  go_wp2_with fail
  clear cc0 cd0
  refine (Hspec.out _ _ _ _ _ _ _ (s0_3.out.tre hpn0 hwn0) s1O.out.ints s1O.out.cap.2.1).mono ?_
  rintro e u4 ⟨rfl, b4⟩
  have S4 := b4.size
  have B4 := B3.trans (b4.mono B3.size)
  have PB_4 := Lib.hid (PB_3.out.below b4)
  have cc0 := PB_4.out.c0
  have cd0 := PB_4.out.c1
  go_wp2_with fail
  clear cc0 cd0
  refine (laws_toTree _ _ _ _ _ _ ps0 ws0 _ (HA0.out.below B4)).mono ?_
  rintro e u5 ⟨x0a, x0c, x0e, x0d, rfl, x0o, b5⟩
  have S5 := b5.size
  have B5 := B4.trans (b5.mono B4.size)
  have PB_5 := Lib.hid (PB_4.out.below b5)
  have x0O := Lib.hid x0o
  clear x0o
  have x0b := Lib.hid x0O.out.lt
  have cc0 := PB_5.out.c0
  have cd0 := PB_5.out.c1
  go_wp2_with fail
  clear cc0 cd0
  have X0_0 := Lib.hid (Pair.new u5 (.slice x0a nP0 x0c) (.slice x0e nW0 x0d) 33)
  have SL6 := X0_0.out.lt
  have b6 := below_new u5 (.cells #[.slice x0a nP0 x0c, .slice x0e nW0 x0d] 33)
  have S6 := b6.size
  have B6 := B5.trans (b6.mono B5.size)
  have PB_6 := Lib.hid (PB_5.out.below b6)
  have x0_6 := Lib.hid (x0O.out.below b6)
  generalize (u5.alloc (.cells #[.slice x0a nP0 x0c, .slice x0e nW0 x0d] 33)) = u6 at *
  refine (laws_toIntS _ _ _ l1 _ hm3_1 (H1.out.below B6)).mono ?_
  rintro e u7 ⟨x1v, rfl, x1o, b7⟩
  obtain ⟨x1a, x1c, rfl⟩ := x1o.shape
  rw [hll1.out] at x1o ⊢
  have S7 := b7.size
  have B7 := B6.trans (b7.mono B6.size)
  have PB_7 := Lib.hid (PB_6.out.below b7)
  have x0_7 := Lib.hid (x0_6.out.below b7)
  have PX0_7 := Lib.hid (X0_0.out.below b7)
  have x1O := Lib.hid x1o
  clear x1o
  have x1b : Hid (∀ g, (Value.slice x1a m1 x1c).ownBlock = some g → g < u7.heap.size) := Lib.hid fun g hg => (World.ownsRow.lt x1O.out g hg).2
  have cc0 := PB_7.out.c0
  have cd0 := PB_7.out.c1
  have cc1 := PX0_7.out.c0
  have cd1 := PX0_7.out.c1
  go_wp2_with fail
  clear cc0 cd0
  clear cc1 cd1
  refine (Himpl.out _ _ _ _ _ _ _ (x0_7.out.tre hpn0 hwn0) x1O.out.ints x1O.out.cap.2.1).mono ?_
  rintro e u8 ⟨rfl, b8⟩
  have S8 := b8.size
  have B8 := B7.trans (b8.mono B7.size)
  have PB_8 := Lib.hid (PB_7.out.below b8)
  have x0_8 := Lib.hid (x0_7.out.below b8)
  have PX0_8 := Lib.hid (PX0_7.out.below b8)
  have x1_8 := Lib.hid (x1O.out.below b8)
  have cc0 := PB_8.out.c0
  have cd0 := PB_8.out.c1
  have cc1 := PX0_8.out.c0
  have cd1 := PX0_8.out.c1
  go_wp2_with fail
  clear cc0 cd0
  clear cc1 cd1
  have ra10 := PX0_8.out.c0
  have rb10 := PX0_8.out.c1
  have rc10 := PB_8.out.c0
  have rd10 := PB_8.out.c1
  have hHA10 := Lib.hid (HA0.out.below B8)
  have hHX10 := Lib.hid (x0_8.out.tre hpn0 hwn0)
  go_region_held3 (fun W' => KeepR u8 W' ∧ (W'.cell? ⟨u5.heap.size, 0, none⟩ = some (.slice x0a nP0 x0c) ∧ W'.cell? ⟨u5.heap.size, 1, none⟩ = some (.slice x0e nW0 x0d)) ∧ W'.cell? ⟨w.heap.size, 0, none⟩ = some (.slice aP0 nP0 cP0) ∧ W'.cell? ⟨w.heap.size, 1, none⟩ = some (.slice aW0 nW0 cW0))
    (first | exact keep4 (by assumption) PX0_8.out PB_8.out | exact keep4 (KeepR.start _) PX0_8.out PB_8.out)
    (first
      | (go_at_call 21; refine (laws_toTree _ _ _ _ _ _ ps0 ws0 _ (hHA10.out.below (by assumption : KeepR u8 _ ∧ _).1)).mono ?_; rintro e u9 ⟨ta10, tc10, te10, td10, rfl, to10, hb10⟩; have hk10 := KeepR.next hb10 (by assumption : KeepR u8 _ ∧ _).1)
      | (go_at_call 24; refine (laws_eqTree _ _ _ _ _ _ _ _ _ _ ps0 ws0 _ (hHX10.out.below (by assumption : KeepR u8 _ ∧ _).1) (to10.tre hpn0 hwn0)).mono ?_; rintro e u10 ⟨rfl, hc10⟩; have hl10 := KeepR.next hc10 (by assumption : KeepR u8 _ ∧ _).1))
  have b10 : Below u8.heap.size u8 u10 := hl10
  clear ra10 rb10 rc10 rd10
  have S10 := b10.size
  have B10 := B8.trans (b10.mono B8.size)
  have PB_10 := Lib.hid (PB_8.out.below b10)
  have x0_10 := Lib.hid (x0_8.out.below b10)
  have PX0_10 := Lib.hid (PX0_8.out.below b10)
  have x1_10 := Lib.hid (x1_8.out.below b10)
  have cc0 := PB_10.out.c0
  have cd0 := PB_10.out.c1
  have cc1 := PX0_10.out.c0
  have cd1 := PX0_10.out.c1
  go_wp2_with fail
  clear cc0 cd0
  clear cc1 cd1
  refine (laws_toIntS _ _ _ l1 _ hm3_1 (H1.out.below B10)).mono ?_
  rintro e u11 ⟨y1v, rfl, y1o, b11⟩
  obtain ⟨y1a, y1c, rfl⟩ := y1o.shape
  rw [hll1.out] at y1o ⊢
  have S11 := b11.size
  have B11 := B10.trans (b11.mono B10.size)
  have PB_11 := Lib.hid (PB_10.out.below b11)
  have x0_11 := Lib.hid (x0_10.out.below b11)
  have PX0_11 := Lib.hid (PX0_10.out.below b11)
  have x1_11 := Lib.hid (x1_10.out.below b11)
  have y1O := Lib.hid y1o
  clear y1o
  have cc0 := PB_11.out.c0
  have cd0 := PB_11.out.c1
  have cc1 := PX0_11.out.c0
  have cd1 := PX0_11.out.c1
  go_wp2_with fail
  clear cc0 cd0
  clear cc1 cd1
  refine (laws_eqIntS _ _ _ _ _ l1 _ hm3_1 x1_11.out.ints y1O.out.ints).mono ?_
  rintro e u12 ⟨rfl, b12⟩
  have S12 := b12.size
  have B12 := B11.trans (b12.mono B11.size)
  have PB_12 := Lib.hid (PB_11.out.below b12)
  have x0_12 := Lib.hid (x0_11.out.below b12)
  have PX0_12 := Lib.hid (PX0_11.out.below b12)
  have x1_12 := Lib.hid (x1_11.out.below b12)
  have cc0 := PB_12.out.c0
  have cd0 := PB_12.out.c1
  have cc1 := PX0_12.out.c0
  have cd1 := PX0_12.out.c1
  go_wp2_with fail
  clear cc0 cd0
  clear cc1 cd1
  go_ret
  exact ⟨rfl, B12⟩
end Go.Proofs.Ytcoakeedgngogaa.fnExactIsBalanced
