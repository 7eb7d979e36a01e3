/- The walk through the law FnExactEnvelopeOf: it returns true. No conditions but that the arguments can be read. -/
import Derived.Test.YtjkkfjipgomkdaaEnv2
import Derived.Test.YtjkkfjipgomkdaaLawT
import Derived.Test.YtjkkfjipgomkdaaOpenT
import Derived.Test.YtjkkfjipgomkdaaLawFr
namespace Go.Proofs.Ytjkkfjipgomkdaa.fnExactEnvelopeOf
open Go.RowKit
set_option linter.unusedVariables false
set_option maxRecDepth 100000 in
set_option maxHeartbeats 4000000 in
theorem walk (aP0 : Option Addr) (nP0 cP0 : Nat) (aW0 : Option Addr) (nW0 cW0 : Nat) (ps0 ws0 : List Int) (a1 : Option Addr) (m1 c1 : Nat) (l1 : List Int)  (w : World) (h0 : TreA w aP0 nP0 cP0 aW0 nW0 cW0 ps0 ws0) (hm1 : m1 ≤ maxLen) (hc1 : m1 ≤ c1 ∧ c1 ≤ maxLen ∧ (a1 = none → c1 = 0)) (h1 : Ints w a1 m1 l1) :
    Calls Try.prog 5 #[.agg #[.slice aP0 nP0 cP0, .slice aW0 nW0 cW0], .slice a1 m1 c1] w fun e w' => e = .returned (.bool true) ∧ Below w.heap.size w w' := by
  have hpl0 := Lib.hid h0.p.1
  have hwl0 := Lib.hid h0.w.1
  have hpm0 := Lib.hid h0.pn
  have hwm0 := Lib.hid h0.wn
  have H0 := Lib.hid h0
  clear h0
  have hll1 := Lib.hid h1.1
  have H1 := Lib.hid h1
  have Hc1 := Lib.hid hc1
  clear h1 hc1
  rw [show maxLen = 9223372036854775807 from rfl] at hm1
  have hB0 : Below w.heap.size w ((w).alloc (.cells #[.slice aP0 nP0 cP0, .slice aW0 nW0 cW0] 24)) := below_new w _
  have hPB0 := Lib.hid (Pair.new w (.slice aP0 nP0 cP0) (.slice aW0 nW0 cW0) 24)
  by_cases hbig1 : (m1 : Int) > 1048576
  · go_enter Try.func5, Try.ntmps5
    go_wp2_with fail
    go_ret
    exact ⟨rfl, hB0⟩
  have hm2_1 : m1 ≤ 1048576 := by omega
  clear hm1
  have hm3_1 : m1 ≤ 4294967296 := by omega
  have Hspec : Hid (∀ (W : World) (b0 : Option Addr) (d0 : Nat) (e0 : Option Addr) (f0 : Nat) (b1 : Option Addr) (d1 : Nat), Tre W b0 nP0 d0 e0 nW0 f0 ps0 ws0 → Ints W b1 m1 l1 → (b1 = none → d1 = 0) → Calls Try.prog 25 #[.agg #[.slice b0 nP0 d0, .slice e0 nW0 f0], .slice b1 m1 d1] W fun e w' => ∃ v, e = .returned (.tuple #[v, .bool (paysB ps0 ws0 l1)]) ∧ Fr.Own w' W.heap.size v (envV ps0 ws0 l1) ∧ Below W.heap.size W w') := Lib.hid fun W b0 d0 e0 f0 b1 d1 h0' h1' k1' => spec_EnvelopeOf b0 nP0 d0 e0 nW0 f0 ps0 ws0 b1 m1 d1 l1 W h0' h1' k1' hm2_1
  have Himpl : Hid (∀ (W : World) (b0 : Option Addr) (d0 : Nat) (e0 : Option Addr) (f0 : Nat) (b1 : Option Addr) (d1 : Nat), Tre W b0 nP0 d0 e0 nW0 f0 ps0 ws0 → Ints W b1 m1 l1 → (b1 = none → d1 = 0) → Calls Try.prog 26 #[.agg #[.slice b0 nP0 d0, .slice e0 nW0 f0], .slice b1 m1 d1] W fun e w' => ∃ v, e = .returned (.tuple #[v, .bool (paysB ps0 ws0 l1)]) ∧ Fr.Own w' W.heap.size v (envV ps0 ws0 l1) ∧ Below W.heap.size W w') := Lib.hid fun W b0 d0 e0 f0 b1 d1 h0' h1' k1' => impl_EnvelopeOf b0 nP0 d0 e0 nW0 f0 ps0 ws0 b1 m1 d1 l1 W h0' h1' k1' hm2_1
  have hVlen : Hid ((envV ps0 ws0 l1).length ≤ 4294967296) := Lib.hid (Nat.le_trans envV_len (by omega))
  generalize envV ps0 ws0 l1 = vV at *
  generalize paysB ps0 ws0 l1 = vB at *
  go_enter Try.func5, Try.ntmps5
  go_wp2_with fail
  generalize (w.alloc (.cells #[.slice aP0 nP0 cP0, .slice aW0 nW0 cW0] 24)) = u0 at *
  have S00 := hB0.size
  have hlt0 := hPB0.out.lt
  refine (laws_szTree _ _ _ _ _ _ _ _ hpm0.out hwm0.out (by omega) (by omega)).mono ?_
  rintro e u1 ⟨⟨z, rfl, hz, hz1, hz2⟩, b1⟩
  have S1 := b1.size
  have B1 := hB0.trans (b1.mono hB0.size)
  have PB_1 := Lib.hid (hPB0.out.below b1)
  by_cases hzn : z < 0
  · clear hz
    go_wp2_with fail
    go_ret
    exact ⟨rfl, B1⟩
  have hz' := hz (by omega)
  have hpn0 := hz'.1
  have hwn0 := hz'.2
  clear hz hz'
  have HA0 : Hid (Tre w aP0 nP0 cP0 aW0 nW0 cW0 ps0 ws0) := Lib.hid (H0.out.tre hpn0 hwn0)
  have cc0 := PB_1.out.c0
  have cd0 := PB_1.out.c1
  go_wp2_with fail
  clear cc0 cd0
  refine (laws_toTree _ _ _ _ _ _ ps0 ws0 _ (HA0.out.below B1)).mono ?_
  rintro e u2 ⟨s0a, s0c, s0e, s0d, rfl, s0o, b2⟩
  have S2 := b2.size
  have B2 := B1.trans (b2.mono B1.size)
  have PB_2 := Lib.hid (PB_1.out.below b2)
  have s0O := Lib.hid s0o
  clear s0o
  have cc0 := PB_2.out.c0
  have cd0 := PB_2.out.c1
  go_wp2_with fail
  clear cc0 cd0
  refine (laws_toIntS _ _ _ l1 _ hm3_1 (H1.out.below B2)).mono ?_
  rintro e u3 ⟨s1v, rfl, s1o, b3⟩
  obtain ⟨s1a, s1c, rfl⟩ := s1o.shape
  rw [hll1.out] at s1o ⊢
  have S3 := b3.size
  have B3 := B2.trans (b3.mono B2.size)
  have PB_3 := Lib.hid (PB_2.out.below b3)
  have s0_3 := Lib.hid (s0O.out.below b3)
  have s1O := Lib.hid s1o
  clear s1o
  have cc0 := PB_3.out.c0
  have cd0 := PB_3.out.c1
  go_wp2_with fail
  clear cc0 cd0
  refine (Hspec.out _ _ _ _ _ _ _ (s0_3.out.tre hpn0 hwn0) s1O.out.ints s1O.out.cap.2.1).mono ?_
  rintro e u4 ⟨r0, rfl, r0o, b4⟩
  have S4 := b4.size
  have B4 := B3.trans (b4.mono B3.size)
  have PB_4 := Lib.hid (PB_3.out.below b4)
  obtain ⟨r0a, r0c, rfl⟩ := r0o.shape
  have r0O := Lib.hid r0o
  clear r0o
  have r0b : Hid (∀ g, (Value.slice r0a vV.length r0c).ownBlock = some g → g < u4.heap.size) := Lib.hid fun g hg => (World.ownsRow.lt r0O.out g hg).2
  have cc0 := PB_4.out.c0
  have cd0 := PB_4.out.c1
  go_wp2_with fail
  clear cc0 cd0
  refine (laws_toTree _ _ _ _ _ _ ps0 ws0 _ (HA0.out.below B4)).mono ?_
  rintro e u5 ⟨x0a, x0c, x0e, x0d, rfl, x0o, b5⟩
  have S5 := b5.size
  have B5 := B4.trans (b5.mono B4.size)
  have PB_5 := Lib.hid (PB_4.out.below b5)
  have r0_5 := Lib.hid (r0O.out.below b5)
  have x0O := Lib.hid x0o
  clear x0o
  have x0b := Lib.hid x0O.out.lt
  have cc0 := PB_5.out.c0
  have cd0 := PB_5.out.c1
  go_wp2_with fail
  clear cc0 cd0
  have X0_0 := Lib.hid (Pair.new u5 (.slice x0a nP0 x0c) (.slice x0e nW0 x0d) 28)
  have SL6 := X0_0.out.lt
  have b6 := below_new u5 (.cells #[.slice x0a nP0 x0c, .slice x0e nW0 x0d] 28)
  have S6 := b6.size
  have B6 := B5.trans (b6.mono B5.size)
  have PB_6 := Lib.hid (PB_5.out.below b6)
  have r0_6 := Lib.hid (r0_5.out.below b6)
  have x0_6 := Lib.hid (x0O.out.below b6)
  generalize (u5.alloc (.cells #[.slice x0a nP0 x0c, .slice x0e nW0 x0d] 28)) = u6 at *
  refine (laws_toIntS _ _ _ l1 _ hm3_1 (H1.out.below B6)).mono ?_
  rintro e u7 ⟨x1v, rfl, x1o, b7⟩
  obtain ⟨x1a, x1c, rfl⟩ := x1o.shape
  rw [hll1.out] at x1o ⊢
  have S7 := b7.size
  have B7 := B6.trans (b7.mono B6.size)
  have PB_7 := Lib.hid (PB_6.out.below b7)
  have r0_7 := Lib.hid (r0_6.out.below b7)
  have x0_7 := Lib.hid (x0_6.out.below b7)
  have PX0_7 := Lib.hid (X0_0.out.below b7)
  have x1O := Lib.hid x1o
  clear x1o
  have x1b : Hid (∀ g, (Value.slice x1a m1 x1c).ownBlock = some g → g < u7.heap.size) := Lib.hid fun g hg => (World.ownsRow.lt x1O.out g hg).2
  have cc0 := PB_7.out.c0
  have cd0 := PB_7.out.c1
  have cc1 := PX0_7.out.c0
  have cd1 := PX0_7.out.c1
  go_wp2_with fail
  clear cc0 cd0
  clear cc1 cd1
  refine (Himpl.out _ _ _ _ _ _ _ (x0_7.out.tre hpn0 hwn0) x1O.out.ints x1O.out.cap.2.1).mono ?_
  rintro e u8 ⟨g0, rfl, g0o, b8⟩
  have S8 := b8.size
  have B8 := B7.trans (b8.mono B7.size)
  have PB_8 := Lib.hid (PB_7.out.below b8)
  have r0_8 := Lib.hid (r0_7.out.below b8)
  have x0_8 := Lib.hid (x0_7.out.below b8)
  have PX0_8 := Lib.hid (PX0_7.out.below b8)
  have x1_8 := Lib.hid (x1O.out.below b8)
  obtain ⟨g0a, g0c, rfl⟩ := g0o.shape
  have g0O := Lib.hid g0o
  clear g0o
  have g0b : Hid (∀ g, (Value.slice g0a vV.length g0c).ownBlock = some g → g < u8.heap.size) := Lib.hid fun g hg => (World.ownsRow.lt g0O.out g hg).2
  have cc0 := PB_8.out.c0
  have cd0 := PB_8.out.c1
  have cc1 := PX0_8.out.c0
  have cd1 := PX0_8.out.c1
  go_wp2_with fail
  clear cc0 cd0
  clear cc1 cd1
  have hVl : vV.length ≤ 4294967296 := hVlen.out
  refine (laws_eqIntA2S _ _ _ _ _ vV _ hVl g0O.out.ints r0_8.out.ints).mono ?_
  rintro e u9 ⟨rfl, b9⟩
  have S9 := b9.size
  have B9 := B8.trans (b9.mono B8.size)
  have PB_9 := Lib.hid (PB_8.out.below b9)
  have r0_9 := Lib.hid (r0_8.out.below b9)
  have x0_9 := Lib.hid (x0_8.out.below b9)
  have PX0_9 := Lib.hid (PX0_8.out.below b9)
  have x1_9 := Lib.hid (x1_8.out.below b9)
  have g0_9 := Lib.hid (g0O.out.below b9)
  have cc0 := PB_9.out.c0
  have cd0 := PB_9.out.c1
  have cc1 := PX0_9.out.c0
  have cd1 := PX0_9.out.c1
  go_wp2_with fail
  clear cc0 cd0
  clear cc1 cd1
  have ra11 := PX0_9.out.c0
  have rb11 := PX0_9.out.c1
  have rc11 := PB_9.out.c0
  have rd11 := PB_9.out.c1
  have hHA11 := Lib.hid (HA0.out.below B9)
  have hHX11 := Lib.hid (x0_9.out.tre hpn0 hwn0)
  go_region_held3 (fun W' => KeepR u9 W' ∧ (W'.cell? ⟨u5.heap.size, 0, none⟩ = some (.slice x0a nP0 x0c) ∧ W'.cell? ⟨u5.heap.size, 1, none⟩ = some (.slice x0e nW0 x0d)) ∧ W'.cell? ⟨w.heap.size, 0, none⟩ = some (.slice aP0 nP0 cP0) ∧ W'.cell? ⟨w.heap.size, 1, none⟩ = some (.slice aW0 nW0 cW0))
    (first | exact keep4 (by assumption) PX0_9.out PB_9.out | exact keep4 (KeepR.start _) PX0_9.out PB_9.out)
    (first
      | (go_at_call 17; refine (laws_toTree _ _ _ _ _ _ ps0 ws0 _ (hHA11.out.below (by assumption : KeepR u9 _ ∧ _).1)).mono ?_; rintro e u10 ⟨ta11, tc11, te11, td11, rfl, to11, hb11⟩; have hk11 := KeepR.next hb11 (by assumption : KeepR u9 _ ∧ _).1)
      | (go_at_call 20; refine (laws_eqTree _ _ _ _ _ _ _ _ _ _ ps0 ws0 _ (hHX11.out.below (by assumption : KeepR u9 _ ∧ _).1) (to11.tre hpn0 hwn0)).mono ?_; rintro e u11 ⟨rfl, hc11⟩; have hl11 := KeepR.next hc11 (by assumption : KeepR u9 _ ∧ _).1))
  have b11 : Below u9.heap.size u9 u11 := hl11
  clear ra11 rb11 rc11 rd11
  have S11 := b11.size
  have B11 := B9.trans (b11.mono B9.size)
  have PB_11 := Lib.hid (PB_9.out.below b11)
  have r0_11 := Lib.hid (r0_9.out.below b11)
  have x0_11 := Lib.hid (x0_9.out.below b11)
  have PX0_11 := Lib.hid (PX0_9.out.below b11)
  have x1_11 := Lib.hid (x1_9.out.below b11)
  have g0_11 := Lib.hid (g0_9.out.below b11)
  have cc0 := PB_11.out.c0
  have cd0 := PB_11.out.c1
  have cc1 := PX0_11.out.c0
  have cd1 := PX0_11.out.c1
  go_wp2_with fail
  clear cc0 cd0
  clear cc1 cd1
  refine (laws_toIntS _ _ _ l1 _ hm3_1 (H1.out.below B11)).mono ?_
  rintro e u12 ⟨y1v, rfl, y1o, b12⟩
  obtain ⟨y1a, y1c, rfl⟩ := y1o.shape
  rw [hll1.out] at y1o ⊢
  have S12 := b12.size
  have B12 := B11.trans (b12.mono B11.size)
  have PB_12 := Lib.hid (PB_11.out.below b12)
  have r0_12 := Lib.hid (r0_11.out.below b12)
  have x0_12 := Lib.hid (x0_11.out.below b12)
  have PX0_12 := Lib.hid (PX0_11.out.below b12)
  have x1_12 := Lib.hid (x1_11.out.below b12)
  have g0_12 := Lib.hid (g0_11.out.below b12)
  have y1O := Lib.hid y1o
  clear y1o
  have cc0 := PB_12.out.c0
  have cd0 := PB_12.out.c1
  have cc1 := PX0_12.out.c0
  have cd1 := PX0_12.out.c1
  go_wp2_with fail
  clear cc0 cd0
  clear cc1 cd1
  refine (laws_eqIntS _ _ _ _ _ l1 _ hm3_1 x1_12.out.ints y1O.out.ints).mono ?_
  rintro e u13 ⟨rfl, b13⟩
  have S13 := b13.size
  have B13 := B12.trans (b13.mono B12.size)
  have PB_13 := Lib.hid (PB_12.out.below b13)
  have r0_13 := Lib.hid (r0_12.out.below b13)
  have x0_13 := Lib.hid (x0_12.out.below b13)
  have PX0_13 := Lib.hid (PX0_12.out.below b13)
  have x1_13 := Lib.hid (x1_12.out.below b13)
  have g0_13 := Lib.hid (g0_12.out.below b13)
  have cc0 := PB_13.out.c0
  have cd0 := PB_13.out.c1
  have cc1 := PX0_13.out.c0
  have cd1 := PX0_13.out.c1
  go_wp2_with fail
  clear cc0 cd0
  clear cc1 cd1
  refine (laws_markTree u4.heap.size u5.heap.size u4.heap.size _ _ _ _ _ _ _ _ _ _ hpn0 hwn0 (by omega) (by omega) x0_13.out (Nat.le_refl _) (.inr ⟨fun g hg => (x0b.out.1 g hg).2, fun g hg => (x0b.out.2 g hg).2⟩)).mono ?_
  rintro e u14 ⟨rfl, ho14, -⟩
  have S14 := ho14.size
  have hlo14 := ho14.below (show u4.heap.size ≤ u13.heap.size by omega)
  have B14 := B13.trans (hlo14.mono (by omega))
  have PB_14 := Lib.hid (PB_13.out.only ho14 (.inl (by omega)))
  have r0_14 := Lib.hid (r0_13.out.only ho14 (fun g hg => .inl (by have := r0b.out g hg; omega)))
  have PX0_14 := Lib.hid (PX0_13.out.only ho14 (by omega))
  have x1_14 := Lib.hid (x1_13.out.only ho14 (fun g hg => .inr (by have := (World.ownsRow.lt x1_13.out g hg).1; omega)))
  have g0_14 := Lib.hid (g0_13.out.only ho14 (fun g hg => .inr (by have := (World.ownsRow.lt g0_13.out g hg).1; omega)))
  have cc0 := PB_14.out.c0
  have cd0 := PB_14.out.c1
  have cc1 := PX0_14.out.c0
  have cd1 := PX0_14.out.c1
  go_wp2_with fail
  clear cc0 cd0
  clear cc1 cd1
  refine (laws_markIntS u6.heap.size _ _ _ _ l1 _ hm3_1 (by omega) (by omega) x1_14.out).mono ?_
  rintro e u15 ⟨rfl, -, hg15⟩
  have ho15 : Only (u6.heap.size) (u7.heap.size) u14 u15 := Only.of_grown hg15 fun g hg => ⟨(World.ownsRow.lt x1_14.out g hg).1, x1b.out g hg⟩
  have S15 := ho15.size
  have hlo15 := ho15.below (show u6.heap.size ≤ u14.heap.size by omega)
  have B15 := B14.trans (hlo15.mono (by omega))
  have PB_15 := Lib.hid (PB_14.out.only ho15 (.inl (by omega)))
  have r0_15 := Lib.hid (r0_14.out.only ho15 (fun g hg => .inl (by have := r0b.out g hg; omega)))
  have PX0_15 := Lib.hid (PX0_14.out.only ho15 (by omega))
  have g0_15 := Lib.hid (g0_14.out.only ho15 (fun g hg => .inr (by have := (World.ownsRow.lt g0_14.out g hg).1; omega)))
  have cc0 := PB_15.out.c0
  have cd0 := PB_15.out.c1
  have cc1 := PX0_15.out.c0
  have cd1 := PX0_15.out.c1
  go_wp2_with fail
  clear cc0 cd0
  clear cc1 cd1
  refine (laws_eqIntA2S _ _ _ _ _ vV _ hVl g0_15.out.ints r0_15.out.ints).mono ?_
  rintro e u16 ⟨rfl, b16⟩
  have S16 := b16.size
  have B16 := B15.trans (b16.mono B15.size)
  have PB_16 := Lib.hid (PB_15.out.below b16)
  have r0_16 := Lib.hid (r0_15.out.below b16)
  have PX0_16 := Lib.hid (PX0_15.out.below b16)
  have g0_16 := Lib.hid (g0_15.out.below b16)
  have cc0 := PB_16.out.c0
  have cd0 := PB_16.out.c1
  have cc1 := PX0_16.out.c0
  have cd1 := PX0_16.out.c1
  go_wp2_with fail
  clear cc0 cd0
  clear cc1 cd1
  refine (laws_markIntA2S u7.heap.size _ _ _ _ vV _ hVl (by omega) (by omega) g0_16.out).mono ?_
  rintro e u17 ⟨rfl, gO17, hg17⟩
  have ho17 : Only (u7.heap.size) (u8.heap.size) u16 u17 := Only.of_grown hg17 fun g hg => ⟨(World.ownsRow.lt g0_16.out g hg).1, g0b.out g hg⟩
  have S17 := ho17.size
  have hlo17 := ho17.below (show u7.heap.size ≤ u16.heap.size by omega)
  have B17 := B16.trans (hlo17.mono (by omega))
  have PB_17 := Lib.hid (PB_16.out.only ho17 (.inl (by omega)))
  have r0_17 := Lib.hid (r0_16.out.only ho17 (fun g hg => .inl (by have := r0b.out g hg; omega)))
  have PX0_17 := Lib.hid (PX0_16.out.only ho17 (by omega))
  have gm17 := Lib.hid gO17
  clear gO17
  have cc0 := PB_17.out.c0
  have cd0 := PB_17.out.c1
  have cc1 := PX0_17.out.c0
  have cd1 := PX0_17.out.c1
  go_wp2_with fail
  clear cc0 cd0
  clear cc1 cd1
  refine (laws_heldIntA2S _ _ _ _ _ hVl (by omega) (by omega) gm17.out.ints).mono ?_
  rintro e wq ⟨rfl, rfl⟩
  have cc0 := PB_17.out.c0
  have cd0 := PB_17.out.c1
  have cc1 := PX0_17.out.c0
  have cd1 := PX0_17.out.c1
  go_wp2_with fail
  clear cc0 cd0
  clear cc1 cd1
  refine (laws_toTree _ _ _ _ _ _ ps0 ws0 _ (HA0.out.below B17)).mono ?_
  rintro e u18 ⟨z0a, z0c, z0e, z0d, rfl, z0o, b18⟩
  have S18 := b18.size
  have B18 := B17.trans (b18.mono B17.size)
  have PB_18 := Lib.hid (PB_17.out.below b18)
  have r0_18 := Lib.hid (r0_17.out.below b18)
  have PX0_18 := Lib.hid (PX0_17.out.below b18)
  have gm_18 := Lib.hid (gm17.out.below b18)
  have z0O := Lib.hid z0o
  clear z0o
  have cc0 := PB_18.out.c0
  have cd0 := PB_18.out.c1
  have cc1 := PX0_18.out.c0
  have cd1 := PX0_18.out.c1
  go_wp2_with fail
  clear cc0 cd0
  clear cc1 cd1
  refine (laws_toIntS _ _ _ l1 _ hm3_1 (H1.out.below B18)).mono ?_
  rintro e u19 ⟨z1v, rfl, z1o, b19⟩
  obtain ⟨z1a, z1c, rfl⟩ := z1o.shape
  rw [hll1.out] at z1o ⊢
  have S19 := b19.size
  have B19 := B18.trans (b19.mono B18.size)
  have PB_19 := Lib.hid (PB_18.out.below b19)
  have r0_19 := Lib.hid (r0_18.out.below b19)
  have PX0_19 := Lib.hid (PX0_18.out.below b19)
  have gm_19 := Lib.hid (gm_18.out.below b19)
  have z0_19 := Lib.hid (z0O.out.below b19)
  have z1O := Lib.hid z1o
  clear z1o
  have cc0 := PB_19.out.c0
  have cd0 := PB_19.out.c1
  have cc1 := PX0_19.out.c0
  have cd1 := PX0_19.out.c1
  go_wp2_with fail
  clear cc0 cd0
  clear cc1 cd1
  refine (Himpl.out _ _ _ _ _ _ _ (z0_19.out.tre hpn0 hwn0) z1O.out.ints z1O.out.cap.2.1).mono ?_
  rintro e u20 ⟨h0, rfl, h0o, b20⟩
  have S20 := b20.size
  have B20 := B19.trans (b20.mono B19.size)
  have PB_20 := Lib.hid (PB_19.out.below b20)
  have r0_20 := Lib.hid (r0_19.out.below b20)
  have PX0_20 := Lib.hid (PX0_19.out.below b20)
  have gm_20 := Lib.hid (gm_19.out.below b20)
  obtain ⟨h0a, h0c, rfl⟩ := h0o.shape
  have h0O := Lib.hid h0o
  clear h0o
  have cc0 := PB_20.out.c0
  have cd0 := PB_20.out.c1
  have cc1 := PX0_20.out.c0
  have cd1 := PX0_20.out.c1
  go_wp2_with fail
  clear cc0 cd0
  clear cc1 cd1
  refine (laws_eqIntA2S _ _ _ _ _ vV _ hVl h0O.out.ints r0_20.out.ints).mono ?_
  rintro e u21 ⟨rfl, b21⟩
  have S21 := b21.size
  have B21 := B20.trans (b21.mono B20.size)
  have PB_21 := Lib.hid (PB_20.out.below b21)
  have r0_21 := Lib.hid (r0_20.out.below b21)
  have PX0_21 := Lib.hid (PX0_20.out.below b21)
  have gm_21 := Lib.hid (gm_20.out.below b21)
  have h0_21 := Lib.hid (h0O.out.below b21)
  have cc0 := PB_21.out.c0
  have cd0 := PB_21.out.c1
  have cc1 := PX0_21.out.c0
  have cd1 := PX0_21.out.c1
  go_wp2_with fail
  clear cc0 cd0
  clear cc1 cd1
  refine (laws_heldIntA2S _ _ _ _ _ hVl (by omega) (by omega) gm_21.out.ints).mono ?_
  rintro e wq ⟨rfl, rfl⟩
  have cc0 := PB_21.out.c0
  have cd0 := PB_21.out.c1
  have cc1 := PX0_21.out.c0
  have cd1 := PX0_21.out.c1
  go_wp2_with fail
  clear cc0 cd0
  clear cc1 cd1
  go_ret
  exact ⟨rfl, B21⟩
end Go.Proofs.Ytjkkfjipgomkdaa.fnExactEnvelopeOf
