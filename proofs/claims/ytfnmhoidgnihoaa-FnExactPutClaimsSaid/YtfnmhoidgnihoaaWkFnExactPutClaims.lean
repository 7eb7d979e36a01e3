/- The walk through the law FnExactPutClaims: it returns true. No conditions but that the arguments can be read. -/
import Derived.Test.YtfnmhoidgnihoaaClaims2
import Derived.Test.YtfnmhoidgnihoaaMkt2
import Derived.Test.YtfnmhoidgnihoaaOpenM
import Derived.Test.YtfnmhoidgnihoaaLawT
import Derived.Test.YtfnmhoidgnihoaaKeep
namespace Go.Proofs.Ytfnmhoidgnihoaa.fnExactPutClaims
open Go.RowKit
set_option linter.unusedVariables false
set_option maxRecDepth 100000 in
set_option maxHeartbeats 4000000 in
theorem walk (aP0 : Option Addr) (nP0 cP0 : Nat) (aW0 : Option Addr) (nW0 cW0 : Nat) (aL0 : Option Addr) (nL0 cL0 : Nat) (ps0 ws0 q0 : List Int) (n1 : Int) (w1 : (Lit.int .i64 n1).wf = true) (w : World) (h0 : MktA w aP0 nP0 cP0 aW0 nW0 cW0 aL0 nL0 cL0 ps0 ws0 q0) :
    Calls Try.prog 13 #[.agg #[.slice aP0 nP0 cP0, .slice aW0 nW0 cW0, .slice aL0 nL0 cL0], .int .i64 n1] w fun e w' => e = .returned (.bool true) ∧ Below w.heap.size w w' := by
  clear w1
  have hpl0 := Lib.hid h0.t.p.1
  have hwl0 := Lib.hid h0.t.w.1
  have hpm0 := Lib.hid h0.t.pn
  have hwm0 := Lib.hid h0.t.wn
  have hlm0 := Lib.hid h0.ln
  have H0 := Lib.hid h0
  clear h0
  have hB0 : Below w.heap.size w ((w).alloc (.cells #[.slice aP0 nP0 cP0, .slice aW0 nW0 cW0, .slice aL0 nL0 cL0] 26)) := below_new w _
  have hPB0 := Lib.hid (Trip.new w (.slice aP0 nP0 cP0) (.slice aW0 nW0 cW0) (.slice aL0 nL0 cL0) 26)
  have Hspec : Hid (∀ (W : World) (b0 : Option Addr) (d0 : Nat) (e0 : Option Addr) (f0 : Nat) (g0 : Option Addr) (j0 : Nat), Mkt W b0 nP0 d0 e0 nW0 f0 g0 nL0 j0 ps0 ws0 q0 → Calls Try.prog 47 #[.agg #[.slice b0 nP0 d0, .slice e0 nW0 f0, .slice g0 nL0 j0], .int .i64 n1] W fun e w' => ∃ v, e = .returned (.tuple #[v, .bool (claimsB ps0 ws0 q0 n1)]) ∧ Own w' W.heap.size v (claimsV ps0 ws0 q0 n1 (putG n1)) ∧ Below W.heap.size W w') := Lib.hid fun W b0 d0 e0 f0 g0 j0 h0' => spec_PutClaims b0 nP0 d0 e0 nW0 f0 g0 nL0 j0 ps0 ws0 q0 n1 W h0'
  have Himpl : Hid (∀ (W : World) (b0 : Option Addr) (d0 : Nat) (e0 : Option Addr) (f0 : Nat) (g0 : Option Addr) (j0 : Nat), Mkt W b0 nP0 d0 e0 nW0 f0 g0 nL0 j0 ps0 ws0 q0 → Calls Try.prog 48 #[.agg #[.slice b0 nP0 d0, .slice e0 nW0 f0, .slice g0 nL0 j0], .int .i64 n1] W fun e w' => ∃ v, e = .returned (.tuple #[v, .bool (claimsB ps0 ws0 q0 n1)]) ∧ Own w' W.heap.size v (claimsV ps0 ws0 q0 n1 (putG n1)) ∧ Below W.heap.size W w') := Lib.hid fun W b0 d0 e0 f0 g0 j0 h0' => impl_PutClaims b0 nP0 d0 e0 nW0 f0 g0 nL0 j0 ps0 ws0 q0 n1 W h0'
  have hVlen : Hid ((claimsV ps0 ws0 q0 n1 (putG n1)).length ≤ 4294967296) := Lib.hid (Nat.le_trans claimsV_len (by omega))
  generalize claimsV ps0 ws0 q0 n1 (putG n1) = vV at *
  generalize claimsB ps0 ws0 q0 n1 = vB at *
  go_enter Try.func13, Try.ntmps13
  go_wp2_with fail
  generalize (w.alloc (.cells #[.slice aP0 nP0 cP0, .slice aW0 nW0 cW0, .slice aL0 nL0 cL0] 26)) = u0 at *
  have S00 := hB0.size
  have hlt0 := hPB0.out.lt
  refine (laws_szMarket _ _ _ _ _ _ _ _ _ _ _ hpm0.out hwm0.out hlm0.out (by omega) (by omega)).mono ?_
  rintro e u1 ⟨⟨z, rfl, hz, hz1, hz2⟩, b1⟩
  have S1 := b1.size
  have B1 := hB0.trans (b1.mono hB0.size)
  have PB_1 := Lib.hid (hPB0.out.below b1)
  by_cases hzn : z < 0
  · clear hz
    go_wp2_with fail
    go_ret
    exact ⟨rfl, B1⟩
  have hz' := hz (by omega)
  have hpn0 := hz'.1.1
  have hwn0 := hz'.1.2
  have hln0 := hz'.2
  clear hz hz'
  have HA0 : Hid (Mkt w aP0 nP0 cP0 aW0 nW0 cW0 aL0 nL0 cL0 ps0 ws0 q0) := Lib.hid (H0.out.mkt hpn0 hwn0 hln0)
  have cc0 := PB_1.out.c0
  have cd0 := PB_1.out.c1
  have ce0 := PB_1.out.c2
  go_wp2_with fail
  clear cc0 cd0 ce0
  refine (laws_toMarket _ _ _ _ _ _ _ _ _ ps0 ws0 q0 _ (HA0.out.below B1)).mono ?_
  rintro e u2 ⟨s0a, s0c, s0e, s0d, s0g, s0f, rfl, s0o, b2⟩
  have S2 := b2.size
  have B2 := B1.trans (b2.mono B1.size)
  have PB_2 := Lib.hid (PB_1.out.below b2)
  have s0O := Lib.hid s0o
  clear s0o
  have cc0 := PB_2.out.c0
  have cd0 := PB_2.out.c1
  have ce0 := PB_2.out.c2
  go_wp2_with fail
  clear cc0 cd0 ce0
  refine (Hspec.out _ _ _ _ _ _ _ (s0O.out.mkt hpn0 hwn0 hln0)).mono ?_
  rintro e u3 ⟨r0, rfl, r0o, b3⟩
  have S3 := b3.size
  have B3 := B2.trans (b3.mono B2.size)
  have PB_3 := Lib.hid (PB_2.out.below b3)
  obtain ⟨r0a, r0c, rfl⟩ := r0o.shape
  have r0O := Lib.hid r0o
  clear r0o
  have r0b : Hid (∀ g, (Value.slice r0a vV.length r0c).ownBlock = some g → g < u3.heap.size) := Lib.hid fun g hg => (World.ownsRow.lt r0O.out g hg).2
  have cc0 := PB_3.out.c0
  have cd0 := PB_3.out.c1
  have ce0 := PB_3.out.c2
  go_wp2_with fail
  clear cc0 cd0 ce0
  refine (laws_toMarket _ _ _ _ _ _ _ _ _ ps0 ws0 q0 _ (HA0.out.below B3)).mono ?_
  rintro e u4 ⟨x0a, x0c, x0e, x0d, x0g, x0f, rfl, x0o, b4⟩
  have S4 := b4.size
  have B4 := B3.trans (b4.mono B3.size)
  have PB_4 := Lib.hid (PB_3.out.below b4)
  have r0_4 := Lib.hid (r0O.out.below b4)
  have x0O := Lib.hid x0o
  clear x0o
  have x0b := Lib.hid x0O.out.lt
  have cc0 := PB_4.out.c0
  have cd0 := PB_4.out.c1
  have ce0 := PB_4.out.c2
  go_wp2_with fail
  clear cc0 cd0 ce0
  have X0_0 := Lib.hid (Trip.new u4 (.slice x0a nP0 x0c) (.slice x0e nW0 x0d) (.slice x0g nL0 x0f) 31)
  have SL5 := X0_0.out.lt
  have b5 := below_new u4 (.cells #[.slice x0a nP0 x0c, .slice x0e nW0 x0d, .slice x0g nL0 x0f] 31)
  have S5 := b5.size
  have B5 := B4.trans (b5.mono B4.size)
  have PB_5 := Lib.hid (PB_4.out.below b5)
  have r0_5 := Lib.hid (r0_4.out.below b5)
  have x0_5 := Lib.hid (x0O.out.below b5)
  generalize (u4.alloc (.cells #[.slice x0a nP0 x0c, .slice x0e nW0 x0d, .slice x0g nL0 x0f] 31)) = u5 at *
  refine (Himpl.out _ _ _ _ _ _ _ (x0_5.out.mkt hpn0 hwn0 hln0)).mono ?_
  rintro e u6 ⟨g0, rfl, g0o, b6⟩
  have S6 := b6.size
  have B6 := B5.trans (b6.mono B5.size)
  have PB_6 := Lib.hid (PB_5.out.below b6)
  have r0_6 := Lib.hid (r0_5.out.below b6)
  have x0_6 := Lib.hid (x0_5.out.below b6)
  have PX0_6 := Lib.hid (X0_0.out.below b6)
  obtain ⟨g0a, g0c, rfl⟩ := g0o.shape
  have g0O := Lib.hid g0o
  clear g0o
  have g0b : Hid (∀ g, (Value.slice g0a vV.length g0c).ownBlock = some g → g < u6.heap.size) := Lib.hid fun g hg => (World.ownsRow.lt g0O.out g hg).2
  have cc0 := PB_6.out.c0
  have cd0 := PB_6.out.c1
  have ce0 := PB_6.out.c2
  have cc1 := PX0_6.out.c0
  have cd1 := PX0_6.out.c1
  have ce1 := PX0_6.out.c2
  go_wp2_with fail
  clear cc0 cd0 ce0
  clear cc1 cd1 ce1
  have hVl : vV.length ≤ 4294967296 := hVlen.out
  refine (laws_eqIntS _ _ _ _ _ vV _ hVl g0O.out.ints r0_6.out.ints).mono ?_
  rintro e u7 ⟨rfl, b7⟩
  have S7 := b7.size
  have B7 := B6.trans (b7.mono B6.size)
  have PB_7 := Lib.hid (PB_6.out.below b7)
  have r0_7 := Lib.hid (r0_6.out.below b7)
  have x0_7 := Lib.hid (x0_6.out.below b7)
  have PX0_7 := Lib.hid (PX0_6.out.below b7)
  have g0_7 := Lib.hid (g0O.out.below b7)
  have cc0 := PB_7.out.c0
  have cd0 := PB_7.out.c1
  have ce0 := PB_7.out.c2
  have cc1 := PX0_7.out.c0
  have cd1 := PX0_7.out.c1
  have ce1 := PX0_7.out.c2
  go_wp2_with fail
  clear cc0 cd0 ce0
  clear cc1 cd1 ce1
  have ra90 := PX0_7.out.c0
  have rb90 := PB_7.out.c0
  have ra91 := PX0_7.out.c1
  have rb91 := PB_7.out.c1
  have ra92 := PX0_7.out.c2
  have rb92 := PB_7.out.c2
  have hHA9 := Lib.hid (HA0.out.below B7)
  have hHX9 := Lib.hid (x0_7.out.mkt hpn0 hwn0 hln0)
  go_region_held3 (fun W' => KeepR u7 W' ∧ W'.cell? ⟨u4.heap.size, 0, none⟩ = some (.slice x0a nP0 x0c) ∧ W'.cell? ⟨u4.heap.size, 1, none⟩ = some (.slice x0e nW0 x0d) ∧ W'.cell? ⟨u4.heap.size, 2, none⟩ = some (.slice x0g nL0 x0f) ∧ W'.cell? ⟨w.heap.size, 0, none⟩ = some (.slice aP0 nP0 cP0) ∧ W'.cell? ⟨w.heap.size, 1, none⟩ = some (.slice aW0 nW0 cW0) ∧ W'.cell? ⟨w.heap.size, 2, none⟩ = some (.slice aL0 nL0 cL0))
    (first | exact keepC6 (by assumption) ra90 ra91 ra92 rb90 rb91 rb92 | exact keepC6 (KeepR.start _) ra90 ra91 ra92 rb90 rb91 rb92)
    (first
      | (go_at_call 17; refine (laws_toMarket _ _ _ _ _ _ _ _ _ ps0 ws0 q0 _ (hHA9.out.below (by assumption : KeepR u7 _ ∧ _).1)).mono ?_; rintro e u8 ⟨ta9, tc9, te9, td9, tg9, tf9, rfl, to9, hb9⟩; have hk9 := KeepR.next hb9 (by assumption : KeepR u7 _ ∧ _).1)
      | (go_at_call 19; refine (laws_eqMarket _ _ _ _ _ _ _ _ _ _ _ _ _ _ _ ps0 ws0 q0 _ (hHX9.out.below (by assumption : KeepR u7 _ ∧ _).1) (to9.mkt hpn0 hwn0 hln0)).mono ?_; rintro e u9 ⟨rfl, hc9⟩; have hl9 := KeepR.next hc9 (by assumption : KeepR u7 _ ∧ _).1))
  have b9 : Below u7.heap.size u7 u9 := hl9
  clear ra90 rb90 ra91 rb91 ra92 rb92
  have S9 := b9.size
  have B9 := B7.trans (b9.mono B7.size)
  have PB_9 := Lib.hid (PB_7.out.below b9)
  have r0_9 := Lib.hid (r0_7.out.below b9)
  have x0_9 := Lib.hid (x0_7.out.below b9)
  have PX0_9 := Lib.hid (PX0_7.out.below b9)
  have g0_9 := Lib.hid (g0_7.out.below b9)
  have cc0 := PB_9.out.c0
  have cd0 := PB_9.out.c1
  have ce0 := PB_9.out.c2
  have cc1 := PX0_9.out.c0
  have cd1 := PX0_9.out.c1
  have ce1 := PX0_9.out.c2
  go_wp2_with fail
  clear cc0 cd0 ce0
  clear cc1 cd1 ce1
  refine (laws_markMarket u3.heap.size u4.heap.size u3.heap.size _ _ _ _ _ _ _ _ _ _ _ _ _ _ hpn0 hwn0 hln0 (by omega) (by omega) x0_9.out (Nat.le_refl _) ⟨fun g hg => (x0b.out.1.1 g hg).2, fun g hg => (x0b.out.1.2 g hg).2, fun g hg => (x0b.out.2 g hg).2⟩).mono ?_
  rintro e u10 ⟨rfl, ho10⟩
  have S10 := ho10.size
  have hlo10 := ho10.below (show u3.heap.size ≤ u9.heap.size by omega)
  have B10 := B9.trans (hlo10.mono (by omega))
  have PB_10 := Lib.hid (PB_9.out.only ho10 (.inl (by omega)))
  have r0_10 := Lib.hid (r0_9.out.only ho10 (fun g hg => .inl (by have := r0b.out g hg; omega)))
  have PX0_10 := Lib.hid (PX0_9.out.only ho10 (by omega))
  have g0_10 := Lib.hid (g0_9.out.only ho10 (fun g hg => .inr (by have := (World.ownsRow.lt g0_9.out g hg).1; omega)))
  have cc0 := PB_10.out.c0
  have cd0 := PB_10.out.c1
  have ce0 := PB_10.out.c2
  have cc1 := PX0_10.out.c0
  have cd1 := PX0_10.out.c1
  have ce1 := PX0_10.out.c2
  go_wp2_with fail
  clear cc0 cd0 ce0
  clear cc1 cd1 ce1
  refine (laws_eqIntS _ _ _ _ _ vV _ hVl g0_10.out.ints r0_10.out.ints).mono ?_
  rintro e u11 ⟨rfl, b11⟩
  have S11 := b11.size
  have B11 := B10.trans (b11.mono B10.size)
  have PB_11 := Lib.hid (PB_10.out.below b11)
  have r0_11 := Lib.hid (r0_10.out.below b11)
  have PX0_11 := Lib.hid (PX0_10.out.below b11)
  have g0_11 := Lib.hid (g0_10.out.below b11)
  have cc0 := PB_11.out.c0
  have cd0 := PB_11.out.c1
  have ce0 := PB_11.out.c2
  have cc1 := PX0_11.out.c0
  have cd1 := PX0_11.out.c1
  have ce1 := PX0_11.out.c2
  go_wp2_with fail
  clear cc0 cd0 ce0
  clear cc1 cd1 ce1
  refine (laws_markIntS u5.heap.size _ _ _ _ vV _ hVl (by omega) (by omega) g0_11.out).mono ?_
  rintro e u12 ⟨rfl, gO12, hg12⟩
  have ho12 : Only (u5.heap.size) (u6.heap.size) u11 u12 := Only.of_grown hg12 fun g hg => ⟨(World.ownsRow.lt g0_11.out g hg).1, g0b.out g hg⟩
  have S12 := ho12.size
  have hlo12 := ho12.below (show u5.heap.size ≤ u11.heap.size by omega)
  have B12 := B11.trans (hlo12.mono (by omega))
  have PB_12 := Lib.hid (PB_11.out.only ho12 (.inl (by omega)))
  have r0_12 := Lib.hid (r0_11.out.only ho12 (fun g hg => .inl (by have := r0b.out g hg; omega)))
  have PX0_12 := Lib.hid (PX0_11.out.only ho12 (by omega))
  have gm12 := Lib.hid gO12
  clear gO12
  have cc0 := PB_12.out.c0
  have cd0 := PB_12.out.c1
  have ce0 := PB_12.out.c2
  have cc1 := PX0_12.out.c0
  have cd1 := PX0_12.out.c1
  have ce1 := PX0_12.out.c2
  go_wp2_with fail
  clear cc0 cd0 ce0
  clear cc1 cd1 ce1
  refine (laws_heldIntS _ _ _ _ _ hVl (by omega) (by omega) gm12.out.ints).mono ?_
  rintro e wq ⟨rfl, rfl⟩
  have cc0 := PB_12.out.c0
  have cd0 := PB_12.out.c1
  have ce0 := PB_12.out.c2
  have cc1 := PX0_12.out.c0
  have cd1 := PX0_12.out.c1
  have ce1 := PX0_12.out.c2
  go_wp2_with fail
  clear cc0 cd0 ce0
  clear cc1 cd1 ce1
  refine (laws_toMarket _ _ _ _ _ _ _ _ _ ps0 ws0 q0 _ (HA0.out.below B12)).mono ?_
  rintro e u13 ⟨z0a, z0c, z0e, z0d, z0g, z0f, rfl, z0o, b13⟩
  have S13 := b13.size
  have B13 := B12.trans (b13.mono B12.size)
  have PB_13 := Lib.hid (PB_12.out.below b13)
  have r0_13 := Lib.hid (r0_12.out.below b13)
  have PX0_13 := Lib.hid (PX0_12.out.below b13)
  have gm_13 := Lib.hid (gm12.out.below b13)
  have z0O := Lib.hid z0o
  clear z0o
  have cc0 := PB_13.out.c0
  have cd0 := PB_13.out.c1
  have ce0 := PB_13.out.c2
  have cc1 := PX0_13.out.c0
  have cd1 := PX0_13.out.c1
  have ce1 := PX0_13.out.c2
  go_wp2_with fail
  clear cc0 cd0 ce0
  clear cc1 cd1 ce1
  refine (Himpl.out _ _ _ _ _ _ _ (z0O.out.mkt hpn0 hwn0 hln0)).mono ?_
  rintro e u14 ⟨h0, rfl, h0o, b14⟩
  have S14 := b14.size
  have B14 := B13.trans (b14.mono B13.size)
  have PB_14 := Lib.hid (PB_13.out.below b14)
  have r0_14 := Lib.hid (r0_13.out.below b14)
  have PX0_14 := Lib.hid (PX0_13.out.below b14)
  have gm_14 := Lib.hid (gm_13.out.below b14)
  obtain ⟨h0a, h0c, rfl⟩ := h0o.shape
  have h0O := Lib.hid h0o
  clear h0o
  have cc0 := PB_14.out.c0
  have cd0 := PB_14.out.c1
  have ce0 := PB_14.out.c2
  have cc1 := PX0_14.out.c0
  have cd1 := PX0_14.out.c1
  have ce1 := PX0_14.out.c2
  go_wp2_with fail
  clear cc0 cd0 ce0
  clear cc1 cd1 ce1
  refine (laws_eqIntS _ _ _ _ _ vV _ hVl h0O.out.ints r0_14.out.ints).mono ?_
  rintro e u15 ⟨rfl, b15⟩
  have S15 := b15.size
  have B15 := B14.trans (b15.mono B14.size)
  have PB_15 := Lib.hid (PB_14.out.below b15)
  have r0_15 := Lib.hid (r0_14.out.below b15)
  have PX0_15 := Lib.hid (PX0_14.out.below b15)
  have gm_15 := Lib.hid (gm_14.out.below b15)
  have h0_15 := Lib.hid (h0O.out.below b15)
  have cc0 := PB_15.out.c0
  have cd0 := PB_15.out.c1
  have ce0 := PB_15.out.c2
  have cc1 := PX0_15.out.c0
  have cd1 := PX0_15.out.c1
  have ce1 := PX0_15.out.c2
  go_wp2_with fail
  clear cc0 cd0 ce0
  clear cc1 cd1 ce1
  refine (laws_heldIntS _ _ _ _ _ hVl (by omega) (by omega) gm_15.out.ints).mono ?_
  rintro e wq ⟨rfl, rfl⟩
  have cc0 := PB_15.out.c0
  have cd0 := PB_15.out.c1
  have ce0 := PB_15.out.c2
  have cc1 := PX0_15.out.c0
  have cd1 := PX0_15.out.c1
  have ce1 := PX0_15.out.c2
  go_wp2_with fail
  clear cc0 cd0 ce0
  clear cc1 cd1 ce1
  go_ret
  exact ⟨rfl, B15⟩
end Go.Proofs.Ytfnmhoidgnihoaa.fnExactPutClaims
