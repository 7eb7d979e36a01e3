/- The walk through the law FnExactIsFull: it returns true. No conditions but that the arguments can be read. -/
import Derived.Test.YtfnmhoidgnihoaaUneven2
import Derived.Test.YtfnmhoidgnihoaaMkt2
import Derived.Test.YtfnmhoidgnihoaaOpenM
import Derived.Test.YtfnmhoidgnihoaaLawT
import Derived.Test.YtfnmhoidgnihoaaKeep
namespace Go.Proofs.Ytfnmhoidgnihoaa.fnExactIsFull
open Go.RowKit
set_option linter.unusedVariables false
set_option maxRecDepth 100000 in
set_option maxHeartbeats 4000000 in
theorem walk (aP0 : Option Addr) (nP0 cP0 : Nat) (aW0 : Option Addr) (nW0 cW0 : Nat) (aL0 : Option Addr) (nL0 cL0 : Nat) (ps0 ws0 q0 : List Int)  (w : World) (h0 : MktA w aP0 nP0 cP0 aW0 nW0 cW0 aL0 nL0 cL0 ps0 ws0 q0) :
    Calls Try.prog 10 #[.agg #[.slice aP0 nP0 cP0, .slice aW0 nW0 cW0, .slice aL0 nL0 cL0]] w fun e w' => e = .returned (.bool true) ∧ Below w.heap.size w w' := by
  have hpl0 := Lib.hid h0.t.p.1
  have hwl0 := Lib.hid h0.t.w.1
  have hpm0 := Lib.hid h0.t.pn
  have hwm0 := Lib.hid h0.t.wn
  have hlm0 := Lib.hid h0.ln
  have H0 := Lib.hid h0
  clear h0
  have hB0 : Below w.heap.size w ((w).alloc (.cells #[.slice aP0 nP0 cP0, .slice aW0 nW0 cW0, .slice aL0 nL0 cL0] 26)) := below_new w _
  have hPB0 := Lib.hid (Trip.new w (.slice aP0 nP0 cP0) (.slice aW0 nW0 cW0) (.slice aL0 nL0 cL0) 26)
  have Hspec : Hid (∀ (W : World) (b0 : Option Addr) (d0 : Nat) (e0 : Option Addr) (f0 : Nat) (g0 : Option Addr) (j0 : Nat), Mkt W b0 nP0 d0 e0 nW0 f0 g0 nL0 j0 ps0 ws0 q0 → Calls Try.prog 41 #[.agg #[.slice b0 nP0 d0, .slice e0 nW0 f0, .slice g0 nL0 j0]] W fun e w' => e = .returned (.tuple #[.bool (fullV ps0 ws0 q0), .bool (sndB ps0 ws0 q0)]) ∧ Below W.heap.size W w') := Lib.hid fun W b0 d0 e0 f0 g0 j0 h0' => spec_IsFull b0 nP0 d0 e0 nW0 f0 g0 nL0 j0 ps0 ws0 q0 W h0'
  have Himpl : Hid (∀ (W : World) (b0 : Option Addr) (d0 : Nat) (e0 : Option Addr) (f0 : Nat) (g0 : Option Addr) (j0 : Nat), Mkt W b0 nP0 d0 e0 nW0 f0 g0 nL0 j0 ps0 ws0 q0 → Calls Try.prog 42 #[.agg #[.slice b0 nP0 d0, .slice e0 nW0 f0, .slice g0 nL0 j0]] W fun e w' => e = .returned (.tuple #[.bool (fullV ps0 ws0 q0), .bool (sndB ps0 ws0 q0)]) ∧ Below W.heap.size W w') := Lib.hid fun W b0 d0 e0 f0 g0 j0 h0' => impl_IsFull b0 nP0 d0 e0 nW0 f0 g0 nL0 j0 ps0 ws0 q0 W h0'
  generalize fullV ps0 ws0 q0 = vV at *
  generalize sndB ps0 ws0 q0 = vB at *
  go_enter Try.func10, Try.ntmps10
  go_wp2_with fail
  generalize (w.alloc (.cells #[.slice aP0 nP0 cP0, .slice aW0 nW0 cW0, .slice aL0 nL0 cL0] 26)) = u0 at *
  have S00 := hB0.size
  have hlt0 := hPB0.out.lt
  refine (laws_szMarket _ _ _ _ _ _ _ _ _ _ _ hpm0.out hwm0.out hlm0.out (by omega) (by omega)).mono ?_
  rintro e u1 ⟨⟨z, rfl, hz, hz1, hz2⟩, b1⟩
  have S1 := b1.size
  have B1 := hB0.trans (b1.mono hB0.size)
  have PB_1 := Lib.hid (hPB0.out.below b1)
  by_cases hzn : z < 0
  · clear hz
    go_wp2_with fail
    go_ret
    exact ⟨rfl, B1⟩
  have hz' := hz (by omega)
  have hpn0 := hz'.1.1
  have hwn0 := hz'.1.2
  have hln0 := hz'.2
  clear hz hz'
  have HA0 : Hid (Mkt w aP0 nP0 cP0 aW0 nW0 cW0 aL0 nL0 cL0 ps0 ws0 q0) := Lib.hid (H0.out.mkt hpn0 hwn0 hln0)
  have cc0 := PB_1.out.c0
  have cd0 := PB_1.out.c1
  have ce0 := PB_1.out.c2
  go_wp2_with fail
  clear cc0 cd0 ce0
  refine (laws_toMarket _ _ _ _ _ _ _ _ _ ps0 ws0 q0 _ (HA0.out.below B1)).mono ?_
  rintro e u2 ⟨s0a, s0c, s0e, s0d, s0g, s0f, rfl, s0o, b2⟩
  have S2 := b2.size
  have B2 := B1.trans (b2.mono B1.size)
  have PB_2 := Lib.hid (PB_1.out.below b2)
  have s0O := Lib.hid s0o
  clear s0o
  have cc0 := PB_2.out.c0
  have cd0 := PB_2.out.c1
  have ce0 := PB_2.out.c2
  go_wp2_with fail
  clear cc0 cd0 ce0
  refine (Hspec.out _ _ _ _ _ _ _ (s0O.out.mkt hpn0 hwn0 hln0)).mono ?_
  rintro e u3 ⟨rfl, b3⟩
  have S3 := b3.size
  have B3 := B2.trans (b3.mono B2.size)
  have PB_3 := Lib.hid (PB_2.out.below b3)
  have cc0 := PB_3.out.c0
  have cd0 := PB_3.out.c1
  have ce0 := PB_3.out.c2
  go_wp2_with fail
  clear cc0 cd0 ce0
  refine (laws_toMarket _ _ _ _ _ _ _ _ _ ps0 ws0 q0 _ (HA0.out.below B3)).mono ?_
  rintro e u4 ⟨x0a, x0c, x0e, x0d, x0g, x0f, rfl, x0o, b4⟩
  have S4 := b4.size
  have B4 := B3.trans (b4.mono B3.size)
  have PB_4 := Lib.hid (PB_3.out.below b4)
  have x0O := Lib.hid x0o
  clear x0o
  have x0b := Lib.hid x0O.out.lt
  have cc0 := PB_4.out.c0
  have cd0 := PB_4.out.c1
  have ce0 := PB_4.out.c2
  go_wp2_with fail
  clear cc0 cd0 ce0
  have X0_0 := Lib.hid (Trip.new u4 (.slice x0a nP0 x0c) (.slice x0e nW0 x0d) (.slice x0g nL0 x0f) 31)
  have SL5 := X0_0.out.lt
  have b5 := below_new u4 (.cells #[.slice x0a nP0 x0c, .slice x0e nW0 x0d, .slice x0g nL0 x0f] 31)
  have S5 := b5.size
  have B5 := B4.trans (b5.mono B4.size)
  have PB_5 := Lib.hid (PB_4.out.below b5)
  have x0_5 := Lib.hid (x0O.out.below b5)
  generalize (u4.alloc (.cells #[.slice x0a nP0 x0c, .slice x0e nW0 x0d, .slice x0g nL0 x0f] 31)) = u5 at *
  refine (Himpl.out _ _ _ _ _ _ _ (x0_5.out.mkt hpn0 hwn0 hln0)).mono ?_
  rintro e u6 ⟨rfl, b6⟩
  have S6 := b6.size
  have B6 := B5.trans (b6.mono B5.size)
  have PB_6 := Lib.hid (PB_5.out.below b6)
  have x0_6 := Lib.hid (x0_5.out.below b6)
  have PX0_6 := Lib.hid (X0_0.out.below b6)
  have cc0 := PB_6.out.c0
  have cd0 := PB_6.out.c1
  have ce0 := PB_6.out.c2
  have cc1 := PX0_6.out.c0
  have cd1 := PX0_6.out.c1
  have ce1 := PX0_6.out.c2
  go_wp2_with fail
  clear cc0 cd0 ce0
  clear cc1 cd1 ce1
  have ra80 := PX0_6.out.c0
  have rb80 := PB_6.out.c0
  have ra81 := PX0_6.out.c1
  have rb81 := PB_6.out.c1
  have ra82 := PX0_6.out.c2
  have rb82 := PB_6.out.c2
  have hHA8 := Lib.hid (HA0.out.below B6)
  have hHX8 := Lib.hid (x0_6.out.mkt hpn0 hwn0 hln0)
  go_region_held3 (fun W' => KeepR u6 W' ∧ W'.cell? ⟨u4.heap.size, 0, none⟩ = some (.slice x0a nP0 x0c) ∧ W'.cell? ⟨u4.heap.size, 1, none⟩ = some (.slice x0e nW0 x0d) ∧ W'.cell? ⟨u4.heap.size, 2, none⟩ = some (.slice x0g nL0 x0f) ∧ W'.cell? ⟨w.heap.size, 0, none⟩ = some (.slice aP0 nP0 cP0) ∧ W'.cell? ⟨w.heap.size, 1, none⟩ = some (.slice aW0 nW0 cW0) ∧ W'.cell? ⟨w.heap.size, 2, none⟩ = some (.slice aL0 nL0 cL0))
    (first | exact keepC6 (by assumption) ra80 ra81 ra82 rb80 rb81 rb82 | exact keepC6 (KeepR.start _) ra80 ra81 ra82 rb80 rb81 rb82)
    (first
      | (go_at_call 17; refine (laws_toMarket _ _ _ _ _ _ _ _ _ ps0 ws0 q0 _ (hHA8.out.below (by assumption : KeepR u6 _ ∧ _).1)).mono ?_; rintro e u7 ⟨ta8, tc8, te8, td8, tg8, tf8, rfl, to8, hb8⟩; have hk8 := KeepR.next hb8 (by assumption : KeepR u6 _ ∧ _).1)
      | (go_at_call 19; refine (laws_eqMarket _ _ _ _ _ _ _ _ _ _ _ _ _ _ _ ps0 ws0 q0 _ (hHX8.out.below (by assumption : KeepR u6 _ ∧ _).1) (to8.mkt hpn0 hwn0 hln0)).mono ?_; rintro e u8 ⟨rfl, hc8⟩; have hl8 := KeepR.next hc8 (by assumption : KeepR u6 _ ∧ _).1))
  have b8 : Below u6.heap.size u6 u8 := hl8
  clear ra80 rb80 ra81 rb81 ra82 rb82
  have S8 := b8.size
  have B8 := B6.trans (b8.mono B6.size)
  have PB_8 := Lib.hid (PB_6.out.below b8)
  have x0_8 := Lib.hid (x0_6.out.below b8)
  have PX0_8 := Lib.hid (PX0_6.out.below b8)
  have cc0 := PB_8.out.c0
  have cd0 := PB_8.out.c1
  have ce0 := PB_8.out.c2
  have cc1 := PX0_8.out.c0
  have cd1 := PX0_8.out.c1
  have ce1 := PX0_8.out.c2
  go_wp2_with fail
  clear cc0 cd0 ce0
  clear cc1 cd1 ce1
  go_ret
  exact ⟨rfl, B8⟩
end Go.Proofs.Ytfnmhoidgnihoaa.fnExactIsFull
