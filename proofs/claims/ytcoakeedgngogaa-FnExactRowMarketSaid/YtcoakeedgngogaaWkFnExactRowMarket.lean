/- The walk through the law FnExactRowMarket: it returns true. No conditions but that the arguments are integers. -/
import Derived.Test.YtcoakeedgngogaaRm1
import Derived.Test.YtcoakeedgngogaaRm2
import Derived.Test.YtcoakeedgngogaaMkR
import Derived.Test.YtcoakeedgngogaaMkt
namespace Go.Proofs.Ytcoakeedgngogaa.fnExactRowMarket
open Go.RowKit
set_option linter.unusedVariables false
set_option maxRecDepth 100000 in
set_option maxHeartbeats 4000000 in
theorem walk (a0 a1 a2 a3 : Int) (w0 : (Lit.int .i64 a0).wf = true) (w1 : (Lit.int .i64 a1).wf = true) (w2 : (Lit.int .i64 a2).wf = true) (w3 : (Lit.int .i64 a3).wf = true) (w : World) :
    Calls Try.prog 4 #[.int .i64 a0, .int .i64 a1, .int .i64 a2, .int .i64 a3] w fun e w' => e = .returned (.bool true) ∧ Below w.heap.size w w' := by
  clear w0 w1 w2 w3
  have Hlen := Lib.hid (mk_len a0 a1 a2 a3)
  have Hs : Hid (∀ W : World, Calls Try.prog 14 #[.int .i64 a0, .int .i64 a1, .int .i64 a2, .int .i64 a3] W fun e w' => (∃ v, e = .returned (.tuple #[v, .bool (mkOk a0 a1 a2 a3)]) ∧ MkR w' W.heap.size v (mkP a0 a1 a2 a3) (mkW a0 a1 a2 a3) (mkL a0 a1 a2 a3)) ∧ Below W.heap.size W w') := Lib.hid fun W => spec_RowMarket a0 a1 a2 a3 W
  have Hi : Hid (∀ W : World, Calls Try.prog 15 #[.int .i64 a0, .int .i64 a1, .int .i64 a2, .int .i64 a3] W fun e w' => (∃ v, e = .returned (.tuple #[v, .bool (mkOk a0 a1 a2 a3)]) ∧ MkR w' W.heap.size v (mkP a0 a1 a2 a3) (mkW a0 a1 a2 a3) (mkL a0 a1 a2 a3)) ∧ Below W.heap.size W w') := Lib.hid fun W => impl_RowMarket a0 a1 a2 a3 W
  generalize mkOk a0 a1 a2 a3 = b at *
  generalize mkP a0 a1 a2 a3 = ps at *
  generalize mkW a0 a1 a2 a3 = ws at *
  generalize mkL a0 a1 a2 a3 = ls at *
  obtain ⟨nP, hnP⟩ : ∃ z, z = ps.length := ⟨_, rfl⟩
  obtain ⟨nW, hnW⟩ : ∃ z, z = ws.length := ⟨_, rfl⟩
  obtain ⟨nL, hnL⟩ : ∃ z, z = ls.length := ⟨_, rfl⟩
  have hl := Hlen.out
  rw [← hnP, ← hnW, ← hnL] at hl
  have HnP := Lib.hid hnP
  have HnW := Lib.hid hnW
  have HnL := Lib.hid hnL
  clear Hlen hnP hnW hnL
  go_enter Try.func4, Try.ntmps4
  go_wp2_with fail
  refine (Hs.out _).mono ?_
  rintro e y1 ⟨⟨v, rfl, aP, cP, aW, cW, aL, cL, rfl, hT⟩, b1⟩
  rw [← HnP.out, ← HnW.out, ← HnL.out] at hT ⊢
  have HM := Lib.hid (⟨⟨hT.p.ints, hT.q.ints, by omega, by omega, hT.p.cap.2.1, hT.q.cap.2.1⟩, hT.l.ints, by omega, hT.l.cap.2.1⟩ : Mkt y1 aP nP cP aW nW cW aL nL cL ps ws ls)
  have hX := Trip.new y1 (.slice none 0 0) (.slice none 0 0) (.slice none 0 0) 35
  have q0 := hX.c0
  have q1 := hX.c1
  have q2 := hX.c2
  have f0 := hX.f0
  have f1 := hX.f1
  have f2 := hX.f2
  have HX := Lib.hid (Trip.new y1 (.slice aP nP cP) (.slice aW nW cW) (.slice aL nL cL) 35)
  have HM2 := Lib.hid (HM.out.below (below_new y1 (.cells #[.slice aP nP cP, .slice aW nW cW, .slice aL nL cL] 35)))
  have B2 := Lib.hid (b1.alloc b1.size (.cells #[.slice aP nP cP, .slice aW nW cW, .slice aL nL cL] 35))
  clear hX hT HM b1
  go_wp2_with fail
  clear q0 q1 q2 f0 f1 f2
  generalize (y1.alloc (.cells #[.slice aP nP cP, .slice aW nW cW, .slice aL nL cL] 35)) = y2 at *
  have hlt1 := HX.out.lt
  refine (Hi.out _).mono ?_
  rintro e y3 ⟨⟨v, rfl, bP, dP, bW, dW, bL, dL, rfl, hG⟩, b3⟩
  rw [← HnP.out, ← HnW.out, ← HnL.out] at hG ⊢
  have hX := Trip.new y3 (.slice none 0 0) (.slice none 0 0) (.slice none 0 0) 35
  have q0 := hX.c0
  have q1 := hX.c1
  have q2 := hX.c2
  have f0 := hX.f0
  have f1 := hX.f1
  have f2 := hX.f2
  have HY := Lib.hid (Trip.new y3 (.slice bP nP dP) (.slice bW nW dW) (.slice bL nL dL) 35)
  have bn := below_new y3 (.cells #[.slice bP nP dP, .slice bW nW dW, .slice bL nL dL] 35)
  have HG := Lib.hid (hG.below bn)
  have HGlt := Lib.hid (And.intro (fun q hq => World.ownsRow.lt hG.p q hq) (And.intro (fun q hq => World.ownsRow.lt hG.q q hq) (fun q hq => World.ownsRow.lt hG.l q hq)))
  have B4 := Lib.hid (b3.trans (bn.mono b3.size))
  have hs4 : y3.heap.size < (y3.alloc (.cells #[.slice bP nP dP, .slice bW nW dW, .slice bL nL dL] 35)).heap.size := by simp
  have hs3 := b3.size
  have p0 := (HX.out.below B4.out).c0
  have p1 := (HX.out.below B4.out).c1
  have p2 := (HX.out.below B4.out).c2
  clear hX hG b3 bn
  go_wp2_with fail
  clear q0 q1 q2 f0 f1 f2 p0 p1 p2
  generalize (y3.alloc (.cells #[.slice bP nP dP, .slice bW nW dW, .slice bL nL dL] 35)) = y4 at *
  have hMg : Mkt y4 bP nP dP bW nW dW bL nL dL ps ws ls := ⟨⟨HG.out.p.ints, HG.out.q.ints, by omega, by omega, HG.out.p.cap.2.1, HG.out.q.cap.2.1⟩, HG.out.l.ints, by omega, HG.out.l.cap.2.1⟩
  refine (laws_eqMarket _ _ _ _ _ _ _ _ _ _ _ _ _ _ _ ps ws ls _ hMg (HM2.out.below B4.out)).mono ?_
  rintro e y5 ⟨rfl, b5⟩
  have HY5 := Lib.hid (HY.out.below b5)
  have HG5 := Lib.hid (HG.out.below b5)
  have B5 := Lib.hid (B4.out.trans (b5.mono B4.out.size))
  have hs5 := b5.size
  have q0 := HY5.out.c0
  have q1 := HY5.out.c1
  have q2 := HY5.out.c2
  clear HY HG hMg b5
  go_wp2_with fail
  refine (laws_markMarketR y2.heap.size _ _ _ _ _ _ _ _ _ ps ws ls 1 _ (by omega) (by omega) (by omega) (by omega) (by omega) (by omega) HG5.out).mono ?_
  rintro e y6 ⟨rfl, hG6, b6, hc6⟩
  have e6 := hc6 y3.heap.size (by omega) (fun e => by have := (HGlt.out.1 _ e).2; omega) (fun e => by have := (HGlt.out.2.1 _ e).2; omega) (fun e => by have := (HGlt.out.2.2 _ e).2; omega)
  have HY6 : Hid (Trip y6 y3.heap.size (.slice bP nP dP) (.slice bW nW dW) (.slice bL nL dL)) := Lib.hid ⟨(World.cell?_of_block (a := ⟨y3.heap.size, 0, none⟩) e6).trans HY5.out.c0, (World.cell?_of_block (a := ⟨y3.heap.size, 1, none⟩) e6).trans HY5.out.c1, (World.cell?_of_block (a := ⟨y3.heap.size, 2, none⟩) e6).trans HY5.out.c2, (World.frozen?_of_block (a := ⟨y3.heap.size, 0, none⟩) e6).trans HY5.out.f0, (World.frozen?_of_block (a := ⟨y3.heap.size, 1, none⟩) e6).trans HY5.out.f1, (World.frozen?_of_block (a := ⟨y3.heap.size, 2, none⟩) e6).trans HY5.out.f2⟩
  have HG6 := Lib.hid hG6
  have B6 := Lib.hid (B5.out.trans b6)
  clear q0 q1 q2 HY5 HG5 B5 hG6 b6 hc6 e6
  have q0 := HY6.out.c0
  have q1 := HY6.out.c1
  have q2 := HY6.out.c2
  have k1 : ¬ (1 : Int) + nP + nW + nL < 0 := by omega
  go_wp2_with fail
  refine (laws_heldMarketR _ _ _ _ _ _ _ _ _ 1 _ (by omega) (by omega) (by omega) (by omega) (by omega) HG6.out.p.ints HG6.out.q.ints HG6.out.l.ints).mono ?_
  rintro e y7 ⟨rfl, b7⟩
  have HY7 := Lib.hid (HY6.out.below b7)
  have HG7 := Lib.hid (HG6.out.below b7)
  have B7 := Lib.hid (B6.out.trans (b7.mono B6.out.size))
  clear q0 q1 q2 HY6 HG6 B6 b7
  go_wp2_with fail
  refine (Hi.out _).mono ?_
  rintro e y8 ⟨⟨v, rfl, gP, hP, gW, hW, gL, hL, rfl, hH⟩, b8⟩
  rw [← HnP.out, ← HnW.out, ← HnL.out] at hH ⊢
  have hX := Trip.new y8 (.slice none 0 0) (.slice none 0 0) (.slice none 0 0) 35
  have q0 := hX.c0
  have q1 := hX.c1
  have q2 := hX.c2
  have f0 := hX.f0
  have f1 := hX.f1
  have f2 := hX.f2
  have bn := below_new y8 (.cells #[.slice gP nP hP, .slice gW nW hW, .slice gL nL hL] 35)
  have HH := Lib.hid (hH.below bn)
  have b9 := b8.trans (bn.mono b8.size)
  have HY9 := Lib.hid (HY7.out.below b9)
  have HG9 := Lib.hid (HG7.out.below b9)
  have B9 := Lib.hid (B7.out.trans (b9.mono B7.out.size))
  have p0 := (HX.out.below B9.out).c0
  have p1 := (HX.out.below B9.out).c1
  have p2 := (HX.out.below B9.out).c2
  clear hX hH b8 bn b9 HY7 HG7 B7
  go_wp2_with fail
  clear q0 q1 q2 f0 f1 f2 p0 p1 p2
  generalize (y8.alloc (.cells #[.slice gP nP hP, .slice gW nW hW, .slice gL nL hL] 35)) = y9 at *
  have hMh : Mkt y9 gP nP hP gW nW hW gL nL hL ps ws ls := ⟨⟨HH.out.p.ints, HH.out.q.ints, by omega, by omega, HH.out.p.cap.2.1, HH.out.q.cap.2.1⟩, HH.out.l.ints, by omega, HH.out.l.cap.2.1⟩
  refine (laws_eqMarket _ _ _ _ _ _ _ _ _ _ _ _ _ _ _ ps ws ls _ hMh (HM2.out.below B9.out)).mono ?_
  rintro e y10 ⟨rfl, b10⟩
  have HY10 := Lib.hid (HY9.out.below b10)
  have HG10 := Lib.hid (HG9.out.below b10)
  have B10 := Lib.hid (B9.out.trans (b10.mono B9.out.size))
  have q0 := HY10.out.c0
  have q1 := HY10.out.c1
  have q2 := HY10.out.c2
  clear HY9 HG9 B9 hMh HH b10
  go_wp2_with fail
  refine (laws_heldMarketR _ _ _ _ _ _ _ _ _ 1 _ (by omega) (by omega) (by omega) (by omega) (by omega) HG10.out.p.ints HG10.out.q.ints HG10.out.l.ints).mono ?_
  rintro e y11 ⟨rfl, b11⟩
  have B11 := Lib.hid (B2.out.trans ((B10.out.trans (b11.mono B10.out.size)).mono B2.out.size))
  clear q0 q1 q2 b11
  go_wp2_with fail
  go_ret
  exact ⟨rfl, B11.out⟩
end Go.Proofs.Ytcoakeedgngogaa.fnExactRowMarket
