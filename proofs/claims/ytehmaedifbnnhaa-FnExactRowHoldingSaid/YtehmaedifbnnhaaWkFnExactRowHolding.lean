/- The walk through the law FnExactRowHolding: it returns true. -/
import Derived.Test.YtehmaedifbnnhaaRow5
import Derived.Test.YtehmaedifbnnhaaLawIn
import Derived.Test.YtehmaedifbnnhaaLawA2
namespace Go.Proofs.Ytehmaedifbnnhaa.fnExactRowHolding
open Go.RowKit
set_option linter.unusedVariables false
set_option maxHeartbeats 1000000 in
theorem walk (n u d : Int) (ad : Option Addr) (m cap : Nat) (xs : List Int) (w0 : (Lit.int .i64 n).wf = true) (w1 : (Lit.int .i64 u).wf = true) (w2 : (Lit.int .i64 d).wf = true) (w : World) (hm : m ≤ maxLen) (hc : m ≤ cap ∧ cap ≤ maxLen ∧ (ad = none → cap = 0)) (h : Ints w ad m xs) :
    Calls Try.prog 11 #[.int .i64 n, .int .i64 u, .int .i64 d, .slice ad m cap] w fun e w' => e = .returned (.bool true) ∧ Below w.heap.size w w' := by
  clear w0 w1 w2 hc
  have hl := Lib.hid h.1
  have Hs : Hid (∀ (W : World) (a : Option Addr) (m' c : Nat), m' ≤ 1048576 → Own W w.heap.size (.slice a m' c) xs → Calls Try.prog 43 #[.int .i64 n, .int .i64 u, .int .i64 d, .slice a m' c] W fun e w' => e = .returned (.tuple #[.agg #[.int .i64 (rhN n u d xs), .int .i64 (rhD n u d xs)], .bool (rhB n u d xs)]) ∧ Below W.heap.size W w') :=
    Lib.hid fun W a m' c hm' ho => spec_RowHolding n u d a m' c xs W hm' ⟨ho.cap.1, ho.cap.2.2.2⟩ ho.cap.2.1 ho.ints
  have Hi : Hid (∀ (W : World) (a : Option Addr) (m' c : Nat), m' ≤ 1048576 → Own W w.heap.size (.slice a m' c) xs → Calls Try.prog 45 #[.int .i64 n, .int .i64 u, .int .i64 d, .slice a m' c] W fun e w' => e = .returned (.tuple #[.agg #[.int .i64 (rhN n u d xs), .int .i64 (rhD n u d xs)], .bool (rhB n u d xs)]) ∧ Below W.heap.size W w') :=
    Lib.hid fun W a m' c hm' ho => impl_RowHolding n u d a m' c xs W hm' ⟨ho.cap.1, ho.cap.2.2.2⟩ ho.cap.2.1 ho.ints
  generalize rhN n u d xs = x at *
  generalize rhD n u d xs = y at *
  generalize rhB n u d xs = z at *
  have H := Lib.hid h
  clear h
  rw [show maxLen = 9223372036854775807 from rfl] at hm
  by_cases hbig : (m : Int) > 1048576
  · go_enter Try.func11, Try.ntmps11
    go_wp2_with fail
    go_ret
    exact ⟨rfl, Below.refl _ _⟩
  · have hm2 : m ≤ 1048576 := by omega
    have hm3 : m ≤ 4294967296 := by omega
    go_enter Try.func11, Try.ntmps11
    go_wp2_with fail
    refine (laws_toIntS _ _ _ xs _ hm3 H.out).mono ?_
    rintro e u1 ⟨v1, rfl, o1, b1⟩
    obtain ⟨a1, c1, rfl⟩ := o1.shape
    rw [hl.out] at o1 ⊢
    have O1 := Lib.hid o1
    clear o1
    go_wp2_with fail
    refine (Hs.out _ _ _ _ hm2 O1.out).mono ?_
    rintro e u2 ⟨rfl, b2⟩
    have b12 := b1.trans (b2.mono b1.size)
    go_wp2_with fail
    have hP := Lib.hid (Pair.new u2 (.int .i64 x) (.int .i64 y) 22)
    have b13 : Below w.heap.size w (u2.alloc (.cells #[.int .i64 x, .int .i64 y] 22)) := b12.alloc b12.size _
    generalize (u2.alloc (.cells #[.int .i64 x, .int .i64 y] 22)) = u3 at *
    refine (laws_toIntS _ _ _ xs _ hm3 (H.out.below b13)).mono ?_
    rintro e u4 ⟨v4, rfl, o4, b4⟩
    obtain ⟨a4, c4, rfl⟩ := o4.shape
    rw [hl.out] at o4 ⊢
    have b14 := b13.trans (b4.mono b13.size)
    have O4 := Lib.hid (o4.mono b13.size)
    have hP4 := Lib.hid (hP.out.below b4)
    clear o4
    go_wp2_with fail
    refine (Hi.out _ _ _ _ hm2 O4.out).mono ?_
    rintro e u5 ⟨rfl, b5⟩
    have b15 := b14.trans (b5.mono b14.size)
    have O5 := Lib.hid (O4.out.below b5)
    have p5 := hP4.out.below b5
    have c0 := p5.c0
    have c1' := p5.c1
    have hlt := p5.lt
    clear p5
    go_wp2_with fail
    have b16 : Below w.heap.size w (u5.alloc (.cells #[.int .i64 x, .int .i64 y] 22)) := b15.alloc b15.size _
    have O6 := Lib.hid (O5.out.below (below_new u5 (.cells #[.int .i64 x, .int .i64 y] 22)))
    generalize (u5.alloc (.cells #[.int .i64 x, .int .i64 y] 22)) = u6 at *
    refine (laws_eqIntA2 _ _ _).mono ?_
    rintro e u7 ⟨rfl, b7⟩
    have b17 := b16.trans (b7.mono b16.size)
    have O7 := Lib.hid (O6.out.below b7)
    go_wp2_with fail
    refine (laws_toIntS _ _ _ xs _ hm3 (H.out.below b17)).mono ?_
    rintro e u8 ⟨v8, rfl, o8, b8⟩
    obtain ⟨a8, c8, rfl⟩ := o8.shape
    rw [hl.out] at o8 ⊢
    have b18 := b17.trans (b8.mono b17.size)
    have O8 := Lib.hid o8
    have O9 := Lib.hid (O7.out.below b8)
    clear o8
    go_wp2_with fail
    refine (laws_eqIntS _ _ _ _ _ xs _ hm3 O9.out.ints O8.out.ints).mono ?_
    rintro e u9 ⟨rfl, b9⟩
    go_wp2_with fail
    go_ret
    exact ⟨rfl, b18.trans (b9.mono b18.size)⟩
end Go.Proofs.Ytehmaedifbnnhaa.fnExactRowHolding
