/- The walk through the law FnExactRuinMean: it returns true. No conditions but that the arguments are integers. -/
import Derived.Test.YtehmaedifbnnhaaRuinMean
import Derived.Test.YtehmaedifbnnhaaLawA2
namespace Go.Proofs.Ytehmaedifbnnhaa.fnExactRuinMean
open Go.RowKit
set_option linter.unusedVariables false
set_option maxHeartbeats 1000000 in
theorem walk (a0 a1 a2 a3 : Int) (w0 : (Lit.int .i64 a0).wf = true) (w1 : (Lit.int .i64 a1).wf = true) (w2 : (Lit.int .i64 a2).wf = true) (w3 : (Lit.int .i64 a3).wf = true) (w : World) :
    Calls Try.prog 4 #[.int .i64 a0, .int .i64 a1, .int .i64 a2, .int .i64 a3] w fun e w' => e = .returned (.bool true) ∧ Below w.heap.size w w' := by
  clear w0 w1 w2 w3
  have Hs : Hid (∀ W : World, Calls Try.prog 18 #[.int .i64 a0, .int .i64 a1, .int .i64 a2, .int .i64 a3] W fun e w' => e = .returned (.tuple #[.agg #[.int .i64 (rmN a0 a1 a2 a3), .int .i64 (rmD a0 a1 a2 a3)], .bool (rmB a0 a1 a2 a3)]) ∧ Below W.heap.size W w') := Lib.hid fun W => spec_RuinMean a0 a1 a2 a3 W
  have Hi : Hid (∀ W : World, Calls Try.prog 19 #[.int .i64 a0, .int .i64 a1, .int .i64 a2, .int .i64 a3] W fun e w' => e = .returned (.tuple #[.agg #[.int .i64 (rmN a0 a1 a2 a3), .int .i64 (rmD a0 a1 a2 a3)], .bool (rmB a0 a1 a2 a3)]) ∧ Below W.heap.size W w') := Lib.hid fun W => impl_RuinMean a0 a1 a2 a3 W
  generalize rmN a0 a1 a2 a3 = n at *
  generalize rmD a0 a1 a2 a3 = d at *
  generalize rmB a0 a1 a2 a3 = b at *
  go_enter Try.func4, Try.ntmps4
  go_wp2_with fail
  refine (Hs.out _).mono ?_
  rintro e w1 ⟨rfl, b1⟩
  go_wp2_with fail
  have hP := Pair.new w1 (.int .i64 n) (.int .i64 d) 22
  have hB : Below w1.heap.size w1 (w1.alloc (.cells #[.int .i64 n, .int .i64 d] 22)) := (Below.refl _ _).alloc (Nat.le_refl _) _
  generalize (w1.alloc (.cells #[.int .i64 n, .int .i64 d] 22)) = u1 at *
  refine (Hi.out _).mono ?_
  rintro e w2 ⟨rfl, b2⟩
  have p2 := hP.below b2
  have c0 := p2.c0
  have c1 := p2.c1
  have hlt := p2.lt
  have b3 := b1.trans ((hB.trans (b2.mono hB.size)).mono b1.size)
  clear p2 hP hB b1 b2
  go_wp2_with fail
  refine (laws_eqIntA2 _ _ _).mono ?_
  rintro e w3 ⟨rfl, b4⟩
  go_wp2_with fail
  go_ret
  exact ⟨rfl, b3.trans (((Below.refl _ _).alloc (Nat.le_refl _) _).trans (b4.mono (by simp)) |>.mono b3.size)⟩
end Go.Proofs.Ytehmaedifbnnhaa.fnExactRuinMean
