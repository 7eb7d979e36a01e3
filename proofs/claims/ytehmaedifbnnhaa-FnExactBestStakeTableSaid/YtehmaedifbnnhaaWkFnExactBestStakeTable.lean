/- The walk through the law FnExactBestStakeTable: it returns true. No conditions but that the arguments are integers. -/
import Derived.Test.YtehmaedifbnnhaaTabS2
import Derived.Test.YtehmaedifbnnhaaLawSS
namespace Go.Proofs.Ytehmaedifbnnhaa.fnExactBestStakeTable
open Go.RowKit
set_option linter.unusedVariables false
theorem tabV_small (st : Nat → Nat → List Int) (a b n k : Int) : Small (tabV st a b n k) := by
  unfold tabV
  cases h : tabOk a b n k
  · exact ⟨by simp, fun i hi => by simp at hi⟩
  · have ht := tabOk_t h
    rw [if_pos rfl]
    refine ⟨by rw [tabL_length]; omega, fun i hi => ?_⟩
    rw [tabL_length] at hi
    rw [row_tabL _ _ _ _ _ _ (by omega), tabRow_length]; omega
set_option maxHeartbeats 1000000 in
theorem walk (a0 a1 a2 a3 : Int) (w0 : (Lit.int .i64 a0).wf = true) (w1 : (Lit.int .i64 a1).wf = true) (w2 : (Lit.int .i64 a2).wf = true) (w3 : (Lit.int .i64 a3).wf = true) (w : World) :
    Calls Try.prog 7 #[.int .i64 a0, .int .i64 a1, .int .i64 a2, .int .i64 a3] w fun e w' => e = .returned (.bool true) ∧ Below w.heap.size w w' := by
  clear w0 w1 w2 w3
  have hVs := tabV_small stF a0 a1 a2 a3
  have Hs : Hid (∀ W : World, Calls Try.prog 27 #[.int .i64 a0, .int .i64 a1, .int .i64 a2, .int .i64 a3] W fun e w' => ∃ v, e = .returned (.tuple #[v, .bool (tabOk a0 a1 a2 a3)]) ∧ HasSS w' W.heap.size v (tabV stF a0 a1 a2 a3) ∧ Below W.heap.size W w') := Lib.hid fun W => spec_BestStakeTable a0 a1 a2 a3 W
  have Hi : Hid (∀ W : World, Calls Try.prog 28 #[.int .i64 a0, .int .i64 a1, .int .i64 a2, .int .i64 a3] W fun e w' => ∃ v, e = .returned (.tuple #[v, .bool (tabOk a0 a1 a2 a3)]) ∧ HasSS w' W.heap.size v (tabV stF a0 a1 a2 a3) ∧ Below W.heap.size W w') := Lib.hid fun W => impl_BestStakeTable a0 a1 a2 a3 W
  generalize tabV stF a0 a1 a2 a3 = V at *
  generalize tabOk a0 a1 a2 a3 = B at *
  have Hsm := Lib.hid hVs
  have hpre := hVs.pre (i := V.length) (Nat.le_refl _)
  have hVl := hVs.1
  clear hVs
  go_enter Try.func7, Try.ntmps7
  go_wp2_with fail
  refine (Hs.out _).mono ?_
  rintro e w1 ⟨v1, rfl, o1, b1⟩
  obtain ⟨as1, cs1, rfl⟩ := o1.shape
  have O1 := Lib.hid o1
  clear o1
  go_wp2_with fail
  refine (Hi.out _).mono ?_
  rintro e w2 ⟨v2, rfl, o2, b2⟩
  obtain ⟨ag, cg, rfl⟩ := o2.shape
  have O2 := Lib.hid o2
  clear o2
  go_wp2_with fail
  refine (laws_eqIntSS _ _ _ _ _ V _ Hsm.out O2.out.ints (O1.out.below b2).ints).mono ?_
  rintro e w3 ⟨rfl, b3⟩
  go_wp2_with fail
  have O3 := Lib.hid (O2.out.below b3)
  refine (laws_markIntSS w1.heap.size _ _ _ _ V _ Hsm.out (by omega) (by omega) (Nat.le_trans b2.size b3.size) O3.out).mono ?_
  rintro e w4 ⟨rfl, o4, b4⟩
  have b14 : Below w1.heap.size w1 w4 := (b2.trans (b3.mono b2.size)).trans b4
  have O4 := Lib.hid o4
  clear o4
  go_wp2_with fail
  refine (laws_heldIntSS _ _ _ _ V _ Hsm.out (by omega) (by omega) rfl O4.out.ints).mono ?_
  rintro e w5 ⟨rfl, rfl⟩
  go_wp2_with fail
  refine (Hi.out _).mono ?_
  rintro e w6 ⟨v6, rfl, o6, b6⟩
  obtain ⟨ah, ch, rfl⟩ := o6.shape
  have O6 := Lib.hid o6
  clear o6
  go_wp2_with fail
  refine (laws_eqIntSS _ _ _ _ _ V _ Hsm.out O6.out.ints ((O1.out.below b14).below b6).ints).mono ?_
  rintro e w7 ⟨rfl, b7⟩
  go_wp2_with fail
  refine (laws_heldIntSS _ _ _ _ V _ Hsm.out (by omega) (by omega) rfl ((O4.out.below b6).below b7).ints).mono ?_
  rintro e w8 ⟨rfl, rfl⟩
  go_wp2_with fail
  go_ret
  exact ⟨rfl, b1.trans ((b14.trans ((b6.trans (b7.mono b6.size)).mono b14.size)).mono b1.size)⟩
end Go.Proofs.Ytehmaedifbnnhaa.fnExactBestStakeTable
