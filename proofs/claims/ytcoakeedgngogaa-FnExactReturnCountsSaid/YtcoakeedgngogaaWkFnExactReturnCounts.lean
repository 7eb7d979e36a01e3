/- The walk through the law FnExactReturnCounts: it returns true. No conditions but that the arguments are integers. -/
import Derived.Test.YtcoakeedgngogaaRet2
import Derived.Test.YtcoakeedgngogaaRet3
import Derived.Test.YtcoakeedgngogaaLawS
namespace Go.Proofs.Ytcoakeedgngogaa.fnExactReturnCounts
open Go.RowKit
set_option linter.unusedVariables false
theorem retV_len (m : Int) : (retV m).length ≤ 31 := by
  cases h : evB m
  · rw [retV_no h]; simp
  · obtain ⟨k, hk, rfl⟩ := ev_t h
    rw [retV_yes h, retL_length]; omega
set_option maxHeartbeats 1000000 in
theorem walk (a0 : Int) (w0 : (Lit.int .i64 a0).wf = true) (w : World) :
    Calls Try.prog 7 #[.int .i64 a0] w fun e w' => e = .returned (.bool true) ∧ Below w.heap.size w w' := by
  clear w0
  have hVl := retV_len a0
  obtain ⟨V, hV⟩ : ∃ V, V = retV a0 := ⟨_, rfl⟩
  obtain ⟨B, hB⟩ : ∃ B, B = evB a0 := ⟨_, rfl⟩
  rw [← hV] at hVl
  have Hs : Hid (∀ W : World, Calls Try.prog 30 #[.int .i64 a0] W fun e w' => ∃ v, e = .returned (.tuple #[v, .bool B]) ∧ Own w' W.heap.size v V ∧ Below W.heap.size W w') := Lib.hid fun W => by rw [hV, hB]; exact spec_ReturnCounts a0 W
  have Hi : Hid (∀ W : World, Calls Try.prog 31 #[.int .i64 a0] W fun e w' => ∃ v, e = .returned (.tuple #[v, .bool B]) ∧ Own w' W.heap.size v V ∧ Below W.heap.size W w') := Lib.hid fun W => by rw [hV, hB]; exact impl_ReturnCounts a0 W
  clear hV hB
  go_enter Try.func7, Try.ntmps7
  go_wp2_with fail
  refine (Hs.out _).mono ?_
  rintro e w1 ⟨v1, rfl, o1, b1⟩
  obtain ⟨as1, cs1, rfl⟩ := o1.shape
  have O1 := Lib.hid o1
  clear o1
  go_wp2_with fail
  refine (Hi.out _).mono ?_
  rintro e w2 ⟨v2, rfl, o2, b2⟩
  obtain ⟨ag, cg, rfl⟩ := o2.shape
  have O2 := Lib.hid o2
  clear o2
  go_wp2_with fail
  refine (laws_eqIntS _ _ _ _ _ V _ (by omega) O2.out.ints (O1.out.below b2).ints).mono ?_
  rintro e w3 ⟨rfl, b3⟩
  go_wp2_with fail
  have O3 := Lib.hid (O2.out.below b3)
  refine (laws_markIntS w1.heap.size _ _ _ _ V _ (by omega) (by omega) (by omega) O3.out).mono ?_
  rintro e w4 ⟨rfl, o4, g4⟩
  have b4 : Below w1.heap.size w3 w4 := below_of_grown O3.out g4 (Nat.le_trans b2.size b3.size)
  have b14 : Below w1.heap.size w1 w4 := (b2.trans (b3.mono b2.size)).trans b4
  have O4 := Lib.hid o4
  clear o4 g4
  go_wp2_with fail
  refine (laws_heldIntS _ _ _ _ _ (by omega) (by omega) (by omega) O4.out.ints).mono ?_
  rintro e w5 ⟨rfl, rfl⟩
  go_wp2_with fail
  refine (Hi.out _).mono ?_
  rintro e w6 ⟨v6, rfl, o6, b6⟩
  obtain ⟨ah, ch, rfl⟩ := o6.shape
  have O6 := Lib.hid o6
  clear o6
  go_wp2_with fail
  refine (laws_eqIntS _ _ _ _ _ V _ (by omega) O6.out.ints ((O1.out.below b14).below b6).ints).mono ?_
  rintro e w7 ⟨rfl, b7⟩
  go_wp2_with fail
  refine (laws_heldIntS _ _ _ _ _ (by omega) (by omega) (by omega) ((O4.out.below b6).below b7).ints).mono ?_
  rintro e w8 ⟨rfl, rfl⟩
  go_wp2_with fail
  go_ret
  exact ⟨rfl, b1.trans ((b14.trans ((b6.trans (b7.mono b6.size)).mono b14.size)).mono b1.size)⟩
end Go.Proofs.Ytcoakeedgngogaa.fnExactReturnCounts
