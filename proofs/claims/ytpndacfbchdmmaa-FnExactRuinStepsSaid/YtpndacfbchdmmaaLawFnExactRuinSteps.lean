/- The given statement on FnExactRuinSteps is proved: for all arguments the law returns true. No conditions. -/
import Derived.Test.YtpndacfbchdmmaaRuinSteps
import Derived.Test.YtpndacfbchdmmaaLawS
import Derived.Test.YtpndacfbchdmmaaRows
import Derived.ProofKit
import Derived.OpenShut
namespace Go.Proofs.Ytpndacfbchdmmaa.fnExactRuinSteps
open Go.ChangeShapes Go.WideShapes Go.ChangeAt Go.RowKit
set_option linter.unusedVariables false

theorem own : ownKnob Try.prog.godebug = none := by kernel_rfl

theorem stepsV_len (a b i n k : Int) : (stepsV a b i n k).length ≤ 13 := by
  unfold stepsV
  cases h : stepsOk a b i n k
  · simp
  · have := stepsOk_t h
    rw [if_pos rfl, rollK_length]; omega
set_option maxHeartbeats 1000000 in
theorem walk (a0 a1 a2 a3 a4 : Int) (w0 : (Lit.int .i64 a0).wf = true) (w1 : (Lit.int .i64 a1).wf = true) (w2 : (Lit.int .i64 a2).wf = true) (w3 : (Lit.int .i64 a3).wf = true) (w4 : (Lit.int .i64 a4).wf = true) (w : World) :
    Calls Try.prog 8 #[.int .i64 a0, .int .i64 a1, .int .i64 a2, .int .i64 a3, .int .i64 a4] w fun e w' => e = .returned (.bool true) ∧ Below w.heap.size w w' := by
  clear w0 w1 w2 w3 w4
  have hVl := stepsV_len a0 a1 a2 a3 a4
  obtain ⟨V, hV⟩ : ∃ V, V = stepsV a0 a1 a2 a3 a4 := ⟨_, rfl⟩
  obtain ⟨B, hB⟩ : ∃ B, B = stepsOk a0 a1 a2 a3 a4 := ⟨_, rfl⟩
  rw [← hV] at hVl
  have Hs : Hid (∀ W : World, Calls Try.prog 23 #[.int .i64 a0, .int .i64 a1, .int .i64 a2, .int .i64 a3, .int .i64 a4] W fun e w' => ∃ v, e = .returned (.tuple #[v, .bool B]) ∧ Own w' W.heap.size v V ∧ Below W.heap.size W w') := Lib.hid fun W => by rw [hV, hB]; exact spec_RuinSteps a0 a1 a2 a3 a4 W
  have Hi : Hid (∀ W : World, Calls Try.prog 24 #[.int .i64 a0, .int .i64 a1, .int .i64 a2, .int .i64 a3, .int .i64 a4] W fun e w' => ∃ v, e = .returned (.tuple #[v, .bool B]) ∧ Own w' W.heap.size v V ∧ Below W.heap.size W w') := Lib.hid fun W => by rw [hV, hB]; exact impl_RuinSteps a0 a1 a2 a3 a4 W
  clear hV hB
  go_enter Try.func8, Try.ntmps8
  go_wp2_with fail
  refine (Hs.out _).mono ?_
  rintro e w1 ⟨v1, rfl, o1, b1⟩
  obtain ⟨as1, cs1, rfl⟩ := o1.shape
  have O1 := Lib.hid o1
  clear o1
  go_wp2_with fail
  refine (Hi.out _).mono ?_
  rintro e w2 ⟨v2, rfl, o2, b2⟩
  obtain ⟨ag, cg, rfl⟩ := o2.shape
  have O2 := Lib.hid o2
  clear o2
  go_wp2_with fail
  refine (laws_eqIntS _ _ _ _ _ V _ (by omega) O2.out.ints (O1.out.below b2).ints).mono ?_
  rintro e w3 ⟨rfl, b3⟩
  go_wp2_with fail
  have O3 := Lib.hid (O2.out.below b3)
  refine (laws_markIntS w1.heap.size _ _ _ _ V _ (by omega) (by omega) (by omega) O3.out).mono ?_
  rintro e w4 ⟨rfl, o4, g4⟩
  have b4 : Below w1.heap.size w3 w4 := below_of_grown O3.out g4 (Nat.le_trans b2.size b3.size)
  have b14 : Below w1.heap.size w1 w4 := (b2.trans (b3.mono b2.size)).trans b4
  have O4 := Lib.hid o4
  clear o4 g4
  go_wp2_with fail
  refine (laws_heldIntS _ _ _ _ _ (by omega) (by omega) (by omega) O4.out.ints).mono ?_
  rintro e w5 ⟨rfl, rfl⟩
  go_wp2_with fail
  refine (Hi.out _).mono ?_
  rintro e w6 ⟨v6, rfl, o6, b6⟩
  obtain ⟨ah, ch, rfl⟩ := o6.shape
  have O6 := Lib.hid o6
  clear o6
  go_wp2_with fail
  refine (laws_eqIntS _ _ _ _ _ V _ (by omega) O6.out.ints ((O1.out.below b14).below b6).ints).mono ?_
  rintro e w7 ⟨rfl, b7⟩
  go_wp2_with fail
  refine (laws_heldIntS _ _ _ _ _ (by omega) (by omega) (by omega) ((O4.out.below b6).below b7).ints).mono ?_
  rintro e w8 ⟨rfl, rfl⟩
  go_wp2_with fail
  go_ret
  exact ⟨rfl, b1.trans ((b14.trans ((b6.trans (b7.mono b6.size)).mono b14.size)).mono b1.size)⟩

set_option maxRecDepth 100000 in
theorem lifted (os : Os) (started : os.Started) (H : Type) (enc : TypeId × Value → H) :
    ReturnsInHanded {} Try.checked os 8 .any (Rows.fnExactRuinStepsSpec.pre6 enc Try.prog Try.f8 Rows.fnExactRuinStepsRow.domain false) (Rows.fnExactRuinStepsSpec.post enc Try.prog Try.f8 false true false false) := by
  refine returnsInHanded_of_change (C := Try.checked) own started (by kernel_rfl) Try.func8
    (ChangeSpec.witness6 (enc := enc) (C := Try.checked) false ⟨#[], #[.int .i64 0, .int .i64 0, .int .i64 0, .int .i64 0, .int .i64 0], []⟩ 8 (by kernel_rfl) (by kernel_rfl) (by kernel_rfl) (by kernel_rfl)) ?_
  intro W base args ds gs before hval0 hW hcnd _
  have hval : ∀ (j : Nat) t v, Try.f8.params[j]? = some t → args[j]? = some v → Value.okWide Try.prog W .any base t v := hval0
  have hW' := hW
  obtain ⟨p, q, hA0, hV, rfl, hfz, hnd⟩ := hW
  have hA : DataW.TrodAll enc Try.prog W 0 (fun _ => true) true Try.f8.params.toList args.toList ds p := hA0
  rw [Try.params8] at hA hval
  obtain ⟨v0, vs0, d0, ds0, p0, q0, hargs, rfl, rfl, h0, r0⟩ := trodAll_cons hA
  obtain ⟨v1, vs1, d1, ds1, p1, q1, rfl, rfl, rfl, h1, r1⟩ := trodAll_cons r0
  obtain ⟨v2, vs2, d2, ds2, p2, q2, rfl, rfl, rfl, h2, r2⟩ := trodAll_cons r1
  obtain ⟨v3, vs3, d3, ds3, p3, q3, rfl, rfl, rfl, h3, r3⟩ := trodAll_cons r2
  obtain ⟨v4, vs4, d4, ds4, p4, q4, rfl, rfl, rfl, h4, r4⟩ := trodAll_cons r3
  obtain ⟨rfl, rfl, rfl⟩ := trodAll_nil r4
  obtain rfl : args = #[v0, v1, v2, v3, v4] := by cases args; simp_all
  obtain ⟨rfl, rfl⟩ := trodVars_none hV
  obtain ⟨a0, rfl, rfl, rfl, w0⟩ := open_int Try.underlying3 (hval 0 3 v0 rfl rfl) h0
  obtain ⟨a1, rfl, rfl, rfl, w1⟩ := open_int Try.underlying3 (hval 1 3 v1 rfl rfl) h1
  obtain ⟨a2, rfl, rfl, rfl, w2⟩ := open_int Try.underlying3 (hval 2 3 v2 rfl rfl) h2
  obtain ⟨a3, rfl, rfl, rfl, w3⟩ := open_int Try.underlying3 (hval 3 3 v3 rfl rfl) h3
  obtain ⟨a4, rfl, rfl, rfl, w4⟩ := open_int Try.underlying3 (hval 4 3 v4 rfl rfl) h4
  clear hA0 hval0
  simp only [List.append_nil] at hW'
  refine (walk a0 a1 a2 a3 a4 w0 w1 w2 w3 w4 W).mono fun e W' ⟨he, hg⟩ => ?_
  subst he
  exact ⟨_, rfl, _, _, _, [], [], [], hW', (trodAll_cons_mk (shut_bool Try.underlying4 _) trodAll_mk0), (trodAll_cons_mk (shut_int Try.underlying3 w0) (trodAll_cons_mk (shut_int Try.underlying3 w1) (trodAll_cons_mk (shut_int Try.underlying3 w2) (trodAll_cons_mk (shut_int Try.underlying3 w3) (trodAll_cons_mk (shut_int Try.underlying3 w4) trodAll_mk0))))), rfl, hg.frame _, fun h => by cases h⟩

theorem over : Rows.fnExactRuinStepsRow.holds Try.pinned (OpenSpec.ofChange Rows.fnExactRuinStepsSpec) :=
  OpenClaim.holds_of_wide 8 Try.f8 rfl rfl rfl rfl rfl rfl rfl ⟨rfl, rfl, rfl, rfl, rfl⟩ rfl rfl rfl rfl rfl (by kernel_rfl) Try.func8 (by kernel_rfl)
    (of_decide_eq_true (by kernel_rfl)) (by unfold Func.isWrapper; first | (rw [if_pos (by decide +kernel)]; kernel_rfl) | (rw [if_neg (by decide +kernel)]; exact ⟨rfl, rfl⟩))
    (fun os started H enc _ => lifted os started H enc)

theorem proved : Rows.FnExactRuinStepsSaid :=
  over
#print axioms proved
end Go.Proofs.Ytpndacfbchdmmaa.fnExactRuinSteps
