/- The given statement on FnExactFirstPassages is proved: for all arguments the law returns true. No conditions. -/
import Derived.Test.YtpndacfbchdmmaaPlP
import Derived.Test.YtpndacfbchdmmaaPathsTop
import Derived.Test.YtpndacfbchdmmaaRows
import Derived.ProofKit
import Derived.OpenShut
namespace Go.Proofs.Ytpndacfbchdmmaa.fnExactFirstPassages
open Go.ChangeShapes Go.WideShapes Go.ChangeAt Go.RowKit
set_option linter.unusedVariables false

theorem own : ownKnob Try.prog.godebug = none := by kernel_rfl

set_option maxHeartbeats 400000 in
theorem walk (a0 : Int) (a1 : Int) (w0 : (Lit.int .i64 a0).wf = true) (w1 : (Lit.int .i64 a1).wf = true) (w : World) :
    Calls Try.prog 6 #[.int .i64 a0, .int .i64 a1] w fun e w' => e = .returned (.bool true) ∧ Below w.heap.size w w' := by
  have heq : (if inB a0 1 30 && a1 != 0 then came (walkL (fun s y => y != a1 || s == a0) a0.toNat) a1 else 0) = if inB a0 1 30 && a1 != 0 then (if inB a1 (-a0) a0 then paths a0.toNat a1 * most a1 (-a1) / a0 else 0) else 0 := by
    cases h : inB a0 1 30
    · rfl
    · have := inB_t h
      by_cases hx : a1 = 0
      · subst hx; rfl
      · obtain ⟨m, rfl⟩ : ∃ m : Nat, a0 = m := ⟨a0.toNat, by omega⟩
        rw [show (a1 != 0) = true by simpa using hx]
        simp only [Bool.and_self, if_true]
        rw [show (m : Int).toNat = m by omega, first_eq m a1 (by omega) (by omega) hx, firstS]
  obtain ⟨V, hV⟩ : ∃ V, V = if inB a0 1 30 && a1 != 0 then (if inB a1 (-a0) a0 then paths a0.toNat a1 * most a1 (-a1) / a0 else 0) else 0 := ⟨_, rfl⟩
  obtain ⟨B, hB⟩ : ∃ B, B = (inB a0 1 30 && a1 != 0) := ⟨_, rfl⟩
  have hs : ∀ W : World, Calls Try.prog 19 #[.int .i64 a0, .int .i64 a1] W fun e w' => e = .returned (.tuple #[.int .i64 V, .bool B]) ∧ W = w' := fun W => by rw [hV, hB]; exact spec_FirstPassages a0 a1 W
  have hi : ∀ W : World, Calls Try.prog 20 #[.int .i64 a0, .int .i64 a1] W fun e w' => e = .returned (.tuple #[.int .i64 V, .bool B]) ∧ Below W.heap.size W w' := fun W => by rw [hV, hB, ← heq]; exact impl_FirstPassages a0 a1 W
  have Hs := Lib.hid hs
  have Hi := Lib.hid hi
  clear heq hV hB hs hi
  go_enter Try.func6, Try.ntmps6
  go_wp2_with (first | (go_at_call 19; refine (Hs.out _).mono ?_; rintro e w' ⟨rfl, rfl⟩) | (go_at_call 20; refine (Hi.out _).mono ?_; rintro e w1 ⟨rfl, hb⟩))
  go_ret
  exact ⟨rfl, by assumption⟩

set_option maxRecDepth 100000 in
theorem lifted (os : Os) (started : os.Started) (H : Type) (enc : TypeId × Value → H) :
    ReturnsInHanded {} Try.checked os 6 .any (Rows.fnExactFirstPassagesSpec.pre6 enc Try.prog Try.f6 Rows.fnExactFirstPassagesRow.domain false) (Rows.fnExactFirstPassagesSpec.post enc Try.prog Try.f6 false true false false) := by
  refine returnsInHanded_of_change (C := Try.checked) own started (by kernel_rfl) Try.func6
    (ChangeSpec.witness6 (enc := enc) (C := Try.checked) false ⟨#[], #[.int .i64 0, .int .i64 0], []⟩ 8 (by kernel_rfl) (by kernel_rfl) (by kernel_rfl) (by kernel_rfl)) ?_
  intro W base args ds gs before hval0 hW hcnd _
  have hval : ∀ (j : Nat) t v, Try.f6.params[j]? = some t → args[j]? = some v → Value.okWide Try.prog W .any base t v := hval0
  have hW' := hW
  obtain ⟨p, q, hA0, hV, rfl, hfz, hnd⟩ := hW
  have hA : DataW.TrodAll enc Try.prog W 0 (fun _ => true) true Try.f6.params.toList args.toList ds p := hA0
  rw [Try.params6] at hA hval
  obtain ⟨v0, vs0, d0, ds0, p0, q0, hargs, rfl, rfl, h0, r0⟩ := trodAll_cons hA
  obtain ⟨v1, vs1, d1, ds1, p1, q1, rfl, rfl, rfl, h1, r1⟩ := trodAll_cons r0
  obtain ⟨rfl, rfl, rfl⟩ := trodAll_nil r1
  obtain rfl : args = #[v0, v1] := by cases args; simp_all
  obtain ⟨rfl, rfl⟩ := trodVars_none hV
  obtain ⟨a0, rfl, rfl, rfl, w0⟩ := open_int Try.underlying3 (hval 0 3 v0 rfl rfl) h0
  obtain ⟨a1, rfl, rfl, rfl, w1⟩ := open_int Try.underlying3 (hval 1 3 v1 rfl rfl) h1
  clear hA0 hval0
  simp only [List.append_nil] at hW'
  refine (walk a0 a1 w0 w1 W).mono fun e W' ⟨he, hg⟩ => ?_
  subst he
  exact ⟨_, rfl, _, _, _, [], [], [], hW', (trodAll_cons_mk (shut_bool Try.underlying4 _) trodAll_mk0), (trodAll_cons_mk (shut_int Try.underlying3 w0) (trodAll_cons_mk (shut_int Try.underlying3 w1) trodAll_mk0)), rfl, hg.frame _, fun h => by cases h⟩

theorem over : Rows.fnExactFirstPassagesRow.holds Try.pinned (OpenSpec.ofChange Rows.fnExactFirstPassagesSpec) :=
  OpenClaim.holds_of_wide 6 Try.f6 rfl rfl rfl rfl rfl rfl rfl ⟨rfl, rfl, rfl, rfl, rfl⟩ rfl rfl rfl rfl rfl (by kernel_rfl) Try.func6 (by kernel_rfl)
    (of_decide_eq_true (by kernel_rfl)) (by unfold Func.isWrapper; first | (rw [if_pos (by decide +kernel)]; kernel_rfl) | (rw [if_neg (by decide +kernel)]; exact ⟨rfl, rfl⟩))
    (fun os started H enc _ => lifted os started H enc)

theorem proved : Rows.FnExactFirstPassagesSaid :=
  over
#print axioms proved
end Go.Proofs.Ytpndacfbchdmmaa.fnExactFirstPassages
