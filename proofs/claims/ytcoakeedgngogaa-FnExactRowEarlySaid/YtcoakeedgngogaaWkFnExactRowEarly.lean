/- The walk through the law FnExactRowEarly: it returns true. -/
import Derived.Test.YtcoakeedgngogaaEarly2
import Derived.Test.YtcoakeedgngogaaLawIn
import Derived.Test.YtcoakeedgngogaaLawA2
namespace Go.Proofs.Ytcoakeedgngogaa.fnExactRowEarly
open Go.RowKit
set_option linter.unusedVariables false
set_option maxHeartbeats 1000000 in
theorem walk (a b n : Int) (ad : Option Addr) (m cap : Nat) (xss : List (List Int)) (w0 : (Lit.int .i64 a).wf = true) (w1 : (Lit.int .i64 b).wf = true) (w2 : (Lit.int .i64 n).wf = true) (w : World) (hm : m ≤ maxLen) (hr : ∀ j, j < m → (row xss j).length ≤ maxLen) (h : IntsSS w ad m xss) :
    Calls Try.prog 3 #[.int .i64 a, .int .i64 b, .int .i64 n, .slice ad m cap] w fun e w' => e = .returned (.bool true) ∧ Below w.heap.size w w' := by
  clear w0 w1 w2
  have hl := h.1
  have Hs : Hid (∀ (ad' : Option Addr) (m' cap' : Nat) (W : World), m' ≤ 1048576 → (∀ j, j < m' → (row xss j).length ≤ 1048576) → IntsSS W ad' m' xss → Calls Try.prog 9 #[.int .i64 a, .int .i64 b, .int .i64 n, .slice ad' m' cap'] W fun e w' => e = .returned (.tuple #[.agg #[.int .i64 (reN a b n xss), .int .i64 (reD a b n xss)], .bool (reO a b n xss)]) ∧ Below W.heap.size W w') :=
    Lib.hid fun ad' m' cap' W h1 h2 h3 => spec_RowEarly a b n ad' m' cap' _ W h1 h2 h3
  have Hi : Hid (∀ (ad' : Option Addr) (m' cap' : Nat) (W : World), m' ≤ 1048576 → (∀ j, j < m' → (row xss j).length ≤ 1048576) → IntsSS W ad' m' xss → Calls Try.prog 11 #[.int .i64 a, .int .i64 b, .int .i64 n, .slice ad' m' cap'] W fun e w' => e = .returned (.tuple #[.agg #[.int .i64 (reN a b n xss), .int .i64 (reD a b n xss)], .bool (reO a b n xss)]) ∧ Below W.heap.size W w') :=
    Lib.hid fun ad' m' cap' W h1 h2 h3 => impl_RowEarly a b n ad' m' cap' _ W h1 h2 h3
  generalize reN a b n xss = V at *
  generalize reD a b n xss = D at *
  generalize reO a b n xss = B at *
  have H := Lib.hid h
  have Hr := Lib.hid hr
  have Hm := Lib.hid hm
  clear h hr
  rw [show maxLen = 9223372036854775807 from rfl] at hm
  go_enter Try.func3, Try.ntmps3
  go_wp2_with fail
  refine (laws_szIntSS _ _ _ xss _ Hm.out Hr.out H.out).mono ?_
  rintro e w1 ⟨⟨z, rfl, hz, hz1, hz2⟩, rfl⟩
  have Hz := Lib.hid hz
  clear hz
  by_cases hzn : z < 0
  · go_wp2_with fail
    go_ret
    exact ⟨rfl, Below.refl _ _⟩
  · have hz := Hz.out (by omega)
    have hm2 := hz.1
    have Hrl := Lib.hid hz.2
    have hmid : Mid xss := ⟨by omega, fun j hj => by have := hz.2 j (by omega); omega⟩
    have Hmid := Lib.hid hmid
    have Hl := Lib.hid hl
    clear hz hmid hm
    go_wp2_with fail
    refine (laws_toIntSS _ _ _ xss _ Hmid.out H.out).mono ?_
    rintro e w1 ⟨v1, rfl, o1, b1⟩
    obtain ⟨as1, cs1, rfl⟩ := o1.shape
    rw [Hl.out] at o1 ⊢
    have O1 := Lib.hid o1
    clear o1
    go_wp2_with fail
    refine (Hs.out _ _ _ _ hm2 Hrl.out O1.out.ints).mono ?_
    rintro e w2 ⟨rfl, b2⟩
    have b12 := b1.trans (b2.mono b1.size)
    have R0 := Lib.hid (Pair.new w2 (.int .i64 V) (.int .i64 D) 24)
    have b12b := b12.trans ((below_new w2 (.cells #[.int .i64 V, .int .i64 D] 24)).mono b12.size)
    go_wp2_with fail
    generalize (w2.alloc (.cells #[.int .i64 V, .int .i64 D] 24)) = w2b at *
    refine (laws_toIntSS _ _ _ xss _ Hmid.out (H.out.below b12b)).mono ?_
    rintro e w3 ⟨v3, rfl, o3, b3⟩
    obtain ⟨as3, cs3, rfl⟩ := o3.shape
    rw [Hl.out] at o3 ⊢
    have O3 := Lib.hid o3
    have b13 := b12b.trans (b3.mono b12b.size)
    have R3 := Lib.hid (R0.out.below b3)
    clear o3
    go_wp2_with fail
    refine (Hi.out _ _ _ _ hm2 Hrl.out O3.out.ints).mono ?_
    rintro e w4 ⟨rfl, b4⟩
    have b14 := b13.trans (b4.mono b13.size)
    have G4 := Lib.hid (Pair.new w4 (.int .i64 V) (.int .i64 D) 24)
    have bA := below_new w4 (.cells #[.int .i64 V, .int .i64 D] 24)
    have R4 := Lib.hid ((R3.out.below b4).below bA)
    have b14b := b14.trans (bA.mono b14.size)
    have O4 := Lib.hid ((O3.out.below b4).below bA)
    have c0 := R4.out.c0
    have c1 := R4.out.c1
    have d0 := G4.out.c0
    have d1 := G4.out.c1
    clear bA
    go_wp2_with fail
    generalize (w4.alloc (.cells #[.int .i64 V, .int .i64 D] 24)) = w4b at *
    refine (laws_eqIntA2 _ _ _).mono ?_
    rintro e w4c ⟨rfl, b4c⟩
    have b14c := b14b.trans (b4c.mono b14b.size)
    clear c0 c1 d0 d1
    go_wp2_with fail
    refine (laws_toIntSS _ _ _ xss _ Hmid.out (H.out.below b14c)).mono ?_
    rintro e w5 ⟨v5, rfl, o5, b5⟩
    obtain ⟨as5, cs5, rfl⟩ := o5.shape
    rw [Hl.out] at o5 ⊢
    have O5 := Lib.hid o5
    have b15 := b14c.trans (b5.mono b14c.size)
    have O3' := Lib.hid ((O4.out.below b4c).below b5)
    clear o5
    go_wp2_with fail
    refine (laws_eqIntSS_m _ _ _ _ _ xss _ Hmid.out O3'.out.ints O5.out.ints).mono ?_
    rintro e w6 ⟨rfl, b6⟩
    go_wp2_with fail
    go_ret
    exact ⟨rfl, b15.trans (b6.mono b15.size)⟩
end Go.Proofs.Ytcoakeedgngogaa.fnExactRowEarly
