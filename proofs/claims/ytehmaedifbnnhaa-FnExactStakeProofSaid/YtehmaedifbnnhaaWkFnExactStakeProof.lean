/- The walk through the law FnExactStakeProof: it returns true. -/
import Derived.Test.YtehmaedifbnnhaaStake2
import Derived.Test.YtehmaedifbnnhaaLawIn
namespace Go.Proofs.Ytehmaedifbnnhaa.fnExactStakeProof
open Go.RowKit
set_option linter.unusedVariables false
set_option maxHeartbeats 1000000 in
theorem walk (a b n : Int) (ad : Option Addr) (m cap : Nat) (xss : List (List Int)) (w0 : (Lit.int .i64 a).wf = true) (w1 : (Lit.int .i64 b).wf = true) (w2 : (Lit.int .i64 n).wf = true) (w : World) (hm : m ≤ maxLen) (hr : ∀ j, j < m → (row xss j).length ≤ maxLen) (h : IntsSS w ad m xss) :
    Calls Try.prog 8 #[.int .i64 a, .int .i64 b, .int .i64 n, .slice ad m cap] w fun e w' => e = .returned (.bool true) ∧ Below w.heap.size w w' := by
  clear w0 w1 w2
  have hl := h.1
  have Hs : Hid (∀ (xss' : List (List Int)) (ad' : Option Addr) (m' cap' : Nat) (W : World), m' ≤ 1048576 → IntsSS W ad' m' xss' → xss' = xss → Calls Try.prog 30 #[.int .i64 a, .int .i64 b, .int .i64 n, .slice ad' m' cap'] W fun e w' => e = .returned (.tuple #[.bool (stakeV stF a b n xss), .bool (game a b n)]) ∧ Below W.heap.size W w') :=
    Lib.hid fun xss' ad' m' cap' W h1 h2 h3 => by subst h3; exact spec_StakeProof a b n ad' m' cap' _ W h1 h2
  have Hi : Hid (∀ (ad' : Option Addr) (m' cap' : Nat) (W : World), m' ≤ 1048576 → (∀ j, j < m' → (row xss j).length ≤ 1048576) → IntsSS W ad' m' xss → Calls Try.prog 32 #[.int .i64 a, .int .i64 b, .int .i64 n, .slice ad' m' cap'] W fun e w' => e = .returned (.tuple #[.bool (stakeV stF a b n xss), .bool (game a b n)]) ∧ Below W.heap.size W w') :=
    Lib.hid fun ad' m' cap' W h1 h2 h3 => impl_StakeProof a b n ad' m' cap' _ W h1 h2 h3
  generalize stakeV stF a b n xss = V at *
  generalize game a b n = B at *
  have H := Lib.hid h
  have Hr := Lib.hid hr
  have Hm := Lib.hid hm
  clear h hr
  rw [show maxLen = 9223372036854775807 from rfl] at hm
  go_enter Try.func8, Try.ntmps8
  go_wp2_with fail
  refine (laws_szIntSS _ _ _ xss _ Hm.out Hr.out H.out).mono ?_
  rintro e w1 ⟨⟨z, rfl, hz, hz1, hz2⟩, rfl⟩
  have Hz := Lib.hid hz
  clear hz
  by_cases hzn : z < 0
  · go_wp2_with fail
    go_ret
    exact ⟨rfl, Below.refl _ _⟩
  · have hz := Hz.out (by omega)
    have hm2 := hz.1
    have Hrl := Lib.hid hz.2
    have hmid : Mid xss := ⟨by omega, fun j hj => by have := hz.2 j (by omega); omega⟩
    have Hmid := Lib.hid hmid
    have Hl := Lib.hid hl
    clear hz hmid hm
    go_wp2_with fail
    refine (laws_toIntSS _ _ _ xss _ Hmid.out H.out).mono ?_
    rintro e w1 ⟨v1, rfl, o1, b1⟩
    obtain ⟨as1, cs1, rfl⟩ := o1.shape
    rw [Hl.out] at o1 ⊢
    have O1 := Lib.hid o1
    clear o1
    go_wp2_with fail
    refine (Hs.out xss _ _ _ _ hm2 O1.out.ints rfl).mono ?_
    rintro e w2 ⟨rfl, b2⟩
    have b12 := b1.trans (b2.mono b1.size)
    go_wp2_with fail
    refine (laws_toIntSS _ _ _ xss _ Hmid.out (H.out.below b12)).mono ?_
    rintro e w3 ⟨v3, rfl, o3, b3⟩
    obtain ⟨as3, cs3, rfl⟩ := o3.shape
    rw [Hl.out] at o3 ⊢
    have O3 := Lib.hid o3
    have b13 := b12.trans (b3.mono b12.size)
    clear o3
    go_wp2_with fail
    refine (Hi.out _ _ _ _ hm2 Hrl.out O3.out.ints).mono ?_
    rintro e w4 ⟨rfl, b4⟩
    have b14 := b13.trans (b4.mono b13.size)
    go_wp2_with fail
    refine (laws_toIntSS _ _ _ xss _ Hmid.out (H.out.below b14)).mono ?_
    rintro e w5 ⟨v5, rfl, o5, b5⟩
    obtain ⟨as5, cs5, rfl⟩ := o5.shape
    rw [Hl.out] at o5 ⊢
    have O5 := Lib.hid o5
    have b15 := b14.trans (b5.mono b14.size)
    have O3' := Lib.hid ((O3.out.below b4).below b5)
    clear o5
    go_wp2_with fail
    refine (laws_eqIntSS_m _ _ _ _ _ xss _ Hmid.out O3'.out.ints O5.out.ints).mono ?_
    rintro e w6 ⟨rfl, b6⟩
    go_wp2_with fail
    go_ret
    exact ⟨rfl, b15.trans (b6.mono b15.size)⟩
end Go.Proofs.Ytehmaedifbnnhaa.fnExactStakeProof
