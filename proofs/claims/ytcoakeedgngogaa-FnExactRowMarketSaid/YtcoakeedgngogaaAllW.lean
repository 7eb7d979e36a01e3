/- Contract: are all numbers of a list between two others. -/
import Derived.Test.YtcoakeedgngogaaPlAll
namespace Go.Proofs.Ytcoakeedgngogaa
open Go.RowKit

set_option maxHeartbeats 400000 in
theorem impl_allWithin (a : Option Addr) (n cap : Nat) (lo up : Int) (xs : List Int) (w : World) (hn : n ≤ 4294967296) (h : Ints w a n xs) :
    Calls Try.prog 41 #[.slice a n cap, .int .i64 lo, .int .i64 up] w fun e w' => e = .returned (.bool (allIn xs lo up)) ∧ w = w' := by
  have hl := Lib.hid h.1
  have H := Lib.hid h
  clear h
  go_enter Try.func41, Try.ntmps41
  go_wp2_with fail
  go_loop [11] (fun v11 => ∃ i : Nat, i ≤ n ∧ v11 = .int .i64 (i : Int) ∧ ∀ j, j < i → inB (nth xs j) lo up = true) (fun v11 => n - (intOf v11).toNat)
  case atStart => exact ⟨0, Nat.zero_le _, rfl, fun j hj => by omega⟩
  case round =>
    obtain ⟨i, hi, rfl, hall⟩ := hrel
    have Hall := Lib.hid hall
    clear hall
    by_cases hlt : (i : Int) < n
    · obtain ⟨b, off, rfl, hb, hc⟩ := H.out.2 (by omega)
      have h1 := hc i (by omega)
      clear hc
      cases hin : inB (nth xs i) lo up
      · go_wp2_with fail
        refine (impl_within _ _ _ _).mono ?_
        rintro e w1 ⟨rfl, rfl⟩
        go_wp2_with fail
        go_ret
        exact ⟨by rw [show allIn xs lo up = false from all_f (i := i) (by have := hl.out; omega) hin]; rfl, rfl⟩
      · go_wp2_with fail
        refine (impl_within _ _ _ _).mono ?_
        rintro e w1 ⟨rfl, rfl⟩
        go_wp2_with fail
        go_round
        case rel => exact ⟨i + 1, by omega, by go_num, fun j hj => by
          by_cases e : j = i
          · subst e; exact hin
          · exact Hall.out j (by omega)⟩
        case measure => simp [intOf]; omega
    · go_wp2_with fail
      go_ret
      exact ⟨by rw [show allIn xs lo up = true from all_t fun j hj => Hall.out j (by have := hl.out; omega)]; rfl, rfl⟩
end Go.Proofs.Ytcoakeedgngogaa
