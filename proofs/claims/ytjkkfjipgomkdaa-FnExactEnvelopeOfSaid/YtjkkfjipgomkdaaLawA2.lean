/- Contract of the law's helper on pairs: equal pairs are found equal. -/
import Derived.Test.YtjkkfjipgomkdaaBase
import Derived.Deep.QuietTactic
import Derived.BigQuiet
import Derived.WalkSmall
import Derived.Deep.Draws
namespace Go.Proofs.Ytjkkfjipgomkdaa
open Go.RowKit

set_option maxHeartbeats 1000000 in
theorem laws_eqIntA2 (x y : Int) (w : World) :
    Calls Try.prog 24 #[.agg #[.int .i64 x, .int .i64 y], .agg #[.int .i64 x, .int .i64 y]] w fun e w' => e = .returned (.bool true) ∧ Below w.heap.size w w' := by
  have hP := Lib.hid ((Pair.new w (.int .i64 x) (.int .i64 y) 34).alloc (.cells #[.int .i64 x, .int .i64 y] 34))
  have hQ := Lib.hid (Pair.new (w.alloc (.cells #[.int .i64 x, .int .i64 y] 34)) (.int .i64 x) (.int .i64 y) 34)
  have hb0 : Below w.heap.size w ((w.alloc (.cells #[.int .i64 x, .int .i64 y] 34)).alloc (.cells #[.int .i64 x, .int .i64 y] 34)) := ((Below.refl _ _).alloc (Nat.le_refl _) _).alloc (by simp) _
  rw [show (w.alloc (.cells #[.int .i64 x, .int .i64 y] 34)).heap.size = w.heap.size + 1 by simp] at hQ
  go_enter Try.func24, Try.ntmps24
  go_wp2_with fail
  generalize ((w.alloc (.cells #[.int .i64 x, .int .i64 y] 34)).alloc (.cells #[.int .i64 x, .int .i64 y] 34)) = w2 at *
  go_loopw [5] (fun v5 wr => ∃ i : Nat, i ≤ 2 ∧ v5 = .int .i64 i ∧ Pair wr w.heap.size (.int .i64 x) (.int .i64 y) ∧ Pair wr (w.heap.size + 1) (.int .i64 x) (.int .i64 y) ∧ Below w.heap.size w wr) (fun v5 _ => 2 - (intOf v5).toNat)
  case atStart => exact ⟨0, by omega, rfl, hP.out, hQ.out, hb0⟩
  case round =>
    obtain ⟨i, hi, rfl, hp, hq, hbel⟩ := hrel
    clear hP hQ hb0
    by_cases hlt : (i : Int) < 2
    · have hc1 : wr.cell? ⟨w.heap.size, i, none⟩ = some (.int .i64 (if i = 0 then x else y)) := by
        have : i = 0 ∨ i = 1 := by omega
        rcases this with rfl | rfl
        · exact hp.c0
        · exact hp.c1
      have hc2 : wr.cell? ⟨w.heap.size + 1, i, none⟩ = some (.int .i64 (if i = 0 then x else y)) := by
        have : i = 0 ∨ i = 1 := by omega
        rcases this with rfl | rfl
        · exact hq.c0
        · exact hq.c1
      generalize (if i = 0 then x else y) = c at hc1 hc2
      have h0i : (0 : Int) ≤ i := by omega
      have Hp := Lib.hid hp
      have Hq := Lib.hid hq
      clear hp hq
      go_wp2_with fail
      go_quiet (fail)
      go_wp2_with fail
      go_roundw
      case rel => exact ⟨i + 1, by omega, by go_num, Hp.out.drewN _, Hq.out.drewN _, below_drewN hbel _⟩
      case measure => simp [intOf]; omega
    · obtain rfl : i = 2 := by omega
      go_wp2_with fail
      go_ret
      exact ⟨rfl, hbel⟩
end Go.Proofs.Ytjkkfjipgomkdaa
