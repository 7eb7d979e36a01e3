/- Contracts and plain laws for the statement FnDoob, part 18. No conditions but those stated in each. -/
import Derived.Test.YtnbomleieianoaaBnFnDoob1
import Derived.ChangeKeysEq
/- Small words: equality of two pairs of numbers; sums and products that wrap. No conditions but those stated. -/
namespace Go.Proofs.Ytnbomleieianoaa
open Go.RowKit

theorem eqA2 (a b c d : Int) (w : World) : (Op.equalIn 10000 48 (.agg #[.int .i64 a, .int .i64 b]) (.agg #[.int .i64 c, .int .i64 d])).run Try.prog w = .ok (a == c && b == d) w := by
  have hu : Try.prog.underlying 48 = some (.array 2 3) := by kernel_rfl
  have hi : Try.prog.underlying 3 = some (.int .i64) := by kernel_rfl
  have hc : Try.prog.cellsOf 3 = 1 := by kernel_rfl
  have hp : Try.prog.plainKey 3 = true := by kernel_rfl
  obtain ⟨i, hinfo⟩ : ∃ i, Try.prog.info? 3 = some i := by
    have h := info_int
    cases h2 : Try.prog.info? 3 with
    | none => rw [h2] at h; cases h
    | some i => exact ⟨i, rfl⟩
  rw [show (10000 : Nat) = 9999 + 1 from rfl, run_equalIn_array w 9999 _ _ hu hinfo, hc, show List.range 2 = [0, 1] from rfl]
  have e1 : ∀ W, (Op.equalIn 9999 3 (.int .i64 a) (.int .i64 c)).run Try.prog W = .ok (a == c) W := fun W => run_equalIn_int W 9998 _ _ _ _ _ hi
  have e2 : ∀ W, (Op.equalIn 9999 3 (.int .i64 b) (.int .i64 d)).run Try.prog W = .ok (b == d) W := fun W => run_equalIn_int W 9998 _ _ _ _ _ hi
  have p1 : ∀ (x y : Int) W, (part 3 #[.int .i64 x, .int .i64 y] (0 * 1)).run Try.prog W = .ok (.int .i64 x) W := fun x y W => run_part_plain W hp rfl
  have p2 : ∀ (x y : Int) W, (part 3 #[.int .i64 x, .int .i64 y] (1 * 1)).run Try.prog W = .ok (.int .i64 y) W := fun x y W => run_part_plain W hp rfl
  generalize (a == c) = r1 at *
  generalize (b == d) = r2 at *
  cases r1
  · simp only [Op.eqItems, Sem.run_bind, p1, e1, Result.andThen_ok, Sem.run_ite, Bool.not_false, if_true, Sem.run_pure, Bool.false_and]
  · cases r2
    · simp only [Op.eqItems, Sem.run_bind, p1, p2, e1, e2, Result.andThen_ok, Sem.run_ite, Bool.not_true, Bool.not_false, Bool.false_eq_true, if_true, if_false, Sem.run_pure, Bool.true_and]
    · simp only [Op.eqItems, Sem.run_bind, p1, p2, e1, e2, Result.andThen_ok, Sem.run_ite, Bool.not_true, Bool.false_eq_true, if_false, Sem.run_pure, Bool.true_and]
theorem wr_form (x : Int) : ∃ t, IntKind.i64.wrap x = x + 18446744073709551616 * t := by
  rw [IntKind.wrap_i64]
  exact ⟨-((x + 9223372036854775808) / 18446744073709551616), by omega⟩
theorem wr_shift (x t : Int) : IntKind.i64.wrap (x + 18446744073709551616 * t) = IntKind.i64.wrap x := by
  rw [IntKind.wrap_i64, IntKind.wrap_i64]; omega
theorem wr_mul (x y : Int) : IntKind.i64.wrap (IntKind.i64.wrap x * y) = IntKind.i64.wrap (x * y) := by
  obtain ⟨t, ht⟩ := wr_form x
  rw [ht, Int.add_mul, Int.mul_assoc, wr_shift]
theorem wr_add (x y : Int) : IntKind.i64.wrap (IntKind.i64.wrap x + IntKind.i64.wrap y) = IntKind.i64.wrap (x + y) := by
  obtain ⟨t, ht⟩ := wr_form x
  obtain ⟨s, hs⟩ := wr_form y
  rw [ht, hs, show x + 18446744073709551616 * t + (y + 18446744073709551616 * s) = x + y + 18446744073709551616 * (t + s) by omega, wr_shift]
/-- The chance's sides, as they are reckoned. -/
theorem wr_chance {a b u0 u1 d0 d1 c0 c1 : Int} (h : (a * u0 * d1 + b * d0 * u1) * c1 = (a + b) * c0 * u1 * d1) :
    IntKind.i64.wrap (IntKind.i64.wrap (IntKind.i64.wrap (IntKind.i64.wrap (a * u0) * d1) + IntKind.i64.wrap (IntKind.i64.wrap (b * d0) * u1)) * c1) = IntKind.i64.wrap (IntKind.i64.wrap (IntKind.i64.wrap ((a + b) * c0) * u1) * d1) := by
  rw [wr_mul (a * u0), wr_mul (b * d0), wr_add, wr_mul, wr_mul ((a + b) * c0), wr_mul, h]
/-- The mean's sides, as they are reckoned. -/
theorem wr_mean {a b u0 u1 d0 d1 c0 c1 : Int} (h : (a * u0 * d1 + b * d0 * u1 + (a + b) * u1 * d1) * c1 = (a + b) * c0 * u1 * d1) :
    IntKind.i64.wrap (IntKind.i64.wrap (IntKind.i64.wrap (IntKind.i64.wrap (IntKind.i64.wrap (a * u0) * d1) + IntKind.i64.wrap (IntKind.i64.wrap (b * d0) * u1)) + IntKind.i64.wrap (IntKind.i64.wrap ((a + b) * u1) * d1)) * c1) = IntKind.i64.wrap (IntKind.i64.wrap (IntKind.i64.wrap ((a + b) * c0) * u1) * d1) := by
  rw [wr_mul (a * u0), wr_mul (b * d0), wr_mul ((a + b) * u1), wr_add (a * u0 * d1), wr_add, wr_mul, wr_mul ((a + b) * c0), wr_mul, h]
end Go.Proofs.Ytnbomleieianoaa
