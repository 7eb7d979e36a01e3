/- Contracts: arguments drawn for walks. -/
import Derived.Test.YtbekfpgpeaoifaaDrawR
namespace Go.Proofs.Ytbekfpgpeaoifaa
open Go.RowKit

set_option maxHeartbeats 1000000 in
theorem spec_DrawReturnCounts (a : Option Addr) (n cap : Nat) (w : World) (h : Bytes w a n) :
    Calls Try.prog 33 #[.slice a n cap] w fun e w' => (∃ x1 : Int, e = .returned (.int .i64 x1)) ∧ Below w.heap.size w w' := by
  have hc := Lib.hid (Cur.new (w := w) (cap := cap) 61 h)
  have hg := Lib.hid (World.grownBy.refl (w.alloc (.cells #[.slice a n cap, .int .i64 0, .int .u64 0] 61)) (some w.heap.size))
  go_enter Try.func33, Try.ntmps33
  go_wp2_with fail
  generalize hw0 : (w.alloc (.cells #[.slice a n cap, .int .i64 0, .int .u64 0] 61)) = w0 at *
  have Hw0 := Lib.hid hw0
  clear hw0
  refine (spec_one w.heap.size a n cap 0 _ _ (by omega) (by omega) hc.out).mono ?_
  rintro e w1 ⟨⟨t, rfl⟩, c1, g1⟩
  have C1 := Lib.hid c1
  have G1 := Lib.hid g1
  clear c1 g1
  cases t
  · go_wp2_with fail
    refine (spec_pick w.heap.size a n cap (0 + 2) _ _ (by omega) (by omega) C1.out).mono ?_
    rintro e w2 ⟨⟨x, rfl, hx0, hx1⟩, c2, g2⟩
    have G2 := G1.out.trans g2
    rw [← Hw0.out] at G2
    have hx2 : x < 7 := by omega
    have k1 : IntKind.i64.wrap (2 * x) = 2 * x := IntWalk.i64_in _ (by omega)
    go_wp2_with fail
    go_ret
    exact ⟨⟨_, rfl⟩, below_cur G2⟩
  · go_wp2_with fail
    refine (among_lit w.heap.size a n cap (0 + 2) [-2, 30, 32, 7] _ 4 _ (by omega) rfl rfl (by omega) C1.out).mono ?_
    rintro e w2 ⟨⟨i, hi, rfl⟩, c2, g2⟩
    generalize nth _ i = x
    have G2 := G1.out.trans g2
    rw [← Hw0.out] at G2
    go_wp2_with fail
    go_ret
    exact ⟨⟨_, rfl⟩, below_cur G2⟩
set_option maxHeartbeats 1000000 in
theorem spec_steps5 (g : Nat) (a : Option Addr) (n cap : Nat) (lim : Int) (w : World) (hl : lim ≤ 800000) (h : Cur w g a n cap lim) :
    Calls Try.prog 97 #[.pointer (some ⟨g, 0, none⟩)] w fun e w' => (∃ x : Int, e = .returned (.int .i64 x)) ∧ Cur w' g a n cap (lim + 10) ∧ w.grownBy w' (some g) := by
  have H := Lib.hid h
  clear h
  go_enter Try.func97, Try.ntmps97
  go_wp2_with fail
  refine (spec_one g a n cap lim _ _ (by omega) (by omega) H.out).mono ?_
  rintro e w1 ⟨⟨x, rfl⟩, c1, g1⟩
  have C1 := Lib.hid c1
  have G1 := Lib.hid g1
  clear c1 g1
  cases x
  · go_wp2_with fail
    refine (spec_pick g a n cap (lim + 2) _ _ (by omega) (by omega) C1.out).mono ?_
    rintro e w2 ⟨⟨x, rfl, hx0, hx1⟩, c2, g2⟩
    go_wp2_with fail
    go_ret
    exact ⟨⟨_, rfl⟩, c2.mono (by omega), G1.out.trans g2⟩
  · go_wp2_with fail
    refine (among_lit g a n cap (lim + 2) [-1, 30, 31, 4611686018427387904] _ 4 _ (by omega) rfl rfl (by omega) C1.out).mono ?_
    rintro e w2 ⟨⟨i, hi, rfl⟩, c2, g2⟩
    generalize nth _ i = x
    go_wp2_with fail
    go_ret
    exact ⟨⟨_, rfl⟩, c2.mono (by omega), G1.out.trans g2⟩
set_option maxHeartbeats 1000000 in
theorem spec_DrawPathCount (a : Option Addr) (n cap : Nat) (w : World) (h : Bytes w a n) :
    Calls Try.prog 63 #[.slice a n cap] w fun e w' => (∃ x1 x2 : Int, e = .returned (.tuple #[.int .i64 x1, .int .i64 x2])) ∧ Below w.heap.size w w' := by
  have hc := Lib.hid (Cur.new (w := w) (cap := cap) 61 h)
  go_enter Try.func63, Try.ntmps63
  go_wp2_with fail
  generalize hw0 : (w.alloc (.cells #[.slice a n cap, .int .i64 0, .int .u64 0] 61)) = w0 at *
  have Hw0 := Lib.hid hw0
  clear hw0
  refine (spec_steps5 w.heap.size a n cap 0 _ (by omega) hc.out).mono ?_
  rintro e w1 ⟨⟨m, rfl⟩, c1, g1⟩
  have C1 := Lib.hid c1
  have G1 := Lib.hid g1
  clear c1 g1
  go_wp2_with fail
  refine (spec_one w.heap.size a n cap (0 + 10) _ _ (by omega) (by omega) C1.out).mono ?_
  rintro e w2 ⟨⟨t, rfl⟩, c2, g2⟩
  have C2 := Lib.hid c2
  have G2 := Lib.hid (G1.out.trans g2)
  clear c2 g2
  cases t
  · go_wp2_with fail
    refine (spec_pick w.heap.size a n cap (0 + 10 + 2) _ _ (by omega) (by omega) C2.out).mono ?_
    rintro e w3 ⟨⟨x, rfl, hx0, hx1⟩, c3, g3⟩
    have G3 := G2.out.trans g3
    rw [← Hw0.out] at G3
    have hx2 : x < 15 := by omega
    have k1 : IntKind.i64.wrap (x - 7) = x - 7 := IntWalk.i64_in _ (by omega)
    go_wp2_with fail
    go_ret2
    exact ⟨⟨_, _, rfl⟩, below_cur G3⟩
  · go_wp2_with fail
    refine (among_lit w.heap.size a n cap (0 + 10 + 2) [4611686018427387904, -9223372036854775808, 31] _ 3 _ (by omega) rfl rfl (by omega) C2.out).mono ?_
    rintro e w3 ⟨⟨i, hi, rfl⟩, c3, g3⟩
    generalize nth _ i = x
    have G3 := G2.out.trans g3
    rw [← Hw0.out] at G3
    go_wp2_with fail
    go_ret2
    exact ⟨⟨_, _, rfl⟩, below_cur G3⟩
theorem spec_DrawFirstPassages (a : Option Addr) (n cap : Nat) (w : World) (h : Bytes w a n) :
    Calls Try.prog 25 #[.slice a n cap] w fun e w' => (∃ x1 x2 : Int, e = .returned (.tuple #[.int .i64 x1, .int .i64 x2])) ∧ Below w.heap.size w w' := by
  go_enter Try.func25, Try.ntmps25
  go_wp2_with fail
  refine (spec_DrawPathCount a n cap _ h).mono ?_
  rintro e w1 ⟨⟨x1, x2, rfl⟩, b1⟩
  go_wp2_with fail
  go_ret2
  exact ⟨⟨_, _, rfl⟩, b1⟩
set_option maxHeartbeats 1000000 in
theorem spec_DrawPathsAbove (a : Option Addr) (n cap : Nat) (w : World) (h : Bytes w a n) :
    Calls Try.prog 20 #[.slice a n cap] w fun e w' => (∃ x1 x2 x3 : Int, e = .returned (.tuple #[.int .i64 x1, .int .i64 x2, .int .i64 x3])) ∧ Below w.heap.size w w' := by
  have hc := Lib.hid (Cur.new (w := w) (cap := cap) 61 h)
  have hbb := Lib.hid (h.below ((Below.refl _ w).alloc (Nat.le_refl _) (.cells #[.slice a n cap, .int .i64 0, .int .u64 0] 61)))
  go_enter Try.func20, Try.ntmps20
  go_wp2_with fail
  generalize hw0 : (w.alloc (.cells #[.slice a n cap, .int .i64 0, .int .u64 0] 61)) = w0 at *
  have Hw0 := Lib.hid hw0
  clear hw0
  refine (spec_DrawPathCount a n cap _ hbb.out).mono ?_
  rintro e w1 ⟨⟨m, x, rfl⟩, b1⟩
  have C1 := Lib.hid (hc.out.below b1)
  have G1 : Hid (w0.grownBy w1 (some w.heap.size)) := Lib.hid ⟨b1.os, b1.tape, b1.output, b1.size, fun i hi _ => b1.block i hi⟩
  clear b1
  go_wp2_with fail
  refine (spec_pick w.heap.size a n cap 0 _ _ (by omega) (by omega) C1.out).mono ?_
  rintro e w2 ⟨⟨p, rfl, hp0, hp1⟩, c2, g2⟩
  have C2 := Lib.hid c2
  have G2 := Lib.hid (G1.out.trans g2)
  clear c2 g2
  have kp : IntKind.i64.wrap (-p) = -p := IntWalk.i64_in _ (by omega)
  go_wp2_with fail
  refine (among_lit w.heap.size a n cap (0 + 2) [0, 0, 0, 0, 1, -30] _ 6 _ (by omega) rfl rfl (by omega) C2.out).mono ?_
  rintro e w3 ⟨⟨i, hi, rfl⟩, c3, g3⟩
  have hz : -30 ≤ nth [0, 0, 0, 0, 1, -30] i ∧ nth [0, 0, 0, 0, 1, -30] i ≤ 1 := by
    rcases (show i = 0 ∨ i = 1 ∨ i = 2 ∨ i = 3 ∨ i = 4 ∨ i = 5 by omega) with rfl | rfl | rfl | rfl | rfl | rfl <;> decide
  generalize nth [0, 0, 0, 0, 1, -30] i = z at *
  have C3 := Lib.hid c3
  have G3 := Lib.hid (G2.out.trans g3)
  clear c3 g3
  go_wp2_with fail
  refine (spec_pick w.heap.size a n cap (0 + 2 + 2) _ _ (by omega) (by omega) C3.out).mono ?_
  rintro e w4 ⟨⟨q, rfl, hq0, hq1⟩, c4, g4⟩
  have G4 := G3.out.trans g4
  rw [← Hw0.out] at G4
  have hq2 : q ≤ 23 := by omega
  have hb : -690 ≤ z * q ∧ z * q ≤ 23 := by
    have h1 : (-30) * q ≤ z * q := Int.mul_le_mul_of_nonneg_right hz.1 hq0
    have h2 : z * q ≤ 1 * q := Int.mul_le_mul_of_nonneg_right hz.2 hq0
    omega
  have k1 : IntKind.i64.wrap (z * q) = z * q := IntWalk.i64_in _ (by omega)
  have k2 : -690 ≤ (z * q).tdiv 23 ∧ (z * q).tdiv 23 ≤ 23 := by
    rcases Int.le_total 0 (z * q) with h | h
    · rw [Int.tdiv_eq_ediv_of_nonneg h]; omega
    · have : (z * q).tdiv 23 = -((-(z * q)).tdiv 23) := by rw [Int.neg_tdiv]; omega
      rw [this, Int.tdiv_eq_ediv_of_nonneg (by omega)]; omega
  have k3 : IntKind.i64.wrap ((z * q).tdiv 23) = (z * q).tdiv 23 := IntWalk.i64_in _ (by omega)
  have k4 : IntKind.i64.wrap (-p + (z * q).tdiv 23) = -p + (z * q).tdiv 23 := IntWalk.i64_in _ (by omega)
  have k0 : ¬ (23 : Int) = 0 := by omega
  go_wp2_with fail
  go_ret3
  exact ⟨⟨_, _, _, rfl⟩, below_cur G4⟩
set_option maxHeartbeats 1000000 in
theorem spec_DrawBallotCount (a : Option Addr) (n cap : Nat) (w : World) (h : Bytes w a n) :
    Calls Try.prog 28 #[.slice a n cap] w fun e w' => (∃ x1 x2 : Int, e = .returned (.tuple #[.int .i64 x1, .int .i64 x2])) ∧ Below w.heap.size w w' := by
  have hc := Lib.hid (Cur.new (w := w) (cap := cap) 61 h)
  go_enter Try.func28, Try.ntmps28
  go_wp2_with fail
  generalize hw0 : (w.alloc (.cells #[.slice a n cap, .int .i64 0, .int .u64 0] 61)) = w0 at *
  have Hw0 := Lib.hid hw0
  clear hw0
  refine (spec_one w.heap.size a n cap 0 _ _ (by omega) (by omega) hc.out).mono ?_
  rintro e w1 ⟨⟨t, rfl⟩, c1, g1⟩
  have C1 := Lib.hid c1
  have G1 := Lib.hid g1
  clear c1 g1
  cases t
  · go_wp2_with fail
    refine (spec_pick w.heap.size a n cap (0 + 2) _ _ (by omega) (by omega) C1.out).mono ?_
    rintro e w2 ⟨⟨x, rfl, hx0, hx1⟩, c2, g2⟩
    have C2 := Lib.hid c2
    have G2 := Lib.hid (G1.out.trans g2)
    clear c2 g2
    go_wp2_with fail
    refine (spec_pick w.heap.size a n cap (0 + 2 + 2) _ _ (by omega) (by omega) C2.out).mono ?_
    rintro e w3 ⟨⟨y, rfl, hy0, hy1⟩, c3, g3⟩
    have G3 := G2.out.trans g3
    rw [← Hw0.out] at G3
    go_wp2_with fail
    go_ret2
    exact ⟨⟨_, _, rfl⟩, below_cur G3⟩
  · go_wp2_with fail
    refine (among_lit w.heap.size a n cap (0 + 2) [-1, 30, 31] _ 3 _ (by omega) rfl rfl (by omega) C1.out).mono ?_
    rintro e w2 ⟨⟨i, hi, rfl⟩, c2, g2⟩
    generalize nth _ i = x
    have C2 := Lib.hid c2
    have G2 := Lib.hid (G1.out.trans g2)
    clear c2 g2
    go_wp2_with fail
    refine (spec_pick w.heap.size a n cap (0 + 2 + 2) _ _ (by omega) (by omega) C2.out).mono ?_
    rintro e w3 ⟨⟨y, rfl, hy0, hy1⟩, c3, g3⟩
    have G3 := G2.out.trans g3
    rw [← Hw0.out] at G3
    go_wp2_with fail
    go_ret2
    exact ⟨⟨_, _, rfl⟩, below_cur G3⟩
end Go.Proofs.Ytbekfpgpeaoifaa
