/- Contracts: odds and goals drawn by the cursor. -/
import Derived.Test.YtbekfpgpeaoifaaCur2
namespace Go.Proofs.Ytbekfpgpeaoifaa
open Go.RowKit

theorem ints_lit (w : World) (xs : List Int) (c : Array Value) (n : Nat) (hc : c.toList = cs xs) (hn : n = xs.length) : Ints (w.alloc (.cells c 3)) (some ⟨w.heap.size, 0, none⟩) n xs := by
  subst hn
  refine ⟨rfl, fun _ => ⟨_, _, rfl, by simp, fun j hj => ?_⟩⟩
  rw [World.cell?_alloc_at _ _ _ _ rfl, Nat.zero_add, ← cs_get? _ _ hj, ← hc]
  simp
theorem Cur.lit {w : World} {g : Nat} {a : Option Addr} {n cap : Nat} {lim : Int} (h : Cur w g a n cap lim) (o : Obj) : Cur (w.alloc o) g a n cap lim := h.below ((Below.refl _ _).alloc (Nat.le_refl _) o)
theorem Cur.ne {w : World} {g : Nat} {a : Option Addr} {n cap : Nat} {lim : Int} (h : Cur w g a n cap lim) : ∀ p, (some ⟨w.heap.size, 0, none⟩ : Option Addr) = some p → p.block ≠ g := by
  intro p hp
  cases hp
  have := h.lt
  show w.heap.size ≠ g
  omega
theorem among_lit (g : Nat) (a : Option Addr) (n cap : Nat) (lim : Int) (xs : List Int) (c : Array Value) (k : Nat) (w : World) (hl : lim ≤ 900000) (hc : c.toList = cs xs) (hk : k = xs.length) (hk1 : 1 ≤ k ∧ k ≤ 1000) (h : Cur w g a n cap lim) :
    Calls Try.prog 57 #[.pointer (some ⟨g, 0, none⟩), .slice (some ⟨w.heap.size, 0, none⟩) k k] (w.alloc (.cells c 3)) fun e w' => (∃ i : Nat, i < k ∧ e = .returned (.int .i64 (nth xs i))) ∧ Cur w' g a n cap (lim + 2) ∧ w.grownBy w' (some g) :=
  (spec_among g a n cap lim _ _ _ xs _ hl hk1 (ints_lit w xs c k hc hk) h.ne (h.lit _)).mono fun _ _ ⟨h1, h2, h3⟩ => ⟨h1, h2, (World.grownBy_alloc w _ _).trans h3⟩
set_option maxHeartbeats 1000000 in
theorem spec_odds5 (g : Nat) (a : Option Addr) (n cap : Nat) (lim : Int) (w : World) (hl : lim ≤ 800000) (h : Cur w g a n cap lim) :
    Calls Try.prog 83 #[.pointer (some ⟨g, 0, none⟩)] w fun e w' => (∃ x y : Int, e = .returned (.tuple #[.int .i64 x, .int .i64 y])) ∧ Cur w' g a n cap (lim + 10) ∧ w.grownBy w' (some g) := by
  have H := Lib.hid h
  clear h
  go_enter Try.func83, Try.ntmps83
  go_wp2_with fail
  refine (spec_one g a n cap lim _ _ (by omega) (by omega) H.out).mono ?_
  rintro e w1 ⟨⟨x, rfl⟩, c1, g1⟩
  have C1 := Lib.hid c1
  have G1 := Lib.hid g1
  clear c1 g1
  cases x
  · go_wp2_with fail
    refine (among_lit g a n cap (lim + 2) [1, 2, 1, 3, 5, 9] _ 6 _ (by omega) rfl rfl (by omega) C1.out).mono ?_
    rintro e w2 ⟨⟨i, hi, rfl⟩, c2, g2⟩
    have C2 := Lib.hid c2
    have G2 := Lib.hid (G1.out.trans g2)
    generalize nth _ i = x
    clear c2 g2
    go_wp2_with fail
    refine (among_lit g a n cap (lim + 2 + 2) [1, 2, 1, 3, 4, 20] _ 6 _ (by omega) rfl rfl (by omega) C2.out).mono ?_
    rintro e w3 ⟨⟨j, hj, rfl⟩, c3, g3⟩
    generalize nth _ j = y
    go_wp2_with fail
    go_ret2
    exact ⟨⟨_, _, rfl⟩, c3.mono (by omega), G2.out.trans g3⟩
  · go_wp2_with fail
    refine (among_lit g a n cap (lim + 2) [0, 20, 21, -1] _ 4 _ (by omega) rfl rfl (by omega) C1.out).mono ?_
    rintro e w2 ⟨⟨i, hi, rfl⟩, c2, g2⟩
    generalize nth _ i = x
    go_wp2_with fail
    go_ret2
    exact ⟨⟨_, _, rfl⟩, c2.mono (by omega), G1.out.trans g2⟩
set_option maxHeartbeats 1000000 in
theorem spec_goal5 (g : Nat) (a : Option Addr) (n cap : Nat) (lim : Int) (w : World) (hl : lim ≤ 800000) (h : Cur w g a n cap lim) :
    Calls Try.prog 84 #[.pointer (some ⟨g, 0, none⟩)] w fun e w' => (∃ x y : Int, e = .returned (.tuple #[.int .i64 x, .int .i64 y])) ∧ Cur w' g a n cap (lim + 20) ∧ w.grownBy w' (some g) := by
  have H := Lib.hid h
  clear h
  go_enter Try.func84, Try.ntmps84
  go_wp2_with fail
  refine (spec_pick g a n cap lim _ _ (by omega) (by omega) H.out).mono ?_
  rintro e w1 ⟨⟨x, rfl, hx0, hx1⟩, c1, g1⟩
  have C1 := Lib.hid c1
  have G1 := Lib.hid g1
  clear c1 g1
  go_wp2_with fail
  refine (spec_one g a n cap (lim + 2) _ _ (by omega) (by omega) C1.out).mono ?_
  rintro e w2 ⟨⟨t, rfl⟩, c2, g2⟩
  have C2 := Lib.hid c2
  have G2 := Lib.hid (G1.out.trans g2)
  clear c2 g2
  cases t
  · have hx2 : x ≤ 7 := by omega
    obtain ⟨N, hN⟩ : ∃ N, N = 1 + x := ⟨_, rfl⟩
    have k1 : IntKind.i64.wrap (1 + x) = N := by rw [hN]; exact IntWalk.i64_in _ (by omega)
    go_wp2_with fail
    rw [← hN]
    have hN0 : -1 ≤ N ∧ N ≤ 13 := by omega
    clear hN k1
    refine (spec_one g a n cap (lim + 2 + 2) _ _ (by omega) (by omega) C2.out).mono ?_
    rintro e w4 ⟨⟨t2, rfl⟩, c4, g4⟩
    have C4 := Lib.hid c4
    have G4 := Lib.hid (G2.out.trans g4)
    clear c4 g4
    cases t2
    · go_wp2_with fail
      refine (spec_l1Most _ _ _).mono ?_
      rintro e w5 ⟨rfl, rfl⟩
      have hmost : most 1 (N + 1) ≤ 20 := by unfold most; omega
      generalize most 1 (N + 1) = q at *
      go_wp2_with fail
      refine (spec_pick g a n cap (lim + 2 + 2 + 2) _ _ (by omega) (by omega) C4.out).mono ?_
      rintro e w6 ⟨⟨z, rfl, hz0, hz1⟩, c6, g6⟩
      go_wp2_with fail
      go_ret2
      exact ⟨⟨_, _, rfl⟩, c6.mono (by omega), G4.out.trans g6⟩
    · go_wp2_with fail
      refine (among_lit g a n cap (lim + 2 + 2 + 2) [-1, N + 1] _ 2 _ (by omega) rfl rfl (by omega) C4.out).mono ?_
      rintro e w6 ⟨⟨i6, hi6, rfl⟩, c6, g6⟩
      generalize nth _ i6 = z
      go_wp2_with fail
      go_ret2
      exact ⟨⟨_, _, rfl⟩, c6.mono (by omega), G4.out.trans g6⟩
  · go_wp2_with fail
    refine (among_lit g a n cap (lim + 2 + 2) [0, 12, 13, -1] _ 4 _ (by omega) rfl rfl (by omega) C2.out).mono ?_
    rintro e w3 ⟨⟨i3, hi3, rfl⟩, c3, g3⟩
    have C3 := Lib.hid c3
    have G3 := Lib.hid (G2.out.trans g3)
    have hN0 : -1 ≤ nth [0, 12, 13, -1] i3 ∧ nth [0, 12, 13, -1] i3 ≤ 13 := by
      rcases (show i3 = 0 ∨ i3 = 1 ∨ i3 = 2 ∨ i3 = 3 by omega) with rfl | rfl | rfl | rfl <;> decide
    generalize nth [0, 12, 13, -1] i3 = N at *
    clear c3 g3
    go_wp2_with fail
    refine (spec_one g a n cap (lim + 2 + 2 + 2) _ _ (by omega) (by omega) C3.out).mono ?_
    rintro e w4 ⟨⟨t2, rfl⟩, c4, g4⟩
    have C4 := Lib.hid c4
    have G4 := Lib.hid (G3.out.trans g4)
    clear c4 g4
    cases t2
    · go_wp2_with fail
      refine (spec_l1Most _ _ _).mono ?_
      rintro e w5 ⟨rfl, rfl⟩
      have hmost : most 1 (N + 1) ≤ 20 := by unfold most; omega
      generalize most 1 (N + 1) = q at *
      go_wp2_with fail
      refine (spec_pick g a n cap (lim + 2 + 2 + 2 + 2) _ _ (by omega) (by omega) C4.out).mono ?_
      rintro e w6 ⟨⟨z, rfl, hz0, hz1⟩, c6, g6⟩
      go_wp2_with fail
      go_ret2
      exact ⟨⟨_, _, rfl⟩, c6.mono (by omega), G4.out.trans g6⟩
    · go_wp2_with fail
      refine (among_lit g a n cap (lim + 2 + 2 + 2 + 2) [-1, N + 1] _ 2 _ (by omega) rfl rfl (by omega) C4.out).mono ?_
      rintro e w6 ⟨⟨i6, hi6, rfl⟩, c6, g6⟩
      generalize nth _ i6 = z
      go_wp2_with fail
      go_ret2
      exact ⟨⟨_, _, rfl⟩, c6.mono (by omega), G4.out.trans g6⟩
end Go.Proofs.Ytbekfpgpeaoifaa
