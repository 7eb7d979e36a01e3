/- Contracts: the value of a row and its holding, of the program and of the reference, whole. -/
import Derived.Test.YtehmaedifbnnhaaRow2
namespace Go.Proofs.Ytehmaedifbnnhaa
open Go.RowKit

/-- What RowValue returns. -/
def rvN (n u d : Int) (xs : List Int) : Int := if rowOkB n u d xs then lowN (rowV u d xs) (powI (u + d) n.toNat) else 0
def rvD (n u d : Int) (xs : List Int) : Int := if rowOkB n u d xs then lowD (rowV u d xs) (powI (u + d) n.toNat) else 0
def rvB (n u d : Int) (xs : List Int) : Bool := rowOkB n u d xs && lowB (rowV u d xs) (powI (u + d) n.toNat)
theorem rv_no {n u d : Int} {xs : List Int} (h : rowOkB n u d xs = false) : rvN n u d xs = 0 ∧ rvD n u d xs = 0 ∧ rvB n u d xs = false := by
  unfold rvN rvD rvB; rw [h]; exact ⟨rfl, rfl, rfl⟩
theorem rv_yes {n u d : Int} {xs : List Int} (h : rowOkB n u d xs = true) : rvN n u d xs = lowN (rowV u d xs) (powI (u + d) n.toNat) ∧ rvD n u d xs = lowD (rowV u d xs) (powI (u + d) n.toNat) ∧ rvB n u d xs = lowB (rowV u d xs) (powI (u + d) n.toNat) := by
  unfold rvN rvD rvB; rw [h]; exact ⟨rfl, rfl, rfl⟩
theorem pow_row {n u d : Int} (h : rowB n u d = true) : 1 ≤ powI (u + d) n.toNat ∧ powI (u + d) n.toNat ≤ 4096000000000000 := by
  have := rowB_t h
  exact powI_bd20 (by omega) (by omega) _ (by omega)
set_option maxHeartbeats 1000000 in
theorem impl_RowValue (n u d : Int) (a : Option Addr) (m cap : Nat) (xs : List Int) (w : World) (hm : m ≤ 1048576) (hc : a = none → cap = 0) (h : Ints w a m xs) :
    Calls Try.prog 48 #[.int .i64 n, .int .i64 u, .int .i64 d, .slice a m cap] w fun e w' =>
      e = .returned (.tuple #[.agg #[.int .i64 (rvN n u d xs), .int .i64 (rvD n u d xs)], .bool (rvB n u d xs)]) ∧ Below w.heap.size w w' := by
  have hP := Lib.hid (Pair.new w (.int .i64 0) (.int .i64 0) 22)
  have hb0 : Below w.heap.size w (w.alloc (.cells #[.int .i64 0, .int .i64 0] 22)) := below_new w _
  have hl := Lib.hid h.1
  have H := Lib.hid h
  clear h
  cases hg : rowOkB n u d xs
  · obtain ⟨e1, e2, e3⟩ := rv_no hg
    rw [e1, e2, e3]
    clear e1 e2 e3
    go_enter Try.func48, Try.ntmps48
    go_wp2_with fail
    generalize (w.alloc (.cells #[.int .i64 0, .int .i64 0] 22)) = w2 at *
    refine (impl_isRowWith _ _ _ _ _ _ xs _ hm (H.out.below hb0)).mono ?_
    rintro e w' ⟨rfl, rfl⟩
    have p3 := hP.out
    have q3 := p3.c0
    have q4 := p3.c1
    have q5 := p3.f0
    have q6 := p3.f1
    have hr := p3.set (.int .i64 0) (.int .i64 0)
    clear p3
    go_wp2_with fail
    exact bodyPost_ret (v := .tuple #[.agg #[.int .i64 0, .int .i64 0], .bool false]) (by simp [results, Try.results48, go_sem, hr.1, hr.2]) rfl ⟨rfl, (hb0.setCell (Nat.le_refl _) _).setCell (Nat.le_refl _) _⟩
  · obtain ⟨e1, e2, e3⟩ := rv_yes hg
    rw [e1, e2, e3]
    clear e1 e2 e3
    have ht := rowOkB_t hg
    have hrb := rowB_t ht.1
    have hA := Lib.hid ht.2.2.2.1
    have hlen := ht.2.2.1
    rw [hl.out] at hlen
    have hpw := pow_row ht.1
    have hm1 : 1 ≤ m ∧ m ≤ 5 := by omega
    have hrv := rowV_bd (u := u) (d := d) hA.out (by omega) (by omega) (by have := hl.out; omega)
    have Hlow : Hid (∀ W : World, Calls Try.prog 61 #[.int .i64 (rowV u d xs), .int .i64 (powI (u + d) n.toNat)] W fun e w' => e = .returned (.tuple #[.agg #[.int .i64 (lowN (rowV u d xs) (powI (u + d) n.toNat)), .int .i64 (lowD (rowV u d xs) (powI (u + d) n.toNat))], .bool (lowB (rowV u d xs) (powI (u + d) n.toNat))]) ∧ Below W.heap.size W w') :=
      Lib.hid fun W => impl_lowest _ _ W (by omega) (by omega) (by omega)
    have hu : (1 ≤ u ∧ u ≤ 9) ∧ (1 ≤ d ∧ d ≤ 9) ∧ (0 ≤ n ∧ n ≤ 4) := by omega
    have Hlen := Lib.hid hlen
    clear ht hlen hpw
    generalize lowN (rowV u d xs) (powI (u + d) n.toNat) = x at *
    generalize lowD (rowV u d xs) (powI (u + d) n.toNat) = y at *
    generalize lowB (rowV u d xs) (powI (u + d) n.toNat) = z at *
    go_enter Try.func48, Try.ntmps48
    go_wp2_with fail
    generalize (w.alloc (.cells #[.int .i64 0, .int .i64 0] 22)) = w2 at *
    refine (impl_isRowWith _ _ _ _ _ _ xs _ hm (H.out.below hb0)).mono ?_
    rintro e w' ⟨rfl, rfl⟩
    rw [hg]
    go_wp2_with fail
    refine (impl_rowValue _ _ _ _ _ xs _ hu.1 hu.2.1 hm1 hc hA.out (H.out.below hb0)).mono ?_
    rintro e w3 ⟨rfl, hb3⟩
    go_wp2_with fail
    refine (impl_power _ _ _ (by omega) (by omega)).mono ?_
    rintro e w' ⟨rfl, rfl⟩
    go_wp2_with fail
    refine (Hlow.out _).mono ?_
    rintro e w4 ⟨rfl, hb4⟩
    have p3 := (hP.out.below hb3).below hb4
    have q3 := p3.c0
    have q4 := p3.c1
    have q5 := p3.f0
    have q6 := p3.f1
    have hr := p3.set (.int .i64 x) (.int .i64 y)
    have hbl := (hb0.trans (hb3.mono hb0.size)).trans (hb4.mono (by have := hb0.size; have := hb3.size; omega))
    clear p3
    go_wp2_with fail
    exact bodyPost_ret (v := .tuple #[.agg #[.int .i64 x, .int .i64 y], .bool z]) (by simp [results, Try.results48, go_sem, hr.1, hr.2]) rfl ⟨rfl, (hbl.setCell (Nat.le_refl _) _).setCell (Nat.le_refl _) _⟩
set_option maxHeartbeats 1000000 in
theorem spec_RowValue (n u d : Int) (a : Option Addr) (m cap : Nat) (xs : List Int) (w : World) (hm : m ≤ 1048576) (hcap : m ≤ cap ∧ cap ≤ maxLen) (h : Ints w a m xs) :
    Calls Try.prog 47 #[.int .i64 n, .int .i64 u, .int .i64 d, .slice a m cap] w fun e w' =>
      e = .returned (.tuple #[.agg #[.int .i64 (rvN n u d xs), .int .i64 (rvD n u d xs)], .bool (rvB n u d xs)]) ∧ Below w.heap.size w w' := by
  have hP := Lib.hid (Pair.new w (.int .i64 0) (.int .i64 0) 22)
  have hb0 : Below w.heap.size w (w.alloc (.cells #[.int .i64 0, .int .i64 0] 22)) := below_new w _
  have hl := Lib.hid h.1
  have H := Lib.hid h
  clear h
  cases hg : rowOkB n u d xs
  · obtain ⟨e1, e2, e3⟩ := rv_no hg
    rw [e1, e2, e3]
    clear e1 e2 e3
    cases hr1 : rowB n u d
    all_goals
      have hv : rowB n u d = true → valsB xs (n + 1) = false := fun h => by rw [rowOkB, h, Bool.true_and] at hg; exact hg
      rw [hr1] at hv
      first | (have hvv := hv rfl; have hrb := rowB_t hr1) | skip
      have Hg := Lib.hid hg
      clear hv hg
      go_enter Try.func47, Try.ntmps47
      go_wp2_with fail
      generalize (w.alloc (.cells #[.int .i64 0, .int .i64 0] 22)) = w2 at *
      refine (spec_l6Row _ _ _ _).mono ?_
      rintro e w' ⟨rfl, rfl⟩
      rw [hr1]
      have p3 := hP.out
      have q3 := p3.c0
      have q4 := p3.c1
      have q5 := p3.f0
      have q6 := p3.f1
      have hr := p3.set (.int .i64 0) (.int .i64 0)
      clear p3
      go_wp2_with (go_at_call 86; refine (spec_l6Values _ _ _ _ xs _ (by omega) (H.out.below hb0)).mono ?_; rintro e w' ⟨rfl, rfl⟩; rw [hvv])
      exact bodyPost_ret (v := .tuple #[.agg #[.int .i64 0, .int .i64 0], .bool false]) (by simp [results, Try.results47, go_sem, hr.1, hr.2]) rfl ⟨rfl, (hb0.setCell (Nat.le_refl _) _).setCell (Nat.le_refl _) _⟩
  · obtain ⟨e1, e2, e3⟩ := rv_yes hg
    rw [e1, e2, e3]
    clear e1 e2 e3
    have ht := rowOkB_t hg
    have hrb := rowB_t ht.1
    have hA := Lib.hid ht.2.2.2.1
    have hlen := ht.2.2.1
    rw [hl.out] at hlen
    have hpw := pow_row ht.1
    have hm1 : 1 ≤ m ∧ m ≤ 5 := by omega
    have hrv := rowV_bd (u := u) (d := d) hA.out (by omega) (by omega) (by have := hl.out; omega)
    have hpart := Lib.hid (rowV_part u d (m - 1) xs (by have := hl.out; omega))
    obtain ⟨k1, k2, k3⟩ := kept_low (a := rowV u d xs) (b := powI (u + d) n.toNat) (by omega)
    rw [← k1, ← k2, ← k3]
    clear k1 k2 k3
    have Hcut : Hid (∀ W : World, Calls Try.prog 63 #[.int .i64 (rowV u d xs), .int .i64 (powI (u + d) n.toNat)] W fun e w' => e = .returned (.agg #[.int .i64 (nm (rowV u d xs) (powI (u + d) n.toNat)), .int .i64 (dn (rowV u d xs) (powI (u + d) n.toNat))]) ∧ Below W.heap.size W w') :=
      Lib.hid fun W => spec_l2Cut _ _ W (by omega) (by omega)
    have hu : (1 ≤ u ∧ u ≤ 9) ∧ (1 ≤ d ∧ d ≤ 9) ∧ (0 ≤ n ∧ n ≤ 4) := by omega
    have Hlen := Lib.hid hlen
    have hvv := ht.2.1
    have hr1 := ht.1
    clear ht hlen hpw
    generalize nm (rowV u d xs) (powI (u + d) n.toNat) = p at *
    generalize dn (rowV u d xs) (powI (u + d) n.toNat) = q at *
    obtain ⟨x, hx⟩ : ∃ x, x = if fracB p q then p else 0 := ⟨_, rfl⟩
    obtain ⟨y, hy⟩ : ∃ y, y = if fracB p q then q else 0 := ⟨_, rfl⟩
    have Hkept : Hid (∀ W : World, Calls Try.prog 57 #[.agg #[.int .i64 p, .int .i64 q]] W fun e w' => e = .returned (.tuple #[.agg #[.int .i64 x, .int .i64 y], .bool (fracB p q)]) ∧ Below W.heap.size W w') :=
      Lib.hid fun W => by rw [hx, hy]; exact spec_l2Kept p q W
    rw [← hx, ← hy]
    generalize fracB p q = z at *
    clear hx hy
    go_enter Try.func47, Try.ntmps47
    go_wp2_with fail
    generalize (w.alloc (.cells #[.int .i64 0, .int .i64 0] 22)) = w2 at *
    refine (spec_l6Row _ _ _ _).mono ?_
    rintro e w' ⟨rfl, rfl⟩
    rw [hr1]
    go_wp2_with fail
    refine (spec_l6Values _ _ _ _ xs _ (by omega) (H.out.below hb0)).mono ?_
    rintro e w' ⟨rfl, rfl⟩
    rw [hvv]
    go_wp2_with fail
    refine (spec_l6Value_q u d hu.1 hu.2.1 (m - 1) (by omega) _ _ _ xs _ (by omega) hcap.1 hcap.2 hA.out (H.out.below hb0)).mono ?_
    rintro e w3 ⟨rfl, n3, hn3⟩
    rw [← hpart.out]
    have hb3 : Below w2.heap.size w2 w3 := by rw [hn3]; exact below_drewN (Below.refl _ _) _
    clear hn3
    go_wp2_with fail
    refine (spec_l6Power _ _ _ (by omega) (by omega)).mono ?_
    rintro e w' ⟨rfl, rfl⟩
    go_wp2_with fail
    refine (Hcut.out _).mono ?_
    rintro e w4 ⟨rfl, hb4⟩
    go_wp2_with fail
    refine (Hkept.out _).mono ?_
    rintro e w5 ⟨rfl, hb5⟩
    have p3 := ((hP.out.below hb3).below hb4).below hb5
    have q3 := p3.c0
    have q4 := p3.c1
    have q5 := p3.f0
    have q6 := p3.f1
    have hr := p3.set (.int .i64 x) (.int .i64 y)
    have h12 := hb0.trans (hb3.mono hb0.size)
    have h13 := h12.trans (hb4.mono h12.size)
    have hbl := h13.trans (hb5.mono h13.size)
    clear p3
    go_wp2_with fail
    exact bodyPost_ret (v := .tuple #[.agg #[.int .i64 x, .int .i64 y], .bool z]) (by simp [results, Try.results47, go_sem, hr.1, hr.2]) rfl ⟨rfl, (hbl.setCell (Nat.le_refl _) _).setCell (Nat.le_refl _) _⟩
end Go.Proofs.Ytehmaedifbnnhaa
