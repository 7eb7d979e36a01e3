/- Contracts: choices drawn by the cursor. -/
import Derived.Test.YtbekfpgpeaoifaaCur
namespace Go.Proofs.Ytbekfpgpeaoifaa
open Go.RowKit

theorem Cur.mono {w : World} {g : Nat} {a : Option Addr} {n cap : Nat} {lim lim' : Int} (h : Cur w g a n cap lim) (hl : lim ≤ lim') : Cur w g a n cap lim' :=
  ⟨h.code, h.other, h.c0, by obtain ⟨k, h1, h2, h3⟩ := h.c1; exact ⟨k, h1, h2, by omega⟩, h.c2, h.f1, h.f2⟩
theorem Cur.lt {w : World} {g : Nat} {a : Option Addr} {n cap : Nat} {lim : Int} (h : Cur w g a n cap lim) : g < w.heap.size := World.block_lt_of_cell? w _ h.c0
theorem Cur.below {w w' : World} {g : Nat} {a : Option Addr} {n cap : Nat} {lim : Int} (h : Cur w g a n cap lim) (hb : Below w.heap.size w w') : Cur w' g a n cap lim :=
  ⟨h.code.below hb, h.other, (hb.cell (p := ⟨g, 0, none⟩) h.lt).trans h.c0, by obtain ⟨k, h1, h2⟩ := h.c1; exact ⟨k, (hb.cell (p := ⟨g, 1, none⟩) h.lt).trans h1, h2⟩,
    by obtain ⟨s, h1⟩ := h.c2; exact ⟨s, (hb.cell (p := ⟨g, 2, none⟩) h.lt).trans h1⟩, (hb.frozen (p := ⟨g, 1, none⟩) h.lt).trans h.f1, (hb.frozen (p := ⟨g, 2, none⟩) h.lt).trans h.f2⟩
theorem emod_in (x n : Int) (hn : 0 < n) : 0 ≤ x % n ∧ x % n < n := ⟨Int.emod_nonneg _ (by omega), Int.emod_lt_of_pos _ hn⟩
set_option maxHeartbeats 1000000 in
theorem spec_pick (g : Nat) (a : Option Addr) (n cap : Nat) (lim : Int) (m : Int) (w : World) (hl : lim ≤ 900000) (hm : m ≤ 1099511627776) (h : Cur w g a n cap lim) :
    Calls Try.prog 56 #[.pointer (some ⟨g, 0, none⟩), .int .i64 m] w fun e w' => (∃ x : Int, e = .returned (.int .i64 x) ∧ 0 ≤ x ∧ (x = 0 ∨ x < m)) ∧ Cur w' g a n cap (lim + 2) ∧ w.grownBy w' (some g) := by
  by_cases h1 : m ≤ 1
  · go_enter Try.func56, Try.ntmps56
    go_wp2_with fail
    go_ret
    exact ⟨⟨0, rfl, by omega, by omega⟩, h.mono (by omega), World.grownBy.refl _ _⟩
  · have hm0 : ¬ m = 0 := by omega
    by_cases h2 : m > 200
    · have H := Lib.hid h
      clear h
      go_enter Try.func56, Try.ntmps56
      go_wp2_with fail
      refine (spec_next g a n cap lim _ (by omega) H.out).mono ?_
      rintro e w1 ⟨⟨x, rfl, hx0, hx1⟩, c1, g1⟩
      have C1 := Lib.hid c1
      have G1 := Lib.hid g1
      clear c1 g1
      go_wp2_with fail
      refine (spec_next g a n cap (lim + 1) _ (by omega) C1.out).mono ?_
      rintro e w2 ⟨⟨y, rfl, hy0, hy1⟩, c2, g2⟩
      go_wp2_with fail
      go_ret
      have ht := emod_in (x * 256 + y) m (by omega)
      exact ⟨⟨_, rfl, ht.1, .inr ht.2⟩, c2.mono (by omega), G1.out.trans g2⟩
    · have H := Lib.hid h
      clear h
      go_enter Try.func56, Try.ntmps56
      go_wp2_with fail
      refine (spec_next g a n cap lim _ (by omega) H.out).mono ?_
      rintro e w1 ⟨⟨x, rfl, hx0, hx1⟩, c1, g1⟩
      go_wp2_with fail
      go_ret
      have ht := emod_in x m (by omega)
      exact ⟨⟨_, rfl, ht.1, .inr ht.2⟩, c1.mono (by omega), g1⟩
theorem spec_one (g : Nat) (a : Option Addr) (n cap : Nat) (lim : Int) (m : Int) (w : World) (hl : lim ≤ 900000) (hm : m ≤ 1099511627776) (h : Cur w g a n cap lim) :
    Calls Try.prog 58 #[.pointer (some ⟨g, 0, none⟩), .int .i64 m] w fun e w' => (∃ x : Bool, e = .returned (.bool x)) ∧ Cur w' g a n cap (lim + 2) ∧ w.grownBy w' (some g) := by
  go_enter Try.func58, Try.ntmps58
  go_wp2_with fail
  refine (spec_pick g a n cap lim m _ hl hm h).mono ?_
  rintro e w1 ⟨⟨x, rfl, hx0, hx1⟩, c1, g1⟩
  go_wp2_with fail
  go_ret
  exact ⟨⟨_, rfl⟩, c1, g1⟩
theorem spec_among (g : Nat) (a : Option Addr) (n cap : Nat) (lim : Int) (b : Option Addr) (k c : Nat) (xs : List Int) (w : World) (hl : lim ≤ 900000) (hk : 1 ≤ k ∧ k ≤ 1000) (hx : Ints w b k xs) (hne : ∀ p, b = some p → p.block ≠ g) (h : Cur w g a n cap lim) :
    Calls Try.prog 57 #[.pointer (some ⟨g, 0, none⟩), .slice b k c] w fun e w' => (∃ i : Nat, i < k ∧ e = .returned (.int .i64 (nth xs i))) ∧ Cur w' g a n cap (lim + 2) ∧ w.grownBy w' (some g) := by
  obtain ⟨bb, off, rfl, hlt, hc⟩ := hx.2 (by omega)
  have Hc := Lib.hid hc
  have hbg : bb ≠ g := hne _ rfl
  clear hc hx hne
  go_enter Try.func57, Try.ntmps57
  go_wp2_with fail
  refine (spec_pick g a n cap lim _ _ hl (by omega) h).mono ?_
  rintro e w1 ⟨⟨x, rfl, hx0, hx1⟩, c1, g1⟩
  have h1 := (World.cell?_of_block (a := ⟨bb, off + x.toNat, none⟩) (g1.block bb hlt (by simpa using hbg))).trans (Hc.out x.toNat (by omega))
  have C1 := Lib.hid c1
  have G1 := Lib.hid g1
  clear c1 g1
  go_wp2_with fail
  go_ret
  exact ⟨⟨x.toNat, by omega, rfl⟩, C1.out, G1.out⟩
end Go.Proofs.Ytbekfpgpeaoifaa
