/- Plain numbers and contracts: quotients of small numbers, of the program and of the reference. -/
import Derived.Test.YtjkkfjipgomkdaaFrac2
namespace Go.Proofs.Ytjkkfjipgomkdaa
open Go.RowKit

theorem low_small {a b : Int} (ha : -1000000000 ≤ a ∧ a ≤ 1000000000) (hb : 1 ≤ b ∧ b ≤ 1000000) : lowN a b = nm a b ∧ lowD a b = dn a b ∧ lowB a b = true := by
  have hp := gcdI_pos (a := a) (show b ≠ 0 by omega)
  have h1 : -1000000000 ≤ nm a b ∧ nm a b ≤ 1000000000 := by
    unfold nm; rw [if_neg (by omega)]
    have h1 := tdiv_abs_le a (gcdI a b)
    rw [Int.tdiv_eq_ediv_of_dvd (gcdI_dvd_l a b)] at h1
    omega
  have h2 : dn a b ≤ 1000000 := by
    unfold dn; rw [if_neg (by omega)]
    have h1 := tdiv_abs_le b (gcdI a b)
    rw [Int.tdiv_eq_ediv_of_dvd (gcdI_dvd_r a b)] at h1
    omega
  have ho : okF (nm a b) (dn a b) = true := okF_tt (inB_mk h1.1 h1.2) h2
  unfold lowN lowD lowB; rw [ho]; exact ⟨rfl, rfl, rfl⟩
theorem impl_lowest_s (a b : Int) (w : World) (ha : -1000000000 ≤ a ∧ a ≤ 1000000000) (hb : 1 ≤ b ∧ b ≤ 1000000) :
    Calls Try.prog 65 #[.int .i64 a, .int .i64 b] w fun e w' => e = .returned (.tuple #[.agg #[.int .i64 (nm a b), .int .i64 (dn a b)], .bool true]) ∧ Below w.heap.size w w' := by
  obtain ⟨e1, e2, e3⟩ := low_small ha hb
  have := impl_lowest a b w (by omega) (by omega) (by omega)
  rw [e1, e2, e3] at this
  exact this
end Go.Proofs.Ytjkkfjipgomkdaa
