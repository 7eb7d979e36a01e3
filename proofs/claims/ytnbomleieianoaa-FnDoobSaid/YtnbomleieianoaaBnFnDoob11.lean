/- Contracts and plain laws for the statement FnDoob, part 11. No conditions but those stated in each. -/
import Derived.Test.YtnbomleieianoaaBnFnDoob1
import Derived.Test.YtnbomleieianoaaBnFnDoob3
import Derived.Deep.DeepCutAuto
import Derived.Deep.Cut
import Derived.Lib.SliceRun
import Derived.Test.YtnbomleieianoaaBnFnDoob8
/- Contract: what each node is worth with some steps, by the program. -/
namespace Go.Proofs.Ytnbomleieianoaa
open Go.RowKit

theorem grown_cell (w : World) (b i : Nat) (v : Value) : w.grownBy (w.setCell ⟨b, i, none⟩ v) (some b) :=
  ⟨rfl, rfl, rfl, by simp [World.setCell], fun k _ hk => Below.heap_setCell _ _ _ _ (fun e => hk (by simp [e]))⟩
theorem grown_drew {w w' : World} {r : Option Nat} (h : w.grownBy w' r) : w.grownBy w'.drew r := ⟨h.os, h.tape, h.output, h.size, h.block⟩
theorem grown_drewN' {w w' : World} {r : Option Nat} (h : w.grownBy w' r) (m : Nat) : w.grownBy (w'.drewN m) r := ⟨h.os, h.tape, h.output, h.size, h.block⟩
/-- The numbers from o on, m of them, turned to 0. -/
def zeroF (xs : List Int) (o : Nat) : Nat → List Int
  | 0 => xs
  | m + 1 => zeroF (xs.set o 0) (o + 1) m
theorem zeroF_length (xs : List Int) (o m : Nat) : (zeroF xs o m).length = xs.length := by
  induction m generalizing xs o with
  | zero => rfl
  | succ m ih => rw [zeroF, ih]; simp
theorem nth_zeroF (xs : List Int) (o m j : Nat) (h : o + m ≤ xs.length) : nth (zeroF xs o m) j = if o ≤ j ∧ j < o + m then 0 else nth xs j := by
  induction m generalizing xs o with
  | zero => rw [zeroF, if_neg (by omega)]
  | succ m ih =>
    rw [zeroF, ih _ _ (by simp; omega), nth_set (by omega)]
    by_cases h1 : o = j
    · subst h1; rw [if_neg (by omega), if_pos rfl, if_pos (by omega)]
    · rw [if_neg h1]
      by_cases h2 : o + 1 ≤ j ∧ j < o + 1 + m
      · rw [if_pos h2, if_pos (by omega)]
      · rw [if_neg h2, if_neg (by omega)]
theorem zeroF_all (xs : List Int) : zeroF xs 0 xs.length = List.replicate xs.length 0 := ext_nth (by rw [zeroF_length]; simp) fun i hi => by
  rw [zeroF_length] at hi
  rw [nth_zeroF _ _ _ _ (by omega), if_pos (by omega), nth_replicate]
theorem own_zeroF {base g n cap : Nat} : ∀ (m o : Nat) (w : World) (xs : List Int), Own w base (.slice (some ⟨g, 0, none⟩) n cap) xs → n = xs.length →
    Own (w.setCells g o (List.replicate m (.int .i64 0))) base (.slice (some ⟨g, 0, none⟩) n cap) (zeroF xs o m) ∧ w.grownBy (w.setCells g o (List.replicate m (.int .i64 0))) (some g)
  | 0, _, w, xs, h, _ => ⟨h, World.grownBy.refl _ _⟩
  | m + 1, o, w, xs, h, hn => by
    have h1 := h.set hn o 0
    have ih := own_zeroF m (o + 1) _ _ h1 (by simp [hn])
    exact ⟨ih.1, (grown_cell w g o _).trans ih.2⟩
theorem own_clear {w : World} {base g n cap : Nat} {xs : List Int} (h : Own w base (.slice (some ⟨g, 0, none⟩) n cap) xs) (hn : n = xs.length) :
    Own (w.setCells g 0 (List.replicate n (.int .i64 0))) base (.slice (some ⟨g, 0, none⟩) n cap) (List.replicate n 0) ∧ w.grownBy (w.setCells g 0 (List.replicate n (.int .i64 0))) (some g) := by
  have := own_zeroF n 0 w xs h hn
  rw [hn, zeroF_all, ← hn] at this
  exact this
theorem zero_int : ∀ w, (zeroValue 3).run Try.prog w = .ok (.int .i64 0) w := fun w => by kernel_rfl
/-- 'clear(xs)'. -/
theorem clear_run {w : World} {base g n cap : Nat} {xs : List Int} (h : Own w base (.slice (some ⟨g, 0, none⟩) n cap) xs) (hn : n = xs.length) (h0 : 0 < n) (ty : TypeId) :
    (Builtin.clear_ #[24] ty #[.slice (some ⟨g, 0, none⟩) n cap]).run Try.prog w = .ok (.tuple #[]) (w.setCells g 0 (List.replicate n (.int .i64 0))) :=
  Lib.run_clear_slice w 24 3 ty (.int .i64 0) Try.underlying24 zero_int rfl rfl g 0 n cap h0 (fun j hj => by rw [Nat.zero_add, h.cell (by omega)]; rfl) (fun j hj => by rw [Nat.zero_add]; exact h.free hn j)
/-- Sums and ends, just made. -/
def TwoR (u wc : World) (n : Nat) (ps ws : List Int) (v8 v9 : Value) : Prop :=
  KeepR u wc ∧ ∃ (a8 : Option Addr) (c8 : Nat) (a9 : Option Addr) (c9 : Nat), v8 = .slice a8 n c8 ∧ v9 = .slice a9 n c9 ∧ Ints wc a8 n (sums ps ws) ∧ Bo.Ints wc a9 n (endsB ps)
theorem two_mk {u wc : World} {n : Nat} {ps ws : List Int} {v8 v9 : Value} {b8 b9 : Nat} (hk : KeepR u wc) (hs : (sums ps ws).length = n) (he : (endsB ps).length = n) (h8 : Own wc b8 v8 (sums ps ws)) (h9 : Bo.Own wc b9 v9 (endsB ps)) : TwoR u wc n ps ws v8 v9 := by
  obtain ⟨a8, c8, rfl⟩ := h8.shape
  obtain ⟨a9, c9, rfl⟩ := h9.shape
  rw [hs] at h8 ⊢
  rw [he] at h9 ⊢
  exact ⟨hk, a8, c8, a9, c9, rfl, rfl, h8.ints, h9.bools⟩
/-- Two slices of zeros, just made. -/
def TwoZ (u wc : World) (n : Nat) (v10 v11 : Value) : Prop :=
  KeepR u wc ∧ ∃ g10 g11 : Nat, v10 = .slice (some ⟨g10, 0, none⟩) n n ∧ v11 = .slice (some ⟨g11, 0, none⟩) n n ∧ g10 ≠ g11 ∧ Own wc u.heap.size v10 (List.replicate n 0) ∧ Own wc u.heap.size v11 (List.replicate n 0)
theorem two_zeros (u : World) (n : Nat) (hn : n ≤ maxLen) : Own ((u.alloc (.cells (zv n) 3)).alloc (.cells (zv n) 3)) u.heap.size (.slice (some ⟨u.heap.size, 0, none⟩) n n) (List.replicate n 0) ∧
    Own ((u.alloc (.cells (zv n) 3)).alloc (.cells (zv n) 3)) u.heap.size (.slice (some ⟨u.heap.size + 1, 0, none⟩) n n) (List.replicate n 0) := by
  have h1 := (Own.zeros u u.heap.size n (Nat.le_refl _) hn).below (below_new (u.alloc (.cells (zv n) 3)) (.cells (zv n) 3))
  have h2 := Own.zeros (u.alloc (.cells (zv n) 3)) (u.heap.size + 1) n (by simp) hn
  rw [show (u.alloc (.cells (zv n) 3)).heap.size = u.heap.size + 1 by simp] at h2
  exact ⟨h1, h2.mono (by omega)⟩
end Go.Proofs.Ytnbomleieianoaa

/- Contract: the envelope of each node times its sum, by the reference. -/
namespace Go.Proofs.Ytnbomleieianoaa
open Go.RowKit

theorem KeepR.set {u w : World} {b i : Nat} (h : KeepR u w) (hg : u.heap.size ≤ b) (v : Value) : KeepR u (w.setCell ⟨b, i, none⟩ v) := Below.setCell h hg v
/-- Zeros and sums, just made, apart from each other. -/
def ZeroS (u wc : World) (n : Nat) (ps ws : List Int) (v5 v6 : Value) : Prop :=
  KeepR u wc ∧ ∃ (g5 : Nat) (a6 : Option Addr) (c6 : Nat), v5 = .slice (some ⟨g5, 0, none⟩) n n ∧ v6 = .slice a6 n c6 ∧ Own wc u.heap.size v5 (List.replicate n 0) ∧ Ints wc a6 n (sums ps ws) ∧ ∀ p, a6 = some p → p.block ≠ g5
theorem zeroS_mk {u wc : World} {n : Nat} {ps ws : List Int} {v6 : Value} {b5 b6 g5 : Nat} (hk : KeepR u wc) (hs : (sums ps ws).length = n) (h5 : Own wc b5 (.slice (some ⟨g5, 0, none⟩) n n) (List.replicate n 0)) (h6 : Own wc b6 v6 (sums ps ws)) (hb : u.heap.size ≤ b5) (hne : ∀ g, v6.ownBlock = some g → g ≠ g5) :
    ZeroS u wc n ps ws (.slice (some ⟨g5, 0, none⟩) n n) v6 := by
  obtain ⟨a6, c6, rfl⟩ := h6.shape
  rw [hs] at h6 hne ⊢
  exact ⟨hk, g5, a6, c6, rfl, rfl, h5.mono hb, h6.ints, fun p hp => by subst hp; exact hne _ rfl⟩
/-- The numbers from k on, zeros ahead of them. -/
def tailZ (xs : List Int) (k : Nat) : List Int := (List.range xs.length).map fun y => if k ≤ y then nth xs y else 0
theorem tailZ_length (xs : List Int) (k : Nat) : (tailZ xs k).length = xs.length := by simp [tailZ]
theorem tailZ_all (xs : List Int) : tailZ xs 0 = xs := ext_nth (tailZ_length _ _) fun i hi => by
  rw [tailZ_length] at hi
  rw [tailZ, nth_map_range hi, if_pos (Nat.zero_le _)]
theorem tailZ_none (xs : List Int) : tailZ xs xs.length = List.replicate xs.length 0 := ext_nth (by rw [tailZ_length]; simp) fun i hi => by
  rw [tailZ_length] at hi
  rw [tailZ, nth_map_range hi, if_neg (by omega), nth_replicate]
theorem tailZ_succ {xs : List Int} {k : Nat} (h : k < xs.length) : tailZ xs k = (tailZ xs (k + 1)).set k (nth xs k) := ext_nth (by simp [tailZ]) fun i hi => by
  rw [tailZ_length] at hi
  rw [nth_set (by rw [tailZ_length]; exact h), tailZ, tailZ, nth_map_range hi, nth_map_range hi]
  by_cases e : k = i
  · subst e; rw [if_pos (Nat.le_refl _), if_pos rfl]
  · rw [if_neg e]
    by_cases e2 : k ≤ i
    · rw [if_pos e2, if_pos (by omega)]
    · rw [if_neg e2, if_neg (by omega)]
theorem nth_tailZ {xs : List Int} {k y : Nat} (h : y < xs.length) (hk : k ≤ y) : nth (tailZ xs k) y = nth xs y := by rw [tailZ, nth_map_range h, if_pos hk]
theorem tailZ_abs {xs : List Int} {B : Int} (hB : 0 ≤ B) (h : Abs2 B xs) (k : Nat) : Abs2 B (tailZ xs k) := fun i => by
  by_cases hi : i < xs.length
  · rw [tailZ, nth_map_range hi]
    split
    · exact h i
    · omega
  · rw [nth_ge (by rw [tailZ_length]; omega)]; omega
theorem set_abs {xs : List Int} {B v : Int} {k : Nat} (_hB : 0 ≤ B) (h : Abs2 B xs) (hk : k < xs.length) (hv : -B ≤ v ∧ v ≤ B) : Abs2 B (xs.set k v) := fun i => by
  rw [nth_set hk]
  split
  · exact hv
  · exact h i
end Go.Proofs.Ytnbomleieianoaa
