/- Contracts: do caps cover payments, by the program. -/
import Derived.Test.YtjkkfjipgomkdaaCost
import Derived.Test.YtjkkfjipgomkdaaPlOn
import Derived.Test.YtjkkfjipgomkdaaKeep
import Derived.Deep.DeepCutAuto
import Derived.Deep.Cut
namespace Go.Proofs.Ytjkkfjipgomkdaa
open Go.RowKit




/-- Sums, zeros and ends, just made, apart from each other. -/
def Three (u wc : World) (n : Nat) (ps ws : List Int) (v8 v9 v10 : Value) : Prop :=
  KeepR u wc ∧ ∃ (a8 : Option Addr) (c8 g9 : Nat) (a10 : Option Addr) (c10 : Nat), v8 = .slice a8 n c8 ∧ v9 = .slice (some ⟨g9, 0, none⟩) n n ∧ v10 = .slice a10 n c10 ∧ Ints wc a8 n (sums ps ws) ∧ Own wc u.heap.size v9 (List.replicate n 0) ∧ Bo.Ints wc a10 n (endsB ps) ∧
    (∀ p, a8 = some p → p.block ≠ g9) ∧ ∀ p, a10 = some p → p.block ≠ g9
theorem three_mk {u wc : World} {n : Nat} {ps ws : List Int} {v8 v10 : Value} {b8 b9 b10 g9 : Nat} (hk : KeepR u wc) (hs : (sums ps ws).length = n) (he : (endsB ps).length = n) (h8 : Own wc b8 v8 (sums ps ws)) (h9 : Own wc b9 (.slice (some ⟨g9, 0, none⟩) n n) (List.replicate n 0)) (h10 : Bo.Own wc b10 v10 (endsB ps)) (hb : u.heap.size ≤ b9)
    (s8 : ∀ g, v8.ownBlock = some g → g ≠ g9) (s10 : ∀ g, v10.ownBlock = some g → g ≠ g9) : Three u wc n ps ws v8 (.slice (some ⟨g9, 0, none⟩) n n) v10 := by
  obtain ⟨a8, c8, rfl⟩ := h8.shape
  obtain ⟨a10, c10, rfl⟩ := h10.shape
  rw [hs] at h8 s8 ⊢
  rw [he] at h10 s10 ⊢
  exact ⟨hk, a8, c8, g9, a10, c10, rfl, rfl, rfl, h8.ints, h9.mono hb, h10.bools, (fun p hp => by subst hp; exact s8 _ rfl), (fun p hp => by subst hp; exact s10 _ rfl)⟩

/-- Do caps cover payments? -/
def capOk (ps ws l caps : List Int) (x : Nat) : Bool := !(decide (nth caps x < nth (sums ps ws) x * nth l x) || (!endB ps x && decide (nth caps x < kidSum ps (fun y => nth caps y) x ps.length)))
def coverV (ps ws l caps : List Int) : Bool := paysB ps ws l && ((caps.length == ps.length && allIn caps (-1000000000) 1000000000) && (List.range ps.length).all (capOk ps ws l caps))
theorem coverV_no {ps ws l caps : List Int} (h : paysB ps ws l = false) : coverV ps ws l caps = false := by rw [coverV, h]; rfl
theorem coverV_len {ps ws l caps : List Int} (h : ¬ caps.length = ps.length) : coverV ps ws l caps = false := by simp [coverV, h]
theorem coverV_all {ps ws l caps : List Int} (h : allIn caps (-1000000000) 1000000000 = false) : coverV ps ws l caps = false := by simp [coverV, h]
theorem coverV_bad {ps ws l caps : List Int} {x : Nat} (hx : x < ps.length) (h : capOk ps ws l caps x = false) : coverV ps ws l caps = false := by
  have := all_f hx h
  rw [coverV, this]; simp
theorem coverV_yes {ps ws l caps : List Int} (h1 : paysB ps ws l = true) (h2 : caps.length = ps.length) (h3 : allIn caps (-1000000000) 1000000000 = true) (h4 : ∀ x, x < ps.length → capOk ps ws l caps x = true) : coverV ps ws l caps = true := by
  have := all_t h4
  rw [coverV, h1, h3, this, h2]; simp
end Go.Proofs.Ytjkkfjipgomkdaa
