/- Plain numbers: drifts of a process, and what is a balanced list. No conditions but those stated. -/
import Derived.Test.YtjkkfjipgomkdaaPlWorth
import Derived.Test.YtjkkfjipgomkdaaPlF
namespace Go.Proofs.Ytjkkfjipgomkdaa

/-- The drift at a node, times the sum there. -/
def drA (ps ws l : List Int) (x : Nat) : Int := kidSum ps (fun y => nth (sums ps ws) y * (nth l y - nth l x)) x ps.length
def drT (ps ws l : List Int) (x : Nat) (y : Int) : Int := nth (sums ps ws) y.toNat * (nth l y.toNat - nth l x)
theorem dr_sum (ps ws l : List Int) (x : Nat) : sumOf (drT ps ws l x) (kids ps x) = drA ps ws l x := by
  rw [kids_sum]; rfl
theorem sumOf_abs {f : Int → Int} {B : Int} (hB : 0 ≤ B) (hf : ∀ x, -B ≤ f x ∧ f x ≤ B) : ∀ xs : List Int, -(B * xs.length) ≤ sumOf f xs ∧ sumOf f xs ≤ B * xs.length
  | [] => by simp [sumOf]
  | x :: xs => by
    have ih := sumOf_abs hB hf xs
    have := hf x
    rw [List.length_cons, Int.natCast_add, Int.mul_add]
    simp only [sumOf, Int.natCast_one, Int.mul_one]
    omega
theorem drT_bd {ps ws l : List Int} (h : Tr ps ws) (hl : ∀ i, -999 ≤ nth l i ∧ nth l i ≤ 999) (x : Nat) (y : Int) : -959040 ≤ drT ps ws l x y ∧ drT ps ws l x y ≤ 959040 := by
  have h1 := hl y.toNat
  have h2 := hl x
  have := mul_abs (B := 1998) (U := 480) (x := nth l y.toNat - nth l x) (u := nth (sums ps ws) y.toNat) (by omega) (sums_bd h y.toNat) (by omega)
  rw [Int.mul_comm (nth l y.toNat - nth l x) (nth (sums ps ws) y.toNat)] at this
  rw [drT]; omega
theorem kidSum_mulr (ps : List Int) (f : Nat → Int) (c : Int) (x : Nat) : ∀ k : Nat, kidSum ps (fun y => f y * c) x k = kidSum ps f x k * c := fun k => by
  have := kidSum_mul ps f c x k
  rw [Int.mul_comm (kidSum ps f x k) c, ← this]
  exact kidSum_congr fun y _ _ => Int.mul_comm _ _
theorem dr_bal {ps ws l : List Int} (h : Tr ps ws) {x : Nat} (hx : x < ps.length) : drA ps ws l x = 0 ↔ (endB ps x = true ∨ nth (sums ps ws) x * nth l x = kidSum ps (fun y => nth (sums ps ws) y * nth l y) x ps.length) := by
  cases he : endB ps x
  · have h1 : drA ps ws l x = kidSum ps (fun y => nth (sums ps ws) y * nth l y) x ps.length + kidSum ps (fun y => nth (sums ps ws) y * (-(nth l x))) x ps.length := by
      rw [← kidSum_add]
      exact kidSum_congr fun y _ _ => by rw [← Int.mul_add]; rfl
    have h2 := sums_kids h x
    rw [h.inner x hx he, Int.zero_add] at h2
    rw [h1, kidSum_mulr, ← h2, Int.mul_neg]
    simp only [Bool.false_eq_true, false_or]
    omega
  · have := kidSum_end (f := fun y => nth (sums ps ws) y * (nth l y - nth l x)) he (Nat.le_refl _)
    rw [drA, this]
    simp
/-- Is a list balanced? -/
def balB (ps ws l : List Int) : Bool := (List.range ps.length).all fun x => drA ps ws l x == 0
theorem bal_no {ps ws l : List Int} {x : Nat} (hx : x < ps.length) (h : ¬ drA ps ws l x = 0) : balB ps ws l = false := all_f hx (by simp [h])
theorem bal_yes {ps ws l : List Int} (h : ∀ x, x < ps.length → drA ps ws l x = 0) : balB ps ws l = true := all_t fun x hx => by simp [h x hx]
/-- The drifts. -/
def driftL (ps ws l : List Int) : List (Int × Int) := (List.range ps.length).map fun x => (nm (drA ps ws l x) (nth (sums ps ws) x), dn (drA ps ws l x) (nth (sums ps ws) x))
theorem driftL_length (ps ws l : List Int) : (driftL ps ws l).length = ps.length := by simp [driftL]
theorem nm_zero {a b : Int} (hb : 0 < b) : nm a b = 0 ↔ a = 0 := by
  have hg := gcdI_pos (a := a) (b := b) (by omega)
  rw [nm, if_neg (by omega)]
  constructor
  · intro h
    have := Int.mul_ediv_cancel' (gcdI_dvd_l a b)
    rw [h, Int.mul_zero] at this
    exact this.symm
  · intro h; rw [h]; exact Int.zero_ediv _
theorem driftL_take (ps ws l : List Int) {x : Nat} (hx : x < ps.length) : (driftL ps ws l).take (x + 1) = (driftL ps ws l).take x ++ [(nm (drA ps ws l x) (nth (sums ps ws) x), dn (drA ps ws l x) (nth (sums ps ws) x))] := by
  rw [List.take_succ_eq_append_getElem (by rw [driftL_length]; exact hx)]
  simp [driftL]
end Go.Proofs.Ytjkkfjipgomkdaa
