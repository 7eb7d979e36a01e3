/- Plain lists: what each node is worth with some steps, and with as many as there are. Nothing of the program. -/
import Derived.Test.YtjkkfjipgomkdaaPlOn
namespace Go.Proofs.Ytjkkfjipgomkdaa

/-- What stopping at a node is worth, times its sum. -/
def ownW (ps ws l : List Int) (x : Nat) : Int := nth (sums ps ws) x * nth l x
/-- One step more. -/
def stepA (ps ws l at' : List Int) (x : Nat) : Int := if endB ps x then ownW ps ws l x else max (ownW ps ws l x) (kidSum ps (fun y => nth at' y) x ps.length)
def stepW (ps ws l at' : List Int) : List Int := (List.range ps.length).map (stepA ps ws l at')
def worthL (ps ws l : List Int) : Nat → List Int
  | 0 => (List.range ps.length).map (ownW ps ws l)
  | k + 1 => stepW ps ws l (worthL ps ws l k)
theorem worthL_length (ps ws l : List Int) : ∀ k, (worthL ps ws l k).length = ps.length
  | 0 => by simp [worthL]
  | k + 1 => by simp [worthL, stepW]
/-- What going on is worth behind some steps. -/
def onW (ps ws l : List Int) : Nat → List Int
  | 0 => List.replicate ps.length 0
  | k + 1 => onS ps (worthL ps ws l k) 0
theorem onW_length (ps ws l : List Int) : ∀ k, (onW ps ws l k).length = ps.length
  | 0 => by simp [onW]
  | k + 1 => by rw [onW, onS_length]
theorem nth_worth0 {ps ws l : List Int} {x : Nat} (h : x < ps.length) : nth (worthL ps ws l 0) x = ownW ps ws l x := by rw [worthL, nth_map_range h]
theorem nth_worthS {ps ws l : List Int} {k x : Nat} (h : x < ps.length) : nth (worthL ps ws l (k + 1)) x = stepA ps ws l (worthL ps ws l k) x := by rw [worthL, stepW, nth_map_range h]
theorem kidSum_s {ps ws : List Int} (h : Tr ps ws) (x : Nat) : kidSum ps (fun y => nth (sums ps ws) y) x ps.length ≤ nth (sums ps ws) x := by
  have := sums_kids h x; have := h.w0 x; omega
theorem own_bd {ps ws l : List Int} (h : Tr ps ws) (hl : ∀ i, -999 ≤ nth l i ∧ nth l i ≤ 999) (x : Nat) : -(999 * nth (sums ps ws) x) ≤ ownW ps ws l x ∧ ownW ps ws l x ≤ 999 * nth (sums ps ws) x := by
  have hs := sums_nn h x
  have h1 := Int.mul_le_mul_of_nonneg_left (hl x).2 hs
  have h2 := Int.mul_le_mul_of_nonneg_left (hl x).1 hs
  unfold ownW
  rw [Int.mul_comm 999]
  rw [Int.mul_neg] at h2
  omega
theorem kid_bd {ps ws l at' : List Int} (h : Tr ps ws) (ha : ∀ y, y < ps.length → -(999 * nth (sums ps ws) y) ≤ nth at' y ∧ nth at' y ≤ 999 * nth (sums ps ws) y) (x : Nat) :
    -(999 * nth (sums ps ws) x) ≤ kidSum ps (fun y => nth at' y) x ps.length ∧ kidSum ps (fun y => nth at' y) x ps.length ≤ 999 * nth (sums ps ws) x := by
  have h0 := kidSum_s h x
  have h1 := kidSum_le (ps := ps) (f := fun y => nth at' y) (g := fun y => 999 * nth (sums ps ws) y) (x := x) (k := ps.length) fun y hy _ => (ha y hy).2
  have h2 := kidSum_le (ps := ps) (f := fun y => (-999) * nth (sums ps ws) y) (g := fun y => nth at' y) (x := x) (k := ps.length) fun y hy _ => by have := (ha y hy).1; omega
  have e1 := kidSum_mul ps (fun y => nth (sums ps ws) y) 999 x ps.length
  have e2 := kidSum_mul ps (fun y => nth (sums ps ws) y) (-999) x ps.length
  rw [e1] at h1
  rw [e2] at h2
  generalize kidSum ps (fun y => nth (sums ps ws) y) x ps.length = K at *
  omega
theorem worth_bd {ps ws l : List Int} (h : Tr ps ws) (hl : ∀ i, -999 ≤ nth l i ∧ nth l i ≤ 999) : ∀ (k x : Nat), x < ps.length → -(999 * nth (sums ps ws) x) ≤ nth (worthL ps ws l k) x ∧ nth (worthL ps ws l k) x ≤ 999 * nth (sums ps ws) x
  | 0, x, hx => by rw [nth_worth0 hx]; exact own_bd h hl x
  | k + 1, x, hx => by
    have h1 := own_bd h hl x
    have h2 := kid_bd (l := l) h (fun y hy => worth_bd h hl k y hy) x
    rw [nth_worthS hx, stepA]
    split
    · exact h1
    · omega
theorem worth_abs {ps ws l : List Int} (h : Tr ps ws) (hl : ∀ i, -999 ≤ nth l i ∧ nth l i ≤ 999) (k : Nat) : ∀ x, -479520 ≤ nth (worthL ps ws l k) x ∧ nth (worthL ps ws l k) x ≤ 479520 := fun x => by
  by_cases hx : x < ps.length
  · have := worth_bd h hl k x hx
    have := sums_bd h x
    omega
  · rw [nth_ge (by rw [worthL_length]; omega)]; omega
/-- From the node n - 1 - k on, k steps are as many as there are. -/
theorem worth_same {ps ws l : List Int} (h : Tr ps ws) : ∀ (k x : Nat), x < ps.length → ps.length ≤ x + 1 + k → nth (worthL ps ws l k) x = nth (worthL ps ws l (k + 1)) x
  | 0, x, hx, hk => by
    obtain rfl : x = ps.length - 1 := by omega
    rw [nth_worth0 hx, nth_worthS hx, stepA, if_pos (last_end h.toPa)]
  | k + 1, x, hx, hk => by
    rw [nth_worthS hx, nth_worthS hx, stepA, stepA]
    have : kidSum ps (fun y => nth (worthL ps ws l k) y) x ps.length = kidSum ps (fun y => nth (worthL ps ws l (k + 1)) y) x ps.length := kidSum_congr fun y hy e => by
      have := kids_lt h.toPa hy e
      exact worth_same h k y hy (by omega)
    rw [this]
theorem worth_fix {ps ws l : List Int} (h : Tr ps ws) {k : Nat} (hk : 23 ≤ k) : worthL ps ws l k = worthL ps ws l (k + 1) :=
  ext_nth (by rw [worthL_length, worthL_length]) fun x hx => by
    rw [worthL_length] at hx
    exact worth_same h k x hx (by have := h.n24; omega)
/-- The envelope of each node, times its sum. -/
def capW (ps ws l : List Int) : List Int := worthL ps ws l 24
theorem capW_length (ps ws l : List Int) : (capW ps ws l).length = ps.length := worthL_length _ _ _ _
theorem nth_capW {ps ws l : List Int} (h : Tr ps ws) {x : Nat} (hx : x < ps.length) : nth (capW ps ws l) x = stepA ps ws l (capW ps ws l) x := by
  have h1 := worth_fix (l := l) h (k := 24) (by omega)
  have : nth (capW ps ws l) x = nth (worthL ps ws l (24 + 1)) x := by rw [← h1]; rfl
  rw [this, nth_worthS hx]; rfl
theorem on_capW {ps ws l : List Int} (h : Tr ps ws) {x : Nat} (hx : x < ps.length) : nth (onW ps ws l 24) x = kidSum ps (fun y => nth (capW ps ws l) y) x ps.length := by
  have h1 := worth_fix (l := l) h (k := 23) (by omega)
  rw [onW, onS_end h.toPa hx, h1]; rfl
end Go.Proofs.Ytjkkfjipgomkdaa
