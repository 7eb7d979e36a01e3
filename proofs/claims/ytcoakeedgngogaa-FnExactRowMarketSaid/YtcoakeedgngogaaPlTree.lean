/- Plain lists: nodes of trees that are told by their parents; children, ends, sums gathered from below. Nothing of the program. -/
import Derived.Test.YtcoakeedgngogaaPlAll
namespace Go.Proofs.Ytcoakeedgngogaa

/-- The numbers below k that are so, ascending. -/
def filt (p : Nat → Bool) (k : Nat) : List Int := ((List.range k).filter p).map fun (i : Nat) => (i : Int)
theorem filt_zero (p : Nat → Bool) : filt p 0 = [] := rfl
theorem filt_t {p : Nat → Bool} {k : Nat} (h : p k = true) : filt p (k + 1) = filt p k ++ [(k : Int)] := by simp [filt, List.range_succ, List.filter_append, h]
theorem filt_f {p : Nat → Bool} {k : Nat} (h : p k = false) : filt p (k + 1) = filt p k := by simp [filt, List.range_succ, List.filter_append, h]
theorem filt_length (p : Nat → Bool) (k : Nat) : (filt p k).length ≤ k := by
  have := List.length_filter_le p (List.range k)
  simpa [filt] using this
theorem filt_none {p : Nat → Bool} : ∀ {k : Nat}, (∀ i, i < k → p i = false) → filt p k = []
  | 0, _ => rfl
  | k + 1, h => by rw [filt_f (h k (by omega)), filt_none fun i hi => h i (by omega)]
theorem filt_congr {p q : Nat → Bool} : ∀ {k : Nat}, (∀ i, i < k → p i = q i) → filt p k = filt q k
  | 0, _ => rfl
  | k + 1, h => by
    have ih := filt_congr (k := k) fun i hi => h i (by omega)
    cases hp : p k
    · rw [filt_f hp, filt_f ((h k (by omega)).symm.trans hp), ih]
    · rw [filt_t hp, filt_t ((h k (by omega)).symm.trans hp), ih]
theorem mem_filt {p : Nat → Bool} {k : Nat} {x : Int} : x ∈ filt p k ↔ ∃ i : Nat, i < k ∧ p i = true ∧ x = i := by
  simp only [filt, List.mem_map, List.mem_filter, List.mem_range]
  constructor
  · rintro ⟨i, ⟨h1, h2⟩, rfl⟩; exact ⟨i, h1, h2, rfl⟩
  · rintro ⟨i, h1, h2, rfl⟩; exact ⟨i, ⟨h1, h2⟩, rfl⟩
theorem nth_mem {xs : List Int} {i : Nat} (h : i < xs.length) : nth xs i ∈ xs := by rw [nth_lt h]; exact List.getElem_mem h
theorem nth_filt {p : Nat → Bool} {k i : Nat} (h : i < (filt p k).length) : ∃ j : Nat, j < k ∧ p j = true ∧ nth (filt p k) i = j := mem_filt.1 (nth_mem h)
theorem nth_append_l {xs ys : List Int} {i : Nat} (h : i < xs.length) : nth (xs ++ ys) i = nth xs i := by unfold nth; simp [List.getD, List.getElem?_append, h]
theorem nth_append_r {xs : List Int} {y : Int} : nth (xs ++ [y]) xs.length = y := by unfold nth; simp [List.getD]

/-- The parent of a node. -/
def par (ps : List Int) (x : Nat) : Nat := (nth ps x).toNat
def parB (ps : List Int) : Bool := (nth ps 0 == -1) && (List.range ps.length).all fun x => x == 0 || inB (nth ps x) 0 ((x : Int) - 1)
/-- Has the node x no children? -/
def endB (ps : List Int) (x : Nat) : Bool := (List.range ps.length).all fun y => !(nth ps y == (x : Int))
def wOk (ps ws : List Int) (x : Nat) : Bool := if endB ps x then inB (nth ws x) 1 20 else nth ws x == 0
/-- Are these the parents and weights of a tree? -/
def treeB (ps ws : List Int) : Bool := (inB (ps.length : Int) 1 24 && (ws.length == ps.length)) && (parB ps && (List.range ps.length).all (wOk ps ws))
/-- Parents of nodes. -/
structure Pa (ps : List Int) : Prop where
  n1 : 1 ≤ ps.length
  n24 : ps.length ≤ 24
  p0 : nth ps 0 = -1
  up : ∀ x : Nat, 1 ≤ x → x < ps.length → 0 ≤ nth ps x ∧ nth ps x < (x : Int)
/-- A tree. -/
structure Tr (ps ws : List Int) : Prop extends Pa ps where
  wl : ws.length = ps.length
  leaf : ∀ x : Nat, x < ps.length → endB ps x = true → 1 ≤ nth ws x ∧ nth ws x ≤ 20
  inner : ∀ x : Nat, x < ps.length → endB ps x = false → nth ws x = 0
theorem parB_t {ps : List Int} (hl : inB (ps.length : Int) 1 24 = true) (h : parB ps = true) : Pa ps := by
  have hb := inB_t hl
  simp only [parB, Bool.and_eq_true, beq_iff_eq] at h
  refine ⟨by omega, by omega, h.1, fun x h1 h2 => ?_⟩
  have := all_get h.2 h2
  rw [Bool.or_eq_true, beq_iff_eq] at this
  rcases this with h0 | h0
  · omega
  · have := inB_t h0; omega
theorem treeB_t {ps ws : List Int} (h : treeB ps ws = true) : Tr ps ws := by
  simp only [treeB, Bool.and_eq_true, beq_iff_eq] at h
  refine ⟨parB_t h.1.1 h.2.1, h.1.2, fun x hx he => ?_, fun x hx he => ?_⟩
  · have := all_get h.2.2 hx
    rw [wOk, if_pos he] at this
    exact inB_t this
  · have := all_get h.2.2 hx
    rw [wOk, he] at this
    simpa using this
theorem tree_len1 {ps ws : List Int} (h : inB (ps.length : Int) 1 24 = false) : treeB ps ws = false := by simp [treeB, h]
theorem tree_len2 {ps ws : List Int} (h : ¬ ws.length = ps.length) : treeB ps ws = false := by simp [treeB, h]
theorem tree_par {ps ws : List Int} (h : parB ps = false) : treeB ps ws = false := by simp [treeB, h]
theorem tree_wt {ps ws : List Int} {x : Nat} (hx : x < ps.length) (h : wOk ps ws x = false) : treeB ps ws = false := by
  have := all_f hx h
  simp [treeB, this]
theorem tree_yes {ps ws : List Int} (h1 : inB (ps.length : Int) 1 24 = true) (h2 : ws.length = ps.length) (h3 : parB ps = true) (h4 : ∀ x, x < ps.length → wOk ps ws x = true) : treeB ps ws = true := by
  simp [treeB, h1, h2, h3]
  intro x hx; exact h4 x hx
theorem par_p0 {ps : List Int} (h : ¬ nth ps 0 = -1) : parB ps = false := by simp [parB, h]
theorem par_f {ps : List Int} {x : Nat} (h0 : 1 ≤ x) (hx : x < ps.length) (h : inB (nth ps x) 0 ((x : Int) - 1) = false) : parB ps = false := by
  have : ((List.range ps.length).all fun x => x == 0 || inB (nth ps x) 0 ((x : Int) - 1)) = false := all_f hx (by simp [h]; omega)
  rw [parB, this, Bool.and_false]
theorem par_t {ps : List Int} (h0 : nth ps 0 = -1) (h : ∀ x : Nat, 1 ≤ x → x < ps.length → inB (nth ps x) 0 ((x : Int) - 1) = true) : parB ps = true := by
  have : ((List.range ps.length).all fun x => x == 0 || inB (nth ps x) 0 ((x : Int) - 1)) = true := all_t fun x hx => by
    by_cases e : x = 0
    · simp [e]
    · rw [h x (by omega) hx, Bool.or_true]
  rw [parB, this, h0]; rfl
theorem Pa.upN {ps : List Int} (h : Pa ps) {x : Nat} (h1 : 1 ≤ x) (h2 : x < ps.length) : nth ps x = (par ps x : Int) ∧ par ps x < x := by
  have := h.up x h1 h2
  unfold par
  omega
theorem Pa.root {ps : List Int} (h : Pa ps) (x : Nat) : (nth ps 0 == (x : Int)) = false := by rw [h.p0]; simp
/-- The children of a node. -/
def kids (ps : List Int) (x : Nat) : List Int := filt (fun y => nth ps y == (x : Int)) ps.length
theorem endB_f {ps : List Int} {x y : Nat} (hy : y < ps.length) (h : nth ps y = x) : endB ps x = false := all_f hy (by simp [h])
theorem endB_t {ps : List Int} {x : Nat} (h : ∀ y, y < ps.length → ¬ nth ps y = x) : endB ps x = true := all_t fun y hy => by simp [h y hy]
theorem endB_kids (ps : List Int) (x : Nat) : endB ps x = (kids ps x).isEmpty := by
  cases h : endB ps x
  · symm
    cases hk : kids ps x with
    | cons a l => rfl
    | nil =>
      exfalso
      have : endB ps x = true := endB_t fun y hy e => by
        have hm : (y : Int) ∈ kids ps x := mem_filt.2 ⟨y, hy, by simp [e], rfl⟩
        rw [hk] at hm; cases hm
      rw [h] at this; cases this
  · symm
    rw [List.isEmpty_iff]
    exact filt_none fun y hy => by
      have := all_get h hy
      simpa using this
theorem kids_lt {ps : List Int} (h : Pa ps) {x y : Nat} (hy : y < ps.length) (e : nth ps y = x) : x < y := by
  have h0 := h.p0
  by_cases hy0 : y = 0
  · subst hy0; omega
  · have := h.up y (by omega) hy; omega
theorem kids_low {ps : List Int} (h : Pa ps) {x k : Nat} (hk : k ≤ x + 1) (hn : k ≤ ps.length) : filt (fun y => nth ps y == (x : Int)) k = [] := filt_none fun y hy => by
  by_cases e : nth ps y = x
  · have := kids_lt h (by omega) e; omega
  · simpa using e
/-- The ends. -/
def ends (ps : List Int) : List Int := filt (endB ps) ps.length
theorem last_end {ps : List Int} (h : Pa ps) : endB ps (ps.length - 1) = true := endB_t fun y hy e => by
  have := kids_lt h hy e; omega
theorem ends_pos {ps : List Int} (h : Pa ps) : 1 ≤ (ends ps).length := by
  have : ((ps.length - 1 : Nat) : Int) ∈ ends ps := mem_filt.2 ⟨_, by have := h.n1; omega, last_end h, rfl⟩
  exact List.length_pos_of_mem this
/-- The sum of f over the children of x among the first k nodes. -/
def kidSum (ps : List Int) (f : Nat → Int) (x : Nat) : Nat → Int
  | 0 => 0
  | k + 1 => kidSum ps f x k + if nth ps k == (x : Int) then f k else 0
theorem kidSum_t {ps : List Int} {f : Nat → Int} {x k : Nat} (h : nth ps k = x) : kidSum ps f x (k + 1) = kidSum ps f x k + f k := by simp [kidSum, h]
theorem kidSum_f {ps : List Int} {f : Nat → Int} {x k : Nat} (h : ¬ nth ps k = x) : kidSum ps f x (k + 1) = kidSum ps f x k := by simp [kidSum, h]
theorem kidSum_congr {ps : List Int} {f g : Nat → Int} {x : Nat} : ∀ {k : Nat}, (∀ y, y < k → nth ps y = x → f y = g y) → kidSum ps f x k = kidSum ps g x k
  | 0, _ => rfl
  | k + 1, h => by
    have ih := kidSum_congr (k := k) fun y hy => h y (by omega)
    by_cases e : nth ps k = x
    · rw [kidSum_t e, kidSum_t e, ih, h k (by omega) e]
    · rw [kidSum_f e, kidSum_f e, ih]
theorem kidSum_low {ps : List Int} (h : Pa ps) {f : Nat → Int} {x : Nat} : ∀ {k : Nat}, k ≤ x + 1 → k ≤ ps.length → kidSum ps f x k = 0
  | 0, _, _ => rfl
  | k + 1, h1, h2 => by
    rw [kidSum_f, kidSum_low h (k := k) (by omega) (by omega)]
    intro e
    have := kids_lt h (by omega) e; omega
theorem kidSum_end {ps : List Int} {f : Nat → Int} {x : Nat} (h : endB ps x = true) : ∀ {k : Nat}, k ≤ ps.length → kidSum ps f x k = 0
  | 0, _ => rfl
  | k + 1, hk => by
    rw [kidSum_f, kidSum_end h (k := k) (by omega)]
    have := all_get h (i := k) (by omega)
    simpa using this
def sumOf (f : Int → Int) : List Int → Int
  | [] => 0
  | x :: xs => f x + sumOf f xs
theorem sumOf_append (f : Int → Int) (xs ys : List Int) : sumOf f (xs ++ ys) = sumOf f xs + sumOf f ys := by
  induction xs with
  | nil => simp [sumOf]
  | cons x xs ih => simp only [List.cons_append, sumOf, ih]; omega
theorem sumOf_take_succ (f : Int → Int) (xs : List Int) (i : Nat) (h : i < xs.length) : sumOf f (xs.take (i + 1)) = sumOf f (xs.take i) + f (nth xs i) := by
  rw [take_succ_nth h, sumOf_append]; simp [sumOf]
theorem sumOf_congr {f g : Int → Int} : ∀ {xs : List Int}, (∀ x, x ∈ xs → f x = g x) → sumOf f xs = sumOf g xs
  | [], _ => rfl
  | x :: xs, h => by rw [sumOf, sumOf, h x (by simp), sumOf_congr fun y hy => h y (by simp [hy])]
theorem sumOf_kids (ps : List Int) (f : Int → Int) (x : Nat) : ∀ k : Nat, sumOf f (filt (fun y => nth ps y == (x : Int)) k) = kidSum ps (fun y => f y) x k
  | 0 => rfl
  | k + 1 => by
    by_cases e : nth ps k = x
    · rw [filt_t (by simpa using e), sumOf_append, sumOf_kids ps f x k, kidSum_t e]; simp [sumOf]
    · rw [filt_f (by simpa using e), sumOf_kids ps f x k, kidSum_f e]
theorem kids_sum (ps : List Int) (f : Int → Int) (x : Nat) : sumOf f (kids ps x) = kidSum ps (fun y => f y) x ps.length := sumOf_kids ps f x _

/-- Numbers gathered from the node k down to the node 1, each added to its parent's. -/
def gath (ps : List Int) : Nat → List Int → List Int
  | 0, l => l
  | k + 1, l => gath ps k (l.set (par ps (k + 1)) (nth l (par ps (k + 1)) + nth l (k + 1)))
theorem gath_length (ps : List Int) : ∀ (k : Nat) (l : List Int), (gath ps k l).length = l.length
  | 0, _ => rfl
  | k + 1, l => by rw [gath, gath_length ps k]; simp
theorem gath_kids {ps : List Int} (h : Pa ps) : ∀ (k : Nat) (l : List Int), k < ps.length → l.length = ps.length → ∀ x, nth (gath ps k l) x = nth l x + kidSum ps (fun y => nth (gath ps k l) y) x (k + 1)
  | 0, l, hk, hl, x => by
    rw [kidSum_f (by have := h.root x; simpa using this)]; simp [kidSum, gath]
  | k + 1, l, hk, hl, x => by
    have hp := h.upN (x := k + 1) (by omega) hk
    have hlt : par ps (k + 1) < l.length := by omega
    have ih := gath_kids h k (l.set (par ps (k + 1)) (nth l (par ps (k + 1)) + nth l (k + 1))) (by omega) (by simpa using hl)
    rw [gath]
    generalize hl' : l.set (par ps (k + 1)) (nth l (par ps (k + 1)) + nth l (k + 1)) = l' at ih ⊢
    have hn : ∀ x, nth l' x = if par ps (k + 1) = x then nth l (par ps (k + 1)) + nth l (k + 1) else nth l x := fun x => by rw [← hl', nth_set hlt]
    have h1 : nth (gath ps k l') (k + 1) = nth l (k + 1) := by
      rw [ih, kidSum_low h (by omega) (by omega), hn, if_neg (by omega)]; omega
    have h2 : (kidSum ps (fun y => nth (gath ps k l') y) x (k + 1 + 1)) = kidSum ps (fun y => nth (gath ps k l') y) x (k + 1) + if par ps (k + 1) = x then nth l (k + 1) else 0 := by
      by_cases e : par ps (k + 1) = x
      · rw [kidSum_t (by omega), if_pos e, h1]
      · rw [kidSum_f (by omega), if_neg e]; omega
    rw [h2, ih, hn]
    by_cases e : par ps (k + 1) = x
    · rw [if_pos e, if_pos e, e]; omega
    · rw [if_neg e, if_neg e]; omega
/-- What comes together at the root is the sum of all. -/
theorem gath_root {ps : List Int} (h : Pa ps) : ∀ (k : Nat) (l : List Int), k < ps.length → l.length = ps.length → nth (gath ps k l) 0 = sumOf id (l.take (k + 1))
  | 0, l, hk, hl => by
    rw [sumOf_take_succ _ _ _ (by omega)]; simp [gath, sumOf]
  | k + 1, l, hk, hl => by
    have hp := h.upN (x := k + 1) (by omega) hk
    have hlt : par ps (k + 1) < l.length := by omega
    rw [gath, gath_root h k _ (by omega) (by simpa using hl), sumOf_take_succ id l (k + 1) (by omega)]
    have key : ∀ (m : Nat) (l : List Int) (i : Nat) (v : Int), i < m → m ≤ l.length → sumOf id ((l.set i v).take m) = sumOf id (l.take m) - nth l i + v := by
      intro m
      induction m with
      | zero => intro l i v hi; omega
      | succ m ih =>
        intro l i v hi hm
        rw [sumOf_take_succ _ _ _ (by simp; omega), sumOf_take_succ _ _ _ (by omega), nth_set (by omega)]
        by_cases e : i = m
        · subst e
          have : (l.set i v).take i = l.take i := by rw [List.take_set]; exact List.set_eq_of_length_le (by simp; omega)
          rw [if_pos rfl, this]; simp
        · rw [if_neg e, ih l i v (by omega) (by omega)]; omega
    rw [key _ _ _ _ (by omega) (by omega)]
    simp; omega
/-- The list of the sums of all nodes. -/
def gathA (ps l : List Int) : List Int := gath ps (ps.length - 1) l
theorem gathA_length (ps l : List Int) : (gathA ps l).length = l.length := gath_length _ _ _
theorem gathA_kids {ps l : List Int} (h : Pa ps) (hl : l.length = ps.length) (x : Nat) : nth (gathA ps l) x = nth l x + kidSum ps (fun y => nth (gathA ps l) y) x ps.length := by
  have := gath_kids h (ps.length - 1) l (by have := h.n1; omega) hl x
  rwa [show ps.length - 1 + 1 = ps.length by have := h.n1; omega] at this
theorem gathA_root {ps l : List Int} (h : Pa ps) (hl : l.length = ps.length) : nth (gathA ps l) 0 = sumOf id l := by
  have h1 := h.n1
  rw [gathA, gath_root h _ _ (by omega) hl, show ps.length - 1 + 1 = l.length by omega, List.take_length]
/-- What a round of gathering does to a bound. -/
theorem gath_bd {l : List Int} {B : Int} {p k : Nat} (h : ∀ i, -B ≤ nth l i ∧ nth l i ≤ B) (hp : p < l.length) : ∀ i, -(2 * B) ≤ nth (l.set p (nth l p + nth l k)) i ∧ nth (l.set p (nth l p + nth l k)) i ≤ 2 * B := fun i => by
  have h1 := h p; have h2 := h k; have h3 := h i
  rw [nth_set hp]
  split <;> omega
theorem kidSum_le {ps : List Int} {f g : Nat → Int} {x : Nat} : ∀ {k : Nat}, (∀ y, y < k → nth ps y = x → f y ≤ g y) → kidSum ps f x k ≤ kidSum ps g x k
  | 0, _ => Int.le_refl _
  | k + 1, h => by
    have ih := kidSum_le (k := k) fun y hy => h y (by omega)
    by_cases e : nth ps k = x
    · have := h k (by omega) e; rw [kidSum_t e, kidSum_t e]; omega
    · rw [kidSum_f e, kidSum_f e]; omega
theorem kidSum_mul (ps : List Int) (f : Nat → Int) (c : Int) (x : Nat) : ∀ k : Nat, kidSum ps (fun y => c * f y) x k = c * kidSum ps f x k
  | 0 => by simp [kidSum]
  | k + 1 => by
    by_cases e : nth ps k = x
    · rw [kidSum_t e, kidSum_t e, kidSum_mul ps f c x k, Int.mul_add]
    · rw [kidSum_f e, kidSum_f e, kidSum_mul ps f c x k]
theorem kidSum_add (ps : List Int) (f g : Nat → Int) (x : Nat) : ∀ k : Nat, kidSum ps (fun y => f y + g y) x k = kidSum ps f x k + kidSum ps g x k
  | 0 => by simp [kidSum]
  | k + 1 => by
    by_cases e : nth ps k = x
    · rw [kidSum_t e, kidSum_t e, kidSum_t e, kidSum_add ps f g x k]; omega
    · rw [kidSum_f e, kidSum_f e, kidSum_f e, kidSum_add ps f g x k]
theorem kidSum_one {ps : List Int} {f : Nat → Int} {x y : Nat} (hf : ∀ z, 0 ≤ f z) (e : nth ps y = x) : ∀ {k : Nat}, y < k → f y ≤ kidSum ps f x k ∧ 0 ≤ kidSum ps f x k
  | 0, h => by omega
  | k + 1, h => by
    have hk := hf k
    by_cases hy : y = k
    · subst hy
      rw [kidSum_t e]
      have : 0 ≤ kidSum ps f x y := by
        have := kidSum_le (ps := ps) (f := fun _ => 0) (g := f) (x := x) (k := y) fun z _ _ => hf z
        have h0 := kidSum_mul ps (fun _ => 0) 0 x y
        simp only [Int.zero_mul] at h0
        omega
      omega
    · have ih := kidSum_one hf e (k := k) (by omega)
      by_cases e2 : nth ps k = x
      · rw [kidSum_t e2]; omega
      · rw [kidSum_f e2]; omega
/-- From below: what holds of a node if it holds of its children, holds of all nodes. -/
theorem Pa.below {ps : List Int} (h : Pa ps) {P : Nat → Prop} (hs : ∀ x, x < ps.length → (∀ y, y < ps.length → nth ps y = x → P y) → P x) : ∀ x, x < ps.length → P x := by
  have : ∀ (m x : Nat), ps.length - x ≤ m → x < ps.length → P x := by
    intro m
    induction m with
    | zero => intro x h1 h2; omega
    | succ m ih =>
      intro x h1 h2
      exact hs x h2 fun y hy e => by
        have := kids_lt h hy e
        exact ih y (by omega) hy
  exact fun x => this _ x (Nat.le_refl _)
/-- From above: what holds of the root, and of a node if it holds of its parent, holds of all nodes. -/
theorem Pa.above {ps : List Int} (h : Pa ps) {P : Nat → Prop} (h0 : P 0) (hs : ∀ x, 1 ≤ x → x < ps.length → P (par ps x) → P x) : ∀ x, x < ps.length → P x := by
  have : ∀ (m x : Nat), x ≤ m → x < ps.length → P x := by
    intro m
    induction m with
    | zero => intro x h1 h2; obtain rfl : x = 0 := by omega
              exact h0
    | succ m ih =>
      intro x h1 h2
      by_cases hx : x = 0
      · subst hx; exact h0
      · have := h.upN (x := x) (by omega) h2
        exact hs x (by omega) h2 (ih _ (by omega) (by omega))
  exact fun x => this x x (Nat.le_refl _)
/-- The sums of the nodes of a tree. -/
def sums (ps ws : List Int) : List Int := gathA ps ws
theorem sums_length {ps ws : List Int} (h : Tr ps ws) : (sums ps ws).length = ps.length := by rw [sums, gathA_length, h.wl]
theorem Tr.w0 {ps ws : List Int} (h : Tr ps ws) (x : Nat) : 0 ≤ nth ws x ∧ nth ws x ≤ 20 := by
  by_cases hx : x < ps.length
  · cases he : endB ps x
    · have := h.inner x hx he; omega
    · have := h.leaf x hx he; omega
  · rw [nth_ge (by have := h.wl; omega)]; omega
theorem sums_kids {ps ws : List Int} (h : Tr ps ws) (x : Nat) : nth (sums ps ws) x = nth ws x + kidSum ps (fun y => nth (sums ps ws) y) x ps.length := gathA_kids h.toPa h.wl x
theorem sumOf_id_bd {B : Int} (hB : 0 ≤ B) : ∀ {xs : List Int}, (∀ i, 0 ≤ nth xs i ∧ nth xs i ≤ B) → 0 ≤ sumOf id xs ∧ sumOf id xs ≤ B * xs.length
  | [], _ => by simp [sumOf]
  | x :: xs, h => by
    have h0 := h 0
    have ih := sumOf_id_bd hB (xs := xs) fun i => by have := h (i + 1); simpa [nth, List.getD] using this
    have : nth (x :: xs) 0 = x := rfl
    rw [this] at h0
    simp only [sumOf, List.length_cons, id]
    rw [show B * ((xs.length + 1 : Nat) : Int) = B * xs.length + B by rw [Int.natCast_add, Int.mul_add]; simp]
    omega
theorem sums_root {ps ws : List Int} (h : Tr ps ws) : nth (sums ps ws) 0 ≤ 480 := by
  have h1 := sumOf_id_bd (B := 20) (by omega) (xs := ws) h.w0
  have h2 := gathA_root h.toPa h.wl
  have h3 := h.n24
  have h4 := h.wl
  unfold sums; rw [h2]; omega
theorem sums_pos {ps ws : List Int} (h : Tr ps ws) : ∀ x, x < ps.length → 1 ≤ nth (sums ps ws) x := by
  refine h.toPa.below fun x hx ih => ?_
  rw [sums_kids h]
  cases he : endB ps x
  · have : (kids ps x) ≠ [] := by
      intro hk
      have := endB_kids ps x
      rw [he, hk] at this; cases this
    obtain ⟨y, hy⟩ := List.exists_mem_of_ne_nil _ this
    obtain ⟨i, hi, hp, rfl⟩ := mem_filt.1 hy
    have hp : nth ps i = x := by simpa using hp
    have h2 := kidSum_one (ps := ps) (f := fun y => if y < ps.length then (if nth ps y = x then nth (sums ps ws) y else 0) else 0) (x := x) (y := i) (fun z => by
      split
      · split
        · rename_i h1 h2; have := ih z h1 h2; omega
        · omega
      · omega) hp hi
    have h3 := kidSum_congr (ps := ps) (f := fun y => if y < ps.length then (if nth ps y = x then nth (sums ps ws) y else 0) else 0) (g := fun y => nth (sums ps ws) y) (x := x) (k := ps.length) (fun y hy e => by simp [hy, e])
    rw [h3] at h2
    have h4 := ih i hi hp
    simp only [hi, hp, if_true] at h2
    have := h.w0 x
    omega
  · have := h.leaf x hx he
    rw [kidSum_end he (Nat.le_refl _)]; omega
theorem sums_nn {ps ws : List Int} (h : Tr ps ws) (x : Nat) : 0 ≤ nth (sums ps ws) x := by
  by_cases hx : x < ps.length
  · have := sums_pos h x hx; omega
  · rw [nth_ge (by rw [sums_length h]; omega)]; omega
theorem sums_up {ps ws : List Int} (h : Tr ps ws) {y : Nat} (h1 : 1 ≤ y) (h2 : y < ps.length) : nth (sums ps ws) y ≤ nth (sums ps ws) (par ps y) := by
  have hp := (h.toPa.upN h1 h2).1
  rw [sums_kids h (par ps y)]
  have h3 := (kidSum_one (ps := ps) (f := fun y => nth (sums ps ws) y) (sums_nn h) hp h2).1
  have := h.w0 (par ps y)
  omega
theorem sums_bd {ps ws : List Int} (h : Tr ps ws) (x : Nat) : 0 ≤ nth (sums ps ws) x ∧ nth (sums ps ws) x ≤ 480 := by
  refine ⟨sums_nn h x, ?_⟩
  by_cases hx : x < ps.length
  · exact h.toPa.above (P := fun x => nth (sums ps ws) x ≤ 480) (sums_root h) (fun y h1 h2 hy => by have := sums_up h h1 h2; omega) x hx
  · rw [nth_ge (by rw [sums_length h]; omega)]; omega
end Go.Proofs.Ytcoakeedgngogaa
