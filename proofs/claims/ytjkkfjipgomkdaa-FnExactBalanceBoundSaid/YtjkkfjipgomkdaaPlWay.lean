/- Plain lists: ways from the root, the first node on a way at which something is so, numbers put to their places. Nothing of the program. -/
import Derived.Test.YtjkkfjipgomkdaaPlTree
namespace Go.Proofs.Ytjkkfjipgomkdaa

def wayF (ps : List Int) : Nat → Nat → List Int
  | 0, x => [(x : Int)]
  | k + 1, x => if x = 0 then [0] else wayF ps k (par ps x) ++ [(x : Int)]
/-- The nodes from the root to x. -/
def way (ps : List Int) (x : Nat) : List Int := wayF ps x x
theorem wayF_zero (ps : List Int) (k : Nat) : wayF ps k 0 = [0] := by cases k <;> simp [wayF]
theorem wayF_fuel {ps : List Int} (h : Pa ps) : ∀ (k x : Nat), x ≤ k → x < ps.length → wayF ps k x = way ps x
  | k, 0, _, _ => by rw [way, wayF_zero, wayF_zero]
  | 0, x + 1, hk, _ => by omega
  | k + 1, x + 1, hk, hx => by
    have hp := (h.upN (x := x + 1) (by omega) hx).2
    rw [way, wayF, wayF, if_neg (by omega), if_neg (by omega), wayF_fuel h k _ (by omega) (by omega), wayF_fuel h x _ (by omega) (by omega)]
theorem way_zero (ps : List Int) : way ps 0 = [0] := rfl
theorem way_up {ps : List Int} (h : Pa ps) {x : Nat} (h1 : 1 ≤ x) (h2 : x < ps.length) : way ps x = way ps (par ps x) ++ [(x : Int)] := by
  obtain ⟨k, rfl⟩ : ∃ k, x = k + 1 := ⟨x - 1, by omega⟩
  have hp := (h.upN h1 h2).2
  rw [way, wayF, if_neg (by omega), wayF_fuel h k _ (by omega) (by omega)]
theorem way_length {ps : List Int} (h : Pa ps) : ∀ x, x < ps.length → 1 ≤ (way ps x).length ∧ (way ps x).length ≤ x + 1 := by
  intro x
  induction x using Nat.strongRecOn with
  | ind x ih =>
    intro hx
    by_cases h0 : x = 0
    · subst h0; rw [way_zero]; simp
    · have hp := (h.upN (x := x) (by omega) hx).2
      have := ih _ hp (by omega)
      rw [way_up h (by omega) hx, List.length_append, List.length_singleton]; omega
/-- The nodes on a way are nodes. -/
theorem way_mem {ps : List Int} (h : Pa ps) : ∀ x, x < ps.length → ∀ y, y ∈ way ps x → ∃ j : Nat, j ≤ x ∧ y = j := by
  intro x
  induction x using Nat.strongRecOn with
  | ind x ih =>
    intro hx y hy
    by_cases h0 : x = 0
    · subst h0; rw [way_zero] at hy; exact ⟨0, Nat.le_refl _, by simpa using hy⟩
    · have hp := (h.upN (x := x) (by omega) hx).2
      rw [way_up h (by omega) hx, List.mem_append] at hy
      rcases hy with hy | hy
      · obtain ⟨j, h1, h2⟩ := ih _ hp (by omega) y hy
        exact ⟨j, by omega, h2⟩
      · exact ⟨x, Nat.le_refl _, by simpa using hy⟩
theorem nth_way {ps : List Int} (h : Pa ps) {x i : Nat} (hx : x < ps.length) (hi : i < (way ps x).length) : ∃ j : Nat, j ≤ x ∧ nth (way ps x) i = j := way_mem h x hx _ (nth_mem hi)
/-- The first number of a list for which something is so, or -1. -/
def stopL (S : Int → Bool) : List Int → Int
  | [] => -1
  | x :: xs => if S x then x else stopL S xs
theorem stopL_app {S : Int → Bool} {x : Int} : ∀ {xs : List Int}, (∀ y, y ∈ xs → 0 ≤ y) → stopL S (xs ++ [x]) = if 0 ≤ stopL S xs then stopL S xs else if S x then x else -1
  | [], _ => by simp [stopL]
  | y :: ys, h => by
    have hy := h y (by simp)
    have ih := stopL_app (S := S) (x := x) (xs := ys) fun z hz => h z (by simp [hz])
    rw [List.cons_append, stopL, stopL]
    cases hS : S y
    · rw [if_neg Bool.false_ne_true, if_neg Bool.false_ne_true]; exact ih
    · rw [if_pos rfl, if_pos rfl, if_pos hy]
theorem stopL_none {S : Int → Bool} : ∀ {xs : List Int}, (∀ y, y ∈ xs → S y = false) → stopL S xs = -1
  | [], _ => rfl
  | x :: xs, h => by rw [stopL, h x (by simp), if_neg Bool.false_ne_true, stopL_none fun y hy => h y (by simp [hy])]
theorem stopL_at {S : Int → Bool} : ∀ {xs : List Int} {i : Nat}, i < xs.length → (∀ j, j < i → S (nth xs j) = false) → S (nth xs i) = true → stopL S xs = nth xs i
  | [], i, hi, _, _ => by simp at hi
  | x :: xs, 0, _, _, h => by
    have : nth (x :: xs) 0 = x := rfl
    rw [this] at h ⊢
    rw [stopL, h, if_pos rfl]
  | x :: xs, i + 1, hi, hb, h => by
    have h0 : nth (x :: xs) 0 = x := rfl
    have hs : ∀ j, nth (x :: xs) (j + 1) = nth xs j := fun j => by simp [nth, List.getD]
    have := hb 0 (by omega)
    rw [h0] at this
    rw [stopL, this, if_neg Bool.false_ne_true, hs]
    exact stopL_at (i := i) (by simpa using hi) (fun j hj => by have := hb (j + 1) (by omega); rwa [hs] at this) (by rwa [hs] at h)
/-- The first node on the way to x at which something is so, or -1. -/
def stop (ps : List Int) (S : Int → Bool) (x : Nat) : Int := stopL S (way ps x)
theorem stop_zero (ps : List Int) (S : Int → Bool) : stop ps S 0 = if S 0 then 0 else -1 := by rw [stop, way_zero]; rfl
theorem stop_up {ps : List Int} (h : Pa ps) (S : Int → Bool) {x : Nat} (h1 : 1 ≤ x) (h2 : x < ps.length) : stop ps S x = if 0 ≤ stop ps S (par ps x) then stop ps S (par ps x) else if S x then (x : Int) else -1 := by
  have hp := (h.upN h1 h2).2
  rw [stop, way_up h h1 h2, stopL_app fun y hy => by obtain ⟨j, _, rfl⟩ := way_mem h _ (by omega) y hy; omega]; rfl
/-- Is something so at a node on the way to x? -/
def behB (ps : List Int) (S : Int → Bool) (x : Nat) : Bool := decide (0 ≤ stop ps S x)
/-- Is x the first node on its way at which something is so? -/
def firB (ps : List Int) (S : Int → Bool) (x : Nat) : Bool := stop ps S x == (x : Int)
theorem beh_zero (ps : List Int) (S : Int → Bool) : behB ps S 0 = S 0 ∧ firB ps S 0 = S 0 := by
  unfold behB firB; rw [stop_zero]; cases S 0 <;> exact ⟨rfl, rfl⟩
theorem stop_low {ps : List Int} (h : Pa ps) (S : Int → Bool) : ∀ x, x < ps.length → -1 ≤ stop ps S x ∧ stop ps S x ≤ x := by
  intro x hx
  unfold stop
  have : ∀ xs : List Int, (∀ y, y ∈ xs → ∃ j : Nat, j ≤ x ∧ y = j) → -1 ≤ stopL S xs ∧ stopL S xs ≤ x := by
    intro xs
    induction xs with
    | nil => intro _; simp only [stopL]; omega
    | cons y ys ih =>
      intro hy
      rw [stopL]
      cases S y
      · rw [if_neg Bool.false_ne_true]; exact ih fun z hz => hy z (by simp [hz])
      · rw [if_pos rfl]
        obtain ⟨j, h1, rfl⟩ := hy y (by simp)
        omega
  exact this _ (way_mem h x hx)
theorem beh_up {ps : List Int} (h : Pa ps) (S : Int → Bool) {x : Nat} (h1 : 1 ≤ x) (h2 : x < ps.length) :
    (behB ps S (par ps x) = true → behB ps S x = true ∧ firB ps S x = false) ∧ (behB ps S (par ps x) = false → behB ps S x = S x ∧ firB ps S x = S x) := by
  have hp := (h.upN h1 h2).2
  have hl := stop_low h S (par ps x) (by omega)
  unfold behB firB
  rw [stop_up h S h1 h2]
  constructor
  · intro hb
    have hb := of_decide_eq_true hb
    rw [if_pos hb]
    exact ⟨decide_eq_true hb, by rw [beq_eq_false_iff_ne]; omega⟩
  · intro hb
    have hb := of_decide_eq_false hb
    rw [if_neg hb]
    cases S x
    · rw [if_neg Bool.false_ne_true]
      exact ⟨decide_eq_false (by omega), by rw [beq_eq_false_iff_ne]; omega⟩
    · rw [if_pos rfl]
      exact ⟨decide_eq_true (by omega), by simp⟩
theorem stop_stop {ps : List Int} (h : Pa ps) (S : Int → Bool) : ∀ x, x < ps.length → ∀ y : Nat, stop ps S x = y → y < ps.length ∧ stop ps S y = y := by
  refine h.above (P := fun x => ∀ y : Nat, stop ps S x = y → y < ps.length ∧ stop ps S y = y) ?_ ?_
  · intro y hy
    have hy2 := hy
    rw [stop_zero] at hy2
    have h1 := h.n1
    cases hS : S 0
    · rw [hS, if_neg Bool.false_ne_true] at hy2; omega
    · rw [hS, if_pos rfl] at hy2
      obtain rfl : y = 0 := by omega
      exact ⟨by omega, hy⟩
  · intro x h1 h2 ih y hy
    have hy2 := hy
    rw [stop_up h S h1 h2] at hy2
    by_cases hb : 0 ≤ stop ps S (par ps x)
    · rw [if_pos hb] at hy2; exact ih y hy2
    · rw [if_neg hb] at hy2
      cases hS : S x
      · rw [hS, if_neg Bool.false_ne_true] at hy2; omega
      · rw [hS, if_pos rfl] at hy2
        obtain rfl : y = x := by omega
        exact ⟨h2, hy⟩
/-- Below each node is an end, and what stops ahead of the node stops there, too. -/
theorem end_below {ps : List Int} (h : Pa ps) (S : Int → Bool) : ∀ x, x < ps.length → ∃ e : Nat, e < ps.length ∧ endB ps e = true ∧ (0 ≤ stop ps S x → stop ps S e = stop ps S x) := by
  refine h.below (P := fun x => ∃ e : Nat, e < ps.length ∧ endB ps e = true ∧ (0 ≤ stop ps S x → stop ps S e = stop ps S x)) ?_
  intro x hx ih
  cases he : endB ps x
  · have hk := endB_kids ps x
    rw [he] at hk
    obtain ⟨y, hy⟩ := List.exists_mem_of_ne_nil (kids ps x) (by intro e; rw [e] at hk; cases hk)
    obtain ⟨i, hi, hp, rfl⟩ := mem_filt.1 hy
    have hp : nth ps i = x := by simpa using hp
    have hlt := kids_lt h hi hp
    obtain ⟨e, h1, h2, h3⟩ := ih i hi hp
    refine ⟨e, h1, h2, fun h0 => ?_⟩
    have hu := h.upN (x := i) (by omega) hi
    have hpar : par ps i = x := by omega
    have hs := stop_up h S (x := i) (by omega) hi
    rw [hpar, if_pos h0] at hs
    rw [h3 (by omega), hs]
  · exact ⟨x, hx, he, fun _ => rfl⟩
/-- Is y the first node for one of these nodes? -/
def isStop (ps : List Int) (S : Int → Bool) (es : List Int) (y : Nat) : Bool := es.any fun e => stop ps S e.toNat == (y : Int)
theorem isStop_ends {ps : List Int} (h : Pa ps) (S : Int → Bool) {y : Nat} (hy : y < ps.length) : isStop ps S (ends ps) y = firB ps S y := by
  rw [Bool.eq_iff_iff]
  unfold isStop firB
  rw [List.any_eq_true, beq_iff_eq]
  constructor
  · rintro ⟨e, he, hs⟩
    obtain ⟨i, hi, _, rfl⟩ := mem_filt.1 he
    rw [beq_iff_eq, Int.toNat_natCast] at hs
    exact (stop_stop h S i hi y hs).2
  · intro hs
    obtain ⟨e, h1, h2, h3⟩ := end_below h S y hy
    exact ⟨(e : Int), mem_filt.2 ⟨e, h1, h2, rfl⟩, by rw [beq_iff_eq, Int.toNat_natCast, h3 (by omega)]; exact hs⟩
/-- The rule that stops at the first node on each way at which something is so. -/
def firsts (ps : List Int) (S : Int → Bool) : List Int := filt (firB ps S) ps.length
theorem firsts_length (ps : List Int) (S : Int → Bool) : (firsts ps S).length ≤ ps.length := filt_length _ _
/-- A number put to its place, once. -/
theorem filt_or {p : Nat → Bool} {y : Nat} : ∀ {k : Nat}, y < k → ∃ a b, filt p k = a ++ b ∧ (∀ x, x ∈ a → x < (y : Int)) ∧ (p y = true → ∃ b', b = (y : Int) :: b' ∧ (∀ x, x ∈ b' → (y : Int) < x)) ∧ (p y = false → (∀ x, x ∈ b → (y : Int) < x)) ∧ filt (fun z => p z || z == y) k = a ++ (if p y then b else (y : Int) :: b)
  | 0, h => by omega
  | k + 1, h => by
    by_cases e : y = k
    · subst e
      have hlt : filt (fun z => p z || z == y) y = filt p y := filt_congr fun i hi => by
        have : (i == y) = false := by rw [beq_eq_false_iff_ne]; omega
        rw [this, Bool.or_false]
      have hal : ∀ x, x ∈ filt p y → x < (y : Int) := fun x hx => by obtain ⟨i, h1, _, rfl⟩ := mem_filt.1 hx; omega
      have hin : filt (fun z => p z || z == y) (y + 1) = filt p y ++ [(y : Int)] := by rw [filt_t (by simp), hlt]
      cases hp : p y
      · exact ⟨filt p y, [], by rw [filt_f hp]; simp, hal, (fun h => by simp at h), (fun _ x hx => by simp at hx), by rw [hin]; simp⟩
      · exact ⟨filt p y, [(y : Int)], by rw [filt_t hp], hal, (fun _ => ⟨[], rfl, fun x hx => by simp at hx⟩), (fun h => by simp at h), by rw [hin]; simp⟩
    · obtain ⟨a, b, h1, h2, h3, h4, h5⟩ := filt_or (p := p) (y := y) (k := k) (by omega)
      have hk : (k == y) = false := by rw [beq_eq_false_iff_ne]; omega
      cases hp : p k
      · refine ⟨a, b, by rw [filt_f hp, h1], h2, h3, h4, ?_⟩
        rw [filt_f (by rw [hp, hk]; rfl), h5]
      · refine ⟨a, b ++ [(k : Int)], by rw [filt_t hp, h1, List.append_assoc], h2, fun hy => ?_, fun hy x hx => ?_, ?_⟩
        · obtain ⟨b', rfl, hb⟩ := h3 hy
          refine ⟨b' ++ [(k : Int)], rfl, fun x hx => ?_⟩
          rw [List.mem_append] at hx
          rcases hx with hx | hx
          · exact hb x hx
          · have : x = k := by simpa using hx
            omega
        · rw [List.mem_append] at hx
          rcases hx with hx | hx
          · exact h4 hy x hx
          · have : x = k := by simpa using hx
            omega
        · rw [filt_t (by rw [hp]; rfl), h5]
          cases hy : p y <;> simp
end Go.Proofs.Ytjkkfjipgomkdaa
