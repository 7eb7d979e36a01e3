/- Contracts and plain laws for the statement FnStoppedMeans, part 1. No conditions but those stated in each. -/
import Derived.Test.YtnbomleieianoaaGreatProg
import Derived.WalkKit
import Derived.WalkLawsBesides
import Derived.WalkSpells
import Derived.Lib.Hide
import Derived.Lib.SmallJoins
import Derived.Outline
import Derived.Deep.Cut
/- Small words on memory used by all contracts of this claim: a slice of ints that reads as a list, and one that the call owns. No condition but those in the statements. -/
namespace Go.Proofs.YtnbomleieianoaaGreat
open Go.RowKit

theorem ri {k : IntKind} {a b : Int} (h : a = b) : Ending.returned (.int k a) = .returned (.int k b) := by rw [h]
theorem rb {a b : Bool} (h : a = b) : Ending.returned (.bool a) = .returned (.bool b) := by rw [h]
theorem vi {k : IntKind} {a b : Int} (h : a = b) : Value.int k a = .int k b := by rw [h]

/-- Element i of a list of ints, 0 behind its end. -/
def nth (xs : List Int) (i : Nat) : Int := xs.getD i 0
theorem nth_lt {xs : List Int} {i : Nat} (h : i < xs.length) : nth xs i = xs[i] := by simp [nth, List.getD, h]
theorem nth_get? {xs : List Int} {i : Nat} (h : i < xs.length) : xs[i]? = some (nth xs i) := by simp [nth, List.getD, h]
theorem nth_ge {xs : List Int} {i : Nat} (h : xs.length ≤ i) : nth xs i = 0 := by simp [nth, List.getD, h]
theorem nth_set {xs : List Int} {i j : Nat} {u : Int} (h : i < xs.length) : nth (xs.set i u) j = if i = j then u else nth xs j := by
  unfold nth
  by_cases e : i = j
  · subst e; simp [List.getD, h]
  · simp [List.getD, e]
theorem take_succ_nth {xs : List Int} {k : Nat} (h : k < xs.length) : xs.take (k + 1) = xs.take k ++ [nth xs k] := by
  rw [List.take_succ_eq_append_getElem h, nth_lt h]
theorem ext_nth {xs ys : List Int} (hl : xs.length = ys.length) (h : ∀ i, i < xs.length → nth xs i = nth ys i) : xs = ys := by
  apply List.ext_getElem hl
  intro i h1 h2
  have := h i h1
  rwa [nth_lt h1, nth_lt h2] at this
theorem nth_map_range {n i : Nat} {f : Nat → Int} (h : i < n) : nth ((List.range n).map f) i = f i := by
  rw [nth_lt (by simpa using h)]; simp
theorem nth_replicate (n i : Nat) : nth (List.replicate n 0) i = 0 := by
  unfold nth; simp only [List.getD_eq_getElem?_getD, List.getElem?_replicate]; split <;> rfl

/-- The cells of a list of ints. -/
def cs (xs : List Int) : List Value := xs.map (Value.int .i64)
theorem cs_length (xs : List Int) : (cs xs).length = xs.length := by simp [cs]
theorem cs_get? (xs : List Int) (i : Nat) (h : i < xs.length) : (cs xs)[i]? = some (.int .i64 (nth xs i)) := by simp [cs, nth, List.getD, h]
theorem cs_set (xs : List Int) (i : Nat) (u : Int) : (cs xs).set i (.int .i64 u) = cs (xs.set i u) := by simp [cs, List.map_set]
theorem cs_append (xs ys : List Int) : cs xs ++ cs ys = cs (xs ++ ys) := by simp [cs]
theorem cs_one (xs : List Int) : ∀ u ∈ cs xs, u.oneCell' = true := ints_oneCell .i64 xs

/-- The slice (a, n) reads as the ints xs. -/
def Ints (w : World) (a : Option Addr) (n : Nat) (xs : List Int) : Prop :=
  xs.length = n ∧ (0 < n → ∃ b off, a = some ⟨b, off, none⟩ ∧ b < w.heap.size ∧ ∀ j, j < n → w.cell? ⟨b, off + j, none⟩ = some (.int .i64 (nth xs j)))
theorem Ints.keep {w w' : World} {a : Option Addr} {n : Nat} {xs : List Int} (h : Ints w a n xs) (hs : w.heap.size ≤ w'.heap.size)
    (hk : ∀ p : Addr, p.block < w.heap.size → w'.cell? p = w.cell? p) : Ints w' a n xs :=
  ⟨h.1, fun hn => by
    obtain ⟨b, off, rfl, hb, hc⟩ := h.2 hn
    exact ⟨b, off, rfl, by omega, fun j hj => (hk _ hb).trans (hc j hj)⟩⟩
theorem Ints.below {w w' : World} {a : Option Addr} {n : Nat} {xs : List Int} (h : Ints w a n xs) (hb : Below w.heap.size w w') : Ints w' a n xs :=
  h.keep hb.size fun _ hp => hb.cell hp

/-- The call owns the slice v, which reads as the ints xs. -/
def Own (w : World) (base : Nat) (v : Value) (xs : List Int) : Prop := w.ownsRow base 3 1 v xs.length (cs xs)
theorem Own.form {w : World} {base : Nat} {v : Value} {xs : List Int} (h : Own w base v xs) (hn : 0 < xs.length) : ∃ g cap, v = .slice (some ⟨g, 0, none⟩) xs.length cap ∧ base ≤ g ∧ g < w.heap.size := by
  obtain ⟨g, cap, rfl⟩ := Joins.ownsRow_form h hn
  have := World.ownsRow.lt h g rfl
  exact ⟨g, cap, rfl, this.1, this.2⟩
theorem Own.shape {w : World} {base : Nat} {v : Value} {xs : List Int} (h : Own w base v xs) : ∃ a cap, v = .slice a xs.length cap := by
  rcases Joins.ownsRow_forms h with ⟨rfl, hn⟩ | ⟨g, cap, rfl⟩
  · exact ⟨none, 0, by rw [hn]⟩
  · exact ⟨_, _, rfl⟩
theorem Own.cell {w : World} {base g n cap : Nat} {xs : List Int} (h : Own w base (.slice (some ⟨g, 0, none⟩) n cap) xs) {i : Nat} (hi : i < xs.length) : w.cell? ⟨g, i, none⟩ = some (.int .i64 (nth xs i)) := by
  obtain ⟨_, _, he, _⟩ := h.form (by omega)
  simp only [Value.slice.injEq] at he
  obtain ⟨_, rfl, _⟩ := he
  rw [World.ownsRow.cellAt h i (by omega), cs_get? _ _ hi]
theorem Own.free {w : World} {base g n cap : Nat} {xs : List Int} (h : Own w base (.slice (some ⟨g, 0, none⟩) n cap) xs) (hn : n = xs.length) (i : Nat) : w.frozen? ⟨g, i, none⟩ = false := by
  subst hn
  exact World.ownsRow.frozenAt h i
theorem Own.set {w : World} {base g n cap : Nat} {xs : List Int} (h : Own w base (.slice (some ⟨g, 0, none⟩) n cap) xs) (hn : n = xs.length) (i : Nat) (u : Int) :
    Own (w.setCell ⟨g, i, none⟩ (.int .i64 u)) base (.slice (some ⟨g, 0, none⟩) n cap) (xs.set i u) := by
  subst hn
  have := (World.ownsRow.stored h i (.int .i64 u)).1
  rw [cs_set] at this
  unfold Own
  rwa [List.length_set]
theorem Own.ints {w : World} {base : Nat} {a : Option Addr} {n cap : Nat} {xs : List Int} (h : Own w base (.slice a n cap) xs) : Ints w a n xs := by
  obtain ⟨a', cap', he⟩ := h.shape
  simp only [Value.slice.injEq] at he
  obtain ⟨_, hn, _⟩ := he
  refine ⟨hn.symm, fun h0 => ?_⟩
  obtain ⟨g, cap'', he, _, hg⟩ := h.form (by omega)
  simp only [Value.slice.injEq] at he
  obtain ⟨rfl, _, _⟩ := he
  exact ⟨g, 0, rfl, hg, fun j hj => by rw [Nat.zero_add]; exact h.cell (by omega)⟩
theorem Own.below {w w' : World} {base : Nat} {v : Value} {xs : List Int} (h : Own w base v xs) (hb : Below w.heap.size w w') : Own w' base v xs :=
  World.ownsRow.kept (row := none) h ⟨hb.os, hb.tape, hb.output, hb.size, fun k hk _ => hb.block k hk⟩ (by cases v.ownBlock <;> simp)
theorem Own.grown {w w' : World} {base : Nat} {v : Value} {xs : List Int} {row : Option Nat} (h : Own w base v xs) (hb : w.grownBy w' row) (hr : v.ownBlock = none ∨ v.ownBlock ≠ row) : Own w' base v xs :=
  World.ownsRow.kept h hb hr
theorem Own.mono {w : World} {base base' : Nat} {v : Value} {xs : List Int} (h : Own w base v xs) (hb : base' ≤ base) : Own w base' v xs := Joins.ownsRow_le h hb
theorem Own.lt {w : World} {base g n cap : Nat} {xs : List Int} (h : Own w base (.slice (some ⟨g, 0, none⟩) n cap) xs) : base ≤ g ∧ g < w.heap.size := World.ownsRow.lt h g rfl
theorem Own.far {w : World} {base : Nat} {v : Value} {xs : List Int} (h : Own w base v xs) {a : Addr} (ha : v.ownBlock ≠ some a.block) (u : Value) : Own (w.setCell a u) base v xs := ownsRow_setCell_other h ha u
theorem Own.nil (w : World) (base : Nat) : Own w base (.slice none 0 0) [] := World.ownsRow_nil w base 3 1

/-- n zeros, as cells. -/
def zv (n : Nat) : Array Value := madeCells #[.int .i64 0] n
theorem zv_list (n : Nat) : (zv n).toList = cs (List.replicate n 0) := by simp [zv, toList_madeCells_one, cs]
theorem zv_size (n : Nat) : (zv n).size = n := size_madeCells _ _
theorem Own.zeros (w : World) (base n : Nat) (hb : base ≤ w.heap.size) (hn : n ≤ maxLen) : Own (w.alloc (.cells (zv n) 3)) base (.slice (some ⟨w.heap.size, 0, none⟩) n n) (List.replicate n 0) := by
  have := World.ownsRow_lit (size := 1) (e := 3) w (zv n) n hb hn (by rw [zv_size]; omega)
  unfold Own
  rwa [List.length_replicate, ← zv_list]
theorem zv_get (n i : Nat) (h : i < n) : (zv n)[i]? = some (.int .i64 0) := by
  have e : (zv n)[i]? = (zv n).toList[i]? := by simp
  rw [e, zv_list, cs_get? _ _ (by simpa using h), nth_replicate]
theorem info_int : (Tryz.prog.info? 3).map (fun i => (i.zero, i.size, i.bytes)) = some (some (.int .i64 0), 1, 8) := by kernel_rfl
/-- 'make([]int, n)'. -/
theorem mk_ints (n : Nat) (hn : n ≤ 4294967296) (w : World) :
    (Instr.makeSlice 24 (.int .i64 (n : Int)) (.int .i64 (n : Int))).run Tryz.prog w = .ok (.slice (some ⟨w.heap.size, 0, none⟩) n n) (w.alloc (.cells (zv n) 3)) := by
  obtain ⟨i0, hi0, hz0, hz1, hz2⟩ := info_parts info_int
  have hr := run_make (P := Tryz.prog) w 24 3 i0 (.int .i64 0) Tryz.underlying24 hi0 hz0 .i64 .i64 (n : Int) (n : Int) (by omega) (by omega) (by rw [hz2]; omega) (by omega)
  simp only [Int.toNat_natCast, hz1, Nat.mul_one, Value.cells] at hr
  exact hr
theorem mk_lit (z : Int) (n : Nat) (hz : z = (n : Int)) (hn : n ≤ 4294967296) (w : World) :
    (Instr.makeSlice 24 (.int .i64 z) (.int .i64 z)).run Tryz.prog w = .ok (.slice (some ⟨w.heap.size, 0, none⟩) n n) (w.alloc (.cells (zv n) 3)) := by
  subst hz; exact mk_ints n hn w
theorem cell_set {w : World} {p : Addr} {u v : Value} (h : w.cell? p = some v) : (w.setCell p u).cell? p = some u := World.cell?_setCell_same' w p u (by rw [h]; rfl)
/-- A pair of cells behind two stores. -/
theorem two_cells {w : World} {g : Nat} {x' y' : Value} (h0 : w.cell? ⟨g, 0, none⟩ = some x') (h1 : w.cell? ⟨g, 1, none⟩ = some y') (x y : Value) :
    ((w.setCell ⟨g, 0, none⟩ x).setCell ⟨g, 1, none⟩ y).cell? ⟨g, 0, none⟩ = some x ∧ ((w.setCell ⟨g, 0, none⟩ x).setCell ⟨g, 1, none⟩ y).cell? ⟨g, 1, none⟩ = some y := by
  constructor
  · rw [World.cell?_setCell_other _ _ _ _ (by simp)]; exact cell_set h0
  · exact cell_set (v := y') (by rw [World.cell?_setCell_other _ _ _ _ (by simp)]; exact h1)
/-- A block of two cells that may be written: a pair's place. -/
structure Pair (w : World) (g : Nat) (x y : Value) : Prop where
  c0 : w.cell? ⟨g, 0, none⟩ = some x
  c1 : w.cell? ⟨g, 1, none⟩ = some y
  f0 : w.frozen? ⟨g, 0, none⟩ = false
  f1 : w.frozen? ⟨g, 1, none⟩ = false
theorem Pair.lt {w : World} {g : Nat} {x y : Value} (h : Pair w g x y) : g < w.heap.size := World.block_lt_of_cell? w _ h.c0
theorem Pair.below {w w' : World} {g : Nat} {x y : Value} (h : Pair w g x y) (hb : Below w.heap.size w w') : Pair w' g x y :=
  ⟨(hb.cell (p := ⟨g, 0, none⟩) h.lt).trans h.c0, (hb.cell (p := ⟨g, 1, none⟩) h.lt).trans h.c1, (hb.frozen (p := ⟨g, 0, none⟩) h.lt).trans h.f0, (hb.frozen (p := ⟨g, 1, none⟩) h.lt).trans h.f1⟩
theorem Pair.new (w : World) (x y : Value) (t : TypeId) : Pair (w.alloc (.cells #[x, y] t)) w.heap.size x y :=
  ⟨by rw [World.cell?_alloc_at _ _ _ _ rfl]; rfl, by rw [World.cell?_alloc_at _ _ _ _ rfl]; rfl, World.frozen?_alloc_at _ _ _ _ rfl, World.frozen?_alloc_at _ _ _ _ rfl⟩
theorem Pair.alloc {w : World} {g : Nat} {x y : Value} (h : Pair w g x y) (o : Obj) : Pair (w.alloc o) g x y := h.below ((Below.refl _ _).alloc (Nat.le_refl _) o)
theorem Pair.drewN {w : World} {g : Nat} {x y : Value} (h : Pair w g x y) (n : Nat) : Pair (w.drewN n) g x y := ⟨h.c0, h.c1, h.f0, h.f1⟩
theorem Pair.drew {w : World} {g : Nat} {x y : Value} (h : Pair w g x y) : Pair w.drew g x y := ⟨h.c0, h.c1, h.f0, h.f1⟩
theorem Pair.set {w : World} {g : Nat} {x y : Value} (h : Pair w g x y) (x' y' : Value) :
    ((w.setCell ⟨g, 0, none⟩ x').setCell ⟨g, 1, none⟩ y').cell? ⟨g, 0, none⟩ = some x' ∧ ((w.setCell ⟨g, 0, none⟩ x').setCell ⟨g, 1, none⟩ y').cell? ⟨g, 1, none⟩ = some y' := two_cells h.c0 h.c1 x' y'
/-- 'append(xs, u)' onto a slice of ints that the call owns; u lies in a new block g. -/
theorem wp_app1 {ops : Array Oper} {rest : List Oper} {o : Oper} {a : Act} {Q : Exit → Act → World → Prop} {w : World} (s x : Operand)
    (hgd : o.guard = none) (ho : o.op = .call { callee := .builtin .append, args := #[s, x], argTypes := #[24, 24] })
    (base : Nat) (v : Value) (xs : List Int) (u : Int) (hs : a.eval s = v) (hown : Own w base v xs) (g : Nat) (hx : a.eval x = .slice (some ⟨g, 0, none⟩) 1 1) (hc : w.cell? ⟨g, 0, none⟩ = some (.int .i64 u))
    (hl : xs.length ≤ 17592186040320) (hb : base ≤ w.heap.size)
    (h : ∀ v' w', Own w' base v' (xs ++ [u]) → w.grownBy w' v.ownBlock → wpList Tryz.prog ops Q rest (a.put o.dst v') w') : wpList Tryz.prog ops Q (o :: rest) a w := by
  obtain ⟨i0, hi0, hz0, hz1, hz2⟩ := info_parts info_int
  refine wpList_append_own w hgd s x 24 ho base 3 i0 (.int .i64 0) 1 8 Tryz.underlying24 hi0 hz0 hz1 hz2 rfl (by decide) v xs.length (cs xs) hs hown ⟨g, 0, none⟩ 1 1 [.int .i64 u] hx rfl ?_ ?_ ?_ ?_ hb ?_
  · intro j y hy
    cases j with
    | zero => simp at hy; subst hy; simpa [Addr.add] using hc
    | succ j => simp at hy
  · intro y hy; simp at hy; subst hy; rfl
  · simp only [maxLen]; omega
  · omega
  · intro v' w' h1 h2 _
    refine h v' w' ?_ h2
    unfold Own
    rw [← cs_append, List.length_append]
    exact h1
theorem own_empty (w : World) (base : Nat) (hb : base ≤ w.heap.size) (c : Array Value) (hc : c = #[]) : Own (w.alloc (.cells c 3)) base (.slice (some ⟨w.heap.size, 0, none⟩) 0 0) [] := by
  subst hc
  exact World.ownsRow_lit (size := 1) (e := 3) w #[] 0 hb (by simp [maxLen]) (by simp)
end Go.Proofs.YtnbomleieianoaaGreat

/- Contracts of functions of numbers alone, each called for many others: bounds, greatest, least. Each returns the plain Lean value and leaves the world as it is, for all arguments. -/
namespace Go.Proofs.YtnbomleieianoaaGreat
open Go.RowKit

/-- Is n between lo and hi? -/
def inB (n lo hi : Int) : Bool := decide (lo ≤ n) && decide (n ≤ hi)
theorem inB_t {n lo hi : Int} (h : inB n lo hi = true) : lo ≤ n ∧ n ≤ hi := by simpa [inB] using h
theorem inB_f {n lo hi : Int} (h : inB n lo hi = false) : n < lo ∨ hi < n := by
  unfold inB at h
  rw [Bool.and_eq_false_iff] at h
  rcases h with h | h
  · exact .inl (by simpa using h)
  · exact .inr (by simpa using h)
theorem inB_mk {n lo hi : Int} (h1 : lo ≤ n) (h2 : n ≤ hi) : inB n lo hi = true := by simp [inB, h1, h2]
theorem inB_no {n lo hi : Int} (h : n < lo ∨ hi < n) : inB n lo hi = false := by
  cases hb : inB n lo hi
  · rfl
  · have := inB_t hb; omega

theorem impl_within (n lo hi : Int) (w : World) :
    Calls Tryz.prog 120 #[.int .i64 n, .int .i64 lo, .int .i64 hi] w fun e w' => e = .returned (.bool (inB n lo hi)) ∧ w = w' := by
  by_cases h1 : lo ≤ n <;> by_cases h2 : n ≤ hi
  all_goals
    go_enter Tryz.func120, Tryz.ntmps120
    go_wp2
    go_ret
    exact ⟨by simp [inB, h1, h2], rfl⟩
theorem spec_l1In (n lo hi : Int) (w : World) :
    Calls Tryz.prog 110 #[.int .i64 n, .int .i64 lo, .int .i64 hi] w fun e w' => e = .returned (.bool (inB n lo hi)) ∧ w = w' := by
  by_cases h1 : lo ≤ n <;> by_cases h2 : n ≤ hi
  all_goals
    go_enter Tryz.func110, Tryz.ntmps110
    go_wp2
    go_ret
    exact ⟨by simp [inB, h1, h2], rfl⟩
def most (a b : Int) : Int := if b < a then a else b
def least (a b : Int) : Int := if a < b then a else b
theorem most_l {a b : Int} (h : b < a) : most a b = a := if_pos h
theorem most_r {a b : Int} (h : ¬ b < a) : most a b = b := if_neg h
theorem least_l {a b : Int} (h : a < b) : least a b = a := if_pos h
theorem least_r {a b : Int} (h : ¬ a < b) : least a b = b := if_neg h
theorem most_eq (a b : Int) : most a b = max a b := by unfold most; omega
theorem least_eq (a b : Int) : least a b = min a b := by unfold least; omega
theorem spec_l1Most (a b : Int) (w : World) :
    Calls Tryz.prog 119 #[.int .i64 a, .int .i64 b] w fun e w' => e = .returned (.int .i64 (most a b)) ∧ w = w' := by
  by_cases h : b < a
  all_goals
    go_enter Tryz.func119, Tryz.ntmps119
    go_wp2
    go_ret
    exact ⟨ri (by unfold most; omega), rfl⟩
theorem spec_l1Least (a b : Int) (w : World) :
    Calls Tryz.prog 117 #[.int .i64 a, .int .i64 b] w fun e w' => e = .returned (.int .i64 (least a b)) ∧ w = w' := by
  by_cases h : a < b
  all_goals
    go_enter Tryz.func117, Tryz.ntmps117
    go_wp2
    go_ret
    exact ⟨ri (by unfold least; omega), rfl⟩
end Go.Proofs.YtnbomleieianoaaGreat

/- Plain lists: what holds of all numbers below a bound, as a Bool. Nothing of the program. -/
namespace Go.Proofs.YtnbomleieianoaaGreat

theorem all_t {n : Nat} {f : Nat → Bool} (h : ∀ i, i < n → f i = true) : (List.range n).all f = true := by
  rw [List.all_eq_true]; intro i hi; exact h i (List.mem_range.1 hi)
theorem all_f {n i : Nat} {f : Nat → Bool} (hi : i < n) (h : f i = false) : (List.range n).all f = false := by
  cases hb : (List.range n).all f
  · rfl
  · rw [List.all_eq_true] at hb
    have := hb i (List.mem_range.2 hi)
    rw [h] at this; cases this
theorem all_get {n i : Nat} {f : Nat → Bool} (h : (List.range n).all f = true) (hi : i < n) : f i = true := by
  rw [List.all_eq_true] at h; exact h i (List.mem_range.2 hi)
def allIn (xs : List Int) (lo hi : Int) : Bool := (List.range xs.length).all fun i => inB (nth xs i) lo hi
end Go.Proofs.YtnbomleieianoaaGreat

/- Plain lists: nodes of trees that are told by their parents; children, ends, sums gathered from below. Nothing of the program. -/
namespace Go.Proofs.YtnbomleieianoaaGreat

/-- The numbers below k that are so, ascending. -/
def filt (p : Nat → Bool) (k : Nat) : List Int := ((List.range k).filter p).map fun (i : Nat) => (i : Int)
theorem filt_zero (p : Nat → Bool) : filt p 0 = [] := rfl
theorem filt_t {p : Nat → Bool} {k : Nat} (h : p k = true) : filt p (k + 1) = filt p k ++ [(k : Int)] := by simp [filt, List.range_succ, List.filter_append, h]
theorem filt_f {p : Nat → Bool} {k : Nat} (h : p k = false) : filt p (k + 1) = filt p k := by simp [filt, List.range_succ, List.filter_append, h]
theorem filt_length (p : Nat → Bool) (k : Nat) : (filt p k).length ≤ k := by
  have := List.length_filter_le p (List.range k)
  simpa [filt] using this
theorem filt_none {p : Nat → Bool} : ∀ {k : Nat}, (∀ i, i < k → p i = false) → filt p k = []
  | 0, _ => rfl
  | k + 1, h => by rw [filt_f (h k (by omega)), filt_none fun i hi => h i (by omega)]
theorem filt_congr {p q : Nat → Bool} : ∀ {k : Nat}, (∀ i, i < k → p i = q i) → filt p k = filt q k
  | 0, _ => rfl
  | k + 1, h => by
    have ih := filt_congr (k := k) fun i hi => h i (by omega)
    cases hp : p k
    · rw [filt_f hp, filt_f ((h k (by omega)).symm.trans hp), ih]
    · rw [filt_t hp, filt_t ((h k (by omega)).symm.trans hp), ih]
theorem mem_filt {p : Nat → Bool} {k : Nat} {x : Int} : x ∈ filt p k ↔ ∃ i : Nat, i < k ∧ p i = true ∧ x = i := by
  simp only [filt, List.mem_map, List.mem_filter, List.mem_range]
  constructor
  · rintro ⟨i, ⟨h1, h2⟩, rfl⟩; exact ⟨i, h1, h2, rfl⟩
  · rintro ⟨i, h1, h2, rfl⟩; exact ⟨i, ⟨h1, h2⟩, rfl⟩
theorem nth_mem {xs : List Int} {i : Nat} (h : i < xs.length) : nth xs i ∈ xs := by rw [nth_lt h]; exact List.getElem_mem h
theorem nth_filt {p : Nat → Bool} {k i : Nat} (h : i < (filt p k).length) : ∃ j : Nat, j < k ∧ p j = true ∧ nth (filt p k) i = j := mem_filt.1 (nth_mem h)
theorem nth_append_l {xs ys : List Int} {i : Nat} (h : i < xs.length) : nth (xs ++ ys) i = nth xs i := by unfold nth; simp [List.getD, List.getElem?_append, h]
theorem nth_append_r {xs : List Int} {y : Int} : nth (xs ++ [y]) xs.length = y := by unfold nth; simp [List.getD]

/-- The parent of a node. -/
def par (ps : List Int) (x : Nat) : Nat := (nth ps x).toNat
def parB (ps : List Int) : Bool := (nth ps 0 == -1) && (List.range ps.length).all fun x => x == 0 || inB (nth ps x) 0 ((x : Int) - 1)
/-- Has the node x no children? -/
def endB (ps : List Int) (x : Nat) : Bool := (List.range ps.length).all fun y => !(nth ps y == (x : Int))
def wOk (ps ws : List Int) (x : Nat) : Bool := if endB ps x then inB (nth ws x) 1 20 else nth ws x == 0
/-- Are these the parents and weights of a tree? -/
def treeB (ps ws : List Int) : Bool := (inB (ps.length : Int) 1 24 && (ws.length == ps.length)) && (parB ps && (List.range ps.length).all (wOk ps ws))
/-- Parents of nodes. -/
structure Pa (ps : List Int) : Prop where
  n1 : 1 ≤ ps.length
  n24 : ps.length ≤ 24
  p0 : nth ps 0 = -1
  up : ∀ x : Nat, 1 ≤ x → x < ps.length → 0 ≤ nth ps x ∧ nth ps x < (x : Int)
/-- A tree. -/
structure Tr (ps ws : List Int) : Prop extends Pa ps where
  wl : ws.length = ps.length
  leaf : ∀ x : Nat, x < ps.length → endB ps x = true → 1 ≤ nth ws x ∧ nth ws x ≤ 20
  inner : ∀ x : Nat, x < ps.length → endB ps x = false → nth ws x = 0
theorem parB_t {ps : List Int} (hl : inB (ps.length : Int) 1 24 = true) (h : parB ps = true) : Pa ps := by
  have hb := inB_t hl
  simp only [parB, Bool.and_eq_true, beq_iff_eq] at h
  refine ⟨by omega, by omega, h.1, fun x h1 h2 => ?_⟩
  have := all_get h.2 h2
  rw [Bool.or_eq_true, beq_iff_eq] at this
  rcases this with h0 | h0
  · omega
  · have := inB_t h0; omega
theorem treeB_t {ps ws : List Int} (h : treeB ps ws = true) : Tr ps ws := by
  simp only [treeB, Bool.and_eq_true, beq_iff_eq] at h
  refine ⟨parB_t h.1.1 h.2.1, h.1.2, fun x hx he => ?_, fun x hx he => ?_⟩
  · have := all_get h.2.2 hx
    rw [wOk, if_pos he] at this
    exact inB_t this
  · have := all_get h.2.2 hx
    rw [wOk, he] at this
    simpa using this
theorem tree_len1 {ps ws : List Int} (h : inB (ps.length : Int) 1 24 = false) : treeB ps ws = false := by simp [treeB, h]
theorem tree_len2 {ps ws : List Int} (h : ¬ ws.length = ps.length) : treeB ps ws = false := by simp [treeB, h]
theorem tree_par {ps ws : List Int} (h : parB ps = false) : treeB ps ws = false := by simp [treeB, h]
theorem tree_wt {ps ws : List Int} {x : Nat} (hx : x < ps.length) (h : wOk ps ws x = false) : treeB ps ws = false := by
  have := all_f hx h
  simp [treeB, this]
theorem tree_yes {ps ws : List Int} (h1 : inB (ps.length : Int) 1 24 = true) (h2 : ws.length = ps.length) (h3 : parB ps = true) (h4 : ∀ x, x < ps.length → wOk ps ws x = true) : treeB ps ws = true := by
  simp [treeB, h1, h2, h3]
  intro x hx; exact h4 x hx
theorem par_p0 {ps : List Int} (h : ¬ nth ps 0 = -1) : parB ps = false := by simp [parB, h]
theorem par_f {ps : List Int} {x : Nat} (h0 : 1 ≤ x) (hx : x < ps.length) (h : inB (nth ps x) 0 ((x : Int) - 1) = false) : parB ps = false := by
  have : ((List.range ps.length).all fun x => x == 0 || inB (nth ps x) 0 ((x : Int) - 1)) = false := all_f hx (by simp [h]; omega)
  rw [parB, this, Bool.and_false]
theorem par_t {ps : List Int} (h0 : nth ps 0 = -1) (h : ∀ x : Nat, 1 ≤ x → x < ps.length → inB (nth ps x) 0 ((x : Int) - 1) = true) : parB ps = true := by
  have : ((List.range ps.length).all fun x => x == 0 || inB (nth ps x) 0 ((x : Int) - 1)) = true := all_t fun x hx => by
    by_cases e : x = 0
    · simp [e]
    · rw [h x (by omega) hx, Bool.or_true]
  rw [parB, this, h0]; rfl
theorem Pa.upN {ps : List Int} (h : Pa ps) {x : Nat} (h1 : 1 ≤ x) (h2 : x < ps.length) : nth ps x = (par ps x : Int) ∧ par ps x < x := by
  have := h.up x h1 h2
  unfold par
  omega
theorem Pa.root {ps : List Int} (h : Pa ps) (x : Nat) : (nth ps 0 == (x : Int)) = false := by rw [h.p0]; simp
/-- The children of a node. -/
def kids (ps : List Int) (x : Nat) : List Int := filt (fun y => nth ps y == (x : Int)) ps.length
theorem endB_f {ps : List Int} {x y : Nat} (hy : y < ps.length) (h : nth ps y = x) : endB ps x = false := all_f hy (by simp [h])
theorem endB_t {ps : List Int} {x : Nat} (h : ∀ y, y < ps.length → ¬ nth ps y = x) : endB ps x = true := all_t fun y hy => by simp [h y hy]
theorem endB_kids (ps : List Int) (x : Nat) : endB ps x = (kids ps x).isEmpty := by
  cases h : endB ps x
  · symm
    cases hk : kids ps x with
    | cons a l => rfl
    | nil =>
      exfalso
      have : endB ps x = true := endB_t fun y hy e => by
        have hm : (y : Int) ∈ kids ps x := mem_filt.2 ⟨y, hy, by simp [e], rfl⟩
        rw [hk] at hm; cases hm
      rw [h] at this; cases this
  · symm
    rw [List.isEmpty_iff]
    exact filt_none fun y hy => by
      have := all_get h hy
      simpa using this
theorem kids_lt {ps : List Int} (h : Pa ps) {x y : Nat} (hy : y < ps.length) (e : nth ps y = x) : x < y := by
  have h0 := h.p0
  by_cases hy0 : y = 0
  · subst hy0; omega
  · have := h.up y (by omega) hy; omega
theorem kids_low {ps : List Int} (h : Pa ps) {x k : Nat} (hk : k ≤ x + 1) (hn : k ≤ ps.length) : filt (fun y => nth ps y == (x : Int)) k = [] := filt_none fun y hy => by
  by_cases e : nth ps y = x
  · have := kids_lt h (by omega) e; omega
  · simpa using e
/-- The ends. -/
def ends (ps : List Int) : List Int := filt (endB ps) ps.length
theorem last_end {ps : List Int} (h : Pa ps) : endB ps (ps.length - 1) = true := endB_t fun y hy e => by
  have := kids_lt h hy e; omega
theorem ends_pos {ps : List Int} (h : Pa ps) : 1 ≤ (ends ps).length := by
  have : ((ps.length - 1 : Nat) : Int) ∈ ends ps := mem_filt.2 ⟨_, by have := h.n1; omega, last_end h, rfl⟩
  exact List.length_pos_of_mem this
/-- The sum of f over the children of x among the first k nodes. -/
def kidSum (ps : List Int) (f : Nat → Int) (x : Nat) : Nat → Int
  | 0 => 0
  | k + 1 => kidSum ps f x k + if nth ps k == (x : Int) then f k else 0
theorem kidSum_t {ps : List Int} {f : Nat → Int} {x k : Nat} (h : nth ps k = x) : kidSum ps f x (k + 1) = kidSum ps f x k + f k := by simp [kidSum, h]
theorem kidSum_f {ps : List Int} {f : Nat → Int} {x k : Nat} (h : ¬ nth ps k = x) : kidSum ps f x (k + 1) = kidSum ps f x k := by simp [kidSum, h]
theorem kidSum_congr {ps : List Int} {f g : Nat → Int} {x : Nat} : ∀ {k : Nat}, (∀ y, y < k → nth ps y = x → f y = g y) → kidSum ps f x k = kidSum ps g x k
  | 0, _ => rfl
  | k + 1, h => by
    have ih := kidSum_congr (k := k) fun y hy => h y (by omega)
    by_cases e : nth ps k = x
    · rw [kidSum_t e, kidSum_t e, ih, h k (by omega) e]
    · rw [kidSum_f e, kidSum_f e, ih]
theorem kidSum_low {ps : List Int} (h : Pa ps) {f : Nat → Int} {x : Nat} : ∀ {k : Nat}, k ≤ x + 1 → k ≤ ps.length → kidSum ps f x k = 0
  | 0, _, _ => rfl
  | k + 1, h1, h2 => by
    rw [kidSum_f, kidSum_low h (k := k) (by omega) (by omega)]
    intro e
    have := kids_lt h (by omega) e; omega
theorem kidSum_end {ps : List Int} {f : Nat → Int} {x : Nat} (h : endB ps x = true) : ∀ {k : Nat}, k ≤ ps.length → kidSum ps f x k = 0
  | 0, _ => rfl
  | k + 1, hk => by
    rw [kidSum_f, kidSum_end h (k := k) (by omega)]
    have := all_get h (i := k) (by omega)
    simpa using this
def sumOf (f : Int → Int) : List Int → Int
  | [] => 0
  | x :: xs => f x + sumOf f xs
theorem sumOf_append (f : Int → Int) (xs ys : List Int) : sumOf f (xs ++ ys) = sumOf f xs + sumOf f ys := by
  induction xs with
  | nil => simp [sumOf]
  | cons x xs ih => simp only [List.cons_append, sumOf, ih]; omega
theorem sumOf_take_succ (f : Int → Int) (xs : List Int) (i : Nat) (h : i < xs.length) : sumOf f (xs.take (i + 1)) = sumOf f (xs.take i) + f (nth xs i) := by
  rw [take_succ_nth h, sumOf_append]; simp [sumOf]
theorem sumOf_congr {f g : Int → Int} : ∀ {xs : List Int}, (∀ x, x ∈ xs → f x = g x) → sumOf f xs = sumOf g xs
  | [], _ => rfl
  | x :: xs, h => by rw [sumOf, sumOf, h x (by simp), sumOf_congr fun y hy => h y (by simp [hy])]
theorem sumOf_kids (ps : List Int) (f : Int → Int) (x : Nat) : ∀ k : Nat, sumOf f (filt (fun y => nth ps y == (x : Int)) k) = kidSum ps (fun y => f y) x k
  | 0 => rfl
  | k + 1 => by
    by_cases e : nth ps k = x
    · rw [filt_t (by simpa using e), sumOf_append, sumOf_kids ps f x k, kidSum_t e]; simp [sumOf]
    · rw [filt_f (by simpa using e), sumOf_kids ps f x k, kidSum_f e]
theorem kids_sum (ps : List Int) (f : Int → Int) (x : Nat) : sumOf f (kids ps x) = kidSum ps (fun y => f y) x ps.length := sumOf_kids ps f x _

/-- Numbers gathered from the node k down to the node 1, each added to its parent's. -/
def gath (ps : List Int) : Nat → List Int → List Int
  | 0, l => l
  | k + 1, l => gath ps k (l.set (par ps (k + 1)) (nth l (par ps (k + 1)) + nth l (k + 1)))
theorem gath_length (ps : List Int) : ∀ (k : Nat) (l : List Int), (gath ps k l).length = l.length
  | 0, _ => rfl
  | k + 1, l => by rw [gath, gath_length ps k]; simp
theorem gath_kids {ps : List Int} (h : Pa ps) : ∀ (k : Nat) (l : List Int), k < ps.length → l.length = ps.length → ∀ x, nth (gath ps k l) x = nth l x + kidSum ps (fun y => nth (gath ps k l) y) x (k + 1)
  | 0, l, hk, hl, x => by
    rw [kidSum_f (by have := h.root x; simpa using this)]; simp [kidSum, gath]
  | k + 1, l, hk, hl, x => by
    have hp := h.upN (x := k + 1) (by omega) hk
    have hlt : par ps (k + 1) < l.length := by omega
    have ih := gath_kids h k (l.set (par ps (k + 1)) (nth l (par ps (k + 1)) + nth l (k + 1))) (by omega) (by simpa using hl)
    rw [gath]
    generalize hl' : l.set (par ps (k + 1)) (nth l (par ps (k + 1)) + nth l (k + 1)) = l' at ih ⊢
    have hn : ∀ x, nth l' x = if par ps (k + 1) = x then nth l (par ps (k + 1)) + nth l (k + 1) else nth l x := fun x => by rw [← hl', nth_set hlt]
    have h1 : nth (gath ps k l') (k + 1) = nth l (k + 1) := by
      rw [ih, kidSum_low h (by omega) (by omega), hn, if_neg (by omega)]; omega
    have h2 : (kidSum ps (fun y => nth (gath ps k l') y) x (k + 1 + 1)) = kidSum ps (fun y => nth (gath ps k l') y) x (k + 1) + if par ps (k + 1) = x then nth l (k + 1) else 0 := by
      by_cases e : par ps (k + 1) = x
      · rw [kidSum_t (by omega), if_pos e, h1]
      · rw [kidSum_f (by omega), if_neg e]; omega
    rw [h2, ih, hn]
    by_cases e : par ps (k + 1) = x
    · rw [if_pos e, if_pos e, e]; omega
    · rw [if_neg e, if_neg e]; omega
/-- What comes together at the root is the sum of all. -/
theorem gath_root {ps : List Int} (h : Pa ps) : ∀ (k : Nat) (l : List Int), k < ps.length → l.length = ps.length → nth (gath ps k l) 0 = sumOf id (l.take (k + 1))
  | 0, l, hk, hl => by
    rw [sumOf_take_succ _ _ _ (by omega)]; simp [gath, sumOf]
  | k + 1, l, hk, hl => by
    have hp := h.upN (x := k + 1) (by omega) hk
    have hlt : par ps (k + 1) < l.length := by omega
    rw [gath, gath_root h k _ (by omega) (by simpa using hl), sumOf_take_succ id l (k + 1) (by omega)]
    have key : ∀ (m : Nat) (l : List Int) (i : Nat) (v : Int), i < m → m ≤ l.length → sumOf id ((l.set i v).take m) = sumOf id (l.take m) - nth l i + v := by
      intro m
      induction m with
      | zero => intro l i v hi; omega
      | succ m ih =>
        intro l i v hi hm
        rw [sumOf_take_succ _ _ _ (by simp; omega), sumOf_take_succ _ _ _ (by omega), nth_set (by omega)]
        by_cases e : i = m
        · subst e
          have : (l.set i v).take i = l.take i := by rw [List.take_set]; exact List.set_eq_of_length_le (by simp; omega)
          rw [if_pos rfl, this]; simp
        · rw [if_neg e, ih l i v (by omega) (by omega)]; omega
    rw [key _ _ _ _ (by omega) (by omega)]
    simp; omega
/-- The list of the sums of all nodes. -/
def gathA (ps l : List Int) : List Int := gath ps (ps.length - 1) l
theorem gathA_length (ps l : List Int) : (gathA ps l).length = l.length := gath_length _ _ _
theorem gathA_kids {ps l : List Int} (h : Pa ps) (hl : l.length = ps.length) (x : Nat) : nth (gathA ps l) x = nth l x + kidSum ps (fun y => nth (gathA ps l) y) x ps.length := by
  have := gath_kids h (ps.length - 1) l (by have := h.n1; omega) hl x
  rwa [show ps.length - 1 + 1 = ps.length by have := h.n1; omega] at this
theorem gathA_root {ps l : List Int} (h : Pa ps) (hl : l.length = ps.length) : nth (gathA ps l) 0 = sumOf id l := by
  have h1 := h.n1
  rw [gathA, gath_root h _ _ (by omega) hl, show ps.length - 1 + 1 = l.length by omega, List.take_length]
/-- What a round of gathering does to a bound. -/
theorem gath_bd {l : List Int} {B : Int} {p k : Nat} (h : ∀ i, -B ≤ nth l i ∧ nth l i ≤ B) (hp : p < l.length) : ∀ i, -(2 * B) ≤ nth (l.set p (nth l p + nth l k)) i ∧ nth (l.set p (nth l p + nth l k)) i ≤ 2 * B := fun i => by
  have h1 := h p; have h2 := h k; have h3 := h i
  rw [nth_set hp]
  split <;> omega
theorem kidSum_le {ps : List Int} {f g : Nat → Int} {x : Nat} : ∀ {k : Nat}, (∀ y, y < k → nth ps y = x → f y ≤ g y) → kidSum ps f x k ≤ kidSum ps g x k
  | 0, _ => Int.le_refl _
  | k + 1, h => by
    have ih := kidSum_le (k := k) fun y hy => h y (by omega)
    by_cases e : nth ps k = x
    · have := h k (by omega) e; rw [kidSum_t e, kidSum_t e]; omega
    · rw [kidSum_f e, kidSum_f e]; omega
theorem kidSum_mul (ps : List Int) (f : Nat → Int) (c : Int) (x : Nat) : ∀ k : Nat, kidSum ps (fun y => c * f y) x k = c * kidSum ps f x k
  | 0 => by simp [kidSum]
  | k + 1 => by
    by_cases e : nth ps k = x
    · rw [kidSum_t e, kidSum_t e, kidSum_mul ps f c x k, Int.mul_add]
    · rw [kidSum_f e, kidSum_f e, kidSum_mul ps f c x k]
theorem kidSum_add (ps : List Int) (f g : Nat → Int) (x : Nat) : ∀ k : Nat, kidSum ps (fun y => f y + g y) x k = kidSum ps f x k + kidSum ps g x k
  | 0 => by simp [kidSum]
  | k + 1 => by
    by_cases e : nth ps k = x
    · rw [kidSum_t e, kidSum_t e, kidSum_t e, kidSum_add ps f g x k]; omega
    · rw [kidSum_f e, kidSum_f e, kidSum_f e, kidSum_add ps f g x k]
theorem kidSum_one {ps : List Int} {f : Nat → Int} {x y : Nat} (hf : ∀ z, 0 ≤ f z) (e : nth ps y = x) : ∀ {k : Nat}, y < k → f y ≤ kidSum ps f x k ∧ 0 ≤ kidSum ps f x k
  | 0, h => by omega
  | k + 1, h => by
    have hk := hf k
    by_cases hy : y = k
    · subst hy
      rw [kidSum_t e]
      have : 0 ≤ kidSum ps f x y := by
        have := kidSum_le (ps := ps) (f := fun _ => 0) (g := f) (x := x) (k := y) fun z _ _ => hf z
        have h0 := kidSum_mul ps (fun _ => 0) 0 x y
        simp only [Int.zero_mul] at h0
        omega
      omega
    · have ih := kidSum_one hf e (k := k) (by omega)
      by_cases e2 : nth ps k = x
      · rw [kidSum_t e2]; omega
      · rw [kidSum_f e2]; omega
/-- From below: what holds of a node if it holds of its children, holds of all nodes. -/
theorem Pa.below {ps : List Int} (h : Pa ps) {P : Nat → Prop} (hs : ∀ x, x < ps.length → (∀ y, y < ps.length → nth ps y = x → P y) → P x) : ∀ x, x < ps.length → P x := by
  have : ∀ (m x : Nat), ps.length - x ≤ m → x < ps.length → P x := by
    intro m
    induction m with
    | zero => intro x h1 h2; omega
    | succ m ih =>
      intro x h1 h2
      exact hs x h2 fun y hy e => by
        have := kids_lt h hy e
        exact ih y (by omega) hy
  exact fun x => this _ x (Nat.le_refl _)
/-- From above: what holds of the root, and of a node if it holds of its parent, holds of all nodes. -/
theorem Pa.above {ps : List Int} (h : Pa ps) {P : Nat → Prop} (h0 : P 0) (hs : ∀ x, 1 ≤ x → x < ps.length → P (par ps x) → P x) : ∀ x, x < ps.length → P x := by
  have : ∀ (m x : Nat), x ≤ m → x < ps.length → P x := by
    intro m
    induction m with
    | zero => intro x h1 h2; obtain rfl : x = 0 := by omega
              exact h0
    | succ m ih =>
      intro x h1 h2
      by_cases hx : x = 0
      · subst hx; exact h0
      · have := h.upN (x := x) (by omega) h2
        exact hs x (by omega) h2 (ih _ (by omega) (by omega))
  exact fun x => this x x (Nat.le_refl _)
/-- The sums of the nodes of a tree. -/
def sums (ps ws : List Int) : List Int := gathA ps ws
theorem sums_length {ps ws : List Int} (h : Tr ps ws) : (sums ps ws).length = ps.length := by rw [sums, gathA_length, h.wl]
theorem Tr.w0 {ps ws : List Int} (h : Tr ps ws) (x : Nat) : 0 ≤ nth ws x ∧ nth ws x ≤ 20 := by
  by_cases hx : x < ps.length
  · cases he : endB ps x
    · have := h.inner x hx he; omega
    · have := h.leaf x hx he; omega
  · rw [nth_ge (by have := h.wl; omega)]; omega
theorem sums_kids {ps ws : List Int} (h : Tr ps ws) (x : Nat) : nth (sums ps ws) x = nth ws x + kidSum ps (fun y => nth (sums ps ws) y) x ps.length := gathA_kids h.toPa h.wl x
theorem sumOf_id_bd {B : Int} (hB : 0 ≤ B) : ∀ {xs : List Int}, (∀ i, 0 ≤ nth xs i ∧ nth xs i ≤ B) → 0 ≤ sumOf id xs ∧ sumOf id xs ≤ B * xs.length
  | [], _ => by simp [sumOf]
  | x :: xs, h => by
    have h0 := h 0
    have ih := sumOf_id_bd hB (xs := xs) fun i => by have := h (i + 1); simpa [nth, List.getD] using this
    have : nth (x :: xs) 0 = x := rfl
    rw [this] at h0
    simp only [sumOf, List.length_cons, id]
    rw [show B * ((xs.length + 1 : Nat) : Int) = B * xs.length + B by rw [Int.natCast_add, Int.mul_add]; simp]
    omega
theorem sums_root {ps ws : List Int} (h : Tr ps ws) : nth (sums ps ws) 0 ≤ 480 := by
  have h1 := sumOf_id_bd (B := 20) (by omega) (xs := ws) h.w0
  have h2 := gathA_root h.toPa h.wl
  have h3 := h.n24
  have h4 := h.wl
  unfold sums; rw [h2]; omega
theorem sums_pos {ps ws : List Int} (h : Tr ps ws) : ∀ x, x < ps.length → 1 ≤ nth (sums ps ws) x := by
  refine h.toPa.below fun x hx ih => ?_
  rw [sums_kids h]
  cases he : endB ps x
  · have : (kids ps x) ≠ [] := by
      intro hk
      have := endB_kids ps x
      rw [he, hk] at this; cases this
    obtain ⟨y, hy⟩ := List.exists_mem_of_ne_nil _ this
    obtain ⟨i, hi, hp, rfl⟩ := mem_filt.1 hy
    have hp : nth ps i = x := by simpa using hp
    have h2 := kidSum_one (ps := ps) (f := fun y => if y < ps.length then (if nth ps y = x then nth (sums ps ws) y else 0) else 0) (x := x) (y := i) (fun z => by
      split
      · split
        · rename_i h1 h2; have := ih z h1 h2; omega
        · omega
      · omega) hp hi
    have h3 := kidSum_congr (ps := ps) (f := fun y => if y < ps.length then (if nth ps y = x then nth (sums ps ws) y else 0) else 0) (g := fun y => nth (sums ps ws) y) (x := x) (k := ps.length) (fun y hy e => by simp [hy, e])
    rw [h3] at h2
    have h4 := ih i hi hp
    simp only [hi, hp, if_true] at h2
    have := h.w0 x
    omega
  · have := h.leaf x hx he
    rw [kidSum_end he (Nat.le_refl _)]; omega
theorem sums_nn {ps ws : List Int} (h : Tr ps ws) (x : Nat) : 0 ≤ nth (sums ps ws) x := by
  by_cases hx : x < ps.length
  · have := sums_pos h x hx; omega
  · rw [nth_ge (by rw [sums_length h]; omega)]; omega
theorem sums_up {ps ws : List Int} (h : Tr ps ws) {y : Nat} (h1 : 1 ≤ y) (h2 : y < ps.length) : nth (sums ps ws) y ≤ nth (sums ps ws) (par ps y) := by
  have hp := (h.toPa.upN h1 h2).1
  rw [sums_kids h (par ps y)]
  have h3 := (kidSum_one (ps := ps) (f := fun y => nth (sums ps ws) y) (sums_nn h) hp h2).1
  have := h.w0 (par ps y)
  omega
theorem sums_bd {ps ws : List Int} (h : Tr ps ws) (x : Nat) : 0 ≤ nth (sums ps ws) x ∧ nth (sums ps ws) x ≤ 480 := by
  refine ⟨sums_nn h x, ?_⟩
  by_cases hx : x < ps.length
  · exact h.toPa.above (P := fun x => nth (sums ps ws) x ≤ 480) (sums_root h) (fun y h1 h2 hy => by have := sums_up h h1 h2; omega) x hx
  · rw [nth_ge (by rw [sums_length h]; omega)]; omega
end Go.Proofs.YtnbomleieianoaaGreat

/- Plain lists: numbers of children added to their parents'. Nothing of the program. -/
namespace Go.Proofs.YtnbomleieianoaaGreat

theorem Pa.upN2 {ps : List Int} (h : Pa ps) {x : Nat} (h1 : 1 ≤ x) (h2 : x < ps.length) : nth ps x = (par ps x : Int) ∧ par ps x < x := h.upN h1 h2
theorem mul_abs {x B u U : Int} (h : -B ≤ x ∧ x ≤ B) (hu : 0 ≤ u ∧ u ≤ U) (hB : 0 ≤ B) : -(B * U) ≤ x * u ∧ x * u ≤ B * U := by
  have h1 := Int.mul_le_mul_of_nonneg_right h.2 hu.1
  have h2 := Int.mul_le_mul_of_nonneg_left hu.2 hB
  have h3 := Int.mul_le_mul_of_nonneg_right h.1 hu.1
  rw [Int.neg_mul] at h3
  omega

theorem kidSum_abs {ps : List Int} {f : Nat → Int} {B : Int} (hB : 0 ≤ B) (hf : ∀ y, -B ≤ f y ∧ f y ≤ B) (x : Nat) : ∀ k : Nat, -(B * k) ≤ kidSum ps f x k ∧ kidSum ps f x k ≤ B * k
  | 0 => by simp [kidSum]
  | k + 1 => by
    have ih := kidSum_abs (ps := ps) hB hf x k
    have hm : B * ((k + 1 : Nat) : Int) = B * k + B := by rw [Int.natCast_add, Int.mul_add]; simp
    have := hf k
    rw [hm]
    by_cases e : nth ps k = x
    · rw [kidSum_t e]; omega
    · rw [kidSum_f e]; omega
/-- What lies at each node when the numbers of the nodes above k have been added to their parents'. -/
def onS (ps caps : List Int) (k : Nat) : List Int := (List.range ps.length).map fun x => kidSum ps (fun y => nth caps y) x ps.length - kidSum ps (fun y => nth caps y) x (k + 1)
theorem onS_length (ps caps : List Int) (k : Nat) : (onS ps caps k).length = ps.length := by simp [onS]
theorem onS_start (ps caps : List Int) : onS ps caps (ps.length - 1) = List.replicate ps.length 0 := ext_nth (by simp [onS]) fun x hx => by
  rw [onS_length] at hx
  rw [onS, nth_map_range hx, nth_replicate, show ps.length - 1 + 1 = ps.length by omega]; omega
theorem onS_step {ps caps : List Int} (h : Pa ps) {k : Nat} (hk : k + 1 < ps.length) : onS ps caps k = (onS ps caps (k + 1)).set (par ps (k + 1)) (nth (onS ps caps (k + 1)) (par ps (k + 1)) + nth caps (k + 1)) := by
  have hp := h.upN (x := k + 1) (by omega) hk
  refine ext_nth (by simp [onS]) fun x hx => ?_
  rw [onS_length] at hx
  rw [nth_set (by rw [onS_length]; omega), onS, onS, nth_map_range hx, nth_map_range (by omega), nth_map_range hx]
  by_cases e : par ps (k + 1) = x
  · rw [if_pos e, kidSum_t (k := k + 1) (by omega), e]; omega
  · rw [if_neg e, kidSum_f (k := k + 1) (by omega)]
theorem onS_end {ps caps : List Int} (h : Pa ps) {x : Nat} (hx : x < ps.length) : nth (onS ps caps 0) x = kidSum ps (fun y => nth caps y) x ps.length := by
  have := h.root x
  rw [onS, nth_map_range hx, kidSum_f (k := 0) (by simpa using this)]; simp [kidSum]
theorem onS_bd {ps caps : List Int} {B : Int} (hB : 0 ≤ B ∧ B ≤ 1000000000) (hc : ∀ i, -B ≤ nth caps i ∧ nth caps i ≤ B) (hn : ps.length ≤ 24) (k x : Nat) (hk : k < ps.length) : -60000000000 ≤ nth (onS ps caps k) x ∧ nth (onS ps caps k) x ≤ 60000000000 := by
  by_cases hx : x < ps.length
  · rw [onS, nth_map_range hx]
    have h1 := kidSum_abs hB.1 (f := fun y => nth caps y) hc (ps := ps) x ps.length
    have h3 : B * (ps.length : Int) ≤ B * 24 := Int.mul_le_mul_of_nonneg_left (by omega) hB.1
    have h2 := kidSum_abs hB.1 (f := fun y => nth caps y) hc (ps := ps) x (k + 1)
    have h4 : B * ((k + 1 : Nat) : Int) ≤ B * 24 := Int.mul_le_mul_of_nonneg_left (by omega) hB.1
    omega
  · rw [nth_ge (by rw [onS_length]; omega)]; omega
end Go.Proofs.YtnbomleieianoaaGreat

/- Plain lists: what each node is worth with some steps, and with as many as there are. Nothing of the program. -/
namespace Go.Proofs.YtnbomleieianoaaGreat

/-- What stopping at a node is worth, times its sum. -/
def ownW (ps ws l : List Int) (x : Nat) : Int := nth (sums ps ws) x * nth l x
/-- One step more. -/
def stepA (ps ws l at' : List Int) (x : Nat) : Int := if endB ps x then ownW ps ws l x else max (ownW ps ws l x) (kidSum ps (fun y => nth at' y) x ps.length)
def stepW (ps ws l at' : List Int) : List Int := (List.range ps.length).map (stepA ps ws l at')
def worthL (ps ws l : List Int) : Nat → List Int
  | 0 => (List.range ps.length).map (ownW ps ws l)
  | k + 1 => stepW ps ws l (worthL ps ws l k)
theorem worthL_length (ps ws l : List Int) : ∀ k, (worthL ps ws l k).length = ps.length
  | 0 => by simp [worthL]
  | k + 1 => by simp [worthL, stepW]
/-- What going on is worth behind some steps. -/
def onW (ps ws l : List Int) : Nat → List Int
  | 0 => List.replicate ps.length 0
  | k + 1 => onS ps (worthL ps ws l k) 0
theorem onW_length (ps ws l : List Int) : ∀ k, (onW ps ws l k).length = ps.length
  | 0 => by simp [onW]
  | k + 1 => by rw [onW, onS_length]
theorem nth_worth0 {ps ws l : List Int} {x : Nat} (h : x < ps.length) : nth (worthL ps ws l 0) x = ownW ps ws l x := by rw [worthL, nth_map_range h]
theorem nth_worthS {ps ws l : List Int} {k x : Nat} (h : x < ps.length) : nth (worthL ps ws l (k + 1)) x = stepA ps ws l (worthL ps ws l k) x := by rw [worthL, stepW, nth_map_range h]
theorem kidSum_s {ps ws : List Int} (h : Tr ps ws) (x : Nat) : kidSum ps (fun y => nth (sums ps ws) y) x ps.length ≤ nth (sums ps ws) x := by
  have := sums_kids h x; have := h.w0 x; omega
theorem own_bd {ps ws l : List Int} (h : Tr ps ws) (hl : ∀ i, -999 ≤ nth l i ∧ nth l i ≤ 999) (x : Nat) : -(999 * nth (sums ps ws) x) ≤ ownW ps ws l x ∧ ownW ps ws l x ≤ 999 * nth (sums ps ws) x := by
  have hs := sums_nn h x
  have h1 := Int.mul_le_mul_of_nonneg_left (hl x).2 hs
  have h2 := Int.mul_le_mul_of_nonneg_left (hl x).1 hs
  unfold ownW
  rw [Int.mul_comm 999]
  rw [Int.mul_neg] at h2
  omega
theorem kid_bd {ps ws l at' : List Int} (h : Tr ps ws) (ha : ∀ y, y < ps.length → -(999 * nth (sums ps ws) y) ≤ nth at' y ∧ nth at' y ≤ 999 * nth (sums ps ws) y) (x : Nat) :
    -(999 * nth (sums ps ws) x) ≤ kidSum ps (fun y => nth at' y) x ps.length ∧ kidSum ps (fun y => nth at' y) x ps.length ≤ 999 * nth (sums ps ws) x := by
  have h0 := kidSum_s h x
  have h1 := kidSum_le (ps := ps) (f := fun y => nth at' y) (g := fun y => 999 * nth (sums ps ws) y) (x := x) (k := ps.length) fun y hy _ => (ha y hy).2
  have h2 := kidSum_le (ps := ps) (f := fun y => (-999) * nth (sums ps ws) y) (g := fun y => nth at' y) (x := x) (k := ps.length) fun y hy _ => by have := (ha y hy).1; omega
  have e1 := kidSum_mul ps (fun y => nth (sums ps ws) y) 999 x ps.length
  have e2 := kidSum_mul ps (fun y => nth (sums ps ws) y) (-999) x ps.length
  rw [e1] at h1
  rw [e2] at h2
  generalize kidSum ps (fun y => nth (sums ps ws) y) x ps.length = K at *
  omega
theorem worth_bd {ps ws l : List Int} (h : Tr ps ws) (hl : ∀ i, -999 ≤ nth l i ∧ nth l i ≤ 999) : ∀ (k x : Nat), x < ps.length → -(999 * nth (sums ps ws) x) ≤ nth (worthL ps ws l k) x ∧ nth (worthL ps ws l k) x ≤ 999 * nth (sums ps ws) x
  | 0, x, hx => by rw [nth_worth0 hx]; exact own_bd h hl x
  | k + 1, x, hx => by
    have h1 := own_bd h hl x
    have h2 := kid_bd (l := l) h (fun y hy => worth_bd h hl k y hy) x
    rw [nth_worthS hx, stepA]
    split
    · exact h1
    · omega
theorem worth_abs {ps ws l : List Int} (h : Tr ps ws) (hl : ∀ i, -999 ≤ nth l i ∧ nth l i ≤ 999) (k : Nat) : ∀ x, -479520 ≤ nth (worthL ps ws l k) x ∧ nth (worthL ps ws l k) x ≤ 479520 := fun x => by
  by_cases hx : x < ps.length
  · have := worth_bd h hl k x hx
    have := sums_bd h x
    omega
  · rw [nth_ge (by rw [worthL_length]; omega)]; omega
/-- From the node n - 1 - k on, k steps are as many as there are. -/
theorem worth_same {ps ws l : List Int} (h : Tr ps ws) : ∀ (k x : Nat), x < ps.length → ps.length ≤ x + 1 + k → nth (worthL ps ws l k) x = nth (worthL ps ws l (k + 1)) x
  | 0, x, hx, hk => by
    obtain rfl : x = ps.length - 1 := by omega
    rw [nth_worth0 hx, nth_worthS hx, stepA, if_pos (last_end h.toPa)]
  | k + 1, x, hx, hk => by
    rw [nth_worthS hx, nth_worthS hx, stepA, stepA]
    have : kidSum ps (fun y => nth (worthL ps ws l k) y) x ps.length = kidSum ps (fun y => nth (worthL ps ws l (k + 1)) y) x ps.length := kidSum_congr fun y hy e => by
      have := kids_lt h.toPa hy e
      exact worth_same h k y hy (by omega)
    rw [this]
theorem worth_fix {ps ws l : List Int} (h : Tr ps ws) {k : Nat} (hk : 23 ≤ k) : worthL ps ws l k = worthL ps ws l (k + 1) :=
  ext_nth (by rw [worthL_length, worthL_length]) fun x hx => by
    rw [worthL_length] at hx
    exact worth_same h k x hx (by have := h.n24; omega)
/-- The envelope of each node, times its sum. -/
def capW (ps ws l : List Int) : List Int := worthL ps ws l 24
theorem capW_length (ps ws l : List Int) : (capW ps ws l).length = ps.length := worthL_length _ _ _ _
theorem nth_capW {ps ws l : List Int} (h : Tr ps ws) {x : Nat} (hx : x < ps.length) : nth (capW ps ws l) x = stepA ps ws l (capW ps ws l) x := by
  have h1 := worth_fix (l := l) h (k := 24) (by omega)
  have : nth (capW ps ws l) x = nth (worthL ps ws l (24 + 1)) x := by rw [← h1]; rfl
  rw [this, nth_worthS hx]; rfl
theorem on_capW {ps ws l : List Int} (h : Tr ps ws) {x : Nat} (hx : x < ps.length) : nth (onW ps ws l 24) x = kidSum ps (fun y => nth (capW ps ws l) y) x ps.length := by
  have h1 := worth_fix (l := l) h (k := 23) (by omega)
  rw [onW, onS_end h.toPa hx, h1]; rfl
end Go.Proofs.YtnbomleieianoaaGreat

/- Plain numbers: greatest common divisors and quotients in lowest terms. Nothing of the program. -/
namespace Go.Proofs.YtnbomleieianoaaGreat

/-- The greatest common divisor, as an Int. -/
def gcdI (a b : Int) : Int := (Int.gcd a b : Int)
theorem gcdI_step (a b : Int) : gcdI b (a.tmod b) = gcdI a b := by
  unfold gcdI Int.gcd
  rw [Int.natAbs_tmod, Nat.gcd_comm a.natAbs b.natAbs, Nat.gcd_rec b.natAbs a.natAbs, Nat.gcd_comm]
theorem gcdI_zero (a : Int) : gcdI a 0 = (a.natAbs : Int) := by simp [gcdI]
theorem gcdI_nn (a b : Int) : 0 ≤ gcdI a b := Int.natCast_nonneg _
theorem gcdI_pos {a b : Int} (h : b ≠ 0) : 0 < gcdI a b := by
  have : 0 < Int.gcd a b := Int.gcd_pos_of_ne_zero_right a h
  unfold gcdI; omega
theorem gcdI_pos_l {a b : Int} (h : a ≠ 0) : 0 < gcdI a b := by
  have : 0 < Int.gcd a b := Int.gcd_pos_of_ne_zero_left b h
  unfold gcdI; omega
theorem gcdI_dvd_l (a b : Int) : gcdI a b ∣ a := Int.gcd_dvd_left ..
theorem gcdI_dvd_r (a b : Int) : gcdI a b ∣ b := Int.gcd_dvd_right ..
theorem gcdI_le_r {a b : Int} (h : b ≠ 0) : gcdI a b ≤ (b.natAbs : Int) := by
  unfold gcdI
  have : Int.gcd a b ≤ b.natAbs := Nat.gcd_le_right _ (by omega)
  omega
theorem gcdI_abs (a b : Int) : gcdI (most a (-a)) b = gcdI a b := by
  unfold gcdI most
  split
  · rfl
  · unfold Int.gcd; rw [Int.natAbs_neg]
/-- Top and bottom of a quotient in lowest terms. -/
def nm (a b : Int) : Int := if b < 0 then -(a / gcdI a b) else a / gcdI a b
def dn (a b : Int) : Int := if b < 0 then -(b / gcdI a b) else b / gcdI a b
theorem tdiv_abs_le (a g : Int) : (a.tdiv g).natAbs ≤ a.natAbs := by rw [Int.natAbs_tdiv]; exact Nat.div_le_self _ _
theorem quot_bd (a b : Int) (hb0 : b ≠ 0) (ha : -4611686018427387904 ≤ a ∧ a ≤ 4611686018427387904) (hb : 1 ≤ b ∧ b ≤ 4611686018427387904) :
    (-4611686018427387904 ≤ nm a b ∧ nm a b ≤ 4611686018427387904) ∧ 1 ≤ dn a b ∧ dn a b ≤ 4611686018427387904 := by
  unfold nm dn
  rw [if_neg (by omega), if_neg (by omega)]
  have h1 := tdiv_abs_le a (gcdI a b)
  rw [Int.tdiv_eq_ediv_of_dvd (gcdI_dvd_l a b)] at h1
  have hp := gcdI_pos (a := a) hb0
  obtain ⟨q, hq⟩ := gcdI_dvd_r a b
  have h2 : b / gcdI a b = q := by
    have := Int.mul_ediv_cancel_left q (show gcdI a b ≠ 0 by omega)
    rwa [← hq] at this
  rw [h2]
  have h3 : 1 ≤ q := by
    rcases Int.lt_or_le 0 q with h | h
    · omega
    · have := Int.mul_nonpos_of_nonneg_of_nonpos (Int.le_of_lt hp) h; omega
  have h4 : q ≤ b := by
    have := Int.mul_le_mul_of_nonneg_right (show 1 ≤ gcdI a b by omega) (show 0 ≤ q by omega)
    omega
  omega
def okF (n d : Int) : Bool := inB n (-1000000000) 1000000000 && decide (d ≤ 1000000)
theorem nm_pos {a b : Int} (h : ¬ b < 0) : nm a b = a.tdiv (gcdI a b) ∧ dn a b = b.tdiv (gcdI a b) := by
  unfold nm dn
  rw [if_neg h, if_neg h]
  exact ⟨(Int.tdiv_eq_ediv_of_dvd (gcdI_dvd_l a b)).symm, (Int.tdiv_eq_ediv_of_dvd (gcdI_dvd_r a b)).symm⟩
theorem nm_neg {a b : Int} (h : b < 0) : nm a b = a.tdiv (-gcdI a b) ∧ dn a b = b.tdiv (-gcdI a b) := by
  unfold nm dn
  rw [if_pos h, if_pos h, Int.tdiv_neg, Int.tdiv_neg]
  exact ⟨by rw [Int.tdiv_eq_ediv_of_dvd (gcdI_dvd_l a b)], by rw [Int.tdiv_eq_ediv_of_dvd (gcdI_dvd_r a b)]⟩
theorem gcdI_neg_r (a b : Int) : gcdI a (-b) = gcdI a b := by unfold gcdI Int.gcd; rw [Int.natAbs_neg]
theorem gcdI_neg_l (a b : Int) : gcdI (-a) b = gcdI a b := by unfold gcdI Int.gcd; rw [Int.natAbs_neg]
theorem nm_flip (a b : Int) (h : b ≠ 0) : nm (-a) (-b) = nm a b ∧ dn (-a) (-b) = dn a b := by
  unfold nm dn
  rw [gcdI_neg_l, gcdI_neg_r]
  have h1 := Int.neg_ediv_of_dvd (gcdI_dvd_l a b)
  have h2 := Int.neg_ediv_of_dvd (gcdI_dvd_r a b)
  rw [h1, h2]
  by_cases hb : b < 0
  · rw [if_pos hb, if_neg (by omega), if_pos hb, if_neg (by omega)]; exact ⟨rfl, rfl⟩
  · rw [if_neg hb, if_pos (by omega), if_neg hb, if_pos (by omega)]; omega
theorem quot_bd' (a b : Int) (hb0 : b ≠ 0) (ha : -4611686018427387904 ≤ a ∧ a ≤ 4611686018427387904) (hb : -4611686018427387904 ≤ b ∧ b ≤ 4611686018427387904) :
    (-4611686018427387904 ≤ nm a b ∧ nm a b ≤ 4611686018427387904) ∧ 1 ≤ dn a b ∧ dn a b ≤ 4611686018427387904 := by
  by_cases h : b < 0
  · have := nm_flip a b hb0
    rw [← this.1, ← this.2]
    exact quot_bd (-a) (-b) (by omega) (by omega) (by omega)
  · exact quot_bd a b hb0 ha (by omega)
/-- Is the pair (x, y) a fraction? -/
def fracB (x y : Int) : Bool := inB x (-1000000000) 1000000000 && inB y 1 1000000 && (gcdI x y == 1)
theorem gcdI_scale (k x y : Int) : gcdI (k * x) (k * y) = (k.natAbs : Int) * gcdI x y := by
  unfold gcdI
  rw [Int.gcd_mul_left]
  simp
theorem nm_scale_pos {k x y : Int} (hk : 0 < k) : nm (k * x) (k * y) = nm x y ∧ dn (k * x) (k * y) = dn x y := by
  have hg : gcdI (k * x) (k * y) = k * gcdI x y := by rw [gcdI_scale]; congr 1; omega
  have hs : (k * y < 0) ↔ y < 0 := by
    constructor
    · intro h; rcases Int.lt_or_le y 0 with h1 | h1
      · exact h1
      · have := Int.mul_nonneg (Int.le_of_lt hk) h1; omega
    · intro h; have := Int.mul_neg_of_pos_of_neg hk h; omega
  unfold nm dn
  rw [hg, Int.mul_ediv_mul_of_pos _ _ hk, Int.mul_ediv_mul_of_pos _ _ hk]
  by_cases h : y < 0
  · rw [if_pos (hs.2 h), if_pos h, if_pos (hs.2 h), if_pos h]; exact ⟨rfl, rfl⟩
  · rw [if_neg (fun h' => h (hs.1 h')), if_neg h, if_neg (fun h' => h (hs.1 h')), if_neg h]; exact ⟨rfl, rfl⟩
theorem nm_scale {k x y : Int} (hk : k ≠ 0) (hy : y ≠ 0) : nm (k * x) (k * y) = nm x y ∧ dn (k * x) (k * y) = dn x y := by
  rcases Int.lt_or_le 0 k with h | h
  · exact nm_scale_pos h
  · have h1 := nm_scale_pos (k := -k) (x := x) (y := y) (by omega)
    have h2 := nm_flip (k * x) (k * y) (Int.mul_ne_zero hk hy)
    rw [← Int.neg_mul, ← Int.neg_mul] at h2
    exact ⟨h2.1.symm.trans h1.1, h2.2.symm.trans h1.2⟩
theorem nm_cross {x y x' y' : Int} (hy : y ≠ 0) (hy' : y' ≠ 0) (h : x * y' = x' * y) : nm x y = nm x' y' ∧ dn x y = dn x' y' := by
  have h1 := nm_scale (x := x) hy' hy
  have h2 := nm_scale (x := x') hy hy'
  rw [show y' * x = y * x' by rw [Int.mul_comm, h, Int.mul_comm], Int.mul_comm y' y] at h1
  exact ⟨h1.1.symm.trans h2.1, h1.2.symm.trans h2.2⟩
theorem gcdI_quot (a b : Int) (hb : b ≠ 0) : gcdI (nm a b) (dn a b) = 1 := by
  have hp := gcdI_pos (a := a) hb
  have h : Int.gcd (a / gcdI a b) (b / gcdI a b) = 1 := by
    have := Int.gcd_ediv_gcd_ediv_gcd (i := a) (j := b) (by unfold gcdI at hp; omega)
    exact this
  unfold nm dn
  split
  · rw [gcdI_neg_l, gcdI_neg_r]; unfold gcdI at h ⊢; rw [h]; rfl
  · unfold gcdI at h ⊢; rw [h]; rfl
theorem dn_pos (a b : Int) (hb : b ≠ 0) : 1 ≤ dn a b := by
  have hp := gcdI_pos (a := a) hb
  obtain ⟨q, hq⟩ := gcdI_dvd_r a b
  have h2 : b / gcdI a b = q := by
    have := Int.mul_ediv_cancel_left q (show gcdI a b ≠ 0 by omega)
    rwa [← hq] at this
  unfold dn
  rw [h2]
  have hq0 : q ≠ 0 := by rintro rfl; omega
  split
  · rcases Int.lt_or_le q 0 with h | h
    · omega
    · have := Int.mul_nonneg (Int.le_of_lt hp) h; omega
  · rcases Int.lt_or_le 0 q with h | h
    · omega
    · have := Int.mul_neg_of_pos_of_neg hp (show q < 0 by omega); omega
/-- What the reference keeps of a pair in lowest terms is what the program takes for a fraction. -/
theorem fracB_quot (a b : Int) (hb : b ≠ 0) : fracB (nm a b) (dn a b) = okF (nm a b) (dn a b) := by
  unfold fracB okF
  rw [gcdI_quot a b hb]
  have := dn_pos a b hb
  simp [inB, this]
/-- The quotient in lowest terms where it is a fraction, else the pair of zeros. -/
def lowN (a b : Int) : Int := if okF (nm a b) (dn a b) then nm a b else 0
def lowD (a b : Int) : Int := if okF (nm a b) (dn a b) then dn a b else 0
def lowB (a b : Int) : Bool := okF (nm a b) (dn a b)
end Go.Proofs.YtnbomleieianoaaGreat

/- Plain numbers: drifts of a process, and what is a balanced list. No conditions but those stated. -/
namespace Go.Proofs.YtnbomleieianoaaGreat

/-- The drift at a node, times the sum there. -/
def drA (ps ws l : List Int) (x : Nat) : Int := kidSum ps (fun y => nth (sums ps ws) y * (nth l y - nth l x)) x ps.length
def drT (ps ws l : List Int) (x : Nat) (y : Int) : Int := nth (sums ps ws) y.toNat * (nth l y.toNat - nth l x)
theorem dr_sum (ps ws l : List Int) (x : Nat) : sumOf (drT ps ws l x) (kids ps x) = drA ps ws l x := by
  rw [kids_sum]; rfl
theorem sumOf_abs {f : Int → Int} {B : Int} (hB : 0 ≤ B) (hf : ∀ x, -B ≤ f x ∧ f x ≤ B) : ∀ xs : List Int, -(B * xs.length) ≤ sumOf f xs ∧ sumOf f xs ≤ B * xs.length
  | [] => by simp [sumOf]
  | x :: xs => by
    have ih := sumOf_abs hB hf xs
    have := hf x
    rw [List.length_cons, Int.natCast_add, Int.mul_add]
    simp only [sumOf, Int.natCast_one, Int.mul_one]
    omega
theorem drT_bd {ps ws l : List Int} (h : Tr ps ws) (hl : ∀ i, -999 ≤ nth l i ∧ nth l i ≤ 999) (x : Nat) (y : Int) : -959040 ≤ drT ps ws l x y ∧ drT ps ws l x y ≤ 959040 := by
  have h1 := hl y.toNat
  have h2 := hl x
  have := mul_abs (B := 1998) (U := 480) (x := nth l y.toNat - nth l x) (u := nth (sums ps ws) y.toNat) (by omega) (sums_bd h y.toNat) (by omega)
  rw [Int.mul_comm (nth l y.toNat - nth l x) (nth (sums ps ws) y.toNat)] at this
  rw [drT]; omega
theorem kidSum_mulr (ps : List Int) (f : Nat → Int) (c : Int) (x : Nat) : ∀ k : Nat, kidSum ps (fun y => f y * c) x k = kidSum ps f x k * c := fun k => by
  have := kidSum_mul ps f c x k
  rw [Int.mul_comm (kidSum ps f x k) c, ← this]
  exact kidSum_congr fun y _ _ => Int.mul_comm _ _
theorem dr_bal {ps ws l : List Int} (h : Tr ps ws) {x : Nat} (hx : x < ps.length) : drA ps ws l x = 0 ↔ (endB ps x = true ∨ nth (sums ps ws) x * nth l x = kidSum ps (fun y => nth (sums ps ws) y * nth l y) x ps.length) := by
  cases he : endB ps x
  · have h1 : drA ps ws l x = kidSum ps (fun y => nth (sums ps ws) y * nth l y) x ps.length + kidSum ps (fun y => nth (sums ps ws) y * (-(nth l x))) x ps.length := by
      rw [← kidSum_add]
      exact kidSum_congr fun y _ _ => by rw [← Int.mul_add]; rfl
    have h2 := sums_kids h x
    rw [h.inner x hx he, Int.zero_add] at h2
    rw [h1, kidSum_mulr, ← h2, Int.mul_neg]
    simp only [Bool.false_eq_true, false_or]
    omega
  · have := kidSum_end (f := fun y => nth (sums ps ws) y * (nth l y - nth l x)) he (Nat.le_refl _)
    rw [drA, this]
    simp
/-- Is a list balanced? -/
def balB (ps ws l : List Int) : Bool := (List.range ps.length).all fun x => drA ps ws l x == 0
theorem bal_no {ps ws l : List Int} {x : Nat} (hx : x < ps.length) (h : ¬ drA ps ws l x = 0) : balB ps ws l = false := all_f hx (by simp [h])
theorem bal_yes {ps ws l : List Int} (h : ∀ x, x < ps.length → drA ps ws l x = 0) : balB ps ws l = true := all_t fun x hx => by simp [h x hx]
/-- The drifts. -/
def driftL (ps ws l : List Int) : List (Int × Int) := (List.range ps.length).map fun x => (nm (drA ps ws l x) (nth (sums ps ws) x), dn (drA ps ws l x) (nth (sums ps ws) x))
theorem driftL_length (ps ws l : List Int) : (driftL ps ws l).length = ps.length := by simp [driftL]
theorem nm_zero {a b : Int} (hb : 0 < b) : nm a b = 0 ↔ a = 0 := by
  have hg := gcdI_pos (a := a) (b := b) (by omega)
  rw [nm, if_neg (by omega)]
  constructor
  · intro h
    have := Int.mul_ediv_cancel' (gcdI_dvd_l a b)
    rw [h, Int.mul_zero] at this
    exact this.symm
  · intro h; rw [h]; exact Int.zero_ediv _
theorem driftL_take (ps ws l : List Int) {x : Nat} (hx : x < ps.length) : (driftL ps ws l).take (x + 1) = (driftL ps ws l).take x ++ [(nm (drA ps ws l x) (nth (sums ps ws) x), dn (drA ps ws l x) (nth (sums ps ws) x))] := by
  rw [List.take_succ_eq_append_getElem (by rw [driftL_length]; exact hx)]
  simp [driftL]
end Go.Proofs.YtnbomleieianoaaGreat

/- Plain lists: ways from the root, the first node on a way at which something is so, numbers put to their places. Nothing of the program. -/
namespace Go.Proofs.YtnbomleieianoaaGreat

def wayF (ps : List Int) : Nat → Nat → List Int
  | 0, x => [(x : Int)]
  | k + 1, x => if x = 0 then [0] else wayF ps k (par ps x) ++ [(x : Int)]
/-- The nodes from the root to x. -/
def way (ps : List Int) (x : Nat) : List Int := wayF ps x x
theorem wayF_zero (ps : List Int) (k : Nat) : wayF ps k 0 = [0] := by cases k <;> simp [wayF]
theorem wayF_fuel {ps : List Int} (h : Pa ps) : ∀ (k x : Nat), x ≤ k → x < ps.length → wayF ps k x = way ps x
  | k, 0, _, _ => by rw [way, wayF_zero, wayF_zero]
  | 0, x + 1, hk, _ => by omega
  | k + 1, x + 1, hk, hx => by
    have hp := (h.upN (x := x + 1) (by omega) hx).2
    rw [way, wayF, wayF, if_neg (by omega), if_neg (by omega), wayF_fuel h k _ (by omega) (by omega), wayF_fuel h x _ (by omega) (by omega)]
theorem way_zero (ps : List Int) : way ps 0 = [0] := rfl
theorem way_up {ps : List Int} (h : Pa ps) {x : Nat} (h1 : 1 ≤ x) (h2 : x < ps.length) : way ps x = way ps (par ps x) ++ [(x : Int)] := by
  obtain ⟨k, rfl⟩ : ∃ k, x = k + 1 := ⟨x - 1, by omega⟩
  have hp := (h.upN h1 h2).2
  rw [way, wayF, if_neg (by omega), wayF_fuel h k _ (by omega) (by omega)]
theorem way_length {ps : List Int} (h : Pa ps) : ∀ x, x < ps.length → 1 ≤ (way ps x).length ∧ (way ps x).length ≤ x + 1 := by
  intro x
  induction x using Nat.strongRecOn with
  | ind x ih =>
    intro hx
    by_cases h0 : x = 0
    · subst h0; rw [way_zero]; simp
    · have hp := (h.upN (x := x) (by omega) hx).2
      have := ih _ hp (by omega)
      rw [way_up h (by omega) hx, List.length_append, List.length_singleton]; omega
/-- The nodes on a way are nodes. -/
theorem way_mem {ps : List Int} (h : Pa ps) : ∀ x, x < ps.length → ∀ y, y ∈ way ps x → ∃ j : Nat, j ≤ x ∧ y = j := by
  intro x
  induction x using Nat.strongRecOn with
  | ind x ih =>
    intro hx y hy
    by_cases h0 : x = 0
    · subst h0; rw [way_zero] at hy; exact ⟨0, Nat.le_refl _, by simpa using hy⟩
    · have hp := (h.upN (x := x) (by omega) hx).2
      rw [way_up h (by omega) hx, List.mem_append] at hy
      rcases hy with hy | hy
      · obtain ⟨j, h1, h2⟩ := ih _ hp (by omega) y hy
        exact ⟨j, by omega, h2⟩
      · exact ⟨x, Nat.le_refl _, by simpa using hy⟩
theorem nth_way {ps : List Int} (h : Pa ps) {x i : Nat} (hx : x < ps.length) (hi : i < (way ps x).length) : ∃ j : Nat, j ≤ x ∧ nth (way ps x) i = j := way_mem h x hx _ (nth_mem hi)
/-- The first number of a list for which something is so, or -1. -/
def stopL (S : Int → Bool) : List Int → Int
  | [] => -1
  | x :: xs => if S x then x else stopL S xs
theorem stopL_app {S : Int → Bool} {x : Int} : ∀ {xs : List Int}, (∀ y, y ∈ xs → 0 ≤ y) → stopL S (xs ++ [x]) = if 0 ≤ stopL S xs then stopL S xs else if S x then x else -1
  | [], _ => by simp [stopL]
  | y :: ys, h => by
    have hy := h y (by simp)
    have ih := stopL_app (S := S) (x := x) (xs := ys) fun z hz => h z (by simp [hz])
    rw [List.cons_append, stopL, stopL]
    cases hS : S y
    · rw [if_neg Bool.false_ne_true, if_neg Bool.false_ne_true]; exact ih
    · rw [if_pos rfl, if_pos rfl, if_pos hy]
theorem stopL_none {S : Int → Bool} : ∀ {xs : List Int}, (∀ y, y ∈ xs → S y = false) → stopL S xs = -1
  | [], _ => rfl
  | x :: xs, h => by rw [stopL, h x (by simp), if_neg Bool.false_ne_true, stopL_none fun y hy => h y (by simp [hy])]
theorem stopL_at {S : Int → Bool} : ∀ {xs : List Int} {i : Nat}, i < xs.length → (∀ j, j < i → S (nth xs j) = false) → S (nth xs i) = true → stopL S xs = nth xs i
  | [], i, hi, _, _ => by simp at hi
  | x :: xs, 0, _, _, h => by
    have : nth (x :: xs) 0 = x := rfl
    rw [this] at h ⊢
    rw [stopL, h, if_pos rfl]
  | x :: xs, i + 1, hi, hb, h => by
    have h0 : nth (x :: xs) 0 = x := rfl
    have hs : ∀ j, nth (x :: xs) (j + 1) = nth xs j := fun j => by simp [nth, List.getD]
    have := hb 0 (by omega)
    rw [h0] at this
    rw [stopL, this, if_neg Bool.false_ne_true, hs]
    exact stopL_at (i := i) (by simpa using hi) (fun j hj => by have := hb (j + 1) (by omega); rwa [hs] at this) (by rwa [hs] at h)
/-- The first node on the way to x at which something is so, or -1. -/
def stop (ps : List Int) (S : Int → Bool) (x : Nat) : Int := stopL S (way ps x)
theorem stop_zero (ps : List Int) (S : Int → Bool) : stop ps S 0 = if S 0 then 0 else -1 := by rw [stop, way_zero]; rfl
theorem stop_up {ps : List Int} (h : Pa ps) (S : Int → Bool) {x : Nat} (h1 : 1 ≤ x) (h2 : x < ps.length) : stop ps S x = if 0 ≤ stop ps S (par ps x) then stop ps S (par ps x) else if S x then (x : Int) else -1 := by
  have hp := (h.upN h1 h2).2
  rw [stop, way_up h h1 h2, stopL_app fun y hy => by obtain ⟨j, _, rfl⟩ := way_mem h _ (by omega) y hy; omega]; rfl
/-- Is something so at a node on the way to x? -/
def behB (ps : List Int) (S : Int → Bool) (x : Nat) : Bool := decide (0 ≤ stop ps S x)
/-- Is x the first node on its way at which something is so? -/
def firB (ps : List Int) (S : Int → Bool) (x : Nat) : Bool := stop ps S x == (x : Int)
theorem beh_zero (ps : List Int) (S : Int → Bool) : behB ps S 0 = S 0 ∧ firB ps S 0 = S 0 := by
  unfold behB firB; rw [stop_zero]; cases S 0 <;> exact ⟨rfl, rfl⟩
theorem stop_low {ps : List Int} (h : Pa ps) (S : Int → Bool) : ∀ x, x < ps.length → -1 ≤ stop ps S x ∧ stop ps S x ≤ x := by
  intro x hx
  unfold stop
  have : ∀ xs : List Int, (∀ y, y ∈ xs → ∃ j : Nat, j ≤ x ∧ y = j) → -1 ≤ stopL S xs ∧ stopL S xs ≤ x := by
    intro xs
    induction xs with
    | nil => intro _; simp only [stopL]; omega
    | cons y ys ih =>
      intro hy
      rw [stopL]
      cases S y
      · rw [if_neg Bool.false_ne_true]; exact ih fun z hz => hy z (by simp [hz])
      · rw [if_pos rfl]
        obtain ⟨j, h1, rfl⟩ := hy y (by simp)
        omega
  exact this _ (way_mem h x hx)
theorem beh_up {ps : List Int} (h : Pa ps) (S : Int → Bool) {x : Nat} (h1 : 1 ≤ x) (h2 : x < ps.length) :
    (behB ps S (par ps x) = true → behB ps S x = true ∧ firB ps S x = false) ∧ (behB ps S (par ps x) = false → behB ps S x = S x ∧ firB ps S x = S x) := by
  have hp := (h.upN h1 h2).2
  have hl := stop_low h S (par ps x) (by omega)
  unfold behB firB
  rw [stop_up h S h1 h2]
  constructor
  · intro hb
    have hb := of_decide_eq_true hb
    rw [if_pos hb]
    exact ⟨decide_eq_true hb, by rw [beq_eq_false_iff_ne]; omega⟩
  · intro hb
    have hb := of_decide_eq_false hb
    rw [if_neg hb]
    cases S x
    · rw [if_neg Bool.false_ne_true]
      exact ⟨decide_eq_false (by omega), by rw [beq_eq_false_iff_ne]; omega⟩
    · rw [if_pos rfl]
      exact ⟨decide_eq_true (by omega), by simp⟩
theorem stop_stop {ps : List Int} (h : Pa ps) (S : Int → Bool) : ∀ x, x < ps.length → ∀ y : Nat, stop ps S x = y → y < ps.length ∧ stop ps S y = y := by
  refine h.above (P := fun x => ∀ y : Nat, stop ps S x = y → y < ps.length ∧ stop ps S y = y) ?_ ?_
  · intro y hy
    have hy2 := hy
    rw [stop_zero] at hy2
    have h1 := h.n1
    cases hS : S 0
    · rw [hS, if_neg Bool.false_ne_true] at hy2; omega
    · rw [hS, if_pos rfl] at hy2
      obtain rfl : y = 0 := by omega
      exact ⟨by omega, hy⟩
  · intro x h1 h2 ih y hy
    have hy2 := hy
    rw [stop_up h S h1 h2] at hy2
    by_cases hb : 0 ≤ stop ps S (par ps x)
    · rw [if_pos hb] at hy2; exact ih y hy2
    · rw [if_neg hb] at hy2
      cases hS : S x
      · rw [hS, if_neg Bool.false_ne_true] at hy2; omega
      · rw [hS, if_pos rfl] at hy2
        obtain rfl : y = x := by omega
        exact ⟨h2, hy⟩
/-- Below each node is an end, and what stops ahead of the node stops there, too. -/
theorem end_below {ps : List Int} (h : Pa ps) (S : Int → Bool) : ∀ x, x < ps.length → ∃ e : Nat, e < ps.length ∧ endB ps e = true ∧ (0 ≤ stop ps S x → stop ps S e = stop ps S x) := by
  refine h.below (P := fun x => ∃ e : Nat, e < ps.length ∧ endB ps e = true ∧ (0 ≤ stop ps S x → stop ps S e = stop ps S x)) ?_
  intro x hx ih
  cases he : endB ps x
  · have hk := endB_kids ps x
    rw [he] at hk
    obtain ⟨y, hy⟩ := List.exists_mem_of_ne_nil (kids ps x) (by intro e; rw [e] at hk; cases hk)
    obtain ⟨i, hi, hp, rfl⟩ := mem_filt.1 hy
    have hp : nth ps i = x := by simpa using hp
    have hlt := kids_lt h hi hp
    obtain ⟨e, h1, h2, h3⟩ := ih i hi hp
    refine ⟨e, h1, h2, fun h0 => ?_⟩
    have hu := h.upN (x := i) (by omega) hi
    have hpar : par ps i = x := by omega
    have hs := stop_up h S (x := i) (by omega) hi
    rw [hpar, if_pos h0] at hs
    rw [h3 (by omega), hs]
  · exact ⟨x, hx, he, fun _ => rfl⟩
/-- Is y the first node for one of these nodes? -/
def isStop (ps : List Int) (S : Int → Bool) (es : List Int) (y : Nat) : Bool := es.any fun e => stop ps S e.toNat == (y : Int)
theorem isStop_ends {ps : List Int} (h : Pa ps) (S : Int → Bool) {y : Nat} (hy : y < ps.length) : isStop ps S (ends ps) y = firB ps S y := by
  rw [Bool.eq_iff_iff]
  unfold isStop firB
  rw [List.any_eq_true, beq_iff_eq]
  constructor
  · rintro ⟨e, he, hs⟩
    obtain ⟨i, hi, _, rfl⟩ := mem_filt.1 he
    rw [beq_iff_eq, Int.toNat_natCast] at hs
    exact (stop_stop h S i hi y hs).2
  · intro hs
    obtain ⟨e, h1, h2, h3⟩ := end_below h S y hy
    exact ⟨(e : Int), mem_filt.2 ⟨e, h1, h2, rfl⟩, by rw [beq_iff_eq, Int.toNat_natCast, h3 (by omega)]; exact hs⟩
/-- The rule that stops at the first node on each way at which something is so. -/
def firsts (ps : List Int) (S : Int → Bool) : List Int := filt (firB ps S) ps.length
theorem firsts_length (ps : List Int) (S : Int → Bool) : (firsts ps S).length ≤ ps.length := filt_length _ _
/-- A number put to its place, once. -/
theorem filt_or {p : Nat → Bool} {y : Nat} : ∀ {k : Nat}, y < k → ∃ a b, filt p k = a ++ b ∧ (∀ x, x ∈ a → x < (y : Int)) ∧ (p y = true → ∃ b', b = (y : Int) :: b' ∧ (∀ x, x ∈ b' → (y : Int) < x)) ∧ (p y = false → (∀ x, x ∈ b → (y : Int) < x)) ∧ filt (fun z => p z || z == y) k = a ++ (if p y then b else (y : Int) :: b)
  | 0, h => by omega
  | k + 1, h => by
    by_cases e : y = k
    · subst e
      have hlt : filt (fun z => p z || z == y) y = filt p y := filt_congr fun i hi => by
        have : (i == y) = false := by rw [beq_eq_false_iff_ne]; omega
        rw [this, Bool.or_false]
      have hal : ∀ x, x ∈ filt p y → x < (y : Int) := fun x hx => by obtain ⟨i, h1, _, rfl⟩ := mem_filt.1 hx; omega
      have hin : filt (fun z => p z || z == y) (y + 1) = filt p y ++ [(y : Int)] := by rw [filt_t (by simp), hlt]
      cases hp : p y
      · exact ⟨filt p y, [], by rw [filt_f hp]; simp, hal, (fun h => by simp at h), (fun _ x hx => by simp at hx), by rw [hin]; simp⟩
      · exact ⟨filt p y, [(y : Int)], by rw [filt_t hp], hal, (fun _ => ⟨[], rfl, fun x hx => by simp at hx⟩), (fun h => by simp at h), by rw [hin]; simp⟩
    · obtain ⟨a, b, h1, h2, h3, h4, h5⟩ := filt_or (p := p) (y := y) (k := k) (by omega)
      have hk : (k == y) = false := by rw [beq_eq_false_iff_ne]; omega
      cases hp : p k
      · refine ⟨a, b, by rw [filt_f hp, h1], h2, h3, h4, ?_⟩
        rw [filt_f (by rw [hp, hk]; rfl), h5]
      · refine ⟨a, b ++ [(k : Int)], by rw [filt_t hp, h1, List.append_assoc], h2, fun hy => ?_, fun hy x hx => ?_, ?_⟩
        · obtain ⟨b', rfl, hb⟩ := h3 hy
          refine ⟨b' ++ [(k : Int)], rfl, fun x hx => ?_⟩
          rw [List.mem_append] at hx
          rcases hx with hx | hx
          · exact hb x hx
          · have : x = k := by simpa using hx
            omega
        · rw [List.mem_append] at hx
          rcases hx with hx | hx
          · exact h4 hy x hx
          · have : x = k := by simpa using hx
            omega
        · rw [filt_t (by rw [hp]; rfl), h5]
          cases hy : p y <;> simp
end Go.Proofs.YtnbomleieianoaaGreat

/- Plain lists: sums over the numbers below a number. No conditions but those stated. -/
namespace Go.Proofs.YtnbomleieianoaaGreat

theorem kidSum_zero {ps : List Int} {f : Nat → Int} {x : Nat} : ∀ {k : Nat}, (∀ y, y < k → nth ps y = x → f y = 0) → kidSum ps f x k = 0
  | 0, _ => rfl
  | k + 1, h => by
    have ih := kidSum_zero (k := k) fun y hy => h y (by omega)
    by_cases e : nth ps k = x
    · rw [kidSum_t e, ih, h k (by omega) e]; rfl
    · rw [kidSum_f e, ih]
theorem kid_par {ps : List Int} (h : Pa ps) {x y : Nat} (hy : y < ps.length) (e : nth ps y = x) : 1 ≤ y ∧ par ps y = x := by
  have := kids_lt h hy e
  exact ⟨by omega, by unfold par; rw [e]; simp⟩
/-- Sums over the numbers below n. -/
def sumR (F : Nat → Int) (n : Nat) : Int := sumOf id ((List.range n).map F)
theorem sumR_zero (F : Nat → Int) : sumR F 0 = 0 := rfl
theorem sumR_succ (F : Nat → Int) (n : Nat) : sumR F (n + 1) = sumR F n + F n := by
  unfold sumR; rw [List.range_succ, List.map_append, sumOf_append]; simp [sumOf]
theorem sumR_le {F G : Nat → Int} : ∀ {n : Nat}, (∀ x, x < n → F x ≤ G x) → sumR F n ≤ sumR G n
  | 0, _ => Int.le_refl _
  | n + 1, h => by
    have ih := sumR_le (n := n) fun x hx => h x (by omega)
    have := h n (by omega)
    rw [sumR_succ, sumR_succ]; omega
theorem sumR_congr {F G : Nat → Int} : ∀ {n : Nat}, (∀ x, x < n → F x = G x) → sumR F n = sumR G n
  | 0, _ => rfl
  | n + 1, h => by rw [sumR_succ, sumR_succ, sumR_congr (n := n) fun x hx => h x (by omega), h n (by omega)]
theorem sumR_add (F G : Nat → Int) : ∀ n : Nat, sumR (fun x => F x + G x) n = sumR F n + sumR G n
  | 0 => rfl
  | n + 1 => by rw [sumR_succ, sumR_succ, sumR_succ, sumR_add F G n]; omega
theorem sumR_eq {F G : Nat → Int} : ∀ {n : Nat}, (∀ x, x < n → F x ≤ G x) → sumR F n = sumR G n → ∀ x, x < n → F x = G x
  | 0, _, _, x, hx => by omega
  | n + 1, h, he, x, hx => by
    have h1 := sumR_le (n := n) fun x hx => h x (by omega)
    have h2 := h n (by omega)
    rw [sumR_succ, sumR_succ] at he
    by_cases e : x = n
    · subst e; omega
    · exact sumR_eq (n := n) (fun x hx => h x (by omega)) (by omega) x (by omega)
theorem sumOf_filt (f : Int → Int) (p : Nat → Bool) : ∀ n : Nat, sumOf f (filt p n) = sumR (fun x => if p x then f x else 0) n
  | 0 => rfl
  | n + 1 => by
    rw [sumR_succ, ← sumOf_filt f p n]
    cases hp : p n
    · rw [filt_f hp]; simp
    · rw [filt_t hp, sumOf_append]; simp [sumOf]
end Go.Proofs.YtnbomleieianoaaGreat

/- Plain lists: numbers of the ends, gathered at each node. No conditions but those stated. -/
namespace Go.Proofs.YtnbomleieianoaaGreat

/-- Numbers of the ends, gathered at each node. -/
def enL (ps : List Int) (V : Nat → Int) : List Int := (List.range ps.length).map fun x => if endB ps x then V x else 0
def enG (ps : List Int) (V : Nat → Int) (x : Nat) : Int := nth (gathA ps (enL ps V)) x
theorem enL_length (ps : List Int) (V : Nat → Int) : (enL ps V).length = ps.length := by simp [enL]
theorem enG_end {ps : List Int} (h : Pa ps) (V : Nat → Int) {x : Nat} (hx : x < ps.length) (he : endB ps x = true) : enG ps V x = V x := by
  rw [enG, gathA_kids h (enL_length ps V), kidSum_end he (Nat.le_refl _), enL, nth_map_range hx, if_pos he]; omega
theorem enG_inner {ps : List Int} (h : Pa ps) (V : Nat → Int) {x : Nat} (hx : x < ps.length) (he : endB ps x = false) : enG ps V x = kidSum ps (enG ps V) x ps.length := by
  have h1 := gathA_kids h (enL_length ps V) x
  have h2 : nth (enL ps V) x = 0 := by rw [enL, nth_map_range hx, he]; rfl
  rw [h2, Int.zero_add] at h1
  exact h1
theorem enG_root {ps : List Int} (h : Pa ps) (V : Nat → Int) : enG ps V 0 = sumOf (fun e => V e.toNat) (ends ps) := by
  rw [enG, gathA_root h (enL_length ps V), ends, sumOf_filt]
  exact sumR_congr fun x _ => by rw [Int.toNat_natCast]
theorem s_end {ps ws : List Int} (h : Tr ps ws) {x : Nat} (he : endB ps x = true) : nth (sums ps ws) x = nth ws x := by
  rw [sums_kids h, kidSum_end he (Nat.le_refl _)]; omega
theorem s_inner {ps ws : List Int} (h : Tr ps ws) {x : Nat} (hx : x < ps.length) (he : endB ps x = false) : nth (sums ps ws) x = kidSum ps (fun y => nth (sums ps ws) y) x ps.length := by
  have h1 := sums_kids h x
  rw [h.inner x hx he, Int.zero_add] at h1
  exact h1
theorem bal_t {ps ws num : List Int} (h : balB ps ws num = true) : ∀ x, x < ps.length → drA ps ws num x = 0 := fun x hx => by simpa using all_get h hx
end Go.Proofs.YtnbomleieianoaaGreat

/- Plain law behind FnStakes: the gains of stakes on a fair process have the mean 0, and on a falling one no greater one. No conditions but those stated. -/
namespace Go.Proofs.YtnbomleieianoaaGreat

/-- The gains at the first k nodes. -/
def gnL (ps l st : List Int) : Nat → List Int
  | 0 => []
  | k + 1 => gnL ps l st k ++ [if k = 0 then 0 else nth (gnL ps l st k) (par ps k) + nth st (par ps k) * (nth l k - nth l (par ps k))]
theorem gnL_length (ps l st : List Int) : ∀ k, (gnL ps l st k).length = k
  | 0 => rfl
  | k + 1 => by rw [gnL, List.length_append, gnL_length ps l st k]; rfl
def gn (ps l st : List Int) (x : Nat) : Int := nth (gnL ps l st (x + 1)) x
theorem gnL_nth (ps l st : List Int) : ∀ (k x : Nat), x < k → nth (gnL ps l st k) x = gn ps l st x
  | 0, x, h => by omega
  | k + 1, x, h => by
    by_cases e : x = k
    · subst e; rfl
    · rw [gnL, nth_append_l (by rw [gnL_length]; omega), gnL_nth ps l st k x (by omega)]
theorem gn_zero (ps l st : List Int) : gn ps l st 0 = 0 := rfl
theorem gn_up {ps l st : List Int} {x : Nat} (h1 : 1 ≤ x) (hp : par ps x < x) : gn ps l st x = gn ps l st (par ps x) + nth st (par ps x) * (nth l x - nth l (par ps x)) := by
  unfold gn
  rw [gnL, if_neg (by omega)]
  have := nth_append_r (xs := gnL ps l st x) (y := nth (gnL ps l st x) (par ps x) + nth st (par ps x) * (nth l x - nth l (par ps x)))
  rw [gnL_length] at this
  rw [this, gnL_nth ps l st x _ hp]; rfl
/-- The gains of stakes. -/
def gains (ps l st : List Int) : List Int := gnL ps l st ps.length
theorem gains_length (ps l st : List Int) : (gains ps l st).length = ps.length := gnL_length _ _ _ _
theorem nth_gains {ps l st : List Int} {x : Nat} (h : x < ps.length) : nth (gains ps l st) x = gn ps l st x := gnL_nth _ _ _ _ _ h
theorem stake_bd {s a b : Int} (hs : -20 ≤ s ∧ s ≤ 20) (ha : -999 ≤ a ∧ a ≤ 999) (hb : -999 ≤ b ∧ b ≤ 999) : -39960 ≤ s * (a - b) ∧ s * (a - b) ≤ 39960 := by
  have hd : -1998 ≤ a - b ∧ a - b ≤ 1998 := by omega
  generalize a - b = d at hd
  rcases (show s = -20 ∨ s = -19 ∨ s = -18 ∨ s = -17 ∨ s = -16 ∨ s = -15 ∨ s = -14 ∨ s = -13 ∨ s = -12 ∨ s = -11 ∨ s = -10 ∨ s = -9 ∨ s = -8 ∨ s = -7 ∨ s = -6 ∨ s = -5 ∨ s = -4 ∨ s = -3 ∨ s = -2 ∨ s = -1 ∨ s = 0 ∨ s = 1 ∨ s = 2 ∨ s = 3 ∨ s = 4 ∨ s = 5 ∨ s = 6 ∨ s = 7 ∨ s = 8 ∨ s = 9 ∨ s = 10 ∨ s = 11 ∨ s = 12 ∨ s = 13 ∨ s = 14 ∨ s = 15 ∨ s = 16 ∨ s = 17 ∨ s = 18 ∨ s = 19 ∨ s = 20 by omega) with rfl | rfl | rfl | rfl | rfl | rfl | rfl | rfl | rfl | rfl | rfl | rfl | rfl | rfl | rfl | rfl | rfl | rfl | rfl | rfl | rfl | rfl | rfl | rfl | rfl | rfl | rfl | rfl | rfl | rfl | rfl | rfl | rfl | rfl | rfl | rfl | rfl | rfl | rfl | rfl | rfl <;> omega
theorem gn_bd {ps l st : List Int} (h : Pa ps) (hl : ∀ i, -999 ≤ nth l i ∧ nth l i ≤ 999) (hs : ∀ i, -20 ≤ nth st i ∧ nth st i ≤ 20) : ∀ x, x < ps.length → -(39960 * (x : Int)) ≤ gn ps l st x ∧ gn ps l st x ≤ 39960 * (x : Int) := by
  refine h.above ?_ ?_
  · rw [gn_zero]; omega
  · intro x h1 h2 ih
    have hp := h.upN h1 h2
    have := stake_bd (hs (par ps x)) (hl x) (hl (par ps x))
    rw [gn_up h1 hp.2]; omega
/-- What the children's gains have together. -/
theorem gn_kids {ps ws l st : List Int} (h : Tr ps ws) {x : Nat} (hx : x < ps.length) (he : endB ps x = false) : kidSum ps (fun y => nth (sums ps ws) y * gn ps l st y) x ps.length = nth (sums ps ws) x * gn ps l st x + nth st x * drA ps ws l x := by
  have h1 : kidSum ps (fun y => nth (sums ps ws) y * gn ps l st y) x ps.length = kidSum ps (fun y => gn ps l st x * nth (sums ps ws) y + nth st x * (nth (sums ps ws) y * (nth l y - nth l x))) x ps.length := kidSum_congr fun y hy e => by
    have hk := kid_par h.toPa hy e
    have hp := h.toPa.upN hk.1 hy
    rw [gn_up hk.1 hp.2, hk.2]
    grind
  rw [h1, kidSum_add ps (fun y => gn ps l st x * nth (sums ps ws) y) (fun y => nth st x * (nth (sums ps ws) y * (nth l y - nth l x))), kidSum_mul ps (fun y => nth (sums ps ws) y), kidSum_mul ps (fun y => nth (sums ps ws) y * (nth l y - nth l x)), ← s_inner h hx he, Int.mul_comm (gn ps l st x)]
  rfl
/-- Does no drift go up? -/
def fallB (ps ws l : List Int) : Bool := (List.range ps.length).all fun x => decide (drA ps ws l x ≤ 0)
theorem fall_t {ps ws l : List Int} (h : fallB ps ws l = true) : ∀ x, x < ps.length → drA ps ws l x ≤ 0 := fun x hx => by simpa using all_get h hx
theorem gain_fair {ps ws l st : List Int} (h : Tr ps ws) (hb : ∀ x, x < ps.length → drA ps ws l x = 0) : ∀ x, x < ps.length → enG ps (fun e => nth ws e * gn ps l st e) x = nth (sums ps ws) x * gn ps l st x := by
  refine h.toPa.below ?_
  intro x hx ih
  cases he : endB ps x
  · rw [enG_inner h.toPa _ hx he, kidSum_congr (g := fun y => nth (sums ps ws) y * gn ps l st y) fun y hy e => ih y hy e, gn_kids h hx he, hb x hx]; omega
  · rw [enG_end h.toPa _ hx he, s_end h he]
theorem gain_fall {ps ws l st : List Int} (h : Tr ps ws) (hb : ∀ x, x < ps.length → drA ps ws l x ≤ 0) (hs : ∀ x, 0 ≤ nth st x) : ∀ x, x < ps.length → enG ps (fun e => nth ws e * gn ps l st e) x ≤ nth (sums ps ws) x * gn ps l st x := by
  refine h.toPa.below ?_
  intro x hx ih
  cases he : endB ps x
  · have h1 := kidSum_le (ps := ps) (f := enG ps (fun e => nth ws e * gn ps l st e)) (g := fun y => nth (sums ps ws) y * gn ps l st y) (x := x) (k := ps.length) fun y hy e => ih y hy e
    rw [gn_kids h hx he] at h1
    have h2 := Int.mul_nonneg (hs x) (show 0 ≤ -(drA ps ws l x) by have := hb x hx; omega)
    rw [Int.mul_neg] at h2
    rw [enG_inner h.toPa _ hx he]; omega
  · rw [enG_end h.toPa _ hx he, s_end h he]; exact Int.le_refl _
theorem enG_all {ps ws : List Int} (h : Tr ps ws) (g : Nat → Int) : sumR (fun x => nth ws x * g x) ps.length = enG ps (fun e => nth ws e * g e) 0 := by
  rw [enG, gathA_root h.toPa (enL_length _ _)]
  exact sumR_congr fun x hx => by
    cases he : endB ps x
    · rw [h.inner x hx he]; simp
    · simp
theorem total_fair {ps ws l st : List Int} (h : Tr ps ws) (hb : balB ps ws l = true) : sumR (fun x => nth ws x * gn ps l st x) ps.length = 0 := by
  rw [enG_all h, gain_fair h (bal_t hb) 0 (by have := h.n1; omega), gn_zero]; omega
theorem total_fall {ps ws l st : List Int} (h : Tr ps ws) (hb : fallB ps ws l = true) (hs : ∀ x, 0 ≤ nth st x) : sumR (fun x => nth ws x * gn ps l st x) ps.length ≤ 0 := by
  have := gain_fall (st := st) h (fall_t hb) hs 0 (by have := h.n1; omega)
  rw [enG_all h]
  rw [gn_zero] at this; omega
end Go.Proofs.YtnbomleieianoaaGreat

/- Contract: are all numbers of a list between two others. -/
namespace Go.Proofs.YtnbomleieianoaaGreat
open Go.RowKit

set_option maxHeartbeats 400000 in
theorem impl_allWithin (a : Option Addr) (n cap : Nat) (lo up : Int) (xs : List Int) (w : World) (hn : n ≤ 4294967296) (h : Ints w a n xs) :
    Calls Tryz.prog 109 #[.slice a n cap, .int .i64 lo, .int .i64 up] w fun e w' => e = .returned (.bool (allIn xs lo up)) ∧ w = w' := by
  have hl := Lib.hid h.1
  have H := Lib.hid h
  clear h
  go_enter Tryz.func109, Tryz.ntmps109
  go_wp2_with fail
  go_loop [11] (fun v11 => ∃ i : Nat, i ≤ n ∧ v11 = .int .i64 (i : Int) ∧ ∀ j, j < i → inB (nth xs j) lo up = true) (fun v11 => n - (intOf v11).toNat)
  case atStart => exact ⟨0, Nat.zero_le _, rfl, fun j hj => by omega⟩
  case round =>
    obtain ⟨i, hi, rfl, hall⟩ := hrel
    have Hall := Lib.hid hall
    clear hall
    by_cases hlt : (i : Int) < n
    · obtain ⟨b, off, rfl, hb, hc⟩ := H.out.2 (by omega)
      have h1 := hc i (by omega)
      clear hc
      cases hin : inB (nth xs i) lo up
      · go_wp2_with fail
        refine (impl_within _ _ _ _).mono ?_
        rintro e w1 ⟨rfl, rfl⟩
        go_wp2_with fail
        go_ret
        exact ⟨by rw [show allIn xs lo up = false from all_f (i := i) (by have := hl.out; omega) hin]; rfl, rfl⟩
      · go_wp2_with fail
        refine (impl_within _ _ _ _).mono ?_
        rintro e w1 ⟨rfl, rfl⟩
        go_wp2_with fail
        go_round
        case rel => exact ⟨i + 1, by omega, by go_num, fun j hj => by
          by_cases e : j = i
          · subst e; exact hin
          · exact Hall.out j (by omega)⟩
        case measure => simp [intOf]; omega
    · go_wp2_with fail
      go_ret
      exact ⟨by rw [show allIn xs lo up = true from all_t fun j hj => Hall.out j (by have := hl.out; omega)]; rfl, rfl⟩
end Go.Proofs.YtnbomleieianoaaGreat

/- Plain lists: sums, and the chances of fortunes behind some rolls. Nothing of the program. -/
namespace Go.Proofs.YtnbomleieianoaaGreat

def sumL : List Int → Int
  | [] => 0
  | x :: xs => x + sumL xs
theorem sumL_append (xs ys : List Int) : sumL (xs ++ ys) = sumL xs + sumL ys := by
  induction xs with
  | nil => simp [sumL]
  | cons x xs ih => simp only [List.cons_append, sumL, ih]; omega
theorem sumL_replicate (n : Nat) : sumL (List.replicate n 0) = 0 := by
  induction n with
  | zero => rfl
  | succ n ih => simp only [List.replicate_succ, sumL, ih]; rfl
theorem nth_cons_zero (x : Int) (xs : List Int) : nth (x :: xs) 0 = x := rfl
theorem nth_cons_succ (x : Int) (xs : List Int) (i : Nat) : nth (x :: xs) (i + 1) = nth xs i := by simp [nth, List.getD]
theorem sumL_set : ∀ (xs : List Int) (i : Nat) (v : Int), i < xs.length → sumL (xs.set i v) = sumL xs - nth xs i + v
  | [], i, _, h => by simp at h
  | x :: xs, 0, v, _ => by simp only [List.set_cons_zero, sumL, nth_cons_zero]; omega
  | x :: xs, i + 1, v, h => by
    simp only [List.set_cons_succ, sumL, nth_cons_succ]
    rw [sumL_set xs i v (by simpa using h)]; omega
theorem sumL_take_succ (xs : List Int) (i : Nat) (h : i < xs.length) : sumL (xs.take (i + 1)) = sumL (xs.take i) + nth xs i := by
  rw [take_succ_nth h, sumL_append]; simp [sumL]
def NN (xs : List Int) : Prop := ∀ i, 0 ≤ nth xs i
theorem NN.tail {x : Int} {xs : List Int} (h : NN (x :: xs)) : NN xs := fun i => by have := h (i + 1); rwa [nth_cons_succ] at this
theorem sumL_nn : ∀ {xs : List Int}, NN xs → 0 ≤ sumL xs
  | [], _ => by simp [sumL]
  | x :: xs, h => by have h0 := h 0; have := sumL_nn h.tail; rw [nth_cons_zero] at h0; simp only [sumL]; omega
theorem nth_le_sumL : ∀ {xs : List Int}, NN xs → ∀ i, nth xs i ≤ sumL xs
  | [], _, i => by rw [nth_ge (by simp)]; simp [sumL]
  | x :: xs, h, 0 => by have := sumL_nn h.tail; rw [nth_cons_zero]; simp only [sumL]; omega
  | x :: xs, h, i + 1 => by have h0 := h 0; have := nth_le_sumL h.tail i; rw [nth_cons_zero] at h0; rw [nth_cons_succ]; simp only [sumL]; omega
theorem NN.take {xs : List Int} (h : NN xs) (k : Nat) : NN (xs.take k) := fun i => by
  have := h i
  unfold nth at this ⊢
  simp only [List.getD_eq_getElem?_getD, List.getElem?_take] at this ⊢
  split
  · exact this
  · simp
theorem NN.set {xs : List Int} (h : NN xs) {i : Nat} {v : Int} (hi : i < xs.length) (hv : 0 ≤ v) : NN (xs.set i v) := fun j => by
  rw [nth_set hi]
  split
  · exact hv
  · exact h j
theorem NN.zeros (n : Nat) : NN (List.replicate n 0) := fun i => by rw [nth_replicate]; exact Int.le_refl 0
theorem sumL_take_le {xs : List Int} (h : NN xs) (k : Nat) : sumL (xs.take k) ≤ sumL xs := by
  have : sumL xs = sumL (xs.take k) + sumL (xs.drop k) := by rw [← sumL_append, List.take_append_drop]
  have h2 : NN (xs.drop k) := fun i => by
    have := h (k + i)
    unfold nth at this ⊢
    simpa only [List.getD_eq_getElem?_getD, List.getElem?_drop] using this
  have := sumL_nn h2
  omega

/-- One place's part of a roll. -/
def roll1 (a b : Int) (now o : List Int) (i : Nat) : List Int :=
  if i = 0 ∨ i + 1 = now.length then o.set i (nth o i + (a + b) * nth now i)
  else
    let o1 := o.set (i + 1) (nth o (i + 1) + a * nth now i)
    o1.set (i - 1) (nth o1 (i - 1) + b * nth now i)
def rollP (a b : Int) (now : List Int) : Nat → List Int
  | 0 => List.replicate now.length 0
  | i + 1 => roll1 a b now (rollP a b now i) i
def rollK (a b : Int) (n i : Nat) : Nat → List Int
  | 0 => (List.replicate (n + 1) 0).set i 1
  | k + 1 => rollP a b (rollK a b n i k) (n + 1)
theorem roll1_length (a b : Int) (now o : List Int) (i : Nat) : (roll1 a b now o i).length = o.length := by unfold roll1; split <;> simp
theorem rollP_length (a b : Int) (now : List Int) (i : Nat) : (rollP a b now i).length = now.length := by
  induction i with
  | zero => simp [rollP]
  | succ i ih => rw [rollP, roll1_length, ih]
theorem rollK_length (a b : Int) (n i k : Nat) : (rollK a b n i k).length = n + 1 := by
  induction k with
  | zero => simp [rollK]
  | succ k ih => rw [rollK, rollP_length, ih]
theorem roll1_sum (a b : Int) (now o : List Int) (i : Nat) (ho : o.length = now.length) (hi : i < now.length) : sumL (roll1 a b now o i) = sumL o + (a + b) * nth now i := by
  unfold roll1
  split
  · rw [sumL_set _ _ _ (by omega)]; omega
  · rw [sumL_set _ _ _ (by simp; omega), sumL_set _ _ _ (by omega), Int.add_mul]; omega
theorem roll1_nn {a b : Int} {now o : List Int} {i : Nat} (ha : 0 ≤ a) (hb : 0 ≤ b) (hn : NN now) (ho : NN o) (hl : o.length = now.length) (hi : i < now.length) : NN (roll1 a b now o i) := by
  have hc := hn i
  have h1 : 0 ≤ a * nth now i := Int.mul_nonneg ha hc
  have h2 : 0 ≤ b * nth now i := Int.mul_nonneg hb hc
  have h3 : 0 ≤ (a + b) * nth now i := Int.mul_nonneg (by omega) hc
  unfold roll1
  split
  · exact ho.set (by omega) (by have := ho i; omega)
  · have hs := ho.set (i := i + 1) (v := nth o (i + 1) + a * nth now i) (by omega) (by have := ho (i + 1); omega)
    exact hs.set (by simp; omega) (by have := hs (i - 1); omega)
theorem rollP_sum (a b : Int) (now : List Int) (i : Nat) (hi : i ≤ now.length) : sumL (rollP a b now i) = (a + b) * sumL (now.take i) := by
  induction i with
  | zero => rw [rollP, sumL_replicate]; simp [sumL]
  | succ i ih => rw [rollP, roll1_sum _ _ _ _ _ (rollP_length _ _ _ _) (by omega), ih (by omega), sumL_take_succ _ _ (by omega), Int.mul_add]
theorem rollP_nn {a b : Int} {now : List Int} (ha : 0 ≤ a) (hb : 0 ≤ b) (hn : NN now) (i : Nat) (hi : i ≤ now.length) : NN (rollP a b now i) := by
  induction i with
  | zero => exact NN.zeros _
  | succ i ih => exact roll1_nn ha hb hn (ih (by omega)) (rollP_length _ _ _ _) (by omega)
def powI (a : Int) : Nat → Int
  | 0 => 1
  | k + 1 => powI a k * a
theorem rollK_nn {a b : Int} (ha : 0 ≤ a) (hb : 0 ≤ b) (n i k : Nat) : NN (rollK a b n i k) := by
  induction k with
  | zero => intro j; rw [rollK]; by_cases h : i < n + 1
            · rw [nth_set (by simpa using h), nth_replicate]; split <;> omega
            · rw [List.set_eq_of_length_le (by simp; omega), nth_replicate]; omega
  | succ k ih => exact rollP_nn ha hb ih _ (by rw [rollK_length]; exact Nat.le_refl _)
theorem rollK_sum (a b : Int) (n i k : Nat) (hi : i ≤ n) : sumL (rollK a b n i k) = powI (a + b) k := by
  induction k with
  | zero => rw [rollK, sumL_set _ _ _ (by simp; omega), sumL_replicate, nth_replicate]; rfl
  | succ k ih => rw [rollK, rollP_sum _ _ _ _ (by rw [rollK_length]; exact Nat.le_refl _), List.take_of_length_le (by rw [rollK_length]; exact Nat.le_refl _), ih, powI, Int.mul_comm]
theorem powI_bd (a : Int) (h0 : 0 ≤ a) (h1 : a ≤ 40) (k : Nat) : 0 ≤ powI a k ∧ powI a k ≤ powI 40 k := by
  induction k with
  | zero => simp [powI]
  | succ k ih => simp only [powI]; exact ⟨Int.mul_nonneg ih.1 h0, Int.mul_le_mul ih.2 h1 h0 (by omega)⟩
theorem powI40 (k : Nat) (h : k ≤ 8) : powI 40 k ≤ 6553600000000 := by
  have : ∀ k, k ≤ 8 → powI 40 k ≤ 6553600000000 := by decide
  exact this k h
theorem rollK_bd {a b : Int} (ha : 0 ≤ a) (hb : 0 ≤ b) (h : a + b ≤ 40) (n i k : Nat) (hi : i ≤ n) (hk : k ≤ 8) : NN (rollK a b n i k) ∧ sumL (rollK a b n i k) ≤ 6553600000000 := by
  refine ⟨rollK_nn ha hb n i k, ?_⟩
  rw [rollK_sum _ _ _ _ _ hi]
  have := powI_bd (a + b) (by omega) h k
  have := powI40 k hk
  omega
/-- What is added and held within a roll stays small. -/
theorem roll_bd {a b : Int} {now : List Int} {M : Int} (ha : 0 ≤ a) (hb : 0 ≤ b) (h : a + b ≤ 40) (hn : NN now) (hM : sumL now ≤ M) (i : Nat) (hi : i < now.length) :
    NN (rollP a b now i) ∧ 0 ≤ nth now i ∧ nth now i ≤ M ∧ 0 ≤ a * nth now i ∧ 0 ≤ b * nth now i ∧ (a + b) * nth now i = a * nth now i + b * nth now i ∧ sumL (rollP a b now i) + (a + b) * nth now i ≤ 40 * M := by
  have h1 := nth_le_sumL hn i
  have h2 := rollP_sum a b now (i + 1) (by omega)
  rw [rollP, roll1_sum _ _ _ _ _ (rollP_length _ _ _ _) hi] at h2
  have h3 := sumL_take_le hn (i + 1)
  have h4 := sumL_nn (hn.take (i + 1))
  have h5 : (a + b) * sumL (now.take (i + 1)) ≤ 40 * M := Int.mul_le_mul h (by omega) h4 (by omega)
  refine ⟨rollP_nn ha hb hn i (by omega), hn i, by omega, Int.mul_nonneg ha (hn i), Int.mul_nonneg hb (hn i), Int.add_mul _ _ _, by omega⟩
end Go.Proofs.YtnbomleieianoaaGreat

/- Plain numbers: powers, sums of products of powers, the chance of ruin as a quotient. Nothing of the program. -/
namespace Go.Proofs.YtnbomleieianoaaGreat

def termS (a b : Int) (k : Nat) : Nat → Int
  | 0 => 0
  | j + 1 => termS a b k j + powI a j * powI b (k - 1 - j)
theorem powI_succ (a : Int) (k : Nat) : powI a (k + 1) = powI a k * a := rfl
theorem termS_id (a b : Int) (k m : Nat) (h : m ≤ k) : (a - b) * termS a b k m = powI b (k - m) * (powI a m - powI b m) := by
  induction m with
  | zero => simp [termS, powI]
  | succ m ih =>
    have ih := ih (by omega)
    obtain ⟨r, hr⟩ : ∃ r, k = m + 1 + r := ⟨k - (m + 1), by omega⟩
    subst hr
    rw [show m + 1 + r - m = r + 1 by omega] at ih
    rw [termS, show m + 1 + r - 1 - m = r by omega, show m + 1 + r - (m + 1) = r by omega, Int.mul_add, ih, powI_succ, powI_succ, powI_succ]
    grind
theorem terms_id (a b : Int) (k : Nat) : (a - b) * termS a b k k = powI a k - powI b k := by
  rw [termS_id a b k k (Nat.le_refl _)]; simp [powI]
theorem powI_add (a : Int) (j k : Nat) : powI a (j + k) = powI a j * powI a k := by
  induction k with
  | zero => simp [powI]
  | succ k ih => rw [show j + (k + 1) = j + k + 1 by omega, powI_succ, powI_succ, ih, Int.mul_assoc]
theorem powI_pos {a : Int} (h : 1 ≤ a) (k : Nat) : 1 ≤ powI a k := by
  induction k with
  | zero => simp [powI]
  | succ k ih => rw [powI_succ]; have := Int.mul_le_mul ih h (by omega) (by omega); omega
theorem powI_le {a c : Int} (h0 : 0 ≤ a) (h1 : a ≤ c) (k : Nat) : 0 ≤ powI a k ∧ powI a k ≤ powI c k := by
  induction k with
  | zero => simp [powI]
  | succ k ih => simp only [powI]; exact ⟨Int.mul_nonneg ih.1 h0, Int.mul_le_mul ih.2 h1 h0 (by omega)⟩
theorem pow20 (k : Nat) (h : k ≤ 12) : 1 ≤ powI 20 k ∧ powI 20 k ≤ 4096000000000000 := by
  have : ∀ k, k ≤ 12 → 1 ≤ powI 20 k ∧ powI 20 k ≤ 4096000000000000 := by decide
  exact this k h
theorem powI_bd20 {a : Int} (h0 : 1 ≤ a) (h1 : a ≤ 20) (k : Nat) (hk : k ≤ 12) : 1 ≤ powI a k ∧ powI a k ≤ 4096000000000000 := by
  have h2 := powI_pos h0 k
  have h3 := powI_le (c := 20) (by omega) h1 k
  have h4 := pow20 k hk
  omega
theorem prod_bd20 {a b : Int} (ha : 1 ≤ a ∧ a ≤ 20) (hb : 1 ≤ b ∧ b ≤ 20) (j k : Nat) : 1 ≤ powI a j * powI b k ∧ powI a j * powI b k ≤ powI 20 (j + k) := by
  have h1 := powI_pos ha.1 j
  have h2 := powI_pos hb.1 k
  have h3 := powI_le (c := 20) (a := a) (by omega) ha.2 j
  have h4 := powI_le (c := 20) (a := b) (by omega) hb.2 k
  refine ⟨?_, ?_⟩
  · have := Int.mul_le_mul h1 h2 (by omega) (by omega); omega
  · rw [powI_add]; exact Int.mul_le_mul h3.2 h4.2 (by omega) (by omega)
theorem termS_bd {a b : Int} (ha : 1 ≤ a ∧ a ≤ 20) (hb : 1 ≤ b ∧ b ≤ 20) (k m : Nat) (h : m ≤ k) : (m : Int) ≤ termS a b k m ∧ termS a b k m ≤ m * powI 20 (k - 1) := by
  induction m with
  | zero => simp [termS]
  | succ m ih =>
    have ih := ih (by omega)
    have := prod_bd20 ha hb m (k - 1 - m)
    rw [show m + (k - 1 - m) = k - 1 by omega] at this
    rw [termS]
    have e : ((m + 1 : Nat) : Int) * powI 20 (k - 1) = m * powI 20 (k - 1) + powI 20 (k - 1) := by
      rw [Int.natCast_add, Int.add_mul]; simp
    omega
theorem termS_bd12 {a b : Int} (ha : 1 ≤ a ∧ a ≤ 20) (hb : 1 ≤ b ∧ b ≤ 20) (k m : Nat) (h : m ≤ k) (hk : k ≤ 12) : (m : Int) ≤ termS a b k m ∧ termS a b k m ≤ 49152000000000000 := by
  have h1 := termS_bd ha hb k m h
  have h2 := pow20 (k - 1) (by omega)
  have h3 : (m : Int) * powI 20 (k - 1) ≤ 12 * 4096000000000000 := Int.mul_le_mul (by omega) h2.2 (by omega) (by omega)
  omega
/-- The chance of timid play as the program has it: top and bottom. -/
def ruT (a b : Int) (i n : Nat) : Int := if a = b then (i : Int) else powI a (n - i) * (powI a i - powI b i)
def ruB (a b : Int) (n : Nat) : Int := if a = b then (n : Int) else powI a n - powI b n
/-- The same as the reference has it. -/
def chT (a b : Int) (i n : Nat) : Int := if a = b then (i : Int) else powI a (n - i) * termS a b i i
def chB (a b : Int) (n : Nat) : Int := if a = b then (n : Int) else termS a b n n
theorem chB_pos {a b : Int} (ha : 1 ≤ a ∧ a ≤ 20) (hb : 1 ≤ b ∧ b ≤ 20) (n : Nat) (hn : 1 ≤ n) : 1 ≤ chB a b n := by
  unfold chB
  split
  · omega
  · have := (termS_bd ha hb n n (Nat.le_refl _)).1; omega
theorem ru_ch {a b : Int} (i n : Nat) (h : a ≠ b) : ruT a b i n = (a - b) * chT a b i n ∧ ruB a b n = (a - b) * chB a b n := by
  unfold ruT ruB chT chB
  rw [if_neg h, if_neg h, if_neg h, if_neg h, terms_id, ← terms_id a b i]
  exact ⟨by grind, rfl⟩
/-- Both quotients are one. -/
theorem ru_eq {a b : Int} (ha : 1 ≤ a ∧ a ≤ 20) (hb : 1 ≤ b ∧ b ≤ 20) (i n : Nat) (hn : 1 ≤ n) :
    nm (ruT a b i n) (ruB a b n) = nm (chT a b i n) (chB a b n) ∧ dn (ruT a b i n) (ruB a b n) = dn (chT a b i n) (chB a b n) ∧ ruB a b n ≠ 0 := by
  have hc := chB_pos ha hb n hn
  by_cases h : a = b
  · unfold ruT ruB chT chB
    rw [if_pos h, if_pos h, if_pos h, if_pos h]; exact ⟨rfl, rfl, by omega⟩
  · have := ru_ch i n h
    rw [this.1, this.2]
    have h2 := nm_scale (k := a - b) (x := chT a b i n) (y := chB a b n) (by omega) (by omega)
    exact ⟨h2.1, h2.2, Int.mul_ne_zero (by omega) (by omega)⟩
theorem ruT_bd {a b : Int} (ha : 1 ≤ a ∧ a ≤ 20) (hb : 1 ≤ b ∧ b ≤ 20) (i n : Nat) (hi : i ≤ n) (hn : n ≤ 12) : -4096000000000000 ≤ ruT a b i n ∧ ruT a b i n ≤ 4096000000000000 := by
  unfold ruT
  split
  · omega
  · have h1 := prod_bd20 ha ha (n - i) i
    have h2 := prod_bd20 ha hb (n - i) i
    have h3 := pow20 (n - i + i) (by omega)
    rw [Int.mul_sub]; omega
theorem ruB_bd {a b : Int} (ha : 1 ≤ a ∧ a ≤ 20) (hb : 1 ≤ b ∧ b ≤ 20) (n : Nat) (hn : n ≤ 12) : -4096000000000000 ≤ ruB a b n ∧ ruB a b n ≤ 4096000000000000 := by
  unfold ruB
  split
  · omega
  · have := powI_bd20 ha.1 ha.2 n hn
    have := powI_bd20 hb.1 hb.2 n hn
    omega
theorem chT_bd {a b : Int} (ha : 1 ≤ a ∧ a ≤ 20) (hb : 1 ≤ b ∧ b ≤ 20) (i n : Nat) (hi : i ≤ n) (hn : n ≤ 12) : 0 ≤ chT a b i n ∧ chT a b i n ≤ 49152000000000000 := by
  unfold chT
  split
  · omega
  · by_cases h0 : i = 0
    · subst h0; simp [termS]
    · have h1 := powI_le (c := 20) (a := a) (by omega) ha.2 (n - i)
      have h2 := termS_bd ha hb i i (Nat.le_refl _)
      have h3 : powI a (n - i) * termS a b i i ≤ powI 20 (n - i) * (i * powI 20 (i - 1)) := Int.mul_le_mul h1.2 h2.2 (by omega) (by omega)
      have h4 : powI 20 (n - i) * ((i : Int) * powI 20 (i - 1)) = i * powI 20 (n - i + (i - 1)) := by rw [powI_add]; grind
      have h5 := pow20 (n - i + (i - 1)) (by omega)
      have h6 : (i : Int) * powI 20 (n - i + (i - 1)) ≤ 12 * 4096000000000000 := Int.mul_le_mul (by omega) h5.2 (by omega) (by omega)
      have h7 := Int.mul_nonneg h1.1 (show 0 ≤ termS a b i i by omega)
      omega
end Go.Proofs.YtnbomleieianoaaGreat

/- Plain numbers: the mean number of rolls of timid play as a quotient; both ways to reckon it agree. Nothing of the program. -/
namespace Go.Proofs.YtnbomleieianoaaGreat

theorem nm_mul (a b : Int) (hb : b ≠ 0) : nm a b * b = a * dn a b := by
  have hp := gcdI_pos (a := a) hb
  obtain ⟨q1, h1⟩ := gcdI_dvd_l a b
  obtain ⟨q2, h2⟩ := gcdI_dvd_r a b
  have e1 : a / gcdI a b = q1 := by
    have := Int.mul_ediv_cancel_left q1 (show gcdI a b ≠ 0 by omega)
    rwa [← h1] at this
  have e2 : b / gcdI a b = q2 := by
    have := Int.mul_ediv_cancel_left q2 (show gcdI a b ≠ 0 by omega)
    rwa [← h2] at this
  have h3 : q1 * b = a * q2 := by
    have hh : q1 * (gcdI a b * q2) = gcdI a b * q1 * q2 := by grind
    rw [← h1, ← h2] at hh; exact hh
  unfold nm dn
  rw [e1, e2]
  split
  · rw [Int.neg_mul, Int.mul_neg, h3]
  · exact h3
theorem powI_mul (d a : Int) (k : Nat) : powI (d * a) k = powI d k * powI a k := by
  induction k with
  | zero => simp [powI]
  | succ k ih => rw [powI_succ, powI_succ, powI_succ, ih]; grind
/-- Weights of one ratio have one chance. -/
theorem ru_ratio {d a b : Int} (hd : d ≠ 0) (hab : a ≠ b) (i n : Nat) (hi : i ≤ n) :
    ruT (d * a) (d * b) i n = powI d n * ruT a b i n ∧ ruB (d * a) (d * b) n = powI d n * ruB a b n := by
  have h : d * a ≠ d * b := fun e => hab (Int.eq_of_mul_eq_mul_left hd e)
  unfold ruT ruB
  rw [if_neg h, if_neg hab, if_neg h, if_neg hab, powI_mul, powI_mul, powI_mul, powI_mul, powI_mul]
  constructor
  · have e : powI d n = powI d (n - i) * powI d i := by rw [← powI_add]; congr 1; omega
    rw [e]; grind
  · grind
theorem powI_ne {d : Int} (hd : 1 ≤ d) (k : Nat) : powI d k ≠ 0 := by have := powI_pos hd k; omega
/-- The program's pair of chances, whatever common divisor has been struck from it, is in the ratio of the reference's. -/
theorem ratio_cross {d a b t s c : Int} (hd : 1 ≤ d) (hab : a ≠ b) (ha : 1 ≤ d * a ∧ d * a ≤ 20) (hb : 1 ≤ d * b ∧ d * b ≤ 20) (i n : Nat) (hi : i ≤ n) (hn : 1 ≤ n)
    (ht : ruT a b i n = c * t) (hs : ruB a b n = c * s) (hc : c ≠ 0) :
    t * dn (chT (d * a) (d * b) i n) (chB (d * a) (d * b) n) = nm (chT (d * a) (d * b) i n) (chB (d * a) (d * b) n) * s := by
  have h1 := ru_eq ha hb i n hn
  have h2 := ru_ratio (show d ≠ 0 by omega) hab i n hi
  have h3 := nm_mul (ruT (d * a) (d * b) i n) (ruB (d * a) (d * b) n) h1.2.2
  rw [h1.1, h1.2.1, h2.1, h2.2, ht, hs] at h3
  generalize nm (chT (d * a) (d * b) i n) (chB (d * a) (d * b) n) = x at *
  generalize dn (chT (d * a) (d * b) i n) (chB (d * a) (d * b) n) = y at *
  have hp := powI_ne hd n
  have h4 : (powI d n * c) * (x * s) = (powI d n * c) * (t * y) := by grind
  exact (Int.eq_of_mul_eq_mul_left (Int.mul_ne_zero hp hc) h4).symm
/-- Top and bottom of the mean, out of a pair p, q that is the chance. -/
def mnT (a b i n p q : Int) : Int := (a + b) * (i * q - n * p)
def mnB (a b q : Int) : Int := (b - a) * q
theorem mean_eq {d a b i n p q t s : Int} (hd : 1 ≤ d) (hab : a ≠ b) (hq : q ≠ 0) (hs : s ≠ 0) (h : t * q = p * s) :
    nm (mnT a b i n t s) (mnB a b s) = nm (mnT (d * a) (d * b) i n p q) (mnB (d * a) (d * b) q) ∧ dn (mnT a b i n t s) (mnB a b s) = dn (mnT (d * a) (d * b) i n p q) (mnB (d * a) (d * b) q) := by
  have hba : b - a ≠ 0 := by omega
  have hbd : d * b - d * a ≠ 0 := fun e => hab (Int.eq_of_mul_eq_mul_left (show d ≠ 0 by omega) (by omega))
  apply nm_cross
  · exact Int.mul_ne_zero hba hs
  · exact Int.mul_ne_zero hbd hq
  · unfold mnT mnB
    have e1 : n * (t * q) = n * (p * s) := by rw [h]
    grind
theorem chT_bd2 {a b : Int} (ha : 1 ≤ a ∧ a ≤ 20) (hb : 1 ≤ b ∧ b ≤ 20) (i n : Nat) (hi : i ≤ n) (hn1 : 1 ≤ n) (hn : n ≤ 12) : 0 ≤ chT a b i n ∧ chT a b i n ≤ 2457600000000000 := by
  unfold chT
  split
  · omega
  · by_cases h0 : i = 0
    · subst h0; simp [termS]
    · have h1 := powI_le (c := 20) (a := a) (by omega) ha.2 (n - i)
      have h2 := termS_bd ha hb i i (Nat.le_refl _)
      have h3 : powI a (n - i) * termS a b i i ≤ powI 20 (n - i) * (i * powI 20 (i - 1)) := Int.mul_le_mul h1.2 h2.2 (by omega) (by omega)
      have h4 : powI 20 (n - i) * ((i : Int) * powI 20 (i - 1)) = i * powI 20 (n - 1) := by rw [show n - 1 = n - i + (i - 1) by omega, powI_add]; grind
      have h5 : 1 ≤ powI 20 (n - 1) ∧ powI 20 (n - 1) ≤ 204800000000000 := by
        have : ∀ k, k ≤ 11 → 1 ≤ powI 20 k ∧ powI 20 k ≤ 204800000000000 := by decide
        exact this (n - 1) (by omega)
      have h6 : (i : Int) * powI 20 (n - 1) ≤ 12 * 204800000000000 := Int.mul_le_mul (by omega) h5.2 (by omega) (by omega)
      have h7 := Int.mul_nonneg h1.1 (show 0 ≤ termS a b i i by omega)
      omega
theorem chB_bd2 {a b : Int} (ha : 1 ≤ a ∧ a ≤ 20) (hb : 1 ≤ b ∧ b ≤ 20) (n : Nat) (hn1 : 1 ≤ n) (hn : n ≤ 12) : 1 ≤ chB a b n ∧ chB a b n ≤ 2457600000000000 := by
  refine ⟨chB_pos ha hb n hn1, ?_⟩
  unfold chB
  split
  · omega
  · have h2 := termS_bd ha hb n n (Nat.le_refl _)
    have h5 : 1 ≤ powI 20 (n - 1) ∧ powI 20 (n - 1) ≤ 204800000000000 := by
      have : ∀ k, k ≤ 11 → 1 ≤ powI 20 k ∧ powI 20 k ≤ 204800000000000 := by decide
      exact this (n - 1) (by omega)
    have h6 : (n : Int) * powI 20 (n - 1) ≤ 12 * 204800000000000 := Int.mul_le_mul (by omega) h5.2 (by omega) (by omega)
    omega
theorem nm_abs (a b : Int) : (nm a b).natAbs ≤ a.natAbs ∧ (dn a b).natAbs ≤ b.natAbs := by
  by_cases h : b < 0
  · have := nm_neg (a := a) h
    rw [this.1, this.2]; exact ⟨tdiv_abs_le _ _, tdiv_abs_le _ _⟩
  · have := nm_pos (a := a) h
    rw [this.1, this.2]; exact ⟨tdiv_abs_le _ _, tdiv_abs_le _ _⟩
/-- What both RuinMean return. -/
def rmX (a b i n : Int) : Int := mnT a b i n (nm (chT a b i.toNat n.toNat) (chB a b n.toNat)) (dn (chT a b i.toNat n.toNat) (chB a b n.toNat))
def rmY (a b i n : Int) : Int := mnB a b (dn (chT a b i.toNat n.toNat) (chB a b n.toNat))
theorem mul_abs_le {a b M N : Int} (h1 : -M ≤ a ∧ a ≤ M) (h2 : -N ≤ b ∧ b ≤ N) : -(M * N) ≤ a * b ∧ a * b ≤ M * N := by
  have e1 : a.natAbs * b.natAbs ≤ M.natAbs * N.natAbs := Nat.mul_le_mul (by omega) (by omega)
  have e2 : (a * b).natAbs = a.natAbs * b.natAbs := Int.natAbs_mul a b
  have e3 : (M * N).natAbs = M.natAbs * N.natAbs := Int.natAbs_mul M N
  have e4 : 0 ≤ M * N := Int.mul_nonneg (by omega) (by omega)
  omega
/-- Bounds of all that is reckoned on the way to the mean. -/
theorem mean_bd {a b i n p q : Int} (ha : 1 ≤ a ∧ a ≤ 20) (hb : 1 ≤ b ∧ b ≤ 20) (hi : 0 ≤ i ∧ i ≤ 12) (hn : 0 ≤ n ∧ n ≤ 12) (hp : -4096000000000000 ≤ p ∧ p ≤ 4096000000000000) (hq : -4096000000000000 ≤ q ∧ q ≤ 4096000000000000) :
    (-49152000000000000 ≤ i * q ∧ i * q ≤ 49152000000000000) ∧ (-49152000000000000 ≤ n * p ∧ n * p ≤ 49152000000000000) ∧
    (-3932160000000000000 ≤ mnT a b i n p q ∧ mnT a b i n p q ≤ 3932160000000000000) ∧ (-81920000000000000 ≤ mnB a b q ∧ mnB a b q ≤ 81920000000000000) := by
  have h1 := mul_abs_le (a := i) (b := q) (M := 12) (N := 4096000000000000) (by omega) (by omega)
  have h2 := mul_abs_le (a := n) (b := p) (M := 12) (N := 4096000000000000) (by omega) (by omega)
  have h3 := mul_abs_le (a := a + b) (b := i * q - n * p) (M := 40) (N := 98304000000000000) (by omega) (by omega)
  have h4 := mul_abs_le (a := b - a) (b := q) (M := 20) (N := 4096000000000000) (by omega) (by omega)
  unfold mnT mnB
  omega
theorem nm_one (x : Int) : nm x 1 = x ∧ dn x 1 = 1 := by
  have h : gcdI x 1 = 1 := by simp [gcdI]
  unfold nm dn
  rw [h]; simp
theorem low_one {x : Int} (h : -1000000000 ≤ x ∧ x ≤ 1000000000) : lowN x 1 = x ∧ lowD x 1 = 1 ∧ lowB x 1 = true := by
  have h1 := nm_one x
  have h2 : okF x 1 = true := by unfold okF; rw [inB_mk h.1 h.2]; rfl
  unfold lowN lowD lowB
  rw [h1.1, h1.2, h2]; simp
end Go.Proofs.YtnbomleieianoaaGreat
