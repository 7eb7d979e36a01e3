/- Small words on memory used by all contracts of this claim: a slice of ints that reads as a list, and one that the call owns. No condition but those in the statements. -/
import Derived.Test.YtcoakeedgngogaaProg
import Derived.WalkKit
import Derived.WalkLawsBesides
import Derived.WalkSpells
import Derived.Lib.Hide
import Derived.Lib.SmallJoins
import Derived.Outline
import Derived.Deep.Cut
namespace Go.Proofs.Ytcoakeedgngogaa
open Go.RowKit

theorem ri {k : IntKind} {a b : Int} (h : a = b) : Ending.returned (.int k a) = .returned (.int k b) := by rw [h]
theorem rb {a b : Bool} (h : a = b) : Ending.returned (.bool a) = .returned (.bool b) := by rw [h]
theorem vi {k : IntKind} {a b : Int} (h : a = b) : Value.int k a = .int k b := by rw [h]

/-- Element i of a list of ints, 0 behind its end. -/
def nth (xs : List Int) (i : Nat) : Int := xs.getD i 0
theorem nth_lt {xs : List Int} {i : Nat} (h : i < xs.length) : nth xs i = xs[i] := by simp [nth, List.getD, h]
theorem nth_get? {xs : List Int} {i : Nat} (h : i < xs.length) : xs[i]? = some (nth xs i) := by simp [nth, List.getD, h]
theorem nth_ge {xs : List Int} {i : Nat} (h : xs.length ≤ i) : nth xs i = 0 := by simp [nth, List.getD, h]
theorem nth_set {xs : List Int} {i j : Nat} {u : Int} (h : i < xs.length) : nth (xs.set i u) j = if i = j then u else nth xs j := by
  unfold nth
  by_cases e : i = j
  · subst e; simp [List.getD, h]
  · simp [List.getD, e]
theorem take_succ_nth {xs : List Int} {k : Nat} (h : k < xs.length) : xs.take (k + 1) = xs.take k ++ [nth xs k] := by
  rw [List.take_succ_eq_append_getElem h, nth_lt h]
theorem ext_nth {xs ys : List Int} (hl : xs.length = ys.length) (h : ∀ i, i < xs.length → nth xs i = nth ys i) : xs = ys := by
  apply List.ext_getElem hl
  intro i h1 h2
  have := h i h1
  rwa [nth_lt h1, nth_lt h2] at this
theorem nth_map_range {n i : Nat} {f : Nat → Int} (h : i < n) : nth ((List.range n).map f) i = f i := by
  rw [nth_lt (by simpa using h)]; simp
theorem nth_replicate (n i : Nat) : nth (List.replicate n 0) i = 0 := by
  unfold nth; simp only [List.getD_eq_getElem?_getD, List.getElem?_replicate]; split <;> rfl

/-- The cells of a list of ints. -/
def cs (xs : List Int) : List Value := xs.map (Value.int .i64)
theorem cs_length (xs : List Int) : (cs xs).length = xs.length := by simp [cs]
theorem cs_get? (xs : List Int) (i : Nat) (h : i < xs.length) : (cs xs)[i]? = some (.int .i64 (nth xs i)) := by simp [cs, nth, List.getD, h]
theorem cs_set (xs : List Int) (i : Nat) (u : Int) : (cs xs).set i (.int .i64 u) = cs (xs.set i u) := by simp [cs, List.map_set]
theorem cs_append (xs ys : List Int) : cs xs ++ cs ys = cs (xs ++ ys) := by simp [cs]
theorem cs_one (xs : List Int) : ∀ u ∈ cs xs, u.oneCell' = true := ints_oneCell .i64 xs

/-- The slice (a, n) reads as the ints xs. -/
def Ints (w : World) (a : Option Addr) (n : Nat) (xs : List Int) : Prop :=
  xs.length = n ∧ (0 < n → ∃ b off, a = some ⟨b, off, none⟩ ∧ b < w.heap.size ∧ ∀ j, j < n → w.cell? ⟨b, off + j, none⟩ = some (.int .i64 (nth xs j)))
theorem Ints.keep {w w' : World} {a : Option Addr} {n : Nat} {xs : List Int} (h : Ints w a n xs) (hs : w.heap.size ≤ w'.heap.size)
    (hk : ∀ p : Addr, p.block < w.heap.size → w'.cell? p = w.cell? p) : Ints w' a n xs :=
  ⟨h.1, fun hn => by
    obtain ⟨b, off, rfl, hb, hc⟩ := h.2 hn
    exact ⟨b, off, rfl, by omega, fun j hj => (hk _ hb).trans (hc j hj)⟩⟩
theorem Ints.below {w w' : World} {a : Option Addr} {n : Nat} {xs : List Int} (h : Ints w a n xs) (hb : Below w.heap.size w w') : Ints w' a n xs :=
  h.keep hb.size fun _ hp => hb.cell hp

/-- The call owns the slice v, which reads as the ints xs. -/
def Own (w : World) (base : Nat) (v : Value) (xs : List Int) : Prop := w.ownsRow base 3 1 v xs.length (cs xs)
theorem Own.form {w : World} {base : Nat} {v : Value} {xs : List Int} (h : Own w base v xs) (hn : 0 < xs.length) : ∃ g cap, v = .slice (some ⟨g, 0, none⟩) xs.length cap ∧ base ≤ g ∧ g < w.heap.size := by
  obtain ⟨g, cap, rfl⟩ := Joins.ownsRow_form h hn
  have := World.ownsRow.lt h g rfl
  exact ⟨g, cap, rfl, this.1, this.2⟩
theorem Own.shape {w : World} {base : Nat} {v : Value} {xs : List Int} (h : Own w base v xs) : ∃ a cap, v = .slice a xs.length cap := by
  rcases Joins.ownsRow_forms h with ⟨rfl, hn⟩ | ⟨g, cap, rfl⟩
  · exact ⟨none, 0, by rw [hn]⟩
  · exact ⟨_, _, rfl⟩
theorem Own.cell {w : World} {base g n cap : Nat} {xs : List Int} (h : Own w base (.slice (some ⟨g, 0, none⟩) n cap) xs) {i : Nat} (hi : i < xs.length) : w.cell? ⟨g, i, none⟩ = some (.int .i64 (nth xs i)) := by
  obtain ⟨_, _, he, _⟩ := h.form (by omega)
  simp only [Value.slice.injEq] at he
  obtain ⟨_, rfl, _⟩ := he
  rw [World.ownsRow.cellAt h i (by omega), cs_get? _ _ hi]
theorem Own.free {w : World} {base g n cap : Nat} {xs : List Int} (h : Own w base (.slice (some ⟨g, 0, none⟩) n cap) xs) (hn : n = xs.length) (i : Nat) : w.frozen? ⟨g, i, none⟩ = false := by
  subst hn
  exact World.ownsRow.frozenAt h i
theorem Own.set {w : World} {base g n cap : Nat} {xs : List Int} (h : Own w base (.slice (some ⟨g, 0, none⟩) n cap) xs) (hn : n = xs.length) (i : Nat) (u : Int) :
    Own (w.setCell ⟨g, i, none⟩ (.int .i64 u)) base (.slice (some ⟨g, 0, none⟩) n cap) (xs.set i u) := by
  subst hn
  have := (World.ownsRow.stored h i (.int .i64 u)).1
  rw [cs_set] at this
  unfold Own
  rwa [List.length_set]
theorem Own.ints {w : World} {base : Nat} {a : Option Addr} {n cap : Nat} {xs : List Int} (h : Own w base (.slice a n cap) xs) : Ints w a n xs := by
  obtain ⟨a', cap', he⟩ := h.shape
  simp only [Value.slice.injEq] at he
  obtain ⟨_, hn, _⟩ := he
  refine ⟨hn.symm, fun h0 => ?_⟩
  obtain ⟨g, cap'', he, _, hg⟩ := h.form (by omega)
  simp only [Value.slice.injEq] at he
  obtain ⟨rfl, _, _⟩ := he
  exact ⟨g, 0, rfl, hg, fun j hj => by rw [Nat.zero_add]; exact h.cell (by omega)⟩
theorem Own.below {w w' : World} {base : Nat} {v : Value} {xs : List Int} (h : Own w base v xs) (hb : Below w.heap.size w w') : Own w' base v xs :=
  World.ownsRow.kept (row := none) h ⟨hb.os, hb.tape, hb.output, hb.size, fun k hk _ => hb.block k hk⟩ (by cases v.ownBlock <;> simp)
theorem Own.grown {w w' : World} {base : Nat} {v : Value} {xs : List Int} {row : Option Nat} (h : Own w base v xs) (hb : w.grownBy w' row) (hr : v.ownBlock = none ∨ v.ownBlock ≠ row) : Own w' base v xs :=
  World.ownsRow.kept h hb hr
theorem Own.mono {w : World} {base base' : Nat} {v : Value} {xs : List Int} (h : Own w base v xs) (hb : base' ≤ base) : Own w base' v xs := Joins.ownsRow_le h hb
theorem Own.lt {w : World} {base g n cap : Nat} {xs : List Int} (h : Own w base (.slice (some ⟨g, 0, none⟩) n cap) xs) : base ≤ g ∧ g < w.heap.size := World.ownsRow.lt h g rfl
theorem Own.far {w : World} {base : Nat} {v : Value} {xs : List Int} (h : Own w base v xs) {a : Addr} (ha : v.ownBlock ≠ some a.block) (u : Value) : Own (w.setCell a u) base v xs := ownsRow_setCell_other h ha u
theorem Own.nil (w : World) (base : Nat) : Own w base (.slice none 0 0) [] := World.ownsRow_nil w base 3 1

/-- n zeros, as cells. -/
def zv (n : Nat) : Array Value := madeCells #[.int .i64 0] n
theorem zv_list (n : Nat) : (zv n).toList = cs (List.replicate n 0) := by simp [zv, toList_madeCells_one, cs]
theorem zv_size (n : Nat) : (zv n).size = n := size_madeCells _ _
theorem Own.zeros (w : World) (base n : Nat) (hb : base ≤ w.heap.size) (hn : n ≤ maxLen) : Own (w.alloc (.cells (zv n) 3)) base (.slice (some ⟨w.heap.size, 0, none⟩) n n) (List.replicate n 0) := by
  have := World.ownsRow_lit (size := 1) (e := 3) w (zv n) n hb hn (by rw [zv_size]; omega)
  unfold Own
  rwa [List.length_replicate, ← zv_list]
theorem zv_get (n i : Nat) (h : i < n) : (zv n)[i]? = some (.int .i64 0) := by
  have e : (zv n)[i]? = (zv n).toList[i]? := by simp
  rw [e, zv_list, cs_get? _ _ (by simpa using h), nth_replicate]
theorem info_int : (Try.prog.info? 3).map (fun i => (i.zero, i.size, i.bytes)) = some (some (.int .i64 0), 1, 8) := by kernel_rfl
/-- 'make([]int, n)'. -/
theorem mk_ints (n : Nat) (hn : n ≤ 4294967296) (w : World) :
    (Instr.makeSlice 31 (.int .i64 (n : Int)) (.int .i64 (n : Int))).run Try.prog w = .ok (.slice (some ⟨w.heap.size, 0, none⟩) n n) (w.alloc (.cells (zv n) 3)) := by
  obtain ⟨i0, hi0, hz0, hz1, hz2⟩ := info_parts info_int
  have hr := run_make (P := Try.prog) w 31 3 i0 (.int .i64 0) Try.underlying31 hi0 hz0 .i64 .i64 (n : Int) (n : Int) (by omega) (by omega) (by rw [hz2]; omega) (by omega)
  simp only [Int.toNat_natCast, hz1, Nat.mul_one, Value.cells] at hr
  exact hr
theorem mk_lit (z : Int) (n : Nat) (hz : z = (n : Int)) (hn : n ≤ 4294967296) (w : World) :
    (Instr.makeSlice 31 (.int .i64 z) (.int .i64 z)).run Try.prog w = .ok (.slice (some ⟨w.heap.size, 0, none⟩) n n) (w.alloc (.cells (zv n) 3)) := by
  subst hz; exact mk_ints n hn w
theorem cell_set {w : World} {p : Addr} {u v : Value} (h : w.cell? p = some v) : (w.setCell p u).cell? p = some u := World.cell?_setCell_same' w p u (by rw [h]; rfl)
/-- A pair of cells behind two stores. -/
theorem two_cells {w : World} {g : Nat} {x' y' : Value} (h0 : w.cell? ⟨g, 0, none⟩ = some x') (h1 : w.cell? ⟨g, 1, none⟩ = some y') (x y : Value) :
    ((w.setCell ⟨g, 0, none⟩ x).setCell ⟨g, 1, none⟩ y).cell? ⟨g, 0, none⟩ = some x ∧ ((w.setCell ⟨g, 0, none⟩ x).setCell ⟨g, 1, none⟩ y).cell? ⟨g, 1, none⟩ = some y := by
  constructor
  · rw [World.cell?_setCell_other _ _ _ _ (by simp)]; exact cell_set h0
  · exact cell_set (v := y') (by rw [World.cell?_setCell_other _ _ _ _ (by simp)]; exact h1)
/-- A block of two cells that may be written: a pair's place. -/
structure Pair (w : World) (g : Nat) (x y : Value) : Prop where
  c0 : w.cell? ⟨g, 0, none⟩ = some x
  c1 : w.cell? ⟨g, 1, none⟩ = some y
  f0 : w.frozen? ⟨g, 0, none⟩ = false
  f1 : w.frozen? ⟨g, 1, none⟩ = false
theorem Pair.lt {w : World} {g : Nat} {x y : Value} (h : Pair w g x y) : g < w.heap.size := World.block_lt_of_cell? w _ h.c0
theorem Pair.below {w w' : World} {g : Nat} {x y : Value} (h : Pair w g x y) (hb : Below w.heap.size w w') : Pair w' g x y :=
  ⟨(hb.cell (p := ⟨g, 0, none⟩) h.lt).trans h.c0, (hb.cell (p := ⟨g, 1, none⟩) h.lt).trans h.c1, (hb.frozen (p := ⟨g, 0, none⟩) h.lt).trans h.f0, (hb.frozen (p := ⟨g, 1, none⟩) h.lt).trans h.f1⟩
theorem Pair.new (w : World) (x y : Value) (t : TypeId) : Pair (w.alloc (.cells #[x, y] t)) w.heap.size x y :=
  ⟨by rw [World.cell?_alloc_at _ _ _ _ rfl]; rfl, by rw [World.cell?_alloc_at _ _ _ _ rfl]; rfl, World.frozen?_alloc_at _ _ _ _ rfl, World.frozen?_alloc_at _ _ _ _ rfl⟩
theorem Pair.alloc {w : World} {g : Nat} {x y : Value} (h : Pair w g x y) (o : Obj) : Pair (w.alloc o) g x y := h.below ((Below.refl _ _).alloc (Nat.le_refl _) o)
theorem Pair.drewN {w : World} {g : Nat} {x y : Value} (h : Pair w g x y) (n : Nat) : Pair (w.drewN n) g x y := ⟨h.c0, h.c1, h.f0, h.f1⟩
theorem Pair.drew {w : World} {g : Nat} {x y : Value} (h : Pair w g x y) : Pair w.drew g x y := ⟨h.c0, h.c1, h.f0, h.f1⟩
theorem Pair.set {w : World} {g : Nat} {x y : Value} (h : Pair w g x y) (x' y' : Value) :
    ((w.setCell ⟨g, 0, none⟩ x').setCell ⟨g, 1, none⟩ y').cell? ⟨g, 0, none⟩ = some x' ∧ ((w.setCell ⟨g, 0, none⟩ x').setCell ⟨g, 1, none⟩ y').cell? ⟨g, 1, none⟩ = some y' := two_cells h.c0 h.c1 x' y'
/-- 'append(xs, u)' onto a slice of ints that the call owns; u lies in a new block g. -/
theorem wp_app1 {ops : Array Oper} {rest : List Oper} {o : Oper} {a : Act} {Q : Exit → Act → World → Prop} {w : World} (s x : Operand)
    (hgd : o.guard = none) (ho : o.op = .call { callee := .builtin .append, args := #[s, x], argTypes := #[31, 31] })
    (base : Nat) (v : Value) (xs : List Int) (u : Int) (hs : a.eval s = v) (hown : Own w base v xs) (g : Nat) (hx : a.eval x = .slice (some ⟨g, 0, none⟩) 1 1) (hc : w.cell? ⟨g, 0, none⟩ = some (.int .i64 u))
    (hl : xs.length ≤ 17592186040320) (hb : base ≤ w.heap.size)
    (h : ∀ v' w', Own w' base v' (xs ++ [u]) → w.grownBy w' v.ownBlock → wpList Try.prog ops Q rest (a.put o.dst v') w') : wpList Try.prog ops Q (o :: rest) a w := by
  obtain ⟨i0, hi0, hz0, hz1, hz2⟩ := info_parts info_int
  refine wpList_append_own w hgd s x 31 ho base 3 i0 (.int .i64 0) 1 8 Try.underlying31 hi0 hz0 hz1 hz2 rfl (by decide) v xs.length (cs xs) hs hown ⟨g, 0, none⟩ 1 1 [.int .i64 u] hx rfl ?_ ?_ ?_ ?_ hb ?_
  · intro j y hy
    cases j with
    | zero => simp at hy; subst hy; simpa [Addr.add] using hc
    | succ j => simp at hy
  · intro y hy; simp at hy; subst hy; rfl
  · simp only [maxLen]; omega
  · omega
  · intro v' w' h1 h2 _
    refine h v' w' ?_ h2
    unfold Own
    rw [← cs_append, List.length_append]
    exact h1
theorem own_empty (w : World) (base : Nat) (hb : base ≤ w.heap.size) (c : Array Value) (hc : c = #[]) : Own (w.alloc (.cells c 3)) base (.slice (some ⟨w.heap.size, 0, none⟩) 0 0) [] := by
  subst hc
  exact World.ownsRow_lit (size := 1) (e := 3) w #[] 0 hb (by simp [maxLen]) (by simp)
end Go.Proofs.Ytcoakeedgngogaa
