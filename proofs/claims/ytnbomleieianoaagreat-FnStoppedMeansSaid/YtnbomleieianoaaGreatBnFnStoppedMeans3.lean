/- Contracts and plain laws for the statement FnStoppedMeans, part 3. No conditions but those stated in each. -/
import Derived.Test.YtnbomleieianoaaGreatBnFnStoppedMeans1
import Derived.Deep.QuietTactic
import Derived.BigQuiet
import Derived.WalkSmall
import Derived.StillTailTactics
import Derived.Deep.Draws
import Derived.Laws.AppendOwnNone
import Derived.Maps.AppendAt
/- Small words on memory, continued: reading a list later, appending one number or a whole list to a slice that the call owns. -/
namespace Go.Proofs.YtnbomleieianoaaGreat
open Go.RowKit

theorem Ints.at {w wr : World} {a : Option Addr} {n i : Nat} {xs : List Int} (h : Ints w a n xs) (hb : Below w.heap.size w wr) (hi : i < n) :
    ∃ b off, a = some ⟨b, off, none⟩ ∧ wr.cell? ⟨b, off + i, none⟩ = some (.int .i64 (nth xs i)) := by
  obtain ⟨b, off, rfl, hlt, hc⟩ := h.2 (by omega)
  exact ⟨b, off, rfl, (hb.cell (p := ⟨b, off + i, none⟩) hlt).trans (hc i hi)⟩
theorem Ints.at2 {w wr : World} {a : Option Addr} {n i : Nat} {xs : List Int} (h : Ints w a n xs) (hb : Below w.heap.size w wr) (hi : i < n) :
    ∃ b off, a = some ⟨b, off, none⟩ ∧ b < w.heap.size ∧ wr.cell? ⟨b, off + i, none⟩ = some (.int .i64 (nth xs i)) := by
  obtain ⟨b, off, rfl, hlt, hc⟩ := h.2 (by omega)
  exact ⟨b, off, rfl, hlt, (hb.cell (p := ⟨b, off + i, none⟩) hlt).trans (hc i hi)⟩
theorem own_low {w : World} {base b : Nat} {v : Value} {xs : List Int} (h : Own w base v xs) (hb : b < base) : v.ownBlock ≠ some b := fun e => by
  have := (World.ownsRow.lt h b e).1; omega
/-- Appended to one row of the call's own from base on: Below base. -/
theorem push_below {w w' : World} {base : Nat} {v : Value} {xs : List Int} {o : Obj} (h : Own w base v xs) (hb : base ≤ w.heap.size) (hg : (w.alloc o).grownBy w' v.ownBlock) : Below base w w' :=
  ((Below.refl base w).alloc hb o).grown hg (by simp; omega) fun k hk => (World.ownsRow.lt h k hk).1
/-- 'append(xs, u)' where u was just laid into a new block. -/
theorem wp_push {ops : Array Oper} {rest : List Oper} {o : Oper} {a : Act} {Q : Exit → Act → World → Prop} {w : World} {u : Int} (s x : Operand)
    (hgd : o.guard = none) (ho : o.op = .call { callee := .builtin .append, args := #[s, x], argTypes := #[24, 24] })
    (base : Nat) (v : Value) (xs : List Int) (hs : a.eval s = v) (hown : Own w base v xs) (hx : a.eval x = .slice (some ⟨w.heap.size, 0, none⟩) 1 1)
    (hl : xs.length ≤ 17592186040320) (hb : base ≤ w.heap.size)
    (h : ∀ v' w', Own w' base v' (xs ++ [u]) → Below base w w' → wpList Tryz.prog ops Q rest (a.put o.dst v') w') : wpList Tryz.prog ops Q (o :: rest) a (w.alloc (.cells #[.int .i64 u] 3)) :=
  wp_app1 s x hgd ho base v xs u hs (hown.below ((Below.refl _ _).alloc (Nat.le_refl _) _)) w.heap.size hx (by rw [World.cell?_alloc_at _ _ _ _ rfl]; rfl) hl (by simp; omega)
    fun v' w' h1 h2 => h v' w' h1 (push_below hown hb h2)
/-- 'append(xs, ys...)' onto a slice of ints that the call owns. -/
theorem wp_appI {ops : Array Oper} {rest : List Oper} {o : Oper} {a : Act} {Q : Exit → Act → World → Prop} {w : World} (s x : Operand)
    (hgd : o.guard = none) (ho : o.op = .call { callee := .builtin .append, args := #[s, x], argTypes := #[24, 24] })
    (base : Nat) (v : Value) (xs : List Int) (hs : a.eval s = v) (hown : Own w base v xs) (ad : Option Addr) (m c : Nat) (ys : List Int) (hx : a.eval x = .slice ad m c) (hc : ad = none → c = 0) (hy : Ints w ad m ys) (hl : xs.length + m ≤ 17592186040320) (hbase : base ≤ w.heap.size)
    (h : ∀ v' w', Own w' base v' (xs ++ ys) → Below base w w' → wpList Tryz.prog ops Q rest (a.put o.dst v') w') : wpList Tryz.prog ops Q (o :: rest) a w := by
  obtain ⟨i0, hi0, hz0, hz1, hz2⟩ := info_parts info_int
  have hm := hy.1
  cases ad with
  | none =>
    obtain rfl : m = 0 := by
      cases m with
      | zero => rfl
      | succ m => obtain ⟨b, off, he, _⟩ := hy.2 (by omega); cases he
    obtain rfl := hc rfl
    refine wpList_append_own_none hgd s x 24 ho base 3 i0 1 Tryz.underlying24 hi0 v _ _ hs hown hx ?_
    refine h v w ?_ (Below.refl _ _)
    have : ys = [] := List.length_eq_zero_iff.1 hm
    rw [this, List.append_nil]; exact hown
  | some p =>
    have hcell : ∀ j, j < m → w.cell? (p.add j) = some (.int .i64 (nth ys j)) := fun j hj => by
      obtain ⟨b, off, he, _, hcell⟩ := hy.2 (by omega)
      cases he
      rw [show (⟨b, off, none⟩ : Addr).add j = ⟨b, off + j, none⟩ by unfold Addr.add; split <;> simp_all]
      exact hcell j hj
    refine wpList_append_own w hgd s x 24 ho base 3 i0 (.int .i64 0) 1 8 Tryz.underlying24 hi0 hz0 hz1 hz2 rfl (by decide) v xs.length (cs xs) hs hown p m c (cs ys) hx (by rw [cs_length]; omega) ?_ ?_ ?_ ?_ hbase ?_
    · intro j u hu
      have hj : j < m := by
        have := (List.getElem?_eq_some_iff.1 hu).1
        rw [cs_length] at this; omega
      rw [cs_get? _ _ (by omega)] at hu
      rw [hcell j hj]; exact hu
    · exact cs_one ys
    · simp only [maxLen]; omega
    · omega
    · intro v' w' h1 h2 _
      refine h v' w' ?_ ((Below.refl _ _).grown h2 hbase fun k hk => (World.ownsRow.lt hown k hk).1)
      unfold Own
      rw [← cs_append, List.length_append, hm]
      exact h1
/-- A new slice without numbers. -/
theorem own_nil0 (w : World) : Own (w.alloc (.cells #[] 3)) w.heap.size (.slice (some ⟨w.heap.size, 0, none⟩) 0 0) [] := own_empty w w.heap.size (Nat.le_refl _) #[] rfl
theorem below_new (w : World) (o : Obj) : Below w.heap.size w (w.alloc o) := (Below.refl _ _).alloc (Nat.le_refl _) o
theorem Own.cap {w : World} {base : Nat} {a : Option Addr} {n cap : Nat} {xs : List Int} (h : Own w base (.slice a n cap) xs) : n ≤ cap ∧ (a = none → cap = 0) ∧ n = xs.length ∧ cap ≤ maxLen := by
  unfold Own World.ownsRow at h
  rcases h.2 with ⟨h1, h2⟩ | ⟨g, cp, cur, h1, h2, h3, h4, h5, h6⟩
  · injection h1 with e1 e2 e3
    subst e1 e2 e3
    exact ⟨Nat.le_refl _, fun _ => rfl, h2.symm, Nat.zero_le _⟩
  · injection h1 with e1 e2 e3
    subst e1 e2 e3
    exact ⟨h4, (fun h => by cases h), rfl, h5⟩
/-- From (w, v) to (w', v'): of the blocks that were there, v's own alone may have changed, and v' owns none of the others. -/
def Moved (w : World) (v : Value) (w' : World) (v' : Value) : Prop := w.heap.size ≤ w'.heap.size ∧ ∀ g, g < w.heap.size → v.ownBlock ≠ some g → v'.ownBlock ≠ some g ∧ w'.heap[g]? = w.heap[g]?
theorem Moved.cell {w w' : World} {v v' x : Value} {p : Addr} (hm : Moved w v w' v') (hc : w.cell? p = some x) (hne : v.ownBlock ≠ some p.block) : w'.cell? p = some x :=
  (World.cell?_of_block (hm.2 p.block (World.block_lt_of_cell? w p hc) hne).2).trans hc
/-- The slice at a lies outside of v's own block. -/
def Apart (a : Option Addr) (v : Value) : Prop := ∀ p, a = some p → v.ownBlock ≠ some p.block
theorem Ints.moved {w w' : World} {a : Option Addr} {n : Nat} {xs : List Int} {v v' : Value} (h : Ints w a n xs) (hm : Moved w v w' v') (ha : 0 < n → Apart a v) : Ints w' a n xs ∧ (0 < n → Apart a v') := by
  refine ⟨⟨h.1, fun hn => ?_⟩, fun hn p hp => ?_⟩
  · obtain ⟨b, off, rfl, hb, hc⟩ := h.2 hn
    have hk := hm.2 b hb (ha hn _ rfl)
    exact ⟨b, off, rfl, Nat.lt_of_lt_of_le hb hm.1, fun j hj => (World.cell?_of_block (a := ⟨b, off + j, none⟩) hk.2).trans (hc j hj)⟩
  · obtain ⟨b, off, rfl, hb, _⟩ := h.2 hn
    cases hp
    exact (hm.2 b hb (ha hn _ rfl)).1
theorem ints_far {w : World} {a : Option Addr} {n : Nat} {xs : List Int} (h : Ints w a n xs) {b i : Nat} (hne : ∀ p, a = some p → p.block ≠ b) (u : Value) : Ints (w.setCell ⟨b, i, none⟩ u) a n xs :=
  ⟨h.1, fun hn => by
    obtain ⟨b', off, rfl, hlt, hc⟩ := h.2 hn
    have hb := hne _ rfl
    refine ⟨b', off, rfl, by simpa [World.setCell] using hlt, fun j hj => ?_⟩
    rw [World.cell?_setCell_other _ _ _ _ (by simp; intro e; exact absurd e.symm (by simpa using hb))]
    exact hc j hj⟩
/-- As wp_push, and telling what else stays. -/
theorem wp_push2 {ops : Array Oper} {rest : List Oper} {o : Oper} {a : Act} {Q : Exit → Act → World → Prop} {w : World} {u : Int} (s x : Operand)
    (hgd : o.guard = none) (ho : o.op = .call { callee := .builtin .append, args := #[s, x], argTypes := #[24, 24] })
    (base : Nat) (v : Value) (xs : List Int) (hs : a.eval s = v) (hown : Own w base v xs) (hx : a.eval x = .slice (some ⟨w.heap.size, 0, none⟩) 1 1)
    (hl : xs.length ≤ 17592186040320) (hb : base ≤ w.heap.size)
    (h : ∀ v' w', Own w' base v' (xs ++ [u]) → Below base w w' → Moved w v w' v' → wpList Tryz.prog ops Q rest (a.put o.dst v') w') : wpList Tryz.prog ops Q (o :: rest) a (w.alloc (.cells #[.int .i64 u] 3)) := by
  obtain ⟨i0, hi0, hz0, hz1, hz2⟩ := info_parts info_int
  refine wpList_append_own_at _ hgd s x 24 ho base 3 i0 (.int .i64 0) 1 8 Tryz.underlying24 hi0 hz0 hz1 hz2 rfl (by decide) v xs.length (cs xs) hs
    (hown.below ((Below.refl _ _).alloc (Nat.le_refl _) _)) ⟨w.heap.size, 0, none⟩ 1 1 [.int .i64 u] hx rfl (cell_one_new w (.int .i64 u) 3) (by simp [Value.oneCell']) (by simp only [maxLen]; omega) (by omega) (by simp; omega) ?_
  intro v' w' h1 h2 _ h3
  refine h v' w' ?_ (push_below hown hb h2) ⟨by have := h2.size; simp at this; omega, fun g hg hne => ⟨?_, ?_⟩⟩
  · unfold Own; rw [← cs_append, List.length_append]; exact h1
  · rcases h3 with h3 | h3
    · rw [h3]; exact hne
    · rw [h3]; intro e; cases e; simp at hg; omega
  · have hb1 : (w.alloc (.cells #[.int .i64 u] 3)).heap[g]? = w.heap[g]? := ((Below.refl w.heap.size w).alloc (Nat.le_refl _) (.cells #[.int .i64 u] 3)).block g hg
    rw [← hb1]
    exact h2.block g (by simp; omega) (fun e => hne e.symm)
/-- A list of its own. -/
theorem impl_copied (a : Option Addr) (n cap : Nat) (xs : List Int) (w : World) (hn : n ≤ 4294967296) (hc : a = none → cap = 0) (h : Ints w a n xs) :
    Calls Tryz.prog 77 #[.slice a n cap] w fun e w' => ∃ v, e = .returned v ∧ Own w' w.heap.size v xs ∧ Below w.heap.size w w' := by
  have H := Lib.hid h
  clear h
  go_enter Tryz.func77, Tryz.ntmps77
  go_wp2_with (at_builtin; refine wp_appI _ _ rfl rfl w.heap.size _ [] rfl (own_nil0 w) a n cap xs rfl hc (H.out.below (below_new w _)) (by simp; omega) (by simp) ?_; intro v' w' ho hb)
  go_ret
  exact ⟨_, rfl, ho, (below_new w _).trans hb⟩
theorem spec_l1Own (a : Option Addr) (n cap : Nat) (xs : List Int) (w : World) (hn : n ≤ 4294967296) (hc : a = none → cap = 0) (h : Ints w a n xs) :
    Calls Tryz.prog 79 #[.slice a n cap] w fun e w' => ∃ v, e = .returned v ∧ Own w' w.heap.size v xs ∧ Below w.heap.size w w' := by
  have H := Lib.hid h
  clear h
  go_enter Tryz.func79, Tryz.ntmps79
  go_wp2_with (at_builtin; refine wp_appI _ _ rfl rfl w.heap.size _ [] rfl (own_nil0 w) a n cap xs rfl hc (H.out.below (below_new w _)) (by simp; omega) (by simp) ?_; intro v' w' ho hb)
  go_ret
  exact ⟨_, rfl, ho, (below_new w _).trans hb⟩
/-- A part of a slice from its head on, and one from its second number on. -/
theorem Ints.init {w : World} {a : Option Addr} {n m : Nat} {xs : List Int} (h : Ints w a n xs) (hm : m + 1 = n) : Ints w a m xs.dropLast :=
  ⟨by rw [List.length_dropLast, h.1]; omega, fun h0 => by
    obtain ⟨b, off, rfl, hlt, hc⟩ := h.2 (by omega)
    refine ⟨b, off, rfl, hlt, fun j hj => ?_⟩
    have e : nth xs.dropLast j = nth xs j := by
      unfold nth; simp [List.getD, List.getElem?_dropLast]
      rw [if_pos]
      have := h.1; omega
    rw [e]; exact hc j (by omega)⟩
theorem Ints.rest {w : World} {b off n m : Nat} {xs : List Int} (h : Ints w (some ⟨b, off, none⟩) n xs) (hm : m + 1 = n) : Ints w (some ⟨b, off + 1, none⟩) m xs.tail :=
  ⟨by rw [List.length_tail, h.1]; omega, fun h0 => by
    obtain ⟨b', off', he, hlt, hc⟩ := h.2 (by omega)
    cases he
    refine ⟨b, off + 1, rfl, hlt, fun j hj => ?_⟩
    have e : nth xs.tail j = nth xs (j + 1) := by
      cases xs with
      | nil => simp [nth, List.getD]
      | cons x xs => simp [nth, List.getD]
    rw [e, Nat.add_assoc, Nat.add_comm 1 j]; exact hc (j + 1) (by omega)⟩
end Go.Proofs.YtnbomleieianoaaGreat

/- Small words on memory, for slices of bools: one that reads as a list, and one that the call owns. No condition but those in the statements. -/
namespace Go.Proofs.YtnbomleieianoaaGreat.Bo
open Go.RowKit

/-- Element i of a list of bools, 0 behind its end. -/
def nth (xs : List Bool) (i : Nat) : Bool := xs.getD i false
theorem nth_lt {xs : List Bool} {i : Nat} (h : i < xs.length) : nth xs i = xs[i] := by simp [nth, List.getD, h]
theorem nth_get? {xs : List Bool} {i : Nat} (h : i < xs.length) : xs[i]? = some (nth xs i) := by simp [nth, List.getD, h]
theorem nth_ge {xs : List Bool} {i : Nat} (h : xs.length ≤ i) : nth xs i = false := by simp [nth, List.getD, h]
theorem nth_set {xs : List Bool} {i j : Nat} {u : Bool} (h : i < xs.length) : nth (xs.set i u) j = if i = j then u else nth xs j := by
  unfold nth
  by_cases e : i = j
  · subst e; simp [List.getD, h]
  · simp [List.getD, e]
theorem take_succ_nth {xs : List Bool} {k : Nat} (h : k < xs.length) : xs.take (k + 1) = xs.take k ++ [nth xs k] := by
  rw [List.take_succ_eq_append_getElem h, nth_lt h]
theorem ext_nth {xs ys : List Bool} (hl : xs.length = ys.length) (h : ∀ i, i < xs.length → nth xs i = nth ys i) : xs = ys := by
  apply List.ext_getElem hl
  intro i h1 h2
  have := h i h1
  rwa [nth_lt h1, nth_lt h2] at this
theorem nth_map_range {n i : Nat} {f : Nat → Bool} (h : i < n) : nth ((List.range n).map f) i = f i := by
  rw [nth_lt (by simpa using h)]; simp
theorem nth_replicate (n i : Nat) : nth (List.replicate n false) i = false := by
  unfold nth; simp only [List.getD_eq_getElem?_getD, List.getElem?_replicate]; split <;> rfl

/-- The cells of a list of bools. -/
def cs (xs : List Bool) : List Value := xs.map (Value.bool)
theorem cs_length (xs : List Bool) : (cs xs).length = xs.length := by simp [cs]
theorem cs_get? (xs : List Bool) (i : Nat) (h : i < xs.length) : (cs xs)[i]? = some (.bool (nth xs i)) := by simp [cs, nth, List.getD, h]
theorem cs_set (xs : List Bool) (i : Nat) (u : Bool) : (cs xs).set i (.bool u) = cs (xs.set i u) := by simp [cs, List.map_set]
theorem cs_append (xs ys : List Bool) : cs xs ++ cs ys = cs (xs ++ ys) := by simp [cs]
theorem cs_one (xs : List Bool) : ∀ u ∈ cs xs, u.oneCell' = true := by intro u hu; obtain ⟨b, -, rfl⟩ := List.mem_map.1 hu; rfl

/-- The slice (a, n) reads as the bools xs. -/
def Ints (w : World) (a : Option Addr) (n : Nat) (xs : List Bool) : Prop :=
  xs.length = n ∧ (0 < n → ∃ b off, a = some ⟨b, off, none⟩ ∧ b < w.heap.size ∧ ∀ j, j < n → w.cell? ⟨b, off + j, none⟩ = some (.bool (nth xs j)))
theorem Ints.keep {w w' : World} {a : Option Addr} {n : Nat} {xs : List Bool} (h : Ints w a n xs) (hs : w.heap.size ≤ w'.heap.size)
    (hk : ∀ p : Addr, p.block < w.heap.size → w'.cell? p = w.cell? p) : Ints w' a n xs :=
  ⟨h.1, fun hn => by
    obtain ⟨b, off, rfl, hb, hc⟩ := h.2 hn
    exact ⟨b, off, rfl, by omega, fun j hj => (hk _ hb).trans (hc j hj)⟩⟩
theorem Ints.below {w w' : World} {a : Option Addr} {n : Nat} {xs : List Bool} (h : Ints w a n xs) (hb : Below w.heap.size w w') : Ints w' a n xs :=
  h.keep hb.size fun _ hp => hb.cell hp

/-- The call owns the slice v, which reads as the bools xs. -/
def Own (w : World) (base : Nat) (v : Value) (xs : List Bool) : Prop := w.ownsRow base 4 1 v xs.length (cs xs)
theorem Own.form {w : World} {base : Nat} {v : Value} {xs : List Bool} (h : Own w base v xs) (hn : 0 < xs.length) : ∃ g cap, v = .slice (some ⟨g, 0, none⟩) xs.length cap ∧ base ≤ g ∧ g < w.heap.size := by
  obtain ⟨g, cap, rfl⟩ := Joins.ownsRow_form h hn
  have := World.ownsRow.lt h g rfl
  exact ⟨g, cap, rfl, this.1, this.2⟩
theorem Own.shape {w : World} {base : Nat} {v : Value} {xs : List Bool} (h : Own w base v xs) : ∃ a cap, v = .slice a xs.length cap := by
  rcases Joins.ownsRow_forms h with ⟨rfl, hn⟩ | ⟨g, cap, rfl⟩
  · exact ⟨none, 0, by rw [hn]⟩
  · exact ⟨_, _, rfl⟩
theorem Own.cell {w : World} {base g n cap : Nat} {xs : List Bool} (h : Own w base (.slice (some ⟨g, 0, none⟩) n cap) xs) {i : Nat} (hi : i < xs.length) : w.cell? ⟨g, i, none⟩ = some (.bool (nth xs i)) := by
  obtain ⟨_, _, he, _⟩ := h.form (by omega)
  simp only [Value.slice.injEq] at he
  obtain ⟨_, rfl, _⟩ := he
  rw [World.ownsRow.cellAt h i (by omega), cs_get? _ _ hi]
theorem Own.free {w : World} {base g n cap : Nat} {xs : List Bool} (h : Own w base (.slice (some ⟨g, 0, none⟩) n cap) xs) (hn : n = xs.length) (i : Nat) : w.frozen? ⟨g, i, none⟩ = false := by
  subst hn
  exact World.ownsRow.frozenAt h i
theorem Own.set {w : World} {base g n cap : Nat} {xs : List Bool} (h : Own w base (.slice (some ⟨g, 0, none⟩) n cap) xs) (hn : n = xs.length) (i : Nat) (u : Bool) :
    Own (w.setCell ⟨g, i, none⟩ (.bool u)) base (.slice (some ⟨g, 0, none⟩) n cap) (xs.set i u) := by
  subst hn
  have := (World.ownsRow.stored h i (.bool u)).1
  rw [cs_set] at this
  unfold Own
  rwa [List.length_set]
theorem Own.bools {w : World} {base : Nat} {a : Option Addr} {n cap : Nat} {xs : List Bool} (h : Own w base (.slice a n cap) xs) : Ints w a n xs := by
  obtain ⟨a', cap', he⟩ := h.shape
  simp only [Value.slice.injEq] at he
  obtain ⟨_, hn, _⟩ := he
  refine ⟨hn.symm, fun h0 => ?_⟩
  obtain ⟨g, cap'', he, _, hg⟩ := h.form (by omega)
  simp only [Value.slice.injEq] at he
  obtain ⟨rfl, _, _⟩ := he
  exact ⟨g, 0, rfl, hg, fun j hj => by rw [Nat.zero_add]; exact h.cell (by omega)⟩
theorem Own.below {w w' : World} {base : Nat} {v : Value} {xs : List Bool} (h : Own w base v xs) (hb : Below w.heap.size w w') : Own w' base v xs :=
  World.ownsRow.kept (row := none) h ⟨hb.os, hb.tape, hb.output, hb.size, fun k hk _ => hb.block k hk⟩ (by cases v.ownBlock <;> simp)
theorem Own.grown {w w' : World} {base : Nat} {v : Value} {xs : List Bool} {row : Option Nat} (h : Own w base v xs) (hb : w.grownBy w' row) (hr : v.ownBlock = none ∨ v.ownBlock ≠ row) : Own w' base v xs :=
  World.ownsRow.kept h hb hr
theorem Own.mono {w : World} {base base' : Nat} {v : Value} {xs : List Bool} (h : Own w base v xs) (hb : base' ≤ base) : Own w base' v xs := Joins.ownsRow_le h hb
theorem Own.lt {w : World} {base g n cap : Nat} {xs : List Bool} (h : Own w base (.slice (some ⟨g, 0, none⟩) n cap) xs) : base ≤ g ∧ g < w.heap.size := World.ownsRow.lt h g rfl
theorem Own.far {w : World} {base : Nat} {v : Value} {xs : List Bool} (h : Own w base v xs) {a : Addr} (ha : v.ownBlock ≠ some a.block) (u : Value) : Own (w.setCell a u) base v xs := ownsRow_setCell_other h ha u
theorem Own.nil (w : World) (base : Nat) : Own w base (.slice none 0 0) [] := World.ownsRow_nil w base 4 1

/-- n zeros, as cells. -/
def zv (n : Nat) : Array Value := madeCells #[.bool false] n
theorem zv_list (n : Nat) : (zv n).toList = cs (List.replicate n false) := by simp [zv, toList_madeCells_one, cs]
theorem zv_size (n : Nat) : (zv n).size = n := size_madeCells _ _
theorem Own.zeros (w : World) (base n : Nat) (hb : base ≤ w.heap.size) (hn : n ≤ maxLen) : Own (w.alloc (.cells (zv n) 4)) base (.slice (some ⟨w.heap.size, 0, none⟩) n n) (List.replicate n false) := by
  have := World.ownsRow_lit (size := 1) (e := 4) w (zv n) n hb hn (by rw [zv_size]; omega)
  unfold Own
  rwa [List.length_replicate, ← zv_list]
theorem zv_get (n i : Nat) (h : i < n) : (zv n)[i]? = some (.bool false) := by
  have e : (zv n)[i]? = (zv n).toList[i]? := by simp
  rw [e, zv_list, cs_get? _ _ (by simpa using h), nth_replicate]
theorem Ints.at {w wr : World} {a : Option Addr} {n i : Nat} {xs : List Bool} (h : Ints w a n xs) (hb : Below w.heap.size w wr) (hi : i < n) :
    ∃ b off, a = some ⟨b, off, none⟩ ∧ wr.cell? ⟨b, off + i, none⟩ = some (.bool (nth xs i)) := by
  obtain ⟨b, off, rfl, hlt, hc⟩ := h.2 (by omega)
  exact ⟨b, off, rfl, (hb.cell (p := ⟨b, off + i, none⟩) hlt).trans (hc i hi)⟩
theorem Own.cap {w : World} {base : Nat} {a : Option Addr} {n cap : Nat} {xs : List Bool} (h : Own w base (.slice a n cap) xs) : n ≤ cap ∧ (a = none → cap = 0) ∧ n = xs.length ∧ cap ≤ maxLen := by
  unfold Own World.ownsRow at h
  rcases h.2 with ⟨h1, h2⟩ | ⟨g, cp, cur, h1, h2, h3, h4, h5, h6⟩
  · injection h1 with e1 e2 e3
    subst e1 e2 e3
    exact ⟨Nat.le_refl _, fun _ => rfl, h2.symm, Nat.zero_le _⟩
  · injection h1 with e1 e2 e3
    subst e1 e2 e3
    exact ⟨h4, (fun h => by cases h), rfl, h5⟩
theorem info_bool : (Tryz.prog.info? 4).map (fun i => (i.zero, i.size, i.bytes)) = some (some (.bool false), 1, 1) := by kernel_rfl
/-- 'make([]int, n)'. -/
theorem mk_bools (n : Nat) (hn : n ≤ 4294967296) (w : World) :
    (Instr.makeSlice 63 (.int .i64 (n : Int)) (.int .i64 (n : Int))).run Tryz.prog w = .ok (.slice (some ⟨w.heap.size, 0, none⟩) n n) (w.alloc (.cells (zv n) 4)) := by
  obtain ⟨i0, hi0, hz0, hz1, hz2⟩ := info_parts info_bool
  have hr := run_make (P := Tryz.prog) w 63 4 i0 (.bool false) Tryz.underlying63 hi0 hz0 .i64 .i64 (n : Int) (n : Int) (by omega) (by omega) (by rw [hz2]; omega) (by omega)
  simp only [Int.toNat_natCast, hz1, Nat.mul_one, Value.cells] at hr
  exact hr
theorem Ints.moved {w w' : World} {a : Option Addr} {n : Nat} {xs : List Bool} {v v' : Value} (h : Ints w a n xs) (hm : Moved w v w' v') (ha : 0 < n → Apart a v) : Ints w' a n xs ∧ (0 < n → Apart a v') := by
  refine ⟨⟨h.1, fun hn => ?_⟩, fun hn p hp => ?_⟩
  · obtain ⟨b, off, rfl, hb, hc⟩ := h.2 hn
    have hk := hm.2 b hb (ha hn _ rfl)
    exact ⟨b, off, rfl, Nat.lt_of_lt_of_le hb hm.1, fun j hj => (World.cell?_of_block (a := ⟨b, off + j, none⟩) hk.2).trans (hc j hj)⟩
  · obtain ⟨b, off, rfl, hb, _⟩ := h.2 hn
    cases hp
    exact (hm.2 b hb (ha hn _ rfl)).1
theorem ints_far {w : World} {a : Option Addr} {n : Nat} {xs : List Bool} (h : Ints w a n xs) {b i : Nat} (hne : ∀ p, a = some p → p.block ≠ b) (u : Value) : Ints (w.setCell ⟨b, i, none⟩ u) a n xs :=
  ⟨h.1, fun hn => by
    obtain ⟨b', off, rfl, hlt, hc⟩ := h.2 hn
    have hb := hne _ rfl
    refine ⟨b', off, rfl, by simpa [World.setCell] using hlt, fun j hj => ?_⟩
    rw [World.cell?_setCell_other _ _ _ _ (by simp; intro e; exact absurd e.symm (by simpa using hb))]
    exact hc j hj⟩
end Go.Proofs.YtnbomleieianoaaGreat.Bo

/- Contracts on trees: which nodes are ends. -/
namespace Go.Proofs.YtnbomleieianoaaGreat
open Go.RowKit

/-- A tree's two slices read as parents and weights. -/
structure Tre (w : World) (aP : Option Addr) (nP cP : Nat) (aW : Option Addr) (nW cW : Nat) (ps ws : List Int) : Prop where
  p : Ints w aP nP ps
  w : Ints w aW nW ws
  pn : nP ≤ 1048576
  wn : nW ≤ 1048576
  pc : aP = none → cP = 0
  wc : aW = none → cW = 0
theorem Tre.below {w w' : World} {aP : Option Addr} {nP cP : Nat} {aW : Option Addr} {nW cW : Nat} {ps ws : List Int} (h : Tre w aP nP cP aW nW cW ps ws) (hb : Below w.heap.size w w') : Tre w' aP nP cP aW nW cW ps ws :=
  ⟨h.p.below hb, h.w.below hb, h.pn, h.wn, h.pc, h.wc⟩
theorem Pair.far {w : World} {g : Nat} {x y : Value} (h : Pair w g x y) {b i : Nat} (hne : b ≠ g) (u : Value) : Pair (w.setCell ⟨b, i, none⟩ u) g x y :=
  ⟨by rw [World.cell?_setCell_other _ _ _ _ (by simp)]; exact h.c0, by rw [World.cell?_setCell_other _ _ _ _ (by simp [hne])]; exact h.c1, by simpa using h.f0, by simpa using h.f1⟩
theorem Pair.up {w w' : World} {g base : Nat} {x y : Value} (h : Pair w g x y) (hb : Below base w w') (hg : g < base) : Pair w' g x y :=
  ⟨(hb.cell (p := ⟨g, 0, none⟩) hg).trans h.c0, (hb.cell (p := ⟨g, 1, none⟩) hg).trans h.c1, (hb.frozen (p := ⟨g, 0, none⟩) hg).trans h.f0, (hb.frozen (p := ⟨g, 1, none⟩) hg).trans h.f1⟩
/-- For each node, whether it is an end. -/
def endsB (ps : List Int) : List Bool := (List.range ps.length).map (endB ps)
theorem endsB_length (ps : List Int) : (endsB ps).length = ps.length := by simp [endsB]
theorem nth_endsB {ps : List Int} {x : Nat} (h : x < ps.length) : Bo.nth (endsB ps) x = endB ps x := by rw [endsB, Bo.nth_map_range h]
/-- Has none of the first i nodes the parent x? -/
def freeB (ps : List Int) (i x : Nat) : Bool := (List.range i).all fun y => !(nth ps y == (x : Int))
def freeL (ps : List Int) (n i : Nat) : List Bool := (List.range n).map (freeB ps i)
def trueL (n i : Nat) : List Bool := (List.range n).map fun x => decide (x < i)
theorem freeL_length (ps : List Int) (n i : Nat) : (freeL ps n i).length = n := by simp [freeL]
theorem trueL_length (n i : Nat) : (trueL n i).length = n := by simp [trueL]
theorem trueL_zero (n : Nat) : List.replicate n false = trueL n 0 := Bo.ext_nth (by simp [trueL]) fun i hi => by
  rw [List.length_replicate] at hi
  rw [Bo.nth_replicate, trueL, Bo.nth_map_range hi]; simp
theorem trueL_succ {n i : Nat} (h : i < n) : trueL n (i + 1) = (trueL n i).set i true := Bo.ext_nth (by simp [trueL]) fun j hj => by
  rw [trueL_length] at hj
  rw [Bo.nth_set (by rw [trueL_length]; exact h), trueL, trueL, Bo.nth_map_range hj, Bo.nth_map_range hj]
  by_cases e : i = j
  · subst e; simp
  · rw [if_neg e]
    simp only [decide_eq_decide]; omega
theorem trueL_all (ps : List Int) (n : Nat) : trueL n n = freeL ps n 0 := Bo.ext_nth (by simp [trueL, freeL]) fun j hj => by
  rw [trueL_length] at hj
  rw [trueL, freeL, Bo.nth_map_range hj, Bo.nth_map_range hj]
  simp [freeB, hj]
theorem freeB_succ (ps : List Int) (i x : Nat) : freeB ps (i + 1) x = (freeB ps i x && !(nth ps i == (x : Int))) := by
  simp [freeB, List.range_succ, List.all_append]
theorem freeL_skip {ps : List Int} {n i : Nat} (h : nth ps i < 0) : freeL ps n (i + 1) = freeL ps n i := Bo.ext_nth (by simp [freeL]) fun j hj => by
  rw [freeL_length] at hj
  rw [freeL, freeL, Bo.nth_map_range hj, Bo.nth_map_range hj, freeB_succ]
  have : (nth ps i == (j : Int)) = false := by rw [beq_eq_false_iff_ne]; omega
  rw [this]; simp
theorem freeL_set {ps : List Int} {n i p : Nat} (h : nth ps i = p) (hp : p < n) : freeL ps n (i + 1) = (freeL ps n i).set p false := Bo.ext_nth (by simp [freeL]) fun j hj => by
  rw [freeL_length] at hj
  rw [Bo.nth_set (by rw [freeL_length]; exact hp), freeL, freeL, Bo.nth_map_range hj, Bo.nth_map_range hj, freeB_succ, h]
  by_cases e : p = j
  · subst e; simp
  · have : ((p : Int) == (j : Int)) = false := by rw [beq_eq_false_iff_ne]; omega
    rw [this, if_neg e]; simp
theorem freeL_all (ps : List Int) : freeL ps ps.length ps.length = endsB ps := rfl
set_option maxRecDepth 100000 in
set_option maxHeartbeats 1000000 in
theorem impl_isEnd (aP : Option Addr) (nP cP : Nat) (aW : Option Addr) (nW cW : Nat) (ps ws : List Int) (w : World) (h : Tre w aP nP cP aW nW cW ps ws) (hp : Pa ps) :
    Calls Tryz.prog 104 #[.agg #[.slice aP nP cP, .slice aW nW cW]] w fun e w' => ∃ v, e = .returned v ∧ Bo.Own w' w.heap.size v (endsB ps) ∧ Below w.heap.size w w' := by
  have hl := h.p.1
  have hn24 := hp.n24
  have hn1 := hp.n1
  have hmk := Bo.mk_bools nP (by have := h.pn; omega)
  have hb1 := below_new w (.cells #[.slice aP nP cP, .slice aW nW cW] 26)
  have hP1 := Lib.hid (Pair.new w (.slice aP nP cP) (.slice aW nW cW) 26)
  have h0 : Bo.Own ((w.alloc (.cells #[.slice aP nP cP, .slice aW nW cW] 26)).alloc (.cells (Bo.zv nP) 4)) (w.heap.size + 1) (.slice (some ⟨w.heap.size + 1, 0, none⟩) nP nP) (trueL nP 0) := by
    rw [← trueL_zero]
    have := Bo.Own.zeros (w.alloc (.cells #[.slice aP nP cP, .slice aW nW cW] 26)) (w.heap.size + 1) nP (by simp) (by have : maxLen = 9223372036854775807 := rfl; omega)
    simpa using this
  have H0 := Lib.hid h0
  have H := Lib.hid h
  have Hp := Lib.hid hp
  have Hl := Lib.hid hl
  have hnP : 1 ≤ nP ∧ nP ≤ 24 := by omega
  clear h hp hl h0 hn24 hn1
  go_enter Tryz.func104, Tryz.ntmps104
  go_wp2_with fail
  have hb2 : Below w.heap.size w ((w.alloc (.cells #[.slice aP nP cP, .slice aW nW cW] 26)).alloc (.cells (Bo.zv nP) 4)) := hb1.alloc (by simp) _
  have hP2 := Lib.hid (hP1.out.alloc (.cells (Bo.zv nP) 4))
  generalize ((w.alloc (.cells #[.slice aP nP cP, .slice aW nW cW] 26)).alloc (.cells (Bo.zv nP) 4)) = w2 at *
  clear hmk hP1 hb1
  go_loopw [13] (fun v13 wr => ∃ i : Nat, i ≤ nP ∧ v13 = .int .i64 (i : Int) ∧ Bo.Own wr (w.heap.size + 1) (.slice (some ⟨w.heap.size + 1, 0, none⟩) nP nP) (trueL nP i) ∧ Pair wr w.heap.size (.slice aP nP cP) (.slice aW nW cW) ∧ Below w.heap.size w wr) (fun v13 _ => nP - (intOf v13).toNat)
  case atStart => exact ⟨0, Nat.zero_le _, rfl, H0.out, hP2.out, hb2⟩
  case round =>
    obtain ⟨i, hi, rfl, hown, hP, hbel⟩ := hrel
    clear hP2 hb2 H0
    by_cases hlt : (i : Int) < nP
    · have hc := hown.cell (i := i) (by rw [trueL_length]; omega)
      have hf := hown.free (by rw [trueL_length]) i
      have hs := Lib.hid (hown.set (by rw [trueL_length]) i true)
      have HP := Lib.hid (hP.far (i := i) (show w.heap.size + 1 ≠ w.heap.size by omega) (.bool true))
      clear hown hP
      go_wp2_with fail
      go_roundw
      case rel => exact ⟨i + 1, by omega, by go_num, by rw [trueL_succ (by omega)]; exact hs.out, HP.out, hbel.setCell (by simp) _⟩
      case measure => simp [intOf]; omega
    · obtain rfl : i = nP := by omega
      rw [trueL_all ps] at hown
      have Hown := Lib.hid hown
      have HPx := Lib.hid hP
      have c0 := hP.c0
      clear hown hP
      go_wp2_with fail
      go_loopw [23] (fun v23 wr => ∃ k : Nat, k ≤ i ∧ v23 = .int .i64 (k : Int) ∧ Bo.Own wr (w.heap.size + 1) (.slice (some ⟨w.heap.size + 1, 0, none⟩) i i) (freeL ps i k) ∧ Below w.heap.size w wr) (fun v23 _ => i - (intOf v23).toNat)
      case atStart => exact ⟨0, Nat.zero_le _, rfl, Hown.out, hbel⟩
      case round =>
        clear hbel c0
        obtain ⟨k, hk, rfl, hown, hbel⟩ := hrel
        by_cases hlt : (k : Int) < i
        · obtain ⟨b, off, rfl, hc⟩ := H.out.p.at (i := k) hbel (by omega)
          by_cases hneg : nth ps k < 0
          · have hsk := freeL_skip (n := i) hneg
            have hge : ¬ (nth ps k ≥ 0) := by omega
            generalize nth ps k = p at *
            have Hsk := Lib.hid hsk
            clear hsk
            go_wp2_with fail
            go_roundw
            case rel => exact ⟨k + 1, by omega, by go_num, by rw [Hsk.out]; exact hown, hbel⟩
            case measure => simp [intOf]; omega
          · have hk0 : ¬ k = 0 := by
              intro e; subst e; rw [Hp.out.p0] at hneg; omega
            have hup := Hp.out.upN (x := k) (by omega) (by have := Hl.out; omega)
            have hset := freeL_set (n := i) hup.1 (by have := hup.2; omega)
            rw [hup.1] at hc hneg
            have hup2 := hup.2
            have hge : (0 : Int) ≤ (par ps k : Int) := by omega
            clear hup
            generalize par ps k = p at *
            have hc2 := hown.cell (i := p) (by rw [freeL_length]; omega)
            have hf2 := hown.free (by rw [freeL_length]) p
            have hs := Lib.hid (hown.set (by rw [freeL_length]) p false)
            have Hset := Lib.hid hset
            clear hset hown
            go_wp2_with fail
            go_roundw
            case rel => exact ⟨k + 1, by omega, by go_num, by rw [Hset.out]; exact hs.out, hbel.setCell (by simp) _⟩
            case measure => simp [intOf]; omega
        · obtain rfl : k = i := by omega
          have hfin : freeL ps k k = endsB ps := by rw [← Hl.out]; exact freeL_all ps
          rw [hfin] at hown
          go_wp2_with fail
          go_ret
          exact ⟨_, rfl, hown.mono (by omega), hbel⟩
end Go.Proofs.YtnbomleieianoaaGreat

/- Contracts on trees: is a tree valid, by the program. -/
namespace Go.Proofs.YtnbomleieianoaaGreat
open Go.RowKit

set_option maxRecDepth 100000 in
set_option maxHeartbeats 2000000 in
theorem impl_IsTree (aP : Option Addr) (nP cP : Nat) (aW : Option Addr) (nW cW : Nat) (ps ws : List Int) (w : World) (h : Tre w aP nP cP aW nW cW ps ws) :
    Calls Tryz.prog 59 #[.agg #[.slice aP nP cP, .slice aW nW cW]] w fun e w' => e = .returned (.bool (treeB ps ws)) ∧ Below w.heap.size w w' := by
  have hl := h.p.1
  have hlw := h.w.1
  have hpn := h.pn
  have hwn := h.wn
  have hb1 := below_new w (.cells #[.slice aP nP cP, .slice aW nW cW] 26)
  have hP1 := Lib.hid (Pair.new w (.slice aP nP cP) (.slice aW nW cW) 26)
  have H := Lib.hid h
  have Hl := Lib.hid hl
  have Hlw := Lib.hid hlw
  clear h hl hlw
  cases h1 : inB (nP : Int) 1 24
  · rw [tree_len1 (by rw [Hl.out]; exact h1)]
    go_enter Tryz.func59, Tryz.ntmps59
    go_wp2_with (go_at_call 120; refine (impl_within _ _ _ _).mono ?_; rintro e w' ⟨rfl, rfl⟩; rw [h1])
    go_ret
    exact ⟨rfl, hb1⟩
  · have hn := inB_t h1
    have H1 := Lib.hid h1
    by_cases h2 : nW = nP
    rotate_left
    · rw [tree_len2 (by rw [Hl.out, Hlw.out]; exact h2)]
      have h2b : ((nW : Int) != (nP : Int)) = true := by rw [bne_iff_ne]; omega
      clear h2
      go_enter Tryz.func59, Tryz.ntmps59
      go_wp2_with (go_at_call 120; refine (impl_within _ _ _ _).mono ?_; rintro e w' ⟨rfl, rfl⟩; rw [H1.out])
      go_ret
      exact ⟨rfl, hb1⟩
    · subst h2
      obtain ⟨bP, oP, rfl, hbP, hcP⟩ := H.out.p.2 (by omega)
      have hc0 := hcP 0 (by omega)
      rw [Nat.add_zero] at hc0
      have hc0' := (hb1.cell (p := ⟨bP, oP, none⟩) hbP).trans hc0
      clear hcP hc0 h1
      by_cases h3 : nth ps 0 = -1
      rotate_left
      · rw [tree_par (par_p0 h3)]
        have h3b : (nth ps 0 != -1) = true := by rw [bne_iff_ne]; exact h3
        generalize nth ps 0 = p0 at *
        clear h3
        go_enter Tryz.func59, Tryz.ntmps59
        go_wp2_with (go_at_call 120; refine (impl_within _ _ _ _).mono ?_; rintro e w' ⟨rfl, rfl⟩; rw [H1.out])
        go_ret
        exact ⟨rfl, hb1⟩
      · have H3 := Lib.hid h3
        rw [h3] at hc0'
        clear h3
        go_enter Tryz.func59, Tryz.ntmps59
        go_wp2_with (go_at_call 120; refine (impl_within _ _ _ _).mono ?_; rintro e w' ⟨rfl, rfl⟩; rw [H1.out])
        have c0 := hP1.out.c0
        have c1 := hP1.out.c1
        generalize (w.alloc (.cells #[.slice (some ⟨bP, oP, none⟩) nW cP, .slice aW nW cW] 26)) = w2 at *
        clear hc0'
        go_loop [4] (fun v4 => ∃ x : Nat, 1 ≤ x ∧ x ≤ nW ∧ v4 = .int .i64 (x : Int) ∧ ∀ y : Nat, 1 ≤ y → y < x → inB (nth ps y) 0 ((y : Int) - 1) = true) (fun v4 => nW - (intOf v4).toNat)
        case atStart => exact ⟨1, by omega, by omega, rfl, fun y h1 h2 => by omega⟩
        case round =>
          obtain ⟨x, hx1, hx2, rfl, hall⟩ := hrel
          have Hall := Lib.hid hall
          clear hall
          by_cases hlt : (x : Int) < nW
          · obtain ⟨b', o', he, hc⟩ := H.out.p.at (i := x) hb1 (by omega)
            cases he
            cases hin : inB (nth ps x) 0 ((x : Int) - 1)
            · have hv := tree_par (ws := ws) (par_f hx1 (by have := Hl.out; omega) hin)
              have Hv := Lib.hid hv
              generalize nth ps x = p at *
              have Hin := Lib.hid hin
              clear hin hv
              go_wp2_with (go_at_call 120; refine (impl_within _ _ _ _).mono ?_; rintro e w' ⟨rfl, rfl⟩; rw [Hin.out])
              go_ret
              exact ⟨by rw [Hv.out]; rfl, hb1⟩
            · have Hin := Lib.hid hin
              have Hin2 := Lib.hid hin
              generalize hp : nth ps x = p at hc Hin
              clear hin hp
              go_wp2_with (go_at_call 120; refine (impl_within _ _ _ _).mono ?_; rintro e w' ⟨rfl, rfl⟩; rw [Hin.out])
              go_round
              case rel => exact ⟨x + 1, by omega, by omega, by go_num, fun y h1 h2 => by
                by_cases e : y = x
                · subst e; exact Hin2.out
                · exact Hall.out y h1 (by omega)⟩
              case measure => simp [intOf]; omega
          · obtain rfl : x = nW := by omega
            have hpar : parB ps = true := par_t H3.out fun y h1 h2 => Hall.out y h1 (by have := Hl.out; omega)
            have hPa : Pa ps := parB_t (by rw [Hl.out]; exact H1.out) hpar
            have Hpar := Lib.hid hpar
            have HPa := Lib.hid hPa
            clear hpar hPa
            go_wp2_with fail
            refine (impl_isEnd _ _ _ _ _ _ ps ws _ (H.out.below hb1) HPa.out).mono ?_
            rintro e w3 ⟨v, rfl, ho, hb3⟩
            obtain ⟨a3, c3, rfl⟩ := ho.shape
            have hel : (endsB ps).length = x := by rw [endsB_length]; exact Hl.out
            rw [hel] at ho ⊢
            have HO := Lib.hid ho.bools
            have hb13 := hb1.trans (hb3.mono hb1.size)
            have hlt2 : w.heap.size < w2.heap.size := hP1.out.lt
            have c1' := (hb3.cell (p := ⟨w.heap.size, 1, none⟩) hlt2).trans c1
            clear ho hel c0 c1 hlt
            go_wp2_with fail
            go_loop [44] (fun v44 => ∃ k : Nat, k ≤ x ∧ v44 = .int .i64 (k : Int) ∧ ∀ y : Nat, y < k → wOk ps ws y = true) (fun v44 => x - (intOf v44).toNat)
            case atStart => exact ⟨0, Nat.zero_le _, rfl, fun y h => by omega⟩
            case round =>
              obtain ⟨k, hk, rfl, hall⟩ := hrel
              have Hok := Lib.hid hall
              clear hall
              by_cases hlt : (k : Int) < x
              · obtain ⟨be, oe, rfl, hce⟩ := HO.out.at (i := k) (Below.refl _ _) (by omega)
                rw [nth_endsB (by have := Hl.out; omega)] at hce
                obtain ⟨bW, oW, rfl, hcw⟩ := H.out.w.at (i := k) hb13 (by omega)
                cases he : endB ps k
                · rw [he] at hce
                  by_cases hz : nth ws k = 0
                  · have hok : wOk ps ws k = true := by rw [wOk, he, if_neg Bool.false_ne_true, hz]; rfl
                    rw [hz] at hcw
                    have Hk := Lib.hid hok
                    clear hok hz he
                    go_wp2_with fail
                    go_round
                    case rel => exact ⟨k + 1, by omega, by go_num, fun y h1 => by
                      by_cases e : y = k
                      · subst e; exact Hk.out
                      · exact Hok.out y (by omega)⟩
                    case measure => simp [intOf]; omega
                  · have hok : wOk ps ws k = false := by rw [wOk, he, if_neg Bool.false_ne_true]; simpa using hz
                    have Hk := Lib.hid hok
                    have hzb : (nth ws k != 0) = true := by rw [bne_iff_ne]; exact hz
                    generalize nth ws k = u at *
                    clear hok hz he
                    go_wp2_with fail
                    go_ret
                    exact ⟨by rw [tree_wt (x := k) (by have := Hl.out; omega) Hk.out]; rfl, hb13⟩
                · rw [he] at hce
                  cases hin : inB (nth ws k) 1 20
                  · have hok : wOk ps ws k = false := by rw [wOk, he, if_pos rfl, hin]
                    have Hk := Lib.hid hok
                    generalize nth ws k = u at *
                    have Hin := Lib.hid hin
                    clear hok hin he
                    go_wp2_with (go_at_call 120; refine (impl_within _ _ _ _).mono ?_; rintro e w' ⟨rfl, rfl⟩; rw [Hin.out])
                    go_ret
                    exact ⟨by rw [tree_wt (x := k) (by have := Hl.out; omega) Hk.out]; rfl, hb13⟩
                  · have hok : wOk ps ws k = true := by rw [wOk, he, if_pos rfl, hin]
                    have Hk := Lib.hid hok
                    generalize hu : nth ws k = u at hin hcw
                    have Hin := Lib.hid hin
                    clear hok hin he hu
                    go_wp2_with (go_at_call 120; refine (impl_within _ _ _ _).mono ?_; rintro e w' ⟨rfl, rfl⟩; rw [Hin.out])
                    go_round
                    case rel => exact ⟨k + 1, by omega, by go_num, fun y h1 => by
                      by_cases e : y = k
                      · subst e; exact Hk.out
                      · exact Hok.out y (by omega)⟩
                    case measure => simp [intOf]; omega
              · obtain rfl : k = x := by omega
                go_wp2_with fail
                go_ret
                exact ⟨by rw [tree_yes (by rw [Hl.out]; exact H1.out) (Hlw.out.trans Hl.out.symm) Hpar.out (fun y hy => Hok.out y (by have := Hl.out; omega))]; rfl, hb13⟩
end Go.Proofs.YtnbomleieianoaaGreat

/- Contracts on trees: children, is a tree valid, by the reference. -/
namespace Go.Proofs.YtnbomleieianoaaGreat
open Go.RowKit

theorem len_kids (ps : List Int) (x : Nat) : (((kids ps x).length : Int) == 0) = endB ps x := by
  rw [endB_kids]
  cases h : kids ps x with
  | nil => rfl
  | cons a l => simp; omega
set_option maxRecDepth 100000 in
set_option maxHeartbeats 1000000 in
theorem spec_l2Kids (aP : Option Addr) (nP cP : Nat) (aW : Option Addr) (nW cW : Nat) (ps ws : List Int) (x : Int) (w : World) (h : Tre w aP nP cP aW nW cW ps ws) (hp : Pa ps) (hx : 0 ≤ x ∧ x < nP) :
    Calls Tryz.prog 143 #[.agg #[.slice aP nP cP, .slice aW nW cW], .int .i64 x] w fun e w' => ∃ v, e = .returned v ∧ Own w' w.heap.size v (kids ps x.toNat) ∧ Below w.heap.size w w' := by
  obtain ⟨X, rfl⟩ : ∃ X : Nat, x = X := ⟨x.toNat, by omega⟩
  rw [Int.toNat_natCast]
  have hl := h.p.1
  have hn24 := hp.n24
  have hb1 := below_new w (.cells #[.slice aP nP cP, .slice aW nW cW] 26)
  have hP1 := Lib.hid (Pair.new w (.slice aP nP cP) (.slice aW nW cW) 26)
  have H := Lib.hid h
  have Hp := Lib.hid hp
  have Hl := Lib.hid hl
  have hnP : nP ≤ 24 := by omega
  clear h hp hl hn24
  go_enter Tryz.func143, Tryz.ntmps143
  go_wp2_with fail
  have hnil := own_nil0 (w.alloc (.cells #[.slice aP nP cP, .slice aW nW cW] 26))
  rw [show (w.alloc (.cells #[.slice aP nP cP, .slice aW nW cW] 26)).heap.size = w.heap.size + 1 by simp] at hnil
  have hb2 : Below w.heap.size w ((w.alloc (.cells #[.slice aP nP cP, .slice aW nW cW] 26)).alloc (.cells #[] 3)) := hb1.alloc (by simp) _
  have hP2 := Lib.hid (hP1.out.alloc (.cells #[] 3))
  generalize ((w.alloc (.cells #[.slice aP nP cP, .slice aW nW cW] 26)).alloc (.cells #[] 3)) = w2 at *
  clear hP1 hb1
  go_loopw [5, 6] (fun v5 v6 wr => ∃ k : Nat, X + 1 ≤ k ∧ k ≤ nP ∧ v6 = .int .i64 (k : Int) ∧ Own wr (w.heap.size + 1) v5 (filt (fun y => nth ps y == (X : Int)) k) ∧ Pair wr w.heap.size (.slice aP nP cP) (.slice aW nW cW) ∧ Below w.heap.size w wr) (fun _ v6 _ => nP - (intOf v6).toNat)
  case atStart => exact ⟨X + 1, Nat.le_refl _, by omega, by go_num, by rw [kids_low Hp.out (Nat.le_refl _) (by have := Hl.out; omega)]; exact hnil, hP2.out, hb2⟩
  case round =>
    obtain ⟨k, hk1, hk2, rfl, hown, hP, hbel⟩ := hrel
    clear hnil hP2 hb2
    have c0 := hP.c0
    have HP := Lib.hid hP
    clear hP
    by_cases hlt : (k : Int) < nP
    · obtain ⟨b, off, rfl, hc⟩ := H.out.p.at (i := k) hbel (by omega)
      have hlen := filt_length (fun y => nth ps y == (X : Int)) k
      have hle : w.heap.size + 1 ≤ wr.heap.size := by have := HP.out.lt; omega
      cases he : (nth ps k == (X : Int))
      · have hf := filt_f (p := fun y => nth ps y == (X : Int)) (k := k) he
        have Hf := Lib.hid hf
        generalize nth ps k = q at *
        clear hf
        go_wp2_with fail
        go_roundw
        case rel => exact ⟨k + 1, by omega, by omega, by go_num, by rw [Hf.out]; exact hown, HP.out, hbel⟩
        case measure => simp [intOf]; omega
      · have hf := filt_t (p := fun y => nth ps y == (X : Int)) (k := k) he
        have Hf := Lib.hid hf
        generalize nth ps k = q at *
        clear hf
        go_wp2_with (at_builtin; refine wp_push (.tmp 24) (.tmp 26) rfl rfl (w.heap.size + 1) _ _ rfl hown rfl (by omega) hle ?_; intro v' w' ho hb)
        go_roundw
        case rel => exact ⟨k + 1, by omega, by omega, by go_num, by rw [Hf.out]; exact ho, HP.out.up hb (by omega), hbel.trans (hb.mono (by omega))⟩
        case measure => simp [intOf]; omega
    · obtain rfl : k = nP := by omega
      go_wp2_with fail
      go_ret
      exact ⟨_, rfl, by have : kids ps X = filt (fun y => nth ps y == (X : Int)) k := by rw [kids, Hl.out]
                        rw [this]; exact hown.mono (by omega), hbel⟩
end Go.Proofs.YtnbomleieianoaaGreat

/- Contracts on trees: is a tree valid, by the reference. -/
namespace Go.Proofs.YtnbomleieianoaaGreat
open Go.RowKit

set_option maxRecDepth 100000 in
set_option maxHeartbeats 2000000 in
theorem spec_l2Good (aP : Option Addr) (nP cP : Nat) (aW : Option Addr) (nW cW : Nat) (ps ws : List Int) (w : World) (h : Tre w aP nP cP aW nW cW ps ws) :
    Calls Tryz.prog 84 #[.agg #[.slice aP nP cP, .slice aW nW cW]] w fun e w' => e = .returned (.bool (treeB ps ws)) ∧ Below w.heap.size w w' := by
  have hl := h.p.1
  have hlw := h.w.1
  have hpn := h.pn
  have hwn := h.wn
  have hb1 := below_new w (.cells #[.slice aP nP cP, .slice aW nW cW] 26)
  have hP1 := Lib.hid (Pair.new w (.slice aP nP cP) (.slice aW nW cW) 26)
  have H := Lib.hid h
  have Hl := Lib.hid hl
  have Hlw := Lib.hid hlw
  clear h hl hlw
  cases h1 : inB (nP : Int) 1 24
  · rw [tree_len1 (by rw [Hl.out]; exact h1)]
    go_enter Tryz.func84, Tryz.ntmps84
    go_wp2_with (go_at_call 110; refine (spec_l1In _ _ _ _).mono ?_; rintro e w' ⟨rfl, rfl⟩; rw [h1])
    go_ret
    exact ⟨rfl, hb1⟩
  · have hn := inB_t h1
    have H1 := Lib.hid h1
    by_cases h2 : nW = nP
    rotate_left
    · rw [tree_len2 (by rw [Hl.out, Hlw.out]; exact h2)]
      have h2b : ((nW : Int) != (nP : Int)) = true := by rw [bne_iff_ne]; omega
      clear h2
      go_enter Tryz.func84, Tryz.ntmps84
      go_wp2_with (go_at_call 110; refine (spec_l1In _ _ _ _).mono ?_; rintro e w' ⟨rfl, rfl⟩; rw [H1.out])
      go_ret
      exact ⟨rfl, hb1⟩
    · subst h2
      clear h1
      go_enter Tryz.func84, Tryz.ntmps84
      go_wp2_with (go_at_call 110; refine (spec_l1In _ _ _ _).mono ?_; rintro e w' ⟨rfl, rfl⟩; rw [H1.out])
      have c0 := hP1.out.c0
      have c1 := hP1.out.c1
      generalize (w.alloc (.cells #[.slice aP nW cP, .slice aW nW cW] 26)) = w2 at *
      go_loop [4] (fun v4 => ∃ x : Nat, x ≤ nW ∧ v4 = .int .i64 (x : Int) ∧ (1 ≤ x → nth ps 0 = -1) ∧ ∀ y : Nat, 1 ≤ y → y < x → inB (nth ps y) 0 ((y : Int) - 1) = true) (fun v4 => nW - (intOf v4).toNat)
      case atStart => exact ⟨0, by omega, rfl, fun h => by omega, fun y h1 h2 => by omega⟩
      case round =>
        obtain ⟨x, hx2, rfl, h0, hall⟩ := hrel
        have Hall := Lib.hid hall
        have H0 := Lib.hid h0
        clear hall h0
        by_cases hlt : (x : Int) < nW
        · obtain ⟨b, off, rfl, hc⟩ := H.out.p.at (i := x) hb1 (by omega)
          by_cases hx0 : x = 0
          · subst hx0
            rw [Nat.add_zero] at hc
            by_cases h3 : nth ps 0 = -1
            · have H3 := Lib.hid h3
              rw [h3] at hc
              clear h3
              go_wp2_with fail
              go_round
              case rel => exact ⟨1, by omega, by go_num, fun _ => H3.out, fun y h1 h2 => by omega⟩
              case measure => simp [intOf]; omega
            · have hv := tree_par (ws := ws) (par_p0 h3)
              have Hv := Lib.hid hv
              have h3b : (nth ps 0 != -1) = true := by rw [bne_iff_ne]; exact h3
              generalize nth ps 0 = p0 at *
              clear h3 hv
              go_wp2_with fail
              go_ret
              exact ⟨by rw [Hv.out]; rfl, hb1⟩
          · have hxb : ((x : Int) == 0) = false := by rw [beq_eq_false_iff_ne]; omega
            have hxg : (x : Int) > 0 := by omega
            cases hin : inB (nth ps x) 0 ((x : Int) - 1)
            · have hv := tree_par (ws := ws) (par_f (by omega) (by have := Hl.out; omega) hin)
              have Hv := Lib.hid hv
              generalize nth ps x = p at *
              have Hin := Lib.hid hin
              clear hin hv
              go_wp2_with (go_at_call 110; refine (spec_l1In _ _ _ _).mono ?_; rintro e w' ⟨rfl, rfl⟩; rw [Hin.out])
              go_ret
              exact ⟨by rw [Hv.out]; rfl, hb1⟩
            · have Hin := Lib.hid hin
              have Hin2 := Lib.hid hin
              generalize hp : nth ps x = p at hc Hin
              clear hin hp
              go_wp2_with (go_at_call 110; refine (spec_l1In _ _ _ _).mono ?_; rintro e w' ⟨rfl, rfl⟩; rw [Hin.out])
              go_round
              case rel => exact ⟨x + 1, by omega, by go_num, fun _ => H0.out (by omega), fun y h1 h2 => by
                by_cases e : y = x
                · subst e; exact Hin2.out
                · exact Hall.out y h1 (by omega)⟩
              case measure => simp [intOf]; omega
        · obtain rfl : x = nW := by omega
          have hpar : parB ps = true := par_t (H0.out (by omega)) fun y h1 h2 => Hall.out y h1 (by have := Hl.out; omega)
          have hPa : Pa ps := parB_t (by rw [Hl.out]; exact H1.out) hpar
          have Hpar := Lib.hid hpar
          have HPa := Lib.hid hPa
          have HP2 := Lib.hid hP1.out
          clear hpar hPa c0 c1 hlt hP1
          go_wp2_with fail
          go_loopw [5] (fun v5 wr => ∃ k : Nat, k ≤ x ∧ v5 = .int .i64 (k : Int) ∧ (∀ y : Nat, y < k → wOk ps ws y = true) ∧ Pair wr w.heap.size (.slice aP x cP) (.slice aW x cW) ∧ Below w.heap.size w wr) (fun v5 _ => x - (intOf v5).toNat)
          case atStart => exact ⟨0, Nat.zero_le _, rfl, fun y h => by omega, HP2.out, hb1⟩
          case round =>
            clear hb1
            obtain ⟨k, hk, rfl, hall, hP, hbel⟩ := hrel
            have Hok := Lib.hid hall
            have c0 := hP.c0
            have c1 := hP.c1
            have HP := Lib.hid hP
            clear hall hP
            by_cases hlt : (k : Int) < x
            · go_wp2_with fail
              refine (spec_l2Kids _ _ _ _ _ _ ps ws _ _ (H.out.below hbel) HPa.out (by omega)).mono ?_
              rintro e w3 ⟨v, rfl, ho, hb3⟩
              obtain ⟨a3, c3, rfl⟩ := ho.shape
              rw [Int.toNat_natCast] at ho ⊢
              have hlk := len_kids ps k
              have hb13 := hbel.trans (hb3.mono hbel.size)
              have HP3 := Lib.hid (HP.out.below hb3)
              have d1 := HP3.out.c1
              obtain ⟨bW, oW, rfl, hcw⟩ := H.out.w.at (i := k) hb13 (by omega)
              have hlk2 : (kids ps k).length ≤ 24 := by have := filt_length (fun y => nth ps y == (k : Int)) ps.length; have := Hl.out; unfold kids; omega
              generalize (kids ps k).length = L at *
              clear ho
              cases he : endB ps k
              · rw [he] at hlk
                by_cases hz : nth ws k = 0
                · have hok : wOk ps ws k = true := by rw [wOk, he, if_neg Bool.false_ne_true, hz]; rfl
                  rw [hz] at hcw
                  have Hk := Lib.hid hok
                  clear hok hz he
                  go_wp2_with fail
                  go_roundw
                  case rel => exact ⟨k + 1, by omega, by go_num, fun y h1 => by
                    by_cases e : y = k
                    · subst e; exact Hk.out
                    · exact Hok.out y (by omega), HP3.out, hb13⟩
                  case measure => simp [intOf]; omega
                · have hok : wOk ps ws k = false := by rw [wOk, he, if_neg Bool.false_ne_true]; simpa using hz
                  have Hk := Lib.hid hok
                  have hzb : (nth ws k != 0) = true := by rw [bne_iff_ne]; exact hz
                  generalize nth ws k = u at *
                  clear hok hz he
                  go_wp2_with fail
                  go_ret
                  exact ⟨by rw [tree_wt (x := k) (by have := Hl.out; omega) Hk.out]; rfl, hb13⟩
              · rw [he] at hlk
                cases hin : inB (nth ws k) 1 20
                · have hok : wOk ps ws k = false := by rw [wOk, he, if_pos rfl, hin]
                  have Hk := Lib.hid hok
                  generalize nth ws k = u at *
                  have Hin := Lib.hid hin
                  clear hok hin he
                  go_wp2_with (go_at_call 110; refine (spec_l1In _ _ _ _).mono ?_; rintro e w' ⟨rfl, rfl⟩; rw [Hin.out])
                  go_ret
                  exact ⟨by rw [tree_wt (x := k) (by have := Hl.out; omega) Hk.out]; rfl, hb13⟩
                · have hok : wOk ps ws k = true := by rw [wOk, he, if_pos rfl, hin]
                  have Hk := Lib.hid hok
                  generalize hu : nth ws k = u at hin hcw
                  have Hin := Lib.hid hin
                  clear hok hin he hu
                  go_wp2_with (go_at_call 110; refine (spec_l1In _ _ _ _).mono ?_; rintro e w' ⟨rfl, rfl⟩; rw [Hin.out])
                  go_roundw
                  case rel => exact ⟨k + 1, by omega, by go_num, fun y h1 => by
                    by_cases e : y = k
                    · subst e; exact Hk.out
                    · exact Hok.out y (by omega), HP3.out, hb13⟩
                  case measure => simp [intOf]; omega
            · obtain rfl : k = x := by omega
              go_wp2_with fail
              go_ret
              exact ⟨by rw [tree_yes (by rw [Hl.out]; exact H1.out) (Hlw.out.trans Hl.out.symm) Hpar.out (fun y hy => Hok.out y (by have := Hl.out; omega))]; rfl, hbel⟩
end Go.Proofs.YtnbomleieianoaaGreat

/- Contracts on trees: lists of a number for each node, children, ends, depths. -/
namespace Go.Proofs.YtnbomleieianoaaGreat
open Go.RowKit

/-- Are these so many numbers that may be paid? -/
def procB (n : Nat) (xs : List Int) : Bool := (xs.length == n) && allIn xs (-999) 999
def paysB (ps ws xs : List Int) : Bool := treeB ps ws && procB ps.length xs
theorem pays_all {ps ws xs : List Int} (h : allIn xs (-999) 999 = false) : paysB ps ws xs = false := by rw [paysB, procB, h]; simp
theorem pays_yes {ps ws xs : List Int} (h : allIn xs (-999) 999 = true) : paysB ps ws xs = (treeB ps ws && (xs.length == ps.length)) := by rw [paysB, procB, h]; simp
theorem procB_t {n : Nat} {xs : List Int} (h : procB n xs = true) : xs.length = n ∧ ∀ i, -999 ≤ nth xs i ∧ nth xs i ≤ 999 := by
  simp only [procB, Bool.and_eq_true, beq_iff_eq] at h
  refine ⟨h.1, fun i => ?_⟩
  by_cases hi : i < xs.length
  · exact inB_t (all_get h.2 hi)
  · rw [nth_ge (by omega)]; omega
set_option maxRecDepth 100000 in
set_option maxHeartbeats 400000 in
theorem impl_isProcess (aP : Option Addr) (nP cP : Nat) (aW : Option Addr) (nW cW : Nat) (ps ws : List Int) (aL : Option Addr) (nL cL : Nat) (l : List Int) (w : World) (h : Tre w aP nP cP aW nW cW ps ws) (hL : Ints w aL nL l) (hn : nL ≤ 1048576) :
    Calls Tryz.prog 70 #[.agg #[.slice aP nP cP, .slice aW nW cW], .slice aL nL cL] w fun e w' => e = .returned (.bool (procB ps.length l)) ∧ Below w.heap.size w w' := by
  have hl := h.p.1
  have hlw := h.w.1
  have hpn := h.pn
  have hwn := h.wn
  have hb1 := below_new w (.cells #[.slice aP nP cP, .slice aW nW cW] 26)
  have hP1 := Lib.hid (Pair.new w (.slice aP nP cP) (.slice aW nW cW) 26)
  have H := Lib.hid h
  have Hl := Lib.hid hl
  have Hlw := Lib.hid hlw
  clear h hl hlw
  have hll := Lib.hid hL.1
  have HL := Lib.hid (hL.below hb1)
  clear hL
  have c0 := hP1.out.c0
  have c1 := hP1.out.c1
  by_cases he : nL = nP
  · have hv : procB ps.length l = allIn l (-999) 999 := by rw [procB, hll.out, Hl.out, he]; simp
    have heb : ((nL : Int) == (nP : Int)) = true := by simp [he]
    rw [hv]
    generalize hA : allIn l (-999) 999 = A
    have HA := Lib.hid hA
    clear hA he hv
    go_enter Tryz.func70, Tryz.ntmps70
    go_wp2_with (go_at_call 109; refine (impl_allWithin _ _ _ _ _ l _ (by omega) HL.out).mono ?_; rintro e w' ⟨rfl, rfl⟩; rw [HA.out])
    go_ret
    exact ⟨rfl, hb1⟩
  · have hv : procB ps.length l = false := by rw [procB, hll.out, Hl.out]; simp [he]
    have heb : ((nL : Int) == (nP : Int)) = false := by rw [beq_eq_false_iff_ne]; omega
    rw [hv]
    clear he hv
    go_enter Tryz.func70, Tryz.ntmps70
    go_wp2_with fail
    go_ret
    exact ⟨rfl, hb1⟩
set_option maxRecDepth 100000 in
set_option maxHeartbeats 1000000 in
theorem spec_l3Good (aP : Option Addr) (nP cP : Nat) (aW : Option Addr) (nW cW : Nat) (ps ws : List Int) (aL : Option Addr) (nL cL : Nat) (l : List Int) (w : World) (h : Tre w aP nP cP aW nW cW ps ws) (hL : Ints w aL nL l) (hn : nL ≤ 1048576) :
    Calls Tryz.prog 133 #[.agg #[.slice aP nP cP, .slice aW nW cW], .slice aL nL cL] w fun e w' => e = .returned (.bool (paysB ps ws l)) ∧ Below w.heap.size w w' := by
  have hl := h.p.1
  have hlw := h.w.1
  have hpn := h.pn
  have hwn := h.wn
  have hb1 := below_new w (.cells #[.slice aP nP cP, .slice aW nW cW] 26)
  have hP1 := Lib.hid (Pair.new w (.slice aP nP cP) (.slice aW nW cW) 26)
  have H := Lib.hid h
  have Hl := Lib.hid hl
  have Hlw := Lib.hid hlw
  clear h hl hlw
  have hll := Lib.hid hL.1
  have HL := Lib.hid (hL.below hb1)
  clear hL
  have c0 := hP1.out.c0
  have c1 := hP1.out.c1
  have hlt2 := hP1.out.lt
  go_enter Tryz.func133, Tryz.ntmps133
  go_wp2_with fail
  generalize (w.alloc (.cells #[.slice aP nP cP, .slice aW nW cW] 26)) = w2 at *
  go_loop [5] (fun v5 => ∃ i : Nat, i ≤ nL ∧ v5 = .int .i64 (i : Int) ∧ ∀ j, j < i → inB (nth l j) (-999) 999 = true) (fun v5 => nL - (intOf v5).toNat)
  case atStart => exact ⟨0, Nat.zero_le _, rfl, fun j hj => by omega⟩
  case round =>
    obtain ⟨i, hi, rfl, hall⟩ := hrel
    have Hall := Lib.hid hall
    clear hall
    by_cases hlt : (i : Int) < nL
    · obtain ⟨b, off, rfl, hc⟩ := HL.out.at (i := i) (Below.refl _ _) (by omega)
      cases hin : inB (nth l i) (-999) 999
      · have hv := pays_all (ps := ps) (ws := ws) (all_f (i := i) (by have := hll.out; omega) hin)
        have Hv := Lib.hid hv
        have Hin := Lib.hid hin
        generalize nth l i = u at *
        clear hv hin
        go_wp2_with (go_at_call 110; refine (spec_l1In _ _ _ _).mono ?_; rintro e w' ⟨rfl, rfl⟩; rw [Hin.out])
        go_ret
        exact ⟨by rw [Hv.out]; rfl, hb1⟩
      · have Hin := Lib.hid hin
        have Hin2 := Lib.hid hin
        generalize hu : nth l i = u at hc Hin
        clear hin hu
        go_wp2_with (go_at_call 110; refine (spec_l1In _ _ _ _).mono ?_; rintro e w' ⟨rfl, rfl⟩; rw [Hin.out])
        go_round
        case rel => exact ⟨i + 1, by omega, by go_num, fun j hj => by
          by_cases e : j = i
          · subst e; exact Hin2.out
          · exact Hall.out j (by omega)⟩
        case measure => simp [intOf]; omega
    · obtain rfl : i = nL := by omega
      have hA : allIn l (-999) 999 = true := all_t fun j hj => Hall.out j (by have := hll.out; omega)
      have Hv := Lib.hid (pays_yes (ps := ps) (ws := ws) hA)
      clear hA
      have hpe : Hid ((l.length == ps.length) = decide (i = nP)) := Lib.hid (by rw [hll.out, Hl.out]; rfl)
      go_wp2_with fail
      refine (spec_l2Good _ _ _ _ _ _ ps ws _ (H.out.below hb1)).mono ?_
      rintro e w3 ⟨rfl, hb3⟩
      have d0 := (hb3.cell (p := ⟨w.heap.size, 0, none⟩) hlt2).trans c0
      have hb13 := hb1.trans (hb3.mono hb1.size)
      cases hT : treeB ps ws
      · have HT := Lib.hid hT
        clear hT
        go_wp2_with fail
        go_ret
        exact ⟨by rw [Hv.out, HT.out]; rfl, hb13⟩
      · have HT := Lib.hid hT
        clear hT
        by_cases he : i = nP
        · have heb : ((i : Int) == (nP : Int)) = true := by simp [he]
          have He := Lib.hid he
          clear he
          go_wp2_with fail
          go_ret
          exact ⟨by rw [Hv.out, HT.out, hpe.out, He.out]; simp, hb13⟩
        · have heb : ((i : Int) == (nP : Int)) = false := by rw [beq_eq_false_iff_ne]; omega
          have He := Lib.hid he
          clear he
          go_wp2_with fail
          go_ret
          exact ⟨by rw [Hv.out, HT.out, hpe.out, decide_eq_false He.out]; rfl, hb13⟩
theorem impl_isNode (aP : Option Addr) (nP cP : Nat) (aW : Option Addr) (nW cW : Nat) (ps ws : List Int) (x : Int) (w : World) (h : Tre w aP nP cP aW nW cW ps ws) (hT : Tr ps ws) :
    Calls Tryz.prog 112 #[.agg #[.slice aP nP cP, .slice aW nW cW], .int .i64 x] w fun e w' => e = .returned (.bool (inB x 0 ((ps.length : Int) - 1))) ∧ Below w.heap.size w w' := by
  have hn24 := hT.n24
  have hn1 := hT.n1
  have HT := Lib.hid hT
  have hwl := hT.wl
  have hl := h.p.1
  have hlw := h.w.1
  have hpn := h.pn
  have hwn := h.wn
  have hb1 := below_new w (.cells #[.slice aP nP cP, .slice aW nW cW] 26)
  have hP1 := Lib.hid (Pair.new w (.slice aP nP cP) (.slice aW nW cW) 26)
  have H := Lib.hid h
  have Hl := Lib.hid hl
  have Hlw := Lib.hid hlw
  clear h hl hlw
  have hnW : nW ≤ nP ∧ nP ≤ nW := by have := Hlw.out; have := Hl.out; omega
  have hnP : 1 ≤ nP ∧ nP ≤ 24 := by have := Hl.out; omega
  clear hn24 hn1 hT hwl hpn hwn
  rw [Hl.out]
  have c0 := hP1.out.c0
  go_enter Tryz.func112, Tryz.ntmps112
  go_wp2_with (go_at_call 120; refine (impl_within _ _ _ _).mono ?_; rintro e w' ⟨rfl, rfl⟩)
  go_ret
  exact ⟨rfl, hb1⟩
set_option maxRecDepth 100000 in
set_option maxHeartbeats 1000000 in
theorem impl_ends (aP : Option Addr) (nP cP : Nat) (aW : Option Addr) (nW cW : Nat) (ps ws : List Int) (w : World) (h : Tre w aP nP cP aW nW cW ps ws) (hp : Pa ps) :
    Calls Tryz.prog 91 #[.agg #[.slice aP nP cP, .slice aW nW cW]] w fun e w' => ∃ v, e = .returned v ∧ Own w' w.heap.size v (ends ps) ∧ Below w.heap.size w w' := by
  have Hp := Lib.hid hp
  have hn24 := hp.n24
  have hl := h.p.1
  have hlw := h.w.1
  have hpn := h.pn
  have hwn := h.wn
  have hb1 := below_new w (.cells #[.slice aP nP cP, .slice aW nW cW] 26)
  have hP1 := Lib.hid (Pair.new w (.slice aP nP cP) (.slice aW nW cW) 26)
  have H := Lib.hid h
  have Hl := Lib.hid hl
  have Hlw := Lib.hid hlw
  clear h hl hlw
  have hnP : nP ≤ 24 := by have := Hl.out; omega
  clear hp hn24
  go_enter Tryz.func91, Tryz.ntmps91
  go_wp2_with fail
  have hnil := own_nil0 (w.alloc (.cells #[.slice aP nP cP, .slice aW nW cW] 26))
  rw [show (w.alloc (.cells #[.slice aP nP cP, .slice aW nW cW] 26)).heap.size = w.heap.size + 1 by simp] at hnil
  have hb2 : Below w.heap.size w ((w.alloc (.cells #[.slice aP nP cP, .slice aW nW cW] 26)).alloc (.cells #[] 3)) := hb1.alloc (by simp) _
  have hs2 : ((w.alloc (.cells #[.slice aP nP cP, .slice aW nW cW] 26)).alloc (.cells #[] 3)).heap.size = w.heap.size + 2 := by simp
  generalize ((w.alloc (.cells #[.slice aP nP cP, .slice aW nW cW] 26)).alloc (.cells #[] 3)) = w2 at *
  refine (impl_isEnd _ _ _ _ _ _ ps ws _ (H.out.below hb2) Hp.out).mono ?_
  rintro e w3 ⟨v, rfl, ho, hb3⟩
  obtain ⟨a3, c3, rfl⟩ := ho.shape
  have hel : (endsB ps).length = nP := by rw [endsB_length]; exact Hl.out
  rw [hel] at ho ⊢
  have HE := Lib.hid ho.bools
  have hown0 := Lib.hid (hnil.below hb3)
  have hb13 := hb2.trans (hb3.mono hb2.size)
  have hap0 : Hid (0 < nP → Apart a3 (Value.slice (some ⟨w.heap.size + 1, 0, none⟩) 0 0)) := Lib.hid fun h0 p hp e => by
    obtain ⟨g, cap, he, hg, _⟩ := ho.form (by rw [hel]; omega)
    cases he
    cases hp
    simp [Value.ownBlock] at e
    omega
  clear ho hnil hb3 hb2 hb1 hP1 hs2 hel
  go_wp2_with fail
  go_loopw [3, 10] (fun v3 v10 wr => ∃ k : Nat, k ≤ nP ∧ v10 = .int .i64 (k : Int) ∧ Own wr (w.heap.size + 1) v3 (filt (endB ps) k) ∧ Bo.Ints wr a3 nP (endsB ps) ∧ (0 < nP → Apart a3 v3) ∧ Below w.heap.size w wr ∧ w.heap.size + 1 ≤ wr.heap.size) (fun _ v10 _ => nP - (intOf v10).toNat)
  case atStart => exact ⟨0, Nat.zero_le _, rfl, hown0.out, HE.out, hap0.out, hb13, Nat.le_of_lt hown0.out.lt.2⟩
  case round =>
    clear hb13 hown0 HE hap0
    obtain ⟨k, hk, rfl, hown, hE, hap, hbel, hsz⟩ := hrel
    have HE := Lib.hid hE
    have Hap := Lib.hid hap
    clear hE hap
    by_cases hlt : (k : Int) < nP
    · obtain ⟨be, oe, rfl, hce⟩ := HE.out.at (i := k) (Below.refl _ _) (by omega)
      rw [nth_endsB (by have := Hl.out; omega)] at hce
      have hlen := filt_length (endB ps) k
      cases he : endB ps k
      · rw [he] at hce
        have Hf := Lib.hid (filt_f he)
        clear he
        go_wp2_with fail
        go_roundw
        case rel => exact ⟨k + 1, by omega, by go_num, by rw [Hf.out]; exact hown, HE.out, Hap.out, hbel, hsz⟩
        case measure => simp [intOf]; omega
      · rw [he] at hce
        have Hf := Lib.hid (filt_t he)
        clear he
        go_wp2_with (at_builtin; refine wp_push2 (.tmp 16) (.tmp 18) rfl rfl (w.heap.size + 1) _ _ rfl hown rfl (by omega) hsz ?_; intro v' w' ho hb hm)
        have hE2 := HE.out.moved hm Hap.out
        go_roundw
        case rel => exact ⟨k + 1, by omega, by go_num, by rw [Hf.out]; exact ho, hE2.1, hE2.2, hbel.trans (hb.mono (by omega)), Nat.le_trans hsz hb.size⟩
        case measure => simp [intOf]; omega
    · obtain rfl : k = nP := by omega
      go_wp2_with fail
      go_ret
      exact ⟨_, rfl, by rw [ends, Hl.out]; exact hown.mono (by omega), hbel⟩
set_option maxRecDepth 100000 in
set_option maxHeartbeats 1000000 in
theorem impl_children (aP : Option Addr) (nP cP : Nat) (aW : Option Addr) (nW cW : Nat) (ps ws : List Int) (x : Int) (w : World) (h : Tre w aP nP cP aW nW cW ps ws) (hp : Pa ps) (hx : 0 ≤ x) :
    Calls Tryz.prog 145 #[.agg #[.slice aP nP cP, .slice aW nW cW], .int .i64 x] w fun e w' => ∃ v, e = .returned v ∧ Own w' w.heap.size v (kids ps x.toNat) ∧ Below w.heap.size w w' := by
  obtain ⟨X, rfl⟩ : ∃ X : Nat, x = X := ⟨x.toNat, by omega⟩
  rw [Int.toNat_natCast]
  have Hp := Lib.hid hp
  have hn24 := hp.n24
  have hl := h.p.1
  have hlw := h.w.1
  have hpn := h.pn
  have hwn := h.wn
  have hb1 := below_new w (.cells #[.slice aP nP cP, .slice aW nW cW] 26)
  have hP1 := Lib.hid (Pair.new w (.slice aP nP cP) (.slice aW nW cW) 26)
  have H := Lib.hid h
  have Hl := Lib.hid hl
  have Hlw := Lib.hid hlw
  clear h hl hlw
  have hnP : nP ≤ 24 := by have := Hl.out; omega
  clear hp hn24
  go_enter Tryz.func145, Tryz.ntmps145
  go_wp2_with fail
  have hnil := own_nil0 (w.alloc (.cells #[.slice aP nP cP, .slice aW nW cW] 26))
  rw [show (w.alloc (.cells #[.slice aP nP cP, .slice aW nW cW] 26)).heap.size = w.heap.size + 1 by simp] at hnil
  have hb2 : Below w.heap.size w ((w.alloc (.cells #[.slice aP nP cP, .slice aW nW cW] 26)).alloc (.cells #[] 3)) := hb1.alloc (by simp) _
  have hs2 : ((w.alloc (.cells #[.slice aP nP cP, .slice aW nW cW] 26)).alloc (.cells #[] 3)).heap.size = w.heap.size + 2 := by simp
  generalize ((w.alloc (.cells #[.slice aP nP cP, .slice aW nW cW] 26)).alloc (.cells #[] 3)) = w2 at *
  go_loopw [5, 12] (fun v5 v12 wr => ∃ k : Nat, k ≤ nP ∧ v12 = .int .i64 (k : Int) ∧ Own wr (w.heap.size + 1) v5 (filt (fun y => nth ps y == (X : Int)) k) ∧ Below w.heap.size w wr ∧ w.heap.size + 1 ≤ wr.heap.size) (fun _ v12 _ => nP - (intOf v12).toNat)
  case atStart => exact ⟨0, Nat.zero_le _, rfl, hnil, hb2, by omega⟩
  case round =>
    clear hnil hb2 hs2
    obtain ⟨k, hk, rfl, hown, hbel, hsz⟩ := hrel
    by_cases hlt : (k : Int) < nP
    · obtain ⟨b, off, rfl, hc⟩ := H.out.p.at (i := k) hbel (by omega)
      have hlen := filt_length (fun y => nth ps y == (X : Int)) k
      cases he : (nth ps k == (X : Int))
      · have hf := filt_f (p := fun y => nth ps y == (X : Int)) (k := k) he
        have Hf := Lib.hid hf
        generalize nth ps k = q at *
        clear hf
        go_wp2_with fail
        go_roundw
        case rel => exact ⟨k + 1, by omega, by go_num, by rw [Hf.out]; exact hown, hbel, hsz⟩
        case measure => simp [intOf]; omega
      · have hf := filt_t (p := fun y => nth ps y == (X : Int)) (k := k) he
        have Hf := Lib.hid hf
        generalize nth ps k = q at *
        clear hf
        go_wp2_with (at_builtin; refine wp_push (.tmp 20) (.tmp 22) rfl rfl (w.heap.size + 1) _ _ rfl hown rfl (by omega) hsz ?_; intro v' w' ho hb)
        go_roundw
        case rel => exact ⟨k + 1, by omega, by go_num, by rw [Hf.out]; exact ho, hbel.trans (hb.mono (by omega)), Nat.le_trans hsz hb.size⟩
        case measure => simp [intOf]; omega
    · obtain rfl : k = nP := by omega
      go_wp2_with fail
      go_ret
      exact ⟨_, rfl, by rw [kids, Hl.out]; exact hown.mono (by omega), hbel⟩
end Go.Proofs.YtnbomleieianoaaGreat

/- Contracts on trees: numbers gathered from below, sums of nodes. -/
namespace Go.Proofs.YtnbomleieianoaaGreat
open Go.RowKit

def Abs2 (C : Int) (xs : List Int) : Prop := ∀ i, -C ≤ nth xs i ∧ nth xs i ≤ C
theorem gath_bd2 {l : List Int} {B : Int} {p k : Nat} (h : Abs2 B l) (hp : p < l.length) : Abs2 (2 * B) (l.set p (nth l p + nth l k)) := gath_bd h hp
theorem pow_pos2 (k : Nat) : (1 : Int) ≤ 2 ^ k := by
  induction k with
  | zero => simp
  | succ k ih => rw [Int.pow_succ]; omega
theorem pow_start {B : Int} {k : Nat} (hB : 0 ≤ B) (hk : k ≤ 23) : B * 2 ^ k ≤ B * 8388608 := by
  refine Int.mul_le_mul_of_nonneg_left ?_ hB
  have : (2 : Int) ^ k ≤ 2 ^ 23 := by
    obtain ⟨d, hd⟩ : ∃ d, k + d = 23 := ⟨23 - k, by omega⟩
    rw [← hd, Int.pow_add]
    have h1 := pow_pos2 k
    have h2 := pow_pos2 d
    have := Int.mul_le_mul_of_nonneg_left h2 (show 0 ≤ (2 : Int) ^ k by omega)
    omega
  simpa using this
theorem pow_bd {B C : Int} {k : Nat} (hB : B ≤ 1000000000) (hC : 0 ≤ C) (h : C * 2 ^ k ≤ B * 8388608) : C ≤ 8388608000000000 := by
  have h1 := pow_pos2 k
  have h2 := Int.mul_le_mul_of_nonneg_left h1 hC
  omega
theorem pow_step {B C : Int} {k : Nat} (h : C * 2 ^ (k + 1) ≤ B * 8388608) : 2 * C * 2 ^ k ≤ B * 8388608 := by
  rw [Int.pow_succ] at h
  have : 2 * C * 2 ^ k = C * (2 ^ k * 2) := by rw [Int.mul_comm 2 C, Int.mul_assoc, Int.mul_comm 2]
  omega
set_option maxRecDepth 100000 in
set_option maxHeartbeats 2000000 in
theorem impl_gathered (aP : Option Addr) (nP cP : Nat) (aW : Option Addr) (nW cW : Nat) (ps ws : List Int) (aL : Option Addr) (nL cL : Nat) (l : List Int) (B : Int) (w : World) (h : Tre w aP nP cP aW nW cW ps ws) (hp : Pa ps) (hL : Ints w aL nL l) (hLc : aL = none → cL = 0) (hLn : nP = nL) (hB : 0 ≤ B ∧ B ≤ 1000000000) (hA : Abs2 B l) :
    Calls Tryz.prog 131 #[.agg #[.slice aP nP cP, .slice aW nW cW], .slice aL nL cL] w fun e w' => ∃ v, e = .returned v ∧ Own w' w.heap.size v (gathA ps l) ∧ Below w.heap.size w w' := by
  subst hLn
  have hn24 := hp.n24
  have hn1 := hp.n1
  have hl := h.p.1
  have hlw := h.w.1
  have hpn := h.pn
  have hwn := h.wn
  have hb1 := below_new w (.cells #[.slice aP nP cP, .slice aW nW cW] 26)
  have hP1 := Lib.hid (Pair.new w (.slice aP nP cP) (.slice aW nW cW) 26)
  have H := Lib.hid h
  have Hl := Lib.hid hl
  have Hlw := Lib.hid hlw
  clear h hl hlw
  have hnP : 1 ≤ nP ∧ nP ≤ 24 := by have := Hl.out; omega
  clear hn24 hn1 hpn hwn
  have HL0 := Lib.hid hL
  have HL := Lib.hid hL.1
  have HA := Lib.hid hA
  have Hp := Lib.hid hp
  obtain ⟨G, hG⟩ : ∃ G, G = gathA ps l := ⟨_, rfl⟩
  have HG : Hid (gath ps (nP - 1) l = G) := Lib.hid (by rw [hG, gathA, Hl.out])
  have HGG := Lib.hid hG
  rw [← hG]
  clear hL hA hp hG
  go_enter Tryz.func131, Tryz.ntmps131
  go_wp2_with fail
  refine (impl_copied _ _ _ l _ (by omega) hLc (HL0.out.below hb1)).mono ?_
  rintro e w2 ⟨v, rfl, ho, hb2⟩
  obtain ⟨g, cg, rfl, hg1, hg2⟩ := ho.form (by rw [HL.out]; omega)
  rw [HL.out] at ho ⊢
  have hbel := hb1.trans (hb2.mono hb1.size)
  have HP := Lib.hid (hP1.out.below hb2)
  rw [show (w.alloc (.cells #[.slice aP nP cP, .slice aW nW cW] 26)).heap.size = w.heap.size + 1 by simp] at hg1 ho
  have HO := Lib.hid ho
  clear ho hb2 hP1 hb1
  go_wp2_with fail

  go_loopw [6] (fun v wr => ∃ (k : Nat) (cur : List Int) (C : Int), k < nP ∧ v = .int .i64 (k : Int) ∧ cur.length = nP ∧ gath ps k cur = G ∧ 0 ≤ C ∧ C * 2 ^ k ≤ B * 8388608 ∧ Abs2 C cur ∧ Own wr (w.heap.size + 1) (.slice (some ⟨g, 0, none⟩) nP cg) cur ∧ Pair wr w.heap.size (.slice aP nP cP) (.slice aW nW cW) ∧ Below w.heap.size w wr) (fun v _ => (intOf v).toNat)
  case atStart => exact ⟨nP - 1, l, B, by omega, vi (by omega), HL.out, HG.out, hB.1, pow_start hB.1 (by omega), HA.out, HO.out, HP.out, hbel⟩
  case round =>
    clear hbel
    obtain ⟨k, cur, C, hk, rfl, hcl, hcg, hC0, hC1, hCa, hown, hP, hbel⟩ := hrel
    have c0 := hP.c0
    have c1 := hP.c1
    have HPk := Lib.hid hP
    have Hcl := Lib.hid hcl
    clear hP hcl
    by_cases hlt : (k : Int) > 0
    · obtain ⟨K, rfl⟩ : ∃ K : Nat, k = K + 1 := ⟨k - 1, by omega⟩
      obtain ⟨bP, oP, rfl, hc⟩ := H.out.p.at (i := K + 1) hbel (by omega)
      have hup := Hp.out.upN (x := K + 1) (by omega) (by have := Hl.out; omega)
      rw [hup.1] at hc
      have hpl := hup.2
      have hstep : gath ps K (cur.set (par ps (K + 1)) (nth cur (par ps (K + 1)) + nth cur (K + 1))) = G := hcg
      have hCb := pow_bd hB.2 hC0 hC1
      have hCs := pow_step (k := K) hC1
      have habs := gath_bd2 (k := K + 1) hCa (show par ps (K + 1) < cur.length by have := Hcl.out; omega)
      have hlen2 : (cur.set (par ps (K + 1)) (nth cur (par ps (K + 1)) + nth cur (K + 1))).length = nP := by rw [List.length_set]; exact Hcl.out
      clear hup hcg
      generalize par ps (K + 1) = p at *
      have d1 := hown.cell (i := p) (by have := Hcl.out; omega)
      have d2 := hown.cell (i := K + 1) (by have := Hcl.out; omega)
      have f1 := hown.free Hcl.out.symm p
      have hset := Own.set (w := wr.drew) hown Hcl.out.symm p (nth cur p + nth cur (K + 1))
      have q1 := hCa p
      have q2 := hCa (K + 1)
      generalize hz1 : nth cur p = z1 at *
      generalize hz2 : nth cur (K + 1) = z2 at *
      have Hset := Lib.hid hset
      have Hown := Lib.hid hown
      have Hstep := Lib.hid hstep
      have Habs := Lib.hid habs
      have Hlen2 := Lib.hid hlen2
      have HCa := Lib.hid hCa
      have HCs := Lib.hid hCs
      have HCC := Lib.hid hC1
      have HPn := Lib.hid (Pair.far (w := wr.drew) HPk.out.drew (b := g) (i := p) (show g ≠ w.heap.size by omega) (.int .i64 (z1 + z2)))
      clear hset hown hstep habs hz1 hz2 hlen2 hCa hCs hC1
      have s0 : IntKind.i64.wrap (z1 + z2) = z1 + z2 := IntWalk.i64_in _ (by omega)
      have s1 : (0 : Int) ≤ (p : Int) := by omega
      have s2 : (p : Int) < (nP : Int) := by omega
      have s3 : (0 : Int) ≤ ((K + 1 : Nat) : Int) := by omega
      have s4 : ((K + 1 : Nat) : Int) < (nP : Int) := by omega
      have s5 : (0 : Int) ≤ (K : Int) + 1 := by omega
      have s6 : (K : Int) + 1 < (nP : Int) := by omega
      clear hCb
      go_wp2_with fail
      refine wp_region_still_tail 14 (by kernel_rfl) (by kernel_rfl) ?_
      simp only [List.take_succ_cons, List.take_zero, List.drop_succ_cons, List.drop_zero]
      still_step
      still_step
      still_step
      still_step
      still_step
      still_step
      still_step
      still_step
      still_step
      still_step
      still_step
      still_step
      still_step
      still_step
      refine wpStill_nil ?_
      change wpList _ _ _ _ _ wr.drew
      go_wp2_with fail
      go_roundw
      case rel => exact ⟨K, _, 2 * C, by omega, vi (by omega), Hlen2.out, Hstep.out, by omega, HCs.out, Habs.out, Hset.out, HPn.out, hbel.drew.setCell (show w.heap.size ≤ g by omega) _⟩
      case measure => simp [intOf]
    · obtain rfl : k = 0 := by omega
      have hfin : cur = G := hcg
      rw [hfin] at hown
      go_wp2_with fail
      go_ret
      exact ⟨_, rfl, hown.mono (by omega), hbel⟩
theorem ws_abs {ps ws : List Int} (h : Tr ps ws) : Abs2 20 ws := fun i => by have := h.w0 i; omega
theorem impl_sums (aP : Option Addr) (nP cP : Nat) (aW : Option Addr) (nW cW : Nat) (ps ws : List Int) (w : World) (h : Tre w aP nP cP aW nW cW ps ws) (hT : Tr ps ws) :
    Calls Tryz.prog 72 #[.agg #[.slice aP nP cP, .slice aW nW cW]] w fun e w' => ∃ v, e = .returned v ∧ Own w' w.heap.size v (sums ps ws) ∧ Below w.heap.size w w' := by
  have HTT := Lib.hid hT
  have hn24 := hT.n24
  have hn1 := hT.n1
  have HT := Lib.hid hT
  have hwl := hT.wl
  have hl := h.p.1
  have hlw := h.w.1
  have hpn := h.pn
  have hwn := h.wn
  have hb1 := below_new w (.cells #[.slice aP nP cP, .slice aW nW cW] 26)
  have hP1 := Lib.hid (Pair.new w (.slice aP nP cP) (.slice aW nW cW) 26)
  have H := Lib.hid h
  have Hl := Lib.hid hl
  have Hlw := Lib.hid hlw
  clear h hl hlw
  have hnW : nW ≤ nP ∧ nP ≤ nW := by have := Hlw.out; have := Hl.out; omega
  have hnP : 1 ≤ nP ∧ nP ≤ 24 := by have := Hl.out; omega
  clear hn24 hn1 hT hwl hpn hwn
  have hWP : nW = nP := by omega
  have HW := Lib.hid hWP
  clear hWP hnW
  have c0 := hP1.out.c0
  have c1 := hP1.out.c1
  go_enter Tryz.func72, Tryz.ntmps72
  go_wp2_with fail
  refine (impl_gathered _ _ _ _ _ _ ps ws _ _ _ ws 20 _ (H.out.below hb1) HTT.out.toPa (H.out.w.below hb1) H.out.wc HW.out.symm (by omega) (ws_abs HTT.out)).mono ?_
  rintro e w2 ⟨v, rfl, ho, hb2⟩
  go_wp2_with fail
  go_ret
  exact ⟨_, rfl, ho.mono (by simp), hb1.trans (hb2.mono hb1.size)⟩
set_option maxRecDepth 100000 in
set_option maxHeartbeats 2000000 in
theorem spec_l2Sums (aP : Option Addr) (nP cP : Nat) (aW : Option Addr) (nW cW : Nat) (ps ws : List Int) (w : World) (h : Tre w aP nP cP aW nW cW ps ws) (hT : Tr ps ws) :
    Calls Tryz.prog 75 #[.agg #[.slice aP nP cP, .slice aW nW cW]] w fun e w' => ∃ v, e = .returned v ∧ Own w' w.heap.size v (sums ps ws) ∧ Below w.heap.size w w' := by
  have HTT := Lib.hid hT
  have hn24 := hT.n24
  have hn1 := hT.n1
  have HT := Lib.hid hT
  have hwl := hT.wl
  have hl := h.p.1
  have hlw := h.w.1
  have hpn := h.pn
  have hwn := h.wn
  have hb1 := below_new w (.cells #[.slice aP nP cP, .slice aW nW cW] 26)
  have hP1 := Lib.hid (Pair.new w (.slice aP nP cP) (.slice aW nW cW) 26)
  have H := Lib.hid h
  have Hl := Lib.hid hl
  have Hlw := Lib.hid hlw
  clear h hl hlw
  have hnW : nW ≤ nP ∧ nP ≤ nW := by have := Hlw.out; have := Hl.out; omega
  have hnP : 1 ≤ nP ∧ nP ≤ 24 := by have := Hl.out; omega
  clear hn24 hn1 hT hwl hpn hwn
  have hWP : nW = nP := by omega
  clear hnW
  subst hWP
  obtain ⟨G, hG⟩ : ∃ G, G = sums ps ws := ⟨_, rfl⟩
  obtain ⟨l, hl⟩ : ∃ l, l = ws := ⟨_, rfl⟩
  obtain ⟨B, hBB⟩ : ∃ B : Int, B = 20 := ⟨_, rfl⟩
  have hB : 0 ≤ B ∧ B ≤ 1000000000 := by omega
  have HG : Hid (gath ps (nW - 1) l = G) := Lib.hid (by rw [hG, hl, sums, gathA, Hl.out])
  have HL : Hid (l.length = nW) := Lib.hid (by rw [hl]; exact Hlw.out)
  have HA : Hid (Abs2 B l) := Lib.hid (by rw [hl, hBB]; exact ws_abs HTT.out)
  have HL0 : Hid (Ints w aW nW l) := Lib.hid (by rw [hl]; exact H.out.w)
  rw [← hG]
  clear hG hl hBB
  go_enter Tryz.func75, Tryz.ntmps75
  go_wp2_with fail
  refine (spec_l1Own _ _ _ l _ (by omega) H.out.wc (HL0.out.below hb1)).mono ?_
  rintro e w2 ⟨v, rfl, ho, hb2⟩
  obtain ⟨g, cg, rfl, hg1, hg2⟩ := ho.form (by rw [HL.out]; omega)
  rw [HL.out] at ho ⊢
  have hbel := hb1.trans (hb2.mono hb1.size)
  have HP := Lib.hid (hP1.out.below hb2)
  rw [show (w.alloc (.cells #[.slice aP nW cP, .slice aW nW cW] 26)).heap.size = w.heap.size + 1 by simp] at hg1 ho
  have HO := Lib.hid ho
  clear ho hb2 hP1 hb1
  go_wp2_with fail

  go_loopw [4] (fun v wr => ∃ (k : Nat) (cur : List Int) (C : Int), k < nW ∧ v = .int .i64 (k : Int) ∧ cur.length = nW ∧ gath ps k cur = G ∧ 0 ≤ C ∧ C * 2 ^ k ≤ B * 8388608 ∧ Abs2 C cur ∧ Own wr (w.heap.size + 1) (.slice (some ⟨g, 0, none⟩) nW cg) cur ∧ Pair wr w.heap.size (.slice aP nW cP) (.slice aW nW cW) ∧ Below w.heap.size w wr) (fun v _ => (intOf v).toNat)
  case atStart => exact ⟨nW - 1, l, B, by omega, vi (by omega), HL.out, HG.out, hB.1, pow_start hB.1 (by omega), HA.out, HO.out, HP.out, hbel⟩
  case round =>
    clear hbel
    obtain ⟨k, cur, C, hk, rfl, hcl, hcg, hC0, hC1, hCa, hown, hP, hbel⟩ := hrel
    have c0 := hP.c0
    have c1 := hP.c1
    have HPk := Lib.hid hP
    have Hcl := Lib.hid hcl
    clear hP hcl
    by_cases hlt : (k : Int) > 0
    · obtain ⟨K, rfl⟩ : ∃ K : Nat, k = K + 1 := ⟨k - 1, by omega⟩
      obtain ⟨bP, oP, rfl, hc⟩ := H.out.p.at (i := K + 1) hbel (by omega)
      have hup := HTT.out.toPa.upN (x := K + 1) (by omega) (by have := Hl.out; omega)
      rw [hup.1] at hc
      have hpl := hup.2
      have hstep : gath ps K (cur.set (par ps (K + 1)) (nth cur (par ps (K + 1)) + nth cur (K + 1))) = G := hcg
      have hCb := pow_bd hB.2 hC0 hC1
      have hCs := pow_step (k := K) hC1
      have habs := gath_bd2 (k := K + 1) hCa (show par ps (K + 1) < cur.length by have := Hcl.out; omega)
      have hlen2 : (cur.set (par ps (K + 1)) (nth cur (par ps (K + 1)) + nth cur (K + 1))).length = nW := by rw [List.length_set]; exact Hcl.out
      clear hup hcg
      generalize par ps (K + 1) = p at *
      have d1 := hown.cell (i := p) (by have := Hcl.out; omega)
      have d2 := hown.cell (i := K + 1) (by have := Hcl.out; omega)
      have f1 := hown.free Hcl.out.symm p
      have hset := Own.set (w := wr.drew) hown Hcl.out.symm p (nth cur p + nth cur (K + 1))
      have q1 := hCa p
      have q2 := hCa (K + 1)
      generalize hz1 : nth cur p = z1 at *
      generalize hz2 : nth cur (K + 1) = z2 at *
      have Hset := Lib.hid hset
      have Hown := Lib.hid hown
      have Hstep := Lib.hid hstep
      have Habs := Lib.hid habs
      have Hlen2 := Lib.hid hlen2
      have HCa := Lib.hid hCa
      have HCs := Lib.hid hCs
      have HCC := Lib.hid hC1
      have HPn := Lib.hid (Pair.far (w := wr.drew) HPk.out.drew (b := g) (i := p) (show g ≠ w.heap.size by omega) (.int .i64 (z1 + z2)))
      clear hset hown hstep habs hz1 hz2 hlen2 hCa hCs hC1
      have s0 : IntKind.i64.wrap (z1 + z2) = z1 + z2 := IntWalk.i64_in _ (by omega)
      have s1 : (0 : Int) ≤ (p : Int) := by omega
      have s2 : (p : Int) < (nW : Int) := by omega
      have s3 : (0 : Int) ≤ ((K + 1 : Nat) : Int) := by omega
      have s4 : ((K + 1 : Nat) : Int) < (nW : Int) := by omega
      have s5 : (0 : Int) ≤ (K : Int) + 1 := by omega
      have s6 : (K : Int) + 1 < (nW : Int) := by omega
      clear hCb
      go_wp2_with fail
      refine wp_region_still_tail 20 (by kernel_rfl) (by kernel_rfl) ?_
      simp only [List.take_succ_cons, List.take_zero, List.drop_succ_cons, List.drop_zero]
      still_step
      still_step
      still_step
      still_step
      still_step
      still_step
      still_step
      still_step
      still_step
      still_step
      still_step
      still_step
      still_step
      still_step
      still_step
      still_step
      still_step
      still_step
      still_step
      still_step
      refine wpStill_nil ?_
      change wpList _ _ _ _ _ wr.drew
      go_wp2_with fail
      go_roundw
      case rel => exact ⟨K, _, 2 * C, by omega, vi (by omega), Hlen2.out, Hstep.out, by omega, HCs.out, Habs.out, Hset.out, HPn.out, hbel.drew.setCell (show w.heap.size ≤ g by omega) _⟩
      case measure => simp [intOf]
    · obtain rfl : k = 0 := by omega
      have hfin : cur = G := hcg
      rw [hfin] at hown
      go_wp2_with fail
      go_ret
      exact ⟨_, rfl, hown.mono (by omega), hbel⟩
end Go.Proofs.YtnbomleieianoaaGreat

/- Contracts on trees: ends by the reference, depths, sums over children. -/
namespace Go.Proofs.YtnbomleieianoaaGreat
open Go.RowKit

set_option maxRecDepth 100000 in
set_option maxHeartbeats 1000000 in
theorem spec_l2Ends (aP : Option Addr) (nP cP : Nat) (aW : Option Addr) (nW cW : Nat) (ps ws : List Int) (w : World) (h : Tre w aP nP cP aW nW cW ps ws) (hp : Pa ps) :
    Calls Tryz.prog 115 #[.agg #[.slice aP nP cP, .slice aW nW cW]] w fun e w' => ∃ v, e = .returned v ∧ Own w' w.heap.size v (ends ps) ∧ Below w.heap.size w w' := by
  have Hp := Lib.hid hp
  have hn24 := hp.n24
  have hl := h.p.1
  have hlw := h.w.1
  have hpn := h.pn
  have hwn := h.wn
  have hb1 := below_new w (.cells #[.slice aP nP cP, .slice aW nW cW] 26)
  have hP1 := Lib.hid (Pair.new w (.slice aP nP cP) (.slice aW nW cW) 26)
  have H := Lib.hid h
  have Hl := Lib.hid hl
  have Hlw := Lib.hid hlw
  clear h hl hlw
  have hnP : nP ≤ 24 := by have := Hl.out; omega
  clear hp hn24
  go_enter Tryz.func115, Tryz.ntmps115
  go_wp2_with fail
  have hnil := own_nil0 (w.alloc (.cells #[.slice aP nP cP, .slice aW nW cW] 26))
  rw [show (w.alloc (.cells #[.slice aP nP cP, .slice aW nW cW] 26)).heap.size = w.heap.size + 1 by simp] at hnil
  have hb2 : Below w.heap.size w ((w.alloc (.cells #[.slice aP nP cP, .slice aW nW cW] 26)).alloc (.cells #[] 3)) := hb1.alloc (by simp) _
  have hP2 := Lib.hid (hP1.out.alloc (.cells #[] 3))
  generalize ((w.alloc (.cells #[.slice aP nP cP, .slice aW nW cW] 26)).alloc (.cells #[] 3)) = w2 at *
  clear hP1 hb1
  go_loopw [3, 4] (fun v3 v4 wr => ∃ k : Nat, k ≤ nP ∧ v4 = .int .i64 (k : Int) ∧ Own wr (w.heap.size + 1) v3 (filt (endB ps) k) ∧ Pair wr w.heap.size (.slice aP nP cP) (.slice aW nW cW) ∧ Below w.heap.size w wr) (fun _ v4 _ => nP - (intOf v4).toNat)
  case atStart => exact ⟨0, Nat.zero_le _, rfl, hnil, hP2.out, hb2⟩
  case round =>
    clear hnil hb2 hP2
    obtain ⟨k, hk, rfl, hown, hP, hbel⟩ := hrel
    have c0 := hP.c0
    have c1 := hP.c1
    have HP := Lib.hid hP
    have Hown := Lib.hid hown
    clear hP hown
    by_cases hlt : (k : Int) < nP
    · go_wp2_with fail
      refine (spec_l2Kids _ _ _ _ _ _ ps ws _ _ (H.out.below hbel) Hp.out (by omega)).mono ?_
      rintro e w3 ⟨v, rfl, ho, hb3⟩
      obtain ⟨a3, c3, rfl⟩ := ho.shape
      rw [Int.toNat_natCast] at ho ⊢
      have hlk := len_kids ps k
      have hbel3 := hbel.trans (hb3.mono hbel.size)
      have hP3 := HP.out.below hb3
      have hown3 := Hown.out.below hb3
      have HP3 := Lib.hid hP3
      have hlen := filt_length (endB ps) k
      have hle : w.heap.size + 1 ≤ w3.heap.size := by have := HP3.out.lt; omega
      have hlk2 : (kids ps k).length ≤ 24 := by have := filt_length (fun y => nth ps y == (k : Int)) ps.length; have := Hl.out; unfold kids; omega
      generalize (kids ps k).length = L at *
      clear ho hP3
      cases he : endB ps k
      · rw [he] at hlk
        have Hf := Lib.hid (filt_f he)
        clear he
        go_wp2_with fail
        go_roundw
        case rel => exact ⟨k + 1, by omega, by go_num, by rw [Hf.out]; exact hown3, HP3.out, hbel3⟩
        case measure => simp [intOf]; omega
      · rw [he] at hlk
        have Hf := Lib.hid (filt_t he)
        clear he
        go_wp2_with (at_builtin; refine wp_push (.tmp 18) (.tmp 20) rfl rfl (w.heap.size + 1) _ _ rfl hown3 rfl (by omega) hle ?_; intro v' w' ho hb)
        go_roundw
        case rel => exact ⟨k + 1, by omega, by go_num, by rw [Hf.out]; exact ho, HP3.out.up hb (by omega), hbel3.trans (hb.mono (by omega))⟩
        case measure => simp [intOf]; omega
    · obtain rfl : k = nP := by omega
      go_wp2_with fail
      go_ret
      exact ⟨_, rfl, by rw [ends, Hl.out]; exact Hown.out.mono (by omega), hbel⟩
set_option maxRecDepth 100000 in
set_option maxHeartbeats 400000 in
theorem spec_l2Node (aP : Option Addr) (nP cP : Nat) (aW : Option Addr) (nW cW : Nat) (ps ws : List Int) (x : Int) (w : World) (h : Tre w aP nP cP aW nW cW ps ws) :
    Calls Tryz.prog 113 #[.agg #[.slice aP nP cP, .slice aW nW cW], .int .i64 x] w fun e w' => e = .returned (.bool (treeB ps ws && inB x 0 ((ps.length : Int) - 1))) ∧ Below w.heap.size w w' := by
  have hl := h.p.1
  have hlw := h.w.1
  have hpn := h.pn
  have hwn := h.wn
  have hb1 := below_new w (.cells #[.slice aP nP cP, .slice aW nW cW] 26)
  have hP1 := Lib.hid (Pair.new w (.slice aP nP cP) (.slice aW nW cW) 26)
  have H := Lib.hid h
  have Hl := Lib.hid hl
  have Hlw := Lib.hid hlw
  clear h hl hlw
  rw [Hl.out]
  have c0 := hP1.out.c0
  have c1 := hP1.out.c1
  have hlt2 := hP1.out.lt
  cases hT : treeB ps ws
  · have HT := Lib.hid hT
    clear hT
    go_enter Tryz.func113, Tryz.ntmps113
    go_wp2_with fail
    refine (spec_l2Good _ _ _ _ _ _ ps ws _ (H.out.below hb1)).mono ?_
    rintro e w3 ⟨rfl, hb3⟩
    rw [HT.out]
    go_wp2_with fail
    go_ret
    exact ⟨rfl, hb1.trans (hb3.mono hb1.size)⟩
  · have HT := Lib.hid hT
    clear hT
    go_enter Tryz.func113, Tryz.ntmps113
    go_wp2_with fail
    generalize (w.alloc (.cells #[.slice aP nP cP, .slice aW nW cW] 26)) = w2 at *
    refine (spec_l2Good _ _ _ _ _ _ ps ws _ (H.out.below hb1)).mono ?_
    rintro e w3 ⟨rfl, hb3⟩
    have d0 := (hb3.cell (p := ⟨w.heap.size, 0, none⟩) hlt2).trans c0
    have hb13 := hb1.trans (hb3.mono hb1.size)
    rw [HT.out]
    clear hb3
    go_wp2_with (go_at_call 110; refine (spec_l1In _ _ _ _).mono ?_; rintro e w' ⟨rfl, rfl⟩)
    go_ret
    exact ⟨by rw [Bool.true_and]; rfl, hb13⟩
/-- The depths of the first k nodes. -/
def depL (ps : List Int) : Nat → List Int
  | 0 => []
  | k + 1 => depL ps k ++ [if k = 0 then 0 else nth (depL ps k) (par ps k) + 1]
theorem depL_length (ps : List Int) : ∀ k, (depL ps k).length = k
  | 0 => rfl
  | k + 1 => by rw [depL, List.length_append, depL_length ps k]; rfl
/-- The depth of a node. -/
def dep (ps : List Int) (x : Nat) : Int := nth (depL ps (x + 1)) x
theorem depL_nth (ps : List Int) : ∀ (k x : Nat), x < k → nth (depL ps k) x = dep ps x
  | 0, x, h => by omega
  | k + 1, x, h => by
    by_cases e : x = k
    · subst e; rfl
    · rw [depL, nth_append_l (by rw [depL_length]; omega), depL_nth ps k x (by omega)]
theorem dep_zero (ps : List Int) : dep ps 0 = 0 := rfl
theorem dep_up {ps : List Int} {x : Nat} (h1 : 1 ≤ x) (hp : par ps x < x) : dep ps x = dep ps (par ps x) + 1 := by
  unfold dep
  rw [depL, if_neg (by omega)]
  have : nth (depL ps x ++ [nth (depL ps x) (par ps x) + 1]) x = nth (depL ps x) (par ps x) + 1 := by
    have := nth_append_r (xs := depL ps x) (y := nth (depL ps x) (par ps x) + 1)
    rwa [depL_length] at this
  rw [this, depL_nth ps x _ hp]; rfl
theorem dep_bd {ps : List Int} (h : Pa ps) : ∀ x, x < ps.length → 0 ≤ dep ps x ∧ dep ps x ≤ x := by
  have : ∀ (m x : Nat), x ≤ m → x < ps.length → 0 ≤ dep ps x ∧ dep ps x ≤ x := by
    intro m
    induction m with
    | zero => intro x h1 h2; obtain rfl : x = 0 := by omega
              rw [dep_zero]; omega
    | succ m ih =>
      intro x h1 h2
      by_cases hx : x = 0
      · subst hx; rw [dep_zero]; omega
      · have hp := h.upN (x := x) (by omega) h2
        have := ih (par ps x) (by omega) (by omega)
        rw [dep_up (by omega) hp.2]; omega
  exact fun x => this x x (Nat.le_refl _)
def deps (ps : List Int) : List Int := depL ps ps.length
theorem deps_length (ps : List Int) : (deps ps).length = ps.length := depL_length _ _
theorem nth_deps {ps : List Int} {x : Nat} (h : x < ps.length) : nth (deps ps) x = dep ps x := depL_nth _ _ _ h
/-- The first i numbers, then zeros. -/
def hal (xs : List Int) (i : Nat) : List Int := (List.range xs.length).map fun (j : Nat) => if j < i then nth xs j else 0
theorem hal_length (xs : List Int) (i : Nat) : (hal xs i).length = xs.length := by simp [hal]
theorem hal_zero (xs : List Int) : List.replicate xs.length 0 = hal xs 0 := ext_nth (by simp [hal]) fun i hi => by
  rw [List.length_replicate] at hi
  unfold hal; rw [nth_map_range hi, nth_replicate]; simp
theorem hal_one (xs : List Int) (h : nth xs 0 = 0) : List.replicate xs.length 0 = hal xs 1 := ext_nth (by simp [hal]) fun i hi => by
  rw [List.length_replicate] at hi
  unfold hal; rw [nth_map_range hi, nth_replicate]
  split
  · obtain rfl : i = 0 := by omega
    exact h.symm
  · rfl
theorem hal_all (xs : List Int) : hal xs xs.length = xs := ext_nth (hal_length _ _) fun i hi => by
  rw [hal_length] at hi
  unfold hal; rw [nth_map_range hi, if_pos hi]
theorem nth_hal {xs : List Int} {i j : Nat} (h : j < i) (hj : j < xs.length) : nth (hal xs i) j = nth xs j := by unfold hal; rw [nth_map_range hj, if_pos h]
theorem hal_succ (xs : List Int) (i : Nat) (h : i < xs.length) : hal xs (i + 1) = (hal xs i).set i (nth xs i) := ext_nth (by simp [hal]) fun j hj => by
  rw [hal_length] at hj
  rw [nth_set (by rw [hal_length]; exact h)]
  unfold hal
  rw [nth_map_range hj, nth_map_range hj]
  by_cases e : i = j
  · subst e; rw [if_pos (by omega), if_pos rfl]
  · rw [if_neg e]
    by_cases e2 : j < i
    · rw [if_pos e2, if_pos (by omega)]
    · rw [if_neg e2, if_neg (by omega)]
theorem sumOf_bd {f : Int → Int} {B : Int} (hB : 0 ≤ B) (hf : ∀ x, -B ≤ f x ∧ f x ≤ B) : ∀ xs : List Int, -(B * xs.length) ≤ sumOf f xs ∧ sumOf f xs ≤ B * xs.length
  | [] => by simp [sumOf]
  | x :: xs => by
    have ih := sumOf_bd hB hf xs
    have h := hf x
    simp only [sumOf, List.length_cons]
    rw [show B * ((xs.length + 1 : Nat) : Int) = B * xs.length + B by rw [Int.natCast_add, Int.mul_add]; simp]
    omega
end Go.Proofs.YtnbomleieianoaaGreat

/- Contracts: EndsOf, SumsOf and ChildrenOf by the program. -/
namespace Go.Proofs.YtnbomleieianoaaGreat
open Go.RowKit

def eoV (ps ws : List Int) : List Int := if treeB ps ws then ends ps else []
theorem eoV_no {ps ws : List Int} (h : treeB ps ws = false) : eoV ps ws = [] := by rw [eoV, h]; rfl
theorem eoV_yes {ps ws : List Int} (h : treeB ps ws = true) : eoV ps ws = ends ps := by rw [eoV, if_pos h]
def soV (ps ws : List Int) : List Int := if treeB ps ws then sums ps ws else []
theorem soV_no {ps ws : List Int} (h : treeB ps ws = false) : soV ps ws = [] := by rw [soV, h]; rfl
theorem soV_yes {ps ws : List Int} (h : treeB ps ws = true) : soV ps ws = sums ps ws := by rw [soV, if_pos h]
set_option maxRecDepth 100000 in
set_option maxHeartbeats 1000000 in
theorem impl_EndsOf (aP : Option Addr) (nP cP : Nat) (aW : Option Addr) (nW cW : Nat) (ps ws : List Int) (w : World) (h : Tre w aP nP cP aW nW cW ps ws) :
    Calls Tryz.prog 27 #[.agg #[.slice aP nP cP, .slice aW nW cW]] w fun e w' => ∃ v, e = .returned (.tuple #[v, .bool (treeB ps ws)]) ∧ Own w' w.heap.size v (eoV ps ws) ∧ Below w.heap.size w w' := by
  have hl := h.p.1
  have hlw := h.w.1
  have hpn := h.pn
  have hwn := h.wn
  have hb1 := below_new w (.cells #[.slice aP nP cP, .slice aW nW cW] 26)
  have hP1 := Lib.hid (Pair.new w (.slice aP nP cP) (.slice aW nW cW) 26)
  have H := Lib.hid h
  have Hl := Lib.hid hl
  have Hlw := Lib.hid hlw
  clear h hl hlw
  go_enter Tryz.func27, Tryz.ntmps27
  have c0 := hP1.out.c0
  have c1 := hP1.out.c1
  go_wp2_with fail
  generalize (w.alloc (.cells #[.slice aP nP cP, .slice aW nW cW] 26)) = w2 at *
  refine (impl_IsTree _ _ _ _ _ _ ps ws _ (H.out.below hb1)).mono ?_
  rintro e w3 ⟨rfl, hb3⟩
  have hP3 := hP1.out.below hb3
  have d0 := hP3.c0
  have d1 := hP3.c1
  have hb13 := hb1.trans (hb3.mono hb1.size)
  clear hP3 c0 c1 hb3 hP1
  cases hT : treeB ps ws
  · have Hv := Lib.hid (eoV_no hT)
    have HT := Lib.hid hT
    clear hT
    go_wp2_with fail
    go_ret2
    exact ⟨_, by rw [HT.out]; rfl, by rw [Hv.out]; exact Own.nil _ _, hb13⟩
  have HTr := Lib.hid (treeB_t hT)
  have Hv := Lib.hid (eoV_yes hT)
  have HT := Lib.hid hT
  clear hT
  go_wp2_with fail
  refine (impl_ends _ _ _ _ _ _ ps ws _ (H.out.below hb13) HTr.out.toPa).mono ?_
  rintro e w4 ⟨v, rfl, ho, hb4⟩
  go_wp2_with fail
  go_ret2
  exact ⟨_, by rw [HT.out]; rfl, by rw [Hv.out]; exact ho.mono hb13.size, hb13.trans (hb4.mono hb13.size)⟩
theorem impl_isNodeE (aP : Option Addr) (nP cP : Nat) (aW : Option Addr) (nW cW : Nat) (ps ws : List Int) (x : Int) (w : World) (h : Tre w aP nP cP aW nW cW ps ws) (hT : Tr ps ws) :
    Calls Tryz.prog 112 #[.agg #[.slice aP nP cP, .slice aW nW cW], .int .i64 x] w fun e w' => e = .returned (.bool (inB x 0 ((ps.length : Int) - 1))) ∧ Below w.heap.size w w' := by
  have hn24 := hT.n24
  have hn1 := hT.n1
  have HT := Lib.hid hT
  have hwl := hT.wl
  have hl := h.p.1
  have hlw := h.w.1
  have hpn := h.pn
  have hwn := h.wn
  have hb1 := below_new w (.cells #[.slice aP nP cP, .slice aW nW cW] 26)
  have hP1 := Lib.hid (Pair.new w (.slice aP nP cP) (.slice aW nW cW) 26)
  have H := Lib.hid h
  have Hl := Lib.hid hl
  have Hlw := Lib.hid hlw
  clear h hl hlw
  have hnW : nW ≤ nP ∧ nP ≤ nW := by have := Hlw.out; have := Hl.out; omega
  have hnP : 1 ≤ nP ∧ nP ≤ 24 := by have := Hl.out; omega
  clear hn24 hn1 hT hwl hpn hwn
  rw [Hl.out]
  have c0 := hP1.out.c0
  go_enter Tryz.func112, Tryz.ntmps112
  go_wp2_with (go_at_call 120; refine (impl_within _ _ _ _).mono ?_; rintro e w' ⟨rfl, rfl⟩)
  go_ret
  exact ⟨rfl, hb1⟩
end Go.Proofs.YtnbomleieianoaaGreat
