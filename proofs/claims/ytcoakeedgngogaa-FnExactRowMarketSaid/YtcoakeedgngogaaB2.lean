/- Small words on memory, continued: reading a list later, appending one number or a whole list to a slice that the call owns. -/
import Derived.Test.YtcoakeedgngogaaBase
import Derived.Deep.QuietTactic
import Derived.BigQuiet
import Derived.WalkSmall
import Derived.StillTailTactics
import Derived.Deep.Draws
import Derived.Laws.AppendOwnNone
import Derived.Maps.AppendAt
namespace Go.Proofs.Ytcoakeedgngogaa
open Go.RowKit

theorem Ints.at {w wr : World} {a : Option Addr} {n i : Nat} {xs : List Int} (h : Ints w a n xs) (hb : Below w.heap.size w wr) (hi : i < n) :
    ∃ b off, a = some ⟨b, off, none⟩ ∧ wr.cell? ⟨b, off + i, none⟩ = some (.int .i64 (nth xs i)) := by
  obtain ⟨b, off, rfl, hlt, hc⟩ := h.2 (by omega)
  exact ⟨b, off, rfl, (hb.cell (p := ⟨b, off + i, none⟩) hlt).trans (hc i hi)⟩
theorem Ints.at2 {w wr : World} {a : Option Addr} {n i : Nat} {xs : List Int} (h : Ints w a n xs) (hb : Below w.heap.size w wr) (hi : i < n) :
    ∃ b off, a = some ⟨b, off, none⟩ ∧ b < w.heap.size ∧ wr.cell? ⟨b, off + i, none⟩ = some (.int .i64 (nth xs i)) := by
  obtain ⟨b, off, rfl, hlt, hc⟩ := h.2 (by omega)
  exact ⟨b, off, rfl, hlt, (hb.cell (p := ⟨b, off + i, none⟩) hlt).trans (hc i hi)⟩
theorem own_low {w : World} {base b : Nat} {v : Value} {xs : List Int} (h : Own w base v xs) (hb : b < base) : v.ownBlock ≠ some b := fun e => by
  have := (World.ownsRow.lt h b e).1; omega
/-- Appended to one row of the call's own from base on: Below base. -/
theorem push_below {w w' : World} {base : Nat} {v : Value} {xs : List Int} {o : Obj} (h : Own w base v xs) (hb : base ≤ w.heap.size) (hg : (w.alloc o).grownBy w' v.ownBlock) : Below base w w' :=
  ((Below.refl base w).alloc hb o).grown hg (by simp; omega) fun k hk => (World.ownsRow.lt h k hk).1
/-- 'append(xs, u)' where u was just laid into a new block. -/
theorem wp_push {ops : Array Oper} {rest : List Oper} {o : Oper} {a : Act} {Q : Exit → Act → World → Prop} {w : World} {u : Int} (s x : Operand)
    (hgd : o.guard = none) (ho : o.op = .call { callee := .builtin .append, args := #[s, x], argTypes := #[31, 31] })
    (base : Nat) (v : Value) (xs : List Int) (hs : a.eval s = v) (hown : Own w base v xs) (hx : a.eval x = .slice (some ⟨w.heap.size, 0, none⟩) 1 1)
    (hl : xs.length ≤ 17592186040320) (hb : base ≤ w.heap.size)
    (h : ∀ v' w', Own w' base v' (xs ++ [u]) → Below base w w' → wpList Try.prog ops Q rest (a.put o.dst v') w') : wpList Try.prog ops Q (o :: rest) a (w.alloc (.cells #[.int .i64 u] 3)) :=
  wp_app1 s x hgd ho base v xs u hs (hown.below ((Below.refl _ _).alloc (Nat.le_refl _) _)) w.heap.size hx (by rw [World.cell?_alloc_at _ _ _ _ rfl]; rfl) hl (by simp; omega)
    fun v' w' h1 h2 => h v' w' h1 (push_below hown hb h2)
/-- 'append(xs, ys...)' onto a slice of ints that the call owns. -/
theorem wp_appI {ops : Array Oper} {rest : List Oper} {o : Oper} {a : Act} {Q : Exit → Act → World → Prop} {w : World} (s x : Operand)
    (hgd : o.guard = none) (ho : o.op = .call { callee := .builtin .append, args := #[s, x], argTypes := #[31, 31] })
    (base : Nat) (v : Value) (xs : List Int) (hs : a.eval s = v) (hown : Own w base v xs) (ad : Option Addr) (m c : Nat) (ys : List Int) (hx : a.eval x = .slice ad m c) (hc : ad = none → c = 0) (hy : Ints w ad m ys) (hl : xs.length + m ≤ 17592186040320) (hbase : base ≤ w.heap.size)
    (h : ∀ v' w', Own w' base v' (xs ++ ys) → Below base w w' → wpList Try.prog ops Q rest (a.put o.dst v') w') : wpList Try.prog ops Q (o :: rest) a w := by
  obtain ⟨i0, hi0, hz0, hz1, hz2⟩ := info_parts info_int
  have hm := hy.1
  cases ad with
  | none =>
    obtain rfl : m = 0 := by
      cases m with
      | zero => rfl
      | succ m => obtain ⟨b, off, he, _⟩ := hy.2 (by omega); cases he
    obtain rfl := hc rfl
    refine wpList_append_own_none hgd s x 31 ho base 3 i0 1 Try.underlying31 hi0 v _ _ hs hown hx ?_
    refine h v w ?_ (Below.refl _ _)
    have : ys = [] := List.length_eq_zero_iff.1 hm
    rw [this, List.append_nil]; exact hown
  | some p =>
    have hcell : ∀ j, j < m → w.cell? (p.add j) = some (.int .i64 (nth ys j)) := fun j hj => by
      obtain ⟨b, off, he, _, hcell⟩ := hy.2 (by omega)
      cases he
      rw [show (⟨b, off, none⟩ : Addr).add j = ⟨b, off + j, none⟩ by unfold Addr.add; split <;> simp_all]
      exact hcell j hj
    refine wpList_append_own w hgd s x 31 ho base 3 i0 (.int .i64 0) 1 8 Try.underlying31 hi0 hz0 hz1 hz2 rfl (by decide) v xs.length (cs xs) hs hown p m c (cs ys) hx (by rw [cs_length]; omega) ?_ ?_ ?_ ?_ hbase ?_
    · intro j u hu
      have hj : j < m := by
        have := (List.getElem?_eq_some_iff.1 hu).1
        rw [cs_length] at this; omega
      rw [cs_get? _ _ (by omega)] at hu
      rw [hcell j hj]; exact hu
    · exact cs_one ys
    · simp only [maxLen]; omega
    · omega
    · intro v' w' h1 h2 _
      refine h v' w' ?_ ((Below.refl _ _).grown h2 hbase fun k hk => (World.ownsRow.lt hown k hk).1)
      unfold Own
      rw [← cs_append, List.length_append, hm]
      exact h1
/-- A new slice without numbers. -/
theorem own_nil0 (w : World) : Own (w.alloc (.cells #[] 3)) w.heap.size (.slice (some ⟨w.heap.size, 0, none⟩) 0 0) [] := own_empty w w.heap.size (Nat.le_refl _) #[] rfl
theorem below_new (w : World) (o : Obj) : Below w.heap.size w (w.alloc o) := (Below.refl _ _).alloc (Nat.le_refl _) o
theorem Own.cap {w : World} {base : Nat} {a : Option Addr} {n cap : Nat} {xs : List Int} (h : Own w base (.slice a n cap) xs) : n ≤ cap ∧ (a = none → cap = 0) ∧ n = xs.length ∧ cap ≤ maxLen := by
  unfold Own World.ownsRow at h
  rcases h.2 with ⟨h1, h2⟩ | ⟨g, cp, cur, h1, h2, h3, h4, h5, h6⟩
  · injection h1 with e1 e2 e3
    subst e1 e2 e3
    exact ⟨Nat.le_refl _, fun _ => rfl, h2.symm, Nat.zero_le _⟩
  · injection h1 with e1 e2 e3
    subst e1 e2 e3
    exact ⟨h4, (fun h => by cases h), rfl, h5⟩
/-- From (w, v) to (w', v'): of the blocks that were there, v's own alone may have changed, and v' owns none of the others. -/
def Moved (w : World) (v : Value) (w' : World) (v' : Value) : Prop := w.heap.size ≤ w'.heap.size ∧ ∀ g, g < w.heap.size → v.ownBlock ≠ some g → v'.ownBlock ≠ some g ∧ w'.heap[g]? = w.heap[g]?
theorem Moved.cell {w w' : World} {v v' x : Value} {p : Addr} (hm : Moved w v w' v') (hc : w.cell? p = some x) (hne : v.ownBlock ≠ some p.block) : w'.cell? p = some x :=
  (World.cell?_of_block (hm.2 p.block (World.block_lt_of_cell? w p hc) hne).2).trans hc
/-- The slice at a lies outside of v's own block. -/
def Apart (a : Option Addr) (v : Value) : Prop := ∀ p, a = some p → v.ownBlock ≠ some p.block
theorem Ints.moved {w w' : World} {a : Option Addr} {n : Nat} {xs : List Int} {v v' : Value} (h : Ints w a n xs) (hm : Moved w v w' v') (ha : 0 < n → Apart a v) : Ints w' a n xs ∧ (0 < n → Apart a v') := by
  refine ⟨⟨h.1, fun hn => ?_⟩, fun hn p hp => ?_⟩
  · obtain ⟨b, off, rfl, hb, hc⟩ := h.2 hn
    have hk := hm.2 b hb (ha hn _ rfl)
    exact ⟨b, off, rfl, Nat.lt_of_lt_of_le hb hm.1, fun j hj => (World.cell?_of_block (a := ⟨b, off + j, none⟩) hk.2).trans (hc j hj)⟩
  · obtain ⟨b, off, rfl, hb, _⟩ := h.2 hn
    cases hp
    exact (hm.2 b hb (ha hn _ rfl)).1
theorem ints_far {w : World} {a : Option Addr} {n : Nat} {xs : List Int} (h : Ints w a n xs) {b i : Nat} (hne : ∀ p, a = some p → p.block ≠ b) (u : Value) : Ints (w.setCell ⟨b, i, none⟩ u) a n xs :=
  ⟨h.1, fun hn => by
    obtain ⟨b', off, rfl, hlt, hc⟩ := h.2 hn
    have hb := hne _ rfl
    refine ⟨b', off, rfl, by simpa [World.setCell] using hlt, fun j hj => ?_⟩
    rw [World.cell?_setCell_other _ _ _ _ (by simp; intro e; exact absurd e.symm (by simpa using hb))]
    exact hc j hj⟩
/-- As wp_push, and telling what else stays. -/
theorem wp_push2 {ops : Array Oper} {rest : List Oper} {o : Oper} {a : Act} {Q : Exit → Act → World → Prop} {w : World} {u : Int} (s x : Operand)
    (hgd : o.guard = none) (ho : o.op = .call { callee := .builtin .append, args := #[s, x], argTypes := #[31, 31] })
    (base : Nat) (v : Value) (xs : List Int) (hs : a.eval s = v) (hown : Own w base v xs) (hx : a.eval x = .slice (some ⟨w.heap.size, 0, none⟩) 1 1)
    (hl : xs.length ≤ 17592186040320) (hb : base ≤ w.heap.size)
    (h : ∀ v' w', Own w' base v' (xs ++ [u]) → Below base w w' → Moved w v w' v' → wpList Try.prog ops Q rest (a.put o.dst v') w') : wpList Try.prog ops Q (o :: rest) a (w.alloc (.cells #[.int .i64 u] 3)) := by
  obtain ⟨i0, hi0, hz0, hz1, hz2⟩ := info_parts info_int
  refine wpList_append_own_at _ hgd s x 31 ho base 3 i0 (.int .i64 0) 1 8 Try.underlying31 hi0 hz0 hz1 hz2 rfl (by decide) v xs.length (cs xs) hs
    (hown.below ((Below.refl _ _).alloc (Nat.le_refl _) _)) ⟨w.heap.size, 0, none⟩ 1 1 [.int .i64 u] hx rfl (cell_one_new w (.int .i64 u) 3) (by simp [Value.oneCell']) (by simp only [maxLen]; omega) (by omega) (by simp; omega) ?_
  intro v' w' h1 h2 _ h3
  refine h v' w' ?_ (push_below hown hb h2) ⟨by have := h2.size; simp at this; omega, fun g hg hne => ⟨?_, ?_⟩⟩
  · unfold Own; rw [← cs_append, List.length_append]; exact h1
  · rcases h3 with h3 | h3
    · rw [h3]; exact hne
    · rw [h3]; intro e; cases e; simp at hg; omega
  · have hb1 : (w.alloc (.cells #[.int .i64 u] 3)).heap[g]? = w.heap[g]? := ((Below.refl w.heap.size w).alloc (Nat.le_refl _) (.cells #[.int .i64 u] 3)).block g hg
    rw [← hb1]
    exact h2.block g (by simp; omega) (fun e => hne e.symm)
/-- A list of its own. -/
theorem impl_copied (a : Option Addr) (n cap : Nat) (xs : List Int) (w : World) (hn : n ≤ 4294967296) (hc : a = none → cap = 0) (h : Ints w a n xs) :
    Calls Try.prog 42 #[.slice a n cap] w fun e w' => ∃ v, e = .returned v ∧ Own w' w.heap.size v xs ∧ Below w.heap.size w w' := by
  have H := Lib.hid h
  clear h
  go_enter Try.func42, Try.ntmps42
  go_wp2_with (at_builtin; refine wp_appI _ _ rfl rfl w.heap.size _ [] rfl (own_nil0 w) a n cap xs rfl hc (H.out.below (below_new w _)) (by simp; omega) (by simp) ?_; intro v' w' ho hb)
  go_ret
  exact ⟨_, rfl, ho, (below_new w _).trans hb⟩
theorem spec_l1Own (a : Option Addr) (n cap : Nat) (xs : List Int) (w : World) (hn : n ≤ 4294967296) (hc : a = none → cap = 0) (h : Ints w a n xs) :
    Calls Try.prog 35 #[.slice a n cap] w fun e w' => ∃ v, e = .returned v ∧ Own w' w.heap.size v xs ∧ Below w.heap.size w w' := by
  have H := Lib.hid h
  clear h
  go_enter Try.func35, Try.ntmps35
  go_wp2_with (at_builtin; refine wp_appI _ _ rfl rfl w.heap.size _ [] rfl (own_nil0 w) a n cap xs rfl hc (H.out.below (below_new w _)) (by simp; omega) (by simp) ?_; intro v' w' ho hb)
  go_ret
  exact ⟨_, rfl, ho, (below_new w _).trans hb⟩
/-- A part of a slice from its head on, and one from its second number on. -/
theorem Ints.init {w : World} {a : Option Addr} {n m : Nat} {xs : List Int} (h : Ints w a n xs) (hm : m + 1 = n) : Ints w a m xs.dropLast :=
  ⟨by rw [List.length_dropLast, h.1]; omega, fun h0 => by
    obtain ⟨b, off, rfl, hlt, hc⟩ := h.2 (by omega)
    refine ⟨b, off, rfl, hlt, fun j hj => ?_⟩
    have e : nth xs.dropLast j = nth xs j := by
      unfold nth; simp [List.getD, List.getElem?_dropLast]
      rw [if_pos]
      have := h.1; omega
    rw [e]; exact hc j (by omega)⟩
theorem Ints.rest {w : World} {b off n m : Nat} {xs : List Int} (h : Ints w (some ⟨b, off, none⟩) n xs) (hm : m + 1 = n) : Ints w (some ⟨b, off + 1, none⟩) m xs.tail :=
  ⟨by rw [List.length_tail, h.1]; omega, fun h0 => by
    obtain ⟨b', off', he, hlt, hc⟩ := h.2 (by omega)
    cases he
    refine ⟨b, off + 1, rfl, hlt, fun j hj => ?_⟩
    have e : nth xs.tail j = nth xs (j + 1) := by
      cases xs with
      | nil => simp [nth, List.getD]
      | cons x xs => simp [nth, List.getD]
    rw [e, Nat.add_assoc, Nat.add_comm 1 j]; exact hc (j + 1) (by omega)⟩
end Go.Proofs.Ytcoakeedgngogaa
