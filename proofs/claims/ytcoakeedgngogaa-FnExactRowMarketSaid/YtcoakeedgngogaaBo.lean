/- Small words on memory, for slices of bools: one that reads as a list, and one that the call owns. No condition but those in the statements. -/
import Derived.Test.YtcoakeedgngogaaB2
namespace Go.Proofs.Ytcoakeedgngogaa.Bo
open Go.RowKit

/-- Element i of a list of bools, 0 behind its end. -/
def nth (xs : List Bool) (i : Nat) : Bool := xs.getD i false
theorem nth_lt {xs : List Bool} {i : Nat} (h : i < xs.length) : nth xs i = xs[i] := by simp [nth, List.getD, h]
theorem nth_get? {xs : List Bool} {i : Nat} (h : i < xs.length) : xs[i]? = some (nth xs i) := by simp [nth, List.getD, h]
theorem nth_ge {xs : List Bool} {i : Nat} (h : xs.length ≤ i) : nth xs i = false := by simp [nth, List.getD, h]
theorem nth_set {xs : List Bool} {i j : Nat} {u : Bool} (h : i < xs.length) : nth (xs.set i u) j = if i = j then u else nth xs j := by
  unfold nth
  by_cases e : i = j
  · subst e; simp [List.getD, h]
  · simp [List.getD, e]
theorem take_succ_nth {xs : List Bool} {k : Nat} (h : k < xs.length) : xs.take (k + 1) = xs.take k ++ [nth xs k] := by
  rw [List.take_succ_eq_append_getElem h, nth_lt h]
theorem ext_nth {xs ys : List Bool} (hl : xs.length = ys.length) (h : ∀ i, i < xs.length → nth xs i = nth ys i) : xs = ys := by
  apply List.ext_getElem hl
  intro i h1 h2
  have := h i h1
  rwa [nth_lt h1, nth_lt h2] at this
theorem nth_map_range {n i : Nat} {f : Nat → Bool} (h : i < n) : nth ((List.range n).map f) i = f i := by
  rw [nth_lt (by simpa using h)]; simp
theorem nth_replicate (n i : Nat) : nth (List.replicate n false) i = false := by
  unfold nth; simp only [List.getD_eq_getElem?_getD, List.getElem?_replicate]; split <;> rfl

/-- The cells of a list of bools. -/
def cs (xs : List Bool) : List Value := xs.map (Value.bool)
theorem cs_length (xs : List Bool) : (cs xs).length = xs.length := by simp [cs]
theorem cs_get? (xs : List Bool) (i : Nat) (h : i < xs.length) : (cs xs)[i]? = some (.bool (nth xs i)) := by simp [cs, nth, List.getD, h]
theorem cs_set (xs : List Bool) (i : Nat) (u : Bool) : (cs xs).set i (.bool u) = cs (xs.set i u) := by simp [cs, List.map_set]
theorem cs_append (xs ys : List Bool) : cs xs ++ cs ys = cs (xs ++ ys) := by simp [cs]
theorem cs_one (xs : List Bool) : ∀ u ∈ cs xs, u.oneCell' = true := by intro u hu; obtain ⟨b, -, rfl⟩ := List.mem_map.1 hu; rfl

/-- The slice (a, n) reads as the bools xs. -/
def Ints (w : World) (a : Option Addr) (n : Nat) (xs : List Bool) : Prop :=
  xs.length = n ∧ (0 < n → ∃ b off, a = some ⟨b, off, none⟩ ∧ b < w.heap.size ∧ ∀ j, j < n → w.cell? ⟨b, off + j, none⟩ = some (.bool (nth xs j)))
theorem Ints.keep {w w' : World} {a : Option Addr} {n : Nat} {xs : List Bool} (h : Ints w a n xs) (hs : w.heap.size ≤ w'.heap.size)
    (hk : ∀ p : Addr, p.block < w.heap.size → w'.cell? p = w.cell? p) : Ints w' a n xs :=
  ⟨h.1, fun hn => by
    obtain ⟨b, off, rfl, hb, hc⟩ := h.2 hn
    exact ⟨b, off, rfl, by omega, fun j hj => (hk _ hb).trans (hc j hj)⟩⟩
theorem Ints.below {w w' : World} {a : Option Addr} {n : Nat} {xs : List Bool} (h : Ints w a n xs) (hb : Below w.heap.size w w') : Ints w' a n xs :=
  h.keep hb.size fun _ hp => hb.cell hp

/-- The call owns the slice v, which reads as the bools xs. -/
def Own (w : World) (base : Nat) (v : Value) (xs : List Bool) : Prop := w.ownsRow base 4 1 v xs.length (cs xs)
theorem Own.form {w : World} {base : Nat} {v : Value} {xs : List Bool} (h : Own w base v xs) (hn : 0 < xs.length) : ∃ g cap, v = .slice (some ⟨g, 0, none⟩) xs.length cap ∧ base ≤ g ∧ g < w.heap.size := by
  obtain ⟨g, cap, rfl⟩ := Joins.ownsRow_form h hn
  have := World.ownsRow.lt h g rfl
  exact ⟨g, cap, rfl, this.1, this.2⟩
theorem Own.shape {w : World} {base : Nat} {v : Value} {xs : List Bool} (h : Own w base v xs) : ∃ a cap, v = .slice a xs.length cap := by
  rcases Joins.ownsRow_forms h with ⟨rfl, hn⟩ | ⟨g, cap, rfl⟩
  · exact ⟨none, 0, by rw [hn]⟩
  · exact ⟨_, _, rfl⟩
theorem Own.cell {w : World} {base g n cap : Nat} {xs : List Bool} (h : Own w base (.slice (some ⟨g, 0, none⟩) n cap) xs) {i : Nat} (hi : i < xs.length) : w.cell? ⟨g, i, none⟩ = some (.bool (nth xs i)) := by
  obtain ⟨_, _, he, _⟩ := h.form (by omega)
  simp only [Value.slice.injEq] at he
  obtain ⟨_, rfl, _⟩ := he
  rw [World.ownsRow.cellAt h i (by omega), cs_get? _ _ hi]
theorem Own.free {w : World} {base g n cap : Nat} {xs : List Bool} (h : Own w base (.slice (some ⟨g, 0, none⟩) n cap) xs) (hn : n = xs.length) (i : Nat) : w.frozen? ⟨g, i, none⟩ = false := by
  subst hn
  exact World.ownsRow.frozenAt h i
theorem Own.set {w : World} {base g n cap : Nat} {xs : List Bool} (h : Own w base (.slice (some ⟨g, 0, none⟩) n cap) xs) (hn : n = xs.length) (i : Nat) (u : Bool) :
    Own (w.setCell ⟨g, i, none⟩ (.bool u)) base (.slice (some ⟨g, 0, none⟩) n cap) (xs.set i u) := by
  subst hn
  have := (World.ownsRow.stored h i (.bool u)).1
  rw [cs_set] at this
  unfold Own
  rwa [List.length_set]
theorem Own.bools {w : World} {base : Nat} {a : Option Addr} {n cap : Nat} {xs : List Bool} (h : Own w base (.slice a n cap) xs) : Ints w a n xs := by
  obtain ⟨a', cap', he⟩ := h.shape
  simp only [Value.slice.injEq] at he
  obtain ⟨_, hn, _⟩ := he
  refine ⟨hn.symm, fun h0 => ?_⟩
  obtain ⟨g, cap'', he, _, hg⟩ := h.form (by omega)
  simp only [Value.slice.injEq] at he
  obtain ⟨rfl, _, _⟩ := he
  exact ⟨g, 0, rfl, hg, fun j hj => by rw [Nat.zero_add]; exact h.cell (by omega)⟩
theorem Own.below {w w' : World} {base : Nat} {v : Value} {xs : List Bool} (h : Own w base v xs) (hb : Below w.heap.size w w') : Own w' base v xs :=
  World.ownsRow.kept (row := none) h ⟨hb.os, hb.tape, hb.output, hb.size, fun k hk _ => hb.block k hk⟩ (by cases v.ownBlock <;> simp)
theorem Own.grown {w w' : World} {base : Nat} {v : Value} {xs : List Bool} {row : Option Nat} (h : Own w base v xs) (hb : w.grownBy w' row) (hr : v.ownBlock = none ∨ v.ownBlock ≠ row) : Own w' base v xs :=
  World.ownsRow.kept h hb hr
theorem Own.mono {w : World} {base base' : Nat} {v : Value} {xs : List Bool} (h : Own w base v xs) (hb : base' ≤ base) : Own w base' v xs := Joins.ownsRow_le h hb
theorem Own.lt {w : World} {base g n cap : Nat} {xs : List Bool} (h : Own w base (.slice (some ⟨g, 0, none⟩) n cap) xs) : base ≤ g ∧ g < w.heap.size := World.ownsRow.lt h g rfl
theorem Own.far {w : World} {base : Nat} {v : Value} {xs : List Bool} (h : Own w base v xs) {a : Addr} (ha : v.ownBlock ≠ some a.block) (u : Value) : Own (w.setCell a u) base v xs := ownsRow_setCell_other h ha u
theorem Own.nil (w : World) (base : Nat) : Own w base (.slice none 0 0) [] := World.ownsRow_nil w base 4 1

/-- n zeros, as cells. -/
def zv (n : Nat) : Array Value := madeCells #[.bool false] n
theorem zv_list (n : Nat) : (zv n).toList = cs (List.replicate n false) := by simp [zv, toList_madeCells_one, cs]
theorem zv_size (n : Nat) : (zv n).size = n := size_madeCells _ _
theorem Own.zeros (w : World) (base n : Nat) (hb : base ≤ w.heap.size) (hn : n ≤ maxLen) : Own (w.alloc (.cells (zv n) 4)) base (.slice (some ⟨w.heap.size, 0, none⟩) n n) (List.replicate n false) := by
  have := World.ownsRow_lit (size := 1) (e := 4) w (zv n) n hb hn (by rw [zv_size]; omega)
  unfold Own
  rwa [List.length_replicate, ← zv_list]
theorem zv_get (n i : Nat) (h : i < n) : (zv n)[i]? = some (.bool false) := by
  have e : (zv n)[i]? = (zv n).toList[i]? := by simp
  rw [e, zv_list, cs_get? _ _ (by simpa using h), nth_replicate]
theorem Ints.at {w wr : World} {a : Option Addr} {n i : Nat} {xs : List Bool} (h : Ints w a n xs) (hb : Below w.heap.size w wr) (hi : i < n) :
    ∃ b off, a = some ⟨b, off, none⟩ ∧ wr.cell? ⟨b, off + i, none⟩ = some (.bool (nth xs i)) := by
  obtain ⟨b, off, rfl, hlt, hc⟩ := h.2 (by omega)
  exact ⟨b, off, rfl, (hb.cell (p := ⟨b, off + i, none⟩) hlt).trans (hc i hi)⟩
theorem Own.cap {w : World} {base : Nat} {a : Option Addr} {n cap : Nat} {xs : List Bool} (h : Own w base (.slice a n cap) xs) : n ≤ cap ∧ (a = none → cap = 0) ∧ n = xs.length ∧ cap ≤ maxLen := by
  unfold Own World.ownsRow at h
  rcases h.2 with ⟨h1, h2⟩ | ⟨g, cp, cur, h1, h2, h3, h4, h5, h6⟩
  · injection h1 with e1 e2 e3
    subst e1 e2 e3
    exact ⟨Nat.le_refl _, fun _ => rfl, h2.symm, Nat.zero_le _⟩
  · injection h1 with e1 e2 e3
    subst e1 e2 e3
    exact ⟨h4, (fun h => by cases h), rfl, h5⟩
theorem info_bool : (Try.prog.info? 4).map (fun i => (i.zero, i.size, i.bytes)) = some (some (.bool false), 1, 1) := by kernel_rfl
/-- 'make([]int, n)'. -/
theorem mk_bools (n : Nat) (hn : n ≤ 4294967296) (w : World) :
    (Instr.makeSlice 78 (.int .i64 (n : Int)) (.int .i64 (n : Int))).run Try.prog w = .ok (.slice (some ⟨w.heap.size, 0, none⟩) n n) (w.alloc (.cells (zv n) 4)) := by
  obtain ⟨i0, hi0, hz0, hz1, hz2⟩ := info_parts info_bool
  have hr := run_make (P := Try.prog) w 78 4 i0 (.bool false) Try.underlying78 hi0 hz0 .i64 .i64 (n : Int) (n : Int) (by omega) (by omega) (by rw [hz2]; omega) (by omega)
  simp only [Int.toNat_natCast, hz1, Nat.mul_one, Value.cells] at hr
  exact hr
theorem Ints.moved {w w' : World} {a : Option Addr} {n : Nat} {xs : List Bool} {v v' : Value} (h : Ints w a n xs) (hm : Moved w v w' v') (ha : 0 < n → Apart a v) : Ints w' a n xs ∧ (0 < n → Apart a v') := by
  refine ⟨⟨h.1, fun hn => ?_⟩, fun hn p hp => ?_⟩
  · obtain ⟨b, off, rfl, hb, hc⟩ := h.2 hn
    have hk := hm.2 b hb (ha hn _ rfl)
    exact ⟨b, off, rfl, Nat.lt_of_lt_of_le hb hm.1, fun j hj => (World.cell?_of_block (a := ⟨b, off + j, none⟩) hk.2).trans (hc j hj)⟩
  · obtain ⟨b, off, rfl, hb, _⟩ := h.2 hn
    cases hp
    exact (hm.2 b hb (ha hn _ rfl)).1
theorem ints_far {w : World} {a : Option Addr} {n : Nat} {xs : List Bool} (h : Ints w a n xs) {b i : Nat} (hne : ∀ p, a = some p → p.block ≠ b) (u : Value) : Ints (w.setCell ⟨b, i, none⟩ u) a n xs :=
  ⟨h.1, fun hn => by
    obtain ⟨b', off, rfl, hlt, hc⟩ := h.2 hn
    have hb := hne _ rfl
    refine ⟨b', off, rfl, by simpa [World.setCell] using hlt, fun j hj => ?_⟩
    rw [World.cell?_setCell_other _ _ _ _ (by simp; intro e; exact absurd e.symm (by simpa using hb))]
    exact hc j hj⟩
end Go.Proofs.Ytcoakeedgngogaa.Bo
