/- Contracts and plain laws for the statement FnDoob, part 3. No conditions but those stated in each. -/
import Derived.Test.YtnbomleieianoaaBnFnDoob2
import Derived.Deep.RegionHeld3
import Derived.Deep.AppendLies
import Derived.Deep.DrawnRows
import Derived.Test.YtnbomleieianoaaBnFnDoob7
import Derived.Test.YtnbomleieianoaaBnFnDoob1
import Derived.Test.YtnbomleieianoaaBnFnDoob14
/- Small words on memory, continued: appending one number inside a region that draws its order. -/
namespace Go.Proofs.Ytnbomleieianoaa
open Go.RowKit

/-- 'append(xs, u)', u just laid into a new block, as a step of a region that draws its order. -/
theorem step_push {ops : Array Oper} {o : Oper} {a : Act} {K : Act → World → Prop} {Q : Exit → Act → World → Prop} {E : Prop} {w : World} {u : Int} (hgd : o.guard = none) (s x : Operand)
    (ho : o.op = .call { callee := .builtin .append, args := #[s, x], argTypes := #[24, 24] })
    (base : Nat) (v : Value) (xs : List Int) (hs : a.eval s = v) (hown : Own w base v xs) (hx : a.eval x = .slice (some ⟨w.heap.size, 0, none⟩) 1 1)
    (hl : xs.length ≤ 17592186040320) (hb : base ≤ w.heap.size)
    (h : ∀ v' w', Own w' base v' (xs ++ [u]) → Below base w w' → K (a.put o.dst v') w') :
    if Region.wanted o (yielded ops a.tmps) = true then Oper.wp Try.prog o a (w.alloc (.cells #[.int .i64 u] 3)).drew K Q else E := by
  obtain ⟨i0, hi0, hz0, hz1, hz2⟩ := info_parts info_int
  refine step_append_lies _ hgd s x 24 ho base 3 i0 (.int .i64 0) 1 8 Try.underlying24 hi0 hz0 hz1 hz2 rfl (by decide) v xs.length (cs xs) hs
    (hown.below ((Below.refl _ _).alloc (Nat.le_refl _) _).drew) ⟨w.heap.size, 0, none⟩ 1 1 [.int .i64 u] hx rfl
    (World.news_of_block (cs := #[.int .i64 u]) (t := 3) (fr := (0, 0)) (heap_alloc_new w _)) (by simp [Value.oneCell']) (by decide) (by simp only [maxLen]; omega) (by omega) (by simp; omega) (w.heap.size + 1) (by simp) ?_
  intro g cap w' h1 h2 _ _
  refine h _ w' ?_ ?_
  · unfold Own; rw [← cs_append, List.length_append]; exact h1
  · exact (((Below.refl base w).alloc hb _).drew).grown h2 (by simp; omega) fun k hk => (World.ownsRow.lt hown k hk).1
end Go.Proofs.Ytnbomleieianoaa

/- What a region that draws its order keeps: the world has only grown, some pairs lie as they did. -/
namespace Go.Proofs.Ytnbomleieianoaa
open Go.RowKit

/-- The world has only grown. -/
def KeepR (u w : World) : Prop := Below u.heap.size u w
theorem KeepR.start (u : World) : KeepR u u.drew := (Below.refl _ _).drew
theorem KeepR.next {u w w' : World} (hb : Below w.heap.size w w') (h : KeepR u w) : KeepR u w' := Below.trans h (hb.mono (Below.size h))
theorem keep4 {u w : World} {g g' : Nat} {x y x' y' : Value} (h : KeepR u w) (hp : Pair u g x y) (hp' : Pair u g' x' y') :
    KeepR u w ∧ (w.cell? ⟨g, 0, none⟩ = some x ∧ w.cell? ⟨g, 1, none⟩ = some y) ∧ w.cell? ⟨g', 0, none⟩ = some x' ∧ w.cell? ⟨g', 1, none⟩ = some y' :=
  ⟨h, ⟨(hp.below h).c0, (hp.below h).c1⟩, (hp'.below h).c0, (hp'.below h).c1⟩
theorem KeepR.alloc {u w : World} (h : KeepR u w) (o : Obj) : KeepR u (w.alloc o) := Below.alloc h (Below.size h) o
theorem KeepR.alloc0 (u : World) (o : Obj) : KeepR u (u.alloc o).drew := (below_new u o).drew
theorem KeepR.drew {u w : World} (h : KeepR u w) : KeepR u w.drew := Below.drew h
theorem keep2 {u w : World} {g : Nat} {x y : Value} (h : KeepR u w) (hp : Pair u g x y) : KeepR u w ∧ w.cell? ⟨g, 0, none⟩ = some x ∧ w.cell? ⟨g, 1, none⟩ = some y :=
  ⟨h, (hp.below h).c0, (hp.below h).c1⟩
theorem KeepR.cell {u w : World} {p : Addr} {v : Value} (h : KeepR u w) (hc : u.cell? p = some v) : w.cell? p = some v := (Below.cell h (World.block_lt_of_cell? u p hc)).trans hc
theorem keepC1 {u w : World} {p0 : Addr} {v0 : Value} (h : KeepR u w) (h0 : u.cell? p0 = some v0) : KeepR u w ∧ w.cell? p0 = some v0 :=
  ⟨h, h.cell h0⟩
theorem keepC2 {u w : World} {p0 p1 : Addr} {v0 v1 : Value} (h : KeepR u w) (h0 : u.cell? p0 = some v0) (h1 : u.cell? p1 = some v1) : KeepR u w ∧ w.cell? p0 = some v0 ∧ w.cell? p1 = some v1 :=
  ⟨h, h.cell h0, h.cell h1⟩
theorem keepC3 {u w : World} {p0 p1 p2 : Addr} {v0 v1 v2 : Value} (h : KeepR u w) (h0 : u.cell? p0 = some v0) (h1 : u.cell? p1 = some v1) (h2 : u.cell? p2 = some v2) : KeepR u w ∧ w.cell? p0 = some v0 ∧ w.cell? p1 = some v1 ∧ w.cell? p2 = some v2 :=
  ⟨h, h.cell h0, h.cell h1, h.cell h2⟩
theorem keepC4 {u w : World} {p0 p1 p2 p3 : Addr} {v0 v1 v2 v3 : Value} (h : KeepR u w) (h0 : u.cell? p0 = some v0) (h1 : u.cell? p1 = some v1) (h2 : u.cell? p2 = some v2) (h3 : u.cell? p3 = some v3) : KeepR u w ∧ w.cell? p0 = some v0 ∧ w.cell? p1 = some v1 ∧ w.cell? p2 = some v2 ∧ w.cell? p3 = some v3 :=
  ⟨h, h.cell h0, h.cell h1, h.cell h2, h.cell h3⟩
theorem keepC5 {u w : World} {p0 p1 p2 p3 p4 : Addr} {v0 v1 v2 v3 v4 : Value} (h : KeepR u w) (h0 : u.cell? p0 = some v0) (h1 : u.cell? p1 = some v1) (h2 : u.cell? p2 = some v2) (h3 : u.cell? p3 = some v3) (h4 : u.cell? p4 = some v4) : KeepR u w ∧ w.cell? p0 = some v0 ∧ w.cell? p1 = some v1 ∧ w.cell? p2 = some v2 ∧ w.cell? p3 = some v3 ∧ w.cell? p4 = some v4 :=
  ⟨h, h.cell h0, h.cell h1, h.cell h2, h.cell h3, h.cell h4⟩
theorem keepC6 {u w : World} {p0 p1 p2 p3 p4 p5 : Addr} {v0 v1 v2 v3 v4 v5 : Value} (h : KeepR u w) (h0 : u.cell? p0 = some v0) (h1 : u.cell? p1 = some v1) (h2 : u.cell? p2 = some v2) (h3 : u.cell? p3 = some v3) (h4 : u.cell? p4 = some v4) (h5 : u.cell? p5 = some v5) : KeepR u w ∧ w.cell? p0 = some v0 ∧ w.cell? p1 = some v1 ∧ w.cell? p2 = some v2 ∧ w.cell? p3 = some v3 ∧ w.cell? p4 = some v4 ∧ w.cell? p5 = some v5 :=
  ⟨h, h.cell h0, h.cell h1, h.cell h2, h.cell h3, h.cell h4, h.cell h5⟩
theorem keepC7 {u w : World} {p0 p1 p2 p3 p4 p5 p6 : Addr} {v0 v1 v2 v3 v4 v5 v6 : Value} (h : KeepR u w) (h0 : u.cell? p0 = some v0) (h1 : u.cell? p1 = some v1) (h2 : u.cell? p2 = some v2) (h3 : u.cell? p3 = some v3) (h4 : u.cell? p4 = some v4) (h5 : u.cell? p5 = some v5) (h6 : u.cell? p6 = some v6) : KeepR u w ∧ w.cell? p0 = some v0 ∧ w.cell? p1 = some v1 ∧ w.cell? p2 = some v2 ∧ w.cell? p3 = some v3 ∧ w.cell? p4 = some v4 ∧ w.cell? p5 = some v5 ∧ w.cell? p6 = some v6 :=
  ⟨h, h.cell h0, h.cell h1, h.cell h2, h.cell h3, h.cell h4, h.cell h5, h.cell h6⟩
theorem keepC8 {u w : World} {p0 p1 p2 p3 p4 p5 p6 p7 : Addr} {v0 v1 v2 v3 v4 v5 v6 v7 : Value} (h : KeepR u w) (h0 : u.cell? p0 = some v0) (h1 : u.cell? p1 = some v1) (h2 : u.cell? p2 = some v2) (h3 : u.cell? p3 = some v3) (h4 : u.cell? p4 = some v4) (h5 : u.cell? p5 = some v5) (h6 : u.cell? p6 = some v6) (h7 : u.cell? p7 = some v7) : KeepR u w ∧ w.cell? p0 = some v0 ∧ w.cell? p1 = some v1 ∧ w.cell? p2 = some v2 ∧ w.cell? p3 = some v3 ∧ w.cell? p4 = some v4 ∧ w.cell? p5 = some v5 ∧ w.cell? p6 = some v6 ∧ w.cell? p7 = some v7 :=
  ⟨h, h.cell h0, h.cell h1, h.cell h2, h.cell h3, h.cell h4, h.cell h5, h.cell h6, h.cell h7⟩
theorem keepC9 {u w : World} {p0 p1 p2 p3 p4 p5 p6 p7 p8 : Addr} {v0 v1 v2 v3 v4 v5 v6 v7 v8 : Value} (h : KeepR u w) (h0 : u.cell? p0 = some v0) (h1 : u.cell? p1 = some v1) (h2 : u.cell? p2 = some v2) (h3 : u.cell? p3 = some v3) (h4 : u.cell? p4 = some v4) (h5 : u.cell? p5 = some v5) (h6 : u.cell? p6 = some v6) (h7 : u.cell? p7 = some v7) (h8 : u.cell? p8 = some v8) : KeepR u w ∧ w.cell? p0 = some v0 ∧ w.cell? p1 = some v1 ∧ w.cell? p2 = some v2 ∧ w.cell? p3 = some v3 ∧ w.cell? p4 = some v4 ∧ w.cell? p5 = some v5 ∧ w.cell? p6 = some v6 ∧ w.cell? p7 = some v7 ∧ w.cell? p8 = some v8 :=
  ⟨h, h.cell h0, h.cell h1, h.cell h2, h.cell h3, h.cell h4, h.cell h5, h.cell h6, h.cell h7, h.cell h8⟩
end Go.Proofs.Ytnbomleieianoaa

/- Small words on memory: slices of pairs of ints: one that reads as a list, one that the call owns, appending. No condition but those in the statements. -/
namespace Go.Proofs.Ytnbomleieianoaa
open Go.RowKit
namespace Fr

/-- The cells of a list of pairs. -/
def fs : List (Int × Int) → List Value
  | [] => []
  | p :: ps => .int .i64 p.1 :: .int .i64 p.2 :: fs ps
theorem fs_length : ∀ xs, (fs xs).length = xs.length * 2
  | [] => rfl
  | p :: ps => by rw [fs, List.length_cons, List.length_cons, fs_length ps, List.length_cons]; omega
theorem fs_append : ∀ xs ys, fs xs ++ fs ys = fs (xs ++ ys)
  | [], ys => rfl
  | p :: ps, ys => by rw [List.cons_append, fs, fs, ← fs_append ps ys]; rfl
/-- Pair i of a list, zeros behind its end. -/
def at1 (xs : List (Int × Int)) (i : Nat) : Int := (xs.getD i (0, 0)).1
def at2 (xs : List (Int × Int)) (i : Nat) : Int := (xs.getD i (0, 0)).2
theorem fs_get : ∀ (xs : List (Int × Int)) (i : Nat), i < xs.length → (fs xs)[i * 2]? = some (.int .i64 (at1 xs i)) ∧ (fs xs)[i * 2 + 1]? = some (.int .i64 (at2 xs i))
  | [], i, h => by simp at h
  | p :: ps, 0, _ => ⟨rfl, rfl⟩
  | p :: ps, i + 1, h => by
    have ih := fs_get ps i (by simpa using h)
    have e1 : at1 (p :: ps) (i + 1) = at1 ps i := rfl
    have e2 : at2 (p :: ps) (i + 1) = at2 ps i := rfl
    rw [e1, e2, fs, show (i + 1) * 2 = (i * 2) + 1 + 1 by omega, show (i * 2) + 1 + 1 + 1 = (i * 2 + 1) + 1 + 1 by omega]
    simpa using ih
/-- The slice (a, n) reads as the pairs xs. -/
def Ints (w : World) (a : Option Addr) (n : Nat) (xs : List (Int × Int)) : Prop :=
  xs.length = n ∧ (0 < n → ∃ b off, a = some ⟨b, off, none⟩ ∧ b < w.heap.size ∧ ∀ j, j < n → w.cell? ⟨b, off + j * 2, none⟩ = some (.int .i64 (at1 xs j)) ∧ w.cell? ⟨b, off + j * 2 + 1, none⟩ = some (.int .i64 (at2 xs j)))
theorem Ints.below {w w' : World} {a : Option Addr} {n : Nat} {xs : List (Int × Int)} (h : Ints w a n xs) (hb : Below w.heap.size w w') : Ints w' a n xs :=
  ⟨h.1, fun hn => by
    obtain ⟨b, off, rfl, hlt, hc⟩ := h.2 hn
    exact ⟨b, off, rfl, Nat.lt_of_lt_of_le hlt hb.size, fun j hj => ⟨(hb.cell (p := ⟨b, off + j * 2, none⟩) hlt).trans (hc j hj).1, (hb.cell (p := ⟨b, off + j * 2 + 1, none⟩) hlt).trans (hc j hj).2⟩⟩⟩
/-- The call owns the slice v, which reads as the pairs xs. -/
def Own (w : World) (base : Nat) (v : Value) (xs : List (Int × Int)) : Prop := w.ownsRow base 48 2 v xs.length (fs xs)
theorem Own.shape {w : World} {base : Nat} {v : Value} {xs : List (Int × Int)} (h : Own w base v xs) : ∃ a cap, v = .slice a xs.length cap := by
  rcases Joins.ownsRow_forms h with ⟨rfl, hn⟩ | ⟨g, cap, rfl⟩
  · exact ⟨none, 0, by rw [hn]⟩
  · exact ⟨_, _, rfl⟩
theorem Own.below {w w' : World} {base : Nat} {v : Value} {xs : List (Int × Int)} (h : Own w base v xs) (hb : Below w.heap.size w w') : Own w' base v xs :=
  World.ownsRow.kept (row := none) h ⟨hb.os, hb.tape, hb.output, hb.size, fun k hk _ => hb.block k hk⟩ (by cases v.ownBlock <;> simp)
theorem Own.mono {w : World} {base base' : Nat} {v : Value} {xs : List (Int × Int)} (h : Own w base v xs) (hb : base' ≤ base) : Own w base' v xs := Joins.ownsRow_le h hb
theorem Own.nil (w : World) (base : Nat) : Own w base (.slice none 0 0) [] := World.ownsRow_nil w base 48 2
theorem own_nil0 (w : World) : Own (w.alloc (.cells #[] 48)) w.heap.size (.slice (some ⟨w.heap.size, 0, none⟩) 0 0) [] := by
  have := World.ownsRow_lit (size := 2) (e := 48) (base := w.heap.size) w #[] 0 (Nat.le_refl _) (by simp [maxLen]) (by simp)
  simpa [Own, fs] using this
theorem Own.ints {w : World} {base : Nat} {a : Option Addr} {n cap : Nat} {xs : List (Int × Int)} (h : Own w base (.slice a n cap) xs) : Ints w a n xs := by
  have h0' := h
  unfold Own World.ownsRow at h
  rcases h.2 with ⟨h1, h2⟩ | ⟨g, cp, cur, h1, h2, h3, h4, h5, h6, h7⟩
  · injection h1 with e1 e2 e3
    subst e2
    exact ⟨h2, fun h0 => by omega⟩
  · injection h1 with e1 e2 e3
    subst e1 e2
    refine ⟨rfl, fun h0 => ⟨g, 0, rfl, ?_, fun j hj => ?_⟩⟩
    · rcases Nat.lt_or_ge g w.heap.size with hlt | hge
      · exact hlt
      · rw [Array.getElem?_eq_none hge] at h3; cases h3
    · have hc : ∀ i, i < xs.length * 2 → w.cell? ⟨g, i, none⟩ = (fs xs)[i]? := fun i hi => by
        exact World.ownsRow.cellAt h0' i (by omega)
      have hg := fs_get xs j hj
      rw [Nat.zero_add, hc _ (by omega), hc _ (by omega)]
      exact hg
theorem info_A2 : (Try.prog.info? 48).map (fun i => (i.zero, i.size, i.bytes)) = some (some (.agg #[.int .i64 0, .int .i64 0]), 2, 16) := by kernel_rfl
theorem info_parts : ∃ i0, Try.prog.info? 48 = some i0 ∧ i0.zero = some (.agg #[.int .i64 0, .int .i64 0]) ∧ i0.size = 2 ∧ i0.bytes = 16 := by
  have := info_A2
  cases h : Try.prog.info? 48 with
  | none => rw [h] at this; cases this
  | some i => rw [h] at this; simp at this; exact ⟨i, rfl, this.1, this.2.1, this.2.2⟩
/-- 'append(xs, p)', p just laid into a new block, in a plain region. -/
theorem wp_push2 {ops : Array Oper} {rest : List Oper} {o : Oper} {a : Act} {Q : Exit → Act → World → Prop} {w : World} {x1 x2 : Int} (s x : Operand)
    (hgd : o.guard = none) (ho : o.op = .call { callee := .builtin .append, args := #[s, x], argTypes := #[42, 42] })
    (base : Nat) (v : Value) (xs : List (Int × Int)) (hs : a.eval s = v) (hown : Own w base v xs) (hx : a.eval x = .slice (some ⟨w.heap.size, 0, none⟩) 1 1)
    (hl : xs.length ≤ 1048576) (hb : base ≤ w.heap.size)
    (h : ∀ v' w', Own w' base v' (xs ++ [(x1, x2)]) → Below base w w' → Moved w v w' v' → wpList Try.prog ops Q rest (a.put o.dst v') w') : wpList Try.prog ops Q (o :: rest) a (w.alloc (.cells #[.int .i64 x1, .int .i64 x2] 48)) := by
  obtain ⟨i0, hi0, hz0, hz1, hz2⟩ := info_parts
  refine wpList_append_lies _ hgd s x 42 ho base 48 i0 (.agg #[.int .i64 0, .int .i64 0]) 2 16 Try.underlying42 hi0 hz0 hz1 hz2 rfl (by decide) v xs.length (fs xs) hs
    (hown.below ((Below.refl _ _).alloc (Nat.le_refl _) _)) ⟨w.heap.size, 0, none⟩ 1 1 [.int .i64 x1, .int .i64 x2] hx rfl
    (World.news_of_block (cs := #[.int .i64 x1, .int .i64 x2]) (t := 48) (fr := (0, 0)) (heap_alloc_new w _)) (by simp [Value.oneCell']) (by decide) (by simp only [maxLen]; omega) (by omega) (by simp; omega) (w.heap.size + 1) (by simp) ?_
  intro g cap w' h1 h2 h3 _
  have hdb : Below w.heap.size w (w.alloc (.cells #[.int .i64 x1, .int .i64 x2] 48)) := ((Below.refl _ _).alloc (Nat.le_refl _) _)
  refine h _ w' ?_ ?_ ⟨Nat.le_trans hdb.size h2.size, fun b hb' hne => ⟨fun e => ?_, ?_⟩⟩
  · unfold Own
    rw [← fs_append, List.length_append]; exact h1
  · exact ((Below.refl base w).alloc hb _).grown h2 (by simp; omega) fun k hk => (World.ownsRow.lt hown k hk).1
  · simp [Value.ownBlock] at e
    rcases h3 with h3 | h3
    · rw [h3, e] at hne; exact hne rfl
    · omega
  · have := h2.block b (Nat.lt_of_lt_of_le hb' hdb.size) (fun e => hne e.symm)
    rw [this]; exact hdb.block b hb'
end Fr
end Go.Proofs.Ytnbomleieianoaa

/- Contracts: payments less a cost of each step, of the program and of the reference. -/
namespace Go.Proofs.Ytnbomleieianoaa
open Go.RowKit

def costL (ps l : List Int) (c : Int) : List Int := (List.range ps.length).map fun x => nth l x - c * dep ps x
theorem costL_length (ps l : List Int) (c : Int) : (costL ps l c).length = ps.length := by simp [costL]
def costB (ps ws l : List Int) (c : Int) : Bool := paysB ps ws l && (inB c 0 999 && procB ps.length (costL ps l c))
def costV (ps ws l : List Int) (c : Int) : List Int := if costB ps ws l c then costL ps l c else []
theorem cost_no1 {ps ws l : List Int} {c : Int} (h : paysB ps ws l = false) : costB ps ws l c = false := by rw [costB, h]; rfl
theorem cost_no2 {ps ws l : List Int} {c : Int} (h : inB c 0 999 = false) : costB ps ws l c = false := by rw [costB, h]; simp
theorem cost_no3 {ps ws l : List Int} {c : Int} (h : procB ps.length (costL ps l c) = false) : costB ps ws l c = false := by rw [costB, h]; simp
theorem cost_yes {ps ws l : List Int} {c : Int} (h1 : paysB ps ws l = true) (h2 : inB c 0 999 = true) (h3 : procB ps.length (costL ps l c) = true) : costB ps ws l c = true := by rw [costB, h1, h2, h3]; rfl
theorem costV_no {ps ws l : List Int} {c : Int} (h : costB ps ws l c = false) : costV ps ws l c = [] := by rw [costV, h]; rfl
theorem costV_yes {ps ws l : List Int} {c : Int} (h : costB ps ws l c = true) : costV ps ws l c = costL ps l c := by rw [costV, h]; rfl
theorem paysB_t {ps ws l : List Int} (h : paysB ps ws l = true) : Tr ps ws ∧ treeB ps ws = true ∧ procB ps.length l = true ∧ l.length = ps.length ∧ ∀ i, -999 ≤ nth l i ∧ nth l i ≤ 999 := by
  simp only [paysB, Bool.and_eq_true] at h
  exact ⟨treeB_t h.1, h.1, h.2, procB_t h.2⟩
theorem pays_no1 {ps ws l : List Int} (h : treeB ps ws = false) : paysB ps ws l = false := by rw [paysB, h]; rfl
theorem pays_no2 {ps ws l : List Int} (h : procB ps.length l = false) : paysB ps ws l = false := by rw [paysB, h]; simp
theorem pays_both {ps ws l : List Int} (h : treeB ps ws = true) (h2 : procB ps.length l = true) : paysB ps ws l = true := by rw [paysB, h, h2]; rfl
/-- The first i numbers less their costs, then the numbers. -/
def costP (ps l : List Int) (c : Int) (i : Nat) : List Int := (List.range l.length).map fun x => if x < i then nth l x - c * dep ps x else nth l x
theorem costP_length (ps l : List Int) (c : Int) (i : Nat) : (costP ps l c i).length = l.length := by simp [costP]
theorem costP_zero (ps l : List Int) (c : Int) : costP ps l c 0 = l := ext_nth (costP_length _ _ _ _) fun i hi => by
  rw [costP_length] at hi
  rw [costP, nth_map_range hi]; simp
theorem costP_succ (ps l : List Int) (c : Int) (i : Nat) (h : i < l.length) : costP ps l c (i + 1) = (costP ps l c i).set i (nth l i - c * dep ps i) := ext_nth (by simp [costP_length]) fun j hj => by
  rw [costP_length] at hj
  rw [nth_set (by rw [costP_length]; exact h), costP, costP, nth_map_range hj, nth_map_range hj]
  by_cases e : i = j
  · subst e; rw [if_pos (by omega), if_pos rfl]
  · rw [if_neg e]
    by_cases e2 : j < i
    · rw [if_pos e2, if_pos (by omega)]
    · rw [if_neg e2, if_neg (by omega)]
theorem nth_costP_ge {ps l : List Int} {c : Int} {i : Nat} (h : i < l.length) : nth (costP ps l c i) i = nth l i := by rw [costP, nth_map_range h, if_neg (by omega)]
theorem costP_all {ps l : List Int} (c : Int) (h : l.length = ps.length) : costP ps l c l.length = costL ps l c := ext_nth (by rw [costP_length, costL_length, h]) fun i hi => by
  rw [costP_length] at hi
  rw [costP, costL, nth_map_range hi, nth_map_range (by omega), if_pos hi]
end Go.Proofs.Ytnbomleieianoaa

/- What a region that draws its order keeps: above a base the world may change, some cells lie as they did. -/
namespace Go.Proofs.Ytnbomleieianoaa
open Go.RowKit

theorem cell_far {w : World} {p a : Addr} {v x : Value} (h : w.cell? p = some v) (hne : p.block ≠ a.block) : (w.setCell a x).cell? p = some v := by
  rw [World.cell?_setCell_other _ _ _ _ (fun e => hne (congrArg Addr.block e).symm)]; exact h
theorem pair_up {W w' : World} {g : Nat} {x y : Value} (hb : Below W.heap.size W w') (c0 : W.cell? ⟨g, 0, none⟩ = some x) (c1 : W.cell? ⟨g, 1, none⟩ = some y) (f0 : W.frozen? ⟨g, 0, none⟩ = false) (f1 : W.frozen? ⟨g, 1, none⟩ = false) : Pair w' g x y := Pair.below ⟨c0, c1, f0, f1⟩ hb
theorem cell_up {W w' : World} {p : Addr} {v : Value} (hb : Below W.heap.size W w') (h : W.cell? p = some v) : w'.cell? p = some v := (hb.cell (World.block_lt_of_cell? W p h)).trans h
theorem below_up {w W w' : World} (hb : Below W.heap.size W w') (h : Below w.heap.size w W) : Below w.heap.size w w' := h.trans (hb.mono h.size)
theorem bk0_start {w u : World} (hb : Below w.heap.size w u)  : (Below w.heap.size w u.drew) := hb.drew
theorem bk0_next {w W W1 : World} (hb : Below W.heap.size W W1) (h : (Below w.heap.size w W)) : (Below w.heap.size w W1) :=
  (h).trans (hb.mono (h).size)
theorem bk0_set {w W : World} {g i : Nat} {x : Value} (hg : w.heap.size ≤ g)  (h : (Below w.heap.size w W)) : (Below w.heap.size w (W.setCell ⟨g, i, none⟩ x)) :=
  (h).setCell hg _
theorem bk0_alloc {w W : World} {o : Obj} (h : (Below w.heap.size w W)) : (Below w.heap.size w (W.alloc o)) := bk0_next (below_new W o) h
theorem bk1_start {w u : World} {p0 : Addr} {v0 : Value} (hb : Below w.heap.size w u) (h0 : u.cell? p0 = some v0) : (Below w.heap.size w u.drew ∧ World.cell? u.drew p0 = some v0) := ⟨hb.drew, h0⟩
theorem bk1_next {w W W1 : World} {p0 : Addr} {v0 : Value} (hb : Below W.heap.size W W1) (h : (Below w.heap.size w W ∧ World.cell? W p0 = some v0)) : (Below w.heap.size w W1 ∧ World.cell? W1 p0 = some v0) :=
  ⟨(h.1).trans (hb.mono (h.1).size), (hb.cell (World.block_lt_of_cell? W _ (h.2))).trans (h.2)⟩
theorem bk1_set {w W : World} {p0 : Addr} {v0 : Value} {g i : Nat} {x : Value} (hg : w.heap.size ≤ g) (n0 : p0.block ≠ g) (h : (Below w.heap.size w W ∧ World.cell? W p0 = some v0)) : (Below w.heap.size w (W.setCell ⟨g, i, none⟩ x) ∧ World.cell? (W.setCell ⟨g, i, none⟩ x) p0 = some v0) :=
  ⟨(h.1).setCell hg _, cell_far (h.2) n0⟩
theorem bk1_alloc {w W : World} {p0 : Addr} {v0 : Value} {o : Obj} (h : (Below w.heap.size w W ∧ World.cell? W p0 = some v0)) : (Below w.heap.size w (W.alloc o) ∧ World.cell? (W.alloc o) p0 = some v0) := bk1_next (below_new W o) h
theorem bk2_start {w u : World} {p0 p1 : Addr} {v0 v1 : Value} (hb : Below w.heap.size w u) (h0 : u.cell? p0 = some v0) (h1 : u.cell? p1 = some v1) : (Below w.heap.size w u.drew ∧ World.cell? u.drew p0 = some v0 ∧ World.cell? u.drew p1 = some v1) := ⟨hb.drew, h0, h1⟩
theorem bk2_next {w W W1 : World} {p0 p1 : Addr} {v0 v1 : Value} (hb : Below W.heap.size W W1) (h : (Below w.heap.size w W ∧ World.cell? W p0 = some v0 ∧ World.cell? W p1 = some v1)) : (Below w.heap.size w W1 ∧ World.cell? W1 p0 = some v0 ∧ World.cell? W1 p1 = some v1) :=
  ⟨(h.1).trans (hb.mono (h.1).size), (hb.cell (World.block_lt_of_cell? W _ (h.2.1))).trans (h.2.1), (hb.cell (World.block_lt_of_cell? W _ (h.2.2))).trans (h.2.2)⟩
theorem bk2_set {w W : World} {p0 p1 : Addr} {v0 v1 : Value} {g i : Nat} {x : Value} (hg : w.heap.size ≤ g) (n0 : p0.block ≠ g) (n1 : p1.block ≠ g) (h : (Below w.heap.size w W ∧ World.cell? W p0 = some v0 ∧ World.cell? W p1 = some v1)) : (Below w.heap.size w (W.setCell ⟨g, i, none⟩ x) ∧ World.cell? (W.setCell ⟨g, i, none⟩ x) p0 = some v0 ∧ World.cell? (W.setCell ⟨g, i, none⟩ x) p1 = some v1) :=
  ⟨(h.1).setCell hg _, cell_far (h.2.1) n0, cell_far (h.2.2) n1⟩
theorem bk2_alloc {w W : World} {p0 p1 : Addr} {v0 v1 : Value} {o : Obj} (h : (Below w.heap.size w W ∧ World.cell? W p0 = some v0 ∧ World.cell? W p1 = some v1)) : (Below w.heap.size w (W.alloc o) ∧ World.cell? (W.alloc o) p0 = some v0 ∧ World.cell? (W.alloc o) p1 = some v1) := bk2_next (below_new W o) h
theorem bk3_start {w u : World} {p0 p1 p2 : Addr} {v0 v1 v2 : Value} (hb : Below w.heap.size w u) (h0 : u.cell? p0 = some v0) (h1 : u.cell? p1 = some v1) (h2 : u.cell? p2 = some v2) : (Below w.heap.size w u.drew ∧ World.cell? u.drew p0 = some v0 ∧ World.cell? u.drew p1 = some v1 ∧ World.cell? u.drew p2 = some v2) := ⟨hb.drew, h0, h1, h2⟩
theorem bk3_next {w W W1 : World} {p0 p1 p2 : Addr} {v0 v1 v2 : Value} (hb : Below W.heap.size W W1) (h : (Below w.heap.size w W ∧ World.cell? W p0 = some v0 ∧ World.cell? W p1 = some v1 ∧ World.cell? W p2 = some v2)) : (Below w.heap.size w W1 ∧ World.cell? W1 p0 = some v0 ∧ World.cell? W1 p1 = some v1 ∧ World.cell? W1 p2 = some v2) :=
  ⟨(h.1).trans (hb.mono (h.1).size), (hb.cell (World.block_lt_of_cell? W _ (h.2.1))).trans (h.2.1), (hb.cell (World.block_lt_of_cell? W _ (h.2.2.1))).trans (h.2.2.1), (hb.cell (World.block_lt_of_cell? W _ (h.2.2.2))).trans (h.2.2.2)⟩
theorem bk3_set {w W : World} {p0 p1 p2 : Addr} {v0 v1 v2 : Value} {g i : Nat} {x : Value} (hg : w.heap.size ≤ g) (n0 : p0.block ≠ g) (n1 : p1.block ≠ g) (n2 : p2.block ≠ g) (h : (Below w.heap.size w W ∧ World.cell? W p0 = some v0 ∧ World.cell? W p1 = some v1 ∧ World.cell? W p2 = some v2)) : (Below w.heap.size w (W.setCell ⟨g, i, none⟩ x) ∧ World.cell? (W.setCell ⟨g, i, none⟩ x) p0 = some v0 ∧ World.cell? (W.setCell ⟨g, i, none⟩ x) p1 = some v1 ∧ World.cell? (W.setCell ⟨g, i, none⟩ x) p2 = some v2) :=
  ⟨(h.1).setCell hg _, cell_far (h.2.1) n0, cell_far (h.2.2.1) n1, cell_far (h.2.2.2) n2⟩
theorem bk3_alloc {w W : World} {p0 p1 p2 : Addr} {v0 v1 v2 : Value} {o : Obj} (h : (Below w.heap.size w W ∧ World.cell? W p0 = some v0 ∧ World.cell? W p1 = some v1 ∧ World.cell? W p2 = some v2)) : (Below w.heap.size w (W.alloc o) ∧ World.cell? (W.alloc o) p0 = some v0 ∧ World.cell? (W.alloc o) p1 = some v1 ∧ World.cell? (W.alloc o) p2 = some v2) := bk3_next (below_new W o) h
theorem bk4_start {w u : World} {p0 p1 p2 p3 : Addr} {v0 v1 v2 v3 : Value} (hb : Below w.heap.size w u) (h0 : u.cell? p0 = some v0) (h1 : u.cell? p1 = some v1) (h2 : u.cell? p2 = some v2) (h3 : u.cell? p3 = some v3) : (Below w.heap.size w u.drew ∧ World.cell? u.drew p0 = some v0 ∧ World.cell? u.drew p1 = some v1 ∧ World.cell? u.drew p2 = some v2 ∧ World.cell? u.drew p3 = some v3) := ⟨hb.drew, h0, h1, h2, h3⟩
theorem bk4_next {w W W1 : World} {p0 p1 p2 p3 : Addr} {v0 v1 v2 v3 : Value} (hb : Below W.heap.size W W1) (h : (Below w.heap.size w W ∧ World.cell? W p0 = some v0 ∧ World.cell? W p1 = some v1 ∧ World.cell? W p2 = some v2 ∧ World.cell? W p3 = some v3)) : (Below w.heap.size w W1 ∧ World.cell? W1 p0 = some v0 ∧ World.cell? W1 p1 = some v1 ∧ World.cell? W1 p2 = some v2 ∧ World.cell? W1 p3 = some v3) :=
  ⟨(h.1).trans (hb.mono (h.1).size), (hb.cell (World.block_lt_of_cell? W _ (h.2.1))).trans (h.2.1), (hb.cell (World.block_lt_of_cell? W _ (h.2.2.1))).trans (h.2.2.1), (hb.cell (World.block_lt_of_cell? W _ (h.2.2.2.1))).trans (h.2.2.2.1), (hb.cell (World.block_lt_of_cell? W _ (h.2.2.2.2))).trans (h.2.2.2.2)⟩
theorem bk4_set {w W : World} {p0 p1 p2 p3 : Addr} {v0 v1 v2 v3 : Value} {g i : Nat} {x : Value} (hg : w.heap.size ≤ g) (n0 : p0.block ≠ g) (n1 : p1.block ≠ g) (n2 : p2.block ≠ g) (n3 : p3.block ≠ g) (h : (Below w.heap.size w W ∧ World.cell? W p0 = some v0 ∧ World.cell? W p1 = some v1 ∧ World.cell? W p2 = some v2 ∧ World.cell? W p3 = some v3)) : (Below w.heap.size w (W.setCell ⟨g, i, none⟩ x) ∧ World.cell? (W.setCell ⟨g, i, none⟩ x) p0 = some v0 ∧ World.cell? (W.setCell ⟨g, i, none⟩ x) p1 = some v1 ∧ World.cell? (W.setCell ⟨g, i, none⟩ x) p2 = some v2 ∧ World.cell? (W.setCell ⟨g, i, none⟩ x) p3 = some v3) :=
  ⟨(h.1).setCell hg _, cell_far (h.2.1) n0, cell_far (h.2.2.1) n1, cell_far (h.2.2.2.1) n2, cell_far (h.2.2.2.2) n3⟩
theorem bk4_alloc {w W : World} {p0 p1 p2 p3 : Addr} {v0 v1 v2 v3 : Value} {o : Obj} (h : (Below w.heap.size w W ∧ World.cell? W p0 = some v0 ∧ World.cell? W p1 = some v1 ∧ World.cell? W p2 = some v2 ∧ World.cell? W p3 = some v3)) : (Below w.heap.size w (W.alloc o) ∧ World.cell? (W.alloc o) p0 = some v0 ∧ World.cell? (W.alloc o) p1 = some v1 ∧ World.cell? (W.alloc o) p2 = some v2 ∧ World.cell? (W.alloc o) p3 = some v3) := bk4_next (below_new W o) h
theorem bk5_start {w u : World} {p0 p1 p2 p3 p4 : Addr} {v0 v1 v2 v3 v4 : Value} (hb : Below w.heap.size w u) (h0 : u.cell? p0 = some v0) (h1 : u.cell? p1 = some v1) (h2 : u.cell? p2 = some v2) (h3 : u.cell? p3 = some v3) (h4 : u.cell? p4 = some v4) : (Below w.heap.size w u.drew ∧ World.cell? u.drew p0 = some v0 ∧ World.cell? u.drew p1 = some v1 ∧ World.cell? u.drew p2 = some v2 ∧ World.cell? u.drew p3 = some v3 ∧ World.cell? u.drew p4 = some v4) := ⟨hb.drew, h0, h1, h2, h3, h4⟩
theorem bk5_next {w W W1 : World} {p0 p1 p2 p3 p4 : Addr} {v0 v1 v2 v3 v4 : Value} (hb : Below W.heap.size W W1) (h : (Below w.heap.size w W ∧ World.cell? W p0 = some v0 ∧ World.cell? W p1 = some v1 ∧ World.cell? W p2 = some v2 ∧ World.cell? W p3 = some v3 ∧ World.cell? W p4 = some v4)) : (Below w.heap.size w W1 ∧ World.cell? W1 p0 = some v0 ∧ World.cell? W1 p1 = some v1 ∧ World.cell? W1 p2 = some v2 ∧ World.cell? W1 p3 = some v3 ∧ World.cell? W1 p4 = some v4) :=
  ⟨(h.1).trans (hb.mono (h.1).size), (hb.cell (World.block_lt_of_cell? W _ (h.2.1))).trans (h.2.1), (hb.cell (World.block_lt_of_cell? W _ (h.2.2.1))).trans (h.2.2.1), (hb.cell (World.block_lt_of_cell? W _ (h.2.2.2.1))).trans (h.2.2.2.1), (hb.cell (World.block_lt_of_cell? W _ (h.2.2.2.2.1))).trans (h.2.2.2.2.1), (hb.cell (World.block_lt_of_cell? W _ (h.2.2.2.2.2))).trans (h.2.2.2.2.2)⟩
theorem bk5_set {w W : World} {p0 p1 p2 p3 p4 : Addr} {v0 v1 v2 v3 v4 : Value} {g i : Nat} {x : Value} (hg : w.heap.size ≤ g) (n0 : p0.block ≠ g) (n1 : p1.block ≠ g) (n2 : p2.block ≠ g) (n3 : p3.block ≠ g) (n4 : p4.block ≠ g) (h : (Below w.heap.size w W ∧ World.cell? W p0 = some v0 ∧ World.cell? W p1 = some v1 ∧ World.cell? W p2 = some v2 ∧ World.cell? W p3 = some v3 ∧ World.cell? W p4 = some v4)) : (Below w.heap.size w (W.setCell ⟨g, i, none⟩ x) ∧ World.cell? (W.setCell ⟨g, i, none⟩ x) p0 = some v0 ∧ World.cell? (W.setCell ⟨g, i, none⟩ x) p1 = some v1 ∧ World.cell? (W.setCell ⟨g, i, none⟩ x) p2 = some v2 ∧ World.cell? (W.setCell ⟨g, i, none⟩ x) p3 = some v3 ∧ World.cell? (W.setCell ⟨g, i, none⟩ x) p4 = some v4) :=
  ⟨(h.1).setCell hg _, cell_far (h.2.1) n0, cell_far (h.2.2.1) n1, cell_far (h.2.2.2.1) n2, cell_far (h.2.2.2.2.1) n3, cell_far (h.2.2.2.2.2) n4⟩
theorem bk5_alloc {w W : World} {p0 p1 p2 p3 p4 : Addr} {v0 v1 v2 v3 v4 : Value} {o : Obj} (h : (Below w.heap.size w W ∧ World.cell? W p0 = some v0 ∧ World.cell? W p1 = some v1 ∧ World.cell? W p2 = some v2 ∧ World.cell? W p3 = some v3 ∧ World.cell? W p4 = some v4)) : (Below w.heap.size w (W.alloc o) ∧ World.cell? (W.alloc o) p0 = some v0 ∧ World.cell? (W.alloc o) p1 = some v1 ∧ World.cell? (W.alloc o) p2 = some v2 ∧ World.cell? (W.alloc o) p3 = some v3 ∧ World.cell? (W.alloc o) p4 = some v4) := bk5_next (below_new W o) h
theorem bk6_start {w u : World} {p0 p1 p2 p3 p4 p5 : Addr} {v0 v1 v2 v3 v4 v5 : Value} (hb : Below w.heap.size w u) (h0 : u.cell? p0 = some v0) (h1 : u.cell? p1 = some v1) (h2 : u.cell? p2 = some v2) (h3 : u.cell? p3 = some v3) (h4 : u.cell? p4 = some v4) (h5 : u.cell? p5 = some v5) : (Below w.heap.size w u.drew ∧ World.cell? u.drew p0 = some v0 ∧ World.cell? u.drew p1 = some v1 ∧ World.cell? u.drew p2 = some v2 ∧ World.cell? u.drew p3 = some v3 ∧ World.cell? u.drew p4 = some v4 ∧ World.cell? u.drew p5 = some v5) := ⟨hb.drew, h0, h1, h2, h3, h4, h5⟩
theorem bk6_next {w W W1 : World} {p0 p1 p2 p3 p4 p5 : Addr} {v0 v1 v2 v3 v4 v5 : Value} (hb : Below W.heap.size W W1) (h : (Below w.heap.size w W ∧ World.cell? W p0 = some v0 ∧ World.cell? W p1 = some v1 ∧ World.cell? W p2 = some v2 ∧ World.cell? W p3 = some v3 ∧ World.cell? W p4 = some v4 ∧ World.cell? W p5 = some v5)) : (Below w.heap.size w W1 ∧ World.cell? W1 p0 = some v0 ∧ World.cell? W1 p1 = some v1 ∧ World.cell? W1 p2 = some v2 ∧ World.cell? W1 p3 = some v3 ∧ World.cell? W1 p4 = some v4 ∧ World.cell? W1 p5 = some v5) :=
  ⟨(h.1).trans (hb.mono (h.1).size), (hb.cell (World.block_lt_of_cell? W _ (h.2.1))).trans (h.2.1), (hb.cell (World.block_lt_of_cell? W _ (h.2.2.1))).trans (h.2.2.1), (hb.cell (World.block_lt_of_cell? W _ (h.2.2.2.1))).trans (h.2.2.2.1), (hb.cell (World.block_lt_of_cell? W _ (h.2.2.2.2.1))).trans (h.2.2.2.2.1), (hb.cell (World.block_lt_of_cell? W _ (h.2.2.2.2.2.1))).trans (h.2.2.2.2.2.1), (hb.cell (World.block_lt_of_cell? W _ (h.2.2.2.2.2.2))).trans (h.2.2.2.2.2.2)⟩
theorem bk6_set {w W : World} {p0 p1 p2 p3 p4 p5 : Addr} {v0 v1 v2 v3 v4 v5 : Value} {g i : Nat} {x : Value} (hg : w.heap.size ≤ g) (n0 : p0.block ≠ g) (n1 : p1.block ≠ g) (n2 : p2.block ≠ g) (n3 : p3.block ≠ g) (n4 : p4.block ≠ g) (n5 : p5.block ≠ g) (h : (Below w.heap.size w W ∧ World.cell? W p0 = some v0 ∧ World.cell? W p1 = some v1 ∧ World.cell? W p2 = some v2 ∧ World.cell? W p3 = some v3 ∧ World.cell? W p4 = some v4 ∧ World.cell? W p5 = some v5)) : (Below w.heap.size w (W.setCell ⟨g, i, none⟩ x) ∧ World.cell? (W.setCell ⟨g, i, none⟩ x) p0 = some v0 ∧ World.cell? (W.setCell ⟨g, i, none⟩ x) p1 = some v1 ∧ World.cell? (W.setCell ⟨g, i, none⟩ x) p2 = some v2 ∧ World.cell? (W.setCell ⟨g, i, none⟩ x) p3 = some v3 ∧ World.cell? (W.setCell ⟨g, i, none⟩ x) p4 = some v4 ∧ World.cell? (W.setCell ⟨g, i, none⟩ x) p5 = some v5) :=
  ⟨(h.1).setCell hg _, cell_far (h.2.1) n0, cell_far (h.2.2.1) n1, cell_far (h.2.2.2.1) n2, cell_far (h.2.2.2.2.1) n3, cell_far (h.2.2.2.2.2.1) n4, cell_far (h.2.2.2.2.2.2) n5⟩
theorem bk6_alloc {w W : World} {p0 p1 p2 p3 p4 p5 : Addr} {v0 v1 v2 v3 v4 v5 : Value} {o : Obj} (h : (Below w.heap.size w W ∧ World.cell? W p0 = some v0 ∧ World.cell? W p1 = some v1 ∧ World.cell? W p2 = some v2 ∧ World.cell? W p3 = some v3 ∧ World.cell? W p4 = some v4 ∧ World.cell? W p5 = some v5)) : (Below w.heap.size w (W.alloc o) ∧ World.cell? (W.alloc o) p0 = some v0 ∧ World.cell? (W.alloc o) p1 = some v1 ∧ World.cell? (W.alloc o) p2 = some v2 ∧ World.cell? (W.alloc o) p3 = some v3 ∧ World.cell? (W.alloc o) p4 = some v4 ∧ World.cell? (W.alloc o) p5 = some v5) := bk6_next (below_new W o) h
theorem bk7_start {w u : World} {p0 p1 p2 p3 p4 p5 p6 : Addr} {v0 v1 v2 v3 v4 v5 v6 : Value} (hb : Below w.heap.size w u) (h0 : u.cell? p0 = some v0) (h1 : u.cell? p1 = some v1) (h2 : u.cell? p2 = some v2) (h3 : u.cell? p3 = some v3) (h4 : u.cell? p4 = some v4) (h5 : u.cell? p5 = some v5) (h6 : u.cell? p6 = some v6) : (Below w.heap.size w u.drew ∧ World.cell? u.drew p0 = some v0 ∧ World.cell? u.drew p1 = some v1 ∧ World.cell? u.drew p2 = some v2 ∧ World.cell? u.drew p3 = some v3 ∧ World.cell? u.drew p4 = some v4 ∧ World.cell? u.drew p5 = some v5 ∧ World.cell? u.drew p6 = some v6) := ⟨hb.drew, h0, h1, h2, h3, h4, h5, h6⟩
theorem bk7_next {w W W1 : World} {p0 p1 p2 p3 p4 p5 p6 : Addr} {v0 v1 v2 v3 v4 v5 v6 : Value} (hb : Below W.heap.size W W1) (h : (Below w.heap.size w W ∧ World.cell? W p0 = some v0 ∧ World.cell? W p1 = some v1 ∧ World.cell? W p2 = some v2 ∧ World.cell? W p3 = some v3 ∧ World.cell? W p4 = some v4 ∧ World.cell? W p5 = some v5 ∧ World.cell? W p6 = some v6)) : (Below w.heap.size w W1 ∧ World.cell? W1 p0 = some v0 ∧ World.cell? W1 p1 = some v1 ∧ World.cell? W1 p2 = some v2 ∧ World.cell? W1 p3 = some v3 ∧ World.cell? W1 p4 = some v4 ∧ World.cell? W1 p5 = some v5 ∧ World.cell? W1 p6 = some v6) :=
  ⟨(h.1).trans (hb.mono (h.1).size), (hb.cell (World.block_lt_of_cell? W _ (h.2.1))).trans (h.2.1), (hb.cell (World.block_lt_of_cell? W _ (h.2.2.1))).trans (h.2.2.1), (hb.cell (World.block_lt_of_cell? W _ (h.2.2.2.1))).trans (h.2.2.2.1), (hb.cell (World.block_lt_of_cell? W _ (h.2.2.2.2.1))).trans (h.2.2.2.2.1), (hb.cell (World.block_lt_of_cell? W _ (h.2.2.2.2.2.1))).trans (h.2.2.2.2.2.1), (hb.cell (World.block_lt_of_cell? W _ (h.2.2.2.2.2.2.1))).trans (h.2.2.2.2.2.2.1), (hb.cell (World.block_lt_of_cell? W _ (h.2.2.2.2.2.2.2))).trans (h.2.2.2.2.2.2.2)⟩
theorem bk7_set {w W : World} {p0 p1 p2 p3 p4 p5 p6 : Addr} {v0 v1 v2 v3 v4 v5 v6 : Value} {g i : Nat} {x : Value} (hg : w.heap.size ≤ g) (n0 : p0.block ≠ g) (n1 : p1.block ≠ g) (n2 : p2.block ≠ g) (n3 : p3.block ≠ g) (n4 : p4.block ≠ g) (n5 : p5.block ≠ g) (n6 : p6.block ≠ g) (h : (Below w.heap.size w W ∧ World.cell? W p0 = some v0 ∧ World.cell? W p1 = some v1 ∧ World.cell? W p2 = some v2 ∧ World.cell? W p3 = some v3 ∧ World.cell? W p4 = some v4 ∧ World.cell? W p5 = some v5 ∧ World.cell? W p6 = some v6)) : (Below w.heap.size w (W.setCell ⟨g, i, none⟩ x) ∧ World.cell? (W.setCell ⟨g, i, none⟩ x) p0 = some v0 ∧ World.cell? (W.setCell ⟨g, i, none⟩ x) p1 = some v1 ∧ World.cell? (W.setCell ⟨g, i, none⟩ x) p2 = some v2 ∧ World.cell? (W.setCell ⟨g, i, none⟩ x) p3 = some v3 ∧ World.cell? (W.setCell ⟨g, i, none⟩ x) p4 = some v4 ∧ World.cell? (W.setCell ⟨g, i, none⟩ x) p5 = some v5 ∧ World.cell? (W.setCell ⟨g, i, none⟩ x) p6 = some v6) :=
  ⟨(h.1).setCell hg _, cell_far (h.2.1) n0, cell_far (h.2.2.1) n1, cell_far (h.2.2.2.1) n2, cell_far (h.2.2.2.2.1) n3, cell_far (h.2.2.2.2.2.1) n4, cell_far (h.2.2.2.2.2.2.1) n5, cell_far (h.2.2.2.2.2.2.2) n6⟩
theorem bk7_alloc {w W : World} {p0 p1 p2 p3 p4 p5 p6 : Addr} {v0 v1 v2 v3 v4 v5 v6 : Value} {o : Obj} (h : (Below w.heap.size w W ∧ World.cell? W p0 = some v0 ∧ World.cell? W p1 = some v1 ∧ World.cell? W p2 = some v2 ∧ World.cell? W p3 = some v3 ∧ World.cell? W p4 = some v4 ∧ World.cell? W p5 = some v5 ∧ World.cell? W p6 = some v6)) : (Below w.heap.size w (W.alloc o) ∧ World.cell? (W.alloc o) p0 = some v0 ∧ World.cell? (W.alloc o) p1 = some v1 ∧ World.cell? (W.alloc o) p2 = some v2 ∧ World.cell? (W.alloc o) p3 = some v3 ∧ World.cell? (W.alloc o) p4 = some v4 ∧ World.cell? (W.alloc o) p5 = some v5 ∧ World.cell? (W.alloc o) p6 = some v6) := bk7_next (below_new W o) h
theorem bk8_start {w u : World} {p0 p1 p2 p3 p4 p5 p6 p7 : Addr} {v0 v1 v2 v3 v4 v5 v6 v7 : Value} (hb : Below w.heap.size w u) (h0 : u.cell? p0 = some v0) (h1 : u.cell? p1 = some v1) (h2 : u.cell? p2 = some v2) (h3 : u.cell? p3 = some v3) (h4 : u.cell? p4 = some v4) (h5 : u.cell? p5 = some v5) (h6 : u.cell? p6 = some v6) (h7 : u.cell? p7 = some v7) : (Below w.heap.size w u.drew ∧ World.cell? u.drew p0 = some v0 ∧ World.cell? u.drew p1 = some v1 ∧ World.cell? u.drew p2 = some v2 ∧ World.cell? u.drew p3 = some v3 ∧ World.cell? u.drew p4 = some v4 ∧ World.cell? u.drew p5 = some v5 ∧ World.cell? u.drew p6 = some v6 ∧ World.cell? u.drew p7 = some v7) := ⟨hb.drew, h0, h1, h2, h3, h4, h5, h6, h7⟩
theorem bk8_next {w W W1 : World} {p0 p1 p2 p3 p4 p5 p6 p7 : Addr} {v0 v1 v2 v3 v4 v5 v6 v7 : Value} (hb : Below W.heap.size W W1) (h : (Below w.heap.size w W ∧ World.cell? W p0 = some v0 ∧ World.cell? W p1 = some v1 ∧ World.cell? W p2 = some v2 ∧ World.cell? W p3 = some v3 ∧ World.cell? W p4 = some v4 ∧ World.cell? W p5 = some v5 ∧ World.cell? W p6 = some v6 ∧ World.cell? W p7 = some v7)) : (Below w.heap.size w W1 ∧ World.cell? W1 p0 = some v0 ∧ World.cell? W1 p1 = some v1 ∧ World.cell? W1 p2 = some v2 ∧ World.cell? W1 p3 = some v3 ∧ World.cell? W1 p4 = some v4 ∧ World.cell? W1 p5 = some v5 ∧ World.cell? W1 p6 = some v6 ∧ World.cell? W1 p7 = some v7) :=
  ⟨(h.1).trans (hb.mono (h.1).size), (hb.cell (World.block_lt_of_cell? W _ (h.2.1))).trans (h.2.1), (hb.cell (World.block_lt_of_cell? W _ (h.2.2.1))).trans (h.2.2.1), (hb.cell (World.block_lt_of_cell? W _ (h.2.2.2.1))).trans (h.2.2.2.1), (hb.cell (World.block_lt_of_cell? W _ (h.2.2.2.2.1))).trans (h.2.2.2.2.1), (hb.cell (World.block_lt_of_cell? W _ (h.2.2.2.2.2.1))).trans (h.2.2.2.2.2.1), (hb.cell (World.block_lt_of_cell? W _ (h.2.2.2.2.2.2.1))).trans (h.2.2.2.2.2.2.1), (hb.cell (World.block_lt_of_cell? W _ (h.2.2.2.2.2.2.2.1))).trans (h.2.2.2.2.2.2.2.1), (hb.cell (World.block_lt_of_cell? W _ (h.2.2.2.2.2.2.2.2))).trans (h.2.2.2.2.2.2.2.2)⟩
theorem bk8_set {w W : World} {p0 p1 p2 p3 p4 p5 p6 p7 : Addr} {v0 v1 v2 v3 v4 v5 v6 v7 : Value} {g i : Nat} {x : Value} (hg : w.heap.size ≤ g) (n0 : p0.block ≠ g) (n1 : p1.block ≠ g) (n2 : p2.block ≠ g) (n3 : p3.block ≠ g) (n4 : p4.block ≠ g) (n5 : p5.block ≠ g) (n6 : p6.block ≠ g) (n7 : p7.block ≠ g) (h : (Below w.heap.size w W ∧ World.cell? W p0 = some v0 ∧ World.cell? W p1 = some v1 ∧ World.cell? W p2 = some v2 ∧ World.cell? W p3 = some v3 ∧ World.cell? W p4 = some v4 ∧ World.cell? W p5 = some v5 ∧ World.cell? W p6 = some v6 ∧ World.cell? W p7 = some v7)) : (Below w.heap.size w (W.setCell ⟨g, i, none⟩ x) ∧ World.cell? (W.setCell ⟨g, i, none⟩ x) p0 = some v0 ∧ World.cell? (W.setCell ⟨g, i, none⟩ x) p1 = some v1 ∧ World.cell? (W.setCell ⟨g, i, none⟩ x) p2 = some v2 ∧ World.cell? (W.setCell ⟨g, i, none⟩ x) p3 = some v3 ∧ World.cell? (W.setCell ⟨g, i, none⟩ x) p4 = some v4 ∧ World.cell? (W.setCell ⟨g, i, none⟩ x) p5 = some v5 ∧ World.cell? (W.setCell ⟨g, i, none⟩ x) p6 = some v6 ∧ World.cell? (W.setCell ⟨g, i, none⟩ x) p7 = some v7) :=
  ⟨(h.1).setCell hg _, cell_far (h.2.1) n0, cell_far (h.2.2.1) n1, cell_far (h.2.2.2.1) n2, cell_far (h.2.2.2.2.1) n3, cell_far (h.2.2.2.2.2.1) n4, cell_far (h.2.2.2.2.2.2.1) n5, cell_far (h.2.2.2.2.2.2.2.1) n6, cell_far (h.2.2.2.2.2.2.2.2) n7⟩
theorem bk8_alloc {w W : World} {p0 p1 p2 p3 p4 p5 p6 p7 : Addr} {v0 v1 v2 v3 v4 v5 v6 v7 : Value} {o : Obj} (h : (Below w.heap.size w W ∧ World.cell? W p0 = some v0 ∧ World.cell? W p1 = some v1 ∧ World.cell? W p2 = some v2 ∧ World.cell? W p3 = some v3 ∧ World.cell? W p4 = some v4 ∧ World.cell? W p5 = some v5 ∧ World.cell? W p6 = some v6 ∧ World.cell? W p7 = some v7)) : (Below w.heap.size w (W.alloc o) ∧ World.cell? (W.alloc o) p0 = some v0 ∧ World.cell? (W.alloc o) p1 = some v1 ∧ World.cell? (W.alloc o) p2 = some v2 ∧ World.cell? (W.alloc o) p3 = some v3 ∧ World.cell? (W.alloc o) p4 = some v4 ∧ World.cell? (W.alloc o) p5 = some v5 ∧ World.cell? (W.alloc o) p6 = some v6 ∧ World.cell? (W.alloc o) p7 = some v7) := bk8_next (below_new W o) h
end Go.Proofs.Ytnbomleieianoaa

/- Small words on memory, continued: appending a whole list inside a region that draws its order; parts of slices. -/
namespace Go.Proofs.Ytnbomleieianoaa
open Go.RowKit

theorem nth_take {xs : List Int} {k i : Nat} (h : i < k) : nth (xs.take k) i = nth xs i := by unfold nth; simp [List.getD, h]
theorem nth_drop (xs : List Int) (k i : Nat) : nth (xs.drop k) i = nth xs (k + i) := by unfold nth; simp [List.getD, List.getElem?_drop]
theorem Ints.take {w : World} {a : Option Addr} {n : Nat} {xs : List Int} (h : Ints w a n xs) {k : Nat} (hk : k ≤ n) : Ints w a k (xs.take k) :=
  ⟨by rw [List.length_take, h.1]; omega, fun h0 => by
    obtain ⟨b, off, rfl, hlt, hc⟩ := h.2 (by omega)
    exact ⟨b, off, rfl, hlt, fun j hj => by rw [nth_take hj]; exact hc j (by omega)⟩⟩
theorem Ints.drop {w : World} {b off n : Nat} {xs : List Int} (h : Ints w (some ⟨b, off, none⟩) n xs) (k : Nat) : Ints w (some ⟨b, off + k, none⟩) (n - k) (xs.drop k) :=
  ⟨by rw [List.length_drop, h.1], fun h0 => by
    obtain ⟨b', off', he, hlt, hc⟩ := h.2 (by omega)
    cases he
    exact ⟨b, off + k, rfl, hlt, fun j hj => by rw [nth_drop, Nat.add_assoc]; exact hc (k + j) (by omega)⟩⟩
theorem ints_nil (w : World) (a : Option Addr) : Ints w a 0 [] := ⟨rfl, fun h => by omega⟩
/-- 'append(xs, ys...)' onto a slice of ints that the call owns, as a run. -/
theorem run_appI {w : World} (ty : TypeId) (base : Nat) (v : Value) (xs : List Int) (hown : Own w base v xs) (ad : Option Addr) (m c : Nat) (ys : List Int) (hc : ad = none → c = 0) (hy : Ints w ad m ys) (hl : xs.length + m ≤ 17592186040320) (hbase : base ≤ w.heap.size) :
    ∃ v' w', (Builtin.append_ #[24, 24] ty #[v, .slice ad m c]).run Try.prog w = .ok v' w' ∧ Own w' base v' (xs ++ ys) ∧ Below base w w' ∧ Moved w v w' v' := by
  obtain ⟨i0, hi0, hz0, hz1, hz2⟩ := info_parts info_int
  have hm := hy.1
  cases ad with
  | none =>
    obtain rfl : m = 0 := by
      cases m with
      | zero => rfl
      | succ m => obtain ⟨b, off, he, _⟩ := hy.2 (by omega); cases he
    obtain rfl := hc rfl
    have : ys = [] := List.length_eq_zero_iff.1 hm
    exact ⟨v, w, run_append_owned_none (P := Try.prog) w base 24 ty 3 i0 1 Try.underlying24 hi0 v _ _ hown, by rw [this, List.append_nil]; exact hown, Below.refl _ _, Nat.le_refl _, fun g _ h => ⟨h, rfl⟩⟩
  | some p =>
    have hcell : ∀ j, j < m → w.cell? (p.add j) = some (.int .i64 (nth ys j)) := fun j hj => by
      obtain ⟨b, off, he, _, hcell⟩ := hy.2 (by omega)
      cases he
      rw [show (⟨b, off, none⟩ : Addr).add j = ⟨b, off + j, none⟩ by unfold Addr.add; split <;> simp_all]
      exact hcell j hj
    obtain ⟨v', w', hr, h1, h2, _, h4⟩ := run_append_own_at (P := Try.prog) w base 24 ty 3 i0 (.int .i64 0) 1 8 Try.underlying24 hi0 hz0 hz1 hz2 rfl (by decide) v xs.length (cs xs) hown p m c (cs ys) (by rw [cs_length]; omega)
      (fun j u hu => by
        have hj : j < m := by
          have := (List.getElem?_eq_some_iff.1 hu).1
          rw [cs_length] at this; omega
        rw [cs_get? _ _ (by omega)] at hu
        rw [hcell j hj]; exact hu) (cs_one ys) (by simp only [maxLen]; omega) (by omega) hbase
    refine ⟨v', w', hr, ?_, (Below.refl _ _).grown h2 hbase fun k hk => (World.ownsRow.lt hown k hk).1, h2.size, fun g hg hne => ⟨?_, h2.block g hg (fun e => hne e.symm)⟩⟩
    · unfold Own
      rw [← cs_append, List.length_append, hm]
      exact h1
    · rcases h4 with h4 | h4
      · rw [h4]; exact hne
      · rw [h4]; intro e; cases e; omega
/-- The same at an operation of a region that draws its order. -/
theorem step_appI {ops : Array Oper} {o : Oper} {a : Act} {K : Act → World → Prop} {Q : Exit → Act → World → Prop} {E : Prop} {w : World} (hgd : o.guard = none) (s x : Operand)
    (ho : o.op = .call { callee := .builtin .append, args := #[s, x], argTypes := #[24, 24] })
    (base : Nat) (v : Value) (xs : List Int) (hs : a.eval s = v) (hown : Own w base v xs) (ad : Option Addr) (m c : Nat) (ys : List Int) (hx : a.eval x = .slice ad m c) (hc : ad = none → c = 0) (hy : Ints w ad m ys) (hl : xs.length + m ≤ 17592186040320) (hbase : base ≤ w.heap.size)
    (h : ∀ v' w', Own w' base v' (xs ++ ys) → Below base w w' → Moved w v w' v' → K (a.put o.dst v') w') :
    if Region.wanted o (yielded ops a.tmps) = true then Oper.wp Try.prog o a w K Q else E := by
  have hw : Region.wanted o (yielded ops a.tmps) = true := by simp [Region.wanted, hgd]
  rw [if_pos hw]
  obtain ⟨v', w', hr, h1, h2, h3⟩ := run_appI o.type base v xs hown ad m c ys hc hy hl hbase
  unfold Oper.wp execOp
  simp only [ho, resolve, invoke, builtin, Sem.run_bind, Sem.run_pure, Result.andThen_ok, List.map_toArray, List.map_cons, List.map_nil, hs, hx, hr]
  exact h v' w' h1 h2 h3
/-- Another slice that the call owns, behind an append to v. -/
theorem Own.moved {w w' : World} {base : Nat} {u v v' : Value} {xs : List Int} (h : Own w base u xs) (hm : Moved w v w' v') (ha : ∀ g, u.ownBlock = some g → v.ownBlock ≠ some g) : Own w' base u xs := by
  unfold Own World.ownsRow at *
  refine ⟨h.1, ?_⟩
  rcases h.2 with h1 | ⟨g, cp, cur, h1, h2, h3, h4⟩
  · exact .inl h1
  · have hlt : g < w.heap.size := by
      rcases Nat.lt_or_ge g w.heap.size with hl | hl
      · exact hl
      · rw [Array.getElem?_eq_none hl] at h3; cases h3
    exact .inr ⟨g, cp, cur, h1, h2, by rw [(hm.2 g hlt (ha g (by rw [h1]; rfl))).2]; exact h3, h4⟩
end Go.Proofs.Ytnbomleieianoaa

/- Contracts of the reference on trees: ways, the first node on a way, numbers put to their places. -/
namespace Go.Proofs.Ytnbomleieianoaa
open Go.RowKit

def hasB (l : List Int) (y : Int) : Bool := l.any (· == y)
theorem has_t {l : List Int} {y : Int} {i : Nat} (hi : i < l.length) (h : nth l i = y) : hasB l y = true := by
  unfold hasB; rw [List.any_eq_true]
  exact ⟨nth l i, nth_mem hi, by simp [h]⟩
theorem has_f {l : List Int} {y : Int} (h : ∀ i, i < l.length → ¬ nth l i = y) : hasB l y = false := by
  cases hb : hasB l y
  · rfl
  · unfold hasB at hb
    rw [List.any_eq_true] at hb
    obtain ⟨z, hz, he⟩ := hb
    obtain ⟨i, hi, rfl⟩ := List.mem_iff_getElem.1 hz
    exact absurd (by rw [nth_lt hi]; simpa using he) (h i hi)
set_option maxHeartbeats 400000 in
theorem spec_l1Has (a : Option Addr) (n cap : Nat) (l : List Int) (y : Int) (w : World) (hn : n ≤ 1048576) (h : Ints w a n l) :
    Calls Try.prog 164 #[.slice a n cap, .int .i64 y] w fun e w' => e = .returned (.bool (hasB l y)) ∧ w = w' := by
  have hl := Lib.hid h.1
  have H := Lib.hid h
  clear h
  go_enter Try.func164, Try.ntmps164
  go_wp2_with fail
  go_loop [5] (fun v5 => ∃ i : Nat, i ≤ n ∧ v5 = .int .i64 (i : Int) ∧ ∀ j, j < i → ¬ nth l j = y) (fun v5 => n - (intOf v5).toNat)
  case atStart => exact ⟨0, Nat.zero_le _, rfl, fun j hj => by omega⟩
  case round =>
    obtain ⟨i, hi, rfl, hall⟩ := hrel
    have Hall := Lib.hid hall
    clear hall
    by_cases hlt : (i : Int) < n
    · obtain ⟨b, off, rfl, hc⟩ := H.out.at (i := i) (Below.refl _ _) (by omega)
      by_cases he : nth l i = y
      · have Hv := Lib.hid (has_t (i := i) (by have := hl.out; omega) he)
        rw [he] at hc
        clear he
        go_wp2_with fail
        go_ret
        exact ⟨by rw [Hv.out]; rfl, rfl⟩
      · have Hne := Lib.hid he
        generalize hu : nth l i = u at hc he
        have heb : (u == y) = false := by rw [beq_eq_false_iff_ne]; exact he
        clear hu
        go_wp2_with fail
        go_round
        case rel => exact ⟨i + 1, by omega, by go_num, fun j hj => by
          by_cases e : j = i
          · subst e; exact Hne.out
          · exact Hall.out j (by omega)⟩
        case measure => simp [intOf]; omega
    · obtain rfl : i = n := by omega
      have Hv := Lib.hid (has_f (l := l) (y := y) fun j hj => Hall.out j (by have := hl.out; omega))
      go_wp2_with fail
      go_ret
      exact ⟨by rw [Hv.out]; rfl, rfl⟩
theorem own_lit1 (w : World) (base : Nat) (u : Int) (hb : base ≤ w.heap.size) : Own (w.alloc (.cells #[.int .i64 u] 3)) base (.slice (some ⟨w.heap.size, 0, none⟩) 1 1) [u] := by
  have := World.ownsRow_lit (size := 1) (e := 3) (base := base) w #[.int .i64 u] 1 hb (by simp [maxLen]) (by simp)
  simpa [Own, cs] using this
end Go.Proofs.Ytnbomleieianoaa

/- Contract of the reference: a number put to its place, once. -/
namespace Go.Proofs.Ytnbomleieianoaa
open Go.RowKit

end Go.Proofs.Ytnbomleieianoaa

/- Contracts of the reference: the first node on a way, the rule of a list of stops. -/
namespace Go.Proofs.Ytnbomleieianoaa
open Go.RowKit

/-- What a list of bools says of a node. -/
def bS (bs : List Bool) (y : Int) : Bool := decide (0 ≤ y) && Bo.nth bs y.toNat
theorem has_filt {bs : List Bool} {k : Nat} {y : Int} (h : y < k) : hasB (filt (Bo.nth bs) k) y = bS bs y := by
  unfold hasB bS
  rw [Bool.eq_iff_iff, List.any_eq_true]
  constructor
  · rintro ⟨z, hz, he⟩
    obtain ⟨i, hi, hb, rfl⟩ := mem_filt.1 hz
    obtain rfl : (i : Int) = y := by simpa using he
    simp [hb]
  · intro hb
    simp only [Bool.and_eq_true, decide_eq_true_eq] at hb
    exact ⟨y, mem_filt.2 ⟨y.toNat, by omega, hb.2, by omega⟩, by simp⟩
theorem stopL_congr {S S' : Int → Bool} : ∀ {xs : List Int}, (∀ y, y ∈ xs → S y = S' y) → stopL S xs = stopL S' xs
  | [], _ => rfl
  | x :: xs, h => by rw [stopL, stopL, h x (by simp), stopL_congr fun y hy => h y (by simp [hy])]
theorem stop_congr {ps : List Int} (h : Pa ps) {S S' : Int → Bool} (hS : ∀ y : Nat, y < ps.length → S y = S' y) {x : Nat} (hx : x < ps.length) : stop ps S x = stop ps S' x := stopL_congr fun y hy => by
  obtain ⟨j, hj, rfl⟩ := way_mem h x hx y hy
  exact hS j (by omega)
theorem isStop_nil (ps : List Int) (S : Int → Bool) (k : Nat) : filt (isStop ps S []) k = [] := filt_none fun _ _ => rfl
theorem isStop_app (ps : List Int) (S : Int → Bool) (es : List Int) (e : Int) (y : Nat) : isStop ps S (es ++ [e]) y = (isStop ps S es y || stop ps S e.toNat == (y : Int)) := by
  unfold isStop; rw [List.any_append]; simp
theorem stop_end {ps : List Int} (h : Pa ps) (S : Int → Bool) {x : Nat} (hx : x < ps.length) (hS : S x = true) : 0 ≤ stop ps S x := by
  have h2 : behB ps S x = true := by
    by_cases h0 : x = 0
    · subst h0; rw [(beh_zero ps S).1]; exact hS
    · have := beh_up h S (x := x) (by omega) hx
      cases hb : behB ps S (par ps x)
      · rw [(this.2 hb).1]; exact hS
      · exact (this.1 hb).1
  exact of_decide_eq_true h2
end Go.Proofs.Ytnbomleieianoaa

/- Words for drawing lists and trees: what the cursor and other draws leave. Contract: children of a node of any tree. No conditions but those stated. -/
namespace Go.Proofs.Ytnbomleieianoaa
open Go.RowKit

theorem own_other {w w' : World} {base g : Nat} {v : Value} {xs : List Int} (h : Own w base v xs) (hg : w.grownBy w' (some g)) (hlt : g < base) : Own w' base v xs :=
  h.grown hg (by
    cases hb : v.ownBlock with
    | none => exact .inl rfl
    | some k => refine .inr fun e => ?_; cases e; have := (World.ownsRow.lt h g hb).1; omega)
theorem pair_other {w w' : World} {b g : Nat} {x y : Value} (h : Pair w b x y) (hg : w.grownBy w' (some g)) (hne : b ≠ g) : Pair w' b x y := by
  have hb : w'.heap[b]? = w.heap[b]? := hg.block b h.lt (by simpa using hne)
  exact ⟨(World.cell?_of_block (a := ⟨b, 0, none⟩) hb).trans h.c0, (World.cell?_of_block (a := ⟨b, 1, none⟩) hb).trans h.c1, (World.frozen?_of_block (a := ⟨b, 0, none⟩) hb).trans h.f0, (World.frozen?_of_block (a := ⟨b, 1, none⟩) hb).trans h.f1⟩
theorem pair_moved {w w' : World} {b : Nat} {x y v v' : Value} (h : Pair w b x y) (hm : Moved w v w' v') (hne : v.ownBlock ≠ some b) : Pair w' b x y := by
  have hb : w'.heap[b]? = w.heap[b]? := (hm.2 b h.lt hne).2
  exact ⟨(World.cell?_of_block (a := ⟨b, 0, none⟩) hb).trans h.c0, (World.cell?_of_block (a := ⟨b, 1, none⟩) hb).trans h.c1, (World.frozen?_of_block (a := ⟨b, 0, none⟩) hb).trans h.f0, (World.frozen?_of_block (a := ⟨b, 1, none⟩) hb).trans h.f1⟩
/-- The cursor at g, from the world w0 on: but for g's block all that was there at w0 has stayed. -/
structure Cq (w0 w : World) (g : Nat) (a : Option Addr) (n cap : Nat) (lim : Int) : Prop where
  cur : Cur w g a n cap lim
  code : 0 < n → ∀ b off, a = some ⟨b, off, none⟩ → b < w0.heap.size
  glt : g < w0.heap.size
  grow : w0.grownBy w (some g)
theorem Cq.start {w : World} {g : Nat} {a : Option Addr} {n cap : Nat} {lim : Int} (h : Cur w g a n cap lim) : Cq w w g a n cap lim :=
  ⟨h, fun hn b off he => by
    obtain ⟨b', off', he', hlt, _⟩ := h.code.2 hn
    rw [he] at he'
    cases he'
    exact hlt, h.lt, World.grownBy.refl _ _⟩
theorem Cq.mono {w0 w : World} {g : Nat} {a : Option Addr} {n cap : Nat} {lim lim' : Int} (h : Cq w0 w g a n cap lim) (hl : lim ≤ lim') : Cq w0 w g a n cap lim' := ⟨h.cur.mono hl, h.code, h.glt, h.grow⟩
theorem Cq.step {w0 w w' : World} {g : Nat} {a : Option Addr} {n cap : Nat} {lim lim' : Int} (h : Cq w0 w g a n cap lim) (hc : Cur w' g a n cap lim') (hg : w.grownBy w' (some g)) : Cq w0 w' g a n cap lim' := ⟨hc, h.code, h.glt, h.grow.trans hg⟩
theorem grown_below {w0 w w' : World} {r : Option Nat} (h : w0.grownBy w r) (hb : Below w0.heap.size w w') : w0.grownBy w' r :=
  ⟨hb.os.trans h.os, hb.tape.trans h.tape, hb.output.trans h.output, Nat.le_trans h.size hb.size, fun k hk hr => (hb.block k hk).trans (h.block k hk hr)⟩
theorem Cq.up {w0 w w' : World} {g : Nat} {a : Option Addr} {n cap : Nat} {lim : Int} (h : Cq w0 w g a n cap lim) (hb : Below w0.heap.size w w') : Cq w0 w' g a n cap lim := by
  have hc : ∀ i : Nat, w'.cell? ⟨g, i, none⟩ = w.cell? ⟨g, i, none⟩ := fun i => hb.cell (p := ⟨g, i, none⟩) h.glt
  have hf : ∀ i : Nat, w'.frozen? ⟨g, i, none⟩ = w.frozen? ⟨g, i, none⟩ := fun i => hb.frozen (p := ⟨g, i, none⟩) h.glt
  refine ⟨⟨⟨h.cur.code.1, fun hn => ?_⟩, h.cur.other, (hc 0).trans h.cur.c0, ?_, ?_, (hf 1).trans h.cur.f1, (hf 2).trans h.cur.f2⟩, h.code, h.glt, grown_below h.grow hb⟩
  · obtain ⟨b, off, he, hlt, hx⟩ := h.cur.code.2 hn
    refine ⟨b, off, he, Nat.lt_of_lt_of_le hlt hb.size, fun j hj => ?_⟩
    obtain ⟨x, h1, h2⟩ := hx j hj
    exact ⟨x, (hb.cell (p := ⟨b, off + j, none⟩) (h.code hn b off he)).trans h1, h2⟩
  · obtain ⟨k, h1, h2⟩ := h.cur.c1; exact ⟨k, (hc 1).trans h1, h2⟩
  · obtain ⟨s, h1⟩ := h.cur.c2; exact ⟨s, (hc 2).trans h1⟩
theorem Cq.below {w0 w w' : World} {g : Nat} {a : Option Addr} {n cap : Nat} {lim : Int} (h : Cq w0 w g a n cap lim) (hb : Below w.heap.size w w') : Cq w0 w' g a n cap lim := h.up (hb.mono h.grow.size)
theorem Cq.size {w0 w : World} {g : Nat} {a : Option Addr} {n cap : Nat} {lim : Int} (h : Cq w0 w g a n cap lim) : w0.heap.size ≤ w.heap.size := h.grow.size
/-- A tree's two slices, of the call's own from base on. -/
structure DTre (w : World) (base : Nat) (aP : Option Addr) (nP cP : Nat) (aW : Option Addr) (nW cW : Nat) (ps ws : List Int) : Prop where
  p : Own w base (.slice aP nP cP) ps
  w : Own w base (.slice aW nW cW) ws
  pn : nP ≤ 30
  wn : nW ≤ 30
theorem DTre.tre {w : World} {base : Nat} {aP : Option Addr} {nP cP : Nat} {aW : Option Addr} {nW cW : Nat} {ps ws : List Int} (h : DTre w base aP nP cP aW nW cW ps ws) : Tre w aP nP cP aW nW cW ps ws :=
  ⟨h.p.ints, h.w.ints, by have := h.pn; omega, by have := h.wn; omega, h.p.cap.2.1, h.w.cap.2.1⟩
theorem DTre.below {w w' : World} {base : Nat} {aP : Option Addr} {nP cP : Nat} {aW : Option Addr} {nW cW : Nat} {ps ws : List Int} (h : DTre w base aP nP cP aW nW cW ps ws) (hb : Below w.heap.size w w') : DTre w' base aP nP cP aW nW cW ps ws :=
  ⟨h.p.below hb, h.w.below hb, h.pn, h.wn⟩
theorem DTre.other {w w' : World} {base g : Nat} {aP : Option Addr} {nP cP : Nat} {aW : Option Addr} {nW cW : Nat} {ps ws : List Int} (h : DTre w base aP nP cP aW nW cW ps ws) (hg : w.grownBy w' (some g)) (hlt : g < base) : DTre w' base aP nP cP aW nW cW ps ws :=
  ⟨own_other h.p hg hlt, own_other h.w hg hlt, h.pn, h.wn⟩
theorem DTre.mono {w : World} {base base' : Nat} {aP : Option Addr} {nP cP : Nat} {aW : Option Addr} {nW cW : Nat} {ps ws : List Int} (h : DTre w base aP nP cP aW nW cW ps ws) (hb : base' ≤ base) : DTre w base' aP nP cP aW nW cW ps ws :=
  ⟨h.p.mono hb, h.w.mono hb, h.pn, h.wn⟩
theorem Own.lit {w : World} {base : Nat} {v : Value} {xs : List Int} (h : Own w base v xs) (o : Obj) : Own (w.alloc o) base v xs := h.below (below_new w o)
theorem Own.drew {w : World} {base : Nat} {v : Value} {xs : List Int} (h : Own w base v xs) : Own w.drew base v xs := h.below (Below.refl _ _).drew
theorem Ints.drew {w : World} {a : Option Addr} {n : Nat} {xs : List Int} (h : Ints w a n xs) : Ints w.drew a n xs := h.below (Below.refl _ _).drew
theorem Cq.lit {w0 w : World} {g : Nat} {a : Option Addr} {n cap : Nat} {lim : Int} (h : Cq w0 w g a n cap lim) (o : Obj) : Cq w0 (w.alloc o) g a n cap lim := h.below (below_new w o)
theorem Cq.drew {w0 w : World} {g : Nat} {a : Option Addr} {n cap : Nat} {lim : Int} (h : Cq w0 w g a n cap lim) : Cq w0 w.drew g a n cap lim := h.below (Below.refl _ _).drew
theorem Moved.size {w w' : World} {v v' : Value} (h : Moved w v w' v') : w.heap.size ≤ w'.heap.size := h.1
/-- Some list of a few numbers, of the call's own. -/
def OwnA (w : World) (base : Nat) (v : Value) (m : Nat) : Prop := ∃ xs, Own w base v xs ∧ xs.length ≤ m
set_option maxRecDepth 100000 in
set_option maxHeartbeats 1000000 in
theorem spec_l2KidsA (aP : Option Addr) (nP cP : Nat) (aW : Option Addr) (nW cW : Nat) (ps ws : List Int) (X : Nat) (w : World) (h : Tre w aP nP cP aW nW cW ps ws) (hn : nP ≤ 30) (hx : X < nP) :
    Calls Try.prog 138 #[.agg #[.slice aP nP cP, .slice aW nW cW], .int .i64 (X : Int)] w fun e w' => ∃ v, e = .returned v ∧ OwnA w' w.heap.size v 30 ∧ Below w.heap.size w w' := by
  have hl := h.p.1
  have hb1 := below_new w (.cells #[.slice aP nP cP, .slice aW nW cW] 26)
  have hP1 := Lib.hid (Pair.new w (.slice aP nP cP) (.slice aW nW cW) 26)
  have H := Lib.hid h
  have Hl := Lib.hid hl
  clear h hl
  go_enter Try.func138, Try.ntmps138
  go_wp2_with fail
  have hnil := own_nil0 (w.alloc (.cells #[.slice aP nP cP, .slice aW nW cW] 26))
  rw [show (w.alloc (.cells #[.slice aP nP cP, .slice aW nW cW] 26)).heap.size = w.heap.size + 1 by simp] at hnil
  have hb2 : Below w.heap.size w ((w.alloc (.cells #[.slice aP nP cP, .slice aW nW cW] 26)).alloc (.cells #[] 3)) := hb1.alloc (by simp) _
  have hP2 := Lib.hid (hP1.out.alloc (.cells #[] 3))
  generalize ((w.alloc (.cells #[.slice aP nP cP, .slice aW nW cW] 26)).alloc (.cells #[] 3)) = w2 at *
  clear hP1 hb1
  go_loopw [5, 6] (fun v5 v6 wr => ∃ (k : Nat) (xs : List Int), X + 1 ≤ k ∧ k ≤ nP ∧ v6 = .int .i64 (k : Int) ∧ Own wr (w.heap.size + 1) v5 xs ∧ xs.length ≤ k ∧ Pair wr w.heap.size (.slice aP nP cP) (.slice aW nW cW) ∧ Below w.heap.size w wr) (fun _ v6 _ => nP - (intOf v6).toNat)
  case atStart => exact ⟨X + 1, [], Nat.le_refl _, by omega, by go_num, hnil, by simp, hP2.out, hb2⟩
  case round =>
    obtain ⟨k, xs, hk1, hk2, rfl, hown, hlen, hP, hbel⟩ := hrel
    clear hnil hP2 hb2
    have c0 := hP.c0
    have HP := Lib.hid hP
    clear hP
    by_cases hlt : (k : Int) < nP
    · obtain ⟨b, off, rfl, hc⟩ := H.out.p.at (i := k) hbel (by omega)
      have hle : w.heap.size + 1 ≤ wr.heap.size := by have := HP.out.lt; omega
      cases he : (nth ps k == (X : Int))
      · generalize nth ps k = q at *
        go_wp2_with fail
        go_roundw
        case rel => exact ⟨k + 1, xs, by omega, by omega, by go_num, hown, by omega, HP.out, hbel⟩
        case measure => simp [intOf]; omega
      · generalize nth ps k = q at *
        go_wp2_with (at_builtin; refine wp_push (.tmp 24) (.tmp 26) rfl rfl (w.heap.size + 1) _ _ rfl hown rfl (by omega) hle ?_; intro v' w' ho hb)
        go_roundw
        case rel => exact ⟨k + 1, _, by omega, by omega, by go_num, ho, by simp; omega, HP.out.up hb (by omega), hbel.trans (hb.mono (by omega))⟩
        case measure => simp [intOf]; omega
    · obtain rfl : k = nP := by omega
      go_wp2_with fail
      go_ret
      exact ⟨_, rfl, ⟨xs, hown.mono (by omega), by omega⟩, hbel⟩
end Go.Proofs.Ytnbomleieianoaa

/- Contracts: pays drawn by the cursor. No conditions but those stated. -/
namespace Go.Proofs.Ytnbomleieianoaa
open Go.RowKit

theorem OwnA.other {w w' : World} {base g m : Nat} {v : Value} (h : OwnA w base v m) (hg : w.grownBy w' (some g)) (hlt : g < base) : OwnA w' base v m := by
  obtain ⟨xs, h1, h2⟩ := h; exact ⟨xs, own_other h1 hg hlt, h2⟩
theorem OwnA.below {w w' : World} {base m : Nat} {v : Value} (h : OwnA w base v m) (hb : Below w.heap.size w w') : OwnA w' base v m := by
  obtain ⟨xs, h1, h2⟩ := h; exact ⟨xs, h1.below hb, h2⟩
theorem OwnA.mono {w : World} {base base' m : Nat} {v : Value} (h : OwnA w base v m) (hb : base' ≤ base) : OwnA w base' v m := by
  obtain ⟨xs, h1, h2⟩ := h; exact ⟨xs, h1.mono hb, h2⟩
theorem OwnA.more {w : World} {base m m' : Nat} {v : Value} (h : OwnA w base v m) (hb : m ≤ m') : OwnA w base v m' := by
  obtain ⟨xs, h1, h2⟩ := h; exact ⟨xs, h1, by omega⟩
set_option maxRecDepth 100000 in
set_option maxHeartbeats 1000000 in
theorem spec_somePays (g : Nat) (a : Option Addr) (n cap : Nat) (lim : Int) (m : Nat) (w : World) (hl : lim ≤ 100000) (hm : m ≤ 30) (h : Cur w g a n cap lim) :
    Calls Try.prog 153 #[.pointer (some ⟨g, 0, none⟩), .int .i64 (m : Int)] w fun e w' => (∃ v, e = .returned v ∧ OwnA w' w.heap.size v 31) ∧ Cur w' g a n cap (lim + 200) ∧ w.grownBy w' (some g) := by
  have C0 := Lib.hid ((Cq.start h).lit (.cells #[] 3))
  have HN := Lib.hid (own_nil0 w)
  clear h
  go_enter Try.func153, Try.ntmps153
  go_wp2_with fail
  have hs0 : (w.alloc (.cells #[] 3)).heap.size = w.heap.size + 1 := by simp
  generalize (w.alloc (.cells #[] 3)) = w0 at *
  rw [← hs0]
  have hsz : w.heap.size < w0.heap.size := by omega
  clear hs0
  refine (among_lit g a n cap lim [3, 10, 30] _ 3 _ (by omega) rfl rfl (by omega) C0.out.cur).mono ?_
  rintro e w1 ⟨⟨i, hi, rfl⟩, c1, g1⟩
  have hB : 0 ≤ nth [3, 10, 30] i ∧ nth [3, 10, 30] i ≤ 30 := by
    rcases (show i = 0 ∨ i = 1 ∨ i = 2 by omega) with rfl | rfl | rfl <;> decide
  generalize nth [3, 10, 30] i = B at *
  have C1 := Lib.hid (C0.out.step c1 g1)
  have O1 := Lib.hid (own_other HN.out g1 C0.out.glt)
  clear c1 g1 HN
  generalize (Value.slice (some ⟨w.heap.size, 0, none⟩) 0 0) = v0 at *
  go_wp2_with fail
  go_loopw [5, 7] (fun v5 v7 wr => ∃ (k : Nat) (xs : List Int), k ≤ m ∧ v7 = .int .i64 (k : Int) ∧ Own wr w.heap.size v5 xs ∧ xs.length = k ∧ Cq w wr g a n cap (lim + 2 + 2 * (k : Int))) (fun _ v7 _ => m - (intOf v7).toNat)
  case atStart => exact ⟨0, [], Nat.zero_le _, rfl, O1.out, rfl, C1.out.mono (by omega)⟩
  case round =>
    clear C1 O1 C0
    obtain ⟨k, xs, hk, rfl, ho, hxl, cq⟩ := hrel
    have O := Lib.hid ho
    have C := Lib.hid cq
    have hszr := cq.size
    have Hxl := Lib.hid hxl
    have hxl2 : xs.length ≤ 30 := by omega
    clear ho cq hxl
    by_cases hlt : (k : Int) < m
    · have k1 : IntKind.i64.wrap (2 * B) = 2 * B := IntWalk.i64_in _ (by omega)
      have k2 : IntKind.i64.wrap (2 * B + 1) = 2 * B + 1 := IntWalk.i64_in _ (by omega)
      go_wp2_with fail
      refine (spec_pick g a n cap (lim + 2 + 2 * (k : Int)) _ _ (by omega) (by omega) C.out.cur).mono ?_
      rintro e w2 ⟨⟨x, rfl, -, -⟩, c2, g2⟩
      have C2 := Lib.hid (C.out.step c2 g2)
      have O2 := Lib.hid (own_other O.out g2 C.out.glt)
      have hsz2 := C2.out.size
      clear c2 g2
      generalize hu : IntKind.i64.wrap (x - B) = u
      have Hu := Lib.hid hu
      clear hu
      go_wp2_with (at_builtin; refine wp_push (.tmp 17) (.tmp 25) rfl rfl w.heap.size _ _ rfl O2.out rfl (by omega) hsz2 ?_; intro v' w' ho hb)
      go_roundw
      case rel => exact ⟨k + 1, _, by omega, by go_num, ho, by simp [Hxl.out], (C2.out.up hb).mono (by omega)⟩
      case measure => simp [intOf]; omega
    · obtain rfl : k = m := by omega
      by_cases hk0 : (k : Int) > 0
      · go_wp2_with fail
        refine (spec_one g a n cap (lim + 2 + 2 * (k : Int)) _ _ (by omega) (by omega) C.out.cur).mono ?_
        rintro e w2 ⟨⟨t, rfl⟩, c2, g2⟩
        have C2 := Lib.hid (C.out.step c2 g2)
        have O2 := Lib.hid (own_other O.out g2 C.out.glt)
        clear c2 g2
        cases t
        · go_wp2_with fail
          refine (spec_one g a n cap _ _ _ (by omega) (by omega) C2.out.cur).mono ?_
          rintro e w3 ⟨⟨t, rfl⟩, c3, g3⟩
          have C3 := Lib.hid (C2.out.step c3 g3)
          have O3 := Lib.hid (own_other O2.out g3 C.out.glt)
          have hsz3 := C3.out.size
          clear c3 g3
          cases t
          · go_wp2_with fail
            go_ret
            exact ⟨⟨_, rfl, xs, O3.out, by omega⟩, C3.out.cur.mono (by omega), C3.out.grow⟩
          · go_wp2_with (at_builtin; refine wp_push (.tmp 43) (.tmp 44) rfl rfl w.heap.size _ _ rfl O3.out rfl (by omega) hsz3 ?_; intro v' w' ho hb)
            go_ret
            exact ⟨⟨_, rfl, _, ho, by simp; omega⟩, (C3.out.up hb).cur.mono (by omega), (C3.out.up hb).grow⟩
        · obtain ⟨go, co, rfl, hgo1, hgo2⟩ := O2.out.form (by have := Hxl.out; omega)
          rw [Hxl.out] at O2 ⊢
          go_wp2_with fail
          refine (spec_pick g a n cap _ _ _ (by omega) (by omega) C2.out.cur).mono ?_
          rintro e w3 ⟨⟨x, rfl, hx0, hx1⟩, c3, g3⟩
          have hx2 : x < (k : Int) := by omega
          have C3 := Lib.hid (C2.out.step c3 g3)
          have O3 := Lib.hid (own_other O2.out g3 C.out.glt)
          clear c3 g3 hx1
          go_wp2_with fail
          refine (among_lit g a n cap _ [999, -999, 1000, -1000, 4611686018427387904] _ 5 _ (by omega) rfl rfl (by omega) C3.out.cur).mono ?_
          rintro e w4 ⟨⟨i, hi, rfl⟩, c4, g4⟩
          generalize nth _ i = u
          have C4 := Lib.hid (C3.out.step c4 g4)
          have o4 := own_other O3.out g4 C.out.glt
          have h4c := o4.cell (i := x.toNat) (by have := Hxl.out; omega)
          have h4f := o4.free Hxl.out.symm x.toNat
          have O4 := Lib.hid o4
          clear c4 g4 o4
          go_wp2_with fail
          have O5 := Lib.hid (O4.out.set Hxl.out.symm x.toNat u)
          have C5 := Lib.hid (C4.out.up (show Below w.heap.size w4 (w4.setCell ⟨go, x.toNat, none⟩ (.int .i64 u)) from (Below.refl w.heap.size w4).setCell (show w.heap.size ≤ go from hgo1) _))
          generalize (w4.setCell ⟨go, x.toNat, none⟩ (.int .i64 u)) = w5 at *
          refine (spec_one g a n cap _ _ _ (by omega) (by omega) C5.out.cur).mono ?_
          rintro e w6 ⟨⟨t, rfl⟩, c6, g6⟩
          have C6 := Lib.hid (C5.out.step c6 g6)
          have O6 := Lib.hid (own_other O5.out g6 C.out.glt)
          have hsz6 := C6.out.size
          have hl6 : (xs.set x.toNat u).length ≤ 30 := by simp; omega
          clear c6 g6
          cases t
          · go_wp2_with fail
            go_ret
            exact ⟨⟨_, rfl, _, O6.out, by omega⟩, C6.out.cur.mono (by omega), C6.out.grow⟩
          · go_wp2_with (at_builtin; refine wp_push (.tmp 43) (.tmp 44) rfl rfl w.heap.size _ _ rfl O6.out rfl (by omega) hsz6 ?_; intro v' w' ho hb)
            go_ret
            exact ⟨⟨_, rfl, _, ho, by simp; omega⟩, (C6.out.up hb).cur.mono (by omega), (C6.out.up hb).grow⟩
      · go_wp2_with fail
        refine (spec_one g a n cap _ _ _ (by omega) (by omega) C.out.cur).mono ?_
        rintro e w3 ⟨⟨t, rfl⟩, c3, g3⟩
        have C3 := Lib.hid (C.out.step c3 g3)
        have O3 := Lib.hid (own_other O.out g3 C.out.glt)
        have hsz3 := C3.out.size
        clear c3 g3
        cases t
        · go_wp2_with fail
          go_ret
          exact ⟨⟨_, rfl, xs, O3.out, by omega⟩, C3.out.cur.mono (by omega), C3.out.grow⟩
        · go_wp2_with (at_builtin; refine wp_push (.tmp 43) (.tmp 44) rfl rfl w.heap.size _ _ rfl O3.out rfl (by omega) hsz3 ?_; intro v' w' ho hb)
          go_ret
          exact ⟨⟨_, rfl, _, ho, by simp; omega⟩, (C3.out.up hb).cur.mono (by omega), (C3.out.up hb).grow⟩
end Go.Proofs.Ytnbomleieianoaa

/- Contracts: nodes and pays of a drawn tree. No conditions but those stated. -/
namespace Go.Proofs.Ytnbomleieianoaa
open Go.RowKit

set_option maxRecDepth 100000 in
set_option maxHeartbeats 1000000 in
theorem spec_pays (g : Nat) (a : Option Addr) (n cap : Nat) (lim : Int) (aP : Option Addr) (nP cP : Nat) (aW : Option Addr) (nW cW : Nat) (w : World) (hl : lim ≤ 50000) (hnP : nP ≤ 30) (h : Cur w g a n cap lim) :
    Calls Try.prog 110 #[.pointer (some ⟨g, 0, none⟩), .agg #[.slice aP nP cP, .slice aW nW cW]] w fun e w' => (∃ v, e = .returned v ∧ OwnA w' w.heap.size v 31) ∧ Cur w' g a n cap (lim + 200) ∧ w.grownBy w' (some g) := by
  have C0 := Lib.hid ((Cq.start h).lit (.cells #[.slice aP nP cP, .slice aW nW cW] 26))
  have hP1 := Pair.new w (.slice aP nP cP) (.slice aW nW cW) 26
  have hgw : w.heap.size ≠ g := by have := h.lt; omega
  clear h
  go_enter Try.func110, Try.ntmps110
  have c0 := hP1.c0
  clear hP1
  go_wp2_with fail
  have hs0 : w.heap.size ≤ (w.alloc (.cells #[.slice aP nP cP, .slice aW nW cW] 26)).heap.size := by simp
  generalize (w.alloc (.cells #[.slice aP nP cP, .slice aW nW cW] 26)) = w0 at *
  refine (spec_l1Least _ _ _).mono ?_
  rintro e w1 ⟨rfl, rfl⟩
  obtain ⟨m, hm, hm2⟩ : ∃ m : Nat, least (nP : Int) 24 = (m : Int) ∧ m ≤ 30 := ⟨(least (nP : Int) 24).toNat, by unfold least; omega, by unfold least; omega⟩
  rw [hm]
  clear hm
  go_wp2_with fail
  refine (spec_somePays g a n cap lim m _ (by omega) hm2 C0.out.cur).mono ?_
  rintro e w2 ⟨⟨v, rfl, ov⟩, c2, g2⟩
  have C2 := Lib.hid (C0.out.step c2 g2)
  have OV := Lib.hid (ov.mono hs0)
  clear ov c2 g2
  go_wp2_with fail
  go_ret
  exact ⟨⟨_, rfl, OV.out⟩, C2.out.cur, C2.out.grow⟩
end Go.Proofs.Ytnbomleieianoaa
