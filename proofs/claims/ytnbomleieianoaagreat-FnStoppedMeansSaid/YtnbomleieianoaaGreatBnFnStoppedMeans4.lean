/- Contracts and plain laws for the statement FnStoppedMeans, part 4. No conditions but those stated in each. -/
import Derived.Test.YtnbomleieianoaaGreatBnFnStoppedMeans3
import Derived.Deep.RegionHeld3
import Derived.Deep.AppendLies
import Derived.Deep.DrawnRows
import Derived.Test.YtnbomleieianoaaGreatBnFnStoppedMeans8
import Derived.Test.YtnbomleieianoaaGreatBnFnStoppedMeans1
/- Small words on memory, continued: appending one number inside a region that draws its order. -/
namespace Go.Proofs.YtnbomleieianoaaGreat
open Go.RowKit

/-- 'append(xs, u)', u just laid into a new block, as a step of a region that draws its order. -/
theorem step_push {ops : Array Oper} {o : Oper} {a : Act} {K : Act → World → Prop} {Q : Exit → Act → World → Prop} {E : Prop} {w : World} {u : Int} (hgd : o.guard = none) (s x : Operand)
    (ho : o.op = .call { callee := .builtin .append, args := #[s, x], argTypes := #[24, 24] })
    (base : Nat) (v : Value) (xs : List Int) (hs : a.eval s = v) (hown : Own w base v xs) (hx : a.eval x = .slice (some ⟨w.heap.size, 0, none⟩) 1 1)
    (hl : xs.length ≤ 17592186040320) (hb : base ≤ w.heap.size)
    (h : ∀ v' w', Own w' base v' (xs ++ [u]) → Below base w w' → K (a.put o.dst v') w') :
    if Region.wanted o (yielded ops a.tmps) = true then Oper.wp Tryz.prog o a (w.alloc (.cells #[.int .i64 u] 3)).drew K Q else E := by
  obtain ⟨i0, hi0, hz0, hz1, hz2⟩ := info_parts info_int
  refine step_append_lies _ hgd s x 24 ho base 3 i0 (.int .i64 0) 1 8 Tryz.underlying24 hi0 hz0 hz1 hz2 rfl (by decide) v xs.length (cs xs) hs
    (hown.below ((Below.refl _ _).alloc (Nat.le_refl _) _).drew) ⟨w.heap.size, 0, none⟩ 1 1 [.int .i64 u] hx rfl
    (World.news_of_block (cs := #[.int .i64 u]) (t := 3) (fr := (0, 0)) (heap_alloc_new w _)) (by simp [Value.oneCell']) (by decide) (by simp only [maxLen]; omega) (by omega) (by simp; omega) (w.heap.size + 1) (by simp) ?_
  intro g cap w' h1 h2 _ _
  refine h _ w' ?_ ?_
  · unfold Own; rw [← cs_append, List.length_append]; exact h1
  · exact (((Below.refl base w).alloc hb _).drew).grown h2 (by simp; omega) fun k hk => (World.ownsRow.lt hown k hk).1
end Go.Proofs.YtnbomleieianoaaGreat

/- What a region that draws its order keeps: the world has only grown, some pairs lie as they did. -/
namespace Go.Proofs.YtnbomleieianoaaGreat
open Go.RowKit

/-- The world has only grown. -/
def KeepR (u w : World) : Prop := Below u.heap.size u w
theorem KeepR.start (u : World) : KeepR u u.drew := (Below.refl _ _).drew
theorem KeepR.next {u w w' : World} (hb : Below w.heap.size w w') (h : KeepR u w) : KeepR u w' := Below.trans h (hb.mono (Below.size h))
theorem keep4 {u w : World} {g g' : Nat} {x y x' y' : Value} (h : KeepR u w) (hp : Pair u g x y) (hp' : Pair u g' x' y') :
    KeepR u w ∧ (w.cell? ⟨g, 0, none⟩ = some x ∧ w.cell? ⟨g, 1, none⟩ = some y) ∧ w.cell? ⟨g', 0, none⟩ = some x' ∧ w.cell? ⟨g', 1, none⟩ = some y' :=
  ⟨h, ⟨(hp.below h).c0, (hp.below h).c1⟩, (hp'.below h).c0, (hp'.below h).c1⟩
theorem KeepR.alloc {u w : World} (h : KeepR u w) (o : Obj) : KeepR u (w.alloc o) := Below.alloc h (Below.size h) o
theorem KeepR.alloc0 (u : World) (o : Obj) : KeepR u (u.alloc o).drew := (below_new u o).drew
theorem KeepR.drew {u w : World} (h : KeepR u w) : KeepR u w.drew := Below.drew h
theorem keep2 {u w : World} {g : Nat} {x y : Value} (h : KeepR u w) (hp : Pair u g x y) : KeepR u w ∧ w.cell? ⟨g, 0, none⟩ = some x ∧ w.cell? ⟨g, 1, none⟩ = some y :=
  ⟨h, (hp.below h).c0, (hp.below h).c1⟩
theorem KeepR.cell {u w : World} {p : Addr} {v : Value} (h : KeepR u w) (hc : u.cell? p = some v) : w.cell? p = some v := (Below.cell h (World.block_lt_of_cell? u p hc)).trans hc
theorem keepC1 {u w : World} {p0 : Addr} {v0 : Value} (h : KeepR u w) (h0 : u.cell? p0 = some v0) : KeepR u w ∧ w.cell? p0 = some v0 :=
  ⟨h, h.cell h0⟩
theorem keepC2 {u w : World} {p0 p1 : Addr} {v0 v1 : Value} (h : KeepR u w) (h0 : u.cell? p0 = some v0) (h1 : u.cell? p1 = some v1) : KeepR u w ∧ w.cell? p0 = some v0 ∧ w.cell? p1 = some v1 :=
  ⟨h, h.cell h0, h.cell h1⟩
theorem keepC3 {u w : World} {p0 p1 p2 : Addr} {v0 v1 v2 : Value} (h : KeepR u w) (h0 : u.cell? p0 = some v0) (h1 : u.cell? p1 = some v1) (h2 : u.cell? p2 = some v2) : KeepR u w ∧ w.cell? p0 = some v0 ∧ w.cell? p1 = some v1 ∧ w.cell? p2 = some v2 :=
  ⟨h, h.cell h0, h.cell h1, h.cell h2⟩
theorem keepC4 {u w : World} {p0 p1 p2 p3 : Addr} {v0 v1 v2 v3 : Value} (h : KeepR u w) (h0 : u.cell? p0 = some v0) (h1 : u.cell? p1 = some v1) (h2 : u.cell? p2 = some v2) (h3 : u.cell? p3 = some v3) : KeepR u w ∧ w.cell? p0 = some v0 ∧ w.cell? p1 = some v1 ∧ w.cell? p2 = some v2 ∧ w.cell? p3 = some v3 :=
  ⟨h, h.cell h0, h.cell h1, h.cell h2, h.cell h3⟩
theorem keepC5 {u w : World} {p0 p1 p2 p3 p4 : Addr} {v0 v1 v2 v3 v4 : Value} (h : KeepR u w) (h0 : u.cell? p0 = some v0) (h1 : u.cell? p1 = some v1) (h2 : u.cell? p2 = some v2) (h3 : u.cell? p3 = some v3) (h4 : u.cell? p4 = some v4) : KeepR u w ∧ w.cell? p0 = some v0 ∧ w.cell? p1 = some v1 ∧ w.cell? p2 = some v2 ∧ w.cell? p3 = some v3 ∧ w.cell? p4 = some v4 :=
  ⟨h, h.cell h0, h.cell h1, h.cell h2, h.cell h3, h.cell h4⟩
theorem keepC6 {u w : World} {p0 p1 p2 p3 p4 p5 : Addr} {v0 v1 v2 v3 v4 v5 : Value} (h : KeepR u w) (h0 : u.cell? p0 = some v0) (h1 : u.cell? p1 = some v1) (h2 : u.cell? p2 = some v2) (h3 : u.cell? p3 = some v3) (h4 : u.cell? p4 = some v4) (h5 : u.cell? p5 = some v5) : KeepR u w ∧ w.cell? p0 = some v0 ∧ w.cell? p1 = some v1 ∧ w.cell? p2 = some v2 ∧ w.cell? p3 = some v3 ∧ w.cell? p4 = some v4 ∧ w.cell? p5 = some v5 :=
  ⟨h, h.cell h0, h.cell h1, h.cell h2, h.cell h3, h.cell h4, h.cell h5⟩
theorem keepC7 {u w : World} {p0 p1 p2 p3 p4 p5 p6 : Addr} {v0 v1 v2 v3 v4 v5 v6 : Value} (h : KeepR u w) (h0 : u.cell? p0 = some v0) (h1 : u.cell? p1 = some v1) (h2 : u.cell? p2 = some v2) (h3 : u.cell? p3 = some v3) (h4 : u.cell? p4 = some v4) (h5 : u.cell? p5 = some v5) (h6 : u.cell? p6 = some v6) : KeepR u w ∧ w.cell? p0 = some v0 ∧ w.cell? p1 = some v1 ∧ w.cell? p2 = some v2 ∧ w.cell? p3 = some v3 ∧ w.cell? p4 = some v4 ∧ w.cell? p5 = some v5 ∧ w.cell? p6 = some v6 :=
  ⟨h, h.cell h0, h.cell h1, h.cell h2, h.cell h3, h.cell h4, h.cell h5, h.cell h6⟩
theorem keepC8 {u w : World} {p0 p1 p2 p3 p4 p5 p6 p7 : Addr} {v0 v1 v2 v3 v4 v5 v6 v7 : Value} (h : KeepR u w) (h0 : u.cell? p0 = some v0) (h1 : u.cell? p1 = some v1) (h2 : u.cell? p2 = some v2) (h3 : u.cell? p3 = some v3) (h4 : u.cell? p4 = some v4) (h5 : u.cell? p5 = some v5) (h6 : u.cell? p6 = some v6) (h7 : u.cell? p7 = some v7) : KeepR u w ∧ w.cell? p0 = some v0 ∧ w.cell? p1 = some v1 ∧ w.cell? p2 = some v2 ∧ w.cell? p3 = some v3 ∧ w.cell? p4 = some v4 ∧ w.cell? p5 = some v5 ∧ w.cell? p6 = some v6 ∧ w.cell? p7 = some v7 :=
  ⟨h, h.cell h0, h.cell h1, h.cell h2, h.cell h3, h.cell h4, h.cell h5, h.cell h6, h.cell h7⟩
theorem keepC9 {u w : World} {p0 p1 p2 p3 p4 p5 p6 p7 p8 : Addr} {v0 v1 v2 v3 v4 v5 v6 v7 v8 : Value} (h : KeepR u w) (h0 : u.cell? p0 = some v0) (h1 : u.cell? p1 = some v1) (h2 : u.cell? p2 = some v2) (h3 : u.cell? p3 = some v3) (h4 : u.cell? p4 = some v4) (h5 : u.cell? p5 = some v5) (h6 : u.cell? p6 = some v6) (h7 : u.cell? p7 = some v7) (h8 : u.cell? p8 = some v8) : KeepR u w ∧ w.cell? p0 = some v0 ∧ w.cell? p1 = some v1 ∧ w.cell? p2 = some v2 ∧ w.cell? p3 = some v3 ∧ w.cell? p4 = some v4 ∧ w.cell? p5 = some v5 ∧ w.cell? p6 = some v6 ∧ w.cell? p7 = some v7 ∧ w.cell? p8 = some v8 :=
  ⟨h, h.cell h0, h.cell h1, h.cell h2, h.cell h3, h.cell h4, h.cell h5, h.cell h6, h.cell h7, h.cell h8⟩
end Go.Proofs.YtnbomleieianoaaGreat

/- What a region that draws its order keeps: above a base the world may change, some cells lie as they did. -/
namespace Go.Proofs.YtnbomleieianoaaGreat
open Go.RowKit

theorem cell_far {w : World} {p a : Addr} {v x : Value} (h : w.cell? p = some v) (hne : p.block ≠ a.block) : (w.setCell a x).cell? p = some v := by
  rw [World.cell?_setCell_other _ _ _ _ (fun e => hne (congrArg Addr.block e).symm)]; exact h
theorem pair_up {W w' : World} {g : Nat} {x y : Value} (hb : Below W.heap.size W w') (c0 : W.cell? ⟨g, 0, none⟩ = some x) (c1 : W.cell? ⟨g, 1, none⟩ = some y) (f0 : W.frozen? ⟨g, 0, none⟩ = false) (f1 : W.frozen? ⟨g, 1, none⟩ = false) : Pair w' g x y := Pair.below ⟨c0, c1, f0, f1⟩ hb
theorem cell_up {W w' : World} {p : Addr} {v : Value} (hb : Below W.heap.size W w') (h : W.cell? p = some v) : w'.cell? p = some v := (hb.cell (World.block_lt_of_cell? W p h)).trans h
theorem below_up {w W w' : World} (hb : Below W.heap.size W w') (h : Below w.heap.size w W) : Below w.heap.size w w' := h.trans (hb.mono h.size)
theorem bk0_start {w u : World} (hb : Below w.heap.size w u)  : (Below w.heap.size w u.drew) := hb.drew
theorem bk0_next {w W W1 : World} (hb : Below W.heap.size W W1) (h : (Below w.heap.size w W)) : (Below w.heap.size w W1) :=
  (h).trans (hb.mono (h).size)
theorem bk0_set {w W : World} {g i : Nat} {x : Value} (hg : w.heap.size ≤ g)  (h : (Below w.heap.size w W)) : (Below w.heap.size w (W.setCell ⟨g, i, none⟩ x)) :=
  (h).setCell hg _
theorem bk0_alloc {w W : World} {o : Obj} (h : (Below w.heap.size w W)) : (Below w.heap.size w (W.alloc o)) := bk0_next (below_new W o) h
theorem bk1_start {w u : World} {p0 : Addr} {v0 : Value} (hb : Below w.heap.size w u) (h0 : u.cell? p0 = some v0) : (Below w.heap.size w u.drew ∧ World.cell? u.drew p0 = some v0) := ⟨hb.drew, h0⟩
theorem bk1_next {w W W1 : World} {p0 : Addr} {v0 : Value} (hb : Below W.heap.size W W1) (h : (Below w.heap.size w W ∧ World.cell? W p0 = some v0)) : (Below w.heap.size w W1 ∧ World.cell? W1 p0 = some v0) :=
  ⟨(h.1).trans (hb.mono (h.1).size), (hb.cell (World.block_lt_of_cell? W _ (h.2))).trans (h.2)⟩
theorem bk1_set {w W : World} {p0 : Addr} {v0 : Value} {g i : Nat} {x : Value} (hg : w.heap.size ≤ g) (n0 : p0.block ≠ g) (h : (Below w.heap.size w W ∧ World.cell? W p0 = some v0)) : (Below w.heap.size w (W.setCell ⟨g, i, none⟩ x) ∧ World.cell? (W.setCell ⟨g, i, none⟩ x) p0 = some v0) :=
  ⟨(h.1).setCell hg _, cell_far (h.2) n0⟩
theorem bk1_alloc {w W : World} {p0 : Addr} {v0 : Value} {o : Obj} (h : (Below w.heap.size w W ∧ World.cell? W p0 = some v0)) : (Below w.heap.size w (W.alloc o) ∧ World.cell? (W.alloc o) p0 = some v0) := bk1_next (below_new W o) h
theorem bk2_start {w u : World} {p0 p1 : Addr} {v0 v1 : Value} (hb : Below w.heap.size w u) (h0 : u.cell? p0 = some v0) (h1 : u.cell? p1 = some v1) : (Below w.heap.size w u.drew ∧ World.cell? u.drew p0 = some v0 ∧ World.cell? u.drew p1 = some v1) := ⟨hb.drew, h0, h1⟩
theorem bk2_next {w W W1 : World} {p0 p1 : Addr} {v0 v1 : Value} (hb : Below W.heap.size W W1) (h : (Below w.heap.size w W ∧ World.cell? W p0 = some v0 ∧ World.cell? W p1 = some v1)) : (Below w.heap.size w W1 ∧ World.cell? W1 p0 = some v0 ∧ World.cell? W1 p1 = some v1) :=
  ⟨(h.1).trans (hb.mono (h.1).size), (hb.cell (World.block_lt_of_cell? W _ (h.2.1))).trans (h.2.1), (hb.cell (World.block_lt_of_cell? W _ (h.2.2))).trans (h.2.2)⟩
theorem bk2_set {w W : World} {p0 p1 : Addr} {v0 v1 : Value} {g i : Nat} {x : Value} (hg : w.heap.size ≤ g) (n0 : p0.block ≠ g) (n1 : p1.block ≠ g) (h : (Below w.heap.size w W ∧ World.cell? W p0 = some v0 ∧ World.cell? W p1 = some v1)) : (Below w.heap.size w (W.setCell ⟨g, i, none⟩ x) ∧ World.cell? (W.setCell ⟨g, i, none⟩ x) p0 = some v0 ∧ World.cell? (W.setCell ⟨g, i, none⟩ x) p1 = some v1) :=
  ⟨(h.1).setCell hg _, cell_far (h.2.1) n0, cell_far (h.2.2) n1⟩
theorem bk2_alloc {w W : World} {p0 p1 : Addr} {v0 v1 : Value} {o : Obj} (h : (Below w.heap.size w W ∧ World.cell? W p0 = some v0 ∧ World.cell? W p1 = some v1)) : (Below w.heap.size w (W.alloc o) ∧ World.cell? (W.alloc o) p0 = some v0 ∧ World.cell? (W.alloc o) p1 = some v1) := bk2_next (below_new W o) h
theorem bk3_start {w u : World} {p0 p1 p2 : Addr} {v0 v1 v2 : Value} (hb : Below w.heap.size w u) (h0 : u.cell? p0 = some v0) (h1 : u.cell? p1 = some v1) (h2 : u.cell? p2 = some v2) : (Below w.heap.size w u.drew ∧ World.cell? u.drew p0 = some v0 ∧ World.cell? u.drew p1 = some v1 ∧ World.cell? u.drew p2 = some v2) := ⟨hb.drew, h0, h1, h2⟩
theorem bk3_next {w W W1 : World} {p0 p1 p2 : Addr} {v0 v1 v2 : Value} (hb : Below W.heap.size W W1) (h : (Below w.heap.size w W ∧ World.cell? W p0 = some v0 ∧ World.cell? W p1 = some v1 ∧ World.cell? W p2 = some v2)) : (Below w.heap.size w W1 ∧ World.cell? W1 p0 = some v0 ∧ World.cell? W1 p1 = some v1 ∧ World.cell? W1 p2 = some v2) :=
  ⟨(h.1).trans (hb.mono (h.1).size), (hb.cell (World.block_lt_of_cell? W _ (h.2.1))).trans (h.2.1), (hb.cell (World.block_lt_of_cell? W _ (h.2.2.1))).trans (h.2.2.1), (hb.cell (World.block_lt_of_cell? W _ (h.2.2.2))).trans (h.2.2.2)⟩
theorem bk3_set {w W : World} {p0 p1 p2 : Addr} {v0 v1 v2 : Value} {g i : Nat} {x : Value} (hg : w.heap.size ≤ g) (n0 : p0.block ≠ g) (n1 : p1.block ≠ g) (n2 : p2.block ≠ g) (h : (Below w.heap.size w W ∧ World.cell? W p0 = some v0 ∧ World.cell? W p1 = some v1 ∧ World.cell? W p2 = some v2)) : (Below w.heap.size w (W.setCell ⟨g, i, none⟩ x) ∧ World.cell? (W.setCell ⟨g, i, none⟩ x) p0 = some v0 ∧ World.cell? (W.setCell ⟨g, i, none⟩ x) p1 = some v1 ∧ World.cell? (W.setCell ⟨g, i, none⟩ x) p2 = some v2) :=
  ⟨(h.1).setCell hg _, cell_far (h.2.1) n0, cell_far (h.2.2.1) n1, cell_far (h.2.2.2) n2⟩
theorem bk3_alloc {w W : World} {p0 p1 p2 : Addr} {v0 v1 v2 : Value} {o : Obj} (h : (Below w.heap.size w W ∧ World.cell? W p0 = some v0 ∧ World.cell? W p1 = some v1 ∧ World.cell? W p2 = some v2)) : (Below w.heap.size w (W.alloc o) ∧ World.cell? (W.alloc o) p0 = some v0 ∧ World.cell? (W.alloc o) p1 = some v1 ∧ World.cell? (W.alloc o) p2 = some v2) := bk3_next (below_new W o) h
theorem bk4_start {w u : World} {p0 p1 p2 p3 : Addr} {v0 v1 v2 v3 : Value} (hb : Below w.heap.size w u) (h0 : u.cell? p0 = some v0) (h1 : u.cell? p1 = some v1) (h2 : u.cell? p2 = some v2) (h3 : u.cell? p3 = some v3) : (Below w.heap.size w u.drew ∧ World.cell? u.drew p0 = some v0 ∧ World.cell? u.drew p1 = some v1 ∧ World.cell? u.drew p2 = some v2 ∧ World.cell? u.drew p3 = some v3) := ⟨hb.drew, h0, h1, h2, h3⟩
theorem bk4_next {w W W1 : World} {p0 p1 p2 p3 : Addr} {v0 v1 v2 v3 : Value} (hb : Below W.heap.size W W1) (h : (Below w.heap.size w W ∧ World.cell? W p0 = some v0 ∧ World.cell? W p1 = some v1 ∧ World.cell? W p2 = some v2 ∧ World.cell? W p3 = some v3)) : (Below w.heap.size w W1 ∧ World.cell? W1 p0 = some v0 ∧ World.cell? W1 p1 = some v1 ∧ World.cell? W1 p2 = some v2 ∧ World.cell? W1 p3 = some v3) :=
  ⟨(h.1).trans (hb.mono (h.1).size), (hb.cell (World.block_lt_of_cell? W _ (h.2.1))).trans (h.2.1), (hb.cell (World.block_lt_of_cell? W _ (h.2.2.1))).trans (h.2.2.1), (hb.cell (World.block_lt_of_cell? W _ (h.2.2.2.1))).trans (h.2.2.2.1), (hb.cell (World.block_lt_of_cell? W _ (h.2.2.2.2))).trans (h.2.2.2.2)⟩
theorem bk4_set {w W : World} {p0 p1 p2 p3 : Addr} {v0 v1 v2 v3 : Value} {g i : Nat} {x : Value} (hg : w.heap.size ≤ g) (n0 : p0.block ≠ g) (n1 : p1.block ≠ g) (n2 : p2.block ≠ g) (n3 : p3.block ≠ g) (h : (Below w.heap.size w W ∧ World.cell? W p0 = some v0 ∧ World.cell? W p1 = some v1 ∧ World.cell? W p2 = some v2 ∧ World.cell? W p3 = some v3)) : (Below w.heap.size w (W.setCell ⟨g, i, none⟩ x) ∧ World.cell? (W.setCell ⟨g, i, none⟩ x) p0 = some v0 ∧ World.cell? (W.setCell ⟨g, i, none⟩ x) p1 = some v1 ∧ World.cell? (W.setCell ⟨g, i, none⟩ x) p2 = some v2 ∧ World.cell? (W.setCell ⟨g, i, none⟩ x) p3 = some v3) :=
  ⟨(h.1).setCell hg _, cell_far (h.2.1) n0, cell_far (h.2.2.1) n1, cell_far (h.2.2.2.1) n2, cell_far (h.2.2.2.2) n3⟩
theorem bk4_alloc {w W : World} {p0 p1 p2 p3 : Addr} {v0 v1 v2 v3 : Value} {o : Obj} (h : (Below w.heap.size w W ∧ World.cell? W p0 = some v0 ∧ World.cell? W p1 = some v1 ∧ World.cell? W p2 = some v2 ∧ World.cell? W p3 = some v3)) : (Below w.heap.size w (W.alloc o) ∧ World.cell? (W.alloc o) p0 = some v0 ∧ World.cell? (W.alloc o) p1 = some v1 ∧ World.cell? (W.alloc o) p2 = some v2 ∧ World.cell? (W.alloc o) p3 = some v3) := bk4_next (below_new W o) h
theorem bk5_start {w u : World} {p0 p1 p2 p3 p4 : Addr} {v0 v1 v2 v3 v4 : Value} (hb : Below w.heap.size w u) (h0 : u.cell? p0 = some v0) (h1 : u.cell? p1 = some v1) (h2 : u.cell? p2 = some v2) (h3 : u.cell? p3 = some v3) (h4 : u.cell? p4 = some v4) : (Below w.heap.size w u.drew ∧ World.cell? u.drew p0 = some v0 ∧ World.cell? u.drew p1 = some v1 ∧ World.cell? u.drew p2 = some v2 ∧ World.cell? u.drew p3 = some v3 ∧ World.cell? u.drew p4 = some v4) := ⟨hb.drew, h0, h1, h2, h3, h4⟩
theorem bk5_next {w W W1 : World} {p0 p1 p2 p3 p4 : Addr} {v0 v1 v2 v3 v4 : Value} (hb : Below W.heap.size W W1) (h : (Below w.heap.size w W ∧ World.cell? W p0 = some v0 ∧ World.cell? W p1 = some v1 ∧ World.cell? W p2 = some v2 ∧ World.cell? W p3 = some v3 ∧ World.cell? W p4 = some v4)) : (Below w.heap.size w W1 ∧ World.cell? W1 p0 = some v0 ∧ World.cell? W1 p1 = some v1 ∧ World.cell? W1 p2 = some v2 ∧ World.cell? W1 p3 = some v3 ∧ World.cell? W1 p4 = some v4) :=
  ⟨(h.1).trans (hb.mono (h.1).size), (hb.cell (World.block_lt_of_cell? W _ (h.2.1))).trans (h.2.1), (hb.cell (World.block_lt_of_cell? W _ (h.2.2.1))).trans (h.2.2.1), (hb.cell (World.block_lt_of_cell? W _ (h.2.2.2.1))).trans (h.2.2.2.1), (hb.cell (World.block_lt_of_cell? W _ (h.2.2.2.2.1))).trans (h.2.2.2.2.1), (hb.cell (World.block_lt_of_cell? W _ (h.2.2.2.2.2))).trans (h.2.2.2.2.2)⟩
theorem bk5_set {w W : World} {p0 p1 p2 p3 p4 : Addr} {v0 v1 v2 v3 v4 : Value} {g i : Nat} {x : Value} (hg : w.heap.size ≤ g) (n0 : p0.block ≠ g) (n1 : p1.block ≠ g) (n2 : p2.block ≠ g) (n3 : p3.block ≠ g) (n4 : p4.block ≠ g) (h : (Below w.heap.size w W ∧ World.cell? W p0 = some v0 ∧ World.cell? W p1 = some v1 ∧ World.cell? W p2 = some v2 ∧ World.cell? W p3 = some v3 ∧ World.cell? W p4 = some v4)) : (Below w.heap.size w (W.setCell ⟨g, i, none⟩ x) ∧ World.cell? (W.setCell ⟨g, i, none⟩ x) p0 = some v0 ∧ World.cell? (W.setCell ⟨g, i, none⟩ x) p1 = some v1 ∧ World.cell? (W.setCell ⟨g, i, none⟩ x) p2 = some v2 ∧ World.cell? (W.setCell ⟨g, i, none⟩ x) p3 = some v3 ∧ World.cell? (W.setCell ⟨g, i, none⟩ x) p4 = some v4) :=
  ⟨(h.1).setCell hg _, cell_far (h.2.1) n0, cell_far (h.2.2.1) n1, cell_far (h.2.2.2.1) n2, cell_far (h.2.2.2.2.1) n3, cell_far (h.2.2.2.2.2) n4⟩
theorem bk5_alloc {w W : World} {p0 p1 p2 p3 p4 : Addr} {v0 v1 v2 v3 v4 : Value} {o : Obj} (h : (Below w.heap.size w W ∧ World.cell? W p0 = some v0 ∧ World.cell? W p1 = some v1 ∧ World.cell? W p2 = some v2 ∧ World.cell? W p3 = some v3 ∧ World.cell? W p4 = some v4)) : (Below w.heap.size w (W.alloc o) ∧ World.cell? (W.alloc o) p0 = some v0 ∧ World.cell? (W.alloc o) p1 = some v1 ∧ World.cell? (W.alloc o) p2 = some v2 ∧ World.cell? (W.alloc o) p3 = some v3 ∧ World.cell? (W.alloc o) p4 = some v4) := bk5_next (below_new W o) h
theorem bk6_start {w u : World} {p0 p1 p2 p3 p4 p5 : Addr} {v0 v1 v2 v3 v4 v5 : Value} (hb : Below w.heap.size w u) (h0 : u.cell? p0 = some v0) (h1 : u.cell? p1 = some v1) (h2 : u.cell? p2 = some v2) (h3 : u.cell? p3 = some v3) (h4 : u.cell? p4 = some v4) (h5 : u.cell? p5 = some v5) : (Below w.heap.size w u.drew ∧ World.cell? u.drew p0 = some v0 ∧ World.cell? u.drew p1 = some v1 ∧ World.cell? u.drew p2 = some v2 ∧ World.cell? u.drew p3 = some v3 ∧ World.cell? u.drew p4 = some v4 ∧ World.cell? u.drew p5 = some v5) := ⟨hb.drew, h0, h1, h2, h3, h4, h5⟩
theorem bk6_next {w W W1 : World} {p0 p1 p2 p3 p4 p5 : Addr} {v0 v1 v2 v3 v4 v5 : Value} (hb : Below W.heap.size W W1) (h : (Below w.heap.size w W ∧ World.cell? W p0 = some v0 ∧ World.cell? W p1 = some v1 ∧ World.cell? W p2 = some v2 ∧ World.cell? W p3 = some v3 ∧ World.cell? W p4 = some v4 ∧ World.cell? W p5 = some v5)) : (Below w.heap.size w W1 ∧ World.cell? W1 p0 = some v0 ∧ World.cell? W1 p1 = some v1 ∧ World.cell? W1 p2 = some v2 ∧ World.cell? W1 p3 = some v3 ∧ World.cell? W1 p4 = some v4 ∧ World.cell? W1 p5 = some v5) :=
  ⟨(h.1).trans (hb.mono (h.1).size), (hb.cell (World.block_lt_of_cell? W _ (h.2.1))).trans (h.2.1), (hb.cell (World.block_lt_of_cell? W _ (h.2.2.1))).trans (h.2.2.1), (hb.cell (World.block_lt_of_cell? W _ (h.2.2.2.1))).trans (h.2.2.2.1), (hb.cell (World.block_lt_of_cell? W _ (h.2.2.2.2.1))).trans (h.2.2.2.2.1), (hb.cell (World.block_lt_of_cell? W _ (h.2.2.2.2.2.1))).trans (h.2.2.2.2.2.1), (hb.cell (World.block_lt_of_cell? W _ (h.2.2.2.2.2.2))).trans (h.2.2.2.2.2.2)⟩
theorem bk6_set {w W : World} {p0 p1 p2 p3 p4 p5 : Addr} {v0 v1 v2 v3 v4 v5 : Value} {g i : Nat} {x : Value} (hg : w.heap.size ≤ g) (n0 : p0.block ≠ g) (n1 : p1.block ≠ g) (n2 : p2.block ≠ g) (n3 : p3.block ≠ g) (n4 : p4.block ≠ g) (n5 : p5.block ≠ g) (h : (Below w.heap.size w W ∧ World.cell? W p0 = some v0 ∧ World.cell? W p1 = some v1 ∧ World.cell? W p2 = some v2 ∧ World.cell? W p3 = some v3 ∧ World.cell? W p4 = some v4 ∧ World.cell? W p5 = some v5)) : (Below w.heap.size w (W.setCell ⟨g, i, none⟩ x) ∧ World.cell? (W.setCell ⟨g, i, none⟩ x) p0 = some v0 ∧ World.cell? (W.setCell ⟨g, i, none⟩ x) p1 = some v1 ∧ World.cell? (W.setCell ⟨g, i, none⟩ x) p2 = some v2 ∧ World.cell? (W.setCell ⟨g, i, none⟩ x) p3 = some v3 ∧ World.cell? (W.setCell ⟨g, i, none⟩ x) p4 = some v4 ∧ World.cell? (W.setCell ⟨g, i, none⟩ x) p5 = some v5) :=
  ⟨(h.1).setCell hg _, cell_far (h.2.1) n0, cell_far (h.2.2.1) n1, cell_far (h.2.2.2.1) n2, cell_far (h.2.2.2.2.1) n3, cell_far (h.2.2.2.2.2.1) n4, cell_far (h.2.2.2.2.2.2) n5⟩
theorem bk6_alloc {w W : World} {p0 p1 p2 p3 p4 p5 : Addr} {v0 v1 v2 v3 v4 v5 : Value} {o : Obj} (h : (Below w.heap.size w W ∧ World.cell? W p0 = some v0 ∧ World.cell? W p1 = some v1 ∧ World.cell? W p2 = some v2 ∧ World.cell? W p3 = some v3 ∧ World.cell? W p4 = some v4 ∧ World.cell? W p5 = some v5)) : (Below w.heap.size w (W.alloc o) ∧ World.cell? (W.alloc o) p0 = some v0 ∧ World.cell? (W.alloc o) p1 = some v1 ∧ World.cell? (W.alloc o) p2 = some v2 ∧ World.cell? (W.alloc o) p3 = some v3 ∧ World.cell? (W.alloc o) p4 = some v4 ∧ World.cell? (W.alloc o) p5 = some v5) := bk6_next (below_new W o) h
theorem bk7_start {w u : World} {p0 p1 p2 p3 p4 p5 p6 : Addr} {v0 v1 v2 v3 v4 v5 v6 : Value} (hb : Below w.heap.size w u) (h0 : u.cell? p0 = some v0) (h1 : u.cell? p1 = some v1) (h2 : u.cell? p2 = some v2) (h3 : u.cell? p3 = some v3) (h4 : u.cell? p4 = some v4) (h5 : u.cell? p5 = some v5) (h6 : u.cell? p6 = some v6) : (Below w.heap.size w u.drew ∧ World.cell? u.drew p0 = some v0 ∧ World.cell? u.drew p1 = some v1 ∧ World.cell? u.drew p2 = some v2 ∧ World.cell? u.drew p3 = some v3 ∧ World.cell? u.drew p4 = some v4 ∧ World.cell? u.drew p5 = some v5 ∧ World.cell? u.drew p6 = some v6) := ⟨hb.drew, h0, h1, h2, h3, h4, h5, h6⟩
theorem bk7_next {w W W1 : World} {p0 p1 p2 p3 p4 p5 p6 : Addr} {v0 v1 v2 v3 v4 v5 v6 : Value} (hb : Below W.heap.size W W1) (h : (Below w.heap.size w W ∧ World.cell? W p0 = some v0 ∧ World.cell? W p1 = some v1 ∧ World.cell? W p2 = some v2 ∧ World.cell? W p3 = some v3 ∧ World.cell? W p4 = some v4 ∧ World.cell? W p5 = some v5 ∧ World.cell? W p6 = some v6)) : (Below w.heap.size w W1 ∧ World.cell? W1 p0 = some v0 ∧ World.cell? W1 p1 = some v1 ∧ World.cell? W1 p2 = some v2 ∧ World.cell? W1 p3 = some v3 ∧ World.cell? W1 p4 = some v4 ∧ World.cell? W1 p5 = some v5 ∧ World.cell? W1 p6 = some v6) :=
  ⟨(h.1).trans (hb.mono (h.1).size), (hb.cell (World.block_lt_of_cell? W _ (h.2.1))).trans (h.2.1), (hb.cell (World.block_lt_of_cell? W _ (h.2.2.1))).trans (h.2.2.1), (hb.cell (World.block_lt_of_cell? W _ (h.2.2.2.1))).trans (h.2.2.2.1), (hb.cell (World.block_lt_of_cell? W _ (h.2.2.2.2.1))).trans (h.2.2.2.2.1), (hb.cell (World.block_lt_of_cell? W _ (h.2.2.2.2.2.1))).trans (h.2.2.2.2.2.1), (hb.cell (World.block_lt_of_cell? W _ (h.2.2.2.2.2.2.1))).trans (h.2.2.2.2.2.2.1), (hb.cell (World.block_lt_of_cell? W _ (h.2.2.2.2.2.2.2))).trans (h.2.2.2.2.2.2.2)⟩
theorem bk7_set {w W : World} {p0 p1 p2 p3 p4 p5 p6 : Addr} {v0 v1 v2 v3 v4 v5 v6 : Value} {g i : Nat} {x : Value} (hg : w.heap.size ≤ g) (n0 : p0.block ≠ g) (n1 : p1.block ≠ g) (n2 : p2.block ≠ g) (n3 : p3.block ≠ g) (n4 : p4.block ≠ g) (n5 : p5.block ≠ g) (n6 : p6.block ≠ g) (h : (Below w.heap.size w W ∧ World.cell? W p0 = some v0 ∧ World.cell? W p1 = some v1 ∧ World.cell? W p2 = some v2 ∧ World.cell? W p3 = some v3 ∧ World.cell? W p4 = some v4 ∧ World.cell? W p5 = some v5 ∧ World.cell? W p6 = some v6)) : (Below w.heap.size w (W.setCell ⟨g, i, none⟩ x) ∧ World.cell? (W.setCell ⟨g, i, none⟩ x) p0 = some v0 ∧ World.cell? (W.setCell ⟨g, i, none⟩ x) p1 = some v1 ∧ World.cell? (W.setCell ⟨g, i, none⟩ x) p2 = some v2 ∧ World.cell? (W.setCell ⟨g, i, none⟩ x) p3 = some v3 ∧ World.cell? (W.setCell ⟨g, i, none⟩ x) p4 = some v4 ∧ World.cell? (W.setCell ⟨g, i, none⟩ x) p5 = some v5 ∧ World.cell? (W.setCell ⟨g, i, none⟩ x) p6 = some v6) :=
  ⟨(h.1).setCell hg _, cell_far (h.2.1) n0, cell_far (h.2.2.1) n1, cell_far (h.2.2.2.1) n2, cell_far (h.2.2.2.2.1) n3, cell_far (h.2.2.2.2.2.1) n4, cell_far (h.2.2.2.2.2.2.1) n5, cell_far (h.2.2.2.2.2.2.2) n6⟩
theorem bk7_alloc {w W : World} {p0 p1 p2 p3 p4 p5 p6 : Addr} {v0 v1 v2 v3 v4 v5 v6 : Value} {o : Obj} (h : (Below w.heap.size w W ∧ World.cell? W p0 = some v0 ∧ World.cell? W p1 = some v1 ∧ World.cell? W p2 = some v2 ∧ World.cell? W p3 = some v3 ∧ World.cell? W p4 = some v4 ∧ World.cell? W p5 = some v5 ∧ World.cell? W p6 = some v6)) : (Below w.heap.size w (W.alloc o) ∧ World.cell? (W.alloc o) p0 = some v0 ∧ World.cell? (W.alloc o) p1 = some v1 ∧ World.cell? (W.alloc o) p2 = some v2 ∧ World.cell? (W.alloc o) p3 = some v3 ∧ World.cell? (W.alloc o) p4 = some v4 ∧ World.cell? (W.alloc o) p5 = some v5 ∧ World.cell? (W.alloc o) p6 = some v6) := bk7_next (below_new W o) h
theorem bk8_start {w u : World} {p0 p1 p2 p3 p4 p5 p6 p7 : Addr} {v0 v1 v2 v3 v4 v5 v6 v7 : Value} (hb : Below w.heap.size w u) (h0 : u.cell? p0 = some v0) (h1 : u.cell? p1 = some v1) (h2 : u.cell? p2 = some v2) (h3 : u.cell? p3 = some v3) (h4 : u.cell? p4 = some v4) (h5 : u.cell? p5 = some v5) (h6 : u.cell? p6 = some v6) (h7 : u.cell? p7 = some v7) : (Below w.heap.size w u.drew ∧ World.cell? u.drew p0 = some v0 ∧ World.cell? u.drew p1 = some v1 ∧ World.cell? u.drew p2 = some v2 ∧ World.cell? u.drew p3 = some v3 ∧ World.cell? u.drew p4 = some v4 ∧ World.cell? u.drew p5 = some v5 ∧ World.cell? u.drew p6 = some v6 ∧ World.cell? u.drew p7 = some v7) := ⟨hb.drew, h0, h1, h2, h3, h4, h5, h6, h7⟩
theorem bk8_next {w W W1 : World} {p0 p1 p2 p3 p4 p5 p6 p7 : Addr} {v0 v1 v2 v3 v4 v5 v6 v7 : Value} (hb : Below W.heap.size W W1) (h : (Below w.heap.size w W ∧ World.cell? W p0 = some v0 ∧ World.cell? W p1 = some v1 ∧ World.cell? W p2 = some v2 ∧ World.cell? W p3 = some v3 ∧ World.cell? W p4 = some v4 ∧ World.cell? W p5 = some v5 ∧ World.cell? W p6 = some v6 ∧ World.cell? W p7 = some v7)) : (Below w.heap.size w W1 ∧ World.cell? W1 p0 = some v0 ∧ World.cell? W1 p1 = some v1 ∧ World.cell? W1 p2 = some v2 ∧ World.cell? W1 p3 = some v3 ∧ World.cell? W1 p4 = some v4 ∧ World.cell? W1 p5 = some v5 ∧ World.cell? W1 p6 = some v6 ∧ World.cell? W1 p7 = some v7) :=
  ⟨(h.1).trans (hb.mono (h.1).size), (hb.cell (World.block_lt_of_cell? W _ (h.2.1))).trans (h.2.1), (hb.cell (World.block_lt_of_cell? W _ (h.2.2.1))).trans (h.2.2.1), (hb.cell (World.block_lt_of_cell? W _ (h.2.2.2.1))).trans (h.2.2.2.1), (hb.cell (World.block_lt_of_cell? W _ (h.2.2.2.2.1))).trans (h.2.2.2.2.1), (hb.cell (World.block_lt_of_cell? W _ (h.2.2.2.2.2.1))).trans (h.2.2.2.2.2.1), (hb.cell (World.block_lt_of_cell? W _ (h.2.2.2.2.2.2.1))).trans (h.2.2.2.2.2.2.1), (hb.cell (World.block_lt_of_cell? W _ (h.2.2.2.2.2.2.2.1))).trans (h.2.2.2.2.2.2.2.1), (hb.cell (World.block_lt_of_cell? W _ (h.2.2.2.2.2.2.2.2))).trans (h.2.2.2.2.2.2.2.2)⟩
theorem bk8_set {w W : World} {p0 p1 p2 p3 p4 p5 p6 p7 : Addr} {v0 v1 v2 v3 v4 v5 v6 v7 : Value} {g i : Nat} {x : Value} (hg : w.heap.size ≤ g) (n0 : p0.block ≠ g) (n1 : p1.block ≠ g) (n2 : p2.block ≠ g) (n3 : p3.block ≠ g) (n4 : p4.block ≠ g) (n5 : p5.block ≠ g) (n6 : p6.block ≠ g) (n7 : p7.block ≠ g) (h : (Below w.heap.size w W ∧ World.cell? W p0 = some v0 ∧ World.cell? W p1 = some v1 ∧ World.cell? W p2 = some v2 ∧ World.cell? W p3 = some v3 ∧ World.cell? W p4 = some v4 ∧ World.cell? W p5 = some v5 ∧ World.cell? W p6 = some v6 ∧ World.cell? W p7 = some v7)) : (Below w.heap.size w (W.setCell ⟨g, i, none⟩ x) ∧ World.cell? (W.setCell ⟨g, i, none⟩ x) p0 = some v0 ∧ World.cell? (W.setCell ⟨g, i, none⟩ x) p1 = some v1 ∧ World.cell? (W.setCell ⟨g, i, none⟩ x) p2 = some v2 ∧ World.cell? (W.setCell ⟨g, i, none⟩ x) p3 = some v3 ∧ World.cell? (W.setCell ⟨g, i, none⟩ x) p4 = some v4 ∧ World.cell? (W.setCell ⟨g, i, none⟩ x) p5 = some v5 ∧ World.cell? (W.setCell ⟨g, i, none⟩ x) p6 = some v6 ∧ World.cell? (W.setCell ⟨g, i, none⟩ x) p7 = some v7) :=
  ⟨(h.1).setCell hg _, cell_far (h.2.1) n0, cell_far (h.2.2.1) n1, cell_far (h.2.2.2.1) n2, cell_far (h.2.2.2.2.1) n3, cell_far (h.2.2.2.2.2.1) n4, cell_far (h.2.2.2.2.2.2.1) n5, cell_far (h.2.2.2.2.2.2.2.1) n6, cell_far (h.2.2.2.2.2.2.2.2) n7⟩
theorem bk8_alloc {w W : World} {p0 p1 p2 p3 p4 p5 p6 p7 : Addr} {v0 v1 v2 v3 v4 v5 v6 v7 : Value} {o : Obj} (h : (Below w.heap.size w W ∧ World.cell? W p0 = some v0 ∧ World.cell? W p1 = some v1 ∧ World.cell? W p2 = some v2 ∧ World.cell? W p3 = some v3 ∧ World.cell? W p4 = some v4 ∧ World.cell? W p5 = some v5 ∧ World.cell? W p6 = some v6 ∧ World.cell? W p7 = some v7)) : (Below w.heap.size w (W.alloc o) ∧ World.cell? (W.alloc o) p0 = some v0 ∧ World.cell? (W.alloc o) p1 = some v1 ∧ World.cell? (W.alloc o) p2 = some v2 ∧ World.cell? (W.alloc o) p3 = some v3 ∧ World.cell? (W.alloc o) p4 = some v4 ∧ World.cell? (W.alloc o) p5 = some v5 ∧ World.cell? (W.alloc o) p6 = some v6 ∧ World.cell? (W.alloc o) p7 = some v7) := bk8_next (below_new W o) h
end Go.Proofs.YtnbomleieianoaaGreat

/- Small words on memory, continued: appending a whole list inside a region that draws its order; parts of slices. -/
namespace Go.Proofs.YtnbomleieianoaaGreat
open Go.RowKit

theorem nth_take {xs : List Int} {k i : Nat} (h : i < k) : nth (xs.take k) i = nth xs i := by unfold nth; simp [List.getD, h]
theorem nth_drop (xs : List Int) (k i : Nat) : nth (xs.drop k) i = nth xs (k + i) := by unfold nth; simp [List.getD, List.getElem?_drop]
theorem Ints.take {w : World} {a : Option Addr} {n : Nat} {xs : List Int} (h : Ints w a n xs) {k : Nat} (hk : k ≤ n) : Ints w a k (xs.take k) :=
  ⟨by rw [List.length_take, h.1]; omega, fun h0 => by
    obtain ⟨b, off, rfl, hlt, hc⟩ := h.2 (by omega)
    exact ⟨b, off, rfl, hlt, fun j hj => by rw [nth_take hj]; exact hc j (by omega)⟩⟩
theorem Ints.drop {w : World} {b off n : Nat} {xs : List Int} (h : Ints w (some ⟨b, off, none⟩) n xs) (k : Nat) : Ints w (some ⟨b, off + k, none⟩) (n - k) (xs.drop k) :=
  ⟨by rw [List.length_drop, h.1], fun h0 => by
    obtain ⟨b', off', he, hlt, hc⟩ := h.2 (by omega)
    cases he
    exact ⟨b, off + k, rfl, hlt, fun j hj => by rw [nth_drop, Nat.add_assoc]; exact hc (k + j) (by omega)⟩⟩
theorem ints_nil (w : World) (a : Option Addr) : Ints w a 0 [] := ⟨rfl, fun h => by omega⟩
/-- 'append(xs, ys...)' onto a slice of ints that the call owns, as a run. -/
theorem run_appI {w : World} (ty : TypeId) (base : Nat) (v : Value) (xs : List Int) (hown : Own w base v xs) (ad : Option Addr) (m c : Nat) (ys : List Int) (hc : ad = none → c = 0) (hy : Ints w ad m ys) (hl : xs.length + m ≤ 17592186040320) (hbase : base ≤ w.heap.size) :
    ∃ v' w', (Builtin.append_ #[24, 24] ty #[v, .slice ad m c]).run Tryz.prog w = .ok v' w' ∧ Own w' base v' (xs ++ ys) ∧ Below base w w' ∧ Moved w v w' v' := by
  obtain ⟨i0, hi0, hz0, hz1, hz2⟩ := info_parts info_int
  have hm := hy.1
  cases ad with
  | none =>
    obtain rfl : m = 0 := by
      cases m with
      | zero => rfl
      | succ m => obtain ⟨b, off, he, _⟩ := hy.2 (by omega); cases he
    obtain rfl := hc rfl
    have : ys = [] := List.length_eq_zero_iff.1 hm
    exact ⟨v, w, run_append_owned_none (P := Tryz.prog) w base 24 ty 3 i0 1 Tryz.underlying24 hi0 v _ _ hown, by rw [this, List.append_nil]; exact hown, Below.refl _ _, Nat.le_refl _, fun g _ h => ⟨h, rfl⟩⟩
  | some p =>
    have hcell : ∀ j, j < m → w.cell? (p.add j) = some (.int .i64 (nth ys j)) := fun j hj => by
      obtain ⟨b, off, he, _, hcell⟩ := hy.2 (by omega)
      cases he
      rw [show (⟨b, off, none⟩ : Addr).add j = ⟨b, off + j, none⟩ by unfold Addr.add; split <;> simp_all]
      exact hcell j hj
    obtain ⟨v', w', hr, h1, h2, _, h4⟩ := run_append_own_at (P := Tryz.prog) w base 24 ty 3 i0 (.int .i64 0) 1 8 Tryz.underlying24 hi0 hz0 hz1 hz2 rfl (by decide) v xs.length (cs xs) hown p m c (cs ys) (by rw [cs_length]; omega)
      (fun j u hu => by
        have hj : j < m := by
          have := (List.getElem?_eq_some_iff.1 hu).1
          rw [cs_length] at this; omega
        rw [cs_get? _ _ (by omega)] at hu
        rw [hcell j hj]; exact hu) (cs_one ys) (by simp only [maxLen]; omega) (by omega) hbase
    refine ⟨v', w', hr, ?_, (Below.refl _ _).grown h2 hbase fun k hk => (World.ownsRow.lt hown k hk).1, h2.size, fun g hg hne => ⟨?_, h2.block g hg (fun e => hne e.symm)⟩⟩
    · unfold Own
      rw [← cs_append, List.length_append, hm]
      exact h1
    · rcases h4 with h4 | h4
      · rw [h4]; exact hne
      · rw [h4]; intro e; cases e; omega
/-- The same at an operation of a region that draws its order. -/
theorem step_appI {ops : Array Oper} {o : Oper} {a : Act} {K : Act → World → Prop} {Q : Exit → Act → World → Prop} {E : Prop} {w : World} (hgd : o.guard = none) (s x : Operand)
    (ho : o.op = .call { callee := .builtin .append, args := #[s, x], argTypes := #[24, 24] })
    (base : Nat) (v : Value) (xs : List Int) (hs : a.eval s = v) (hown : Own w base v xs) (ad : Option Addr) (m c : Nat) (ys : List Int) (hx : a.eval x = .slice ad m c) (hc : ad = none → c = 0) (hy : Ints w ad m ys) (hl : xs.length + m ≤ 17592186040320) (hbase : base ≤ w.heap.size)
    (h : ∀ v' w', Own w' base v' (xs ++ ys) → Below base w w' → Moved w v w' v' → K (a.put o.dst v') w') :
    if Region.wanted o (yielded ops a.tmps) = true then Oper.wp Tryz.prog o a w K Q else E := by
  have hw : Region.wanted o (yielded ops a.tmps) = true := by simp [Region.wanted, hgd]
  rw [if_pos hw]
  obtain ⟨v', w', hr, h1, h2, h3⟩ := run_appI o.type base v xs hown ad m c ys hc hy hl hbase
  unfold Oper.wp execOp
  simp only [ho, resolve, invoke, builtin, Sem.run_bind, Sem.run_pure, Result.andThen_ok, List.map_toArray, List.map_cons, List.map_nil, hs, hx, hr]
  exact h v' w' h1 h2 h3
/-- Another slice that the call owns, behind an append to v. -/
theorem Own.moved {w w' : World} {base : Nat} {u v v' : Value} {xs : List Int} (h : Own w base u xs) (hm : Moved w v w' v') (ha : ∀ g, u.ownBlock = some g → v.ownBlock ≠ some g) : Own w' base u xs := by
  unfold Own World.ownsRow at *
  refine ⟨h.1, ?_⟩
  rcases h.2 with h1 | ⟨g, cp, cur, h1, h2, h3, h4⟩
  · exact .inl h1
  · have hlt : g < w.heap.size := by
      rcases Nat.lt_or_ge g w.heap.size with hl | hl
      · exact hl
      · rw [Array.getElem?_eq_none hl] at h3; cases h3
    exact .inr ⟨g, cp, cur, h1, h2, by rw [(hm.2 g hlt (ha g (by rw [h1]; rfl))).2]; exact h3, h4⟩
end Go.Proofs.YtnbomleieianoaaGreat

/- Contracts of the reference on trees: ways, the first node on a way, numbers put to their places. -/
namespace Go.Proofs.YtnbomleieianoaaGreat
open Go.RowKit

def hasB (l : List Int) (y : Int) : Bool := l.any (· == y)
theorem has_t {l : List Int} {y : Int} {i : Nat} (hi : i < l.length) (h : nth l i = y) : hasB l y = true := by
  unfold hasB; rw [List.any_eq_true]
  exact ⟨nth l i, nth_mem hi, by simp [h]⟩
theorem has_f {l : List Int} {y : Int} (h : ∀ i, i < l.length → ¬ nth l i = y) : hasB l y = false := by
  cases hb : hasB l y
  · rfl
  · unfold hasB at hb
    rw [List.any_eq_true] at hb
    obtain ⟨z, hz, he⟩ := hb
    obtain ⟨i, hi, rfl⟩ := List.mem_iff_getElem.1 hz
    exact absurd (by rw [nth_lt hi]; simpa using he) (h i hi)
set_option maxHeartbeats 400000 in
theorem spec_l1Has (a : Option Addr) (n cap : Nat) (l : List Int) (y : Int) (w : World) (hn : n ≤ 1048576) (h : Ints w a n l) :
    Calls Tryz.prog 149 #[.slice a n cap, .int .i64 y] w fun e w' => e = .returned (.bool (hasB l y)) ∧ w = w' := by
  have hl := Lib.hid h.1
  have H := Lib.hid h
  clear h
  go_enter Tryz.func149, Tryz.ntmps149
  go_wp2_with fail
  go_loop [5] (fun v5 => ∃ i : Nat, i ≤ n ∧ v5 = .int .i64 (i : Int) ∧ ∀ j, j < i → ¬ nth l j = y) (fun v5 => n - (intOf v5).toNat)
  case atStart => exact ⟨0, Nat.zero_le _, rfl, fun j hj => by omega⟩
  case round =>
    obtain ⟨i, hi, rfl, hall⟩ := hrel
    have Hall := Lib.hid hall
    clear hall
    by_cases hlt : (i : Int) < n
    · obtain ⟨b, off, rfl, hc⟩ := H.out.at (i := i) (Below.refl _ _) (by omega)
      by_cases he : nth l i = y
      · have Hv := Lib.hid (has_t (i := i) (by have := hl.out; omega) he)
        rw [he] at hc
        clear he
        go_wp2_with fail
        go_ret
        exact ⟨by rw [Hv.out]; rfl, rfl⟩
      · have Hne := Lib.hid he
        generalize hu : nth l i = u at hc he
        have heb : (u == y) = false := by rw [beq_eq_false_iff_ne]; exact he
        clear hu
        go_wp2_with fail
        go_round
        case rel => exact ⟨i + 1, by omega, by go_num, fun j hj => by
          by_cases e : j = i
          · subst e; exact Hne.out
          · exact Hall.out j (by omega)⟩
        case measure => simp [intOf]; omega
    · obtain rfl : i = n := by omega
      have Hv := Lib.hid (has_f (l := l) (y := y) fun j hj => Hall.out j (by have := hl.out; omega))
      go_wp2_with fail
      go_ret
      exact ⟨by rw [Hv.out]; rfl, rfl⟩
theorem own_lit1 (w : World) (base : Nat) (u : Int) (hb : base ≤ w.heap.size) : Own (w.alloc (.cells #[.int .i64 u] 3)) base (.slice (some ⟨w.heap.size, 0, none⟩) 1 1) [u] := by
  have := World.ownsRow_lit (size := 1) (e := 3) (base := base) w #[.int .i64 u] 1 hb (by simp [maxLen]) (by simp)
  simpa [Own, cs] using this
set_option maxHeartbeats 1000000 in
theorem spec_l2Way (aP : Option Addr) (nP cP : Nat) (aW : Option Addr) (nW cW : Nat) (ps ws : List Int) (X : Nat) (w : World) (h : Tre w aP nP cP aW nW cW ps ws) (hp : Pa ps) (hx : X < nP) :
    Calls Tryz.prog 138 #[.agg #[.slice aP nP cP, .slice aW nW cW], .int .i64 (X : Int)] w fun e w' => ∃ v, e = .returned v ∧ Own w' w.heap.size v (way ps X) ∧ Below w.heap.size w w' := by
  have Hp := Lib.hid hp
  have hn24 := hp.n24
  have hl := h.p.1
  have hlw := h.w.1
  have hpn := h.pn
  have hwn := h.wn
  have hb1 := below_new w (.cells #[.slice aP nP cP, .slice aW nW cW] 26)
  have hP1 := Lib.hid (Pair.new w (.slice aP nP cP) (.slice aW nW cW) 26)
  have H := Lib.hid h
  have Hl := Lib.hid hl
  have Hlw := Lib.hid hlw
  clear h hl hlw
  have hnP : nP ≤ 24 := by have := Hl.out; omega
  clear hp hn24
  go_enter Tryz.func138, Tryz.ntmps138
  go_wp2_with fail
  have hown0 := own_lit1 (w.alloc (.cells #[.slice aP nP cP, .slice aW nW cW] 26)) (w.heap.size + 1) (X : Int) (by simp)
  rw [show (w.alloc (.cells #[.slice aP nP cP, .slice aW nW cW] 26)).heap.size = w.heap.size + 1 by simp] at hown0
  have hb2 : Below w.heap.size w ((w.alloc (.cells #[.slice aP nP cP, .slice aW nW cW] 26)).alloc (.cells #[.int .i64 (X : Int)] 3)) := hb1.alloc (by simp) _
  have hP2 := Lib.hid (hP1.out.alloc (.cells #[.int .i64 (X : Int)] 3))
  generalize ((w.alloc (.cells #[.slice aP nP cP, .slice aW nW cW] 26)).alloc (.cells #[.int .i64 (X : Int)] 3)) = w2 at *
  clear hP1 hb1
  go_loopw [1, 5] (fun v6 v5 wr => ∃ (cur : Nat) (rest : List Int), cur ≤ X ∧ v6 = .int .i64 (cur : Int) ∧ way ps X = way ps cur ++ rest ∧ Own wr (w.heap.size + 1) v5 ((cur : Int) :: rest) ∧ Pair wr w.heap.size (.slice aP nP cP) (.slice aW nW cW) ∧ Below w.heap.size w wr) (fun v6 _ _ => (intOf v6).toNat)
  case atStart => exact ⟨X, [], Nat.le_refl _, rfl, by simp, hown0, hP2.out, hb2⟩
  case round =>
    clear hown0 hP2 hb2
    obtain ⟨cur, rest, hcur, rfl, hway, hown, hP, hbel⟩ := hrel
    have c0 := hP.c0
    have HP := Lib.hid hP
    clear hP
    by_cases hlt : (cur : Int) > 0
    · obtain ⟨b, off, rfl, hc⟩ := H.out.p.at (i := cur) hbel (by omega)
      have hup := Hp.out.upN (x := cur) (by omega) (by have := Hl.out; omega)
      have hwu := way_up Hp.out (x := cur) (by omega) (by have := Hl.out; omega)
      have hlen := way_length Hp.out X (by have := Hl.out; omega)
      rw [hway, List.length_append] at hlen
      have hrl : Hid (rest.length ≤ 24) := Lib.hid (by omega)
      rw [hup.1] at hc
      have hpl := hup.2
      have Hway : Hid (way ps X = way ps (par ps cur) ++ ((cur : Int) :: rest)) := Lib.hid (by rw [hway, hwu, List.append_assoc]; rfl)
      clear hup hwu hlen hway
      generalize par ps cur = q at *
      obtain ⟨a5, c5, rfl⟩ := hown.shape
      have hcap := hown.cap.2.1
      have hI := Lib.hid (hown.ints.below (below_new wr (.cells #[.int .i64 (q : Int)] 3)))
      have hle : w.heap.size + 1 ≤ wr.heap.size := by have := HP.out.lt; omega
      have hl1 := Lib.hid (own_lit1 wr (w.heap.size + 1) (q : Int) hle)
      have HPn := Lib.hid (HP.out.alloc (.cells #[.int .i64 (q : Int)] 3))
      have hbn := hbel.alloc (by omega) (.cells #[.int .i64 (q : Int)] 3)
      clear hown
      go_wp2_with (at_builtin; refine wp_appI _ _ rfl rfl (w.heap.size + 1) _ [(q : Int)] rfl hl1.out a5 _ c5 ((cur : Int) :: rest) rfl hcap hI.out (by have := hrl.out; simp; omega) (by simp; omega) ?_; intro v' w' ho hb)
      go_roundw
      case rel => exact ⟨q, (cur : Int) :: rest, by omega, rfl, Hway.out, ho, HPn.out.up hb (by omega), hbn.trans (hb.mono (by omega))⟩
      case measure => simp [intOf]; omega
    · obtain rfl : cur = 0 := by omega
      have hfin : way ps X = (0 : Int) :: rest := by rw [hway, way_zero]; rfl
      have Hfin := Lib.hid hfin
      clear hfin hway
      go_wp2_with fail
      go_ret
      exact ⟨_, rfl, by rw [Hfin.out]; exact hown.mono (by omega), hbel⟩
end Go.Proofs.YtnbomleieianoaaGreat
