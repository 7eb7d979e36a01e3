/- Three lists that are made together, apart from each other: one more number in each. -/
import Derived.Test.YtcoakeedgngogaaMkt
import Derived.Test.YtcoakeedgngogaaB4
import Derived.Test.YtcoakeedgngogaaHeldK
namespace Go.Proofs.Ytcoakeedgngogaa
open Go.RowKit

structure Tri (w : World) (B : Nat) (vP vW vL : Value) (ps ws ls : List Int) : Prop where
  p : Own w B vP ps
  q : Own w B vW ws
  l : Own w B vL ls
  pq : ∀ k, vP.ownBlock = some k → vW.ownBlock ≠ some k
  pl : ∀ k, vP.ownBlock = some k → vL.ownBlock ≠ some k
  ql : ∀ k, vW.ownBlock = some k → vL.ownBlock ≠ some k
theorem Tri.below {w w' : World} {B : Nat} {vP vW vL : Value} {ps ws ls : List Int} (h : Tri w B vP vW vL ps ws ls) (hb : Below w.heap.size w w') : Tri w' B vP vW vL ps ws ls :=
  ⟨h.p.below hb, h.q.below hb, h.l.below hb, h.pq, h.pl, h.ql⟩
theorem ne_swap {a b : Value} (h : ∀ k, a.ownBlock = some k → b.ownBlock ≠ some k) : ∀ k, b.ownBlock = some k → a.ownBlock ≠ some k := fun k h1 h2 => h k h2 h1
theorem new_ne {w w' : World} {B : Nat} {u v v' : Value} {xs : List Int} (hm : Moved w v w' v') (hu : Own w B u xs) (hn : ∀ k, u.ownBlock = some k → v.ownBlock ≠ some k) : ∀ k, u.ownBlock = some k → v'.ownBlock ≠ some k :=
  fun k hk => (hm.2 k (World.ownsRow.lt hu k hk).2 (hn k hk)).1
theorem Tri.pushP {w w' : World} {B : Nat} {vP vW vL v' : Value} {ps ws ls ps' : List Int} (h : Tri w B vP vW vL ps ws ls) (ho : Own w' B v' ps') (hm : Moved w vP w' v') : Tri w' B v' vW vL ps' ws ls :=
  ⟨ho, h.q.moved hm (ne_swap h.pq), h.l.moved hm (ne_swap h.pl), ne_swap (new_ne hm h.q (ne_swap h.pq)), ne_swap (new_ne hm h.l (ne_swap h.pl)), h.ql⟩
theorem Tri.pushW {w w' : World} {B : Nat} {vP vW vL v' : Value} {ps ws ls ws' : List Int} (h : Tri w B vP vW vL ps ws ls) (ho : Own w' B v' ws') (hm : Moved w vW w' v') : Tri w' B vP v' vL ps ws' ls :=
  ⟨h.p.moved hm h.pq, ho, h.l.moved hm (ne_swap h.ql), new_ne hm h.p h.pq, h.pl, ne_swap (new_ne hm h.l (ne_swap h.ql))⟩
theorem Tri.pushL {w w' : World} {B : Nat} {vP vW vL v' : Value} {ps ws ls ls' : List Int} (h : Tri w B vP vW vL ps ws ls) (ho : Own w' B v' ls') (hm : Moved w vL w' v') : Tri w' B vP vW v' ps ws ls' :=
  ⟨h.p.moved hm h.pl, h.q.moved hm h.ql, ho, h.pq, new_ne hm h.p h.pl, new_ne hm h.q h.ql⟩
theorem Tri.far {w : World} {B g i : Nat} {vP vW vL u : Value} {ps ws ls : List Int} (h : Tri w B vP vW vL ps ws ls) (hg : g < B) : Tri (w.setCell ⟨g, i, none⟩ u) B vP vW vL ps ws ls :=
  ⟨h.p.far (a := ⟨g, i, none⟩) (fun e => absurd (World.ownsRow.lt h.p _ e).1 (by show ¬ B ≤ g; omega)) u, h.q.far (a := ⟨g, i, none⟩) (fun e => absurd (World.ownsRow.lt h.q _ e).1 (by show ¬ B ≤ g; omega)) u, h.l.far (a := ⟨g, i, none⟩) (fun e => absurd (World.ownsRow.lt h.l _ e).1 (by show ¬ B ≤ g; omega)) u, h.pq, h.pl, h.ql⟩
theorem Trip.s {w : World} {g : Nat} {x y z : Value} (h : Trip w g x y z) : w.cell? ⟨g, 0, none⟩ = some x ∧ w.cell? ⟨g, 1, none⟩ = some y ∧ w.cell? ⟨g, 2, none⟩ = some z := ⟨h.c0, h.c1, h.c2⟩
theorem Trip.drew {w : World} {g : Nat} {x y z : Value} (h : Trip w g x y z) : Trip w.drew g x y z := h.below (Below.refl _ _).drew
/-- A number in a block. -/
def LitI (w : World) (g : Nat) (x : Int) : Prop := w.cell? ⟨g, 0, none⟩ = some (.int .i64 x)
theorem lit_new (w : World) (x : Int) (g : Nat) (h : g = w.heap.size) : LitI (w.alloc (.cells #[.int .i64 x] 3)) g x := by
  subst h; rw [LitI, World.cell?_alloc_at _ _ _ _ rfl]; rfl
theorem LitI.below {w w' : World} {g : Nat} {x : Int} (h : LitI w g x) (hb : Below w.heap.size w w') : LitI w' g x := cell_up hb h
theorem LitI.alloc {w : World} {g : Nat} {x : Int} (h : LitI w g x) (o : Obj) : LitI (w.alloc o) g x := h.below (below_new w o)
theorem LitI.drew {w : World} {g : Nat} {x : Int} (h : LitI w g x) : LitI w.drew g x := h.below (Below.refl _ _).drew
theorem LitI.moved {w w' : World} {g : Nat} {x : Int} {v v' : Value} (h : LitI w g x) (hm : Moved w v w' v') (hne : v.ownBlock ≠ some g) : LitI w' g x := by
  have hlt := World.block_lt_of_cell? w _ h
  exact (World.cell?_of_block (a := ⟨g, 0, none⟩) (hm.2 g hlt hne).2).trans h
theorem step_pushI {ops : Array Oper} {o : Oper} {a : Act} {K : Act → World → Prop} {Q : Exit → Act → World → Prop} {E : Prop} {W : World} {x : Int} {g0 : Nat} (hgd : o.guard = none) (s y : Operand)
    (ho : o.op = .call { callee := .builtin .append, args := #[s, y], argTypes := #[31, 31] })
    (base : Nat) (v : Value) (xs : List Int) (hs : a.eval s = v) (hown : Own W base v xs) (hx : a.eval y = .slice (some ⟨g0, 0, none⟩) 1 1)
    (hp : LitI W g0 x) (hl : xs.length ≤ 1048576) (hb : base ≤ W.heap.size)
    (h : ∀ v' w', Own w' base v' (xs ++ [x]) → Below base W w' → Moved W v w' v' → K (a.put o.dst v') w') :
    if Region.wanted o (yielded ops a.tmps) = true then Oper.wp Try.prog o a W K Q else E := by
  obtain ⟨i0, hi0, hz0, hz1, hz2⟩ := info_parts info_int
  refine step_append_lies _ hgd s y 31 ho base 3 i0 (.int .i64 0) 1 8 Try.underlying31 hi0 hz0 hz1 hz2 rfl (by decide) v xs.length (cs xs) hs
    hown ⟨g0, 0, none⟩ 1 1 [.int .i64 x] hx rfl
    (fun j u hu => ?_) (by simp [Value.oneCell']) (by decide) (by simp only [maxLen]; omega) (by omega) hb W.heap.size rfl ?_
  · have hadd : (⟨g0, 0, none⟩ : Addr).add j = ⟨g0, j, none⟩ := by unfold Addr.add; split <;> simp_all
    rw [hadd]
    match j, hu with
    | 0, hu => cases hu; exact hp
  · intro g cap w' h1 h2 h3 _
    refine h _ w' ?_ ?_ ⟨h2.size, fun b hb' hne => ⟨fun e => ?_, ?_⟩⟩
    · unfold Own
      rw [← cs_append, List.length_append]; exact h1
    · exact (Below.refl base W).grown h2 hb fun k hk => (World.ownsRow.lt hown k hk).1
    · simp [Value.ownBlock] at e
      rcases h3 with h3 | h3
      · rw [h3, e] at hne; exact hne rfl
      · omega
    · exact h2.block b hb' (fun e => hne e.symm)
section
variable {ops : Array Oper} {o : Oper} {a : Act} {K : Act → World → Prop} {Q : Exit → Act → World → Prop} {E : Prop} {w0 W : World} {x : Int} {B g0 : Nat} {vP vW vL : Value} {ps ws ls : List Int}
theorem step_triP (hgd : o.guard = none) (s y : Operand)
    (ho : o.op = .call { callee := .builtin .append, args := #[s, y], argTypes := #[31, 31] })
    (hs : a.eval s = vP) (hx : a.eval y = .slice (some ⟨g0, 0, none⟩) 1 1) (HG : Tri w0 B vP vW vL ps ws ls) (hW : Below w0.heap.size w0 W)
    (hp : LitI W g0 x) (hl : ps.length ≤ 1048576) (hB : B ≤ w0.heap.size)
    (h : ∀ v' w', Tri w' B v' vW vL (ps ++ [x]) ws ls → Below B w0 w' → (∀ g z, LitI W g z → vP.ownBlock ≠ some g → LitI w' g z) → K (a.put o.dst v') w') :
    if Region.wanted o (yielded ops a.tmps) = true then Oper.wp Try.prog o a W K Q else E :=
  step_pushI hgd s y ho B vP ps hs (HG.p.below hW) hx hp hl (Nat.le_trans hB hW.size) fun v' w' h1 h2 h3 =>
    h v' w' ((HG.below hW).pushP h1 h3) ((hW.mono hB).trans h2) fun _ _ hq he => hq.moved h3 he
theorem step_triW (hgd : o.guard = none) (s y : Operand)
    (ho : o.op = .call { callee := .builtin .append, args := #[s, y], argTypes := #[31, 31] })
    (hs : a.eval s = vW) (hx : a.eval y = .slice (some ⟨g0, 0, none⟩) 1 1) (HG : Tri w0 B vP vW vL ps ws ls) (hW : Below w0.heap.size w0 W)
    (hp : LitI W g0 x) (hl : ws.length ≤ 1048576) (hB : B ≤ w0.heap.size)
    (h : ∀ v' w', Tri w' B vP v' vL ps (ws ++ [x]) ls → Below B w0 w' → (∀ g z, LitI W g z → vW.ownBlock ≠ some g → LitI w' g z) → K (a.put o.dst v') w') :
    if Region.wanted o (yielded ops a.tmps) = true then Oper.wp Try.prog o a W K Q else E :=
  step_pushI hgd s y ho B vW ws hs (HG.q.below hW) hx hp hl (Nat.le_trans hB hW.size) fun v' w' h1 h2 h3 =>
    h v' w' ((HG.below hW).pushW h1 h3) ((hW.mono hB).trans h2) fun _ _ hq he => hq.moved h3 he
theorem step_triL (hgd : o.guard = none) (s y : Operand)
    (ho : o.op = .call { callee := .builtin .append, args := #[s, y], argTypes := #[31, 31] })
    (hs : a.eval s = vL) (hx : a.eval y = .slice (some ⟨g0, 0, none⟩) 1 1) (HG : Tri w0 B vP vW vL ps ws ls) (hW : Below w0.heap.size w0 W)
    (hp : LitI W g0 x) (hl : ls.length ≤ 1048576) (hB : B ≤ w0.heap.size)
    (h : ∀ v' w', Tri w' B vP vW v' ps ws (ls ++ [x]) → Below B w0 w' → (∀ g z, LitI W g z → vL.ownBlock ≠ some g → LitI w' g z) → K (a.put o.dst v') w') :
    if Region.wanted o (yielded ops a.tmps) = true then Oper.wp Try.prog o a W K Q else E :=
  step_pushI hgd s y ho B vL ls hs (HG.l.below hW) hx hp hl (Nat.le_trans hB hW.size) fun v' w' h1 h2 h3 =>
    h v' w' ((HG.below hW).pushL h1 h3) ((hW.mono hB).trans h2) fun _ _ hq he => hq.moved h3 he
end
end Go.Proofs.Ytcoakeedgngogaa
