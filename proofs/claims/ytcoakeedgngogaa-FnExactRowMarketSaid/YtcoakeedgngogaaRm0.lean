/- Words for the market of a row: what it reads as, a box with its three lists. -/
import Derived.Test.YtcoakeedgngogaaTri
namespace Go.Proofs.Ytcoakeedgngogaa
open Go.RowKit

/-- A market of the call's own, apart in its three lists. -/
def MkR (w : World) (B : Nat) (v : Value) (ps ws ls : List Int) : Prop := ∃ (aP : Option Addr) (cP : Nat) (aW : Option Addr) (cW : Nat) (aL : Option Addr) (cL : Nat), v = .agg #[.slice aP ps.length cP, .slice aW ws.length cW, .slice aL ls.length cL] ∧ Tri w B (.slice aP ps.length cP) (.slice aW ws.length cW) (.slice aL ls.length cL) ps ws ls
theorem Own.slice {w : World} {B : Nat} {v : Value} {xs : List Int} (h : Own w B v xs) : ∃ a c, v = .slice a xs.length c := by
  obtain ⟨a, c, e⟩ := h.shape; exact ⟨a, c, e⟩
theorem Own.sliceN {w : World} {B n : Nat} {v : Value} {xs : List Int} (h : Own w B v xs) (hn : xs.length = n) : ∃ a c, v = .slice a n c := by
  subst hn; exact h.slice
theorem Tri.nil (w : World) (B : Nat) : Tri w B (.slice none 0 0) (.slice none 0 0) (.slice none 0 0) [] [] [] :=
  ⟨Own.nil _ _, Own.nil _ _, Own.nil _ _, fun _ h => (by cases h), fun _ h => (by cases h), fun _ h => (by cases h)⟩
theorem Tri.mono {w : World} {B B' : Nat} {vP vW vL : Value} {ps ws ls : List Int} (h : Tri w B vP vW vL ps ws ls) (hb : B' ≤ B) : Tri w B' vP vW vL ps ws ls :=
  ⟨h.p.mono hb, h.q.mono hb, h.l.mono hb, h.pq, h.pl, h.ql⟩
theorem Tri.mkr {w : World} {B : Nat} {vP vW vL : Value} {ps ws ls : List Int} (h : Tri w B vP vW vL ps ws ls) : MkR w B (.agg #[vP, vW, vL]) ps ws ls := by
  obtain ⟨aP, cP, h1⟩ := h.p.slice
  obtain ⟨aW, cW, h2⟩ := h.q.slice
  obtain ⟨aL, cL, h3⟩ := h.l.slice
  subst h1 h2 h3
  exact ⟨aP, cP, aW, cW, aL, cL, rfl, h⟩
theorem own_lit1 (w : World) (base : Nat) (x : Int) (hb : base ≤ w.heap.size) : Own (w.alloc (.cells #[.int .i64 x] 3)) base (.slice (some ⟨w.heap.size, 0, none⟩) 1 1) [x] := by
  have := World.ownsRow_lit (size := 1) (e := 3) (base := base) w #[.int .i64 x] 1 hb (by simp [maxLen]) (by simp)
  simpa [Own, cs] using this
/-- A box with three lists in it, apart from them. -/
structure BxM (w : World) (B g : Nat) (vP vW vL : Value) (ps ws ls : List Int) : Prop where
  box : Trip w g vP vW vL
  t : Tri w B vP vW vL ps ws ls
  np : vP.ownBlock ≠ some g
  nw : vW.ownBlock ≠ some g
  nl : vL.ownBlock ≠ some g
theorem BxM.below {w w' : World} {B g : Nat} {vP vW vL : Value} {ps ws ls : List Int} (h : BxM w B g vP vW vL ps ws ls) (hb : Below w.heap.size w w') : BxM w' B g vP vW vL ps ws ls :=
  ⟨h.box.below hb, h.t.below hb, h.np, h.nw, h.nl⟩
theorem Trip.moved {w w' : World} {g : Nat} {x y z v v' : Value} (h : Trip w g x y z) (hm : Moved w v w' v') (hne : v.ownBlock ≠ some g) : Trip w' g x y z := by
  have hb := (hm.2 g h.lt hne).2
  exact ⟨(World.cell?_of_block (a := ⟨g, 0, none⟩) hb).trans h.c0, (World.cell?_of_block (a := ⟨g, 1, none⟩) hb).trans h.c1, (World.cell?_of_block (a := ⟨g, 2, none⟩) hb).trans h.c2, (World.frozen?_of_block (a := ⟨g, 0, none⟩) hb).trans h.f0, (World.frozen?_of_block (a := ⟨g, 1, none⟩) hb).trans h.f1, (World.frozen?_of_block (a := ⟨g, 2, none⟩) hb).trans h.f2⟩
theorem Tri.set {w : World} {B g i : Nat} {vP vW vL u : Value} {ps ws ls : List Int} (h : Tri w B vP vW vL ps ws ls) (n1 : vP.ownBlock ≠ some g) (n2 : vW.ownBlock ≠ some g) (n3 : vL.ownBlock ≠ some g) : Tri (w.setCell ⟨g, i, none⟩ u) B vP vW vL ps ws ls :=
  ⟨h.p.far (a := ⟨g, i, none⟩) n1 u, h.q.far (a := ⟨g, i, none⟩) n2 u, h.l.far (a := ⟨g, i, none⟩) n3 u, h.pq, h.pl, h.ql⟩
/-- One list is made longer, and laid into the box again. -/
theorem BxM.stP {w w' : World} {B g : Nat} {vP vW vL v' : Value} {ps ws ls ps' : List Int} (h : BxM w B g vP vW vL ps ws ls) (ho : Own w' B v' ps') (hm : Moved w vP w' v') : (Trip w' g vP vW vL) ∧ BxM (w'.setCell ⟨g, 0, none⟩ v') B g v' vW vL ps' ws ls := by
  have h1 := h.box.moved hm h.np
  have h2 := h.t.pushP ho hm
  have h3 := (hm.2 g h.box.lt h.np).1
  exact ⟨h1, h1.put0 v', h2.set h3 h.nw h.nl, h3, h.nw, h.nl⟩
theorem BxM.stW {w w' : World} {B g : Nat} {vP vW vL v' : Value} {ps ws ls ws' : List Int} (h : BxM w B g vP vW vL ps ws ls) (ho : Own w' B v' ws') (hm : Moved w vW w' v') : (Trip w' g vP vW vL) ∧ BxM (w'.setCell ⟨g, 1, none⟩ v') B g vP v' vL ps ws' ls := by
  have h1 := h.box.moved hm h.nw
  have h2 := h.t.pushW ho hm
  have h3 := (hm.2 g h.box.lt h.nw).1
  exact ⟨h1, h1.put1 v', h2.set h.np h3 h.nl, h.np, h3, h.nl⟩
theorem BxM.stL {w w' : World} {B g : Nat} {vP vW vL v' : Value} {ps ws ls ls' : List Int} (h : BxM w B g vP vW vL ps ws ls) (ho : Own w' B v' ls') (hm : Moved w vL w' v') : (Trip w' g vP vW vL) ∧ BxM (w'.setCell ⟨g, 2, none⟩ v') B g vP vW v' ps ws ls' := by
  have h1 := h.box.moved hm h.nl
  have h2 := h.t.pushL ho hm
  have h3 := (hm.2 g h.box.lt h.nl).1
  exact ⟨h1, h1.put2 v', h2.set h.np h.nw h3, h.np, h.nw, h3⟩
theorem ints_two (w : World) (x y : Int) : Ints (w.alloc (.cells #[.int .i64 x, .int .i64 y] 3)) (some ⟨w.heap.size, 0, none⟩) 2 [x, y] := by
  refine ⟨rfl, fun _ => ⟨_, _, rfl, by simp, fun j hj => ?_⟩⟩
  rw [World.cell?_alloc_at _ _ _ _ rfl]
  rcases (by omega : j = 0 ∨ j = 1) with rfl | rfl <;> rfl
/-- 'append(xs, ys...)', and what else stays. -/
theorem wp_appM {ops : Array Oper} {rest : List Oper} {o : Oper} {a : Act} {Q : Exit → Act → World → Prop} {w : World} (s x : Operand) (hgd : o.guard = none)
    (ho : o.op = .call { callee := .builtin .append, args := #[s, x], argTypes := #[31, 31] })
    (base : Nat) (v : Value) (xs : List Int) (hs : a.eval s = v) (hown : Own w base v xs) (ad : Option Addr) (m c : Nat) (ys : List Int) (hx : a.eval x = .slice ad m c) (hc : ad = none → c = 0) (hy : Ints w ad m ys) (hl : xs.length + m ≤ 17592186040320) (hbase : base ≤ w.heap.size)
    (h : ∀ v' w', Own w' base v' (xs ++ ys) → Below base w w' → Moved w v w' v' → wpList Try.prog ops Q rest (a.put o.dst v') w') : wpList Try.prog ops Q (o :: rest) a w := by
  have hw : Region.wanted o (yielded ops a.tmps) = true := by simp [Region.wanted, hgd]
  have := step_appI (ops := ops) (E := True) (K := wpList Try.prog ops Q rest) (Q := Q) hgd s x ho base v xs hs hown ad m c ys hx hc hy hl hbase h
  rw [if_pos hw] at this
  unfold wpList
  rw [if_pos hw]
  exact .inl this
end Go.Proofs.Ytcoakeedgngogaa
