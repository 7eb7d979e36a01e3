/- Small words on memory: appending to slices of bools that the call owns. -/
import Derived.Test.YtjkkfjipgomkdaaBo
import Derived.Test.YtjkkfjipgomkdaaB4
namespace Go.Proofs.Ytjkkfjipgomkdaa
open Go.RowKit
namespace Bo
theorem info_parts2 : ∃ i0, Try.prog.info? 4 = some i0 ∧ i0.zero = some (.bool false) ∧ i0.size = 1 ∧ i0.bytes = 1 := by
  have := info_bool
  cases h : Try.prog.info? 4 with
  | none => rw [h] at this; cases this
  | some i => rw [h] at this; simp at this; exact ⟨i, rfl, this.1, this.2.1, this.2.2⟩
theorem own_nil0 (w : World) : Own (w.alloc (.cells #[] 4)) w.heap.size (.slice (some ⟨w.heap.size, 0, none⟩) 0 0) [] := by
  have := World.ownsRow_lit (size := 1) (e := 4) (base := w.heap.size) w #[] 0 (Nat.le_refl _) (by simp [maxLen]) (by simp)
  simpa [Own, cs] using this
theorem own_lit1 (w : World) (base : Nat) (u : Bool) (hb : base ≤ w.heap.size) : Own (w.alloc (.cells #[.bool u] 4)) base (.slice (some ⟨w.heap.size, 0, none⟩) 1 1) [u] := by
  have := World.ownsRow_lit (size := 1) (e := 4) (base := base) w #[.bool u] 1 hb (by simp [maxLen]) (by simp)
  simpa [Own, cs] using this
theorem run_app1 {w : World} (ty : TypeId) (base : Nat) (v : Value) (xs : List Bool) (hown : Own w base v xs) (p : Addr) (c : Nat) (u : Bool) (hu : w.cell? (p.add 0) = some (.bool u)) (hl : xs.length ≤ 17592186040320) (hbase : base ≤ w.heap.size) :
    ∃ v' w', (Builtin.append_ #[67, 67] ty #[v, .slice (some p) 1 c]).run Try.prog w = .ok v' w' ∧ Own w' base v' (xs ++ [u]) ∧ Below base w w' ∧ Moved w v w' v' := by
  obtain ⟨i0, hi0, hz0, hz1, hz2⟩ := info_parts2
  obtain ⟨v', w', hr, h1, h2, _, h4⟩ := run_append_own_at (P := Try.prog) w base 67 ty 4 i0 (.bool false) 1 1 Try.underlying67 hi0 hz0 hz1 hz2 rfl (by decide) v xs.length (cs xs) hown p 1 c [.bool u] rfl
    (fun j x hx => by
      cases j with
      | zero => simp at hx; rw [hu, hx]
      | succ j => simp at hx) (by simp [Value.oneCell']) (by simp only [maxLen]; omega) (by omega) hbase
  refine ⟨v', w', hr, ?_, (Below.refl _ _).grown h2 hbase fun k hk => (World.ownsRow.lt hown k hk).1, h2.size, fun g hg hne => ⟨?_, h2.block g hg (fun e => hne e.symm)⟩⟩
  · unfold Own
    rw [← cs_append, List.length_append]
    exact h1
  · rcases h4 with h4 | h4
    · rw [h4]; exact hne
    · rw [h4]; intro e; cases e; omega
/-- 'append(xs, u)' where u was just laid into a new block. -/
theorem wp_push2 {ops : Array Oper} {rest : List Oper} {o : Oper} {a : Act} {Q : Exit → Act → World → Prop} {w : World} {u : Bool} (s x : Operand)
    (hgd : o.guard = none) (ho : o.op = .call { callee := .builtin .append, args := #[s, x], argTypes := #[67, 67] })
    (base : Nat) (v : Value) (xs : List Bool) (hs : a.eval s = v) (hown : Own w base v xs) (hx : a.eval x = .slice (some ⟨w.heap.size, 0, none⟩) 1 1)
    (hl : xs.length ≤ 17592186040320) (hb : base ≤ w.heap.size)
    (h : ∀ v' w', Own w' base v' (xs ++ [u]) → Below base w w' → Moved w v w' v' → wpList Try.prog ops Q rest (a.put o.dst v') w') : wpList Try.prog ops Q (o :: rest) a (w.alloc (.cells #[.bool u] 4)) := by
  have hb0 : Below w.heap.size w (w.alloc (.cells #[.bool u] 4)) := below_new w _
  obtain ⟨v', w', hr, h1, h2, h3⟩ := run_app1 (w := w.alloc (.cells #[.bool u] 4)) o.type base v xs (hown.below hb0) ⟨w.heap.size, 0, none⟩ 1 u (by
    have : (⟨w.heap.size, 0, none⟩ : Addr).add 0 = ⟨w.heap.size, 0, none⟩ := by unfold Addr.add; split <;> simp_all
    rw [this, World.cell?_alloc_at _ _ _ _ rfl]; rfl) hl (by simp; omega)
  refine wpList_plain hgd fun K hK => ?_
  unfold Oper.wp execOp
  simp only [ho, resolve, invoke, builtin, Sem.run_bind, Sem.run_pure, Result.andThen_ok, List.map_toArray, List.map_cons, List.map_nil, hs, hx, hr]
  refine hK _ _ (h v' w' h1 ((hb0.mono hb).trans h2) ⟨by have := h3.1; simp at this; omega, fun g hg hne => ?_⟩)
  have := h3.2 g (by simp; omega) hne
  exact ⟨this.1, this.2.trans (hb0.block g hg)⟩
/-- The same as a step of a region that draws its order. -/
theorem step_push2 {ops : Array Oper} {o : Oper} {a : Act} {K : Act → World → Prop} {Q : Exit → Act → World → Prop} {E : Prop} {w : World} {u : Bool} (hgd : o.guard = none) (s x : Operand)
    (ho : o.op = .call { callee := .builtin .append, args := #[s, x], argTypes := #[67, 67] })
    (base : Nat) (v : Value) (xs : List Bool) (hs : a.eval s = v) (hown : Own w base v xs) (hx : a.eval x = .slice (some ⟨w.heap.size, 0, none⟩) 1 1)
    (hl : xs.length ≤ 17592186040320) (hb : base ≤ w.heap.size)
    (h : ∀ v' w', Own w' base v' (xs ++ [u]) → Below base w w' → Moved w v w' v' → K (a.put o.dst v') w') :
    if Region.wanted o (yielded ops a.tmps) = true then Oper.wp Try.prog o a (w.alloc (.cells #[.bool u] 4)).drew K Q else E := by
  have hw : Region.wanted o (yielded ops a.tmps) = true := by simp [Region.wanted, hgd]
  rw [if_pos hw]
  have hb0 : Below w.heap.size w (w.alloc (.cells #[.bool u] 4)).drew := (below_new w _).drew
  obtain ⟨v', w', hr, h1, h2, h3⟩ := run_app1 (w := (w.alloc (.cells #[.bool u] 4)).drew) o.type base v xs (hown.below hb0) ⟨w.heap.size, 0, none⟩ 1 u (by
    have : (⟨w.heap.size, 0, none⟩ : Addr).add 0 = ⟨w.heap.size, 0, none⟩ := by unfold Addr.add; split <;> simp_all
    rw [this]
    show (w.alloc (.cells #[.bool u] 4)).cell? _ = _
    rw [World.cell?_alloc_at _ _ _ _ rfl]; rfl) hl (by simp; omega)
  unfold Oper.wp execOp
  simp only [ho, resolve, invoke, builtin, Sem.run_bind, Sem.run_pure, Result.andThen_ok, List.map_toArray, List.map_cons, List.map_nil, hs, hx, hr]
  refine h v' w' h1 ((hb0.mono hb).trans h2) ⟨by have := h3.1; simp at this; omega, fun g hg hne => ?_⟩
  have := h3.2 g (by simp; omega) hne
  exact ⟨this.1, this.2.trans (hb0.block g hg)⟩
/-- The same where the world is no longer drawn. -/
theorem step_push3 {ops : Array Oper} {o : Oper} {a : Act} {K : Act → World → Prop} {Q : Exit → Act → World → Prop} {E : Prop} {w : World} {u : Bool} (hgd : o.guard = none) (s x : Operand)
    (ho : o.op = .call { callee := .builtin .append, args := #[s, x], argTypes := #[67, 67] })
    (base : Nat) (v : Value) (xs : List Bool) (hs : a.eval s = v) (hown : Own w base v xs) (hx : a.eval x = .slice (some ⟨w.heap.size, 0, none⟩) 1 1)
    (hl : xs.length ≤ 17592186040320) (hb : base ≤ w.heap.size)
    (h : ∀ v' w', Own w' base v' (xs ++ [u]) → Below base w w' → Moved w v w' v' → K (a.put o.dst v') w') :
    if Region.wanted o (yielded ops a.tmps) = true then Oper.wp Try.prog o a (w.alloc (.cells #[.bool u] 4)) K Q else E := by
  have hw : Region.wanted o (yielded ops a.tmps) = true := by simp [Region.wanted, hgd]
  rw [if_pos hw]
  have hb0 : Below w.heap.size w (w.alloc (.cells #[.bool u] 4)) := below_new w _
  obtain ⟨v', w', hr, h1, h2, h3⟩ := run_app1 (w := (w.alloc (.cells #[.bool u] 4))) o.type base v xs (hown.below hb0) ⟨w.heap.size, 0, none⟩ 1 u (by
    have : (⟨w.heap.size, 0, none⟩ : Addr).add 0 = ⟨w.heap.size, 0, none⟩ := by unfold Addr.add; split <;> simp_all
    rw [this]
    rw [World.cell?_alloc_at _ _ _ _ rfl]; rfl) hl (by simp; omega)
  unfold Oper.wp execOp
  simp only [ho, resolve, invoke, builtin, Sem.run_bind, Sem.run_pure, Result.andThen_ok, List.map_toArray, List.map_cons, List.map_nil, hs, hx, hr]
  refine h v' w' h1 ((hb0.mono hb).trans h2) ⟨by have := h3.1; simp at this; omega, fun g hg hne => ?_⟩
  have := h3.2 g (by simp; omega) hne
  exact ⟨this.1, this.2.trans (hb0.block g hg)⟩
theorem Own.moved {w w' : World} {base : Nat} {u v v' : Value} {xs : List Bool} (h : Own w base u xs) (hm : Moved w v w' v') (ha : ∀ g, u.ownBlock = some g → v.ownBlock ≠ some g) : Own w' base u xs := by
  unfold Own World.ownsRow at *
  refine ⟨h.1, ?_⟩
  rcases h.2 with h1 | ⟨g, cp, cur, h1, h2, h3, h4⟩
  · exact .inl h1
  · have hlt : g < w.heap.size := by
      rcases Nat.lt_or_ge g w.heap.size with hl | hl
      · exact hl
      · rw [Array.getElem?_eq_none hl] at h3; cases h3
    exact .inr ⟨g, cp, cur, h1, h2, by rw [(hm.2 g hlt (ha g (by rw [h1]; rfl))).2]; exact h3, h4⟩
end Bo
end Go.Proofs.Ytjkkfjipgomkdaa
