/- Small words on memory, continued: appending a whole list inside a region that draws its order; parts of slices. -/
import Derived.Test.YtcoakeedgngogaaKeepB
namespace Go.Proofs.Ytcoakeedgngogaa
open Go.RowKit

theorem nth_take {xs : List Int} {k i : Nat} (h : i < k) : nth (xs.take k) i = nth xs i := by unfold nth; simp [List.getD, h]
theorem nth_drop (xs : List Int) (k i : Nat) : nth (xs.drop k) i = nth xs (k + i) := by unfold nth; simp [List.getD, List.getElem?_drop]
theorem Ints.take {w : World} {a : Option Addr} {n : Nat} {xs : List Int} (h : Ints w a n xs) {k : Nat} (hk : k ≤ n) : Ints w a k (xs.take k) :=
  ⟨by rw [List.length_take, h.1]; omega, fun h0 => by
    obtain ⟨b, off, rfl, hlt, hc⟩ := h.2 (by omega)
    exact ⟨b, off, rfl, hlt, fun j hj => by rw [nth_take hj]; exact hc j (by omega)⟩⟩
theorem Ints.drop {w : World} {b off n : Nat} {xs : List Int} (h : Ints w (some ⟨b, off, none⟩) n xs) (k : Nat) : Ints w (some ⟨b, off + k, none⟩) (n - k) (xs.drop k) :=
  ⟨by rw [List.length_drop, h.1], fun h0 => by
    obtain ⟨b', off', he, hlt, hc⟩ := h.2 (by omega)
    cases he
    exact ⟨b, off + k, rfl, hlt, fun j hj => by rw [nth_drop, Nat.add_assoc]; exact hc (k + j) (by omega)⟩⟩
theorem ints_nil (w : World) (a : Option Addr) : Ints w a 0 [] := ⟨rfl, fun h => by omega⟩
/-- 'append(xs, ys...)' onto a slice of ints that the call owns, as a run. -/
theorem run_appI {w : World} (ty : TypeId) (base : Nat) (v : Value) (xs : List Int) (hown : Own w base v xs) (ad : Option Addr) (m c : Nat) (ys : List Int) (hc : ad = none → c = 0) (hy : Ints w ad m ys) (hl : xs.length + m ≤ 17592186040320) (hbase : base ≤ w.heap.size) :
    ∃ v' w', (Builtin.append_ #[31, 31] ty #[v, .slice ad m c]).run Try.prog w = .ok v' w' ∧ Own w' base v' (xs ++ ys) ∧ Below base w w' ∧ Moved w v w' v' := by
  obtain ⟨i0, hi0, hz0, hz1, hz2⟩ := info_parts info_int
  have hm := hy.1
  cases ad with
  | none =>
    obtain rfl : m = 0 := by
      cases m with
      | zero => rfl
      | succ m => obtain ⟨b, off, he, _⟩ := hy.2 (by omega); cases he
    obtain rfl := hc rfl
    have : ys = [] := List.length_eq_zero_iff.1 hm
    exact ⟨v, w, run_append_owned_none (P := Try.prog) w base 31 ty 3 i0 1 Try.underlying31 hi0 v _ _ hown, by rw [this, List.append_nil]; exact hown, Below.refl _ _, Nat.le_refl _, fun g _ h => ⟨h, rfl⟩⟩
  | some p =>
    have hcell : ∀ j, j < m → w.cell? (p.add j) = some (.int .i64 (nth ys j)) := fun j hj => by
      obtain ⟨b, off, he, _, hcell⟩ := hy.2 (by omega)
      cases he
      rw [show (⟨b, off, none⟩ : Addr).add j = ⟨b, off + j, none⟩ by unfold Addr.add; split <;> simp_all]
      exact hcell j hj
    obtain ⟨v', w', hr, h1, h2, _, h4⟩ := run_append_own_at (P := Try.prog) w base 31 ty 3 i0 (.int .i64 0) 1 8 Try.underlying31 hi0 hz0 hz1 hz2 rfl (by decide) v xs.length (cs xs) hown p m c (cs ys) (by rw [cs_length]; omega)
      (fun j u hu => by
        have hj : j < m := by
          have := (List.getElem?_eq_some_iff.1 hu).1
          rw [cs_length] at this; omega
        rw [cs_get? _ _ (by omega)] at hu
        rw [hcell j hj]; exact hu) (cs_one ys) (by simp only [maxLen]; omega) (by omega) hbase
    refine ⟨v', w', hr, ?_, (Below.refl _ _).grown h2 hbase fun k hk => (World.ownsRow.lt hown k hk).1, h2.size, fun g hg hne => ⟨?_, h2.block g hg (fun e => hne e.symm)⟩⟩
    · unfold Own
      rw [← cs_append, List.length_append, hm]
      exact h1
    · rcases h4 with h4 | h4
      · rw [h4]; exact hne
      · rw [h4]; intro e; cases e; omega
/-- The same at an operation of a region that draws its order. -/
theorem step_appI {ops : Array Oper} {o : Oper} {a : Act} {K : Act → World → Prop} {Q : Exit → Act → World → Prop} {E : Prop} {w : World} (hgd : o.guard = none) (s x : Operand)
    (ho : o.op = .call { callee := .builtin .append, args := #[s, x], argTypes := #[31, 31] })
    (base : Nat) (v : Value) (xs : List Int) (hs : a.eval s = v) (hown : Own w base v xs) (ad : Option Addr) (m c : Nat) (ys : List Int) (hx : a.eval x = .slice ad m c) (hc : ad = none → c = 0) (hy : Ints w ad m ys) (hl : xs.length + m ≤ 17592186040320) (hbase : base ≤ w.heap.size)
    (h : ∀ v' w', Own w' base v' (xs ++ ys) → Below base w w' → Moved w v w' v' → K (a.put o.dst v') w') :
    if Region.wanted o (yielded ops a.tmps) = true then Oper.wp Try.prog o a w K Q else E := by
  have hw : Region.wanted o (yielded ops a.tmps) = true := by simp [Region.wanted, hgd]
  rw [if_pos hw]
  obtain ⟨v', w', hr, h1, h2, h3⟩ := run_appI o.type base v xs hown ad m c ys hc hy hl hbase
  unfold Oper.wp execOp
  simp only [ho, resolve, invoke, builtin, Sem.run_bind, Sem.run_pure, Result.andThen_ok, List.map_toArray, List.map_cons, List.map_nil, hs, hx, hr]
  exact h v' w' h1 h2 h3
/-- Another slice that the call owns, behind an append to v. -/
theorem Own.moved {w w' : World} {base : Nat} {u v v' : Value} {xs : List Int} (h : Own w base u xs) (hm : Moved w v w' v') (ha : ∀ g, u.ownBlock = some g → v.ownBlock ≠ some g) : Own w' base u xs := by
  unfold Own World.ownsRow at *
  refine ⟨h.1, ?_⟩
  rcases h.2 with h1 | ⟨g, cp, cur, h1, h2, h3, h4⟩
  · exact .inl h1
  · have hlt : g < w.heap.size := by
      rcases Nat.lt_or_ge g w.heap.size with hl | hl
      · exact hl
      · rw [Array.getElem?_eq_none hl] at h3; cases h3
    exact .inr ⟨g, cp, cur, h1, h2, by rw [(hm.2 g hlt (ha g (by rw [h1]; rfl))).2]; exact h3, h4⟩
end Go.Proofs.Ytcoakeedgngogaa
