/- Steps through a region that draws its order, where a condition on the world is held up to the last operations, which wait for all that need it. -/
import Derived.Test.YtcoakeedgngogaaHeld
import Derived.OrdersHeld
namespace Go.Proofs.Ytcoakeedgngogaa
open Go.RowKit

section
variable {P : Program} {ops : Array Oper} {Q : Exit → Act → World → Prop} {md : Region.Mode} {S : World → Prop} {k : Nat}
/-- Whatever order is picked from here on; behind an operation whose number is below k the condition S holds. -/
def wpAnyK (P : Program) (md : Region.Mode) (ops : Array Oper) (Q : Exit → Act → World → Prop) (S : World → Prop) (k : Nat) : Nat → Array Bool → Act → World → Prop
  | 0, l, a, w => Region.ready md ops l = [] ∧ Q .normal a w
  | f + 1, l, a, w => (Region.ready md ops l = [] → Q .normal a w) ∧
    ∀ i ∈ Region.ready md ops l, wpOp P ops Q i (fun a' w' => (i < k → S w') ∧ wpAnyK P md ops Q S k f (l.setIfInBounds i true) a' w') a w
theorem any_of_K : ∀ (f : Nat) (l : Array Bool) (a : Act) (w : World), wpAnyK P md ops Q S k f l a w → wpAny P md ops Q f l a w
  | 0, _, _, _, h => h
  | f + 1, _, _, _, h => ⟨h.1, fun i hi => wpOp_mono (fun a' w' h' => any_of_K f _ a' w' h'.2) (h.2 i hi)⟩
/-- Number j waits for number i, by others or by itself. -/
def depB (md : Region.Mode) (ops : Array Oper) : Nat → Nat → Nat → Bool
  | 0, _, _ => false
  | f + 1, j, i => match ops[j]? with
    | some o => o.after.any fun e => Region.binds md e && (e.on == i || depB md ops f e.on i)
    | none => false
/-- All operations from number k on wait for number i. -/
def lateB (md : Region.Mode) (ops : Array Oper) (k i : Nat) : Bool := (List.range ops.size).all fun j => decide (j < k) || depB md ops 12 j i
/-- Whatever has come up has come up behind all that it waits for. -/
def Shutd (md : Region.Mode) (ops : Array Oper) (l : Array Bool) : Prop := ∀ (q : Nat) (o : Oper), ops[q]? = some o → l.getD q false = true → ∀ e ∈ o.after, Region.binds md e = true → l.getD e.on false = true
def shutB (md : Region.Mode) (ops : Array Oper) (l : Array Bool) : Bool := (List.range ops.size).all fun q => !(l.getD q false) || match ops[q]? with
  | some o => o.after.all fun e => !(Region.binds md e) || l.getD e.on false
  | none => true
theorem shut_spec {l : Array Bool} (h : shutB md ops l = true) : Shutd md ops l := fun q o ho hl e he hb => by
  rw [shutB, List.all_eq_true] at h
  have h1 := h q (List.mem_range.mpr (by have := Array.getElem?_eq_some_iff.1 ho; exact this.1))
  rw [hl, ho] at h1
  simp only [Bool.not_true, Bool.false_or, Array.all_eq_true, Bool.or_eq_true, Bool.not_eq_true'] at h1
  obtain ⟨x, hx, rfl⟩ := Array.mem_iff_getElem.1 he
  rcases h1 x hx with h2 | h2
  · rw [hb] at h2; cases h2
  · exact h2
theorem dep_spec {l : Array Bool} {i : Nat} (hl : Shutd md ops l) : ∀ (f j : Nat) (o : Oper), ops[j]? = some o → (∀ e ∈ o.after, Region.binds md e = true → l.getD e.on false = true) → depB md ops f j i = true → l.getD i false = true
  | 0, _, _, _, _, h => by cases h
  | f + 1, j, o, ho, hd, h => by
    rw [depB, ho] at h
    simp only [Array.any_eq_true, Bool.and_eq_true, Bool.or_eq_true, beq_iff_eq] at h
    obtain ⟨x, hx, h1, h2⟩ := h
    have h3 := hd _ (Array.getElem_mem hx) h1
    rcases h2 with h2 | h2
    · rw [← h2]; exact h3
    · cases hq : ops[o.after[x].on]? with
      | none =>
        cases f with
        | zero => cases h2
        | succ f => rw [depB, hq] at h2; cases h2
      | some q => exact dep_spec hl f _ q hq (fun e he hb => hl _ q hq h3 e he hb) h2
theorem late_spec {i : Nat} {l : Array Bool} (h : lateB md ops k i = true) (hl : Shutd md ops l) (hi : l.getD i false = false) {j : Nat} {o : Oper} (hj : ops[j]? = some o) (hd : ∀ e ∈ o.after, Region.binds md e = true → l.getD e.on false = true) : j < k := by
  rw [lateB, List.all_eq_true] at h
  have h1 := h j (List.mem_range.mpr (by have := Array.getElem?_eq_some_iff.1 hj; exact this.1))
  rcases Nat.lt_or_ge j k with g | g
  · exact g
  · rw [decide_eq_false (by omega), Bool.false_or] at h1
    have := dep_spec hl 12 j o hj hd h1
    rw [hi] at this; cases this
theorem unl {l : Array Bool} {i : Nat} (h : l.getD i true = false) : l.getD i false = false := by
  rcases Nat.lt_or_ge i l.size with g | g
  · simp [g] at h ⊢; exact h
  · simp [Array.getElem?_eq_none g] at h
theorem setNe {l : Array Bool} {i j : Nat} (h : i ≠ j) : (l.setIfInBounds i true).getD j false = l.getD j false := by
  simp [Array.getElem?_setIfInBounds, h]
theorem firstK {i : Nat} {oi : Oper} {v : Value} (hi : ops[i]? = some oi) (hsel : ∀ (j : Nat) (o : Oper) cs b, ops[j]? = some o → o.op ≠ .select cs b)
    (hlate : lateB md ops k i = true) (hQ : ∀ c a w, Q (.panic c) (a.put oi.dst v) w → Q (.panic c) a w) :
    ∀ (f : Nat) (l : Array Bool) (a : Act) (w : World),
      (∀ j oj, ops[j]? = some oj → j ≠ i → l.getD j true = false → (∀ e ∈ oj.after, Region.binds md e = true → e.on ≠ i) → oi.apart ops oj = true) →
      i ∈ Region.ready md ops l → Shutd md ops l → YieldsIf P ops S oi v a → S w →
      wpAnyK P md ops Q S k f (l.setIfInBounds i true) (a.put oi.dst v) w → wpAnyK P md ops Q S k (f + 1) l a w
  | 0, l, a, w, _, hr, hl, hy, hS, H => by
    refine ⟨fun h => by rw [h] at hr; exact absurd hr (by simp), fun j hj => ?_⟩
    rcases Nat.decEq j i with hne | rfl
    · have := ready_mono hj hne; rw [H.1] at this; exact absurd this (by simp)
    · exact hy.wpOp hi hS ⟨fun _ => hS, H⟩
  | f + 1, l, a, w, hfree, hr, hl, hy, hS, H => by
    refine ⟨fun h => by rw [h] at hr; exact absurd hr (by simp), fun j hj => ?_⟩
    rcases Nat.decEq j i with hne | rfl
    · have hj2 := mem_ready.1 hj
      obtain ⟨hun, oj, hoj, hall⟩ := hj2
      have hno : ∀ e ∈ oj.after, Region.binds md e = true → e.on ≠ i := by
        intro e he hb heq
        have g1 := hall e he hb
        have g0 := (mem_ready.1 hr).1
        rw [heq] at g1
        rcases Nat.lt_or_ge i l.size with g | g
        · simp [g] at g0 g1; rw [g0] at g1; cases g1
        · simp [Array.getElem?_eq_none g] at g1
      have hjk : j < k := late_spec hlate hl (unl (mem_ready.1 hr).1) hoj hall
      have hl2 : Shutd md ops (l.setIfInBounds j true) := fun q oq hq hlq e he hb => by
        have hon : l.getD e.on false = true := by
          by_cases hjq : j = q
          · subst hjq; rw [hoj] at hq; cases hq; exact hall e he hb
          · rw [setNe hjq] at hlq; exact hl q oq hq hlq e he hb
        by_cases hje : j = e.on
        · rw [← hje, unl hun] at hon; cases hon
        · rw [setNe hje]; exact hon
      have h2 := wpOp_putIf hoj (hfree j oj hoj hne hun hno) (fun cs b => hsel i oi cs b hi) (fun cs b => hsel j oj cs b hoj) hQ hy (H.2 j (ready_mono hj hne))
      refine wpOp_mono (fun a' w' h3 => ⟨h3.2.1, ?_⟩) h2
      refine firstK hi hsel hlate hQ f (l.setIfInBounds j true) a' w' (fun q oq hq hqi hqu hqn => hfree q oq hq hqi ?_ hqn) (ready_mono hr (Ne.symm hne)) hl2 h3.1 (h3.2.1 hjk) ?_
      · by_cases e : j = q
        · subst e; exact hun
        · rw [getD_set_ne true e] at hqu; exact hqu
      · rw [Array.setIfInBounds_comm _ _ hne]; exact h3.2.2
    · exact hy.wpOp hi hS ⟨fun _ => hS, H⟩
theorem takeK {i : Nat} {oi : Oper} {v : Value} {f : Nat} {l : Array Bool} {a : Act} {w : World} (hi : (ops.toList.drop i).head? = some oi)
    (hs : Region.noSelect ops = true) (hlate : lateB md ops k i = true) (hsh : shutB md ops l = true) (hf : Region.free md ops l i = true) (hr : (Region.ready md ops l).contains i = true)
    (hQ : ∀ c a w, Q (.panic c) (a.put oi.dst v) w → Q (.panic c) a w) (hy : YieldsIf P ops S oi v a) (hS : S w)
    (h : wpAnyK P md ops Q S k f (l.setIfInBounds i true) (a.put oi.dst v) w) : wpAnyK P md ops Q S k (f + 1) l a w :=
  firstK (get_drop hi) (Region.noSelect_spec hs) hlate hQ f l a w (Region.free_spec (get_drop hi) hf) (by simpa using hr) (shut_spec hsh) hy hS h
def AllK (P : Program) (md : Region.Mode) (ops : Array Oper) (Q : Exit → Act → World → Prop) (S : World → Prop) (k f : Nat) (l : Array Bool) (a : Act) (w : World) (rs : List Nat) : Prop :=
  ∀ i ∈ rs, wpOp P ops Q i (fun a' w' => (i < k → S w') ∧ wpAnyK P md ops Q S k f (l.setIfInBounds i true) a' w') a w
theorem readyK {rs : List Nat} {f : Nat} {l : Array Bool} {a : Act} {w : World} (hr : Region.ready md ops l = rs) (hne : rs ≠ [])
    (h : AllK P md ops Q S k f l a w rs) : wpAnyK P md ops Q S k (f + 1) l a w :=
  ⟨fun h0 => absurd (hr ▸ h0) hne, hr ▸ h⟩
theorem consA {f : Nat} {l : Array Bool} {a : Act} {w : World} {i : Nat} {o : Oper} {rs : List Nat} (ho : (ops.toList.drop i).head? = some o) (hik : i < k)
    (h : ∀ K' : Act → World → Prop, Shut (∀ a w, S w → (S w → wpAnyK P md ops Q S k f (l.setIfInBounds i true) a w) → K' a w) → if Region.wanted o (yielded ops a.tmps) = true then Oper.wp P o a w K' Q else K' (a.put o.dst undef) w)
    (hs : AllK P md ops Q S k f l a w rs) : AllK P md ops Q S k f l a w (i :: rs) := fun j hj => by
  rcases List.mem_cons.1 hj with rfl | hj
  · exact wpOp_step (get_drop ho) (fun K' hK => h K' (fun a w hS hW => hK a w ⟨fun _ => hS, hW hS⟩))
  · exact hs j hj
theorem consB {f : Nat} {l : Array Bool} {a : Act} {w : World} {i : Nat} {o : Oper} {rs : List Nat} (ho : (ops.toList.drop i).head? = some o) (hik : k ≤ i)
    (h : ∀ K' : Act → World → Prop, Shut (∀ a w, True → (True → wpAnyK P md ops Q S k f (l.setIfInBounds i true) a w) → K' a w) → if Region.wanted o (yielded ops a.tmps) = true then Oper.wp P o a w K' Q else K' (a.put o.dst undef) w)
    (hs : AllK P md ops Q S k f l a w rs) : AllK P md ops Q S k f l a w (i :: rs) := fun j hj => by
  rcases List.mem_cons.1 hj with rfl | hj
  · exact wpOp_step (get_drop ho) (fun K' hK => h K' (fun a w hS hW => hK a w ⟨fun h => absurd h (by omega), hW hS⟩))
  · exact hs j hj
theorem nilK {f : Nat} {l : Array Bool} {a : Act} {w : World} : AllK P md ops Q S k f l a w [] := fun _ h => absurd h (by simp)
theorem doneK {l : Array Bool} {a : Act} {w : World} (hr : Region.ready md ops l = []) (h : Q .normal a w) : ∀ f, wpAnyK P md ops Q S k f l a w
  | 0 => ⟨hr, h⟩
  | _ + 1 => ⟨fun _ => h, by rw [hr]; simp⟩
theorem startK {id : Nat} {a : Act} {w : World} (hm : P.follows .mixedOrders = true) (hS : S w.drew)
    (h : S w.drew → wpAnyK P .any ops Q S k ops.size (Array.replicate ops.size false) a w.drew) : (Code.region id ops true).wp P Q a w :=
  wp_region_any hm (any_of_K _ _ _ _ (h hS))
end
end Go.Proofs.Ytcoakeedgngogaa
