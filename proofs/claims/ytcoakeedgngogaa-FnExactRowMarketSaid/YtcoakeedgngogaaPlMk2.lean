/- Plain numbers: the market of a row, level by level. No conditions but those stated. -/
import Derived.Test.YtcoakeedgngogaaPlMk
namespace Go.Proofs.Ytcoakeedgngogaa

def kW (ps : List Int) (x : Nat) : Int := 1 - least ((kids ps x).length : Int) 1
theorem kw_exact {n : Nat} (h : n ≤ 3) : (List.range (nodesN n)).map (kW (parL (nodesN n))) = wtL (nodesN n) (nodesN n) := by
  match n, h with
  | 0, _ => decide +kernel
  | 1, _ => decide +kernel
  | 2, _ => decide +kernel
  | 3, _ => decide +kernel
/-- A price out of its bounds stands in the list, and no market comes of it. -/
def badM (n u d p : Int) (qs : List Int) : Prop := mkOk n u d p = false ∧ ∃ j, j < qs.length ∧ inB (nth qs j) 0 20 = false
theorem bad_app {n u d p : Int} {qs : List Int} (ys : List Int) (h : badM n u d p qs) : badM n u d p (qs ++ ys) := by
  obtain ⟨h1, j, h2, h3⟩ := h
  refine ⟨h1, j, by rw [List.length_append]; omega, ?_⟩
  rwa [nth_append_l h2]
theorem pa_push {ps : List Int} (h : Pa ps) {x : Nat} (hx : x < ps.length) (hl : ps.length + 2 ≤ 24) : Pa (ps ++ [(x : Int), (x : Int)]) := by
  have h1 := h.n1
  refine ⟨by simp, by simp; omega, by rw [nth_append_l (by omega)]; exact h.p0, fun y hy1 hy2 => ?_⟩
  rw [List.length_append] at hy2
  simp only [List.length_cons, List.length_nil] at hy2
  rcases Nat.lt_or_ge y ps.length with g | g
  · rw [nth_append_l g]; exact h.up y hy1 g
  · have : nth (ps ++ [(x : Int), (x : Int)]) y = (x : Int) := by
      unfold nth
      rw [List.getD_eq_getElem?_getD, List.getElem?_append_right g]
      rcases (by omega : y - ps.length = 0 ∨ y - ps.length = 1) with e | e <;> rw [e] <;> rfl
    rw [this]; omega
theorem pa_one : Pa [-1] := ⟨by simp, by simp, rfl, fun x h1 h2 => by simp at h2; omega⟩
theorem bad_mkt {n u d p : Int} {ps ws qs : List Int} (h : badM n u d p qs) : mktB ps ws qs = mkOk n u d p := by
  obtain ⟨h1, j, h2, h3⟩ := h
  rw [h1, mkt_no3 (all_f h2 h3)]
theorem all_same {p q : Nat → Bool} : ∀ {n : Nat}, (∀ x, x < n → p x = q x) → (List.range n).all p = (List.range n).all q
  | 0, _ => rfl
  | n + 1, h => by rw [List.range_succ, List.all_append, List.all_append, all_same fun x hx => h x (by omega)]; simp [h n (by omega)]
theorem ex_mkt {n u d p : Int} {N : Nat} (hn : n = N) (h : rowB n u d = true) (h3 : N ≤ 3) : mktB (parL (nodesN N)) (wtL (nodesN N) (nodesN N)) (prL u d p (nodesN N)) = mkOk n u d p := by
  subst hn
  have hal : allIn (prL u d p (nodesN N)) 0 20 = inR u d p (nodesN N) := by
    unfold allIn inR
    rw [prL_length]
    exact all_same fun x hx => by rw [nth_prL hx]
  rw [mktB, mk_tree h3, prL_length, parL_length, hal, mkOk, h, decide_eq_true (by omega), Int.toNat_natCast]
  simp
theorem par_two (x : Nat) : parL (2 * x + 1 + 2) = parL (2 * x + 1) ++ [(x : Int), (x : Int)] := by
  rw [parL_succ, parL_succ, List.append_assoc]
  have e1 : parI (2 * x + 1) = (x : Int) := by unfold parI; rw [if_neg (by omega)]; congr 1; omega
  have e2 : parI (2 * x + 1 + 1) = (x : Int) := by unfold parI; rw [if_neg (by omega)]; congr 1; omega
  rw [e1, e2]; rfl
theorem pr_two (u d p : Int) (x : Nat) : prL u d p (2 * x + 1 + 2) = prL u d p (2 * x + 1) ++ [prI u d p x + u, prI u d p x - d] := by
  rw [prL_succ, prL_succ, List.append_assoc, pr_odd, show 2 * x + 1 + 1 = 2 * x + 2 by omega, pr_even]; rfl
end Go.Proofs.Ytcoakeedgngogaa
