/- Plain numbers: the market of a row, node by node. No conditions but those stated. -/
import Derived.Test.YtcoakeedgngogaaMkt2
import Derived.Test.YtcoakeedgngogaaRow1
namespace Go.Proofs.Ytcoakeedgngogaa

/-- The parent of a node, its weight and its price. -/
def parI (x : Nat) : Int := if x = 0 then -1 else (((x - 1) / 2 : Nat) : Int)
def wtI (m x : Nat) : Int := if 2 * x + 1 ≥ m then 1 else 0
def prI (u d p : Int) (x : Nat) : Int := if h : x = 0 then p else if x % 2 = 1 then prI u d p ((x - 1) / 2) + u else prI u d p ((x - 1) / 2) - d
termination_by x
decreasing_by all_goals omega
theorem pr_zero (u d p : Int) : prI u d p 0 = p := by rw [prI]; rfl
theorem pr_odd (u d p : Int) (x : Nat) : prI u d p (2 * x + 1) = prI u d p x + u := by
  rw [prI, dif_neg (by omega), if_pos (by omega), show (2 * x + 1 - 1) / 2 = x by omega]
theorem pr_even (u d p : Int) (x : Nat) : prI u d p (2 * x + 2) = prI u d p x - d := by
  rw [prI, dif_neg (by omega), if_neg (by omega), show (2 * x + 2 - 1) / 2 = x by omega]
def parL (k : Nat) : List Int := (List.range k).map parI
def wtL (m k : Nat) : List Int := (List.range k).map (wtI m)
def prL (u d p : Int) (k : Nat) : List Int := (List.range k).map (prI u d p)
theorem parL_length (k : Nat) : (parL k).length = k := by simp [parL]
theorem wtL_length (m k : Nat) : (wtL m k).length = k := by simp [wtL]
theorem prL_length (u d p : Int) (k : Nat) : (prL u d p k).length = k := by simp [prL]
theorem parL_succ (k : Nat) : parL (k + 1) = parL k ++ [parI k] := by rw [parL, List.range_succ, List.map_append]; rfl
theorem wtL_succ (m k : Nat) : wtL m (k + 1) = wtL m k ++ [wtI m k] := by rw [wtL, List.range_succ, List.map_append]; rfl
theorem prL_succ (u d p : Int) (k : Nat) : prL u d p (k + 1) = prL u d p k ++ [prI u d p k] := by rw [prL, List.range_succ, List.map_append]; rfl
theorem nth_prL {u d p : Int} {k x : Nat} (h : x < k) : nth (prL u d p k) x = prI u d p x := by rw [prL, nth_map_range h]
/-- The number of nodes of a row of n steps. -/
def nodesN (n : Nat) : Nat := 2 ^ (n + 1) - 1
def inR (u d p : Int) (k : Nat) : Bool := (List.range k).all fun x => inB (prI u d p x) 0 20
def mkOk (n u d p : Int) : Bool := (rowB n u d && decide (n ≤ 3)) && inR u d p (nodesN n.toNat)
theorem mk_no1 {n u d p : Int} (h : rowB n u d = false) : mkOk n u d p = false := by rw [mkOk, h]; rfl
theorem mk_no2 {n u d p : Int} (h : ¬ n ≤ 3) : mkOk n u d p = false := by rw [mkOk, decide_eq_false h]; simp
theorem mk_no3 {n u d p : Int} {x : Nat} (hx : x < nodesN n.toNat) (h : inB (prI u d p x) 0 20 = false) : mkOk n u d p = false := by
  have : inR u d p (nodesN n.toNat) = false := all_f hx h
  rw [mkOk, this, Bool.and_false]
theorem mk_yes {n u d p : Int} (h : rowB n u d = true) (h2 : n ≤ 3) (h3 : ∀ x, x < nodesN n.toNat → inB (prI u d p x) 0 20 = true) : mkOk n u d p = true := by
  have : inR u d p (nodesN n.toNat) = true := all_t h3
  rw [mkOk, h, decide_eq_true h2, this]; rfl
/-- What a row's market reads as. -/
def mkP (n u d p : Int) : List Int := if mkOk n u d p then parL (nodesN n.toNat) else []
def mkW (n u d p : Int) : List Int := if mkOk n u d p then wtL (nodesN n.toNat) (nodesN n.toNat) else []
def mkL (n u d p : Int) : List Int := if mkOk n u d p then prL u d p (nodesN n.toNat) else []
theorem mkV_no {n u d p : Int} (h : mkOk n u d p = false) : mkP n u d p = [] ∧ mkW n u d p = [] ∧ mkL n u d p = [] := by
  unfold mkP mkW mkL; rw [h]; exact ⟨rfl, rfl, rfl⟩
theorem mkV_yes {n u d p : Int} (h : mkOk n u d p = true) : mkP n u d p = parL (nodesN n.toNat) ∧ mkW n u d p = wtL (nodesN n.toNat) (nodesN n.toNat) ∧ mkL n u d p = prL u d p (nodesN n.toNat) := by
  unfold mkP mkW mkL; rw [h]; exact ⟨rfl, rfl, rfl⟩
theorem nodes_le {n : Nat} (h : n ≤ 3) : 1 ≤ nodesN n ∧ nodesN n ≤ 15 ∧ (2 : Int) ^ (n + 1) - 1 = (nodesN n : Int) := by
  match n, h with
  | 0, _ => decide
  | 1, _ => decide
  | 2, _ => decide
  | 3, _ => decide
theorem mk_len (n u d p : Int) : ((mkP n u d p).length ≤ 15 ∧ (mkW n u d p).length ≤ 15) ∧ (mkL n u d p).length ≤ 15 := by
  cases h : mkOk n u d p
  · obtain ⟨h1, h2, h3⟩ := mkV_no h; rw [h1, h2, h3]; simp
  · obtain ⟨h1, h2, h3⟩ := mkV_yes h
    rw [h1, h2, h3, parL_length, wtL_length, prL_length]
    have hn : n ≤ 3 := by simp only [mkOk, Bool.and_eq_true, decide_eq_true_eq] at h; exact h.1.2
    have := nodes_le (n := n.toNat) (by omega)
    omega
/-- The tree is one. -/
theorem mk_tree {n : Nat} (h : n ≤ 3) : treeB (parL (nodesN n)) (wtL (nodesN n) (nodesN n)) = true := by
  match n, h with
  | 0, _ => decide +kernel
  | 1, _ => decide +kernel
  | 2, _ => decide +kernel
  | 3, _ => decide +kernel
end Go.Proofs.Ytcoakeedgngogaa
