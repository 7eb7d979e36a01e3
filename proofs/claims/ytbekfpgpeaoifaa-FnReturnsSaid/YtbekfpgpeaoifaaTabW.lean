/- Words for a table of ints (a slice of rows, all of one length) that the call owns: read and written at a place. No conditions but those stated. -/
import Derived.Test.YtbekfpgpeaoifaaSS
import Derived.Test.YtbekfpgpeaoifaaB2
namespace Go.Proofs.Ytbekfpgpeaoifaa
open Go.RowKit

/-- The table of a function of row and column. -/
def tabF (nr nc : Nat) (G : Nat → Nat → Int) : List (List Int) := (List.range nr).map fun i => (List.range nc).map fun j => G i j
theorem tabF_length (nr nc : Nat) (G : Nat → Nat → Int) : (tabF nr nc G).length = nr := by simp [tabF]
theorem tabF_row {nr nc i : Nat} {G : Nat → Nat → Int} (h : i < nr) : row (tabF nr nc G) i = (List.range nc).map fun j => G i j := row_map_range h
def TabW (w : World) (base : Nat) (v : Value) (nr nc : Nat) (G : Nat → Nat → Int) : Prop := ∃ vs, OwnSS w base v vs (tabF nr nc G)
def put2 (G : Nat → Nat → Int) (i0 j0 : Nat) (u : Int) : Nat → Nat → Int := fun i j => if i = i0 ∧ j = j0 then u else G i j
theorem TabW.below {w w' : World} {base : Nat} {v : Value} {nr nc : Nat} {G : Nat → Nat → Int} (h : TabW w base v nr nc G) (hb : Below w.heap.size w w') : TabW w' base v nr nc G := let ⟨vs, h⟩ := h; ⟨vs, h.below hb⟩
theorem TabW.mono {w : World} {base base' : Nat} {v : Value} {nr nc : Nat} {G : Nat → Nat → Int} (h : TabW w base v nr nc G) (hb : base' ≤ base) : TabW w base' v nr nc G := let ⟨vs, h⟩ := h; ⟨vs, h.mono hb⟩
theorem TabW.same {w : World} {base : Nat} {v : Value} {nr nc : Nat} {G G' : Nat → Nat → Int} (h : TabW w base v nr nc G) (hG : ∀ i j, i < nr → j < nc → G' i j = G i j) : TabW w base v nr nc G' := by
  have : tabF nr nc G' = tabF nr nc G := by
    unfold tabF
    refine List.map_congr_left fun i hi => List.map_congr_left fun j hj => ?_
    exact hG i j (List.mem_range.1 hi) (List.mem_range.1 hj)
  obtain ⟨vs, h⟩ := h
  exact ⟨vs, by rw [this]; exact h⟩
theorem TabW.form {w : World} {base : Nat} {v : Value} {nr nc : Nat} {G : Nat → Nat → Int} (h : TabW w base v nr nc G) (hn : 0 < nr) : ∃ g cap, v = .slice (some ⟨g, 0, none⟩) nr cap ∧ base ≤ g ∧ g < w.heap.size := by
  obtain ⟨vs, h⟩ := h
  have hlen := h.len
  rw [tabF_length] at hlen
  have := h.outer.form (by omega)
  rwa [hlen] at this
theorem TabW.open {w : World} {base g cap nr nc : Nat} {G : Nat → Nat → Int} (h : TabW w base (.slice (some ⟨g, 0, none⟩) nr cap) nr nc G) {i : Nat} (hi : i < nr) (hc : 0 < nc) :
    ∃ gi ci, base ≤ gi ∧ gi < w.heap.size ∧ w.cell? ⟨g, i, none⟩ = some (.slice (some ⟨gi, 0, none⟩) nc ci) ∧ (∀ j, j < nc → w.cell? ⟨gi, j, none⟩ = some (.int .i64 (G i j))) ∧ (∀ j, w.frozen? ⟨gi, j, none⟩ = false) ∧
      ∀ j u, j < nc → TabW (w.setCell ⟨gi, j, none⟩ (.int .i64 u)) base (.slice (some ⟨g, 0, none⟩) nr cap) nr nc (put2 G i j u) := by
  obtain ⟨vs, h⟩ := h
  have hlen := h.len
  rw [tabF_length] at hlen
  have hcell := h.outer.cell (i := i) (by omega)
  have hrow := h.rows i (by omega)
  rw [tabF_row hi] at hrow
  obtain ⟨gi, ci, hv, hb, hs⟩ := hrow.form (by simpa using hc)
  simp only [List.length_map, List.length_range] at hv
  have hvn : Own w base (.slice (some ⟨gi, 0, none⟩) nc ci) ((List.range nc).map fun j => G i j) := by rw [← hv]; exact hrow
  refine ⟨gi, ci, hb, hs, by rw [hcell, hv], fun j hj => ?_, fun j => hvn.free (by simp) j, fun j u hj => ⟨vs, ?_⟩⟩
  · have := hvn.cell (i := j) (by simpa using hj)
    rwa [nth_map_range hj] at this
  · have hset := hvn.set (by simp) j u
    refine h.write i (by omega) ?_ ?_ (by rw [tabF_length, tabF_length]) (fun q hq hne => ?_)
    · rw [tabF_row hi, hv]
      have e : ((List.range nc).map fun j' => put2 G i j u i j') = ((List.range nc).map fun j => G i j).set j u := by
        refine ext_nth (by simp) fun q hq => ?_
        have hq' : q < nc := by simpa using hq
        rw [nth_map_range hq', nth_set (by simpa using hj), nth_map_range hq']
        unfold put2
        by_cases e : j = q
        · subst e; simp
        · rw [if_neg e, if_neg (by omega)]
      rw [e]
      exact hset
    · rw [hv]
      exact ⟨rfl, rfl, rfl, by simp, fun b hb hne => Below.heap_setCell _ _ _ b (fun e => hne (by rw [e]; rfl))⟩
    · rw [tabF_row (by omega), tabF_row (by omega)]
      refine List.map_congr_left fun j' _ => ?_
      unfold put2
      rw [if_neg (by omega)]
end Go.Proofs.Ytbekfpgpeaoifaa
