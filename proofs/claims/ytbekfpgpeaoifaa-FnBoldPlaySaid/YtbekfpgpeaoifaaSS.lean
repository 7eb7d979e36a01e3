/- Small words on slices of slices of ints: one that reads as a list of lists, and one that the call owns with all its rows. -/
import Derived.Test.YtbekfpgpeaoifaaBase
namespace Go.Proofs.Ytbekfpgpeaoifaa
open Go.RowKit

/-- Row i of a list of lists, empty behind its end. -/
def row (xss : List (List Int)) (i : Nat) : List Int := xss.getD i []
/-- Value i of a list of slice values, nil behind its end. -/
def vnth (vs : List Value) (i : Nat) : Value := vs.getD i (.slice none 0 0)
theorem vnth_get? {vs : List Value} {i : Nat} (h : i < vs.length) : vs[i]? = some (vnth vs i) := by simp [vnth, List.getD, h]
theorem vnth_append_l {vs : List Value} {u : Value} {i : Nat} (h : i < vs.length) : vnth (vs ++ [u]) i = vnth vs i := by
  unfold vnth; simp [List.getD, List.getElem?_append, h]
theorem vnth_append_r {vs : List Value} {u : Value} : vnth (vs ++ [u]) vs.length = u := by unfold vnth; simp [List.getD]
theorem row_append_l {xss : List (List Int)} {xs : List Int} {i : Nat} (h : i < xss.length) : row (xss ++ [xs]) i = row xss i := by
  unfold row; simp [List.getD, List.getElem?_append, h]
theorem row_append_r {xss : List (List Int)} {xs : List Int} : row (xss ++ [xs]) xss.length = xs := by unfold row; simp [List.getD]
theorem row_map_range {n i : Nat} {f : Nat → List Int} (h : i < n) : row ((List.range n).map f) i = f i := by
  unfold row; simp [List.getD, h]
theorem row_set {xss : List (List Int)} {xs : List Int} {i j : Nat} (h : i < xss.length) : row (xss.set i xs) j = if i = j then xs else row xss j := by
  unfold row
  by_cases e : i = j
  · subst e; simp [List.getD, h]
  · simp [List.getD, e]
theorem vnth_set {vs : List Value} {u : Value} {i j : Nat} (h : i < vs.length) : vnth (vs.set i u) j = if i = j then u else vnth vs j := by
  unfold vnth
  by_cases e : i = j
  · subst e; simp [List.getD, h]
  · simp [List.getD, e]
theorem ext_row {xss yss : List (List Int)} (hl : xss.length = yss.length) (h : ∀ i, i < xss.length → row xss i = row yss i) : xss = yss := by
  apply List.ext_getElem hl
  intro i h1 h2
  have := h i h1
  simpa [row, List.getD, h1, h2] using this

/-- The slice (a, n) of slices reads as the lists xss. -/
def IntsSS (w : World) (a : Option Addr) (n : Nat) (xss : List (List Int)) : Prop :=
  xss.length = n ∧ (0 < n → ∃ b off, a = some ⟨b, off, none⟩ ∧ b < w.heap.size ∧ ∀ j, j < n → ∃ a' c', w.cell? ⟨b, off + j, none⟩ = some (.slice a' (row xss j).length c') ∧ Ints w a' (row xss j).length (row xss j))
theorem IntsSS.below {w w' : World} {a : Option Addr} {n : Nat} {xss : List (List Int)} (h : IntsSS w a n xss) (hb : Below w.heap.size w w') : IntsSS w' a n xss :=
  ⟨h.1, fun hn => by
    obtain ⟨b, off, rfl, hlt, hc⟩ := h.2 hn
    exact ⟨b, off, rfl, Nat.lt_of_lt_of_le hlt hb.size, fun j hj => by
      obtain ⟨a', c', h1, h2⟩ := hc j hj
      exact ⟨a', c', (hb.cell (p := ⟨b, off + j, none⟩) hlt).trans h1, h2.below hb⟩⟩⟩

/-- The outer slice v owns the cells vs. -/
def OwnV (w : World) (base : Nat) (v : Value) (vs : List Value) : Prop := w.ownsRow base 35 1 v vs.length vs
/-- The call owns the slice v of slices and its rows, which read as the lists xss; no two rows share a block. -/
structure OwnSS (w : World) (base : Nat) (v : Value) (vs : List Value) (xss : List (List Int)) : Prop where
  len : vs.length = xss.length
  outer : OwnV w base v vs
  rows : ∀ i, i < vs.length → Own w base (vnth vs i) (row xss i)
  apart : ∀ i j, i < vs.length → j < vs.length → i ≠ j → (vnth vs i).ownBlock = none ∨ (vnth vs i).ownBlock ≠ (vnth vs j).ownBlock
theorem OwnV.shape {w : World} {base : Nat} {v : Value} {vs : List Value} (h : OwnV w base v vs) : ∃ a cap, v = .slice a vs.length cap := by
  rcases Joins.ownsRow_forms h with ⟨rfl, hn⟩ | ⟨g, cap, rfl⟩
  · exact ⟨none, 0, by rw [hn]⟩
  · exact ⟨_, _, rfl⟩
theorem OwnV.form {w : World} {base : Nat} {v : Value} {vs : List Value} (h : OwnV w base v vs) (hn : 0 < vs.length) : ∃ g cap, v = .slice (some ⟨g, 0, none⟩) vs.length cap ∧ base ≤ g ∧ g < w.heap.size := by
  obtain ⟨g, cap, rfl⟩ := Joins.ownsRow_form h hn
  have := World.ownsRow.lt h g rfl
  exact ⟨g, cap, rfl, this.1, this.2⟩
theorem OwnV.cell {w : World} {base g n cap : Nat} {vs : List Value} (h : OwnV w base (.slice (some ⟨g, 0, none⟩) n cap) vs) {i : Nat} (hi : i < vs.length) : w.cell? ⟨g, i, none⟩ = some (vnth vs i) := by
  obtain ⟨_, _, he, _⟩ := h.form (by omega)
  simp only [Value.slice.injEq] at he
  obtain ⟨_, rfl, _⟩ := he
  rw [World.ownsRow.cellAt h i (by omega), vnth_get? hi]
theorem OwnV.below {w w' : World} {base : Nat} {v : Value} {vs : List Value} (h : OwnV w base v vs) (hb : Below w.heap.size w w') : OwnV w' base v vs :=
  World.ownsRow.kept (row := none) h ⟨hb.os, hb.tape, hb.output, hb.size, fun k hk _ => hb.block k hk⟩ (by cases v.ownBlock <;> simp)
theorem OwnV.grown {w w' : World} {base : Nat} {v : Value} {vs : List Value} {row : Option Nat} (h : OwnV w base v vs) (hb : w.grownBy w' row) (hr : v.ownBlock = none ∨ v.ownBlock ≠ row) : OwnV w' base v vs :=
  World.ownsRow.kept h hb hr
/-- A row of ints and an outer row never share a block. -/
theorem own_ne {w : World} {base base' : Nat} {v u : Value} {vs : List Value} {xs : List Int} (h : OwnV w base v vs) (h' : Own w base' u xs) : u.ownBlock = none ∨ u.ownBlock ≠ v.ownBlock := by
  rcases h.2 with ⟨rfl, _⟩ | ⟨g, cap, cur, rfl, _, hh, _⟩
  · cases hu : u.ownBlock
    · exact .inl rfl
    · exact .inr (by simp [Value.ownBlock])
  · rcases h'.2 with ⟨rfl, _⟩ | ⟨g', cap', cur', rfl, _, hh', _⟩
    · exact .inl rfl
    · refine .inr fun e => ?_
      have : g' = g := by simpa [Value.ownBlock] using e
      subst this
      rw [hh] at hh'
      injection hh' with hh'
      injection hh' with _ ht
      exact absurd ht (by decide)
theorem OwnSS.below {w w' : World} {base : Nat} {v : Value} {vs : List Value} {xss : List (List Int)} (h : OwnSS w base v vs xss) (hb : Below w.heap.size w w') : OwnSS w' base v vs xss :=
  ⟨h.len, h.outer.below hb, fun i hi => (h.rows i hi).below hb, h.apart⟩
theorem OwnSS.mono {w : World} {base base' : Nat} {v : Value} {vs : List Value} {xss : List (List Int)} (h : OwnSS w base v vs xss) (hb : base' ≤ base) : OwnSS w base' v vs xss :=
  ⟨h.len, Joins.ownsRow_le h.outer hb, fun i hi => (h.rows i hi).mono hb, h.apart⟩
theorem OwnSS.ints {w : World} {base : Nat} {a : Option Addr} {n cap : Nat} {vs : List Value} {xss : List (List Int)} (h : OwnSS w base (.slice a n cap) vs xss) : IntsSS w a n xss := by
  obtain ⟨a', cap', he⟩ := h.outer.shape
  simp only [Value.slice.injEq] at he
  obtain ⟨_, hn, _⟩ := he
  refine ⟨by rw [hn, h.len], fun h0 => ?_⟩
  obtain ⟨g, cap'', he, _, hg⟩ := h.outer.form (by omega)
  simp only [Value.slice.injEq] at he
  obtain ⟨rfl, _, _⟩ := he
  refine ⟨g, 0, rfl, hg, fun j hj => ?_⟩
  have hr := h.rows j (by omega)
  obtain ⟨a1, c1, hv⟩ := hr.shape
  refine ⟨a1, c1, ?_, ?_⟩
  · rw [Nat.zero_add, h.outer.cell (by omega), hv]
  · rw [hv] at hr; exact hr.ints
/-- A row more: what append leaves. -/
theorem OwnSS.push {w w' : World} {base : Nat} {v v' u : Value} {vs : List Value} {xss : List (List Int)} {xs : List Int} (h : OwnSS w base v vs xss) (hu : Own w base u xs)
    (hap : ∀ i, i < vs.length → u.ownBlock = none ∨ u.ownBlock ≠ (vnth vs i).ownBlock)
    (ho : OwnV w' base v' (vs ++ [u])) (hg : w.grownBy w' v.ownBlock) : OwnSS w' base v' (vs ++ [u]) (xss ++ [xs]) := by
  have hlen := h.len
  refine ⟨by simp [hlen], ho, fun i hi => ?_, fun i j hi hj hne => ?_⟩
  · by_cases e : i = vs.length
    · subst e
      rw [vnth_append_r, hlen, row_append_r]
      exact hu.grown hg (own_ne h.outer hu)
    · have hi' : i < vs.length := by simp at hi; omega
      rw [vnth_append_l hi', row_append_l (by omega)]
      exact (h.rows i hi').grown hg (own_ne h.outer (h.rows i hi'))
  · by_cases ei : i = vs.length
    · subst ei
      have hj' : j < vs.length := by simp at hj; omega
      rw [vnth_append_r, vnth_append_l hj']
      exact hap j hj'
    · have hi' : i < vs.length := by simp at hi; omega
      rw [vnth_append_l hi']
      by_cases ej : j = vs.length
      · subst ej
        rw [vnth_append_r]
        have := hap i hi'
        cases hb : (vnth vs i).ownBlock
        · exact .inl rfl
        · rw [hb] at this
          rcases this with e | e
          · exact .inr (by rw [e]; simp)
          · exact .inr (fun e' => e e'.symm)
      · have hj' : j < vs.length := by simp at hj; omega
        rw [vnth_append_l hj']
        exact h.apart i j hi' hj' hne
/-- One row put into the outer slice. -/
theorem OwnSS.put {w : World} {base g n cap : Nat} {vs : List Value} {xss : List (List Int)} {u : Value} {xs : List Int} (h : OwnSS w base (.slice (some ⟨g, 0, none⟩) n cap) vs xss) (hn : n = vs.length) (i : Nat) (hi : i < vs.length)
    (hu : Own w base u xs) (hap : ∀ j, j < vs.length → u.ownBlock = none ∨ u.ownBlock ≠ (vnth vs j).ownBlock) :
    OwnSS (w.setCell ⟨g, i, none⟩ u) base (.slice (some ⟨g, 0, none⟩) n cap) (vs.set i u) (xss.set i xs) ∧ w.grownBy (w.setCell ⟨g, i, none⟩ u) (some g) := by
  subst hn
  have hs := World.ownsRow.stored h.outer i u
  have hlen := h.len
  have hg : w.grownBy (w.setCell ⟨g, i, none⟩ u) (some g) := hs.2
  refine ⟨⟨by simp [hlen], ?_, fun j hj => ?_, fun j k hj hk hne => ?_⟩, hg⟩
  · unfold OwnV
    rw [List.length_set]
    exact hs.1
  · rw [vnth_set hi, row_set (by omega)]
    rw [List.length_set] at hj
    by_cases e : i = j
    · rw [if_pos e, if_pos e]; exact hu.grown hg (own_ne h.outer hu)
    · rw [if_neg e, if_neg e]; exact (h.rows j hj).grown hg (own_ne h.outer (h.rows j hj))
  · rw [List.length_set] at hj hk
    rw [vnth_set hi, vnth_set hi]
    by_cases ej : i = j
    · rw [if_pos ej, if_neg (by omega)]; exact hap k hk
    · rw [if_neg ej]
      by_cases ek : i = k
      · rw [if_pos ek]
        have := hap j hj
        cases hb : (vnth vs j).ownBlock
        · exact .inl rfl
        · rw [hb] at this
          rcases this with e | e
          · exact .inr (by rw [e]; simp)
          · exact .inr (fun e' => e e'.symm)
      · rw [if_neg ek]; exact h.apart j k hj hk hne
/-- One row written anew. -/
theorem OwnSS.write {w w' : World} {base : Nat} {v : Value} {vs : List Value} {xss yss : List (List Int)} (h : OwnSS w base v vs xss) (i : Nat) (hi : i < vs.length) (hn : Own w' base (vnth vs i) (row yss i))
    (hg : w.grownBy w' (vnth vs i).ownBlock) (hl : yss.length = xss.length) (hr : ∀ j, j < vs.length → j ≠ i → row yss j = row xss j) : OwnSS w' base v vs yss := by
  refine ⟨by rw [h.len, hl], ?_, fun j hj => ?_, h.apart⟩
  · refine h.outer.grown hg ?_
    have := own_ne h.outer (h.rows i hi)
    cases hb : v.ownBlock
    · exact .inl rfl
    · rw [hb] at this
      rcases this with e | e
      · exact .inr (by rw [e]; simp)
      · exact .inr (fun e' => e e'.symm)
  · by_cases e : j = i
    · subst e; exact hn
    · rw [hr j hj e]; exact (h.rows j hj).grown hg (h.apart j i hj hi e)
/-- The call owns the slice v of slices, which reads as the lists xss. -/
def HasSS (w : World) (base : Nat) (v : Value) (xss : List (List Int)) : Prop := ∃ vs, OwnSS w base v vs xss
theorem HasSS.below {w w' : World} {base : Nat} {v : Value} {xss : List (List Int)} (h : HasSS w base v xss) (hb : Below w.heap.size w w') : HasSS w' base v xss := let ⟨vs, h⟩ := h; ⟨vs, h.below hb⟩
theorem HasSS.mono {w : World} {base base' : Nat} {v : Value} {xss : List (List Int)} (h : HasSS w base v xss) (hb : base' ≤ base) : HasSS w base' v xss := let ⟨vs, h⟩ := h; ⟨vs, h.mono hb⟩
theorem HasSS.shape {w : World} {base : Nat} {v : Value} {xss : List (List Int)} (h : HasSS w base v xss) : ∃ a cap, v = .slice a xss.length cap := by
  obtain ⟨vs, h⟩ := h
  obtain ⟨a, cap, hv⟩ := h.outer.shape
  exact ⟨a, cap, by rw [hv, h.len]⟩
theorem HasSS.ints {w : World} {base : Nat} {a : Option Addr} {n cap : Nat} {xss : List (List Int)} (h : HasSS w base (.slice a n cap) xss) : IntsSS w a n xss := let ⟨_, h⟩ := h; h.ints
theorem HasSS.nil (w : World) (base : Nat) : HasSS w base (.slice none 0 0) [] :=
  ⟨[], rfl, World.ownsRow_nil w base 35 1, fun i hi => by simp at hi, fun i j hi => by simp at hi⟩
theorem info_ints : (Try.prog.info? 35).map (fun i => (i.zero, i.size, i.bytes)) = some (some (.slice none 0 0), 1, 24) := by kernel_rfl
/-- 'append(xss, xs)' onto a slice of slices that the call owns. -/
theorem wp_appV {ops : Array Oper} {rest : List Oper} {o : Oper} {a : Act} {Q : Exit → Act → World → Prop} {w : World} (s x : Operand)
    (hgd : o.guard = none) (ho : o.op = .call { callee := .builtin .append, args := #[s, x], argTypes := #[26, 26] })
    (base : Nat) (v : Value) (vs : List Value) (u : Value) (hu : u.oneCell' = true) (hs : a.eval s = v) (hown : OwnV w base v vs) (g : Nat) (hx : a.eval x = .slice (some ⟨g, 0, none⟩) 1 1) (hc : w.cell? ⟨g, 0, none⟩ = some u)
    (hl : vs.length ≤ 4294967296) (hb : base ≤ w.heap.size)
    (h : ∀ v' w', OwnV w' base v' (vs ++ [u]) → w.grownBy w' v.ownBlock → wpList Try.prog ops Q rest (a.put o.dst v') w') : wpList Try.prog ops Q (o :: rest) a w := by
  obtain ⟨i0, hi0, hz0, hz1, hz2⟩ := info_parts info_ints
  refine wpList_append_own w hgd s x 26 ho base 35 i0 (.slice none 0 0) 1 24 Try.underlying26 hi0 hz0 hz1 hz2 rfl (by decide) v vs.length vs hs hown ⟨g, 0, none⟩ 1 1 [u] hx rfl ?_ ?_ ?_ ?_ hb ?_
  · intro j y hy
    cases j with
    | zero => simp at hy; subst hy; simpa [Addr.add] using hc
    | succ j => simp at hy
  · intro y hy; simp at hy; subst hy; exact hu
  · simp only [maxLen]; omega
  · omega
  · intro v' w' h1 h2 _
    refine h v' w' ?_ h2
    unfold OwnV
    rw [List.length_append]
    exact h1
end Go.Proofs.Ytbekfpgpeaoifaa
