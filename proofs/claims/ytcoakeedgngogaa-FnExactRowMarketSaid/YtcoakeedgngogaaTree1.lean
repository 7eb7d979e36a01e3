/- Contracts on trees: which nodes are ends. -/
import Derived.Test.YtcoakeedgngogaaPlTree
import Derived.Test.YtcoakeedgngogaaBo
namespace Go.Proofs.Ytcoakeedgngogaa
open Go.RowKit

/-- A tree's two slices read as parents and weights. -/
structure Tre (w : World) (aP : Option Addr) (nP cP : Nat) (aW : Option Addr) (nW cW : Nat) (ps ws : List Int) : Prop where
  p : Ints w aP nP ps
  w : Ints w aW nW ws
  pn : nP ≤ 1048576
  wn : nW ≤ 1048576
  pc : aP = none → cP = 0
  wc : aW = none → cW = 0
theorem Tre.below {w w' : World} {aP : Option Addr} {nP cP : Nat} {aW : Option Addr} {nW cW : Nat} {ps ws : List Int} (h : Tre w aP nP cP aW nW cW ps ws) (hb : Below w.heap.size w w') : Tre w' aP nP cP aW nW cW ps ws :=
  ⟨h.p.below hb, h.w.below hb, h.pn, h.wn, h.pc, h.wc⟩
theorem Pair.far {w : World} {g : Nat} {x y : Value} (h : Pair w g x y) {b i : Nat} (hne : b ≠ g) (u : Value) : Pair (w.setCell ⟨b, i, none⟩ u) g x y :=
  ⟨by rw [World.cell?_setCell_other _ _ _ _ (by simp)]; exact h.c0, by rw [World.cell?_setCell_other _ _ _ _ (by simp [hne])]; exact h.c1, by simpa using h.f0, by simpa using h.f1⟩
theorem Pair.up {w w' : World} {g base : Nat} {x y : Value} (h : Pair w g x y) (hb : Below base w w') (hg : g < base) : Pair w' g x y :=
  ⟨(hb.cell (p := ⟨g, 0, none⟩) hg).trans h.c0, (hb.cell (p := ⟨g, 1, none⟩) hg).trans h.c1, (hb.frozen (p := ⟨g, 0, none⟩) hg).trans h.f0, (hb.frozen (p := ⟨g, 1, none⟩) hg).trans h.f1⟩
/-- For each node, whether it is an end. -/
def endsB (ps : List Int) : List Bool := (List.range ps.length).map (endB ps)
theorem endsB_length (ps : List Int) : (endsB ps).length = ps.length := by simp [endsB]
theorem nth_endsB {ps : List Int} {x : Nat} (h : x < ps.length) : Bo.nth (endsB ps) x = endB ps x := by rw [endsB, Bo.nth_map_range h]
/-- Has none of the first i nodes the parent x? -/
def freeB (ps : List Int) (i x : Nat) : Bool := (List.range i).all fun y => !(nth ps y == (x : Int))
def freeL (ps : List Int) (n i : Nat) : List Bool := (List.range n).map (freeB ps i)
def trueL (n i : Nat) : List Bool := (List.range n).map fun x => decide (x < i)
theorem freeL_length (ps : List Int) (n i : Nat) : (freeL ps n i).length = n := by simp [freeL]
theorem trueL_length (n i : Nat) : (trueL n i).length = n := by simp [trueL]
theorem trueL_zero (n : Nat) : List.replicate n false = trueL n 0 := Bo.ext_nth (by simp [trueL]) fun i hi => by
  rw [List.length_replicate] at hi
  rw [Bo.nth_replicate, trueL, Bo.nth_map_range hi]; simp
theorem trueL_succ {n i : Nat} (h : i < n) : trueL n (i + 1) = (trueL n i).set i true := Bo.ext_nth (by simp [trueL]) fun j hj => by
  rw [trueL_length] at hj
  rw [Bo.nth_set (by rw [trueL_length]; exact h), trueL, trueL, Bo.nth_map_range hj, Bo.nth_map_range hj]
  by_cases e : i = j
  · subst e; simp
  · rw [if_neg e]
    simp only [decide_eq_decide]; omega
theorem trueL_all (ps : List Int) (n : Nat) : trueL n n = freeL ps n 0 := Bo.ext_nth (by simp [trueL, freeL]) fun j hj => by
  rw [trueL_length] at hj
  rw [trueL, freeL, Bo.nth_map_range hj, Bo.nth_map_range hj]
  simp [freeB, hj]
theorem freeB_succ (ps : List Int) (i x : Nat) : freeB ps (i + 1) x = (freeB ps i x && !(nth ps i == (x : Int))) := by
  simp [freeB, List.range_succ, List.all_append]
theorem freeL_skip {ps : List Int} {n i : Nat} (h : nth ps i < 0) : freeL ps n (i + 1) = freeL ps n i := Bo.ext_nth (by simp [freeL]) fun j hj => by
  rw [freeL_length] at hj
  rw [freeL, freeL, Bo.nth_map_range hj, Bo.nth_map_range hj, freeB_succ]
  have : (nth ps i == (j : Int)) = false := by rw [beq_eq_false_iff_ne]; omega
  rw [this]; simp
theorem freeL_set {ps : List Int} {n i p : Nat} (h : nth ps i = p) (hp : p < n) : freeL ps n (i + 1) = (freeL ps n i).set p false := Bo.ext_nth (by simp [freeL]) fun j hj => by
  rw [freeL_length] at hj
  rw [Bo.nth_set (by rw [freeL_length]; exact hp), freeL, freeL, Bo.nth_map_range hj, Bo.nth_map_range hj, freeB_succ, h]
  by_cases e : p = j
  · subst e; simp
  · have : ((p : Int) == (j : Int)) = false := by rw [beq_eq_false_iff_ne]; omega
    rw [this, if_neg e]; simp
theorem freeL_all (ps : List Int) : freeL ps ps.length ps.length = endsB ps := rfl
set_option maxRecDepth 100000 in
set_option maxHeartbeats 1000000 in
theorem impl_isEnd (aP : Option Addr) (nP cP : Nat) (aW : Option Addr) (nW cW : Nat) (ps ws : List Int) (w : World) (h : Tre w aP nP cP aW nW cW ps ws) (hp : Pa ps) :
    Calls Try.prog 73 #[.agg #[.slice aP nP cP, .slice aW nW cW]] w fun e w' => ∃ v, e = .returned v ∧ Bo.Own w' w.heap.size v (endsB ps) ∧ Below w.heap.size w w' := by
  have hl := h.p.1
  have hn24 := hp.n24
  have hn1 := hp.n1
  have hmk := Bo.mk_bools nP (by have := h.pn; omega)
  have hb1 := below_new w (.cells #[.slice aP nP cP, .slice aW nW cW] 33)
  have hP1 := Lib.hid (Pair.new w (.slice aP nP cP) (.slice aW nW cW) 33)
  have h0 : Bo.Own ((w.alloc (.cells #[.slice aP nP cP, .slice aW nW cW] 33)).alloc (.cells (Bo.zv nP) 4)) (w.heap.size + 1) (.slice (some ⟨w.heap.size + 1, 0, none⟩) nP nP) (trueL nP 0) := by
    rw [← trueL_zero]
    have := Bo.Own.zeros (w.alloc (.cells #[.slice aP nP cP, .slice aW nW cW] 33)) (w.heap.size + 1) nP (by simp) (by have : maxLen = 9223372036854775807 := rfl; omega)
    simpa using this
  have H0 := Lib.hid h0
  have H := Lib.hid h
  have Hp := Lib.hid hp
  have Hl := Lib.hid hl
  have hnP : 1 ≤ nP ∧ nP ≤ 24 := by omega
  clear h hp hl h0 hn24 hn1
  go_enter Try.func73, Try.ntmps73
  go_wp2_with fail
  have hb2 : Below w.heap.size w ((w.alloc (.cells #[.slice aP nP cP, .slice aW nW cW] 33)).alloc (.cells (Bo.zv nP) 4)) := hb1.alloc (by simp) _
  have hP2 := Lib.hid (hP1.out.alloc (.cells (Bo.zv nP) 4))
  generalize ((w.alloc (.cells #[.slice aP nP cP, .slice aW nW cW] 33)).alloc (.cells (Bo.zv nP) 4)) = w2 at *
  clear hmk hP1 hb1
  go_loopw [13] (fun v13 wr => ∃ i : Nat, i ≤ nP ∧ v13 = .int .i64 (i : Int) ∧ Bo.Own wr (w.heap.size + 1) (.slice (some ⟨w.heap.size + 1, 0, none⟩) nP nP) (trueL nP i) ∧ Pair wr w.heap.size (.slice aP nP cP) (.slice aW nW cW) ∧ Below w.heap.size w wr) (fun v13 _ => nP - (intOf v13).toNat)
  case atStart => exact ⟨0, Nat.zero_le _, rfl, H0.out, hP2.out, hb2⟩
  case round =>
    obtain ⟨i, hi, rfl, hown, hP, hbel⟩ := hrel
    clear hP2 hb2 H0
    by_cases hlt : (i : Int) < nP
    · have hc := hown.cell (i := i) (by rw [trueL_length]; omega)
      have hf := hown.free (by rw [trueL_length]) i
      have hs := Lib.hid (hown.set (by rw [trueL_length]) i true)
      have HP := Lib.hid (hP.far (i := i) (show w.heap.size + 1 ≠ w.heap.size by omega) (.bool true))
      clear hown hP
      go_wp2_with fail
      go_roundw
      case rel => exact ⟨i + 1, by omega, by go_num, by rw [trueL_succ (by omega)]; exact hs.out, HP.out, hbel.setCell (by simp) _⟩
      case measure => simp [intOf]; omega
    · obtain rfl : i = nP := by omega
      rw [trueL_all ps] at hown
      have Hown := Lib.hid hown
      have HPx := Lib.hid hP
      have c0 := hP.c0
      clear hown hP
      go_wp2_with fail
      go_loopw [23] (fun v23 wr => ∃ k : Nat, k ≤ i ∧ v23 = .int .i64 (k : Int) ∧ Bo.Own wr (w.heap.size + 1) (.slice (some ⟨w.heap.size + 1, 0, none⟩) i i) (freeL ps i k) ∧ Below w.heap.size w wr) (fun v23 _ => i - (intOf v23).toNat)
      case atStart => exact ⟨0, Nat.zero_le _, rfl, Hown.out, hbel⟩
      case round =>
        clear hbel c0
        obtain ⟨k, hk, rfl, hown, hbel⟩ := hrel
        by_cases hlt : (k : Int) < i
        · obtain ⟨b, off, rfl, hc⟩ := H.out.p.at (i := k) hbel (by omega)
          by_cases hneg : nth ps k < 0
          · have hsk := freeL_skip (n := i) hneg
            have hge : ¬ (nth ps k ≥ 0) := by omega
            generalize nth ps k = p at *
            have Hsk := Lib.hid hsk
            clear hsk
            go_wp2_with fail
            go_roundw
            case rel => exact ⟨k + 1, by omega, by go_num, by rw [Hsk.out]; exact hown, hbel⟩
            case measure => simp [intOf]; omega
          · have hk0 : ¬ k = 0 := by
              intro e; subst e; rw [Hp.out.p0] at hneg; omega
            have hup := Hp.out.upN (x := k) (by omega) (by have := Hl.out; omega)
            have hset := freeL_set (n := i) hup.1 (by have := hup.2; omega)
            rw [hup.1] at hc hneg
            have hup2 := hup.2
            have hge : (0 : Int) ≤ (par ps k : Int) := by omega
            clear hup
            generalize par ps k = p at *
            have hc2 := hown.cell (i := p) (by rw [freeL_length]; omega)
            have hf2 := hown.free (by rw [freeL_length]) p
            have hs := Lib.hid (hown.set (by rw [freeL_length]) p false)
            have Hset := Lib.hid hset
            clear hset hown
            go_wp2_with fail
            go_roundw
            case rel => exact ⟨k + 1, by omega, by go_num, by rw [Hset.out]; exact hs.out, hbel.setCell (by simp) _⟩
            case measure => simp [intOf]; omega
        · obtain rfl : k = i := by omega
          have hfin : freeL ps k k = endsB ps := by rw [← Hl.out]; exact freeL_all ps
          rw [hfin] at hown
          go_wp2_with fail
          go_ret
          exact ⟨_, rfl, hown.mono (by omega), hbel⟩
end Go.Proofs.Ytcoakeedgngogaa
